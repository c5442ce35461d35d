/- Functions of the program, and what they give: part 7. -/
import Derived.Test.YtmpoojncffgjoaaGreatDoorPK6
namespace Go.Proofs.YtmpoojncffgjoaaGreatDoor
open Go Go.RowKit
set_option maxRecDepth 4000
set_option maxHeartbeats 4000000

def tb68_6 : List (Nat × Nat × Nat) := [(0, 131072, 32), (0, 262144, 8), (2, 524288, 262144), (1, 0, 131073), (15, 0, 524290)]
def tb9_2 : List (Nat × Nat × Nat) := [(0, 32768, 512), (1, 65536, 32768), (0, 131072, 512), (4, 262144, 131072), (0, 524288, 256), (3, 0, 65600), (47, 0, 262272), (127, 256, 524288)]
theorem body38 : bodyB Tryz.prog 38 = true := by kernel_rfl
theorem body39 : bodyB Tryz.prog 39 = true := by kernel_rfl
theorem body68 : bodyB Tryz.prog 68 = true := by kernel_rfl
def minority_Line_p (n : Nat) (a0 : TRoll) (a1 : Int) (a2 : Int) : Option (TShare × TShare × Int) :=
  (minority_Line_1_p n a0 a1 a2).bind fun y0 => exc y0 (fun y1 => some (y1.fslope, y1.fbase, (0 : Int))) (fun e0 => some ((⟨((0 : UInt64), (0 : UInt64), (0 : UInt64), (0 : UInt64), (0 : UInt64), (0 : UInt64), (0 : UInt64), (0 : UInt64)), ((0 : UInt64), (0 : UInt64), (0 : UInt64), (0 : UInt64), (0 : UInt64), (0 : UInt64), (0 : UInt64), (0 : UInt64))⟩ : TShare), (⟨((0 : UInt64), (0 : UInt64), (0 : UInt64), (0 : UInt64), (0 : UInt64), (0 : UInt64), (0 : UInt64), (0 : UInt64)), ((0 : UInt64), (0 : UInt64), (0 : UInt64), (0 : UInt64), (0 : UInt64), (0 : UInt64), (0 : UInt64), (0 : UInt64))⟩ : TShare), e0.fErrno))
theorem minority_Line_c (n : Nat) (L : List Nat) (w : World) (hL : ∀ b ∈ L, b < w.heap.size) (a0 : TRoll) {v0_3 : Value} (h0_3 : Rep.R w L [v0_3] a0.fUnits) (a1 : Int) (a2 : Int)  {r : TShare × TShare × Int} (h : minority_Line_p n a0 a1 a2 = some r) :
    Calls Tryz.prog 9 #[.agg #[vI a0.fGroups, vI a0.fParties, vI a0.fLevels, v0_3], vI a1, vI a2] w (Gives w fun _ u => u = .tuple #[.agg ((cs_TShare r.1)).toArray, .agg ((cs_TShare r.2.1)).toArray, vI r.2.2]) := by
 unfold minority_Line_p at h
 have hS0 := St.start w
 refine MX.start Tryz.func9 rfl rfl rfl (fun _ cs0 hb0 => ?_)
 refine MX.sr <| RG.new .plain rfl (Does.box (vs := [vI a0.fGroups, vI a0.fParties, vI a0.fLevels, v0_3]) hS0 rfl rfl) (fun w2 b5 hS3 hT4 => ?_)
 refine RG.new .plain rfl (Does.box (vs := [vI a1]) hS3 rfl rfl) (fun w7 b0 hS8 hT9 => ?_)
 refine RG.new .plain rfl (Does.box (vs := [vI a2]) hS8 rfl rfl) (fun w0 b1 hS1 hT0 => ?_)
 refine RG.new .plain rfl (Does.alloc (zs := [.int .u64 0, .int .u64 0, .int .u64 0, .int .u64 0, .int .u64 0, .int .u64 0, .int .u64 0, .int .u64 0, .int .u64 0, .int .u64 0, .int .u64 0, .int .u64 0, .int .u64 0, .int .u64 0, .int .u64 0, .int .u64 0]) hS1 (zB (by kernel_rfl))) (fun w1 b2 hS2 hT1 => ?_)
 refine RG.new .plain rfl (Does.alloc (zs := [.int .u64 0, .int .u64 0, .int .u64 0, .int .u64 0, .int .u64 0, .int .u64 0, .int .u64 0, .int .u64 0, .int .u64 0, .int .u64 0, .int .u64 0, .int .u64 0, .int .u64 0, .int .u64 0, .int .u64 0, .int .u64 0]) hS2 (zB (by kernel_rfl))) (fun w3 b3 hS4 hT2 => ?_)
 refine RG.so rfl <| RG.nil <| MX.sr <| RG.va (FV.makeFunc (vs := []) (us := [vP b5, vP b0, vP b1]) evs_nil (e3 rfl rfl rfl)) <| RG.enterP (fst := []) (cap := []) (vs := [.func (.func 39) #[] #[vP b5, vP b0, vP b1]]) .plain body38 Tryz.func38 rfl rfl rfl rfl (e1 rfl) rfl (fun cs1 hb1 hp0 => ?_)
 refine MX.sr <| RG.new .plain rfl (Does.alloc (zs := [.int .u64 0, .int .u64 0, .int .u64 0, .int .u64 0, .int .u64 0, .int .u64 0, .int .u64 0, .int .u64 0, .int .u64 0, .int .u64 0, .int .u64 0, .int .u64 0, .int .u64 0, .int .u64 0, .int .u64 0, .int .u64 0, .int .u64 0, .int .u64 0, .int .u64 0, .int .u64 0, .int .u64 0, .int .u64 0, .int .u64 0, .int .u64 0, .int .u64 0, .int .u64 0, .int .u64 0, .int .u64 0, .int .u64 0, .int .u64 0, .int .u64 0, .int .u64 0]) hS4 (zB (by kernel_rfl))) (fun w4 b4 hS5 hT3 => ?_)
 refine RG.new .plain rfl (Does.alloc (zs := [vI 0]) hS5 (zB (by kernel_rfl))) (fun w5 b6 hS6 hT5 => ?_)
 refine RG.nil <| MX.sr <| RG.va (FV.makeFunc (vs := []) (us := [vP b4, vP b6]) evs_nil (e2 rfl rfl)) <| RG.defer (fst := []) (cap := [vP b4, vP b6]) (vs := []) rfl .plain rfl evs_nil <| RG.nil <| MX.sr ?_
 refine RG.mo rfl ?_
 obtain ⟨y0, hy0, h⟩ := bind_in h
 rcases y0 with e0 | y1
 have h := exc_e h
 try dsimp only at h
 refine RG.callE (fst := []) (cap := [vP b5, vP b0, vP b1]) .plain body39 rfl evs_nil (fun w9 hw9 => minority_Line_1_c n _ w9 (hS6.hL0 hL hw9) a0 (hS6.k0 h0_3 hw9) (fun j9 v9 h9 => hw9.cell0 ((hS6.memA (.tl (.tl (.tl (.tl (.tl (.tl .hd))))))) j9 v9 h9)) a1 (fun j9 v9 h9 => hw9.cell0 ((hS6.memA (.tl (.tl (.tl (.tl (.tl .hd)))))) j9 v9 h9)) a2 (fun j9 v9 h9 => hw9.cell0 ((hS6.memA (.tl (.tl (.tl (.tl .hd))))) j9 v9 h9)) hy0) (fun w6 hag0 => ?_)
 obtain ⟨hS7, hT6⟩ := hS6.agr hag0
 refine PN.callD (vs := []) (cap := [vP b4, vP b6]) body68 Tryz.func68 rfl rfl rfl (fun c0 hc0 hk0 => ?_)
 refine MX.sr <| RG.recover1 .plain hc0 rfl <| RG.so rfl <| RG.nil <| MX.sr <| RG.mo rfl ?_
 refine RG.va (FV.neqI Tryz.underlying20 rfl rfl) <| RG.nil <| MX.cond_t rfl <| MX.sr <| RG.mo rfl <| RG.va (FV.assertT (by kernel_rfl) rfl) ?_
 refine RG.mo rfl <| RG.va (FV.extract rfl rfl) <| RG.va (FV.extract rfl rfl) <| RG.new .plain rfl (Does.alloc (zs := [vI 0]) hS7 (zB (by kernel_rfl))) (fun w8 b7 hS9 hT7 => ?_)
 refine RG.now .plain (Acts.storeAll (news := [vI e0.fErrno]) hS9 .hd rfl rfl rfl rfl rfl rfl (o1 rfl)) (fun w54 hS55 hT8 => ?_)
 refine RG.so rfl <| RG.nil <| MX.seq <| MX.sr <| RG.mo rfl <| RG.va (FV.not rfl) ?_
 refine RG.nil <| MX.cond_f rfl <| MX.skip <| MX.sr <| RG.new .plain rfl (Does.alloc (zs := [.int .u64 0, .int .u64 0, .int .u64 0, .int .u64 0, .int .u64 0, .int .u64 0, .int .u64 0, .int .u64 0, .int .u64 0, .int .u64 0, .int .u64 0, .int .u64 0, .int .u64 0, .int .u64 0, .int .u64 0, .int .u64 0, .int .u64 0, .int .u64 0, .int .u64 0, .int .u64 0, .int .u64 0, .int .u64 0, .int .u64 0, .int .u64 0, .int .u64 0, .int .u64 0, .int .u64 0, .int .u64 0, .int .u64 0, .int .u64 0, .int .u64 0, .int .u64 0]) hS55 (zB (by kernel_rfl))) (fun w58 b8 hS59 hT60 => ?_)
 refine RG.nil <| MX.drawT 3 tb68_6 (by kernel_rfl) (by kernel_rfl) (by kernel_rfl) (fun kt0 kp0 => ?_)
 refine RD.vx 0 1 24 kt0 rfl kp0 (FV.lN rfl (hS59.memA .hd)) rfl <| RD.vw 1 3 kt0 rfl kp0 (fun _ => FV.fa 0 rfl) rfl <| RD.meet (α := Unit) (fun () => [(1, vP b6), (19, vI e0.fErrno)]) (fun () wx0 => St w wx0 [.cells b6 [vI 0] 32, .cells b4 [.int .u64 0, .int .u64 0, .int .u64 0, .int .u64 0, .int .u64 0, .int .u64 0, .int .u64 0, .int .u64 0, .int .u64 0, .int .u64 0, .int .u64 0, .int .u64 0, .int .u64 0, .int .u64 0, .int .u64 0, .int .u64 0, .int .u64 0, .int .u64 0, .int .u64 0, .int .u64 0, .int .u64 0, .int .u64 0, .int .u64 0, .int .u64 0, .int .u64 0, .int .u64 0, .int .u64 0, .int .u64 0, .int .u64 0, .int .u64 0, .int .u64 0, .int .u64 0] 81, .cells b3 [.int .u64 0, .int .u64 0, .int .u64 0, .int .u64 0, .int .u64 0, .int .u64 0, .int .u64 0, .int .u64 0, .int .u64 0, .int .u64 0, .int .u64 0, .int .u64 0, .int .u64 0, .int .u64 0, .int .u64 0, .int .u64 0] 39, .cells b2 [.int .u64 0, .int .u64 0, .int .u64 0, .int .u64 0, .int .u64 0, .int .u64 0, .int .u64 0, .int .u64 0, .int .u64 0, .int .u64 0, .int .u64 0, .int .u64 0, .int .u64 0, .int .u64 0, .int .u64 0, .int .u64 0] 39, .cells b1 [vI a2] 3, .cells b0 [vI a1] 3, .cells b5 [vI a0.fGroups, vI a0.fParties, vI a0.fLevels, v0_3] 25] ∧ Tr w58 [.cells b8 [.int .u64 0, .int .u64 0, .int .u64 0, .int .u64 0, .int .u64 0, .int .u64 0, .int .u64 0, .int .u64 0, .int .u64 0, .int .u64 0, .int .u64 0, .int .u64 0, .int .u64 0, .int .u64 0, .int .u64 0, .int .u64 0, .int .u64 0, .int .u64 0, .int .u64 0, .int .u64 0, .int .u64 0, .int .u64 0, .int .u64 0, .int .u64 0, .int .u64 0, .int .u64 0, .int .u64 0, .int .u64 0, .int .u64 0, .int .u64 0, .int .u64 0, .int .u64 0] 81, .cells b7 [vI e0.fErrno] 93, .cells b6 [vI 0] 32, .cells b4 [.int .u64 0, .int .u64 0, .int .u64 0, .int .u64 0, .int .u64 0, .int .u64 0, .int .u64 0, .int .u64 0, .int .u64 0, .int .u64 0, .int .u64 0, .int .u64 0, .int .u64 0, .int .u64 0, .int .u64 0, .int .u64 0, .int .u64 0, .int .u64 0, .int .u64 0, .int .u64 0, .int .u64 0, .int .u64 0, .int .u64 0, .int .u64 0, .int .u64 0, .int .u64 0, .int .u64 0, .int .u64 0, .int .u64 0, .int .u64 0, .int .u64 0, .int .u64 0] 81, .cells b3 [.int .u64 0, .int .u64 0, .int .u64 0, .int .u64 0, .int .u64 0, .int .u64 0, .int .u64 0, .int .u64 0, .int .u64 0, .int .u64 0, .int .u64 0, .int .u64 0, .int .u64 0, .int .u64 0, .int .u64 0, .int .u64 0] 39, .cells b2 [.int .u64 0, .int .u64 0, .int .u64 0, .int .u64 0, .int .u64 0, .int .u64 0, .int .u64 0, .int .u64 0, .int .u64 0, .int .u64 0, .int .u64 0, .int .u64 0, .int .u64 0, .int .u64 0, .int .u64 0, .int .u64 0] 39, .cells b1 [vI a2] 3, .cells b0 [vI a1] 3, .cells b5 [vI a0.fGroups, vI a0.fParties, vI a0.fLevels, v0_3] 25] wx0 [.cells b6 [vI 0] 32, .cells b4 [.int .u64 0, .int .u64 0, .int .u64 0, .int .u64 0, .int .u64 0, .int .u64 0, .int .u64 0, .int .u64 0, .int .u64 0, .int .u64 0, .int .u64 0, .int .u64 0, .int .u64 0, .int .u64 0, .int .u64 0, .int .u64 0, .int .u64 0, .int .u64 0, .int .u64 0, .int .u64 0, .int .u64 0, .int .u64 0, .int .u64 0, .int .u64 0, .int .u64 0, .int .u64 0, .int .u64 0, .int .u64 0, .int .u64 0, .int .u64 0, .int .u64 0, .int .u64 0] 81, .cells b3 [.int .u64 0, .int .u64 0, .int .u64 0, .int .u64 0, .int .u64 0, .int .u64 0, .int .u64 0, .int .u64 0, .int .u64 0, .int .u64 0, .int .u64 0, .int .u64 0, .int .u64 0, .int .u64 0, .int .u64 0, .int .u64 0] 39, .cells b2 [.int .u64 0, .int .u64 0, .int .u64 0, .int .u64 0, .int .u64 0, .int .u64 0, .int .u64 0, .int .u64 0, .int .u64 0, .int .u64 0, .int .u64 0, .int .u64 0, .int .u64 0, .int .u64 0, .int .u64 0, .int .u64 0] 39, .cells b1 [vI a2] 3, .cells b0 [vI a1] 3, .cells b5 [vI a0.fGroups, vI a0.fParties, vI a0.fLevels, v0_3] 25]) 1 15 ?_ ?_
 rintro ⟨⟩ wx0 ⟨hS10, hT10⟩
 try dsimp only
 refine RD.nw 4 31 kt0 rfl rfl .plain (Acts.storeAll (news := [vI e0.fErrno]) hS10 .hd rfl rfl rfl rfl rfl rfl (o1 rfl)) (fun w10 hS11 hT11 => ?_)
 refine RD.done (doneD_ok kt0 (by kernel_rfl)) <| MX.fin rfl <| RT.leaveD1 hk0 Tryz.func68 rfl .nil <| RT.leave (u := .tuple #[.agg #[.int .u64 0, .int .u64 0, .int .u64 0, .int .u64 0, .int .u64 0, .int .u64 0, .int .u64 0, .int .u64 0, .int .u64 0, .int .u64 0, .int .u64 0, .int .u64 0, .int .u64 0, .int .u64 0, .int .u64 0, .int .u64 0, .int .u64 0, .int .u64 0, .int .u64 0, .int .u64 0, .int .u64 0, .int .u64 0, .int .u64 0, .int .u64 0, .int .u64 0, .int .u64 0, .int .u64 0, .int .u64 0, .int .u64 0, .int .u64 0, .int .u64 0, .int .u64 0], vI e0.fErrno]) hb1 Tryz.func38 rfl (.cons (.many (cs := [.int .u64 0, .int .u64 0, .int .u64 0, .int .u64 0, .int .u64 0, .int .u64 0, .int .u64 0, .int .u64 0, .int .u64 0, .int .u64 0, .int .u64 0, .int .u64 0, .int .u64 0, .int .u64 0, .int .u64 0, .int .u64 0, .int .u64 0, .int .u64 0, .int .u64 0, .int .u64 0, .int .u64 0, .int .u64 0, .int .u64 0, .int .u64 0, .int .u64 0, .int .u64 0, .int .u64 0, .int .u64 0, .int .u64 0, .int .u64 0, .int .u64 0, .int .u64 0]) (by kernel_rfl) rfl (hS11.memA (.tl .hd))) (.cons (.one (by kernel_rfl) rfl ((hS11.memA .hd) 0 _ rfl)) .nil)) rfl <| RG.mo rfl <| RG.va (FV.extract rfl rfl) ?_
 refine RG.va (FV.extract rfl rfl) <| RG.new .plain rfl (Does.alloc (zs := [.int .u64 0, .int .u64 0, .int .u64 0, .int .u64 0, .int .u64 0, .int .u64 0, .int .u64 0, .int .u64 0, .int .u64 0, .int .u64 0, .int .u64 0, .int .u64 0, .int .u64 0, .int .u64 0, .int .u64 0, .int .u64 0, .int .u64 0, .int .u64 0, .int .u64 0, .int .u64 0, .int .u64 0, .int .u64 0, .int .u64 0, .int .u64 0, .int .u64 0, .int .u64 0, .int .u64 0, .int .u64 0, .int .u64 0, .int .u64 0, .int .u64 0, .int .u64 0]) hS11 (zB (by kernel_rfl))) (fun w11 b9 hS12 hT12 => ?_)
 refine RG.now .plain (Acts.storeAll (news := [.int .u64 0, .int .u64 0, .int .u64 0, .int .u64 0, .int .u64 0, .int .u64 0, .int .u64 0, .int .u64 0, .int .u64 0, .int .u64 0, .int .u64 0, .int .u64 0, .int .u64 0, .int .u64 0, .int .u64 0, .int .u64 0, .int .u64 0, .int .u64 0, .int .u64 0, .int .u64 0, .int .u64 0, .int .u64 0, .int .u64 0, .int .u64 0, .int .u64 0, .int .u64 0, .int .u64 0, .int .u64 0, .int .u64 0, .int .u64 0, .int .u64 0, .int .u64 0]) hS12 .hd rfl rfl rfl rfl rfl rfl (onesB rfl)) (fun w13 hS14 hT13 => ?_)
 refine RG.so rfl <| RG.nil <| MX.seq <| MX.drawT 5 tb9_2 (by kernel_rfl) (by kernel_rfl) (by kernel_rfl) (fun kt1 kp1 => ?_)
 refine RD.vw 0 1 kt1 rfl kp1 (fun _ => FV.fa 0 rfl) rfl <| RD.vx 1 3 224 kt1 rfl kp1 (FV.loadN (cs := [.int .u64 0, .int .u64 0, .int .u64 0, .int .u64 0, .int .u64 0, .int .u64 0, .int .u64 0, .int .u64 0, .int .u64 0, .int .u64 0, .int .u64 0, .int .u64 0, .int .u64 0, .int .u64 0, .int .u64 0, .int .u64 0]) (by kernel_rfl) rfl (mem_part (hS14.memA .hd) 0 16)) rfl <| RD.vw 2 7 kt1 rfl kp1 (fun _ => FV.fa 16 rfl) rfl <| RD.vw 4 23 kt1 rfl kp1 (fun _ => FV.move rfl) rfl <| RD.meet (α := Unit) (fun () => [(6, vP b2), (7, vP b3), (8, vI e0.fErrno), (19, vI e0.fErrno), (18, .agg #[.int .u64 0, .int .u64 0, .int .u64 0, .int .u64 0, .int .u64 0, .int .u64 0, .int .u64 0, .int .u64 0, .int .u64 0, .int .u64 0, .int .u64 0, .int .u64 0, .int .u64 0, .int .u64 0, .int .u64 0, .int .u64 0])]) (fun () wx1 => St w wx1 [.cells b3 [.int .u64 0, .int .u64 0, .int .u64 0, .int .u64 0, .int .u64 0, .int .u64 0, .int .u64 0, .int .u64 0, .int .u64 0, .int .u64 0, .int .u64 0, .int .u64 0, .int .u64 0, .int .u64 0, .int .u64 0, .int .u64 0] 39, .cells b2 [.int .u64 0, .int .u64 0, .int .u64 0, .int .u64 0, .int .u64 0, .int .u64 0, .int .u64 0, .int .u64 0, .int .u64 0, .int .u64 0, .int .u64 0, .int .u64 0, .int .u64 0, .int .u64 0, .int .u64 0, .int .u64 0] 39] ∧ Tr w13 [.cells b9 [.int .u64 0, .int .u64 0, .int .u64 0, .int .u64 0, .int .u64 0, .int .u64 0, .int .u64 0, .int .u64 0, .int .u64 0, .int .u64 0, .int .u64 0, .int .u64 0, .int .u64 0, .int .u64 0, .int .u64 0, .int .u64 0, .int .u64 0, .int .u64 0, .int .u64 0, .int .u64 0, .int .u64 0, .int .u64 0, .int .u64 0, .int .u64 0, .int .u64 0, .int .u64 0, .int .u64 0, .int .u64 0, .int .u64 0, .int .u64 0, .int .u64 0, .int .u64 0] 81, .cells b6 [vI e0.fErrno] 32, .cells b4 [.int .u64 0, .int .u64 0, .int .u64 0, .int .u64 0, .int .u64 0, .int .u64 0, .int .u64 0, .int .u64 0, .int .u64 0, .int .u64 0, .int .u64 0, .int .u64 0, .int .u64 0, .int .u64 0, .int .u64 0, .int .u64 0, .int .u64 0, .int .u64 0, .int .u64 0, .int .u64 0, .int .u64 0, .int .u64 0, .int .u64 0, .int .u64 0, .int .u64 0, .int .u64 0, .int .u64 0, .int .u64 0, .int .u64 0, .int .u64 0, .int .u64 0, .int .u64 0] 81, .cells b3 [.int .u64 0, .int .u64 0, .int .u64 0, .int .u64 0, .int .u64 0, .int .u64 0, .int .u64 0, .int .u64 0, .int .u64 0, .int .u64 0, .int .u64 0, .int .u64 0, .int .u64 0, .int .u64 0, .int .u64 0, .int .u64 0] 39, .cells b2 [.int .u64 0, .int .u64 0, .int .u64 0, .int .u64 0, .int .u64 0, .int .u64 0, .int .u64 0, .int .u64 0, .int .u64 0, .int .u64 0, .int .u64 0, .int .u64 0, .int .u64 0, .int .u64 0, .int .u64 0, .int .u64 0] 39, .cells b1 [vI a2] 3, .cells b0 [vI a1] 3, .cells b5 [vI a0.fGroups, vI a0.fParties, vI a0.fLevels, v0_3] 25] wx1 [.cells b3 [.int .u64 0, .int .u64 0, .int .u64 0, .int .u64 0, .int .u64 0, .int .u64 0, .int .u64 0, .int .u64 0, .int .u64 0, .int .u64 0, .int .u64 0, .int .u64 0, .int .u64 0, .int .u64 0, .int .u64 0, .int .u64 0] 39, .cells b2 [.int .u64 0, .int .u64 0, .int .u64 0, .int .u64 0, .int .u64 0, .int .u64 0, .int .u64 0, .int .u64 0, .int .u64 0, .int .u64 0, .int .u64 0, .int .u64 0, .int .u64 0, .int .u64 0, .int .u64 0, .int .u64 0] 39]) 2 63 ?_ ?_
 rintro ⟨⟩ wx1 ⟨hS15, hT15⟩
 try dsimp only
 refine RD.nw 6 127 kt1 rfl rfl .plain (Acts.storeAll (news := [.int .u64 0, .int .u64 0, .int .u64 0, .int .u64 0, .int .u64 0, .int .u64 0, .int .u64 0, .int .u64 0, .int .u64 0, .int .u64 0, .int .u64 0, .int .u64 0, .int .u64 0, .int .u64 0, .int .u64 0, .int .u64 0]) hS15 .hd rfl rfl rfl rfl rfl rfl (onesB rfl)) (fun w14 hS16 hT16 => ?_)
 refine RD.one (i := 7) (readyD_ok kt1 (by kernel_rfl)) (RO.val (m' := 255) (stepC_ok kt1 (by kernel_rfl)) rfl .plain rfl (FV.assign rfl) ?_)
 refine RD.done (doneD_ok kt1 (by kernel_rfl)) <| MX.ret rfl <| RT.leave hb0 Tryz.func9 rfl (.cons (.many (cs := [.int .u64 0, .int .u64 0, .int .u64 0, .int .u64 0, .int .u64 0, .int .u64 0, .int .u64 0, .int .u64 0, .int .u64 0, .int .u64 0, .int .u64 0, .int .u64 0, .int .u64 0, .int .u64 0, .int .u64 0, .int .u64 0]) (by kernel_rfl) rfl (hS16.memA (.tl .hd))) (.cons (.many (cs := [.int .u64 0, .int .u64 0, .int .u64 0, .int .u64 0, .int .u64 0, .int .u64 0, .int .u64 0, .int .u64 0, .int .u64 0, .int .u64 0, .int .u64 0, .int .u64 0, .int .u64 0, .int .u64 0, .int .u64 0, .int .u64 0]) (by kernel_rfl) rfl (hS16.memA .hd)) (.cons (.tmp rfl) .nil))) rfl ?_
 cases h
 exact hS16.gv
 intro hJ2492
 refine RD.each [3, 5] (readyD_ok kt1 (by kernel_rfl)) ⟨?_, ?_, trivial⟩
 refine RO.val (m' := 31) (stepC_ok kt1 (by kernel_rfl)) rfl .plain rfl (FV.loadN (cs := [.int .u64 0, .int .u64 0, .int .u64 0, .int .u64 0, .int .u64 0, .int .u64 0, .int .u64 0, .int .u64 0, .int .u64 0, .int .u64 0, .int .u64 0, .int .u64 0, .int .u64 0, .int .u64 0, .int .u64 0, .int .u64 0]) (by kernel_rfl) rfl (mem_part (hS14.memA .hd) 16 16)) <| RD.nw 5 63 kt1 rfl rfl .plain (Acts.storeAll (news := [.int .u64 0, .int .u64 0, .int .u64 0, .int .u64 0, .int .u64 0, .int .u64 0, .int .u64 0, .int .u64 0, .int .u64 0, .int .u64 0, .int .u64 0, .int .u64 0, .int .u64 0, .int .u64 0, .int .u64 0, .int .u64 0]) hS14 (.tl (.tl (.tl (.tl .hd)))) rfl rfl rfl rfl rfl rfl (onesB rfl)) (fun w15 hS17 hT17 => ?_)
 obtain ⟨hS19, hT18⟩ := St.arrB hS17 (.one (.tl (.tl (.tl .hd))) (.one (.tl (.tl (.tl .hd))) .done))
 exact hJ2492 () _ _ ⟨rfl, rfl, rfl, rfl, rfl, trivial⟩ ⟨hS19, (Tr.trans hT17 hT18)⟩
 refine RO.now (m' := 55) (stepC_ok kt1 (by kernel_rfl)) rfl rfl .plain (Acts.storeAll (news := [.int .u64 0, .int .u64 0, .int .u64 0, .int .u64 0, .int .u64 0, .int .u64 0, .int .u64 0, .int .u64 0, .int .u64 0, .int .u64 0, .int .u64 0, .int .u64 0, .int .u64 0, .int .u64 0, .int .u64 0, .int .u64 0]) hS14 (.tl (.tl (.tl (.tl .hd)))) rfl rfl rfl rfl rfl rfl (onesB rfl)) (fun w15 hS17 hT17 => ?_)
 refine RD.vx 3 63 192 kt1 rfl kp1 (FV.loadN (cs := [.int .u64 0, .int .u64 0, .int .u64 0, .int .u64 0, .int .u64 0, .int .u64 0, .int .u64 0, .int .u64 0, .int .u64 0, .int .u64 0, .int .u64 0, .int .u64 0, .int .u64 0, .int .u64 0, .int .u64 0, .int .u64 0]) (by kernel_rfl) rfl (mem_part (hS17.memA .hd) 16 16)) rfl ?_
 obtain ⟨hS20, hT20⟩ := St.arrB hS17 (.one (.tl (.tl (.tl .hd))) (.one (.tl (.tl (.tl .hd))) .done))
 exact hJ2492 () _ _ ⟨rfl, rfl, rfl, rfl, rfl, trivial⟩ ⟨hS20, (Tr.trans hT17 hT20)⟩
 intro hJ2497
 refine RD.each [2, 3] (readyD_ok kt0 (by kernel_rfl)) ⟨?_, ?_, trivial⟩
 refine RO.val (m' := 7) (stepC_ok kt0 (by kernel_rfl)) rfl .plain rfl (FV.l1 rfl ((hS59.memA (.tl .hd)) 0 _ rfl)) <| RD.nw 3 15 kt0 rfl rfl .plain (Acts.storeAll (news := [.int .u64 0, .int .u64 0, .int .u64 0, .int .u64 0, .int .u64 0, .int .u64 0, .int .u64 0, .int .u64 0, .int .u64 0, .int .u64 0, .int .u64 0, .int .u64 0, .int .u64 0, .int .u64 0, .int .u64 0, .int .u64 0, .int .u64 0, .int .u64 0, .int .u64 0, .int .u64 0, .int .u64 0, .int .u64 0, .int .u64 0, .int .u64 0, .int .u64 0, .int .u64 0, .int .u64 0, .int .u64 0, .int .u64 0, .int .u64 0, .int .u64 0, .int .u64 0]) hS59 (.tl (.tl (.tl .hd))) rfl rfl rfl rfl rfl rfl (onesB rfl)) (fun w16 hS21 hT21 => ?_)
 obtain ⟨hS22, hT22⟩ := St.arrB hS21 (.one (.tl (.tl .hd)) (.one (.tl (.tl .hd)) (.one (.tl (.tl .hd)) (.one (.tl (.tl .hd)) (.one (.tl (.tl .hd)) (.one (.tl (.tl .hd)) (.one (.tl (.tl .hd)) .done)))))))
 exact hJ2497 () _ _ ⟨rfl, rfl, trivial⟩ ⟨hS22, (Tr.trans hT21 hT22)⟩
 refine RO.now (m' := 11) (stepC_ok kt0 (by kernel_rfl)) rfl rfl .plain (Acts.storeAll (news := [.int .u64 0, .int .u64 0, .int .u64 0, .int .u64 0, .int .u64 0, .int .u64 0, .int .u64 0, .int .u64 0, .int .u64 0, .int .u64 0, .int .u64 0, .int .u64 0, .int .u64 0, .int .u64 0, .int .u64 0, .int .u64 0, .int .u64 0, .int .u64 0, .int .u64 0, .int .u64 0, .int .u64 0, .int .u64 0, .int .u64 0, .int .u64 0, .int .u64 0, .int .u64 0, .int .u64 0, .int .u64 0, .int .u64 0, .int .u64 0, .int .u64 0, .int .u64 0]) hS59 (.tl (.tl (.tl .hd))) rfl rfl rfl rfl rfl rfl (onesB rfl)) (fun w16 hS21 hT21 => ?_)
 refine RD.vx 2 15 16 kt0 rfl kp0 (FV.l1 rfl ((hS21.memA (.tl .hd)) 0 _ rfl)) rfl ?_
 obtain ⟨hS24, hT23⟩ := St.arrB hS21 (.one (.tl (.tl .hd)) (.one (.tl (.tl .hd)) (.one (.tl (.tl .hd)) (.one (.tl (.tl .hd)) (.one (.tl (.tl .hd)) (.one (.tl (.tl .hd)) (.one (.tl (.tl .hd)) .done)))))))
 exact hJ2497 () _ _ ⟨rfl, rfl, trivial⟩ ⟨hS24, (Tr.trans hT21 hT23)⟩
 have h := exc_o h
 try dsimp only at h
 refine RG.callq' (v := .agg ((cs_Ttold y1)).toArray) (fst := []) (cap := [vP b5, vP b0, vP b1]) .plain body39 rfl evs_nil (fun w9 hw9 => Calls.okp (minority_Line_1_c n _ w9 (hS6.hL0 hL hw9) a0 (hS6.k0 h0_3 hw9) (fun j9 v9 h9 => hw9.cell0 ((hS6.memA (.tl (.tl (.tl (.tl (.tl (.tl .hd))))))) j9 v9 h9)) a1 (fun j9 v9 h9 => hw9.cell0 ((hS6.memA (.tl (.tl (.tl (.tl (.tl .hd)))))) j9 v9 h9)) a2 (fun j9 v9 h9 => hw9.cell0 ((hS6.memA (.tl (.tl (.tl (.tl .hd))))) j9 v9 h9)) hy0)) rfl <| RG.now .plain (Acts.storeAll (news := (cs_Ttold y1)) hS6 (.tl .hd) rfl rfl rfl rfl rfl rfl (onesB rfl)) (fun w18 hS25 hT25 => ?_)
 refine RG.now .plain (Acts.storeAll (news := [vI 0]) hS25 .hd rfl rfl rfl rfl rfl rfl (o1 rfl)) (fun w19 hS26 hT26 => ?_)
 refine RG.nil <| MX.ret rfl <| RT.callD (vs := []) (cap := [vP b4, vP b6]) body68 Tryz.func68 rfl rfl rfl (fun c1 hc1 hk1 => ?_)
 refine MX.sr <| RG.recover0 .plain hc1 rfl <| RG.so rfl <| RG.nil <| MX.sr <| RG.mo rfl ?_
 refine RG.va (FV.neqI0 Tryz.underlying20 rfl rfl) <| RG.nil <| MX.cond_f rfl <| MX.skip <| MX.fin rfl <| RT.leaveD0 hc1 hk1 Tryz.func68 rfl .nil ?_
 refine RT.leave (u := .tuple #[.agg ((cs_Ttold y1)).toArray, vI 0]) hb1 Tryz.func38 rfl (.cons (.many (cs := (cs_Ttold y1)) (by kernel_rfl) rfl (hS26.memA (.tl .hd))) (.cons (.one (by kernel_rfl) rfl ((hS26.memA .hd) 0 _ rfl)) .nil)) rfl <| RG.mo rfl <| RG.va (FV.extract rfl rfl) <| RG.va (FV.extract rfl rfl) <| RG.new .plain rfl (Does.alloc (zs := [.int .u64 0, .int .u64 0, .int .u64 0, .int .u64 0, .int .u64 0, .int .u64 0, .int .u64 0, .int .u64 0, .int .u64 0, .int .u64 0, .int .u64 0, .int .u64 0, .int .u64 0, .int .u64 0, .int .u64 0, .int .u64 0, .int .u64 0, .int .u64 0, .int .u64 0, .int .u64 0, .int .u64 0, .int .u64 0, .int .u64 0, .int .u64 0, .int .u64 0, .int .u64 0, .int .u64 0, .int .u64 0, .int .u64 0, .int .u64 0, .int .u64 0, .int .u64 0]) hS26 (zB (by kernel_rfl))) (fun w20 b11 hS27 hT27 => ?_)
 refine RG.now .plain (Acts.storeAll (news := (cs_Ttold y1)) hS27 .hd rfl rfl rfl rfl rfl rfl (onesB rfl)) (fun w21 hS28 hT28 => ?_)
 refine RG.so rfl <| RG.nil <| MX.seq <| MX.drawT 5 tb9_2 (by kernel_rfl) (by kernel_rfl) (by kernel_rfl) (fun kt2 kp2 => ?_)
 refine RD.vw 0 1 kt2 rfl kp2 (fun _ => FV.fa 0 rfl) rfl <| RD.vx 1 3 224 kt2 rfl kp2 (FV.loadN (cs := (cs_TShare y1.fslope)) (by kernel_rfl) rfl (mem_part (hS28.memA .hd) 0 16)) rfl <| RD.vw 2 7 kt2 rfl kp2 (fun _ => FV.fa 16 rfl) rfl <| RD.vw 4 23 kt2 rfl kp2 (fun _ => FV.move rfl) rfl <| RD.meet (α := Unit) (fun () => [(6, vP b2), (7, vP b3), (8, vI 0), (19, vI 0), (18, .agg ((cs_TShare y1.fbase)).toArray)]) (fun () wx2 => St w wx2 [.cells b3 [.int .u64 0, .int .u64 0, .int .u64 0, .int .u64 0, .int .u64 0, .int .u64 0, .int .u64 0, .int .u64 0, .int .u64 0, .int .u64 0, .int .u64 0, .int .u64 0, .int .u64 0, .int .u64 0, .int .u64 0, .int .u64 0] 39, .cells b2 (cs_TShare y1.fslope) 39] ∧ Tr w21 [.cells b11 (cs_Ttold y1) 81, .cells b6 [vI 0] 32, .cells b4 (cs_Ttold y1) 81, .cells b3 [.int .u64 0, .int .u64 0, .int .u64 0, .int .u64 0, .int .u64 0, .int .u64 0, .int .u64 0, .int .u64 0, .int .u64 0, .int .u64 0, .int .u64 0, .int .u64 0, .int .u64 0, .int .u64 0, .int .u64 0, .int .u64 0] 39, .cells b2 [.int .u64 0, .int .u64 0, .int .u64 0, .int .u64 0, .int .u64 0, .int .u64 0, .int .u64 0, .int .u64 0, .int .u64 0, .int .u64 0, .int .u64 0, .int .u64 0, .int .u64 0, .int .u64 0, .int .u64 0, .int .u64 0] 39, .cells b1 [vI a2] 3, .cells b0 [vI a1] 3, .cells b5 [vI a0.fGroups, vI a0.fParties, vI a0.fLevels, v0_3] 25] wx2 [.cells b3 [.int .u64 0, .int .u64 0, .int .u64 0, .int .u64 0, .int .u64 0, .int .u64 0, .int .u64 0, .int .u64 0, .int .u64 0, .int .u64 0, .int .u64 0, .int .u64 0, .int .u64 0, .int .u64 0, .int .u64 0, .int .u64 0] 39, .cells b2 (cs_TShare y1.fslope) 39]) 2 63 ?_ ?_
 rintro ⟨⟩ wx2 ⟨hS29, hT29⟩
 try dsimp only
 refine RD.nw 6 127 kt2 rfl rfl .plain (Acts.storeAll (news := (cs_TShare y1.fbase)) hS29 .hd rfl rfl rfl rfl rfl rfl (onesB rfl)) (fun w23 hS30 hT30 => ?_)
 refine RD.one (i := 7) (readyD_ok kt2 (by kernel_rfl)) (RO.val (m' := 255) (stepC_ok kt2 (by kernel_rfl)) rfl .plain rfl (FV.assign rfl) ?_)
 refine RD.done (doneD_ok kt2 (by kernel_rfl)) <| MX.ret rfl <| RT.leave hb0 Tryz.func9 rfl (.cons (.many (cs := (cs_TShare y1.fslope)) (by kernel_rfl) rfl (hS30.memA (.tl .hd))) (.cons (.many (cs := (cs_TShare y1.fbase)) (by kernel_rfl) rfl (hS30.memA .hd)) (.cons (.tmp rfl) .nil))) rfl ?_
 cases h
 exact hS30.gv
 intro hJ3731
 refine RD.each [3, 5] (readyD_ok kt2 (by kernel_rfl)) ⟨?_, ?_, trivial⟩
 refine RO.val (m' := 31) (stepC_ok kt2 (by kernel_rfl)) rfl .plain rfl (FV.loadN (cs := (cs_TShare y1.fbase)) (by kernel_rfl) rfl (mem_part (hS28.memA .hd) 16 16)) <| RD.nw 5 63 kt2 rfl rfl .plain (Acts.storeAll (news := (cs_TShare y1.fslope)) hS28 (.tl (.tl (.tl (.tl .hd)))) rfl rfl rfl rfl rfl rfl (onesB rfl)) (fun w24 hS32 hT31 => ?_)
 obtain ⟨hS33, hT33⟩ := St.arrB hS32 (.one (.tl (.tl (.tl .hd))) (.one (.tl (.tl (.tl .hd))) .done))
 exact hJ3731 () _ _ ⟨rfl, rfl, rfl, rfl, rfl, trivial⟩ ⟨hS33, (Tr.trans hT31 hT33)⟩
 refine RO.now (m' := 55) (stepC_ok kt2 (by kernel_rfl)) rfl rfl .plain (Acts.storeAll (news := (cs_TShare y1.fslope)) hS28 (.tl (.tl (.tl (.tl .hd)))) rfl rfl rfl rfl rfl rfl (onesB rfl)) (fun w24 hS32 hT31 => ?_)
 refine RD.vx 3 63 192 kt2 rfl kp2 (FV.loadN (cs := (cs_TShare y1.fbase)) (by kernel_rfl) rfl (mem_part (hS32.memA .hd) 16 16)) rfl ?_
 obtain ⟨hS34, hT34⟩ := St.arrB hS32 (.one (.tl (.tl (.tl .hd))) (.one (.tl (.tl (.tl .hd))) .done))
 exact hJ3731 () _ _ ⟨rfl, rfl, rfl, rfl, rfl, trivial⟩ ⟨hS34, (Tr.trans hT31 hT34)⟩
def tb42_2 : List (Nat × Nat × Nat) := [(0, 4096, 16), (1, 8192, 4096), (2, 16384, 8192), (4, 32768, 16384), (0, 65536, 16), (16, 131072, 65536), (32, 262144, 131072), (72, 524288, 294912), (0, 32, 0), (511, 0, 524320)]
def tb42_3 : List (Nat × Nat × Nat) := [(0, 1048576, 32), (0, 2097152, 16), (2, 4194304, 2097152), (4, 8388608, 4194304), (0, 16777216, 16), (16, 33554432, 16777216), (32, 67108864, 33554432), (72, 134217728, 75497472), (129, 268435456, 135266304), (0, 64, 0), (1023, 0, 268435520)]
def tb42_4 : List (Nat × Nat × Nat) := [(0, 536870912, 64), (0, 1073741824, 0), (3, 2147483648, 1610612736), (6, 4294967296, 2147483648)]
def tb42_6 : List (Nat × Nat × Nat) := [(0, 274877906944, 128), (0, 549755813888, 16), (2, 1099511627776, 549755813888), (0, 2199023255552, 64), (12, 4398046511104, 3298534883328), (17, 8796093022208, 4672924418048), (63, 0, 8796093022216)]
def minority_Fit_1_p (n : Nat) (a0 : TRoll) (a1 : Int) (a2 : Int) : Option (Except Tbroken TShare) :=
  (minority_fitted_p n a0 a1 a2).bind fun y6 => exc y6 (fun y8 => (minority_of_p n y8.fsums.fw (1 : Int)).bind fun y0 => exc y0 (fun y1 => (minority_mul_p n y1 y8.fsums.fc).bind fun y2 => exc y2 (fun y3 => (minority_mul_p n y8.fsums.fy y8.fsums.fy).bind fun y4 => exc y4 (fun y5 => (minority_sub_p n y3 y5).bind fun y7 => exc y7 (fun y9 => (minority_of_p n (0 : Int) (1 : Int)).bind fun y60 => exc y60 (fun y62 => (if y9 = y62 then some (.error (⟨(7 : Int)⟩ : Tbroken)) else (minority_mul_p n y8.fn y8.fn).bind fun y71 => exc y71 (fun y73 => (minority_mul_p n y8.fd y9).bind fun y89 => exc y89 (fun y91 => (minority_div_p n y73 y91).bind fun y93 => exc y93 (fun y95 => some (.ok y95)) (fun e0 => none)) (fun e1 => none)) (fun e2 => some (.error e2)))) (fun e3 => none)) (fun e4 => none)) (fun e5 => none)) (fun e6 => none)) (fun e8 => none)) (fun e7 => some (.error e7))
theorem minority_Fit_1_c (n : Nat) (L : List Nat) (w : World) (hL : ∀ b ∈ L, b < w.heap.size) (a0 : TRoll) {v0_3 : Value} (h0_3 : Rep.R w L [v0_3] a0.fUnits) {p0 : Nat} (m0 : ∀ j9 v9, ([vI a0.fGroups, vI a0.fParties, vI a0.fLevels, v0_3] : List Value)[j9]? = some v9 → w.cell? ((⟨p0, 0, none⟩ : Addr).add j9) = some v9) (a1 : Int) {p1 : Nat} (m1 : ∀ j9 v9, ([vI a1] : List Value)[j9]? = some v9 → w.cell? ((⟨p1, 0, none⟩ : Addr).add j9) = some v9) (a2 : Int) {p2 : Nat} (m2 : ∀ j9 v9, ([vI a2] : List Value)[j9]? = some v9 → w.cell? ((⟨p2, 0, none⟩ : Addr).add j9) = some v9)  {r : Except Tbroken TShare} (h : minority_Fit_1_p n a0 a1 a2 = some r) :
    Calls Tryz.prog 42 #[.pointer (some ⟨p0, 0, none⟩), .pointer (some ⟨p1, 0, none⟩), .pointer (some ⟨p2, 0, none⟩)] w (PGives w (fun (y : TShare) _ u => u = .agg ((cs_TShare y)).toArray) (fun e => .iface 93 (.agg #[vI e.fErrno])) r) := by
 unfold minority_Fit_1_p at h
 have hS0 := St.start w
 refine MX.startP Tryz.func42 rfl rfl rfl (fun _ cs0 hb0 hp0 => ?_)
 refine MX.sr <| RG.new .plain rfl (Does.alloc (zs := [.int .u64 0, .int .u64 0, .int .u64 0, .int .u64 0, .int .u64 0, .int .u64 0, .int .u64 0, .int .u64 0, .int .u64 0, .int .u64 0, .int .u64 0, .int .u64 0, .int .u64 0, .int .u64 0, .int .u64 0, .int .u64 0]) hS0 (zB (by kernel_rfl))) (fun w2 b5 hS3 hT4 => ?_)
 refine RG.nil <| MX.sr <| RG.va (FV.lN rfl (fun j9 v9 h9 => hS3.ag.cell0 (m0 j9 v9 h9))) <| RG.l1 rfl ((fun j9 v9 h9 => hS3.ag.cell0 (m1 j9 v9 h9)) 0 _ rfl) <| RG.l1 rfl ((fun j9 v9 h9 => hS3.ag.cell0 (m2 j9 v9 h9)) 0 _ rfl) ?_
 obtain ⟨y6, hy6, h⟩ := bind_in h
 rcases y6 with e7 | y8
 have h := exc_e h
 try dsimp only at h
 refine RG.callE (fst := []) (cap := []) .plain body40 rfl (e3 rfl rfl rfl) (fun w9 hw9 => minority_fitted_c n _ w9 (hS3.hL0 hL hw9) a0 (hS3.k0 h0_3 hw9) a1 a2 hy6) (fun w9 hag0 => ?_)
 obtain ⟨hS1, hT0⟩ := hS3.agr hag0
 cases h
 exact PN.leave hp0 Tryz.func42 ⟨hS1.ag, rfl⟩
 have h := exc_o h
 try dsimp only at h
 refine RG.cq (.agg ((([vI y8.fsums.fw, vI y8.fsums.fx] : List Value) ++ cs_TShare y8.fsums.fy ++ cs_TShare y8.fsums.fa ++ cs_TShare y8.fsums.fb ++ cs_TShare y8.fsums.fc ++ cs_TShare y8.fd ++ cs_TShare y8.fn)).toArray) body40 rfl (e3 rfl rfl rfl) (fun w9 hw9 => Calls.okp (minority_fitted_c n _ w9 (hS3.hL0 hL hw9) a0 (hS3.k0 h0_3 hw9) a1 a2 hy6)) rfl <| RG.new .plain rfl (Does.alloc (zs := [vI 0, vI 0, .int .u64 0, .int .u64 0, .int .u64 0, .int .u64 0, .int .u64 0, .int .u64 0, .int .u64 0, .int .u64 0, .int .u64 0, .int .u64 0, .int .u64 0, .int .u64 0, .int .u64 0, .int .u64 0, .int .u64 0, .int .u64 0, .int .u64 0, .int .u64 0, .int .u64 0, .int .u64 0, .int .u64 0, .int .u64 0, .int .u64 0, .int .u64 0, .int .u64 0, .int .u64 0, .int .u64 0, .int .u64 0, .int .u64 0, .int .u64 0, .int .u64 0, .int .u64 0, .int .u64 0, .int .u64 0, .int .u64 0, .int .u64 0, .int .u64 0, .int .u64 0, .int .u64 0, .int .u64 0, .int .u64 0, .int .u64 0, .int .u64 0, .int .u64 0, .int .u64 0, .int .u64 0, .int .u64 0, .int .u64 0, .int .u64 0, .int .u64 0, .int .u64 0, .int .u64 0, .int .u64 0, .int .u64 0, .int .u64 0, .int .u64 0, .int .u64 0, .int .u64 0, .int .u64 0, .int .u64 0, .int .u64 0, .int .u64 0, .int .u64 0, .int .u64 0, .int .u64 0, .int .u64 0, .int .u64 0, .int .u64 0, .int .u64 0, .int .u64 0, .int .u64 0, .int .u64 0, .int .u64 0, .int .u64 0, .int .u64 0, .int .u64 0, .int .u64 0, .int .u64 0, .int .u64 0, .int .u64 0, .int .u64 0, .int .u64 0, .int .u64 0, .int .u64 0, .int .u64 0, .int .u64 0, .int .u64 0, .int .u64 0, .int .u64 0, .int .u64 0, .int .u64 0, .int .u64 0, .int .u64 0, .int .u64 0, .int .u64 0, .int .u64 0]) hS3 (zB (by kernel_rfl))) (fun w0 b0 hS2 hT1 => ?_)
 refine RG.now .plain (Acts.storeAll (news := (([vI y8.fsums.fw, vI y8.fsums.fx] : List Value) ++ cs_TShare y8.fsums.fy ++ cs_TShare y8.fsums.fa ++ cs_TShare y8.fsums.fb ++ cs_TShare y8.fsums.fc ++ cs_TShare y8.fd ++ cs_TShare y8.fn)) hS2 .hd rfl rfl rfl rfl rfl rfl (onesB rfl)) (fun w1 hS4 hT2 => ?_)
 refine RG.nil <| MX.seq <| MX.drawT 9 tb42_2 (by kernel_rfl) (by kernel_rfl) (by kernel_rfl) (fun kt0 kp0 => ?_)
 refine RD.vw 0 1 kt0 rfl kp0 (fun _ => FV.fa 0 rfl) rfl <| RD.vw 1 3 kt0 rfl kp0 (fun _ => FV.fa 0 rfl) rfl <| RD.vx 2 7 648 kt0 rfl kp0 (FV.l1 rfl ((mem_from (hS4.memA .hd) 0) 0 _ rfl)) rfl ?_
 obtain ⟨y0, hy0, h⟩ := bind_in h
 rcases y0 with e0 | y1
 have h := exc_e h
 try dsimp only at h
 cases h
 have h := exc_o h
 try dsimp only at h
 refine RD.cq 3 15 640 (.agg ((cs_TShare y1)).toArray) kt0 rfl kp0 body27 rfl (e2 rfl rfl) (fun w9 hw9 => Calls.okp (minority_of_c n _ w9 (hS4.hL0 hL hw9) y8.fsums.fw (1 : Int) hy0)) rfl <| RD.vw 4 31 kt0 rfl kp0 (fun _ => FV.fa 0 rfl) rfl <| RD.vw 5 63 kt0 rfl kp0 (fun _ => FV.fa 50 rfl) rfl <| RD.vx 6 127 640 kt0 rfl kp0 (FV.loadN (cs := (cs_TShare y8.fsums.fc)) (by kernel_rfl) rfl (mem_part (mem_from (hS4.memA .hd) 0) 50 16)) rfl ?_
 obtain ⟨y2, hy1, h⟩ := bind_in h
 rcases y2 with e4 | y3
 have h := exc_e h
 try dsimp only at h
 cases h
 have h := exc_o h
 try dsimp only at h
 refine RD.cq 7 255 512 (.agg ((cs_TShare y3)).toArray) kt0 rfl kp0 body41 rfl (e2 rfl rfl) (fun w9 hw9 => Calls.okp (minority_mul_c n _ w9 (hS4.hL0 hL hw9) y1 y8.fsums.fc hy1)) rfl <| RD.nu 8 511 kt0 rfl .plain rfl (Does.alloc (zs := [.int .u64 0, .int .u64 0, .int .u64 0, .int .u64 0, .int .u64 0, .int .u64 0, .int .u64 0, .int .u64 0, .int .u64 0, .int .u64 0, .int .u64 0, .int .u64 0, .int .u64 0, .int .u64 0, .int .u64 0, .int .u64 0]) hS4 (zB (by kernel_rfl))) (fun w3 b1 hS5 hT3 => ?_)
 refine RD.nw 9 1023 kt0 rfl rfl .plain (Acts.storeAll (news := (cs_TShare y3)) hS5 .hd rfl rfl rfl rfl rfl rfl (onesB rfl)) (fun w4 hS6 hT5 => ?_)
 refine RD.done (doneD_ok kt0 (by kernel_rfl)) <| MX.seq <| MX.drawT 10 tb42_3 (by kernel_rfl) (by kernel_rfl) (by kernel_rfl) (fun kt1 kp1 => ?_)
 refine RD.vx 0 1 1280 kt1 rfl kp1 (FV.lN rfl (hS6.memA .hd)) rfl <| RD.vw 1 3 kt1 rfl kp1 (fun _ => FV.fa 0 rfl) rfl <| RD.vw 2 7 kt1 rfl kp1 (fun _ => FV.fa 2 rfl) rfl <| RD.vx 3 15 1408 kt1 rfl kp1 (FV.loadN (cs := (cs_TShare y8.fsums.fy)) (by kernel_rfl) rfl (mem_part (mem_from (hS6.memA (.tl .hd)) 0) 2 16)) rfl <| RD.vw 4 31 kt1 rfl kp1 (fun _ => FV.fa 0 rfl) rfl <| RD.vw 5 63 kt1 rfl kp1 (fun _ => FV.fa 2 rfl) rfl ?_
 refine RD.vx 6 127 1408 kt1 rfl kp1 (FV.loadN (cs := (cs_TShare y8.fsums.fy)) (by kernel_rfl) rfl (mem_part (mem_from (hS6.memA (.tl .hd)) 0) 2 16)) rfl ?_
 obtain ⟨y4, hy2, h⟩ := bind_in h
 rcases y4 with e5 | y5
 have h := exc_e h
 try dsimp only at h
 cases h
 have h := exc_o h
 try dsimp only at h
 refine RD.cq 7 255 1280 (.agg ((cs_TShare y5)).toArray) kt1 rfl kp1 body41 rfl (e2 rfl rfl) (fun w9 hw9 => Calls.okp (minority_mul_c n _ w9 (hS6.hL0 hL hw9) y8.fsums.fy y8.fsums.fy hy2)) rfl ?_
 obtain ⟨y7, hy3, h⟩ := bind_in h
 rcases y7 with e6 | y9
 have h := exc_e h
 try dsimp only at h
 cases h
 have h := exc_o h
 try dsimp only at h
 refine RD.cq 8 511 1024 (.agg ((cs_TShare y9)).toArray) kt1 rfl kp1 body26 rfl (e2 rfl rfl) (fun w9 hw9 => Calls.okp (minority_sub_c n _ w9 (hS6.hL0 hL hw9) y3 y5 hy3)) rfl <| RD.nu 9 1023 kt1 rfl .plain rfl (Does.alloc (zs := [.int .u64 0, .int .u64 0, .int .u64 0, .int .u64 0, .int .u64 0, .int .u64 0, .int .u64 0, .int .u64 0, .int .u64 0, .int .u64 0, .int .u64 0, .int .u64 0, .int .u64 0, .int .u64 0, .int .u64 0, .int .u64 0]) hS6 (zB (by kernel_rfl))) (fun w5 b2 hS7 hT6 => ?_)
 refine RD.nw 10 2047 kt1 rfl rfl .plain (Acts.storeAll (news := (cs_TShare y9)) hS7 .hd rfl rfl rfl rfl rfl rfl (onesB rfl)) (fun w6 hS8 hT7 => ?_)
 refine RD.done (doneD_ok kt1 (by kernel_rfl)) <| MX.seq <| MX.drawT 3 tb42_4 (by kernel_rfl) (by kernel_rfl) (by kernel_rfl) (fun kt2 kp2 => ?_)
 obtain ⟨y60, hy4, h⟩ := bind_in h
 rcases y60 with e8 | y62
 have h := exc_e h
 try dsimp only at h
 cases h
 have h := exc_o h
 try dsimp only at h
 refine RD.vx 0 1 12 kt2 rfl kp2 (FV.lN rfl (hS8.memA .hd)) rfl <| RD.cq 1 3 12 (.agg ((cs_TShare y62)).toArray) kt2 rfl kp2 body27 rfl (e2 rfl rfl) (fun w9 hw9 => Calls.okp (minority_of_c n _ w9 (hS8.hL0 hL hw9) (0 : Int) (1 : Int) hy4)) rfl <| RD.vw 2 7 kt2 rfl kp2 (fun _ => FV.eqlV (v := .agg ((cs_TShare y9)).toArray) (u := .agg ((cs_TShare y62)).toArray) rfl rfl (eqlD_39 y9 y62)) rfl <| RD.one (i := 3) (readyD_ok kt2 (by kernel_rfl)) (RO.enterPT (m' := 15) (fst := []) (cap := []) (vs := [.bool (decide (y9 = y62)), vI 7]) (stepC_ok kt2 (by kernel_rfl)) rfl rfl .plain body23 Tryz.func23 rfl rfl rfl rfl (e2 rfl rfl) rfl (fun _ cs1 hb1 hp1 => ?_))
 refine MX.sr <| RG.mo rfl <| RG.nil <| MX.ifd rfl h (fun c0 h => ?_) (fun c0 h => ?_)
 refine MX.region <| RG.mo rfl <| RG.enterP (fst := []) (cap := []) (vs := [vI 7]) .plain body32 Tryz.func32 rfl rfl rfl rfl (e1 rfl) rfl (fun cs2 hb2 hp2 => ?_)
 refine MX.sr <| RG.mo rfl <| RG.va (FV.neqN (i := 7) (j := 0) rfl rfl) <| RG.nil <| MX.cond_t rfl <| MX.region ?_
 refine RG.mo rfl <| RG.va (FV.buildV (vs := [vI 7]) (u := .agg #[vI 7]) (e1 rfl) (fun w9 => by kernel_rfl)) <| RG.va (FV.makeInterface (by kernel_rfl) rfl) <| RG.panic .plain rfl <| PN.leave hp2 Tryz.func32 <| PN.leave hp1 Tryz.func23 ?_
 cases h
 exact PN.leave hp0 Tryz.func42 ⟨hS8.ag, rfl⟩
 refine MX.skip <| MX.fin rfl <| RT.leave (u := .tuple #[]) hb1 Tryz.func23 rfl .nil rfl <| RD.done (doneD_ok kt2 (by kernel_rfl)) <| MX.sr <| RG.fa 82 rfl ?_
 refine RG.va (FV.loadN (cs := (cs_TShare y8.fn)) (by kernel_rfl) rfl (mem_part (hS8.memA (.tl (.tl .hd))) 82 16)) <| RG.fa 82 rfl <| RG.va (FV.loadN (cs := (cs_TShare y8.fn)) (by kernel_rfl) rfl (mem_part (hS8.memA (.tl (.tl .hd))) 82 16)) ?_
 obtain ⟨y71, hy5, h⟩ := bind_in h
 rcases y71 with e9 | y73
 have h := exc_e h
 try dsimp only at h
 refine RG.callE (fst := []) (cap := []) .plain body41 rfl (e2 rfl rfl) (fun w9 hw9 => minority_mul_c n _ w9 (hS8.hL0 hL hw9) y8.fn y8.fn hy5) (fun w7 hag1 => ?_)
 obtain ⟨hS9, hT8⟩ := hS8.agr hag1
 cases h
 exact PN.leave hp0 Tryz.func42 ⟨hS9.ag, rfl⟩
 have h := exc_o h
 try dsimp only at h
 refine RG.cq (.agg ((cs_TShare y73)).toArray) body41 rfl (e2 rfl rfl) (fun w9 hw9 => Calls.okp (minority_mul_c n _ w9 (hS8.hL0 hL hw9) y8.fn y8.fn hy5)) rfl <| RG.new .plain rfl (Does.alloc (zs := [.int .u64 0, .int .u64 0, .int .u64 0, .int .u64 0, .int .u64 0, .int .u64 0, .int .u64 0, .int .u64 0, .int .u64 0, .int .u64 0, .int .u64 0, .int .u64 0, .int .u64 0, .int .u64 0, .int .u64 0, .int .u64 0]) hS8 (zB (by kernel_rfl))) (fun w8 b3 hS81 hT9 => ?_)
 refine RG.now .plain (Acts.storeAll (news := (cs_TShare y73)) hS81 .hd rfl rfl rfl rfl rfl rfl (onesB rfl)) (fun w84 hS85 hT86 => ?_)
 refine RG.nil <| MX.seq <| MX.drawT 6 tb42_6 (by kernel_rfl) (by kernel_rfl) (by kernel_rfl) (fun kt3 kp3 => ?_)
 refine RD.vx 0 1 96 kt3 rfl kp3 (FV.lN rfl (hS85.memA .hd)) rfl <| RD.vw 1 3 kt3 rfl kp3 (fun _ => FV.fa 66 rfl) rfl <| RD.vx 2 7 112 kt3 rfl kp3 (FV.loadN (cs := (cs_TShare y8.fd)) (by kernel_rfl) rfl (mem_part (hS85.memA (.tl (.tl (.tl .hd)))) 66 16)) rfl <| RD.vx 3 15 112 kt3 rfl kp3 (FV.lN rfl (hS85.memA (.tl .hd))) rfl ?_
 obtain ⟨y89, hy7, h⟩ := bind_in h
 rcases y89 with e90 | y91
 have h := exc_e h
 try dsimp only at h
 cases h
 have h := exc_o h
 try dsimp only at h
 refine RD.cq 4 31 96 (.agg ((cs_TShare y91)).toArray) kt3 rfl kp3 body41 rfl (e2 rfl rfl) (fun w9 hw9 => Calls.okp (minority_mul_c n _ w9 (hS85.hL0 hL hw9) y8.fd y9 hy7)) rfl ?_
 obtain ⟨y93, hy8, h⟩ := bind_in h
 rcases y93 with e94 | y95
 have h := exc_e h
 try dsimp only at h
 cases h
 have h := exc_o h
 try dsimp only at h
 refine RD.cq 5 63 64 (.agg ((cs_TShare y95)).toArray) kt3 rfl kp3 body28 rfl (e2 rfl rfl) (fun w9 hw9 => Calls.okp (minority_div_c n _ w9 (hS85.hL0 hL hw9) y73 y91 hy8)) rfl <| RD.nw 6 127 kt3 rfl rfl .plain (Acts.storeAll (news := (cs_TShare y95)) hS85 (.tl (.tl (.tl (.tl .hd)))) rfl rfl rfl rfl rfl rfl (onesB rfl)) (fun w97 hS98 hT99 => ?_)
 refine RD.done (doneD_ok kt3 (by kernel_rfl)) <| MX.ret rfl <| RT.leave hb0 Tryz.func42 rfl (.cons (.many (cs := (cs_TShare y95)) (by kernel_rfl) rfl (hS98.memA (.tl (.tl (.tl (.tl .hd)))))) .nil) rfl ?_
 cases h
 exact ⟨hS98.ag, fun w9 hw9 => okOf_in rfl⟩
theorem body42 : bodyB Tryz.prog 42 = true := by kernel_rfl
def minority_Fit_p (n : Nat) (a0 : TRoll) (a1 : Int) (a2 : Int) : Option (TShare × Int) :=
  (minority_Fit_1_p n a0 a1 a2).bind fun y0 => exc y0 (fun y1 => some (y1, (0 : Int))) (fun e0 => some ((⟨((0 : UInt64), (0 : UInt64), (0 : UInt64), (0 : UInt64), (0 : UInt64), (0 : UInt64), (0 : UInt64), (0 : UInt64)), ((0 : UInt64), (0 : UInt64), (0 : UInt64), (0 : UInt64), (0 : UInt64), (0 : UInt64), (0 : UInt64), (0 : UInt64))⟩ : TShare), e0.fErrno))
theorem minority_Fit_c (n : Nat) (L : List Nat) (w : World) (hL : ∀ b ∈ L, b < w.heap.size) (a0 : TRoll) {v0_3 : Value} (h0_3 : Rep.R w L [v0_3] a0.fUnits) (a1 : Int) (a2 : Int)  {r : TShare × Int} (h : minority_Fit_p n a0 a1 a2 = some r) :
    Calls Tryz.prog 10 #[.agg #[vI a0.fGroups, vI a0.fParties, vI a0.fLevels, v0_3], vI a1, vI a2] w (Gives w fun _ u => u = .tuple #[.agg ((cs_TShare r.1)).toArray, vI r.2]) := by
 unfold minority_Fit_p at h
 have hS0 := St.start w
 refine MX.start Tryz.func10 rfl rfl rfl (fun _ cs0 hb0 => ?_)
 refine MX.sr <| RG.new .plain rfl (Does.box (vs := [vI a0.fGroups, vI a0.fParties, vI a0.fLevels, v0_3]) hS0 rfl rfl) (fun w2 b5 hS3 hT4 => ?_)
 refine RG.new .plain rfl (Does.box (vs := [vI a1]) hS3 rfl rfl) (fun w7 b0 hS8 hT9 => ?_)
 refine RG.new .plain rfl (Does.box (vs := [vI a2]) hS8 rfl rfl) (fun w0 b1 hS1 hT0 => ?_)
 refine RG.new .plain rfl (Does.alloc (zs := [.int .u64 0, .int .u64 0, .int .u64 0, .int .u64 0, .int .u64 0, .int .u64 0, .int .u64 0, .int .u64 0, .int .u64 0, .int .u64 0, .int .u64 0, .int .u64 0, .int .u64 0, .int .u64 0, .int .u64 0, .int .u64 0]) hS1 (zB (by kernel_rfl))) (fun w1 b2 hS2 hT1 => ?_)
 refine RG.so rfl <| RG.nil <| MX.sr <| RG.va (FV.makeFunc (vs := []) (us := [vP b5, vP b0, vP b1]) evs_nil (e3 rfl rfl rfl)) <| RG.enterP (fst := []) (cap := []) (vs := [.func (.func 42) #[] #[vP b5, vP b0, vP b1]]) .plain body21 Tryz.func21 rfl rfl rfl rfl (e1 rfl) rfl (fun cs1 hb1 hp0 => ?_)
 refine MX.sr <| RG.new .plain rfl (Does.alloc (zs := [.int .u64 0, .int .u64 0, .int .u64 0, .int .u64 0, .int .u64 0, .int .u64 0, .int .u64 0, .int .u64 0, .int .u64 0, .int .u64 0, .int .u64 0, .int .u64 0, .int .u64 0, .int .u64 0, .int .u64 0, .int .u64 0]) hS2 (zB (by kernel_rfl))) (fun w3 b3 hS4 hT2 => ?_)
 refine RG.new .plain rfl (Does.alloc (zs := [vI 0]) hS4 (zB (by kernel_rfl))) (fun w4 b4 hS5 hT3 => ?_)
 refine RG.nil <| MX.sr <| RG.va (FV.makeFunc (vs := []) (us := [vP b3, vP b4]) evs_nil (e2 rfl rfl)) <| RG.defer (fst := []) (cap := [vP b3, vP b4]) (vs := []) rfl .plain rfl evs_nil <| RG.nil <| MX.sr ?_
 refine RG.mo rfl ?_
 obtain ⟨y0, hy0, h⟩ := bind_in h
 rcases y0 with e0 | y1
 have h := exc_e h
 try dsimp only at h
 refine RG.callE (fst := []) (cap := [vP b5, vP b0, vP b1]) .plain body42 rfl evs_nil (fun w9 hw9 => minority_Fit_1_c n _ w9 (hS5.hL0 hL hw9) a0 (hS5.k0 h0_3 hw9) (fun j9 v9 h9 => hw9.cell0 ((hS5.memA (.tl (.tl (.tl (.tl (.tl .hd)))))) j9 v9 h9)) a1 (fun j9 v9 h9 => hw9.cell0 ((hS5.memA (.tl (.tl (.tl (.tl .hd))))) j9 v9 h9)) a2 (fun j9 v9 h9 => hw9.cell0 ((hS5.memA (.tl (.tl (.tl .hd)))) j9 v9 h9)) hy0) (fun w5 hag0 => ?_)
 obtain ⟨hS6, hT5⟩ := hS5.agr hag0
 refine PN.callD (vs := []) (cap := [vP b3, vP b4]) body51 Tryz.func51 rfl rfl rfl (fun c0 hc0 hk0 => ?_)
 refine MX.sr <| RG.recover1 .plain hc0 rfl <| RG.so rfl <| RG.nil <| MX.sr <| RG.mo rfl ?_
 refine RG.va (FV.neqI Tryz.underlying20 rfl rfl) <| RG.nil <| MX.cond_t rfl <| MX.sr <| RG.mo rfl <| RG.va (FV.assertT (by kernel_rfl) rfl) ?_
 refine RG.mo rfl <| RG.va (FV.extract rfl rfl) <| RG.va (FV.extract rfl rfl) <| RG.new .plain rfl (Does.alloc (zs := [vI 0]) hS6 (zB (by kernel_rfl))) (fun w6 b6 hS7 hT6 => ?_)
 refine RG.now .plain (Acts.storeAll (news := [vI e0.fErrno]) hS7 .hd rfl rfl rfl rfl rfl rfl (o1 rfl)) (fun w8 hS9 hT7 => ?_)
 refine RG.so rfl <| RG.nil <| MX.seq <| MX.sr <| RG.mo rfl <| RG.va (FV.not rfl) ?_
 refine RG.nil <| MX.cond_f rfl <| MX.skip <| MX.sr <| RG.new .plain rfl (Does.alloc (zs := [.int .u64 0, .int .u64 0, .int .u64 0, .int .u64 0, .int .u64 0, .int .u64 0, .int .u64 0, .int .u64 0, .int .u64 0, .int .u64 0, .int .u64 0, .int .u64 0, .int .u64 0, .int .u64 0, .int .u64 0, .int .u64 0]) hS9 (zB (by kernel_rfl))) (fun w53 b7 hS54 hT8 => ?_)
 refine RG.nil <| MX.drawT 3 tb51_6 (by kernel_rfl) (by kernel_rfl) (by kernel_rfl) (fun kt0 kp0 => ?_)
 refine RD.vx 0 1 24 kt0 rfl kp0 (FV.lN rfl (hS54.memA .hd)) rfl <| RD.vw 1 3 kt0 rfl kp0 (fun _ => FV.fa 0 rfl) rfl <| RD.meet (α := Unit) (fun () => [(1, vP b4), (19, vI e0.fErrno)]) (fun () wx0 => St w wx0 [.cells b4 [vI 0] 32, .cells b3 [.int .u64 0, .int .u64 0, .int .u64 0, .int .u64 0, .int .u64 0, .int .u64 0, .int .u64 0, .int .u64 0, .int .u64 0, .int .u64 0, .int .u64 0, .int .u64 0, .int .u64 0, .int .u64 0, .int .u64 0, .int .u64 0] 39, .cells b2 [.int .u64 0, .int .u64 0, .int .u64 0, .int .u64 0, .int .u64 0, .int .u64 0, .int .u64 0, .int .u64 0, .int .u64 0, .int .u64 0, .int .u64 0, .int .u64 0, .int .u64 0, .int .u64 0, .int .u64 0, .int .u64 0] 39, .cells b1 [vI a2] 3, .cells b0 [vI a1] 3, .cells b5 [vI a0.fGroups, vI a0.fParties, vI a0.fLevels, v0_3] 25] ∧ Tr w53 [.cells b7 [.int .u64 0, .int .u64 0, .int .u64 0, .int .u64 0, .int .u64 0, .int .u64 0, .int .u64 0, .int .u64 0, .int .u64 0, .int .u64 0, .int .u64 0, .int .u64 0, .int .u64 0, .int .u64 0, .int .u64 0, .int .u64 0] 39, .cells b6 [vI e0.fErrno] 93, .cells b4 [vI 0] 32, .cells b3 [.int .u64 0, .int .u64 0, .int .u64 0, .int .u64 0, .int .u64 0, .int .u64 0, .int .u64 0, .int .u64 0, .int .u64 0, .int .u64 0, .int .u64 0, .int .u64 0, .int .u64 0, .int .u64 0, .int .u64 0, .int .u64 0] 39, .cells b2 [.int .u64 0, .int .u64 0, .int .u64 0, .int .u64 0, .int .u64 0, .int .u64 0, .int .u64 0, .int .u64 0, .int .u64 0, .int .u64 0, .int .u64 0, .int .u64 0, .int .u64 0, .int .u64 0, .int .u64 0, .int .u64 0] 39, .cells b1 [vI a2] 3, .cells b0 [vI a1] 3, .cells b5 [vI a0.fGroups, vI a0.fParties, vI a0.fLevels, v0_3] 25] wx0 [.cells b4 [vI 0] 32, .cells b3 [.int .u64 0, .int .u64 0, .int .u64 0, .int .u64 0, .int .u64 0, .int .u64 0, .int .u64 0, .int .u64 0, .int .u64 0, .int .u64 0, .int .u64 0, .int .u64 0, .int .u64 0, .int .u64 0, .int .u64 0, .int .u64 0] 39, .cells b2 [.int .u64 0, .int .u64 0, .int .u64 0, .int .u64 0, .int .u64 0, .int .u64 0, .int .u64 0, .int .u64 0, .int .u64 0, .int .u64 0, .int .u64 0, .int .u64 0, .int .u64 0, .int .u64 0, .int .u64 0, .int .u64 0] 39, .cells b1 [vI a2] 3, .cells b0 [vI a1] 3, .cells b5 [vI a0.fGroups, vI a0.fParties, vI a0.fLevels, v0_3] 25]) 1 15 ?_ ?_
 rintro ⟨⟩ wx0 ⟨hS10, hT10⟩
 try dsimp only
 refine RD.nw 4 31 kt0 rfl rfl .plain (Acts.storeAll (news := [vI e0.fErrno]) hS10 .hd rfl rfl rfl rfl rfl rfl (o1 rfl)) (fun w10 hS11 hT11 => ?_)
 refine RD.done (doneD_ok kt0 (by kernel_rfl)) <| MX.fin rfl <| RT.leaveD1 hk0 Tryz.func51 rfl .nil <| RT.leave (u := .tuple #[.agg #[.int .u64 0, .int .u64 0, .int .u64 0, .int .u64 0, .int .u64 0, .int .u64 0, .int .u64 0, .int .u64 0, .int .u64 0, .int .u64 0, .int .u64 0, .int .u64 0, .int .u64 0, .int .u64 0, .int .u64 0, .int .u64 0], vI e0.fErrno]) hb1 Tryz.func21 rfl (.cons (.many (cs := [.int .u64 0, .int .u64 0, .int .u64 0, .int .u64 0, .int .u64 0, .int .u64 0, .int .u64 0, .int .u64 0, .int .u64 0, .int .u64 0, .int .u64 0, .int .u64 0, .int .u64 0, .int .u64 0, .int .u64 0, .int .u64 0]) (by kernel_rfl) rfl (hS11.memA (.tl .hd))) (.cons (.one (by kernel_rfl) rfl ((hS11.memA .hd) 0 _ rfl)) .nil)) rfl <| RG.va (FV.extract rfl rfl) <| RG.va (FV.extract rfl rfl) ?_
 refine RG.now .plain (Acts.storeAll (news := [.int .u64 0, .int .u64 0, .int .u64 0, .int .u64 0, .int .u64 0, .int .u64 0, .int .u64 0, .int .u64 0, .int .u64 0, .int .u64 0, .int .u64 0, .int .u64 0, .int .u64 0, .int .u64 0, .int .u64 0, .int .u64 0]) hS11 (.tl (.tl .hd)) rfl rfl rfl rfl rfl rfl (onesB rfl)) (fun w11 hS12 hT12 => ?_)
 refine RG.so rfl <| RG.nil <| MX.ret rfl <| RT.leave hb0 Tryz.func10 rfl (.cons (.many (cs := [.int .u64 0, .int .u64 0, .int .u64 0, .int .u64 0, .int .u64 0, .int .u64 0, .int .u64 0, .int .u64 0, .int .u64 0, .int .u64 0, .int .u64 0, .int .u64 0, .int .u64 0, .int .u64 0, .int .u64 0, .int .u64 0]) (by kernel_rfl) rfl (hS12.memA (.tl (.tl .hd)))) (.cons (.tmp rfl) .nil)) rfl ?_
 cases h
 exact hS12.gv
 intro hJ1271
 refine RD.each [2, 3] (readyD_ok kt0 (by kernel_rfl)) ⟨?_, ?_, trivial⟩
 refine RO.val (m' := 7) (stepC_ok kt0 (by kernel_rfl)) rfl .plain rfl (FV.l1 rfl ((hS54.memA (.tl .hd)) 0 _ rfl)) <| RD.nw 3 15 kt0 rfl rfl .plain (Acts.storeAll (news := [.int .u64 0, .int .u64 0, .int .u64 0, .int .u64 0, .int .u64 0, .int .u64 0, .int .u64 0, .int .u64 0, .int .u64 0, .int .u64 0, .int .u64 0, .int .u64 0, .int .u64 0, .int .u64 0, .int .u64 0, .int .u64 0]) hS54 (.tl (.tl (.tl .hd))) rfl rfl rfl rfl rfl rfl (onesB rfl)) (fun w13 hS14 hT13 => ?_)
 obtain ⟨hS15, hT15⟩ := St.arrB hS14 (.one (.tl (.tl .hd)) (.one (.tl (.tl .hd)) (.one (.tl (.tl .hd)) (.one (.tl (.tl .hd)) (.one (.tl (.tl .hd)) (.one (.tl (.tl .hd)) .done))))))
 exact hJ1271 () _ _ ⟨rfl, rfl, trivial⟩ ⟨hS15, (Tr.trans hT13 hT15)⟩
 refine RO.now (m' := 11) (stepC_ok kt0 (by kernel_rfl)) rfl rfl .plain (Acts.storeAll (news := [.int .u64 0, .int .u64 0, .int .u64 0, .int .u64 0, .int .u64 0, .int .u64 0, .int .u64 0, .int .u64 0, .int .u64 0, .int .u64 0, .int .u64 0, .int .u64 0, .int .u64 0, .int .u64 0, .int .u64 0, .int .u64 0]) hS54 (.tl (.tl (.tl .hd))) rfl rfl rfl rfl rfl rfl (onesB rfl)) (fun w13 hS14 hT13 => ?_)
 refine RD.vx 2 15 16 kt0 rfl kp0 (FV.l1 rfl ((hS14.memA (.tl .hd)) 0 _ rfl)) rfl ?_
 obtain ⟨hS16, hT16⟩ := St.arrB hS14 (.one (.tl (.tl .hd)) (.one (.tl (.tl .hd)) (.one (.tl (.tl .hd)) (.one (.tl (.tl .hd)) (.one (.tl (.tl .hd)) (.one (.tl (.tl .hd)) .done))))))
 exact hJ1271 () _ _ ⟨rfl, rfl, trivial⟩ ⟨hS16, (Tr.trans hT13 hT16)⟩
 have h := exc_o h
 try dsimp only at h
 refine RG.callq' (v := .agg ((cs_TShare y1)).toArray) (fst := []) (cap := [vP b5, vP b0, vP b1]) .plain body42 rfl evs_nil (fun w9 hw9 => Calls.okp (minority_Fit_1_c n _ w9 (hS5.hL0 hL hw9) a0 (hS5.k0 h0_3 hw9) (fun j9 v9 h9 => hw9.cell0 ((hS5.memA (.tl (.tl (.tl (.tl (.tl .hd)))))) j9 v9 h9)) a1 (fun j9 v9 h9 => hw9.cell0 ((hS5.memA (.tl (.tl (.tl (.tl .hd))))) j9 v9 h9)) a2 (fun j9 v9 h9 => hw9.cell0 ((hS5.memA (.tl (.tl (.tl .hd)))) j9 v9 h9)) hy0)) rfl <| RG.now .plain (Acts.storeAll (news := (cs_TShare y1)) hS5 (.tl .hd) rfl rfl rfl rfl rfl rfl (onesB rfl)) (fun w14 hS17 hT17 => ?_)
 refine RG.now .plain (Acts.storeAll (news := [vI 0]) hS17 .hd rfl rfl rfl rfl rfl rfl (o1 rfl)) (fun w15 hS19 hT18 => ?_)
 refine RG.nil <| MX.ret rfl <| RT.callD (vs := []) (cap := [vP b3, vP b4]) body51 Tryz.func51 rfl rfl rfl (fun c1 hc1 hk1 => ?_)
 refine MX.sr <| RG.recover0 .plain hc1 rfl <| RG.so rfl <| RG.nil <| MX.sr <| RG.mo rfl ?_
 refine RG.va (FV.neqI0 Tryz.underlying20 rfl rfl) <| RG.nil <| MX.cond_f rfl <| MX.skip <| MX.fin rfl <| RT.leaveD0 hc1 hk1 Tryz.func51 rfl .nil ?_
 refine RT.leave (u := .tuple #[.agg ((cs_TShare y1)).toArray, vI 0]) hb1 Tryz.func21 rfl (.cons (.many (cs := (cs_TShare y1)) (by kernel_rfl) rfl (hS19.memA (.tl .hd))) (.cons (.one (by kernel_rfl) rfl ((hS19.memA .hd) 0 _ rfl)) .nil)) rfl <| RG.va (FV.extract rfl rfl) <| RG.va (FV.extract rfl rfl) <| RG.now .plain (Acts.storeAll (news := (cs_TShare y1)) hS19 (.tl (.tl .hd)) rfl rfl rfl rfl rfl rfl (onesB rfl)) (fun w16 hS20 hT20 => ?_)
 refine RG.so rfl <| RG.nil <| MX.ret rfl <| RT.leave hb0 Tryz.func10 rfl (.cons (.many (cs := (cs_TShare y1)) (by kernel_rfl) rfl (hS20.memA (.tl (.tl .hd)))) (.cons (.tmp rfl) .nil)) rfl ?_
 cases h
 exact hS20.gv
def wardmotelaw29_line_1_p (_n : Nat) (a0 : TShare) (a1 : TShare) (a2 : Int) (a3 : TShare) (a4 : TShare) : Option Bool :=
  (if a0 = a3 then (if a1 = a4 then some (decide (a2 = 0)) else some false) else some false)
theorem wardmotelaw29_line_1_c (n : Nat) (L : List Nat) (w : World) (_hL : ∀ b ∈ L, b < w.heap.size) (a0 : TShare) (a1 : TShare) (a2 : Int) (a3 : TShare) {p3 : Nat} (m3 : ∀ j9 v9, ((cs_TShare a3) : List Value)[j9]? = some v9 → w.cell? ((⟨p3, 0, none⟩ : Addr).add j9) = some v9) (a4 : TShare) {p4 : Nat} (m4 : ∀ j9 v9, ((cs_TShare a4) : List Value)[j9]? = some v9 → w.cell? ((⟨p4, 0, none⟩ : Addr).add j9) = some v9)  {r : Bool} (h : wardmotelaw29_line_1_p n a0 a1 a2 a3 a4 = some r) :
    Calls Tryz.prog 43 #[.agg ((cs_TShare a0)).toArray, .agg ((cs_TShare a1)).toArray, vI a2, .pointer (some ⟨p3, 0, none⟩), .pointer (some ⟨p4, 0, none⟩)] w (Gives w fun _ u => u = .bool r) := by
 unfold wardmotelaw29_line_1_p at h
 have hS0 := St.start w
 refine MX.start Tryz.func43 rfl rfl rfl (fun _ cs0 hb0 => ?_)
 refine MX.sr <| RG.new .plain rfl (Does.box (vs := (cs_TShare a0)) hS0 rfl rfl) (fun w2 b5 hS3 hT4 => ?_)
 refine RG.new .plain rfl (Does.box (vs := (cs_TShare a1)) hS3 rfl rfl) (fun w7 b0 hS8 hT9 => ?_)
 refine RG.so rfl <| RG.nil <| MX.sr <| RG.va (FV.lN rfl (hS8.memA (.tl .hd))) <| RG.va (FV.lN rfl (fun j9 v9 h9 => hS8.ag.cell0 (m3 j9 v9 h9))) <| RG.va (FV.eqlV (v := .agg ((cs_TShare a0)).toArray) (u := .agg ((cs_TShare a3)).toArray) rfl rfl (eqlD_39 a0 a3)) ?_
 refine RG.mo rfl <| RG.ifd (s := 12) rfl h (fun c0 h => ?_) (fun c0 h => ?_)
 refine RG.ga (FV.lN rfl (hS8.memA .hd)) <| RG.ga (FV.lN rfl (fun j9 v9 h9 => hS8.ag.cell0 (m4 j9 v9 h9))) <| RG.ga (FV.eqlV (v := .agg ((cs_TShare a1)).toArray) (u := .agg ((cs_TShare a4)).toArray) rfl rfl (eqlD_39 a1 a4)) <| RG.pt rfl rfl <| RG.mo rfl <| RG.ifd (s := 17) rfl h (fun c1 h => ?_) (fun c1 h => ?_)
 refine RG.ga (FV.move rfl) <| RG.ga (FV.eql (i := a2) (j := 0) rfl rfl) <| RG.pt rfl rfl <| RG.so rfl <| RG.nil <| MX.ret rfl ?_
 refine RT.t1 hb0 Tryz.func43 rfl rfl ?_
 cases h
 exact hS8.gv
 refine RG.no <| RG.no <| RG.pf rfl rfl <| RG.so rfl <| RG.nil <| MX.ret rfl ?_
 refine RT.t1 hb0 Tryz.func43 rfl rfl ?_
 cases h
 exact hS8.gv
 refine RG.no <| RG.no <| RG.no <| RG.pf rfl rfl <| RG.mo rfl <| RG.no ?_
 refine RG.no <| RG.pf rfl rfl <| RG.so rfl <| RG.nil <| MX.ret rfl <| RT.t1 hb0 Tryz.func43 rfl rfl ?_
 cases h
 exact hS8.gv
theorem wardmotelaw29_line_c (n : Nat) (L : List Nat) (w : World) (_hL : ∀ b ∈ L, b < w.heap.size) (a0 : TShare) (a1 : TShare)  :
    Calls Tryz.prog 12 #[.agg ((cs_TShare a0)).toArray, .agg ((cs_TShare a1)).toArray] w (Gives w fun w' u => ∃ b5 b0 : Nat, u = .func (.func 43) #[] #[vP b5, vP b0] ∧ St w w' [.cells b5 (cs_TShare a0) 39, .cells b0 (cs_TShare a1) 39]) := by
 have hS0 := St.start w
 refine MX.start Tryz.func12 rfl rfl rfl (fun _ cs0 hb0 => ?_)
 refine MX.sr <| RG.new .plain rfl (Does.box (vs := (cs_TShare a0)) hS0 rfl rfl) (fun w2 b5 hS3 hT4 => ?_)
 refine RG.new .plain rfl (Does.box (vs := (cs_TShare a1)) hS3 rfl rfl) (fun w7 b0 hS8 hT9 => ?_)
 refine RG.so rfl <| RG.nil <| MX.sr <| RG.va (FV.makeFunc (vs := []) (us := [vP b5, vP b0]) evs_nil (e2 rfl rfl)) <| RG.so rfl <| RG.nil ?_
 refine MX.ret rfl <| RT.leave (u := .func (.func 43) #[] #[vP b5, vP b0]) hb0 Tryz.func12 rfl (.cons (.tmp rfl) .nil) rfl ?_
 obtain ⟨hS1, hT0⟩ := St.arrB hS8 (.one (.tl .hd) (.one .hd .done))
 exact ⟨hS1.ag, fun w9 hw9 => ⟨b5, b0, rfl, hS1.agree hw9⟩⟩
def wardmotelaw29_of_p (n : Nat) (a0 : Int) (a1 : Int) : Option TShare :=
  (share_Of_p n a0 a1).bind fun y6 => some y6.1
theorem wardmotelaw29_of_c (n : Nat) (L : List Nat) (w : World) (hL : ∀ b ∈ L, b < w.heap.size) (a0 : Int) (a1 : Int)  {r : TShare} (h : wardmotelaw29_of_p n a0 a1 = some r) :
    Calls Tryz.prog 13 #[vI a0, vI a1] w (Gives w fun _ u => u = .agg ((cs_TShare r)).toArray) := by
 unfold wardmotelaw29_of_p at h
 have hS0 := St.start w
 refine MX.start Tryz.func13 rfl rfl rfl (fun _ cs0 hb0 => ?_)
 refine MX.sr <| RG.new .plain rfl (Does.alloc (zs := [.int .u64 0, .int .u64 0, .int .u64 0, .int .u64 0, .int .u64 0, .int .u64 0, .int .u64 0, .int .u64 0, .int .u64 0, .int .u64 0, .int .u64 0, .int .u64 0, .int .u64 0, .int .u64 0, .int .u64 0, .int .u64 0]) hS0 (zB (by kernel_rfl))) (fun w2 b5 hS3 hT4 => ?_)
 refine RG.nil <| MX.sr <| RG.mo rfl <| RG.mo rfl ?_
 obtain ⟨y6, hy6, h⟩ := bind_in h
 refine RG.cq (.tuple #[.agg ((cs_TShare y6.1)).toArray, vI y6.2]) body44 rfl (e2 rfl rfl) (fun w9 hw9 => share_Of_c n _ w9 (hS3.hL0 hL hw9) a0 a1 hy6) rfl <| RG.mo rfl <| RG.va (FV.extract rfl rfl) <| RG.va (FV.extract rfl rfl) <| RG.new .plain rfl (Does.alloc (zs := [.int .u64 0, .int .u64 0, .int .u64 0, .int .u64 0, .int .u64 0, .int .u64 0, .int .u64 0, .int .u64 0, .int .u64 0, .int .u64 0, .int .u64 0, .int .u64 0, .int .u64 0, .int .u64 0, .int .u64 0, .int .u64 0]) hS3 (zB (by kernel_rfl))) (fun w8 b0 hS9 hT0 => ?_)
 refine RG.now .plain (Acts.storeAll (news := (cs_TShare y6.1)) hS9 .hd rfl rfl rfl rfl rfl rfl (onesB rfl)) (fun w0 hS1 hT1 => ?_)
 refine RG.so rfl <| RG.nil <| MX.sr <| RG.va (FV.lN rfl (hS1.memA .hd)) <| RG.now .plain (Acts.storeAll (news := (cs_TShare y6.1)) hS1 (.tl .hd) rfl rfl rfl rfl rfl rfl (onesB rfl)) (fun w1 hS2 hT2 => ?_)
 refine RG.nil <| MX.ret rfl <| RT.leave hb0 Tryz.func13 rfl (.cons (.many (cs := (cs_TShare y6.1)) (by kernel_rfl) rfl (hS2.memA (.tl .hd))) .nil) rfl ?_
 cases h
 exact hS2.gv
def tb45_1 : List (Nat × Nat × Nat) := [(0, 128, 16), (0, 256, 4), (0, 512, 8), (6, 1024, 768), (9, 2048, 1152), (24, 4096, 2048), (32, 8192, 4098), (96, 16384, 12288), (160, 32768, 20480), (511, 64, 32768)]
theorem body13 : bodyB Tryz.prog 13 = true := by kernel_rfl
def wardmotelaw29_is_1_p (n : Nat) (a0 : TShare) (a1 : Int) (a2 : Int) (a3 : Int) : Option Bool :=
  (wardmotelaw29_of_p n a2 a3).bind fun y8 => (if a0 = y8 then some (decide (a1 = 0)) else some false)
theorem wardmotelaw29_is_1_c (n : Nat) (L : List Nat) (w : World) (hL : ∀ b ∈ L, b < w.heap.size) (a0 : TShare) (a1 : Int) (a2 : Int) {p2 : Nat} (m2 : ∀ j9 v9, ([vI a2] : List Value)[j9]? = some v9 → w.cell? ((⟨p2, 0, none⟩ : Addr).add j9) = some v9) (a3 : Int) {p3 : Nat} (m3 : ∀ j9 v9, ([vI a3] : List Value)[j9]? = some v9 → w.cell? ((⟨p3, 0, none⟩ : Addr).add j9) = some v9)  {r : Bool} (h : wardmotelaw29_is_1_p n a0 a1 a2 a3 = some r) :
    Calls Tryz.prog 45 #[.agg ((cs_TShare a0)).toArray, vI a1, .pointer (some ⟨p2, 0, none⟩), .pointer (some ⟨p3, 0, none⟩)] w (Gives w fun _ u => u = .bool r) := by
 unfold wardmotelaw29_is_1_p at h
 have hS0 := St.start w
 refine MX.start Tryz.func45 rfl rfl rfl (fun _ cs0 hb0 => ?_)
 refine MX.sr <| RG.new .plain rfl (Does.box (vs := (cs_TShare a0)) hS0 rfl rfl) (fun w2 b5 hS3 hT4 => ?_)
 refine RG.so rfl <| RG.nil <| MX.seq <| MX.drawT 10 tb45_1 (by kernel_rfl) (by kernel_rfl) (by kernel_rfl) (fun kt6 kp7 => ?_)
 refine RD.vx 0 1 1008 kt6 rfl kp7 (FV.lN rfl (hS3.memA .hd)) rfl <| RD.vx 1 3 1016 kt6 rfl kp7 (FV.l1 rfl ((fun j9 v9 h9 => hS3.ag.cell0 (m2 j9 v9 h9)) 0 _ rfl)) rfl <| RD.vx 2 7 1016 kt6 rfl kp7 (FV.l1 rfl ((fun j9 v9 h9 => hS3.ag.cell0 (m3 j9 v9 h9)) 0 _ rfl)) rfl ?_
 obtain ⟨y8, hy8, h⟩ := bind_in h
 refine RD.cq 3 15 1008 (.agg ((cs_TShare y8)).toArray) kt6 rfl kp7 body13 rfl (e2 rfl rfl) (fun w9 hw9 => wardmotelaw29_of_c n _ w9 (hS3.hL0 hL hw9) a2 a3 hy8) rfl <| RD.vw 4 31 kt6 rfl kp7 (fun _ => FV.eqlV (v := .agg ((cs_TShare a0)).toArray) (u := .agg ((cs_TShare y8)).toArray) rfl rfl (eqlD_39 a0 y8)) rfl <| RD.vw 5 63 kt6 rfl kp7 (fun _ => FV.move rfl) rfl <| RD.ifd (s := 12) rfl h (fun c9 h => ?_) (fun c9 h => ?_)
 refine RD.vP 6 127 kt6 rfl kp7 (.yes rfl rfl) (fun _ => FV.move rfl) rfl <| RD.vP 7 255 kt6 rfl kp7 (.yes rfl rfl) (fun _ => FV.eql (i := a1) (j := 0) rfl rfl) rfl <| RD.vw 8 511 kt6 rfl kp7 (fun _ => FV.pick_t rfl rfl) rfl <| RD.vw 9 1023 kt6 rfl kp7 (fun _ => FV.assign rfl) rfl <| RD.done (doneD_ok kt6 (by kernel_rfl)) <| MX.ret rfl ?_
 refine RT.t1 hb0 Tryz.func45 rfl rfl ?_
 cases h
 exact hS3.gv
 refine RD.offs 255 2 [(6, 13), (7, 14)] (F := [(12, false)]) (U := []) kt6 kp7 (.cons rfl .nil) .nil ?_
 dsimp only [offS, List.map]
 refine RD.vw 8 511 kt6 rfl kp7 (fun _ => FV.pick_f rfl rfl) rfl <| RD.vw 9 1023 kt6 rfl kp7 (fun _ => FV.assign rfl) rfl <| RD.done (doneD_ok kt6 (by kernel_rfl)) <| MX.ret rfl <| RT.t1 hb0 Tryz.func45 rfl rfl ?_
 cases h
 exact hS3.gv
theorem wardmotelaw29_is_c (n : Nat) (L : List Nat) (w : World) (_hL : ∀ b ∈ L, b < w.heap.size) (a0 : Int) (a1 : Int)  :
    Calls Tryz.prog 14 #[vI a0, vI a1] w (Gives w fun w' u => ∃ b5 b0 : Nat, u = .func (.func 45) #[] #[vP b5, vP b0] ∧ St w w' [.cells b5 [vI a0] 3, .cells b0 [vI a1] 3]) := by
 have hS0 := St.start w
 refine MX.start Tryz.func14 rfl rfl rfl (fun _ cs0 hb0 => ?_)
 refine MX.sr <| RG.new .plain rfl (Does.box (vs := [vI a0]) hS0 rfl rfl) (fun w2 b5 hS3 hT4 => ?_)
 refine RG.new .plain rfl (Does.box (vs := [vI a1]) hS3 rfl rfl) (fun w7 b0 hS8 hT9 => ?_)
 refine RG.so rfl <| RG.nil <| MX.sr <| RG.va (FV.makeFunc (vs := []) (us := [vP b5, vP b0]) evs_nil (e2 rfl rfl)) <| RG.so rfl <| RG.nil ?_
 refine MX.ret rfl <| RT.leave (u := .func (.func 45) #[] #[vP b5, vP b0]) hb0 Tryz.func14 rfl (.cons (.tmp rfl) .nil) rfl ?_
 obtain ⟨hS1, hT0⟩ := St.arrB hS8 (.one (.tl .hd) (.one .hd .done))
 exact ⟨hS1.ag, fun w9 hw9 => ⟨b5, b0, rfl, hS1.agree hw9⟩⟩
def tb15_6 : List (Nat × Nat × Nat) := [(0, 65536, 1), (0, 131072, 32), (3, 262144, 196608), (4, 524288, 262144), (0, 1048576, 2), (0, 2097152, 32), (48, 4194304, 3145728), (64, 8388608, 4194304), (136, 16777216, 8912896)]
def slices_Equal_api_Share_api_Share_l1 (_n : Nat) (a0 : List TShare) (a1 : List TShare) (J0 : Nat → Option (Bool ⊕ Unit)) : Nat → Option (Bool ⊕ Unit)
  | i0 => (if i0 < a0.length then (a0[i0]?).bind fun x0 => (a1[i0]?).bind fun x1 => (if x0 = x1 then J0 (i0 + 1) else some (.inl false)) else some (.inr ()))
def slices_Equal_api_Share_api_Share_p (n : Nat) (a0 : List TShare) (a1 : List TShare) : Option Bool :=
  (if a0.length = a1.length then thn (loopF (slices_Equal_api_Share_api_Share_l1 n a0 a1) n 0) (fun _ => some true) else some false)
theorem slices_Equal_api_Share_api_Share_c (n : Nat) (L : List Nat) (w : World) (_hL : ∀ b ∈ L, b < w.heap.size) (a0 : List TShare) {v0_0 : Value} (h0_0 : Rep.R w L [v0_0] a0) (a1 : List TShare) {v1_0 : Value} (h1_0 : Rep.R w L [v1_0] a1)  {r : Bool} (h : slices_Equal_api_Share_api_Share_p n a0 a1 = some r) :
    Calls Tryz.prog 15 #[v0_0, v1_0] w (Gives w fun _ u => u = .bool r) := by
 unfold slices_Equal_api_Share_api_Share_p at h
 have hS0 := St.start w
 refine MX.start Tryz.func15 rfl rfl rfl (fun _ cs0 hb0 => ?_)
 refine MX.sr <| RG.so rfl <| RG.nil <| MX.seq <| MX.sr <| RG.mo rfl ?_
 have hl1 : a0.length ≤ 281474976710656 := Rep.lenle h0_0
 refine RG.va (FV.len (xs := a0) Tryz.underlying31 rfl h0_0) <| RG.mo rfl ?_
 have hl2 : a1.length ≤ 281474976710656 := Rep.lenle h1_0
 refine RG.va (FV.len (xs := a1) Tryz.underlying31 rfl h1_0) <| RG.va (FV.neqN (i := a0.length) (j := a1.length) rfl rfl) <| RG.nil <| MX.ifn rfl h (fun c3 h => ?_) (fun c3 h => ?_)
 refine MX.skip <| MX.seq <| MX.sr <| RG.mo rfl <| RG.va (FV.len (xs := a0) Tryz.underlying31 rfl h0_0) <| RG.mo rfl ?_
 refine RG.nil <| MX.block ?_
 obtain ⟨o0, ho35, hh37⟩ := thn_in h
 refine MX.loop (α := Nat) (fun i0 => [(0, v0_0), (1, v1_0), (12, vI ((a0.length : Nat) : Int)), (13, vI ((i0 : Nat) : Int))]) (fun i0 wx0 => St w wx0 [] ∧ Tr w [] wx0 []) (fun i0 => i0) 0 ho35 ⟨rfl, rfl, rfl, rfl, trivial⟩ ⟨hS0, Tr.refl _ _⟩ ?_
 rintro J0 i0 wx0 hJ39 ⟨hS1, hT0⟩ h
 unfold slices_Equal_api_Share_api_Share_l1 at h
 try dsimp only at h
 refine MX.sr <| RG.va (FV.lssN (i := i0) (j := a0.length) rfl rfl) <| RG.nil <| MX.seq <| MX.ifd rfl h (fun c0 h => ?_) (fun c0 h => ?_)
 refine MX.skip <| MX.seq <| MX.block <| MX.sr <| RG.mo rfl <| RG.so rfl ?_
 refine RG.nil <| MX.seq <| MX.drawT 9 tb15_6 (by kernel_rfl) (by kernel_rfl) (by kernel_rfl) (fun kt0 kp0 => ?_)
 refine RD.vw 0 1 kt0 rfl kp0 (fun _ => FV.move rfl) rfl <| RD.vw 1 3 kt0 rfl kp0 (fun _ => FV.move rfl) rfl ?_
 obtain ⟨x0, hx0, h⟩ := bind_in h
 have hm0 := Rep.mv0 h0_0 hS1
 obtain ⟨A44, c1, he0, hk0, cs1, hr0, hm1⟩ := Rep.nth hm0 hx0
 obtain rfl := op_TShare hr0
 refine RD.vw 2 7 kt0 rfl kp0 (fun _ => FV.ia 16 i0 rfl he0 rfl rfl hk0) rfl <| RD.vx 3 15 256 kt0 rfl kp0 (FV.lN rfl hm1) rfl <| RD.vw 4 31 kt0 rfl kp0 (fun _ => FV.move rfl) rfl <| RD.vw 5 63 kt0 rfl kp0 (fun _ => FV.move rfl) rfl ?_
 obtain ⟨x1, hx1, h⟩ := bind_in h
 have hm2 := Rep.mv0 h1_0 hS1
 obtain ⟨A53, c2, he1, hk1, cs2, hr1, hm3⟩ := Rep.nth hm2 hx1
 obtain rfl := op_TShare hr1
 refine RD.vw 6 127 kt0 rfl kp0 (fun _ => FV.ia 16 i0 rfl he1 rfl rfl hk1) rfl <| RD.vx 7 255 256 kt0 rfl kp0 (FV.lN rfl hm3) rfl <| RD.vw 8 511 kt0 rfl kp0 (fun _ => FV.neqV (xs := ((cs_TShare x0)).toArray) (ys := ((cs_TShare x1)).toArray) rfl rfl (by kernel_rfl) (eqlD_39 x0 x1)) rfl <| RD.done (doneD_ok kt0 (by kernel_rfl)) <| MX.ifn rfl h (fun c4 h => ?_) (fun c4 h => ?_)
 refine MX.skip <| MX.inBlock <| MX.region <| RG.va (FV.addN (i := i0) (j := 1) rfl rfl (by omega)) <| RG.mo rfl <| RG.nil ?_
 exact hJ39 (i0 + 1) _ _ ⟨rfl, rfl, rfl, rfl, trivial⟩ ⟨hS1, hT0⟩ h
 refine MX.sr <| RG.so rfl <| RG.nil ?_
 have h := thn_inl h hh37
 refine MX.ret rfl <| RT.t1 hb0 Tryz.func15 rfl rfl ?_
 cases h
 exact hS1.gv
 refine MX.exit rfl ?_
 have h := thn_inr h hh37
 try dsimp only at h
 refine MX.sr <| RG.so rfl <| RG.nil <| MX.ret rfl <| RT.t1 hb0 Tryz.func15 rfl rfl ?_
 cases h
 exact hS1.gv
 refine MX.sr <| RG.so rfl <| RG.nil <| MX.ret rfl <| RT.t1 hb0 Tryz.func15 rfl rfl ?_
 cases h
 exact hS0.gv
def tb47_6 : List (Nat × Nat × Nat) := [(0, 65536, 1), (0, 131072, 32), (3, 262144, 196608), (4, 524288, 262144), (0, 1048576, 2), (0, 2097152, 32), (48, 4194304, 3145728), (64, 8388608, 4194304), (136, 16777216, 8912896)]
def slices_Equal_int_int_l1 (_n : Nat) (a0 : List Int) (a1 : List Int) (J0 : Nat → Option (Bool ⊕ Unit)) : Nat → Option (Bool ⊕ Unit)
  | i32 => (if i32 < a0.length then (a0[i32]?).bind fun x0 => (a1[i32]?).bind fun x1 => (if x0 = x1 then J0 (i32 + 1) else some (.inl false)) else some (.inr ()))
def slices_Equal_int_int_p (n : Nat) (a0 : List Int) (a1 : List Int) : Option Bool :=
  (if a0.length = a1.length then thn (loopF (slices_Equal_int_int_l1 n a0 a1) n 0) (fun _ => some true) else some false)
theorem slices_Equal_int_int_c (n : Nat) (L : List Nat) (w : World) (_hL : ∀ b ∈ L, b < w.heap.size) (a0 : List Int) {v0_0 : Value} (h0_0 : Rep.R w L [v0_0] a0) (a1 : List Int) {v1_0 : Value} (h1_0 : Rep.R w L [v1_0] a1)  {r : Bool} (h : slices_Equal_int_int_p n a0 a1 = some r) :
    Calls Tryz.prog 47 #[v0_0, v1_0] w (Gives w fun _ u => u = .bool r) := by
 unfold slices_Equal_int_int_p at h
 have hS0 := St.start w
 refine MX.start Tryz.func47 rfl rfl rfl (fun _ cs0 hb0 => ?_)
 refine MX.sr <| RG.so rfl <| RG.nil <| MX.seq <| MX.sr <| RG.mo rfl ?_
 have hl1 : a0.length ≤ 281474976710656 := Rep.lenle h0_0
 refine RG.va (FV.len (xs := a0) Tryz.underlying27 rfl h0_0) <| RG.mo rfl ?_
 have hl2 : a1.length ≤ 281474976710656 := Rep.lenle h1_0
 refine RG.va (FV.len (xs := a1) Tryz.underlying27 rfl h1_0) <| RG.va (FV.neqN (i := a0.length) (j := a1.length) rfl rfl) <| RG.nil <| MX.ifn rfl h (fun c3 h => ?_) (fun c3 h => ?_)
 refine MX.skip <| MX.seq <| MX.sr <| RG.mo rfl <| RG.va (FV.len (xs := a0) Tryz.underlying27 rfl h0_0) <| RG.mo rfl ?_
 refine RG.nil <| MX.block ?_
 obtain ⟨o0, ho37, hh39⟩ := thn_in h
 refine MX.loop (α := Nat) (fun i32 => [(0, v0_0), (1, v1_0), (12, vI ((a0.length : Nat) : Int)), (13, vI ((i32 : Nat) : Int))]) (fun i32 wx0 => St w wx0 [] ∧ Tr w [] wx0 []) (fun i32 => i32) 0 ho37 ⟨rfl, rfl, rfl, rfl, trivial⟩ ⟨hS0, Tr.refl _ _⟩ ?_
 rintro J0 i32 wx0 hJ41 ⟨hS1, hT0⟩ h
 unfold slices_Equal_int_int_l1 at h
 try dsimp only at h
 refine MX.sr <| RG.va (FV.lssN (i := i32) (j := a0.length) rfl rfl) <| RG.nil <| MX.seq <| MX.ifd rfl h (fun c0 h => ?_) (fun c0 h => ?_)
 refine MX.skip <| MX.seq <| MX.block <| MX.sr <| RG.mo rfl <| RG.so rfl ?_
 refine RG.nil <| MX.seq <| MX.drawT 9 tb47_6 (by kernel_rfl) (by kernel_rfl) (by kernel_rfl) (fun kt0 kp0 => ?_)
 refine RD.vw 0 1 kt0 rfl kp0 (fun _ => FV.move rfl) rfl <| RD.vw 1 3 kt0 rfl kp0 (fun _ => FV.move rfl) rfl ?_
 obtain ⟨x0, hx0, h⟩ := bind_in h
 have hm0 := Rep.mv0 h0_0 hS1
 obtain ⟨A46, c1, he0, hk0, cs1, hr0, hm1⟩ := Rep.nth hm0 hx0
 have he1 : cs1 = [vI x0] := hr0; subst he1
 refine RD.vw 2 7 kt0 rfl kp0 (fun _ => FV.ia 1 i32 rfl he0 rfl rfl hk0) rfl <| RD.vx 3 15 256 kt0 rfl kp0 (FV.l1 rfl (hm1 0 _ rfl)) rfl <| RD.vw 4 31 kt0 rfl kp0 (fun _ => FV.move rfl) rfl <| RD.vw 5 63 kt0 rfl kp0 (fun _ => FV.move rfl) rfl ?_
 obtain ⟨x1, hx1, h⟩ := bind_in h
 have hm2 := Rep.mv0 h1_0 hS1
 obtain ⟨A56, c2, he2, hk1, cs2, hr1, hm3⟩ := Rep.nth hm2 hx1
 have he3 : cs2 = [vI x1] := hr1; subst he3
 refine RD.vw 6 127 kt0 rfl kp0 (fun _ => FV.ia 1 i32 rfl he2 rfl rfl hk1) rfl <| RD.vx 7 255 256 kt0 rfl kp0 (FV.l1 rfl (hm3 0 _ rfl)) rfl <| RD.vw 8 511 kt0 rfl kp0 (fun _ => FV.neq (i := x0) (j := x1) rfl rfl) rfl <| RD.done (doneD_ok kt0 (by kernel_rfl)) <| MX.ifn rfl h (fun c4 h => ?_) (fun c4 h => ?_)
 refine MX.skip <| MX.inBlock <| MX.region <| RG.va (FV.addN (i := i32) (j := 1) rfl rfl (by omega)) <| RG.mo rfl <| RG.nil ?_
 exact hJ41 (i32 + 1) _ _ ⟨rfl, rfl, rfl, rfl, trivial⟩ ⟨hS1, hT0⟩ h
 refine MX.sr <| RG.so rfl <| RG.nil ?_
 have h := thn_inl h hh39
 refine MX.ret rfl <| RT.t1 hb0 Tryz.func47 rfl rfl ?_
 cases h
 exact hS1.gv
 refine MX.exit rfl ?_
 have h := thn_inr h hh39
 try dsimp only at h
 refine MX.sr <| RG.so rfl <| RG.nil <| MX.ret rfl <| RT.t1 hb0 Tryz.func47 rfl rfl ?_
 cases h
 exact hS1.gv
 refine MX.sr <| RG.so rfl <| RG.nil <| MX.ret rfl <| RT.t1 hb0 Tryz.func47 rfl rfl ?_
 cases h
 exact hS0.gv
theorem body47 : bodyB Tryz.prog 47 = true := by kernel_rfl
def wardmotelaw29_lists_1_p (n : Nat) (a0 : List Int) (a1 : Int) (a2 : List Int) : Option Bool :=
  (slices_Equal_int_int_p n a0 a2).bind fun y1 => (if y1 = true then some (decide (a1 = 0)) else some false)
theorem wardmotelaw29_lists_1_c (n : Nat) (L : List Nat) (w : World) (hL : ∀ b ∈ L, b < w.heap.size) (a0 : List Int) {v0_0 : Value} (h0_0 : Rep.R w L [v0_0] a0) (a1 : Int) (a2 : List Int) {v2_0 : Value} (h2_0 : Rep.R w L [v2_0] a2) {p2 : Nat} (m2 : ∀ j9 v9, ([v2_0] : List Value)[j9]? = some v9 → w.cell? ((⟨p2, 0, none⟩ : Addr).add j9) = some v9)  {r : Bool} (h : wardmotelaw29_lists_1_p n a0 a1 a2 = some r) :
    Calls Tryz.prog 46 #[v0_0, vI a1, .pointer (some ⟨p2, 0, none⟩)] w (Gives w fun _ u => u = .bool r) := by
 unfold wardmotelaw29_lists_1_p at h
 have hS0 := St.start w
 refine MX.start Tryz.func46 rfl rfl rfl (fun _ cs0 hb0 => ?_)
 refine MX.sr <| RG.so rfl <| RG.nil <| MX.sr <| RG.mo rfl <| RG.l1 rfl ((fun j9 v9 h9 => hS0.ag.cell0 (m2 j9 v9 h9)) 0 _ rfl) ?_
 obtain ⟨y1, hy1, h⟩ := bind_in h
 refine RG.cq (.bool y1) body47 rfl (e2 rfl rfl) (fun w9 hw9 => slices_Equal_int_int_c n _ w9 (hS0.hL0 hL hw9) a0 (hS0.kd h0_0 hw9) a2 (hS0.kd h2_0 hw9) hy1) rfl <| RG.mo rfl <| RG.ifb (s := 9) rfl h (fun c2 h => ?_) (fun c2 h => ?_)
 refine RG.ga (FV.move rfl) <| RG.ga (FV.eql (i := a1) (j := 0) rfl rfl) <| RG.pt rfl rfl <| RG.so rfl <| RG.nil <| MX.ret rfl ?_
 refine RT.t1 hb0 Tryz.func46 rfl rfl ?_
 cases h
 exact hS0.gv
 refine RG.no <| RG.no <| RG.pf rfl rfl <| RG.so rfl <| RG.nil <| MX.ret rfl ?_
 refine RT.t1 hb0 Tryz.func46 rfl rfl ?_
 cases h
 exact hS0.gv
theorem wardmotelaw29_lists_c (n : Nat) (L : List Nat) (w : World) (_hL : ∀ b ∈ L, b < w.heap.size) (a0 : List Int) {v0_0 : Value} (h0_0 : Rep.R w L [v0_0] a0)  :
    Calls Tryz.prog 16 #[v0_0] w (Gives w fun w' u => ∃ b5 : Nat, u = .func (.func 46) #[] #[vP b5] ∧ St w w' [.cells b5 [v0_0] 27]) := by
 have hS0 := St.start w
 refine MX.start Tryz.func16 rfl rfl rfl (fun _ cs0 hb0 => ?_)
 refine MX.sr <| RG.new .plain rfl (Does.box (vs := [v0_0]) hS0 rfl (Rep.c1 h0_0)) (fun w2 b5 hS3 hT4 => ?_)
 refine RG.so rfl <| RG.nil <| MX.sr <| RG.va (FV.makeFunc (vs := []) (us := [vP b5]) evs_nil (e1 rfl)) <| RG.so rfl <| RG.nil ?_
 refine MX.ret rfl <| RT.leave (u := .func (.func 46) #[] #[vP b5]) hb0 Tryz.func16 rfl (.cons (.tmp rfl) .nil) rfl ?_
 exact ⟨hS3.ag, fun w9 hw9 => ⟨b5, rfl, hS3.agree hw9⟩⟩
def tb4_5 : List (Nat × Nat × Nat) := [(0, 8589934592, 16), (1, 17179869184, 8589934592), (2, 34359738368, 17179869184), (4, 68719476736, 34359738376), (4, 137438953472, 34359738368), (20, 274877906944, 34359738368), (52, 549755813888, 446676598784), (108, 1099511627776, 652835028992), (132, 2199023255552, 1133871366144), (384, 4398046511104, 2199023255552), (512, 8796093022208, 4398046511104), (1536, 17592186044416, 13194139533312), (512, 35184372088832, 4398046511106), (512, 70368744177664, 4398046511108), (2560, 140737488355328, 4398046511104), (29184, 281474976710656, 250688651132928), (33280, 562949953421312, 285873023221760), (33280, 1125899906842624, 285873023221760), (231936, 2251799813685248, 1710840092819456), (262656, 4503599627370496, 2256197860196352), (786432, 9007199254740992, 4503599627370496), (1048576, 18014398509481984, 9007199254740992), (1048576, 36028797018963968, 9007199254740994), (1048576, 72057594037927936, 9007199254740996), (15728640, 144115188075855872, 117093590311632896), (17825792, 288230376151711744, 153122387330596864), (17825792, 576460752303423488, 153122387330596864), (120586240, 1152921504606846976, 891712726219358208), (135266304, 2305843009213693952, 1161928703861587968), (402653184, 4611686018427387904, 2305843009213693952), (536870912, 9223372036854775808, 4611686018427387904), (1610612736, 18446744073709551616, 4611686018427387904), (3758096384, 36893488147419103232, 32281802128991715328), (536870912, 73786976294838206464, 4611686018427387906), (13421772800, 147573952589676412928, 78398662313265594368), (17716740096, 295147905179352825856, 152185638608103800832), (17716740096, 590295810358705651712, 152185638608103800832), (17716740096, 1180591620717411303424, 152185638608103800832), (262529875968, 2361183241434822606848, 2107540510421316272128), (275414777856, 4722366482869645213696, 2365794927453249994752), (824633720832, 9444732965739290427392, 4722366482869645213696), (1099511627776, 18889465931478580854784, 9444732965739290427392), (1099511627776, 37778931862957161709568, 9444732965739290427394), (7696581394432, 75557863725914323419136, 47223664828696452136960), (9895604649984, 151115727451828646838272, 85002596691653613846528), (9895604649984, 302231454903657293676544, 85002596691653613846528), (64871186038784, 604462909807314587353088, 481681381252703811796992), (71468255805440, 1208925819614629174706176, 613907642773053877780480), (211106232532992, 2417851639229258349412352, 1208925819614629174706176), (281474976710656, 4835703278458516698824704, 2417851639229258349412480), (844424930131968, 9671406556917033397649408, 7253554917687775048237056), (1407374883553280, 19342813113834066795298816, 12089258196146291747061760), (2533274790395904, 38685626227668133590597632, 19342813113834066795298816), (4503599627370496, 77371252455336267181195264, 38685626227668133590598144), (13510798882111488, 154742504910672534362390528, 116056878683004400771792896), (22517998136852480, 309485009821345068724781056, 193428131138340667952988160), (72057594037927935, 1, 309485009821345068724781056)]
theorem el28 : ElT Tryz.prog 28 3 (Rep.size Int) 8 (vI 0) [vI 0] := ⟨Tryz.underlying28, by kernel_rfl, rfl, rfl, rfl, rfl⟩
theorem body5 : bodyB Tryz.prog 5 = true := by kernel_rfl
theorem body6 : bodyB Tryz.prog 6 = true := by kernel_rfl
theorem body7 : bodyB Tryz.prog 7 = true := by kernel_rfl
theorem body8 : bodyB Tryz.prog 8 = true := by kernel_rfl
theorem body9 : bodyB Tryz.prog 9 = true := by kernel_rfl
theorem body10 : bodyB Tryz.prog 10 = true := by kernel_rfl
theorem body12 : bodyB Tryz.prog 12 = true := by kernel_rfl
theorem body14 : bodyB Tryz.prog 14 = true := by kernel_rfl
theorem body15 : bodyB Tryz.prog 15 = true := by kernel_rfl
theorem body16 : bodyB Tryz.prog 16 = true := by kernel_rfl
theorem body43 : bodyB Tryz.prog 43 = true := by kernel_rfl
theorem body45 : bodyB Tryz.prog 45 = true := by kernel_rfl
theorem body46 : bodyB Tryz.prog 46 = true := by kernel_rfl
def wardmotelaw29_works_p (n : Nat) : Option Bool :=
  (wardmotelaw29_example_p n).bind fun y1 => (minority_Shares_p n y1 ([(0 : Int), (0 : Int), (1 : Int)] : List Int) (2 : Int) (0 : Int)).bind fun y0 => (minority_Line_p n y1 (1 : Int) (0 : Int)).bind fun y2 => (minority_Shares_p n (⟨(0 : Int), (0 : Int), (0 : Int), ([(⟨⟨#[97]⟩, (0 : Int), ([] : List Int), ([] : List Int), ([] : List Int), false⟩ : TUnit), (⟨⟨#[98]⟩, (0 : Int), ([] : List Int), ([] : List Int), ([] : List Int), false⟩ : TUnit)] : List TUnit)⟩ : TRoll) ([(0 : Int), (1 : Int)] : List Int) (2 : Int) (0 : Int)).bind fun y3 => (if y0.2 = 0 then (wardmotelaw29_of_p n (1 : Int) (4 : Int)).bind fun y4 => (wardmotelaw29_of_p n (1 : Int) (10 : Int)).bind fun y5 => (slices_Equal_api_Share_api_Share_p n y0.1 ([y4, y5] : List TShare)).bind fun y6 => (if y6 = true then (wardmotelaw29_of_p n (1 : Int) (5 : Int)).bind fun y7 => (minority_Majority_p n y1 ([(0 : Int), (0 : Int), (1 : Int)] : List Int) (2 : Int) (0 : Int) y7).bind fun y8 => (wardmotelaw29_lists_1_p n y8.1 y8.2 ([(0 : Int)] : List Int)).bind fun y9 => (if y9 = true then (minority_Index_p n y1 ([(0 : Int), (0 : Int), (1 : Int)] : List Int) (2 : Int) (0 : Int)).bind fun y10 => (wardmotelaw29_is_1_p n y10.1 y10.2 (20 : Int) (77 : Int)).bind fun y11 => (if y11 = true then (wardmotelaw29_of_p n (14 : Int) (9 : Int)).bind fun y12 => (wardmotelaw29_of_p n (-1 : Int) (45 : Int)).bind fun y13 => (minority_Line_p n y1 (0 : Int) (0 : Int)).bind fun y14 => (wardmotelaw29_line_1_p n y14.1 y14.2.1 y14.2.2 y12 y13).bind fun y15 => (if y15 = true then (minority_Fit_p n y1 (0 : Int) (0 : Int)).bind fun y16 => (wardmotelaw29_is_1_p n y16.1 y16.2 (49 : Int) (51 : Int)).bind fun y17 => (if y17 = true then (if y2.2.2 = 2 then some (decide (y3.2 = 2)) else some false) else some false) else some false) else some false) else some false) else some false) else some false)
theorem wardmotelaw29_works_c (n : Nat) (L : List Nat) (w : World) (hL : ∀ b ∈ L, b < w.heap.size)  {r : Bool} (h : wardmotelaw29_works_p n = some r) :
    Calls Tryz.prog 4 #[] w (Gives w fun _ u => u = .bool r) := by
 unfold wardmotelaw29_works_p at h
 have hS0 := St.start w
 refine MX.start Tryz.func4 rfl rfl rfl (fun _ cs0 hb0 => ?_)
 refine MX.sr <| RG.so rfl <| RG.nil <| MX.sr ?_
 obtain ⟨y1, hy1, h⟩ := bind_in h
 refine RG.call' (fst := []) (cap := []) .plain body5 rfl evs_nil (fun w9 hw9 => own_gives (b0 := w.heap.size) (wardmotelaw29_example_c n _ w9 (hS0.hL hL hw9)  hy1) hw9 (Nat.le_trans hS0.ag.size hw9.size)) rfl (fun w2 vu3 hag4 ⟨v9, cs1, hu6, s5, hc0⟩ => ?_)
 subst hu6
 have hS7 := own_push hS0 s5
 have hT8 := own_tr hS0 s5
 have hc1 := Cells.at_ (cs := cs1) (xs := (y1.fUnits : List TUnit)) hS7 L (own_cells hc0)
 refine RG.new .plain rfl (Does.build (α := Int) (xs := ([(0 : Int), (0 : Int), (1 : Int)] : List Int)) (vs := [vI 0, vI 0, vI 1]) (ds' := [vI 0, vI 0, vI 1]) rfl hS7 el28 rfl (e3 rfl rfl rfl) (by kernel_rfl) rfl) (fun w0 b1 hS1 hT0 => ?_)
 have hc2 := Cells.at_ (cs := [vI 0, vI 0, vI 1]) (xs := (([(0 : Int), (0 : Int), (1 : Int)] : List Int) : List Int)) hS1 L (Cells.cons (cs := [vI 0]) (ds := [vI 0, vI 1]) rfl (Cells.cons (cs := [vI 0]) (ds := [vI 1]) rfl (Cells.cons (cs := [vI 1]) (ds := []) rfl (Cells.nil _ _))))
 refine RG.new .plain rfl (Does.alloc (zs := [vI 0, vI 0, vI 0, vN]) hS1 (zB (by kernel_rfl))) (fun w1 b2 hS2 hT1 => ?_)
 refine RG.now .plain (Acts.storeAll (news := [vI y1.fGroups, vI y1.fParties, vI y1.fLevels, v9]) hS2 .hd rfl rfl rfl rfl rfl rfl (o4 rfl rfl rfl (St.o1 (α := TUnit) hS2 (.tl (.tl .hd))))) (fun w3 hS3 hT2 => ?_)
 refine RG.so rfl <| RG.nil <| MX.sr <| RG.va (FV.lN rfl (hS3.memA .hd)) <| RG.mo rfl ?_
 have hq32 := Tr.trans hT0 (Tr.trans hT1 hT2)
 have hm0 := Cells.mv hc1 hq32
 have hr0 := St.freeze (α := TUnit) hS3 (.tl (.tl .hd)) hm0 hL
 have hS4 := St.delS hS3 (.tl (.tl .hd))
 have hT3 := St.delT hS3 (.tl (.tl .hd))
 have hr1 := Rep.at_ (α := TUnit) (v := v9) (xs := y1.fUnits) hS4 L hr0
 have hq38 := Tr.trans hT1 (Tr.trans hT2 hT3)
 have hm1 := Cells.mv hc2 hq38
 have hr2 := St.freeze (α := Int) hS4 (.tl .hd) hm1 hL
 have hS5 := St.delS hS4 (.tl .hd)
 have hT4 := St.delT hS4 (.tl .hd)
 have hr3 := Rep.at_ (α := Int) (v := (vS b1 3)) (xs := ([(0 : Int), (0 : Int), (1 : Int)] : List Int)) hS5 L hr2
 obtain ⟨y0, hy0, h⟩ := bind_in h
 have hm2 := Rep.mv hr1 hT4
 refine RG.call' (fst := []) (cap := []) .plain body6 rfl (e4 rfl rfl rfl rfl) (fun w9 hw9 => minority_Shares_c n _ w9 (hS5.hL hL hw9) y1 (Rep.keep0 hm2 hw9) ([(0 : Int), (0 : Int), (1 : Int)] : List Int) (Rep.keep0 hr3 hw9) (2 : Int) (0 : Int) hy0) rfl (fun w4 vu0 hag0 ⟨v0, hu_, hr4⟩ => ?_)
 subst hu_
 obtain ⟨hS6, hT5⟩ := hS5.agr hag0
 refine RG.mo rfl <| RG.va (FV.extract rfl rfl) <| RG.va (FV.extract rfl rfl) <| RG.so rfl <| RG.so rfl <| RG.nil ?_
 refine MX.sr <| RG.va (FV.lN rfl (hS6.memA .hd)) ?_
 obtain ⟨y2, hy2, h⟩ := bind_in h
 have hm3 := Rep.mv hr1 (Tr.trans hT4 hT5)
 refine RG.cq (.tuple #[.agg ((cs_TShare y2.1)).toArray, .agg ((cs_TShare y2.2.1)).toArray, vI y2.2.2]) body9 rfl (e3 rfl rfl rfl) (fun w9 hw9 => minority_Line_c n _ w9 (hS6.hL0 hL hw9) y1 (hS6.kd hm3 hw9) (1 : Int) (0 : Int) hy2) rfl <| RG.mo rfl <| RG.va (FV.extract rfl rfl) <| RG.va (FV.extract rfl rfl) <| RG.va (FV.extract rfl rfl) <| RG.new .plain rfl (Does.alloc (zs := [.int .u64 0, .int .u64 0, .int .u64 0, .int .u64 0, .int .u64 0, .int .u64 0, .int .u64 0, .int .u64 0, .int .u64 0, .int .u64 0, .int .u64 0, .int .u64 0, .int .u64 0, .int .u64 0, .int .u64 0, .int .u64 0]) hS6 (zB (by kernel_rfl))) (fun w5 b3 hS8 hT6 => ?_)
 refine RG.new .plain rfl (Does.alloc (zs := [.int .u64 0, .int .u64 0, .int .u64 0, .int .u64 0, .int .u64 0, .int .u64 0, .int .u64 0, .int .u64 0, .int .u64 0, .int .u64 0, .int .u64 0, .int .u64 0, .int .u64 0, .int .u64 0, .int .u64 0, .int .u64 0]) hS8 (zB (by kernel_rfl))) (fun w6 b4 hS9 hT7 => ?_)
 refine RG.now .plain (Acts.storeAll (news := (cs_TShare y2.1)) hS9 (.tl .hd) rfl rfl rfl rfl rfl rfl (onesB rfl)) (fun w7 hS62 hT9 => ?_)
 refine RG.now .plain (Acts.storeAll (news := (cs_TShare y2.2.1)) hS62 .hd rfl rfl rfl rfl rfl rfl (onesB rfl)) (fun w64 hS65 hT66 => ?_)
 refine RG.so rfl <| RG.nil <| MX.sr <| RG.va (FV.buildV (vs := [.string ⟨#[97]⟩]) (u := .agg #[.string ⟨#[97]⟩, vI 0, vN, vN, vN, .bool false]) (e1 rfl) (fun w9 => by kernel_rfl)) <| RG.va (FV.buildV (vs := [.string ⟨#[98]⟩]) (u := .agg #[.string ⟨#[98]⟩, vI 0, vN, vN, vN, .bool false]) (e1 rfl) (fun w9 => by kernel_rfl)) ?_
 have hr5 := Rep.nilAt (α := Int) hS65 L
 refine RG.new .plain rfl (Does.build (α := TUnit) (xs := ([(⟨⟨#[97]⟩, (0 : Int), ([] : List Int), ([] : List Int), ([] : List Int), false⟩ : TUnit), (⟨⟨#[98]⟩, (0 : Int), ([] : List Int), ([] : List Int), ([] : List Int), false⟩ : TUnit)] : List TUnit)) (vs := [.agg #[.string ⟨#[97]⟩, vI 0, vN, vN, vN, .bool false], .agg #[.string ⟨#[98]⟩, vI 0, vN, vN, vN, .bool false]]) (ds' := [.string ⟨#[97]⟩, vI 0, vN, vN, vN, .bool false, .string ⟨#[98]⟩, vI 0, vN, vN, vN, .bool false]) rfl hS65 el23 rfl (e2 rfl rfl) (by kernel_rfl) rfl) (fun w69 b5 hS70 hT71 => ?_)
 have hr6 := Rep.nilAt (α := Int) hS70 L
 have hc3 := Cells.at_ (cs := [.string ⟨#[97]⟩, vI 0, vN, vN, vN, .bool false, .string ⟨#[98]⟩, vI 0, vN, vN, vN, .bool false]) (xs := (([(⟨⟨#[97]⟩, (0 : Int), ([] : List Int), ([] : List Int), ([] : List Int), false⟩ : TUnit), (⟨⟨#[98]⟩, (0 : Int), ([] : List Int), ([] : List Int), ([] : List Int), false⟩ : TUnit)] : List TUnit) : List TUnit)) hS70 L (Cells.cons (cs := [.string ⟨#[97]⟩, vI 0, vN, vN, vN, .bool false]) (ds := [.string ⟨#[98]⟩, vI 0, vN, vN, vN, .bool false]) (mk_TUnit ⟨#[97]⟩ (0 : Int) ([] : List Int) hr6 ([] : List Int) hr6 ([] : List Int) hr6 false) (Cells.cons (cs := [.string ⟨#[98]⟩, vI 0, vN, vN, vN, .bool false]) (ds := []) (mk_TUnit ⟨#[98]⟩ (0 : Int) ([] : List Int) hr6 ([] : List Int) hr6 ([] : List Int) hr6 false) (Cells.nil _ _)))
 refine RG.va (FV.buildV (vs := [(vS b5 2)]) (u := .agg #[vI 0, vI 0, vI 0, (vS b5 2)]) (e1 rfl) (fun w9 => by kernel_rfl)) <| RG.new .plain rfl (Does.build (α := Int) (xs := ([(0 : Int), (1 : Int)] : List Int)) (vs := [vI 0, vI 1]) (ds' := [vI 0, vI 1]) rfl hS70 el28 rfl (e2 rfl rfl) (by kernel_rfl) rfl) (fun w76 b6 hS77 hT78 => ?_)
 have hc4 := Cells.at_ (cs := [vI 0, vI 1]) (xs := (([(0 : Int), (1 : Int)] : List Int) : List Int)) hS77 L (Cells.cons (cs := [vI 0]) (ds := [vI 1]) rfl (Cells.cons (cs := [vI 1]) (ds := []) rfl (Cells.nil _ _)))
 have hm4 := Cells.mv hc3 hT78
 have hr7 := St.freeze (α := TUnit) hS77 (.tl .hd) hm4 hL
 have hS83 := St.delS hS77 (.tl .hd)
 have hT84 := St.delT hS77 (.tl .hd)
 have hr8 := Rep.at_ (α := TUnit) (v := (vS b5 2)) (xs := ([(⟨⟨#[97]⟩, (0 : Int), ([] : List Int), ([] : List Int), ([] : List Int), false⟩ : TUnit), (⟨⟨#[98]⟩, (0 : Int), ([] : List Int), ([] : List Int), ([] : List Int), false⟩ : TUnit)] : List TUnit)) hS83 L hr7
 have hm5 := Cells.mv hc4 hT84
 have hr9 := St.freeze (α := Int) hS83 .hd hm5 hL
 have hS88 := St.delS hS83 .hd
 have hT89 := St.delT hS83 .hd
 have hr91 := Rep.at_ (α := Int) (v := (vS b6 2)) (xs := ([(0 : Int), (1 : Int)] : List Int)) hS88 L hr9
 obtain ⟨y3, hy3, h⟩ := bind_in h
 have hm6 := Rep.mv hr8 hT89
 refine RG.call' (fst := []) (cap := []) .plain body6 rfl (e4 rfl rfl rfl rfl) (fun w9 hw9 => minority_Shares_c n _ w9 (hS88.hL hL hw9) (⟨(0 : Int), (0 : Int), (0 : Int), ([(⟨⟨#[97]⟩, (0 : Int), ([] : List Int), ([] : List Int), ([] : List Int), false⟩ : TUnit), (⟨⟨#[98]⟩, (0 : Int), ([] : List Int), ([] : List Int), ([] : List Int), false⟩ : TUnit)] : List TUnit)⟩ : TRoll) (Rep.keep0 hm6 hw9) ([(0 : Int), (1 : Int)] : List Int) (Rep.keep0 hr91 hw9) (2 : Int) (0 : Int) hy3) rfl (fun w93 vu1 hag1 ⟨v1, hu_, hr99⟩ => ?_)
 subst hu_
 obtain ⟨hS96, hT97⟩ := hS88.agr hag1
 refine RG.mo rfl <| RG.va (FV.extract rfl rfl) <| RG.va (FV.extract rfl rfl) <| RG.so rfl <| RG.so rfl <| RG.nil ?_
 refine MX.seq <| MX.drawT 57 tb4_5 (by kernel_rfl) (by kernel_rfl) (by kernel_rfl) (fun kt0 kp0 => ?_)
 refine RD.vw 0 1 kt0 rfl kp0 (fun _ => FV.move rfl) rfl <| RD.vw 1 3 kt0 rfl kp0 (fun _ => FV.eql (i := y0.2) (j := 0) rfl rfl) rfl <| RD.vw 2 7 kt0 rfl kp0 (fun _ => FV.move rfl) rfl <| RD.ifd (s := 35) rfl h (fun c0 h => ?_) (fun c0 h => ?_)
 refine RD.vP 3 15 kt0 rfl kp0 (.yes rfl rfl) (fun _ => FV.move rfl) rfl ?_
 obtain ⟨y4, hy4, h⟩ := bind_in h
 refine RD.callq (i := 4) (m' := 31) (W := 144115188075855840) (takeC_ok kt0 (by kernel_rfl)) rfl kp0 (v := .agg ((cs_TShare y4)).toArray) (fst := []) (cap := []) (.yes rfl rfl) body13 rfl (e2 rfl rfl) (fun w9 hw9 => wardmotelaw29_of_c n _ w9 (hS96.hL0 hL hw9) (1 : Int) (4 : Int) hy4) rfl ?_
 obtain ⟨y5, hy5, h⟩ := bind_in h
 refine RD.callq (i := 5) (m' := 63) (W := 144115188075855808) (takeC_ok kt0 (by kernel_rfl)) rfl kp0 (v := .agg ((cs_TShare y5)).toArray) (fst := []) (cap := []) (.yes rfl rfl) body13 rfl (e2 rfl rfl) (fun w9 hw9 => wardmotelaw29_of_c n _ w9 (hS96.hL0 hL hw9) (1 : Int) (10 : Int) hy5) rfl <| RD.nu 6 127 kt0 rfl (.yes rfl rfl) rfl (Does.build (α := TShare) (xs := ([y4, y5] : List TShare)) (vs := [.agg ((cs_TShare y4)).toArray, .agg ((cs_TShare y5)).toArray]) (ds' := (cs_TShare y4 ++ cs_TShare y5)) rfl hS96 el31 rfl (e2 rfl rfl) (by kernel_rfl) rfl) (fun w10 b7 hS10 hT10 => ?_)
 have hc5 := Cells.at_ (cs := (cs_TShare y4 ++ cs_TShare y5)) (xs := (([y4, y5] : List TShare) : List TShare)) hS10 L (Cells.cons (cs := (cs_TShare y4)) (ds := (cs_TShare y5)) (mk_TShare y4.fN y4.fD) (Cells.cons (cs := (cs_TShare y5)) (ds := []) (mk_TShare y5.fN y5.fD) (Cells.nil _ _)))
 obtain ⟨y6, hy6, h⟩ := bind_in h
 have hq112 := Tr.trans hT6 (Tr.trans hT7 (Tr.trans hT9 (Tr.trans hT66 (Tr.trans hT71 (Tr.trans hT78 (Tr.trans hT84 (Tr.trans hT89 (Tr.trans hT97 hT10))))))))
 have hm7 := Rep.mv hr4 hq112
 refine RD.callq (i := 7) (m' := 255) (W := 144115188075855616) (takeC_ok kt0 (by kernel_rfl)) rfl kp0 (v := .bool y6) (fst := []) (cap := []) (.yes rfl rfl) body15 rfl (e2 rfl rfl) (fun w9 hw9 => slices_Equal_api_Share_api_Share_c n _ w9 (hS10.hL0 hL hw9) y0.1 (hS10.kd hm7 hw9) ([y4, y5] : List TShare) (Rep.keep0 (St.lend (α := TShare) (L := L) hS10 .hd hc5 hL) hw9) hy6) rfl <| RD.vw 8 511 kt0 rfl kp0 (fun _ => FV.pick_t rfl rfl) rfl <| RD.vw 9 1023 kt0 rfl kp0 (fun _ => FV.move rfl) rfl <| RD.ifb (s := 42) rfl h (fun c1 h => ?_) (fun c1 h => ?_)
 refine RD.val (i := 12) (m' := 5119) (W := 144115188075823104) (takeC_ok kt0 (by kernel_rfl)) rfl kp0 (.yes rfl rfl) (FV.lN rfl (hS10.memA (.tl (.tl (.tl .hd))))) rfl <| RD.vP 13 13311 kt0 rfl kp0 (.yes rfl rfl) (fun _ => FV.move rfl) rfl <| RD.nu 10 14335 kt0 rfl (.yes rfl rfl) rfl (Does.build (α := Int) (xs := ([(0 : Int)] : List Int)) (vs := [vI 0]) (ds' := [vI 0]) rfl hS10 el27 rfl (e1 rfl) (by kernel_rfl) rfl) (fun w11 b8 hS11 hT11 => ?_)
 have hc6 := Cells.at_ (cs := [vI 0]) (xs := (([(0 : Int)] : List Int) : List Int)) hS11 L (Cells.cons (cs := [vI 0]) (ds := []) rfl (Cells.nil _ _))
 have hr10 := St.freeze (α := Int) hS11 .hd hc6 hL
 have hS12 := St.delS hS11 .hd
 have hT12 := St.delT hS11 .hd
 have hr11 := Rep.at_ (α := Int) (v := (vS b8 1)) (xs := ([(0 : Int)] : List Int)) hS12 L hr10
 refine RD.cl 11 16383 kt0 rfl (.yes rfl rfl) body16 rfl (e1 rfl) (fun w9 hw9 => Calls.gives (wardmotelaw29_lists_c n _ w9 (hS12.hL hL hw9) ([(0 : Int)] : List Int) (Rep.keep0 hr11 hw9)) fun (w8 : World) (u8 : Value) ⟨b0_, hu_, s_⟩ => (⟨b0_, hu_, s_.from hw9⟩ : ∃ b9 : Nat, u8 = Value.func (.func 46) #[] #[vP b9] ∧ St w11 w8 [.cells b9 [(vS b8 1)] 27])) rfl (fun w12 vu2 hag2 ⟨b9, hu0, s0⟩ => ?_)
 subst hu0
 have hS13 : St w w12 [.cells b9 [(vS b8 1)] 27, .row w.heap.size 39 (Rep.size TShare) (vS b7 2) (([y4, y5] : List TShare).length) (cs_TShare y4 ++ cs_TShare y5), .cells b4 (cs_TShare y2.2.1) 39, .cells b3 (cs_TShare y2.1) 39, .cells b2 [vI y1.fGroups, vI y1.fParties, vI y1.fLevels, v9] 25] := St.merge hS12 s0
 have hT13 : Tr w11 [.row w.heap.size 39 (Rep.size TShare) (vS b7 2) (([y4, y5] : List TShare).length) (cs_TShare y4 ++ cs_TShare y5), .cells b4 (cs_TShare y2.2.1) 39, .cells b3 (cs_TShare y2.1) 39, .cells b2 [vI y1.fGroups, vI y1.fParties, vI y1.fLevels, v9] 25] w12 [.cells b9 [(vS b8 1)] 27, .row w.heap.size 39 (Rep.size TShare) (vS b7 2) (([y4, y5] : List TShare).length) (cs_TShare y4 ++ cs_TShare y5), .cells b4 (cs_TShare y2.2.1) 39, .cells b3 (cs_TShare y2.1) 39, .cells b2 [vI y1.fGroups, vI y1.fParties, vI y1.fLevels, v9] 25] := Tr.merge hS12 s0
 obtain ⟨y7, hy7, h⟩ := bind_in h
 refine RD.callq (i := 14) (m' := 32767) (W := 144115188075823104) (takeC_ok kt0 (by kernel_rfl)) rfl kp0 (v := .agg ((cs_TShare y7)).toArray) (fst := []) (cap := []) (.yes rfl rfl) body13 rfl (e2 rfl rfl) (fun w9 hw9 => wardmotelaw29_of_c n _ w9 (hS13.hL0 hL hw9) (1 : Int) (5 : Int) hy7) rfl ?_
 obtain ⟨y8, hy8, h⟩ := bind_in h
 have hq136 := Tr.trans hT4 (Tr.trans hT5 (Tr.trans hT6 (Tr.trans hT7 (Tr.trans hT9 (Tr.trans hT66 (Tr.trans hT71 (Tr.trans hT78 (Tr.trans hT84 (Tr.trans hT89 (Tr.trans hT97 (Tr.trans hT10 (Tr.trans hT11 (Tr.trans hT12 hT13)))))))))))))
 have hm8 := Rep.mv hr1 hq136
 have hq138 := Tr.trans hT5 (Tr.trans hT6 (Tr.trans hT7 (Tr.trans hT9 (Tr.trans hT66 (Tr.trans hT71 (Tr.trans hT78 (Tr.trans hT84 (Tr.trans hT89 (Tr.trans hT97 (Tr.trans hT10 (Tr.trans hT11 (Tr.trans hT12 hT13))))))))))))
 have hm9 := Rep.mv hr3 hq138
 refine RD.cl 15 65535 kt0 rfl (.yes rfl rfl) body8 rfl (e5 rfl rfl rfl rfl rfl) (fun w9 hw9 => minority_Majority_c n _ w9 (hS13.hL hL hw9) y1 (Rep.keep0 hm8 hw9) ([(0 : Int), (0 : Int), (1 : Int)] : List Int) (Rep.keep0 hm9 hw9) (2 : Int) (0 : Int) y7 hy8) rfl (fun w13 vu4 hag3 ⟨v2, hu_, hr12⟩ => ?_)
 subst hu_
 obtain ⟨hS14, hT14⟩ := hS13.agr hag3
 refine RD.vP 16 131071 kt0 rfl kp0 (.yes rfl rfl) (fun _ => FV.extract rfl rfl) rfl <| RD.vP 17 262143 kt0 rfl kp0 (.yes rfl rfl) (fun _ => FV.extract rfl rfl) rfl ?_
 obtain ⟨y9, hy9, h⟩ := bind_in h
 have hm10 := Rep.mv hr11 (Tr.trans hT13 hT14)
 refine RD.callq (i := 18) (m' := 524287) (W := 144115188075331584) (takeC_ok kt0 (by kernel_rfl)) rfl kp0 (v := .bool y9) (fst := []) (cap := [vP b9]) (.yes rfl rfl) body46 rfl (e2 rfl rfl) (fun w9 hw9 => wardmotelaw29_lists_1_c n _ w9 (hS14.hL0 hL hw9) y8.1 (hS14.kd hr12 hw9) y8.2 ([(0 : Int)] : List Int) (hS14.kd hm10 hw9) (fun j9 v9 h9 => hw9.cell0 ((hS14.memA .hd) j9 v9 h9)) hy9) rfl <| RD.vw 19 1048575 kt0 rfl kp0 (fun _ => FV.pick_t rfl rfl) rfl <| RD.vw 20 2097151 kt0 rfl kp0 (fun _ => FV.move rfl) rfl <| RD.ifb (s := 53) rfl h (fun c2 h => ?_) (fun c2 h => ?_)
 refine RD.val (i := 22) (m' := 6291455) (W := 144115188059078656) (takeC_ok kt0 (by kernel_rfl)) rfl kp0 (.yes rfl rfl) (FV.lN rfl (hS14.memA (.tl (.tl (.tl (.tl .hd)))))) rfl <| RD.vP 23 14680063 kt0 rfl kp0 (.yes rfl rfl) (fun _ => FV.move rfl) rfl <| RD.cl 21 16777215 kt0 rfl (.yes rfl rfl) body14 rfl (e2 rfl rfl) (fun w9 hw9 => Calls.gives (wardmotelaw29_is_c n _ w9 (hS14.hL hL hw9) (20 : Int) (77 : Int)) fun (w8 : World) (u8 : Value) ⟨b0_, b1_, hu_, s_⟩ => (⟨b0_, b1_, hu_, s_.from hw9⟩ : ∃ b10 b11 : Nat, u8 = Value.func (.func 45) #[] #[vP b10, vP b11] ∧ St w13 w8 [.cells b10 [vI 20] 3, .cells b11 [vI 77] 3])) rfl (fun w14 vu5 hag5 ⟨b10, b11, hu1, s1⟩ => ?_)
 subst hu1
 have hS15 : St w w14 [.cells b10 [vI 20] 3, .cells b11 [vI 77] 3, .cells b9 [(vS b8 1)] 27, .row w.heap.size 39 (Rep.size TShare) (vS b7 2) (([y4, y5] : List TShare).length) (cs_TShare y4 ++ cs_TShare y5), .cells b4 (cs_TShare y2.2.1) 39, .cells b3 (cs_TShare y2.1) 39, .cells b2 [vI y1.fGroups, vI y1.fParties, vI y1.fLevels, v9] 25] := St.merge hS14 s1
 have hT15 : Tr w13 [.cells b9 [(vS b8 1)] 27, .row w.heap.size 39 (Rep.size TShare) (vS b7 2) (([y4, y5] : List TShare).length) (cs_TShare y4 ++ cs_TShare y5), .cells b4 (cs_TShare y2.2.1) 39, .cells b3 (cs_TShare y2.1) 39, .cells b2 [vI y1.fGroups, vI y1.fParties, vI y1.fLevels, v9] 25] w14 [.cells b10 [vI 20] 3, .cells b11 [vI 77] 3, .cells b9 [(vS b8 1)] 27, .row w.heap.size 39 (Rep.size TShare) (vS b7 2) (([y4, y5] : List TShare).length) (cs_TShare y4 ++ cs_TShare y5), .cells b4 (cs_TShare y2.2.1) 39, .cells b3 (cs_TShare y2.1) 39, .cells b2 [vI y1.fGroups, vI y1.fParties, vI y1.fLevels, v9] 25] := Tr.merge hS14 s1
 obtain ⟨y10, hy10, h⟩ := bind_in h
 have hq162 := Tr.trans hq136 (Tr.trans hT14 hT15)
 have hm11 := Rep.mv hr1 hq162
 have hq164 := Tr.trans hq138 (Tr.trans hT14 hT15)
 have hm12 := Rep.mv hr3 hq164
 refine RD.callq (i := 24) (m' := 33554431) (W := 144115188042301440) (takeC_ok kt0 (by kernel_rfl)) rfl kp0 (v := .tuple #[.agg ((cs_TShare y10.1)).toArray, vI y10.2]) (fst := []) (cap := []) (.yes rfl rfl) body7 rfl (e4 rfl rfl rfl rfl) (fun w9 hw9 => minority_Index_c n _ w9 (hS15.hL0 hL hw9) y1 (hS15.kd hm11 hw9) ([(0 : Int), (0 : Int), (1 : Int)] : List Int) (hS15.kd hm12 hw9) (2 : Int) (0 : Int) hy10) rfl <| RD.vP 25 67108863 kt0 rfl kp0 (.yes rfl rfl) (fun _ => FV.extract rfl rfl) rfl <| RD.vP 26 134217727 kt0 rfl kp0 (.yes rfl rfl) (fun _ => FV.extract rfl rfl) rfl ?_
 obtain ⟨y11, hy11, h⟩ := bind_in h
 refine RD.callq (i := 27) (m' := 268435455) (W := 144115187807420416) (takeC_ok kt0 (by kernel_rfl)) rfl kp0 (v := .bool y11) (fst := []) (cap := [vP b10, vP b11]) (.yes rfl rfl) body45 rfl (e2 rfl rfl) (fun w9 hw9 => wardmotelaw29_is_1_c n _ w9 (hS15.hL0 hL hw9) y10.1 y10.2 (20 : Int) (fun j9 v9 h9 => hw9.cell0 ((hS15.memA .hd) j9 v9 h9)) (77 : Int) (fun j9 v9 h9 => hw9.cell0 ((hS15.memA (.tl .hd)) j9 v9 h9)) hy11) rfl <| RD.vw 28 536870911 kt0 rfl kp0 (fun _ => FV.pick_t rfl rfl) rfl <| RD.vw 29 1073741823 kt0 rfl kp0 (fun _ => FV.move rfl) rfl <| RD.ifb (s := 62) rfl h (fun c3 h => ?_) (fun c3 h => ?_)
 obtain ⟨y12, hy12, h⟩ := bind_in h
 refine RD.callq (i := 30) (m' := 2147483647) (W := 144115177338437632) (takeC_ok kt0 (by kernel_rfl)) rfl kp0 (v := .agg ((cs_TShare y12)).toArray) (fst := []) (cap := []) (.yes rfl rfl) body13 rfl (e2 rfl rfl) (fun w9 hw9 => wardmotelaw29_of_c n _ w9 (hS15.hL0 hL hw9) (14 : Int) (9 : Int) hy12) rfl ?_
 obtain ⟨y13, hy13, h⟩ := bind_in h
 refine RD.callq (i := 31) (m' := 4294967295) (W := 144115175190953984) (takeC_ok kt0 (by kernel_rfl)) rfl kp0 (v := .agg ((cs_TShare y13)).toArray) (fst := []) (cap := []) (.yes rfl rfl) body13 rfl (e2 rfl rfl) (fun w9 hw9 => wardmotelaw29_of_c n _ w9 (hS15.hL0 hL hw9) (-1 : Int) (45 : Int) hy13) rfl <| RD.val (i := 33) (m' := 12884901887) (W := 144115170895986688) (takeC_ok kt0 (by kernel_rfl)) rfl kp0 (.yes rfl rfl) (FV.lN rfl (hS15.memA (.tl (.tl (.tl (.tl (.tl (.tl .hd)))))))) rfl <| RD.cl 32 17179869183 kt0 rfl (.yes rfl rfl) body12 rfl (e2 rfl rfl) (fun w9 hw9 => Calls.gives (wardmotelaw29_line_c n _ w9 (hS15.hL hL hw9) y12 y13) fun (w8 : World) (u8 : Value) ⟨b0_, b1_, hu_, s_⟩ => (⟨b0_, b1_, hu_, s_.from hw9⟩ : ∃ b12 b13 : Nat, u8 = Value.func (.func 43) #[] #[vP b12, vP b13] ∧ St w14 w8 [.cells b12 (cs_TShare y12) 39, .cells b13 (cs_TShare y13) 39])) rfl (fun w16 vu6 hag6 ⟨b12, b13, hu2, s2⟩ => ?_)
 subst hu2
 have hS17 : St w w16 [.cells b12 (cs_TShare y12) 39, .cells b13 (cs_TShare y13) 39, .cells b10 [vI 20] 3, .cells b11 [vI 77] 3, .cells b9 [(vS b8 1)] 27, .row w.heap.size 39 (Rep.size TShare) (vS b7 2) (([y4, y5] : List TShare).length) (cs_TShare y4 ++ cs_TShare y5), .cells b4 (cs_TShare y2.2.1) 39, .cells b3 (cs_TShare y2.1) 39, .cells b2 [vI y1.fGroups, vI y1.fParties, vI y1.fLevels, v9] 25] := St.merge hS15 s2
 have hT16 : Tr w14 [.cells b10 [vI 20] 3, .cells b11 [vI 77] 3, .cells b9 [(vS b8 1)] 27, .row w.heap.size 39 (Rep.size TShare) (vS b7 2) (([y4, y5] : List TShare).length) (cs_TShare y4 ++ cs_TShare y5), .cells b4 (cs_TShare y2.2.1) 39, .cells b3 (cs_TShare y2.1) 39, .cells b2 [vI y1.fGroups, vI y1.fParties, vI y1.fLevels, v9] 25] w16 [.cells b12 (cs_TShare y12) 39, .cells b13 (cs_TShare y13) 39, .cells b10 [vI 20] 3, .cells b11 [vI 77] 3, .cells b9 [(vS b8 1)] 27, .row w.heap.size 39 (Rep.size TShare) (vS b7 2) (([y4, y5] : List TShare).length) (cs_TShare y4 ++ cs_TShare y5), .cells b4 (cs_TShare y2.2.1) 39, .cells b3 (cs_TShare y2.1) 39, .cells b2 [vI y1.fGroups, vI y1.fParties, vI y1.fLevels, v9] 25] := Tr.merge hS15 s2
 obtain ⟨y14, hy14, h⟩ := bind_in h
 have hm13 := Rep.mv hr1 (Tr.trans hq162 hT16)
 refine RD.callq (i := 34) (m' := 34359738367) (W := 144115153716117504) (takeC_ok kt0 (by kernel_rfl)) rfl kp0 (v := .tuple #[.agg ((cs_TShare y14.1)).toArray, .agg ((cs_TShare y14.2.1)).toArray, vI y14.2.2]) (fst := []) (cap := []) (.yes rfl rfl) body9 rfl (e3 rfl rfl rfl) (fun w9 hw9 => minority_Line_c n _ w9 (hS17.hL0 hL hw9) y1 (hS17.kd hm13 hw9) (0 : Int) (0 : Int) hy14) rfl <| RD.vP 35 68719476735 kt0 rfl kp0 (.yes rfl rfl) (fun _ => FV.extract rfl rfl) rfl <| RD.vP 36 137438953471 kt0 rfl kp0 (.yes rfl rfl) (fun _ => FV.extract rfl rfl) rfl <| RD.vP 37 274877906943 kt0 rfl kp0 (.yes rfl rfl) (fun _ => FV.extract rfl rfl) rfl ?_
 obtain ⟨y15, hy15, h⟩ := bind_in h
 refine RD.callq (i := 38) (m' := 549755813887) (W := 144114638320041984) (takeC_ok kt0 (by kernel_rfl)) rfl kp0 (v := .bool y15) (fst := []) (cap := [vP b12, vP b13]) (.yes rfl rfl) body43 rfl (e3 rfl rfl rfl) (fun w9 hw9 => wardmotelaw29_line_1_c n _ w9 (hS17.hL0 hL hw9) y14.1 y14.2.1 y14.2.2 y12 (fun j9 v9 h9 => hw9.cell0 ((hS17.memA .hd) j9 v9 h9)) y13 (fun j9 v9 h9 => hw9.cell0 ((hS17.memA (.tl .hd)) j9 v9 h9)) hy15) rfl <| RD.vw 39 1099511627775 kt0 rfl kp0 (fun _ => FV.pick_t rfl rfl) rfl <| RD.vw 40 2199023255551 kt0 rfl kp0 (fun _ => FV.move rfl) rfl <| RD.ifb (s := 73) rfl h (fun c4 h => ?_) (fun c4 h => ?_)
 refine RD.val (i := 42) (m' := 6597069766655) (W := 144106391982833664) (takeC_ok kt0 (by kernel_rfl)) rfl kp0 (.yes rfl rfl) (FV.lN rfl (hS17.memA (.tl (.tl (.tl (.tl (.tl (.tl (.tl (.tl .hd)))))))))) rfl <| RD.cl 41 8796093022207 kt0 rfl (.yes rfl rfl) body14 rfl (e2 rfl rfl) (fun w9 hw9 => Calls.gives (wardmotelaw29_is_c n _ w9 (hS17.hL hL hw9) (49 : Int) (51 : Int)) fun (w8 : World) (u8 : Value) ⟨b0_, b1_, hu_, s_⟩ => (⟨b0_, b1_, hu_, s_.from hw9⟩ : ∃ b14 b15 : Nat, u8 = Value.func (.func 45) #[] #[vP b14, vP b15] ∧ St w16 w8 [.cells b14 [vI 49] 3, .cells b15 [vI 51] 3])) rfl (fun w17 vu7 hag7 ⟨b14, b15, hu3, s3⟩ => ?_)
 subst hu3
 have hS18 : St w w17 [.cells b14 [vI 49] 3, .cells b15 [vI 51] 3, .cells b12 (cs_TShare y12) 39, .cells b13 (cs_TShare y13) 39, .cells b10 [vI 20] 3, .cells b11 [vI 77] 3, .cells b9 [(vS b8 1)] 27, .row w.heap.size 39 (Rep.size TShare) (vS b7 2) (([y4, y5] : List TShare).length) (cs_TShare y4 ++ cs_TShare y5), .cells b4 (cs_TShare y2.2.1) 39, .cells b3 (cs_TShare y2.1) 39, .cells b2 [vI y1.fGroups, vI y1.fParties, vI y1.fLevels, v9] 25] := St.merge hS17 s3
 have hT18 : Tr w16 [.cells b12 (cs_TShare y12) 39, .cells b13 (cs_TShare y13) 39, .cells b10 [vI 20] 3, .cells b11 [vI 77] 3, .cells b9 [(vS b8 1)] 27, .row w.heap.size 39 (Rep.size TShare) (vS b7 2) (([y4, y5] : List TShare).length) (cs_TShare y4 ++ cs_TShare y5), .cells b4 (cs_TShare y2.2.1) 39, .cells b3 (cs_TShare y2.1) 39, .cells b2 [vI y1.fGroups, vI y1.fParties, vI y1.fLevels, v9] 25] w17 [.cells b14 [vI 49] 3, .cells b15 [vI 51] 3, .cells b12 (cs_TShare y12) 39, .cells b13 (cs_TShare y13) 39, .cells b10 [vI 20] 3, .cells b11 [vI 77] 3, .cells b9 [(vS b8 1)] 27, .row w.heap.size 39 (Rep.size TShare) (vS b7 2) (([y4, y5] : List TShare).length) (cs_TShare y4 ++ cs_TShare y5), .cells b4 (cs_TShare y2.2.1) 39, .cells b3 (cs_TShare y2.1) 39, .cells b2 [vI y1.fGroups, vI y1.fParties, vI y1.fLevels, v9] 25] := Tr.merge hS17 s3
 obtain ⟨y16, hy16, h⟩ := bind_in h
 have hq197 := Tr.trans hq162 (Tr.trans hT16 hT18)
 have hm14 := Rep.mv hr1 hq197
 refine RD.callq (i := 43) (m' := 17592186044415) (W := 144097595889811456) (takeC_ok kt0 (by kernel_rfl)) rfl kp0 (v := .tuple #[.agg ((cs_TShare y16.1)).toArray, vI y16.2]) (fst := []) (cap := []) (.yes rfl rfl) body10 rfl (e3 rfl rfl rfl) (fun w9 hw9 => minority_Fit_c n _ w9 (hS18.hL0 hL hw9) y1 (hS18.kd hm14 hw9) (0 : Int) (0 : Int) hy16) rfl <| RD.vP 44 35184372088831 kt0 rfl kp0 (.yes rfl rfl) (fun _ => FV.extract rfl rfl) rfl <| RD.vP 45 70368744177663 kt0 rfl kp0 (.yes rfl rfl) (fun _ => FV.extract rfl rfl) rfl ?_
 obtain ⟨y17, hy17, h⟩ := bind_in h
 refine RD.callq (i := 46) (m' := 140737488355327) (W := 143974450587500544) (takeC_ok kt0 (by kernel_rfl)) rfl kp0 (v := .bool y17) (fst := []) (cap := [vP b14, vP b15]) (.yes rfl rfl) body45 rfl (e2 rfl rfl) (fun w9 hw9 => wardmotelaw29_is_1_c n _ w9 (hS18.hL0 hL hw9) y16.1 y16.2 (49 : Int) (fun j9 v9 h9 => hw9.cell0 ((hS18.memA .hd) j9 v9 h9)) (51 : Int) (fun j9 v9 h9 => hw9.cell0 ((hS18.memA (.tl .hd)) j9 v9 h9)) hy17) rfl <| RD.vw 47 281474976710655 kt0 rfl kp0 (fun _ => FV.pick_t rfl rfl) rfl <| RD.vw 48 562949953421311 kt0 rfl kp0 (fun _ => FV.move rfl) rfl <| RD.ifb (s := 81) rfl h (fun c5 h => ?_) (fun c5 h => ?_)
 refine RD.vP 49 1125899906842623 kt0 rfl kp0 (.yes rfl rfl) (fun _ => FV.move rfl) rfl <| RD.vP 50 2251799813685247 kt0 rfl kp0 (.yes rfl rfl) (fun _ => FV.eql (i := y2.2.2) (j := 2) rfl rfl) rfl <| RD.vw 51 4503599627370495 kt0 rfl kp0 (fun _ => FV.pick_t rfl rfl) rfl <| RD.vw 52 9007199254740991 kt0 rfl kp0 (fun _ => FV.move rfl) rfl <| RD.ifd (s := 85) rfl h (fun c6 h => ?_) (fun c6 h => ?_)
 refine RD.vP 53 18014398509481983 kt0 rfl kp0 (.yes rfl rfl) (fun _ => FV.move rfl) rfl <| RD.vP 54 36028797018963967 kt0 rfl kp0 (.yes rfl rfl) (fun _ => FV.eql (i := y3.2) (j := 2) rfl rfl) rfl <| RD.vw 55 72057594037927935 kt0 rfl kp0 (fun _ => FV.pick_t rfl rfl) rfl <| RD.vw 56 144115188075855871 kt0 rfl kp0 (fun _ => FV.assign rfl) rfl <| RD.done (doneD_ok kt0 (by kernel_rfl)) <| MX.ret rfl ?_
 refine RT.t1 hb0 Tryz.func4 rfl rfl ?_
 cases h
 exact hS18.gv
 refine RD.offs 36028797018963967 2 [(53, 86), (54, 87)] (F := [(85, false)]) (U := []) kt0 kp0 (.cons rfl .nil) .nil ?_
 dsimp only [offS, List.map]
 refine RD.vw 55 72057594037927935 kt0 rfl kp0 (fun _ => FV.pick_f rfl rfl) rfl <| RD.vw 56 144115188075855871 kt0 rfl kp0 (fun _ => FV.assign rfl) rfl <| RD.done (doneD_ok kt0 (by kernel_rfl)) <| MX.ret rfl <| RT.t1 hb0 Tryz.func4 rfl rfl ?_
 cases h
 exact hS18.gv
 refine RD.offs 2251799813685247 6 [(49, 82), (50, 83)] (F := [(81, false)]) (U := []) kt0 kp0 (.cons rfl .nil) .nil ?_
 dsimp only [offS, List.map]
 refine RD.vw 51 4503599627370495 kt0 rfl kp0 (fun _ => FV.pick_f rfl rfl) rfl <| RD.vw 52 9007199254740991 kt0 rfl kp0 (fun _ => FV.move rfl) rfl <| RD.offs 36028797018963967 2 [(53, 86), (54, 87)] (F := [(85, false)]) (U := []) kt0 kp0 (.cons rfl .nil) .nil ?_
 dsimp only [offS, List.map]
 refine RD.vw 55 72057594037927935 kt0 rfl kp0 (fun _ => FV.pick_f rfl rfl) rfl <| RD.vw 56 144115188075855871 kt0 rfl kp0 (fun _ => FV.assign rfl) rfl <| RD.done (doneD_ok kt0 (by kernel_rfl)) <| MX.ret rfl <| RT.t1 hb0 Tryz.func4 rfl rfl ?_
 cases h
 exact hS18.gv
 refine RD.offs 140737488355327 10 [(41, 74), (42, 75), (43, 76), (44, 77), (45, 78), (46, 79)] (F := [(73, false)]) (U := []) kt0 kp0 (.cons rfl .nil) .nil ?_
 dsimp only [offS, List.map]
 refine RD.vw 47 281474976710655 kt0 rfl kp0 (fun _ => FV.pick_f rfl rfl) rfl <| RD.vw 48 562949953421311 kt0 rfl kp0 (fun _ => FV.move rfl) rfl <| RD.offs 2251799813685247 6 [(49, 82), (50, 83)] (F := [(81, false)]) (U := []) kt0 kp0 (.cons rfl .nil) .nil ?_
 dsimp only [offS, List.map]
 refine RD.vw 51 4503599627370495 kt0 rfl kp0 (fun _ => FV.pick_f rfl rfl) rfl <| RD.vw 52 9007199254740991 kt0 rfl kp0 (fun _ => FV.move rfl) rfl <| RD.offs 36028797018963967 2 [(53, 86), (54, 87)] (F := [(85, false)]) (U := []) kt0 kp0 (.cons rfl .nil) .nil ?_
 dsimp only [offS, List.map]
 refine RD.vw 55 72057594037927935 kt0 rfl kp0 (fun _ => FV.pick_f rfl rfl) rfl <| RD.vw 56 144115188075855871 kt0 rfl kp0 (fun _ => FV.assign rfl) rfl <| RD.done (doneD_ok kt0 (by kernel_rfl)) <| MX.ret rfl <| RT.t1 hb0 Tryz.func4 rfl rfl ?_
 cases h
 exact hS17.gv
 refine RD.offs 549755813887 18 [(30, 63), (31, 64), (32, 65), (33, 66), (34, 67), (35, 68), (36, 69), (37, 70), (38, 71)] (F := [(62, false)]) (U := []) kt0 kp0 (.cons rfl .nil) .nil ?_
 dsimp only [offS, List.map]
 refine RD.vw 39 1099511627775 kt0 rfl kp0 (fun _ => FV.pick_f rfl rfl) rfl <| RD.vw 40 2199023255551 kt0 rfl kp0 (fun _ => FV.move rfl) rfl <| RD.offs 140737488355327 10 [(41, 74), (42, 75), (43, 76), (44, 77), (45, 78), (46, 79)] (F := [(73, false)]) (U := []) kt0 kp0 (.cons rfl .nil) .nil ?_
 dsimp only [offS, List.map]
 refine RD.vw 47 281474976710655 kt0 rfl kp0 (fun _ => FV.pick_f rfl rfl) rfl <| RD.vw 48 562949953421311 kt0 rfl kp0 (fun _ => FV.move rfl) rfl <| RD.offs 2251799813685247 6 [(49, 82), (50, 83)] (F := [(81, false)]) (U := []) kt0 kp0 (.cons rfl .nil) .nil ?_
 dsimp only [offS, List.map]
 refine RD.vw 51 4503599627370495 kt0 rfl kp0 (fun _ => FV.pick_f rfl rfl) rfl <| RD.vw 52 9007199254740991 kt0 rfl kp0 (fun _ => FV.move rfl) rfl <| RD.offs 36028797018963967 2 [(53, 86), (54, 87)] (F := [(85, false)]) (U := []) kt0 kp0 (.cons rfl .nil) .nil ?_
 dsimp only [offS, List.map]
 refine RD.vw 55 72057594037927935 kt0 rfl kp0 (fun _ => FV.pick_f rfl rfl) rfl <| RD.vw 56 144115188075855871 kt0 rfl kp0 (fun _ => FV.assign rfl) rfl <| RD.done (doneD_ok kt0 (by kernel_rfl)) <| MX.ret rfl <| RT.t1 hb0 Tryz.func4 rfl rfl ?_
 cases h
 exact hS15.gv
 refine RD.offs 268435455 29 [(21, 54), (22, 55), (23, 56), (24, 57), (25, 58), (26, 59), (27, 60)] (F := [(53, false)]) (U := []) kt0 kp0 (.cons rfl .nil) .nil ?_
 dsimp only [offS, List.map]
 refine RD.vw 28 536870911 kt0 rfl kp0 (fun _ => FV.pick_f rfl rfl) rfl <| RD.vw 29 1073741823 kt0 rfl kp0 (fun _ => FV.move rfl) rfl <| RD.offs 549755813887 18 [(30, 63), (31, 64), (32, 65), (33, 66), (34, 67), (35, 68), (36, 69), (37, 70), (38, 71)] (F := [(62, false)]) (U := []) kt0 kp0 (.cons rfl .nil) .nil ?_
 dsimp only [offS, List.map]
 refine RD.vw 39 1099511627775 kt0 rfl kp0 (fun _ => FV.pick_f rfl rfl) rfl <| RD.vw 40 2199023255551 kt0 rfl kp0 (fun _ => FV.move rfl) rfl <| RD.offs 140737488355327 10 [(41, 74), (42, 75), (43, 76), (44, 77), (45, 78), (46, 79)] (F := [(73, false)]) (U := []) kt0 kp0 (.cons rfl .nil) .nil ?_
 dsimp only [offS, List.map]
 refine RD.vw 47 281474976710655 kt0 rfl kp0 (fun _ => FV.pick_f rfl rfl) rfl <| RD.vw 48 562949953421311 kt0 rfl kp0 (fun _ => FV.move rfl) rfl <| RD.offs 2251799813685247 6 [(49, 82), (50, 83)] (F := [(81, false)]) (U := []) kt0 kp0 (.cons rfl .nil) .nil ?_
 dsimp only [offS, List.map]
 refine RD.vw 51 4503599627370495 kt0 rfl kp0 (fun _ => FV.pick_f rfl rfl) rfl <| RD.vw 52 9007199254740991 kt0 rfl kp0 (fun _ => FV.move rfl) rfl <| RD.offs 36028797018963967 2 [(53, 86), (54, 87)] (F := [(85, false)]) (U := []) kt0 kp0 (.cons rfl .nil) .nil ?_
 dsimp only [offS, List.map]
 refine RD.vw 55 72057594037927935 kt0 rfl kp0 (fun _ => FV.pick_f rfl rfl) rfl <| RD.vw 56 144115188075855871 kt0 rfl kp0 (fun _ => FV.assign rfl) rfl <| RD.done (doneD_ok kt0 (by kernel_rfl)) <| MX.ret rfl <| RT.t1 hb0 Tryz.func4 rfl rfl ?_
 cases h
 exact hS14.gv
 refine RD.offs 524287 38 [(10, 43), (11, 44), (12, 45), (13, 46), (14, 47), (15, 48), (16, 49), (17, 50), (18, 51)] (F := [(42, false)]) (U := []) kt0 kp0 (.cons rfl .nil) .nil ?_
 dsimp only [offS, List.map]
 refine RD.vw 19 1048575 kt0 rfl kp0 (fun _ => FV.pick_f rfl rfl) rfl <| RD.vw 20 2097151 kt0 rfl kp0 (fun _ => FV.move rfl) rfl <| RD.offs 268435455 29 [(21, 54), (22, 55), (23, 56), (24, 57), (25, 58), (26, 59), (27, 60)] (F := [(53, false)]) (U := []) kt0 kp0 (.cons rfl .nil) .nil ?_
 dsimp only [offS, List.map]
 refine RD.vw 28 536870911 kt0 rfl kp0 (fun _ => FV.pick_f rfl rfl) rfl <| RD.vw 29 1073741823 kt0 rfl kp0 (fun _ => FV.move rfl) rfl <| RD.offs 549755813887 18 [(30, 63), (31, 64), (32, 65), (33, 66), (34, 67), (35, 68), (36, 69), (37, 70), (38, 71)] (F := [(62, false)]) (U := []) kt0 kp0 (.cons rfl .nil) .nil ?_
 dsimp only [offS, List.map]
 refine RD.vw 39 1099511627775 kt0 rfl kp0 (fun _ => FV.pick_f rfl rfl) rfl <| RD.vw 40 2199023255551 kt0 rfl kp0 (fun _ => FV.move rfl) rfl <| RD.offs 140737488355327 10 [(41, 74), (42, 75), (43, 76), (44, 77), (45, 78), (46, 79)] (F := [(73, false)]) (U := []) kt0 kp0 (.cons rfl .nil) .nil ?_
 dsimp only [offS, List.map]
 refine RD.vw 47 281474976710655 kt0 rfl kp0 (fun _ => FV.pick_f rfl rfl) rfl <| RD.vw 48 562949953421311 kt0 rfl kp0 (fun _ => FV.move rfl) rfl <| RD.offs 2251799813685247 6 [(49, 82), (50, 83)] (F := [(81, false)]) (U := []) kt0 kp0 (.cons rfl .nil) .nil ?_
 dsimp only [offS, List.map]
 refine RD.vw 51 4503599627370495 kt0 rfl kp0 (fun _ => FV.pick_f rfl rfl) rfl <| RD.vw 52 9007199254740991 kt0 rfl kp0 (fun _ => FV.move rfl) rfl <| RD.offs 36028797018963967 2 [(53, 86), (54, 87)] (F := [(85, false)]) (U := []) kt0 kp0 (.cons rfl .nil) .nil ?_
 dsimp only [offS, List.map]
 refine RD.vw 55 72057594037927935 kt0 rfl kp0 (fun _ => FV.pick_f rfl rfl) rfl <| RD.vw 56 144115188075855871 kt0 rfl kp0 (fun _ => FV.assign rfl) rfl <| RD.done (doneD_ok kt0 (by kernel_rfl)) <| MX.ret rfl <| RT.t1 hb0 Tryz.func4 rfl rfl ?_
 cases h
 exact hS10.gv
 refine RD.offs 255 49 [(3, 36), (4, 37), (5, 38), (6, 39), (7, 40)] (F := [(35, false)]) (U := []) kt0 kp0 (.cons rfl .nil) .nil ?_
 dsimp only [offS, List.map]
 refine RD.vw 8 511 kt0 rfl kp0 (fun _ => FV.pick_f rfl rfl) rfl <| RD.vw 9 1023 kt0 rfl kp0 (fun _ => FV.move rfl) rfl <| RD.offs 524287 38 [(10, 43), (11, 44), (12, 45), (13, 46), (14, 47), (15, 48), (16, 49), (17, 50), (18, 51)] (F := [(42, false)]) (U := []) kt0 kp0 (.cons rfl .nil) .nil ?_
 dsimp only [offS, List.map]
 refine RD.vw 19 1048575 kt0 rfl kp0 (fun _ => FV.pick_f rfl rfl) rfl <| RD.vw 20 2097151 kt0 rfl kp0 (fun _ => FV.move rfl) rfl <| RD.offs 268435455 29 [(21, 54), (22, 55), (23, 56), (24, 57), (25, 58), (26, 59), (27, 60)] (F := [(53, false)]) (U := []) kt0 kp0 (.cons rfl .nil) .nil ?_
 dsimp only [offS, List.map]
 refine RD.vw 28 536870911 kt0 rfl kp0 (fun _ => FV.pick_f rfl rfl) rfl <| RD.vw 29 1073741823 kt0 rfl kp0 (fun _ => FV.move rfl) rfl <| RD.offs 549755813887 18 [(30, 63), (31, 64), (32, 65), (33, 66), (34, 67), (35, 68), (36, 69), (37, 70), (38, 71)] (F := [(62, false)]) (U := []) kt0 kp0 (.cons rfl .nil) .nil ?_
 dsimp only [offS, List.map]
 refine RD.vw 39 1099511627775 kt0 rfl kp0 (fun _ => FV.pick_f rfl rfl) rfl <| RD.vw 40 2199023255551 kt0 rfl kp0 (fun _ => FV.move rfl) rfl <| RD.offs 140737488355327 10 [(41, 74), (42, 75), (43, 76), (44, 77), (45, 78), (46, 79)] (F := [(73, false)]) (U := []) kt0 kp0 (.cons rfl .nil) .nil ?_
 dsimp only [offS, List.map]
 refine RD.vw 47 281474976710655 kt0 rfl kp0 (fun _ => FV.pick_f rfl rfl) rfl <| RD.vw 48 562949953421311 kt0 rfl kp0 (fun _ => FV.move rfl) rfl <| RD.offs 2251799813685247 6 [(49, 82), (50, 83)] (F := [(81, false)]) (U := []) kt0 kp0 (.cons rfl .nil) .nil ?_
 dsimp only [offS, List.map]
 refine RD.vw 51 4503599627370495 kt0 rfl kp0 (fun _ => FV.pick_f rfl rfl) rfl <| RD.vw 52 9007199254740991 kt0 rfl kp0 (fun _ => FV.move rfl) rfl <| RD.offs 36028797018963967 2 [(53, 86), (54, 87)] (F := [(85, false)]) (U := []) kt0 kp0 (.cons rfl .nil) .nil ?_
 dsimp only [offS, List.map]
 refine RD.vw 55 72057594037927935 kt0 rfl kp0 (fun _ => FV.pick_f rfl rfl) rfl <| RD.vw 56 144115188075855871 kt0 rfl kp0 (fun _ => FV.assign rfl) rfl <| RD.done (doneD_ok kt0 (by kernel_rfl)) <| MX.ret rfl <| RT.t1 hb0 Tryz.func4 rfl rfl ?_
 cases h
 exact hS96.gv
def slices_Clone_api_Unit_api_Unit_p (_n : Nat) (a0 : List TUnit) : Option (List TUnit) :=
  nilCase a0 (some ([] : List TUnit)) ((app ([] : List TUnit) a0).bind fun xs0 => some xs0)
theorem slices_Clone_api_Unit_api_Unit_c (n : Nat) (L : List Nat) (w : World) (_hL : ∀ b ∈ L, b < w.heap.size) (a0 : List TUnit) {v0_0 : Value} (h0_0 : Rep.R w L [v0_0] a0)  {r : List TUnit} (h : slices_Clone_api_Unit_api_Unit_p n a0 = some r) :
    Calls Tryz.prog 11 #[v0_0] w (Gives w fun w' u => ∃ (v0_0 : Value) (cs0_0 : List Value), u = v0_0 ∧ St w w' (rowsOf w.heap.size [(30, Rep.size TUnit, v0_0, r.length, cs0_0)]) ∧ Cells w' (bl (rowsOf w.heap.size [(30, Rep.size TUnit, v0_0, r.length, cs0_0)]) ++ L) cs0_0 (r : List TUnit)) := by
 unfold slices_Clone_api_Unit_api_Unit_p at h
 have hS0 := St.start w
 refine MX.start Tryz.func11 rfl rfl rfl (fun _ cs0 hb0 => ?_)
 refine MX.sr <| RG.so rfl <| RG.nil <| MX.seq <| MX.sr <| RG.mo rfl ?_
 rcases Rep.nilOr h0_0 with ⟨c1, he3, hx4⟩ | ⟨ad2, c1, he3⟩
 have h := nilCase_n h hx4
 refine RG.va (FV.eqlNil1 Tryz.underlying23 rfl he3 rfl) <| RG.nil <| MX.cond_t rfl <| MX.sr <| RG.so rfl <| RG.nil ?_
 refine MX.ret rfl ?_
 have hS6 := hS0.nilRow 30 (Rep.size TUnit)
 have hT7 := St.nilRowT hS0 30 (Rep.size TUnit)
 have hc8 := Cells.at_ (cs := []) (xs := ([] : List TUnit)) hS6 L (Cells.nil _ _)
 refine RT.leave (u := vN) hb0 Tryz.func11 rfl (.cons (.tmp rfl) .nil) rfl ?_
 cases h
 exact ⟨hS6.ag, fun w9 hw9 => ⟨vN, [], rfl, hS6.agree hw9, Cells.keep0 hc8 hw9⟩⟩
 have h := nilCase_s h
 refine RG.va (FV.eqlNil0 Tryz.underlying23 rfl he3 rfl) <| RG.nil <| MX.cond_f rfl <| MX.skip <| MX.sr <| RG.new .plain rfl (Does.build (α := TUnit) (xs := ([] : List TUnit)) (vs := []) (ds' := []) rfl hS0 el23 rfl evs_nil (by kernel_rfl) rfl) (fun w0 b0 hS1 hT0 => ?_)
 have hc0 := Cells.at_ (cs := []) (xs := (([] : List TUnit) : List TUnit)) hS1 L (Cells.nil _ _)
 refine RG.mo rfl ?_
 obtain ⟨xs0, hxs15, h⟩ := bind_in h
 have hm0 := Rep.mv0 h0_0 hS1
 refine RG.doesL .plain rfl (DoesL.app (α := TUnit) (ys := a0) hxs15 hS1 (fun _ _ => .hd) el23 rfl rfl hc0 (Src.rep hm0)) (fun v0 w1 ⟨cs1, hS2, hT1, hc1⟩ => ?_)
 refine RG.so rfl <| RG.nil <| MX.ret rfl <| RT.leave (u := v0) hb0 Tryz.func11 rfl (.cons (.tmp rfl) .nil) rfl ?_
 cases h
 exact ⟨hS2.ag, fun w9 hw9 => ⟨v0, cs1, rfl, hS2.agree hw9, Cells.keep0 hc1 hw9⟩⟩
end Go.Proofs.YtmpoojncffgjoaaGreatDoor
