/- Functions of the program, and what they give: part 6. -/
import Derived.Test.YtmhgoecnjleagaaGreatDoorPK5
namespace Go.Proofs.YtmhgoecnjleagaaGreatDoor
open Go Go.RowKit

def tb123_6 : List (Nat × Nat × Nat) := [(0, 131072, 32), (0, 262144, 8), (2, 524288, 262144), (1, 0, 131073), (15, 0, 524290)]
theorem body68 : bodyB Tryz.prog 68 = true := by kernel_rfl
theorem body69 : bodyB Tryz.prog 69 = true := by kernel_rfl
theorem body123 : bodyB Tryz.prog 123 = true := by kernel_rfl
def balance_Ideal_p (n : Nat) (a0 : TRoll) (a1 : Int) : Option (TShare × Int) :=
  (balance_Ideal_1_p n a0 a1).bind fun y29 => exc y29 (fun y31 => some (y31, (0 : Int))) (fun e30 => some ((⟨((0 : UInt64), (0 : UInt64), (0 : UInt64), (0 : UInt64), (0 : UInt64), (0 : UInt64), (0 : UInt64), (0 : UInt64)), ((0 : UInt64), (0 : UInt64), (0 : UInt64), (0 : UInt64), (0 : UInt64), (0 : UInt64), (0 : UInt64), (0 : UInt64))⟩ : TShare), e30.fErrno))
set_option maxRecDepth 4000 in
set_option maxHeartbeats 4000000 in
theorem balance_Ideal_c (n : Nat) (L : List Nat) (w : World) (hL : ∀ b ∈ L, b < w.heap.size) (a0 : TRoll) {v0_3 : Value} (h0_3 : Rep.R w L [v0_3] a0.fUnits) (a1 : Int)  {r : TShare × Int} (h : balance_Ideal_p n a0 a1 = some r) :
    Calls Tryz.prog 20 #[.agg #[.int .i64 a0.fGroups, .int .i64 a0.fParties, .int .i64 a0.fLevels, v0_3], .int .i64 a1] w (Gives w fun _ u => u = .tuple #[.agg ((cs_TShare r.1)).toArray, .int .i64 r.2]) := by
  unfold balance_Ideal_p at h
  have hS0 := St.start w
  refine MX.start Tryz.func20 rfl rfl rfl (fun _ cs0 hb0 => ?_)
  refine MX.sr ?_
  refine RG.new .plain rfl (Does.box (vs := [.int .i64 a0.fGroups, .int .i64 a0.fParties, .int .i64 a0.fLevels, v0_3]) hS0 rfl rfl) (fun w2 b5 hS3 hT4 => ?_)
  refine RG.new .plain rfl (Does.box (vs := [.int .i64 a1]) hS3 rfl rfl) (fun w7 b10 hS8 hT9 => ?_)
  refine RG.new .plain rfl (Does.alloc (zs := [.int .u64 0, .int .u64 0, .int .u64 0, .int .u64 0, .int .u64 0, .int .u64 0, .int .u64 0, .int .u64 0, .int .u64 0, .int .u64 0, .int .u64 0, .int .u64 0, .int .u64 0, .int .u64 0, .int .u64 0, .int .u64 0]) hS8 (zB (by kernel_rfl))) (fun w12 b15 hS13 hT14 => ?_)
  refine RG.sg rfl rfl ?_
  refine RG.nil ?_
  refine MX.sr ?_
  refine RG.vv (FV.makeFunc (vs := []) (us := [.pointer (some ⟨b5, 0, none⟩), .pointer (some ⟨b10, 0, none⟩)]) evs_nil (evs_cons rfl (evs_cons rfl evs_nil))) rfl ?_
  refine RG.enterP (fst := []) (cap := []) (vs := [.func (.func 69) #[] #[.pointer (some ⟨b5, 0, none⟩), .pointer (some ⟨b10, 0, none⟩)]]) .plain body68 Tryz.func68 rfl rfl rfl rfl (evs_cons rfl evs_nil) rfl (fun cs17 hb16 hp18 => ?_)
  refine MX.sr ?_
  refine RG.new .plain rfl (Does.alloc (zs := [.int .u64 0, .int .u64 0, .int .u64 0, .int .u64 0, .int .u64 0, .int .u64 0, .int .u64 0, .int .u64 0, .int .u64 0, .int .u64 0, .int .u64 0, .int .u64 0, .int .u64 0, .int .u64 0, .int .u64 0, .int .u64 0]) hS13 (zB (by kernel_rfl))) (fun w20 b23 hS21 hT22 => ?_)
  refine RG.new .plain rfl (Does.alloc (zs := [.int .i64 0]) hS21 (zB (by kernel_rfl))) (fun w25 b28 hS26 hT27 => ?_)
  refine RG.nil ?_
  refine MX.sr ?_
  refine RG.vv (FV.makeFunc (vs := []) (us := [.pointer (some ⟨b23, 0, none⟩), .pointer (some ⟨b28, 0, none⟩)]) evs_nil (evs_cons rfl (evs_cons rfl evs_nil))) rfl ?_
  refine RG.defer (fst := []) (cap := [.pointer (some ⟨b23, 0, none⟩), .pointer (some ⟨b28, 0, none⟩)]) (vs := []) rfl .plain rfl evs_nil ?_
  refine RG.nil ?_
  refine MX.sr ?_
  refine RG.mv rfl rfl ?_
  obtain ⟨y29, hy29, h⟩ := bind_in h
  rcases y29 with e30 | y31
  ·skip
   have h := exc_e h
   try dsimp only at h
   have hm32 := Rep.mv h0_3 (Tr.trans hT4 (Tr.trans hT9 (Tr.trans hT14 (Tr.trans hT22 hT27))))
   refine RG.callE (fst := []) (cap := [.pointer (some ⟨b5, 0, none⟩), .pointer (some ⟨b10, 0, none⟩)]) .plain body69 rfl evs_nil (fun w9 hw9 => balance_Ideal_1_c n _ w9 (hS26.hL0 hL hw9) a0 (Rep.keep0 (Rep.dropS hS26 hm32) hw9) (fun j9 v9 h9 => hw9.cell0 ((hS26.memA (.tl (.tl (.tl (.tl .hd))))) j9 v9 h9)) a1 (fun j9 v9 h9 => hw9.cell0 ((hS26.memA (.tl (.tl (.tl .hd)))) j9 v9 h9)) hy29) (fun w33 hag34 => ?_)
   obtain ⟨hS35, hT36⟩ := hS26.agr hag34
   refine PN.callD (vs := []) (cap := [.pointer (some ⟨b23, 0, none⟩), .pointer (some ⟨b28, 0, none⟩)]) body123 Tryz.func123 rfl rfl rfl (fun c37 hc38 hk39 => ?_)
   refine MX.sr ?_
   refine RG.recover1 .plain hc38 rfl ?_
   refine RG.sg rfl rfl ?_
   refine RG.nil ?_
   refine MX.sr ?_
   refine RG.mv rfl rfl ?_
   refine RG.vv (FV.neqI Tryz.underlying20 rfl rfl) rfl ?_
   refine RG.nil ?_
   refine MX.cond_t rfl ?_
   refine MX.sr ?_
   refine RG.mv rfl rfl ?_
   refine RG.vv (FV.assertT (by kernel_rfl) rfl) rfl ?_
   refine RG.mv rfl rfl ?_
   refine RG.vv (FV.extract rfl rfl) rfl ?_
   refine RG.vv (FV.extract rfl rfl) rfl ?_
   refine RG.new .plain rfl (Does.alloc (zs := [.int .i64 0]) hS35 (zB (by kernel_rfl))) (fun w41 b44 hS42 hT43 => ?_)
   refine RG.now .plain (Acts.storeAll (news := [.int .i64 e30.fErrno]) hS42 .hd rfl rfl rfl rfl rfl rfl (ones_cons rfl ones_nil)) (fun w45 hS46 hT47 => ?_)
   refine RG.sg rfl rfl ?_
   refine RG.nil ?_
   refine MX.seq ?_
   refine MX.sr ?_
   refine RG.mv rfl rfl ?_
   refine RG.vv (FV.not rfl) rfl ?_
   refine RG.nil ?_
   refine MX.cond_f rfl ?_
   refine MX.skip ?_
   refine MX.sr ?_
   refine RG.new .plain rfl (Does.alloc (zs := [.int .u64 0, .int .u64 0, .int .u64 0, .int .u64 0, .int .u64 0, .int .u64 0, .int .u64 0, .int .u64 0, .int .u64 0, .int .u64 0, .int .u64 0, .int .u64 0, .int .u64 0, .int .u64 0, .int .u64 0, .int .u64 0]) hS46 (zB (by kernel_rfl))) (fun w49 b52 hS50 hT51 => ?_)
   refine RG.nil ?_
   refine MX.drawT 3 tb123_6 (by kernel_rfl) (by kernel_rfl) (by kernel_rfl) (fun kt53 kp54 => ?_)
   refine RD.vx 0 1 24 kt53 rfl kp54 (FV.loadN (by kernel_rfl) rfl (hS50.memA .hd)) rfl ?_
   refine RD.vw 1 3 kt53 rfl kp54 (fun _ => FV.fieldAddr (off := 0) (by kernel_rfl) rfl) rfl ?_
   refine RD.meet (α := Unit) (fun () => [(1, .pointer (some ⟨b28, 0, none⟩)), (19, .int .i64 e30.fErrno)]) (fun () wx1257 => St w wx1257 [.cells b28 [.int .i64 0] 51, .cells b23 [.int .u64 0, .int .u64 0, .int .u64 0, .int .u64 0, .int .u64 0, .int .u64 0, .int .u64 0, .int .u64 0, .int .u64 0, .int .u64 0, .int .u64 0, .int .u64 0, .int .u64 0, .int .u64 0, .int .u64 0, .int .u64 0] 37, .cells b15 [.int .u64 0, .int .u64 0, .int .u64 0, .int .u64 0, .int .u64 0, .int .u64 0, .int .u64 0, .int .u64 0, .int .u64 0, .int .u64 0, .int .u64 0, .int .u64 0, .int .u64 0, .int .u64 0, .int .u64 0, .int .u64 0] 37, .cells b10 [.int .i64 a1] 3, .cells b5 [.int .i64 a0.fGroups, .int .i64 a0.fParties, .int .i64 a0.fLevels, v0_3] 44] ∧ Tr w49 [.cells b52 [.int .u64 0, .int .u64 0, .int .u64 0, .int .u64 0, .int .u64 0, .int .u64 0, .int .u64 0, .int .u64 0, .int .u64 0, .int .u64 0, .int .u64 0, .int .u64 0, .int .u64 0, .int .u64 0, .int .u64 0, .int .u64 0] 37, .cells b44 [.int .i64 e30.fErrno] 140, .cells b28 [.int .i64 0] 51, .cells b23 [.int .u64 0, .int .u64 0, .int .u64 0, .int .u64 0, .int .u64 0, .int .u64 0, .int .u64 0, .int .u64 0, .int .u64 0, .int .u64 0, .int .u64 0, .int .u64 0, .int .u64 0, .int .u64 0, .int .u64 0, .int .u64 0] 37, .cells b15 [.int .u64 0, .int .u64 0, .int .u64 0, .int .u64 0, .int .u64 0, .int .u64 0, .int .u64 0, .int .u64 0, .int .u64 0, .int .u64 0, .int .u64 0, .int .u64 0, .int .u64 0, .int .u64 0, .int .u64 0, .int .u64 0] 37, .cells b10 [.int .i64 a1] 3, .cells b5 [.int .i64 a0.fGroups, .int .i64 a0.fParties, .int .i64 a0.fLevels, v0_3] 44] wx1257 [.cells b28 [.int .i64 0] 51, .cells b23 [.int .u64 0, .int .u64 0, .int .u64 0, .int .u64 0, .int .u64 0, .int .u64 0, .int .u64 0, .int .u64 0, .int .u64 0, .int .u64 0, .int .u64 0, .int .u64 0, .int .u64 0, .int .u64 0, .int .u64 0, .int .u64 0] 37, .cells b15 [.int .u64 0, .int .u64 0, .int .u64 0, .int .u64 0, .int .u64 0, .int .u64 0, .int .u64 0, .int .u64 0, .int .u64 0, .int .u64 0, .int .u64 0, .int .u64 0, .int .u64 0, .int .u64 0, .int .u64 0, .int .u64 0] 37, .cells b10 [.int .i64 a1] 3, .cells b5 [.int .i64 a0.fGroups, .int .i64 a0.fParties, .int .i64 a0.fLevels, v0_3] 44]) 1 15 ?_ ?_
   ·skip
    rintro ⟨⟩ wx1257 ⟨hS1258, hT1259⟩
    try dsimp only
    refine RD.nw 4 31 kt53 rfl rfl .plain (Acts.storeAll (news := [.int .i64 e30.fErrno]) hS1258 .hd rfl rfl rfl rfl rfl rfl (ones_cons rfl ones_nil)) (fun w1261 hS1262 hT1263 => ?_)
    refine RD.done (doneD_ok kt53 (by kernel_rfl)) ?_
    refine MX.fin rfl ?_
    refine RT.leaveD1 hk39 Tryz.func123 rfl .nil ?_
    refine RT.leave (u := .tuple #[.agg #[.int .u64 0, .int .u64 0, .int .u64 0, .int .u64 0, .int .u64 0, .int .u64 0, .int .u64 0, .int .u64 0, .int .u64 0, .int .u64 0, .int .u64 0, .int .u64 0, .int .u64 0, .int .u64 0, .int .u64 0, .int .u64 0], .int .i64 e30.fErrno]) hb16 Tryz.func68 rfl (.cons (.many (cs := [.int .u64 0, .int .u64 0, .int .u64 0, .int .u64 0, .int .u64 0, .int .u64 0, .int .u64 0, .int .u64 0, .int .u64 0, .int .u64 0, .int .u64 0, .int .u64 0, .int .u64 0, .int .u64 0, .int .u64 0, .int .u64 0]) (by kernel_rfl) rfl (hS1262.memA (.tl .hd))) (.cons (.one (by kernel_rfl) rfl ((hS1262.memA .hd) 0 _ rfl)) .nil)) rfl ?_
    refine RG.vv (FV.extract rfl rfl) rfl ?_
    refine RG.vv (FV.extract rfl rfl) rfl ?_
    refine RG.now .plain (Acts.storeAll (news := [.int .u64 0, .int .u64 0, .int .u64 0, .int .u64 0, .int .u64 0, .int .u64 0, .int .u64 0, .int .u64 0, .int .u64 0, .int .u64 0, .int .u64 0, .int .u64 0, .int .u64 0, .int .u64 0, .int .u64 0, .int .u64 0]) hS1262 (.tl (.tl .hd)) rfl rfl rfl rfl rfl rfl (onesB rfl)) (fun w1264 hS1265 hT1266 => ?_)
    refine RG.sg rfl rfl ?_
    refine RG.nil ?_
    refine MX.ret rfl ?_
    refine RT.leave hb0 Tryz.func20 rfl (.cons (.many (cs := [.int .u64 0, .int .u64 0, .int .u64 0, .int .u64 0, .int .u64 0, .int .u64 0, .int .u64 0, .int .u64 0, .int .u64 0, .int .u64 0, .int .u64 0, .int .u64 0, .int .u64 0, .int .u64 0, .int .u64 0, .int .u64 0]) (by kernel_rfl) rfl (hS1265.memA (.tl (.tl .hd)))) (.cons (.tmp rfl) .nil)) rfl ?_
    obtain rfl := Option.some.inj h
    exact ⟨hS1265.ag, fun w9 hw9 => rfl⟩
   ·skip
    intro hJ1267
    refine RD.each [2, 3] (readyD_ok kt53 (by kernel_rfl)) ⟨?_, ?_, trivial⟩
    ·skip
     refine RO.val (m' := 7) (stepC_ok kt53 (by kernel_rfl)) rfl .plain rfl (FV.load1 (by kernel_rfl) rfl ((hS50.memA (.tl .hd)) 0 _ rfl)) ?_
     refine RD.nw 3 15 kt53 rfl rfl .plain (Acts.storeAll (news := [.int .u64 0, .int .u64 0, .int .u64 0, .int .u64 0, .int .u64 0, .int .u64 0, .int .u64 0, .int .u64 0, .int .u64 0, .int .u64 0, .int .u64 0, .int .u64 0, .int .u64 0, .int .u64 0, .int .u64 0, .int .u64 0]) hS50 (.tl (.tl (.tl .hd))) rfl rfl rfl rfl rfl rfl (onesB rfl)) (fun w655 hS656 hT657 => ?_)
     obtain ⟨hS1268, hT1269⟩ := St.arrB hS656 (.one (.tl (.tl .hd)) (.one (.tl (.tl .hd)) (.one (.tl (.tl .hd)) (.one (.tl (.tl .hd)) (.one (.tl (.tl .hd)) .done)))))
     exact hJ1267 () _ _ ⟨rfl, rfl, trivial⟩ ⟨hS1268, (Tr.trans hT657 hT1269)⟩
    ·skip
     refine RO.now (m' := 11) (stepC_ok kt53 (by kernel_rfl)) rfl rfl .plain (Acts.storeAll (news := [.int .u64 0, .int .u64 0, .int .u64 0, .int .u64 0, .int .u64 0, .int .u64 0, .int .u64 0, .int .u64 0, .int .u64 0, .int .u64 0, .int .u64 0, .int .u64 0, .int .u64 0, .int .u64 0, .int .u64 0, .int .u64 0]) hS50 (.tl (.tl (.tl .hd))) rfl rfl rfl rfl rfl rfl (onesB rfl)) (fun w655 hS656 hT657 => ?_)
     refine RD.vx 2 15 16 kt53 rfl kp54 (FV.load1 (by kernel_rfl) rfl ((hS656.memA (.tl .hd)) 0 _ rfl)) rfl ?_
     obtain ⟨hS1270, hT1271⟩ := St.arrB hS656 (.one (.tl (.tl .hd)) (.one (.tl (.tl .hd)) (.one (.tl (.tl .hd)) (.one (.tl (.tl .hd)) (.one (.tl (.tl .hd)) .done)))))
     exact hJ1267 () _ _ ⟨rfl, rfl, trivial⟩ ⟨hS1270, (Tr.trans hT657 hT1271)⟩
  have h := exc_o h
  try dsimp only at h
  have hm1273 := Rep.mv h0_3 (Tr.trans hT4 (Tr.trans hT9 (Tr.trans hT14 (Tr.trans hT22 hT27))))
  refine RG.callq' (v := .agg ((cs_TShare y31)).toArray) (fst := []) (cap := [.pointer (some ⟨b5, 0, none⟩), .pointer (some ⟨b10, 0, none⟩)]) .plain body69 rfl evs_nil (fun w9 hw9 => Calls.okp (balance_Ideal_1_c n _ w9 (hS26.hL0 hL hw9) a0 (Rep.keep0 (Rep.dropS hS26 hm1273) hw9) (fun j9 v9 h9 => hw9.cell0 ((hS26.memA (.tl (.tl (.tl (.tl .hd))))) j9 v9 h9)) a1 (fun j9 v9 h9 => hw9.cell0 ((hS26.memA (.tl (.tl (.tl .hd)))) j9 v9 h9)) hy29)) rfl ?_
  refine RG.now .plain (Acts.storeAll (news := (cs_TShare y31)) hS26 (.tl .hd) rfl rfl rfl rfl rfl rfl (onesB rfl)) (fun w1274 hS1275 hT1276 => ?_)
  refine RG.now .plain (Acts.storeAll (news := [.int .i64 0]) hS1275 .hd rfl rfl rfl rfl rfl rfl (ones_cons rfl ones_nil)) (fun w1277 hS1278 hT1279 => ?_)
  refine RG.nil ?_
  refine MX.ret rfl ?_
  refine RT.callD (vs := []) (cap := [.pointer (some ⟨b23, 0, none⟩), .pointer (some ⟨b28, 0, none⟩)]) body123 Tryz.func123 rfl rfl rfl (fun c1280 hc1281 hk1282 => ?_)
  refine MX.sr ?_
  refine RG.recover0 .plain hc1281 rfl ?_
  refine RG.sg rfl rfl ?_
  refine RG.nil ?_
  refine MX.sr ?_
  refine RG.mv rfl rfl ?_
  refine RG.vv (FV.neqI0 Tryz.underlying20 rfl rfl) rfl ?_
  refine RG.nil ?_
  refine MX.cond_f rfl ?_
  refine MX.skip ?_
  refine MX.fin rfl ?_
  refine RT.leaveD0 hc1281 hk1282 Tryz.func123 rfl .nil ?_
  refine RT.leave (u := .tuple #[.agg ((cs_TShare y31)).toArray, .int .i64 0]) hb16 Tryz.func68 rfl (.cons (.many (cs := (cs_TShare y31)) (by kernel_rfl) rfl (hS1278.memA (.tl .hd))) (.cons (.one (by kernel_rfl) rfl ((hS1278.memA .hd) 0 _ rfl)) .nil)) rfl ?_
  refine RG.vv (FV.extract rfl rfl) rfl ?_
  refine RG.vv (FV.extract rfl rfl) rfl ?_
  refine RG.now .plain (Acts.storeAll (news := (cs_TShare y31)) hS1278 (.tl (.tl .hd)) rfl rfl rfl rfl rfl rfl (onesB rfl)) (fun w1283 hS1284 hT1285 => ?_)
  refine RG.sg rfl rfl ?_
  refine RG.nil ?_
  refine MX.ret rfl ?_
  refine RT.leave hb0 Tryz.func20 rfl (.cons (.many (cs := (cs_TShare y31)) (by kernel_rfl) rfl (hS1284.memA (.tl (.tl .hd)))) (.cons (.tmp rfl) .nil)) rfl ?_
  obtain rfl := Option.some.inj h
  exact ⟨hS1284.ag, fun w9 hw9 => rfl⟩
def wardmotelaw22_of_p (n : Nat) (a0 : Int) (a1 : Int) : Option TShare :=
  (share_Of_p n a0 a1).bind fun y6 => some y6.1
set_option maxRecDepth 4000 in
set_option maxHeartbeats 4000000 in
theorem wardmotelaw22_of_c (n : Nat) (L : List Nat) (w : World) (hL : ∀ b ∈ L, b < w.heap.size) (a0 : Int) (a1 : Int)  {r : TShare} (h : wardmotelaw22_of_p n a0 a1 = some r) :
    Calls Tryz.prog 23 #[.int .i64 a0, .int .i64 a1] w (Gives w fun _ u => u = .agg ((cs_TShare r)).toArray) := by
  unfold wardmotelaw22_of_p at h
  have hS0 := St.start w
  refine MX.start Tryz.func23 rfl rfl rfl (fun _ cs0 hb0 => ?_)
  refine MX.sr ?_
  refine RG.new .plain rfl (Does.alloc (zs := [.int .u64 0, .int .u64 0, .int .u64 0, .int .u64 0, .int .u64 0, .int .u64 0, .int .u64 0, .int .u64 0, .int .u64 0, .int .u64 0, .int .u64 0, .int .u64 0, .int .u64 0, .int .u64 0, .int .u64 0, .int .u64 0]) hS0 (zB (by kernel_rfl))) (fun w2 b5 hS3 hT4 => ?_)
  refine RG.nil ?_
  refine MX.sr ?_
  refine RG.mv rfl rfl ?_
  refine RG.mv rfl rfl ?_
  obtain ⟨y6, hy6, h⟩ := bind_in h
  refine RG.cq (.tuple #[.agg ((cs_TShare y6.1)).toArray, .int .i64 y6.2]) body78 rfl (evs_cons rfl (evs_cons rfl evs_nil)) (fun w9 hw9 => share_Of_c n _ w9 (hS3.hL0 hL hw9) a0 a1 hy6) rfl ?_
  refine RG.mv rfl rfl ?_
  refine RG.vv (FV.extract rfl rfl) rfl ?_
  refine RG.vv (FV.extract rfl rfl) rfl ?_
  refine RG.new .plain rfl (Does.alloc (zs := [.int .u64 0, .int .u64 0, .int .u64 0, .int .u64 0, .int .u64 0, .int .u64 0, .int .u64 0, .int .u64 0, .int .u64 0, .int .u64 0, .int .u64 0, .int .u64 0, .int .u64 0, .int .u64 0, .int .u64 0, .int .u64 0]) hS3 (zB (by kernel_rfl))) (fun w8 b11 hS9 hT10 => ?_)
  refine RG.now .plain (Acts.storeAll (news := (cs_TShare y6.1)) hS9 .hd rfl rfl rfl rfl rfl rfl (onesB rfl)) (fun w12 hS13 hT14 => ?_)
  refine RG.sg rfl rfl ?_
  refine RG.nil ?_
  refine MX.sr ?_
  refine RG.vv (FV.loadN (by kernel_rfl) rfl (hS13.memA .hd)) rfl ?_
  refine RG.now .plain (Acts.storeAll (news := (cs_TShare y6.1)) hS13 (.tl .hd) rfl rfl rfl rfl rfl rfl (onesB rfl)) (fun w15 hS16 hT17 => ?_)
  refine RG.nil ?_
  refine MX.ret rfl ?_
  refine RT.leave hb0 Tryz.func23 rfl (.cons (.many (cs := (cs_TShare y6.1)) (by kernel_rfl) rfl (hS16.memA (.tl .hd))) .nil) rfl ?_
  obtain rfl := Option.some.inj h
  exact ⟨hS16.ag, fun w9 hw9 => rfl⟩
def tb72_1 : List (Nat × Nat × Nat) := [(0, 128, 16), (0, 256, 4), (0, 512, 8), (6, 1024, 768), (9, 2048, 1152), (24, 4096, 2048), (32, 8192, 4098), (96, 16384, 12288), (160, 32768, 20480), (511, 64, 32768)]
theorem body23 : bodyB Tryz.prog 23 = true := by kernel_rfl
theorem ex_TShare {a b : TShare} (h0 : a.fN.1 = b.fN.1) (h1 : a.fN.2.1 = b.fN.2.1) (h2 : a.fN.2.2.1 = b.fN.2.2.1) (h3 : a.fN.2.2.2.1 = b.fN.2.2.2.1) (h4 : a.fN.2.2.2.2.1 = b.fN.2.2.2.2.1) (h5 : a.fN.2.2.2.2.2.1 = b.fN.2.2.2.2.2.1) (h6 : a.fN.2.2.2.2.2.2.1 = b.fN.2.2.2.2.2.2.1) (h7 : a.fN.2.2.2.2.2.2.2 = b.fN.2.2.2.2.2.2.2) (h8 : a.fD.1 = b.fD.1) (h9 : a.fD.2.1 = b.fD.2.1) (h10 : a.fD.2.2.1 = b.fD.2.2.1) (h11 : a.fD.2.2.2.1 = b.fD.2.2.2.1) (h12 : a.fD.2.2.2.2.1 = b.fD.2.2.2.2.1) (h13 : a.fD.2.2.2.2.2.1 = b.fD.2.2.2.2.2.1) (h14 : a.fD.2.2.2.2.2.2.1 = b.fD.2.2.2.2.2.2.1) (h15 : a.fD.2.2.2.2.2.2.2 = b.fD.2.2.2.2.2.2.2) : a = b := congr (congrArg TShare.mk (ex_A34 (a := a.fN) (b := b.fN) h0 h1 h2 h3 h4 h5 h6 h7)) (ex_A34 (a := a.fD) (b := b.fD) h8 h9 h10 h11 h12 h13 h14 h15)
theorem eqlD_37 (a b : TShare) (w9 : World) : (do eqGuard .eql 37 (.tmp 0) (.tmp 0) (.agg #[.int .u64 (a.fN.1.toNat : Int), .int .u64 (a.fN.2.1.toNat : Int), .int .u64 (a.fN.2.2.1.toNat : Int), .int .u64 (a.fN.2.2.2.1.toNat : Int), .int .u64 (a.fN.2.2.2.2.1.toNat : Int), .int .u64 (a.fN.2.2.2.2.2.1.toNat : Int), .int .u64 (a.fN.2.2.2.2.2.2.1.toNat : Int), .int .u64 (a.fN.2.2.2.2.2.2.2.toNat : Int), .int .u64 (a.fD.1.toNat : Int), .int .u64 (a.fD.2.1.toNat : Int), .int .u64 (a.fD.2.2.1.toNat : Int), .int .u64 (a.fD.2.2.2.1.toNat : Int), .int .u64 (a.fD.2.2.2.2.1.toNat : Int), .int .u64 (a.fD.2.2.2.2.2.1.toNat : Int), .int .u64 (a.fD.2.2.2.2.2.2.1.toNat : Int), .int .u64 (a.fD.2.2.2.2.2.2.2.toNat : Int)]) (.agg #[.int .u64 (b.fN.1.toNat : Int), .int .u64 (b.fN.2.1.toNat : Int), .int .u64 (b.fN.2.2.1.toNat : Int), .int .u64 (b.fN.2.2.2.1.toNat : Int), .int .u64 (b.fN.2.2.2.2.1.toNat : Int), .int .u64 (b.fN.2.2.2.2.2.1.toNat : Int), .int .u64 (b.fN.2.2.2.2.2.2.1.toNat : Int), .int .u64 (b.fN.2.2.2.2.2.2.2.toNat : Int), .int .u64 (b.fD.1.toNat : Int), .int .u64 (b.fD.2.1.toNat : Int), .int .u64 (b.fD.2.2.1.toNat : Int), .int .u64 (b.fD.2.2.2.1.toNat : Int), .int .u64 (b.fD.2.2.2.2.1.toNat : Int), .int .u64 (b.fD.2.2.2.2.2.1.toNat : Int), .int .u64 (b.fD.2.2.2.2.2.2.1.toNat : Int), .int .u64 (b.fD.2.2.2.2.2.2.2.toNat : Int)]); binOp .eql 37 (.agg #[.int .u64 (a.fN.1.toNat : Int), .int .u64 (a.fN.2.1.toNat : Int), .int .u64 (a.fN.2.2.1.toNat : Int), .int .u64 (a.fN.2.2.2.1.toNat : Int), .int .u64 (a.fN.2.2.2.2.1.toNat : Int), .int .u64 (a.fN.2.2.2.2.2.1.toNat : Int), .int .u64 (a.fN.2.2.2.2.2.2.1.toNat : Int), .int .u64 (a.fN.2.2.2.2.2.2.2.toNat : Int), .int .u64 (a.fD.1.toNat : Int), .int .u64 (a.fD.2.1.toNat : Int), .int .u64 (a.fD.2.2.1.toNat : Int), .int .u64 (a.fD.2.2.2.1.toNat : Int), .int .u64 (a.fD.2.2.2.2.1.toNat : Int), .int .u64 (a.fD.2.2.2.2.2.1.toNat : Int), .int .u64 (a.fD.2.2.2.2.2.2.1.toNat : Int), .int .u64 (a.fD.2.2.2.2.2.2.2.toNat : Int)]) (.agg #[.int .u64 (b.fN.1.toNat : Int), .int .u64 (b.fN.2.1.toNat : Int), .int .u64 (b.fN.2.2.1.toNat : Int), .int .u64 (b.fN.2.2.2.1.toNat : Int), .int .u64 (b.fN.2.2.2.2.1.toNat : Int), .int .u64 (b.fN.2.2.2.2.2.1.toNat : Int), .int .u64 (b.fN.2.2.2.2.2.2.1.toNat : Int), .int .u64 (b.fN.2.2.2.2.2.2.2.toNat : Int), .int .u64 (b.fD.1.toNat : Int), .int .u64 (b.fD.2.1.toNat : Int), .int .u64 (b.fD.2.2.1.toNat : Int), .int .u64 (b.fD.2.2.2.1.toNat : Int), .int .u64 (b.fD.2.2.2.2.1.toNat : Int), .int .u64 (b.fD.2.2.2.2.2.1.toNat : Int), .int .u64 (b.fD.2.2.2.2.2.2.1.toNat : Int), .int .u64 (b.fD.2.2.2.2.2.2.2.toNat : Int)]) : Sem Value).run Tryz.prog w9 = .ok (.bool (decide (a = b))) w9 :=
  eqAgg (ks := [.int .u64, .int .u64, .int .u64, .int .u64, .int .u64, .int .u64, .int .u64, .int .u64, .int .u64, .int .u64, .int .u64, .int .u64, .int .u64, .int .u64, .int .u64, .int .u64]) (xs := [.int .u64 (a.fN.1.toNat : Int), .int .u64 (a.fN.2.1.toNat : Int), .int .u64 (a.fN.2.2.1.toNat : Int), .int .u64 (a.fN.2.2.2.1.toNat : Int), .int .u64 (a.fN.2.2.2.2.1.toNat : Int), .int .u64 (a.fN.2.2.2.2.2.1.toNat : Int), .int .u64 (a.fN.2.2.2.2.2.2.1.toNat : Int), .int .u64 (a.fN.2.2.2.2.2.2.2.toNat : Int), .int .u64 (a.fD.1.toNat : Int), .int .u64 (a.fD.2.1.toNat : Int), .int .u64 (a.fD.2.2.1.toNat : Int), .int .u64 (a.fD.2.2.2.1.toNat : Int), .int .u64 (a.fD.2.2.2.2.1.toNat : Int), .int .u64 (a.fD.2.2.2.2.2.1.toNat : Int), .int .u64 (a.fD.2.2.2.2.2.2.1.toNat : Int), .int .u64 (a.fD.2.2.2.2.2.2.2.toNat : Int)]) (ys := [.int .u64 (b.fN.1.toNat : Int), .int .u64 (b.fN.2.1.toNat : Int), .int .u64 (b.fN.2.2.1.toNat : Int), .int .u64 (b.fN.2.2.2.1.toNat : Int), .int .u64 (b.fN.2.2.2.2.1.toNat : Int), .int .u64 (b.fN.2.2.2.2.2.1.toNat : Int), .int .u64 (b.fN.2.2.2.2.2.2.1.toNat : Int), .int .u64 (b.fN.2.2.2.2.2.2.2.toNat : Int), .int .u64 (b.fD.1.toNat : Int), .int .u64 (b.fD.2.1.toNat : Int), .int .u64 (b.fD.2.2.1.toNat : Int), .int .u64 (b.fD.2.2.2.1.toNat : Int), .int .u64 (b.fD.2.2.2.2.1.toNat : Int), .int .u64 (b.fD.2.2.2.2.2.1.toNat : Int), .int .u64 (b.fD.2.2.2.2.2.2.1.toNat : Int), .int .u64 (b.fD.2.2.2.2.2.2.2.toNat : Int)]) (by kernel_rfl) (by kernel_rfl) (by kernel_rfl) rfl rfl ⟨fun h => by
    simp only [allEq, veq, Bool.and_eq_true, beq_iff_eq, and_true] at h
    obtain ⟨h0, h1, h2, h3, h4, h5, h6, h7, h8, h9, h10, h11, h12, h13, h14, h15⟩ := h
    exact ex_TShare (UInt_inj64 h0) (UInt_inj64 h1) (UInt_inj64 h2) (UInt_inj64 h3) (UInt_inj64 h4) (UInt_inj64 h5) (UInt_inj64 h6) (UInt_inj64 h7) (UInt_inj64 h8) (UInt_inj64 h9) (UInt_inj64 h10) (UInt_inj64 h11) (UInt_inj64 h12) (UInt_inj64 h13) (UInt_inj64 h14) (UInt_inj64 h15), fun h => by subst h; simp [allEq, veq]⟩ _ _ w9
def wardmotelaw22_part_1_p (n : Nat) (a0 : TShare) (a1 : Int) (a2 : Int) (a3 : Int) : Option Bool :=
  (wardmotelaw22_of_p n a2 a3).bind fun y8 => (if a0 = y8 then some (decide (a1 = 0)) else some false)
set_option maxRecDepth 4000 in
set_option maxHeartbeats 4000000 in
theorem wardmotelaw22_part_1_c (n : Nat) (L : List Nat) (w : World) (hL : ∀ b ∈ L, b < w.heap.size) (a0 : TShare) (a1 : Int) (a2 : Int) {p2 : Nat} (m2 : ∀ j9 v9, ([.int .i64 a2] : List Value)[j9]? = some v9 → w.cell? ((⟨p2, 0, none⟩ : Addr).add j9) = some v9) (a3 : Int) {p3 : Nat} (m3 : ∀ j9 v9, ([.int .i64 a3] : List Value)[j9]? = some v9 → w.cell? ((⟨p3, 0, none⟩ : Addr).add j9) = some v9)  {r : Bool} (h : wardmotelaw22_part_1_p n a0 a1 a2 a3 = some r) :
    Calls Tryz.prog 72 #[.agg ((cs_TShare a0)).toArray, .int .i64 a1, .pointer (some ⟨p2, 0, none⟩), .pointer (some ⟨p3, 0, none⟩)] w (Gives w fun _ u => u = .bool r) := by
  unfold wardmotelaw22_part_1_p at h
  have hS0 := St.start w
  refine MX.start Tryz.func72 rfl rfl rfl (fun _ cs0 hb0 => ?_)
  refine MX.sr ?_
  refine RG.new .plain rfl (Does.box (vs := (cs_TShare a0)) hS0 rfl rfl) (fun w2 b5 hS3 hT4 => ?_)
  refine RG.sg rfl rfl ?_
  refine RG.nil ?_
  refine MX.seq ?_
  refine MX.drawT 10 tb72_1 (by kernel_rfl) (by kernel_rfl) (by kernel_rfl) (fun kt6 kp7 => ?_)
  refine RD.vx 0 1 1008 kt6 rfl kp7 (FV.loadN (by kernel_rfl) rfl (hS3.memA .hd)) rfl ?_
  refine RD.vx 1 3 1016 kt6 rfl kp7 (FV.load1 (by kernel_rfl) rfl ((fun j9 v9 h9 => hS3.ag.cell0 (m2 j9 v9 h9)) 0 _ rfl)) rfl ?_
  refine RD.vx 2 7 1016 kt6 rfl kp7 (FV.load1 (by kernel_rfl) rfl ((fun j9 v9 h9 => hS3.ag.cell0 (m3 j9 v9 h9)) 0 _ rfl)) rfl ?_
  obtain ⟨y8, hy8, h⟩ := bind_in h
  refine RD.cq 3 15 1008 (.agg ((cs_TShare y8)).toArray) kt6 rfl kp7 body23 rfl (evs_cons rfl (evs_cons rfl evs_nil)) (fun w9 hw9 => wardmotelaw22_of_c n _ w9 (hS3.hL0 hL hw9) a2 a3 hy8) rfl ?_
  refine RD.vw 4 31 kt6 rfl kp7 (fun _ => FV.eqlV (v := .agg ((cs_TShare a0)).toArray) (u := .agg ((cs_TShare y8)).toArray) rfl rfl (eqlD_37 a0 y8)) rfl ?_
  refine RD.vw 5 63 kt6 rfl kp7 (fun _ => FV.move rfl) rfl ?_
  refine RD.ifd (s := 12) rfl h (fun c9 h => ?_) (fun c9 h => ?_)
  ·skip
   refine RD.vP 6 127 kt6 rfl kp7 (.yes rfl rfl) (fun _ => FV.move rfl) rfl ?_
   refine RD.vP 7 255 kt6 rfl kp7 (.yes rfl rfl) (fun _ => FV.eql (i := a1) (j := 0) rfl rfl) rfl ?_
   refine RD.vw 8 511 kt6 rfl kp7 (fun _ => FV.pick_t rfl rfl) rfl ?_
   refine RD.vw 9 1023 kt6 rfl kp7 (fun _ => FV.assign rfl) rfl ?_
   refine RD.done (doneD_ok kt6 (by kernel_rfl)) ?_
   refine MX.ret rfl ?_
   refine RT.leave hb0 Tryz.func72 rfl (.cons (.tmp rfl) .nil) rfl ?_
   obtain rfl := Option.some.inj h
   exact ⟨hS3.ag, fun w9 hw9 => rfl⟩
  refine RD.offs 255 2 [(6, 13), (7, 14)] (F := [(12, false)]) (U := []) kt6 kp7 (.cons rfl .nil) .nil ?_
  dsimp only [offS, List.map]
  refine RD.vw 8 511 kt6 rfl kp7 (fun _ => FV.pick_f rfl rfl) rfl ?_
  refine RD.vw 9 1023 kt6 rfl kp7 (fun _ => FV.assign rfl) rfl ?_
  refine RD.done (doneD_ok kt6 (by kernel_rfl)) ?_
  refine MX.ret rfl ?_
  refine RT.leave hb0 Tryz.func72 rfl (.cons (.tmp rfl) .nil) rfl ?_
  obtain rfl := Option.some.inj h
  exact ⟨hS3.ag, fun w9 hw9 => rfl⟩
set_option maxRecDepth 4000 in
set_option maxHeartbeats 4000000 in
theorem wardmotelaw22_part_c (n : Nat) (L : List Nat) (w : World) (_hL : ∀ b ∈ L, b < w.heap.size) (a0 : Int) (a1 : Int)  :
    Calls Tryz.prog 21 #[.int .i64 a0, .int .i64 a1] w (Gives w fun w' u => ∃ b5 b10 : Nat, u = .func (.func 72) #[] #[.pointer (some ⟨b5, 0, none⟩), .pointer (some ⟨b10, 0, none⟩)] ∧ St w w' [.cells b5 [.int .i64 a0] 3, .cells b10 [.int .i64 a1] 3]) := by
  have hS0 := St.start w
  refine MX.start Tryz.func21 rfl rfl rfl (fun _ cs0 hb0 => ?_)
  refine MX.sr ?_
  refine RG.new .plain rfl (Does.box (vs := [.int .i64 a0]) hS0 rfl rfl) (fun w2 b5 hS3 hT4 => ?_)
  refine RG.new .plain rfl (Does.box (vs := [.int .i64 a1]) hS3 rfl rfl) (fun w7 b10 hS8 hT9 => ?_)
  refine RG.sg rfl rfl ?_
  refine RG.nil ?_
  refine MX.sr ?_
  refine RG.vv (FV.makeFunc (vs := []) (us := [.pointer (some ⟨b5, 0, none⟩), .pointer (some ⟨b10, 0, none⟩)]) evs_nil (evs_cons rfl (evs_cons rfl evs_nil))) rfl ?_
  refine RG.sg rfl rfl ?_
  refine RG.nil ?_
  refine MX.ret rfl ?_
  refine RT.leave (u := .func (.func 72) #[] #[.pointer (some ⟨b5, 0, none⟩), .pointer (some ⟨b10, 0, none⟩)]) hb0 Tryz.func21 rfl (.cons (.tmp rfl) .nil) rfl ?_
  obtain ⟨hS11, hT12⟩ := St.arrB hS8 (.one (.tl .hd) (.one .hd .done))
  exact ⟨hS11.ag, fun w9 hw9 => ⟨b5, b10, rfl, hS11.agree hw9⟩⟩
def tb126_1 : List (Nat × Nat × Nat) := [(0, 32, 4), (1, 64, 32), (0, 128, 8), (4, 256, 128), (10, 512, 320), (0, 1024, 4), (32, 2048, 1024), (0, 4096, 8), (128, 8192, 4096), (336, 16384, 10240), (528, 32768, 16896), (2047, 0, 32784)]
def share_Ratio_Over_p (n : Nat) (a0 : TRatio) (a1 : TRatio) : Option TRatio :=
  (wide_Long_Times_p n a0.fLong a1.fUnder).bind fun y18 => (wide_Long_Times_p n a0.fUnder a1.fLong).bind fun y28 => (share_Lowest_p n y18 y28).bind fun y38 => some y38
set_option maxRecDepth 4000 in
set_option maxHeartbeats 4000000 in
theorem share_Ratio_Over_c (n : Nat) (L : List Nat) (w : World) (hL : ∀ b ∈ L, b < w.heap.size) (a0 : TRatio) {v0_1 : Value} (h0_1 : Rep.R w L [v0_1] a0.fLong.fWords) {v0_3 : Value} (h0_3 : Rep.R w L [v0_3] a0.fUnder.fWords) (a1 : TRatio) {v1_1 : Value} (h1_1 : Rep.R w L [v1_1] a1.fLong.fWords) {v1_3 : Value} (h1_3 : Rep.R w L [v1_3] a1.fUnder.fWords)  {r : TRatio} (h : share_Ratio_Over_p n a0 a1 = some r) :
    Calls Tryz.prog 126 #[.agg #[.bool a0.fLong.fBelow, v0_1, .bool a0.fUnder.fBelow, v0_3], .agg #[.bool a1.fLong.fBelow, v1_1, .bool a1.fUnder.fBelow, v1_3]] w (Gives w fun w' u => ∃ v0_1 v0_3 : Value, u = .agg #[.bool r.fLong.fBelow, v0_1, .bool r.fUnder.fBelow, v0_3] ∧ Rep.R w' L [v0_1] r.fLong.fWords ∧ Rep.R w' L [v0_3] r.fUnder.fWords) := by
  unfold share_Ratio_Over_p at h
  have hS0 := St.start w
  refine MX.start Tryz.func126 rfl rfl rfl (fun _ cs0 hb0 => ?_)
  refine MX.sr ?_
  refine RG.new .plain rfl (Does.box (vs := [.bool a0.fLong.fBelow, v0_1, .bool a0.fUnder.fBelow, v0_3]) hS0 rfl rfl) (fun w2 b5 hS3 hT4 => ?_)
  refine RG.new .plain rfl (Does.box (vs := [.bool a1.fLong.fBelow, v1_1, .bool a1.fUnder.fBelow, v1_3]) hS3 rfl rfl) (fun w7 b10 hS8 hT9 => ?_)
  refine RG.new .plain rfl (Does.alloc (zs := [.bool false, .slice none 0 0, .bool false, .slice none 0 0]) hS8 (zB (by kernel_rfl))) (fun w12 b15 hS13 hT14 => ?_)
  refine RG.nil ?_
  refine MX.seq ?_
  refine MX.drawT 11 tb126_1 (by kernel_rfl) (by kernel_rfl) (by kernel_rfl) (fun kt16 kp17 => ?_)
  refine RD.vw 0 1 kt16 rfl kp17 (fun _ => FV.fieldAddr (off := 0) (by kernel_rfl) rfl) rfl ?_
  refine RD.vx 1 3 3600 kt16 rfl kp17 (FV.loadN (cs := [.bool a0.fLong.fBelow, v0_1]) (by kernel_rfl) rfl (mem_part (hS13.memA (.tl (.tl .hd))) 0 2)) rfl ?_
  refine RD.vw 2 7 kt16 rfl kp17 (fun _ => FV.fieldAddr (off := 2) (by kernel_rfl) rfl) rfl ?_
  refine RD.vx 3 15 3600 kt16 rfl kp17 (FV.loadN (cs := [.bool a1.fUnder.fBelow, v1_3]) (by kernel_rfl) rfl (mem_part (hS13.memA (.tl .hd)) 2 2)) rfl ?_
  refine RD.vw 5 47 kt16 rfl kp17 (fun _ => FV.fieldAddr (off := 2) (by kernel_rfl) rfl) rfl ?_
  refine RD.vx 6 111 3584 kt16 rfl kp17 (FV.loadN (cs := [.bool a0.fUnder.fBelow, v0_3]) (by kernel_rfl) rfl (mem_part (hS13.memA (.tl (.tl .hd))) 2 2)) rfl ?_
  refine RD.vw 7 239 kt16 rfl kp17 (fun _ => FV.fieldAddr (off := 0) (by kernel_rfl) rfl) rfl ?_
  refine RD.vx 8 495 3584 kt16 rfl kp17 (FV.loadN (cs := [.bool a1.fLong.fBelow, v1_1]) (by kernel_rfl) rfl (mem_part (hS13.memA (.tl .hd)) 0 2)) rfl ?_
  obtain ⟨y18, hy18, h⟩ := bind_in h
  have hm19 := Rep.mv h0_1 (Tr.trans hT4 (Tr.trans hT9 hT14))
  have hm20 := Rep.mv h1_3 (Tr.trans hT4 (Tr.trans hT9 hT14))
  refine RD.cl 4 511 kt16 rfl .plain body132 rfl (evs_cons rfl (evs_cons rfl evs_nil)) (fun w9 hw9 => wide_Long_Times_c n _ w9 (hS13.hL hL hw9) a0.fLong (Rep.keep0 hm19 hw9) a1.fUnder (Rep.keep0 hm20 hw9) hy18) rfl (fun w21 vu22 hag23 ⟨v26, hu_, hr27⟩ => ?_)
  subst hu_
  obtain ⟨hS24, hT25⟩ := hS13.agr hag23
  obtain ⟨y28, hy28, h⟩ := bind_in h
  have hm29 := Rep.mv h0_3 (Tr.trans hT4 (Tr.trans hT9 (Tr.trans hT14 hT25)))
  have hm30 := Rep.mv h1_1 (Tr.trans hT4 (Tr.trans hT9 (Tr.trans hT14 hT25)))
  refine RD.cl 9 1023 kt16 rfl .plain body132 rfl (evs_cons rfl (evs_cons rfl evs_nil)) (fun w9 hw9 => wide_Long_Times_c n _ w9 (hS24.hL hL hw9) a0.fUnder (Rep.keep0 hm29 hw9) a1.fLong (Rep.keep0 hm30 hw9) hy28) rfl (fun w31 vu32 hag33 ⟨v36, hu_, hr37⟩ => ?_)
  subst hu_
  obtain ⟨hS34, hT35⟩ := hS24.agr hag33
  obtain ⟨y38, hy38, h⟩ := bind_in h
  have hm39 := Rep.mv hr27 hT35
  refine RD.cl 10 2047 kt16 rfl .plain body131 rfl (evs_cons rfl (evs_cons rfl evs_nil)) (fun w9 hw9 => share_Lowest_c n _ w9 (hS34.hL hL hw9) y18 (Rep.keep0 hm39 hw9) y28 (Rep.keep0 hr37 hw9) hy38) rfl (fun w40 vu41 hag42 ⟨v45, v46, hu_, hr47, hr48⟩ => ?_)
  subst hu_
  obtain ⟨hS43, hT44⟩ := hS34.agr hag42
  refine RD.nw 11 4095 kt16 rfl rfl .plain (Acts.storeAll (news := [.bool y38.fLong.fBelow, v45, .bool y38.fUnder.fBelow, v46]) hS43 .hd rfl rfl rfl rfl rfl rfl (ones_cons rfl (ones_cons (Rep.o1 hr47) (ones_cons rfl (ones_cons (Rep.o1 hr48) ones_nil))))) (fun w49 hS50 hT51 => ?_)
  refine RD.done (doneD_ok kt16 (by kernel_rfl)) ?_
  refine MX.ret rfl ?_
  refine RT.leave hb0 Tryz.func126 rfl (.cons (.many (cs := [.bool y38.fLong.fBelow, v45, .bool y38.fUnder.fBelow, v46]) (by kernel_rfl) rfl (hS50.memA .hd)) .nil) rfl ?_
  obtain rfl := Option.some.inj h
  have hm52 := Rep.mv hr47 hT51
  have hm53 := Rep.mv hr48 hT51
  exact ⟨hS50.ag, fun w9 hw9 => ⟨v45, v46, rfl, Rep.keep0 (Rep.dropS hS50 hm52) hw9, Rep.keep0 (Rep.dropS hS50 hm53) hw9⟩⟩
theorem body126 : bodyB Tryz.prog 126 = true := by kernel_rfl
def share_Div_p (n : Nat) (a0 : TShare) (a1 : TShare) : Option (TShare × Int) :=
  (share_valid_p n ([a0, a1] : List TShare)).bind fun y22 => (if y22 = true then (if a1.fN = ((0 : UInt64), (0 : UInt64), (0 : UInt64), (0 : UInt64), (0 : UInt64), (0 : UInt64), (0 : UInt64), (0 : UInt64)) then some ((⟨((0 : UInt64), (0 : UInt64), (0 : UInt64), (0 : UInt64), (0 : UInt64), (0 : UInt64), (0 : UInt64), (0 : UInt64)), ((0 : UInt64), (0 : UInt64), (0 : UInt64), (0 : UInt64), (0 : UInt64), (0 : UInt64), (0 : UInt64), (0 : UInt64))⟩ : TShare), (7 : Int)) else (share_valid_p n ([a0, a1] : List TShare)).bind fun y52 => (if y52 = true then (share_Read_p n a0).bind fun y56 => (share_Read_p n a1).bind fun y66 => (share_Ratio_Over_p n y56 y66).bind fun y76 => (share_told_p n y76 (0 : Int)).bind fun y91 => some (y91.1, y91.2) else (share_told_p n (⟨(⟨false, ([] : List UInt64)⟩ : TLong), (⟨false, ([] : List UInt64)⟩ : TLong)⟩ : TRatio) (20 : Int)).bind fun y105 => some (y105.1, y105.2))) else (share_valid_p n ([a0, a1] : List TShare)).bind fun y133 => (if y133 = true then (share_Read_p n a0).bind fun y137 => (share_Read_p n a1).bind fun y147 => (share_Ratio_Over_p n y137 y147).bind fun y157 => (share_told_p n y157 (0 : Int)).bind fun y172 => some (y172.1, y172.2) else (share_told_p n (⟨(⟨false, ([] : List UInt64)⟩ : TLong), (⟨false, ([] : List UInt64)⟩ : TLong)⟩ : TRatio) (20 : Int)).bind fun y186 => some (y186.1, y186.2)))
set_option maxRecDepth 4000 in
set_option maxHeartbeats 4000000 in
theorem share_Div_c (n : Nat) (L : List Nat) (w : World) (hL : ∀ b ∈ L, b < w.heap.size) (a0 : TShare) (a1 : TShare)  {r : TShare × Int} (h : share_Div_p n a0 a1 = some r) :
    Calls Tryz.prog 77 #[.agg ((cs_TShare a0)).toArray, .agg ((cs_TShare a1)).toArray] w (Gives w fun _ u => u = .tuple #[.agg ((cs_TShare r.1)).toArray, .int .i64 r.2]) := by
  unfold share_Div_p at h
  have hS0 := St.start w
  refine MX.start Tryz.func77 rfl rfl rfl (fun _ cs0 hb0 => ?_)
  refine MX.sr ?_
  refine RG.new .plain rfl (Does.box (vs := (cs_TShare a0)) hS0 rfl rfl) (fun w2 b5 hS3 hT4 => ?_)
  refine RG.new .plain rfl (Does.box (vs := (cs_TShare a1)) hS3 rfl rfl) (fun w7 b10 hS8 hT9 => ?_)
  refine RG.new .plain rfl (Does.alloc (zs := [.int .u64 0, .int .u64 0, .int .u64 0, .int .u64 0, .int .u64 0, .int .u64 0, .int .u64 0, .int .u64 0, .int .u64 0, .int .u64 0, .int .u64 0, .int .u64 0, .int .u64 0, .int .u64 0, .int .u64 0, .int .u64 0]) hS8 (zB (by kernel_rfl))) (fun w12 b15 hS13 hT14 => ?_)
  refine RG.sg rfl rfl ?_
  refine RG.nil ?_
  refine MX.seq ?_
  refine MX.sr ?_
  refine RG.vv (FV.loadN (by kernel_rfl) rfl (hS13.memA (.tl (.tl .hd)))) rfl ?_
  refine RG.vv (FV.loadN (by kernel_rfl) rfl (hS13.memA (.tl .hd))) rfl ?_
  refine RG.new .plain rfl (Does.build (α := TShare) (xs := ([a0, a1] : List TShare)) (vs := [.agg ((cs_TShare a0)).toArray, .agg ((cs_TShare a1)).toArray]) (ds' := (cs_TShare a0 ++ cs_TShare a1)) rfl hS13 el68 rfl (evs_cons rfl (evs_cons rfl evs_nil)) (by kernel_rfl) rfl) (fun w17 b20 hS18 hT19 => ?_)
  have hc21 := Cells.at_ (cs := (cs_TShare a0 ++ cs_TShare a1)) (xs := (([a0, a1] : List TShare) : List TShare)) hS18 L (Cells.cons (cs := (cs_TShare a0)) (ds := (cs_TShare a1)) (mk_TShare a0.fN a0.fD) (Cells.cons (cs := (cs_TShare a1)) (ds := []) (mk_TShare a1.fN a1.fD) (Cells.nil _ _)))
  obtain ⟨y22, hy22, h⟩ := bind_in h
  refine RG.cq (.bool y22) body125 rfl (evs_cons rfl evs_nil) (fun w9 hw9 => share_valid_c n _ w9 (hS18.hL0 hL hw9) ([a0, a1] : List TShare) (Rep.keep0 (St.lend (α := TShare) (L := L) hS18 .hd hc21 hL) hw9) hy22) rfl ?_
  refine RG.mv rfl rfl ?_
  refine RG.ifb (s := 10) rfl h (fun c23 h => ?_) (fun c23 h => ?_)
  ·skip
   refine RG.val' (.yes rfl rfl) (FV.fieldAddr (off := 0) (by kernel_rfl) rfl) rfl ?_
   refine RG.val' (.yes rfl rfl) (FV.loadN (cs := (cs_A34 a1.fN)) (by kernel_rfl) rfl (mem_part (hS18.memA (.tl (.tl .hd))) 0 8)) rfl ?_
   refine RG.val' (.yes rfl rfl) (FV.buildV (vs := []) (u := .agg #[.int .u64 0, .int .u64 0, .int .u64 0, .int .u64 0, .int .u64 0, .int .u64 0, .int .u64 0, .int .u64 0]) evs_nil (fun w9 => by kernel_rfl)) rfl ?_
   refine RG.val' (.yes rfl rfl) (FV.eqlV (v := .agg ((cs_A34 a1.fN)).toArray) (u := .agg #[.int .u64 0, .int .u64 0, .int .u64 0, .int .u64 0, .int .u64 0, .int .u64 0, .int .u64 0, .int .u64 0]) rfl rfl (eqlD_35 a1.fN ((0 : UInt64), (0 : UInt64), (0 : UInt64), (0 : UInt64), (0 : UInt64), (0 : UInt64), (0 : UInt64), (0 : UInt64)))) rfl ?_
   refine RG.vv (FV.pick_t rfl rfl) rfl ?_
   refine RG.nil ?_
   refine MX.ifd rfl h (fun c24 h => ?_) (fun c24 h => ?_)
   ·skip
    refine MX.sr ?_
    refine RG.vv (FV.buildV (vs := []) (u := .agg #[.int .u64 0, .int .u64 0, .int .u64 0, .int .u64 0, .int .u64 0, .int .u64 0, .int .u64 0, .int .u64 0, .int .u64 0, .int .u64 0, .int .u64 0, .int .u64 0, .int .u64 0, .int .u64 0, .int .u64 0, .int .u64 0]) evs_nil (fun w9 => by kernel_rfl)) rfl ?_
    refine RG.now .plain (Acts.storeAll (news := [.int .u64 0, .int .u64 0, .int .u64 0, .int .u64 0, .int .u64 0, .int .u64 0, .int .u64 0, .int .u64 0, .int .u64 0, .int .u64 0, .int .u64 0, .int .u64 0, .int .u64 0, .int .u64 0, .int .u64 0, .int .u64 0]) hS18 (.tl .hd) rfl rfl rfl rfl rfl rfl (onesB rfl)) (fun w25 hS26 hT27 => ?_)
    refine RG.sg rfl rfl ?_
    refine RG.nil ?_
    refine MX.ret rfl ?_
    refine RT.leave hb0 Tryz.func77 rfl (.cons (.many (cs := [.int .u64 0, .int .u64 0, .int .u64 0, .int .u64 0, .int .u64 0, .int .u64 0, .int .u64 0, .int .u64 0, .int .u64 0, .int .u64 0, .int .u64 0, .int .u64 0, .int .u64 0, .int .u64 0, .int .u64 0, .int .u64 0]) (by kernel_rfl) rfl (hS26.memA (.tl .hd))) (.cons (.tmp rfl) .nil)) rfl ?_
    obtain rfl := Option.some.inj h
    exact ⟨hS26.ag, fun w9 hw9 => rfl⟩
   refine MX.skip ?_
   refine MX.sr ?_
   refine RG.vv (FV.loadN (by kernel_rfl) rfl (hS18.memA (.tl (.tl (.tl .hd))))) rfl ?_
   refine RG.vv (FV.loadN (by kernel_rfl) rfl (hS18.memA (.tl (.tl .hd)))) rfl ?_
   refine RG.enterP (fst := []) (cap := []) (vs := [.agg ((cs_TShare a0)).toArray, .agg ((cs_TShare a1)).toArray, .func (.func 126) #[] #[]]) .plain body80 Tryz.func80 rfl rfl rfl rfl (evs_cons rfl (evs_cons rfl (evs_cons rfl evs_nil))) rfl (fun cs29 hb28 hp30 => ?_)
   refine MX.sr ?_
   refine RG.new .plain rfl (Does.box (vs := (cs_TShare a0)) hS18 rfl rfl) (fun w32 b35 hS33 hT34 => ?_)
   refine RG.new .plain rfl (Does.box (vs := (cs_TShare a1)) hS33 rfl rfl) (fun w37 b40 hS38 hT39 => ?_)
   refine RG.new .plain rfl (Does.alloc (zs := [.bool false, .slice none 0 0, .bool false, .slice none 0 0]) hS38 (zB (by kernel_rfl))) (fun w42 b45 hS43 hT44 => ?_)
   refine RG.sg rfl rfl ?_
   refine RG.nil ?_
   refine MX.seq ?_
   refine MX.sr ?_
   refine RG.vv (FV.loadN (by kernel_rfl) rfl (hS43.memA (.tl (.tl .hd)))) rfl ?_
   refine RG.vv (FV.loadN (by kernel_rfl) rfl (hS43.memA (.tl .hd))) rfl ?_
   refine RG.new .plain rfl (Does.build (α := TShare) (xs := ([a0, a1] : List TShare)) (vs := [.agg ((cs_TShare a0)).toArray, .agg ((cs_TShare a1)).toArray]) (ds' := (cs_TShare a0 ++ cs_TShare a1)) rfl hS43 el68 rfl (evs_cons rfl (evs_cons rfl evs_nil)) (by kernel_rfl) rfl) (fun w47 b50 hS48 hT49 => ?_)
   have hc51 := Cells.at_ (cs := (cs_TShare a0 ++ cs_TShare a1)) (xs := (([a0, a1] : List TShare) : List TShare)) hS48 L (Cells.cons (cs := (cs_TShare a0)) (ds := (cs_TShare a1)) (mk_TShare a0.fN a0.fD) (Cells.cons (cs := (cs_TShare a1)) (ds := []) (mk_TShare a1.fN a1.fD) (Cells.nil _ _)))
   obtain ⟨y52, hy52, h⟩ := bind_in h
   refine RG.cq (.bool y52) body125 rfl (evs_cons rfl evs_nil) (fun w9 hw9 => share_valid_c n _ w9 (hS48.hL0 hL hw9) ([a0, a1] : List TShare) (Rep.keep0 (St.lend (α := TShare) (L := L) hS48 .hd hc51 hL) hw9) hy52) rfl ?_
   refine RG.vv (FV.not rfl) rfl ?_
   refine RG.nil ?_
   refine MX.ifnb rfl h (fun c53 h => ?_) (fun c53 h => ?_)
   ·skip
    refine MX.skip ?_
    refine MX.seq ?_
    refine MX.drawT 6 tb80_4 (by kernel_rfl) (by kernel_rfl) (by kernel_rfl) (fun kt54 kp55 => ?_)
    refine RD.vw 0 1 kt54 rfl kp55 (fun _ => FV.move rfl) rfl ?_
    refine RD.vx 1 3 244 kt54 rfl kp55 (FV.loadN (by kernel_rfl) rfl (hS48.memA (.tl (.tl (.tl .hd))))) rfl ?_
    refine RD.vx 3 11 240 kt54 rfl kp55 (FV.loadN (by kernel_rfl) rfl (hS48.memA (.tl (.tl .hd)))) rfl ?_
    obtain ⟨y56, hy56, h⟩ := bind_in h
    refine RD.cl 2 15 kt54 rfl .plain body130 rfl (evs_cons rfl evs_nil) (fun w9 hw9 => share_Read_c n _ w9 (hS48.hL hL hw9) a0 hy56) rfl (fun w57 vu58 hag59 ⟨v62, v63, hu_, hr64, hr65⟩ => ?_)
    subst hu_
    obtain ⟨hS60, hT61⟩ := hS48.agr hag59
    obtain ⟨y66, hy66, h⟩ := bind_in h
    refine RD.cl 4 31 kt54 rfl .plain body130 rfl (evs_cons rfl evs_nil) (fun w9 hw9 => share_Read_c n _ w9 (hS60.hL hL hw9) a1 hy66) rfl (fun w67 vu68 hag69 ⟨v72, v73, hu_, hr74, hr75⟩ => ?_)
    subst hu_
    obtain ⟨hS70, hT71⟩ := hS60.agr hag69
    obtain ⟨y76, hy76, h⟩ := bind_in h
    have hm77 := Rep.mv hr64 hT71
    have hm78 := Rep.mv hr65 hT71
    refine RD.cl 5 63 kt54 rfl .plain body126 rfl (evs_cons rfl (evs_cons rfl evs_nil)) (fun w9 hw9 => share_Ratio_Over_c n _ w9 (hS70.hL hL hw9) y56 (Rep.keep0 hm77 hw9) (Rep.keep0 hm78 hw9) y66 (Rep.keep0 hr74 hw9) (Rep.keep0 hr75 hw9) hy76) rfl (fun w79 vu80 hag81 ⟨v84, v85, hu_, hr86, hr87⟩ => ?_)
    subst hu_
    obtain ⟨hS82, hT83⟩ := hS70.agr hag81
    refine RD.nw 6 127 kt54 rfl rfl .plain (Acts.storeAll (news := [.bool y76.fLong.fBelow, v84, .bool y76.fUnder.fBelow, v85]) hS82 (.tl .hd) rfl rfl rfl rfl rfl rfl (ones_cons rfl (ones_cons (Rep.o1 hr86) (ones_cons rfl (ones_cons (Rep.o1 hr87) ones_nil))))) (fun w88 hS89 hT90 => ?_)
    refine RD.one (i := 7) (readyD_ok kt54 (by kernel_rfl)) (RO.val (m' := 255) (stepC_ok kt54 (by kernel_rfl)) rfl .plain rfl (FV.assign rfl) ?_)
    refine RD.done (doneD_ok kt54 (by kernel_rfl)) ?_
    refine MX.ret rfl ?_
    refine RT.leave (u := .tuple #[.agg #[.bool y76.fLong.fBelow, v84, .bool y76.fUnder.fBelow, v85], .int .i64 0]) hb28 Tryz.func80 rfl (.cons (.many (cs := [.bool y76.fLong.fBelow, v84, .bool y76.fUnder.fBelow, v85]) (by kernel_rfl) rfl (hS89.memA (.tl .hd))) (.cons (.tmp rfl) .nil)) rfl ?_
    refine RG.vv (FV.extract rfl rfl) rfl ?_
    refine RG.vv (FV.extract rfl rfl) rfl ?_
    obtain ⟨y91, hy91, h⟩ := bind_in h
    have hm92 := Rep.mv hr86 hT90
    have hm93 := Rep.mv hr87 hT90
    refine RG.cq (.tuple #[.agg ((cs_TShare y91.1)).toArray, .int .i64 y91.2]) body79 rfl (evs_cons rfl (evs_cons rfl evs_nil)) (fun w9 hw9 => share_told_c n _ w9 (hS89.hL0 hL hw9) y76 (Rep.keep0 (Rep.dropS hS89 hm92) hw9) (Rep.keep0 (Rep.dropS hS89 hm93) hw9) (0 : Int) hy91) rfl ?_
    refine RG.vv (FV.extract rfl rfl) rfl ?_
    refine RG.vv (FV.extract rfl rfl) rfl ?_
    refine RG.now .plain (Acts.storeAll (news := (cs_TShare y91.1)) hS89 (.tl (.tl (.tl (.tl (.tl .hd))))) rfl rfl rfl rfl rfl rfl (onesB rfl)) (fun w94 hS95 hT96 => ?_)
    refine RG.sg rfl rfl ?_
    refine RG.nil ?_
    refine MX.ret rfl ?_
    refine RT.leave hb0 Tryz.func77 rfl (.cons (.many (cs := (cs_TShare y91.1)) (by kernel_rfl) rfl (hS95.memA (.tl (.tl (.tl (.tl (.tl .hd))))))) (.cons (.tmp rfl) .nil)) rfl ?_
    obtain rfl := Option.some.inj h
    exact ⟨hS95.ag, fun w9 hw9 => rfl⟩
   refine MX.sr ?_
   refine RG.new .plain rfl (Does.alloc (zs := [.bool false, .slice none 0 0, .bool false, .slice none 0 0]) hS48 (zB (by kernel_rfl))) (fun w98 b101 hS99 hT100 => ?_)
   refine RG.nil ?_
   refine MX.sr ?_
   refine RG.vv (FV.loadN (by kernel_rfl) rfl (hS99.memA .hd)) rfl ?_
   refine RG.now .plain (Acts.storeAll (news := [.bool false, .slice none 0 0, .bool false, .slice none 0 0]) hS99 (.tl (.tl .hd)) rfl rfl rfl rfl rfl rfl (onesB rfl)) (fun w102 hS103 hT104 => ?_)
   refine RG.sg rfl rfl ?_
   refine RG.nil ?_
   refine MX.ret rfl ?_
   refine RT.leave (u := .tuple #[.agg #[.bool false, .slice none 0 0, .bool false, .slice none 0 0], .int .i64 20]) hb28 Tryz.func80 rfl (.cons (.many (cs := [.bool false, .slice none 0 0, .bool false, .slice none 0 0]) (by kernel_rfl) rfl (hS103.memA (.tl (.tl .hd)))) (.cons (.tmp rfl) .nil)) rfl ?_
   refine RG.vv (FV.extract rfl rfl) rfl ?_
   refine RG.vv (FV.extract rfl rfl) rfl ?_
   obtain ⟨y105, hy105, h⟩ := bind_in h
   refine RG.cq (.tuple #[.agg ((cs_TShare y105.1)).toArray, .int .i64 y105.2]) body79 rfl (evs_cons rfl (evs_cons rfl evs_nil)) (fun w9 hw9 => share_told_c n _ w9 (hS103.hL0 hL hw9) (⟨(⟨false, ([] : List UInt64)⟩ : TLong), (⟨false, ([] : List UInt64)⟩ : TLong)⟩ : TRatio) (Rep.keep0 (Rep.nilSlice _ _) hw9) (Rep.keep0 (Rep.nilSlice _ _) hw9) (20 : Int) hy105) rfl ?_
   refine RG.vv (FV.extract rfl rfl) rfl ?_
   refine RG.vv (FV.extract rfl rfl) rfl ?_
   refine RG.now .plain (Acts.storeAll (news := (cs_TShare y105.1)) hS103 (.tl (.tl (.tl (.tl (.tl (.tl .hd)))))) rfl rfl rfl rfl rfl rfl (onesB rfl)) (fun w106 hS107 hT108 => ?_)
   refine RG.sg rfl rfl ?_
   refine RG.nil ?_
   refine MX.ret rfl ?_
   refine RT.leave hb0 Tryz.func77 rfl (.cons (.many (cs := (cs_TShare y105.1)) (by kernel_rfl) rfl (hS107.memA (.tl (.tl (.tl (.tl (.tl (.tl .hd)))))))) (.cons (.tmp rfl) .nil)) rfl ?_
   obtain rfl := Option.some.inj h
   exact ⟨hS107.ag, fun w9 hw9 => rfl⟩
  refine RG.off (.no rfl rfl) rfl ?_
  refine RG.off (.no rfl rfl) rfl ?_
  refine RG.off (.no rfl rfl) rfl ?_
  refine RG.off (.no rfl rfl) rfl ?_
  refine RG.vv (FV.pick_f rfl rfl) rfl ?_
  refine RG.nil ?_
  refine MX.cond_f rfl ?_
  refine MX.skip ?_
  refine MX.sr ?_
  refine RG.vv (FV.loadN (by kernel_rfl) rfl (hS18.memA (.tl (.tl (.tl .hd))))) rfl ?_
  refine RG.vv (FV.loadN (by kernel_rfl) rfl (hS18.memA (.tl (.tl .hd)))) rfl ?_
  refine RG.enterP (fst := []) (cap := []) (vs := [.agg ((cs_TShare a0)).toArray, .agg ((cs_TShare a1)).toArray, .func (.func 126) #[] #[]]) .plain body80 Tryz.func80 rfl rfl rfl rfl (evs_cons rfl (evs_cons rfl (evs_cons rfl evs_nil))) rfl (fun cs110 hb109 hp111 => ?_)
  refine MX.sr ?_
  refine RG.new .plain rfl (Does.box (vs := (cs_TShare a0)) hS18 rfl rfl) (fun w113 b116 hS114 hT115 => ?_)
  refine RG.new .plain rfl (Does.box (vs := (cs_TShare a1)) hS114 rfl rfl) (fun w118 b121 hS119 hT120 => ?_)
  refine RG.new .plain rfl (Does.alloc (zs := [.bool false, .slice none 0 0, .bool false, .slice none 0 0]) hS119 (zB (by kernel_rfl))) (fun w123 b126 hS124 hT125 => ?_)
  refine RG.sg rfl rfl ?_
  refine RG.nil ?_
  refine MX.seq ?_
  refine MX.sr ?_
  refine RG.vv (FV.loadN (by kernel_rfl) rfl (hS124.memA (.tl (.tl .hd)))) rfl ?_
  refine RG.vv (FV.loadN (by kernel_rfl) rfl (hS124.memA (.tl .hd))) rfl ?_
  refine RG.new .plain rfl (Does.build (α := TShare) (xs := ([a0, a1] : List TShare)) (vs := [.agg ((cs_TShare a0)).toArray, .agg ((cs_TShare a1)).toArray]) (ds' := (cs_TShare a0 ++ cs_TShare a1)) rfl hS124 el68 rfl (evs_cons rfl (evs_cons rfl evs_nil)) (by kernel_rfl) rfl) (fun w128 b131 hS129 hT130 => ?_)
  have hc132 := Cells.at_ (cs := (cs_TShare a0 ++ cs_TShare a1)) (xs := (([a0, a1] : List TShare) : List TShare)) hS129 L (Cells.cons (cs := (cs_TShare a0)) (ds := (cs_TShare a1)) (mk_TShare a0.fN a0.fD) (Cells.cons (cs := (cs_TShare a1)) (ds := []) (mk_TShare a1.fN a1.fD) (Cells.nil _ _)))
  obtain ⟨y133, hy133, h⟩ := bind_in h
  refine RG.cq (.bool y133) body125 rfl (evs_cons rfl evs_nil) (fun w9 hw9 => share_valid_c n _ w9 (hS129.hL0 hL hw9) ([a0, a1] : List TShare) (Rep.keep0 (St.lend (α := TShare) (L := L) hS129 .hd hc132 hL) hw9) hy133) rfl ?_
  refine RG.vv (FV.not rfl) rfl ?_
  refine RG.nil ?_
  refine MX.ifnb rfl h (fun c134 h => ?_) (fun c134 h => ?_)
  ·skip
   refine MX.skip ?_
   refine MX.seq ?_
   refine MX.drawT 6 tb80_4 (by kernel_rfl) (by kernel_rfl) (by kernel_rfl) (fun kt135 kp136 => ?_)
   refine RD.vw 0 1 kt135 rfl kp136 (fun _ => FV.move rfl) rfl ?_
   refine RD.vx 1 3 244 kt135 rfl kp136 (FV.loadN (by kernel_rfl) rfl (hS129.memA (.tl (.tl (.tl .hd))))) rfl ?_
   refine RD.vx 3 11 240 kt135 rfl kp136 (FV.loadN (by kernel_rfl) rfl (hS129.memA (.tl (.tl .hd)))) rfl ?_
   obtain ⟨y137, hy137, h⟩ := bind_in h
   refine RD.cl 2 15 kt135 rfl .plain body130 rfl (evs_cons rfl evs_nil) (fun w9 hw9 => share_Read_c n _ w9 (hS129.hL hL hw9) a0 hy137) rfl (fun w138 vu139 hag140 ⟨v143, v144, hu_, hr145, hr146⟩ => ?_)
   subst hu_
   obtain ⟨hS141, hT142⟩ := hS129.agr hag140
   obtain ⟨y147, hy147, h⟩ := bind_in h
   refine RD.cl 4 31 kt135 rfl .plain body130 rfl (evs_cons rfl evs_nil) (fun w9 hw9 => share_Read_c n _ w9 (hS141.hL hL hw9) a1 hy147) rfl (fun w148 vu149 hag150 ⟨v153, v154, hu_, hr155, hr156⟩ => ?_)
   subst hu_
   obtain ⟨hS151, hT152⟩ := hS141.agr hag150
   obtain ⟨y157, hy157, h⟩ := bind_in h
   have hm158 := Rep.mv hr145 hT152
   have hm159 := Rep.mv hr146 hT152
   refine RD.cl 5 63 kt135 rfl .plain body126 rfl (evs_cons rfl (evs_cons rfl evs_nil)) (fun w9 hw9 => share_Ratio_Over_c n _ w9 (hS151.hL hL hw9) y137 (Rep.keep0 hm158 hw9) (Rep.keep0 hm159 hw9) y147 (Rep.keep0 hr155 hw9) (Rep.keep0 hr156 hw9) hy157) rfl (fun w160 vu161 hag162 ⟨v165, v166, hu_, hr167, hr168⟩ => ?_)
   subst hu_
   obtain ⟨hS163, hT164⟩ := hS151.agr hag162
   refine RD.nw 6 127 kt135 rfl rfl .plain (Acts.storeAll (news := [.bool y157.fLong.fBelow, v165, .bool y157.fUnder.fBelow, v166]) hS163 (.tl .hd) rfl rfl rfl rfl rfl rfl (ones_cons rfl (ones_cons (Rep.o1 hr167) (ones_cons rfl (ones_cons (Rep.o1 hr168) ones_nil))))) (fun w169 hS170 hT171 => ?_)
   refine RD.one (i := 7) (readyD_ok kt135 (by kernel_rfl)) (RO.val (m' := 255) (stepC_ok kt135 (by kernel_rfl)) rfl .plain rfl (FV.assign rfl) ?_)
   refine RD.done (doneD_ok kt135 (by kernel_rfl)) ?_
   refine MX.ret rfl ?_
   refine RT.leave (u := .tuple #[.agg #[.bool y157.fLong.fBelow, v165, .bool y157.fUnder.fBelow, v166], .int .i64 0]) hb109 Tryz.func80 rfl (.cons (.many (cs := [.bool y157.fLong.fBelow, v165, .bool y157.fUnder.fBelow, v166]) (by kernel_rfl) rfl (hS170.memA (.tl .hd))) (.cons (.tmp rfl) .nil)) rfl ?_
   refine RG.vv (FV.extract rfl rfl) rfl ?_
   refine RG.vv (FV.extract rfl rfl) rfl ?_
   obtain ⟨y172, hy172, h⟩ := bind_in h
   have hm173 := Rep.mv hr167 hT171
   have hm174 := Rep.mv hr168 hT171
   refine RG.cq (.tuple #[.agg ((cs_TShare y172.1)).toArray, .int .i64 y172.2]) body79 rfl (evs_cons rfl (evs_cons rfl evs_nil)) (fun w9 hw9 => share_told_c n _ w9 (hS170.hL0 hL hw9) y157 (Rep.keep0 (Rep.dropS hS170 hm173) hw9) (Rep.keep0 (Rep.dropS hS170 hm174) hw9) (0 : Int) hy172) rfl ?_
   refine RG.vv (FV.extract rfl rfl) rfl ?_
   refine RG.vv (FV.extract rfl rfl) rfl ?_
   refine RG.now .plain (Acts.storeAll (news := (cs_TShare y172.1)) hS170 (.tl (.tl (.tl (.tl (.tl .hd))))) rfl rfl rfl rfl rfl rfl (onesB rfl)) (fun w175 hS176 hT177 => ?_)
   refine RG.sg rfl rfl ?_
   refine RG.nil ?_
   refine MX.ret rfl ?_
   refine RT.leave hb0 Tryz.func77 rfl (.cons (.many (cs := (cs_TShare y172.1)) (by kernel_rfl) rfl (hS176.memA (.tl (.tl (.tl (.tl (.tl .hd))))))) (.cons (.tmp rfl) .nil)) rfl ?_
   obtain rfl := Option.some.inj h
   exact ⟨hS176.ag, fun w9 hw9 => rfl⟩
  refine MX.sr ?_
  refine RG.new .plain rfl (Does.alloc (zs := [.bool false, .slice none 0 0, .bool false, .slice none 0 0]) hS129 (zB (by kernel_rfl))) (fun w179 b182 hS180 hT181 => ?_)
  refine RG.nil ?_
  refine MX.sr ?_
  refine RG.vv (FV.loadN (by kernel_rfl) rfl (hS180.memA .hd)) rfl ?_
  refine RG.now .plain (Acts.storeAll (news := [.bool false, .slice none 0 0, .bool false, .slice none 0 0]) hS180 (.tl (.tl .hd)) rfl rfl rfl rfl rfl rfl (onesB rfl)) (fun w183 hS184 hT185 => ?_)
  refine RG.sg rfl rfl ?_
  refine RG.nil ?_
  refine MX.ret rfl ?_
  refine RT.leave (u := .tuple #[.agg #[.bool false, .slice none 0 0, .bool false, .slice none 0 0], .int .i64 20]) hb109 Tryz.func80 rfl (.cons (.many (cs := [.bool false, .slice none 0 0, .bool false, .slice none 0 0]) (by kernel_rfl) rfl (hS184.memA (.tl (.tl .hd)))) (.cons (.tmp rfl) .nil)) rfl ?_
  refine RG.vv (FV.extract rfl rfl) rfl ?_
  refine RG.vv (FV.extract rfl rfl) rfl ?_
  obtain ⟨y186, hy186, h⟩ := bind_in h
  refine RG.cq (.tuple #[.agg ((cs_TShare y186.1)).toArray, .int .i64 y186.2]) body79 rfl (evs_cons rfl (evs_cons rfl evs_nil)) (fun w9 hw9 => share_told_c n _ w9 (hS184.hL0 hL hw9) (⟨(⟨false, ([] : List UInt64)⟩ : TLong), (⟨false, ([] : List UInt64)⟩ : TLong)⟩ : TRatio) (Rep.keep0 (Rep.nilSlice _ _) hw9) (Rep.keep0 (Rep.nilSlice _ _) hw9) (20 : Int) hy186) rfl ?_
  refine RG.vv (FV.extract rfl rfl) rfl ?_
  refine RG.vv (FV.extract rfl rfl) rfl ?_
  refine RG.now .plain (Acts.storeAll (news := (cs_TShare y186.1)) hS184 (.tl (.tl (.tl (.tl (.tl (.tl .hd)))))) rfl rfl rfl rfl rfl rfl (onesB rfl)) (fun w187 hS188 hT189 => ?_)
  refine RG.sg rfl rfl ?_
  refine RG.nil ?_
  refine MX.ret rfl ?_
  refine RT.leave hb0 Tryz.func77 rfl (.cons (.many (cs := (cs_TShare y186.1)) (by kernel_rfl) rfl (hS188.memA (.tl (.tl (.tl (.tl (.tl (.tl .hd)))))))) (.cons (.tmp rfl) .nil)) rfl ?_
  obtain rfl := Option.some.inj h
  exact ⟨hS188.ag, fun w9 hw9 => rfl⟩
def tb74_2 : List (Nat × Nat × Nat) := [(0, 8192, 16), (0, 16384, 4), (3, 32768, 24576), (0, 65536, 16), (12, 131072, 65536), (23, 32, 32768), (63, 64, 131072)]
def tb74_8 : List (Nat × Nat × Nat) := [(0, 1073741824, 8), (0, 2147483648, 512), (2, 4294967296, 2147483648), (0, 8589934592, 128), (12, 17179869184, 12884901888), (16, 34359738368, 17179869184), (16, 68719476736, 17179869184), (112, 137438953472, 103079215104), (0, 274877906944, 128), (384, 549755813888, 412316860416), (512, 1099511627776, 549755813888), (512, 2199023255552, 549755813888), (3584, 4398046511104, 3298534883328), (4096, 8796093022208, 4398046511104), (12289, 17592186044416, 8797166764032), (32767, 8, 17592186044416)]
theorem body77 : bodyB Tryz.prog 77 = true := by kernel_rfl
def balance_Off_1_l1 (n : Nat) (y29 : List Int) (y58 : TShare) (J189 : Nat × (List TShare) → Option ((Except Tbroken (List TShare)) ⊕ (List TShare))) : Nat × (List TShare) → Option ((Except Tbroken (List TShare)) ⊕ (List TShare))
  | (i177, xs178) => (if i177 < y29.length then (y29[i177]?).bind fun x192 => (balance_of_p n x192 (1 : Int)).bind fun y204 => exc y204 (fun y206 => (share_Sub_p n y206 y58).bind fun y212 => (balance_must_api_Share_p n y212.1 y212.2).bind fun y213 => exc y213 (fun y215 => (share_Div_p n y215 y58).bind fun y221 => (balance_must_api_Share_p n y221.1 y221.2).bind fun y222 => exc y222 (fun y224 => (app xs178 ([y224] : List TShare)).bind fun xs236 => J189 (i177 + 1, xs236)) (fun e223 => some (.inl (.error e223)))) (fun e214 => some (.inl (.error e214)))) (fun e205 => some (.inl (.error e205))) else some (.inr xs178))
def balance_Off_1_p (n : Nat) (a0 : TRoll) (a1 : Int) (a2 : List Int) : Option (Except Tbroken (List TShare)) :=
  (balance_counted_p n a0 a1).bind fun y1 => exc y1 (fun y3 => (balance_count_totals_p n y3 a2).bind fun y27 => exc y27 (fun y29 => (balance_count_people_p n y3).bind fun y46 => (balance_fail_p n (decide (y46 = 0)) (7 : Int)).bind fun y48 => exc y48 (fun y50 => (balance_of_p n y46 a1).bind fun y56 => exc y56 (fun y58 => thn (loopF (balance_Off_1_l1 n y29 y58) n (0, ([] : List TShare))) (fun xs178 => some (.ok xs178))) (fun e57 => some (.error e57))) (fun e49 => some (.error e49))) (fun e28 => some (.error e28))) (fun e2 => some (.error e2))
set_option maxRecDepth 4000 in
set_option maxHeartbeats 4000000 in
theorem balance_Off_1_c (n : Nat) (L : List Nat) (w : World) (hL : ∀ b ∈ L, b < w.heap.size) (a0 : TRoll) {v0_3 : Value} (h0_3 : Rep.R w L [v0_3] a0.fUnits) {p0 : Nat} (m0 : ∀ j9 v9, ([.int .i64 a0.fGroups, .int .i64 a0.fParties, .int .i64 a0.fLevels, v0_3] : List Value)[j9]? = some v9 → w.cell? ((⟨p0, 0, none⟩ : Addr).add j9) = some v9) (a1 : Int) {p1 : Nat} (m1 : ∀ j9 v9, ([.int .i64 a1] : List Value)[j9]? = some v9 → w.cell? ((⟨p1, 0, none⟩ : Addr).add j9) = some v9) (a2 : List Int) {v2_0 : Value} (h2_0 : Rep.R w L [v2_0] a2) {p2 : Nat} (m2 : ∀ j9 v9, ([v2_0] : List Value)[j9]? = some v9 → w.cell? ((⟨p2, 0, none⟩ : Addr).add j9) = some v9)  {r : Except Tbroken (List TShare)} (h : balance_Off_1_p n a0 a1 a2 = some r) :
    Calls Tryz.prog 74 #[.pointer (some ⟨p0, 0, none⟩), .pointer (some ⟨p1, 0, none⟩), .pointer (some ⟨p2, 0, none⟩)] w (PGives w (fun (y : List TShare) w' u => ∃ v0_0 : Value, u = v0_0 ∧ Rep.R w' L [v0_0] y) (fun e => .iface 140 (.agg #[.int .i64 e.fErrno])) r) := by
  unfold balance_Off_1_p at h
  have hS0 := St.start w
  refine MX.startP Tryz.func74 rfl rfl rfl (fun _ cs0 hb0 hp0 => ?_)
  refine MX.sr ?_
  refine RG.sg rfl rfl ?_
  refine RG.nil ?_
  refine MX.sr ?_
  refine RG.vv (FV.loadN (by kernel_rfl) rfl (fun j9 v9 h9 => hS0.ag.cell0 (m0 j9 v9 h9))) rfl ?_
  refine RG.vv (FV.load1 (by kernel_rfl) rfl ((fun j9 v9 h9 => hS0.ag.cell0 (m1 j9 v9 h9)) 0 _ rfl)) rfl ?_
  obtain ⟨y1, hy1, h⟩ := bind_in h
  rcases y1 with e2 | y3
  ·skip
   have h := exc_e h
   try dsimp only at h
   refine RG.callE (fst := []) (cap := []) .plain body50 rfl (evs_cons rfl (evs_cons rfl evs_nil)) (fun w9 hw9 => balance_counted_c n _ w9 (hS0.hL hL hw9) a0 (Rep.keep0 h0_3 hw9) a1 hy1) (fun w4 hag5 => ?_)
   obtain ⟨hS6, hT7⟩ := hS0.agr hag5
   obtain rfl := Option.some.inj h
   exact PN.leave hp0 Tryz.func74 ⟨hS6.ag, rfl⟩
  have h := exc_o h
  try dsimp only at h
  refine RG.call' (fst := []) (cap := []) .plain body50 rfl (evs_cons rfl (evs_cons rfl evs_nil)) (fun w9 hw9 => Calls.okp (balance_counted_c n _ w9 (hS0.hL hL hw9) a0 (Rep.keep0 h0_3 hw9) a1 hy1)) rfl (fun w9 vu10 hag11 ⟨v14, hu_, hr15⟩ => ?_)
  subst hu_
  obtain ⟨hS12, hT13⟩ := hS0.agr hag11
  refine RG.new .plain rfl (Does.alloc (zs := [.int .i64 0, .int .i64 0, .int .i64 0, .slice none 0 0, .int .i64 0]) hS12 (zB (by kernel_rfl))) (fun w17 b20 hS18 hT19 => ?_)
  have hm21 := Rep.mv hr15 hT19
  refine RG.now .plain (Acts.storeAll (news := [.int .i64 y3.fRoll.fGroups, .int .i64 y3.fRoll.fParties, .int .i64 y3.fRoll.fLevels, v14, .int .i64 y3.fk]) hS18 .hd rfl rfl rfl rfl rfl rfl (ones_cons rfl (ones_cons rfl (ones_cons rfl (ones_cons (Rep.o1 hm21) (ones_cons rfl ones_nil)))))) (fun w22 hS23 hT24 => ?_)
  refine RG.nil ?_
  refine MX.seq ?_
  refine MX.drawT 7 tb74_2 (by kernel_rfl) (by kernel_rfl) (by kernel_rfl) (fun kt25 kp26 => ?_)
  refine RD.vx 0 1 116 kt25 rfl kp26 (FV.loadN (by kernel_rfl) rfl (hS23.memA .hd)) rfl ?_
  refine RD.vx 1 3 116 kt25 rfl kp26 (FV.load1 (by kernel_rfl) rfl ((fun j9 v9 h9 => hS23.ag.cell0 (m2 j9 v9 h9)) 0 _ rfl)) rfl ?_
  obtain ⟨y27, hy27, h⟩ := bind_in h
  rcases y27 with e28 | y29
  ·skip
   have h := exc_e h
   try dsimp only at h
   refine RD.vx 3 11 112 kt25 rfl kp26 (FV.loadN (by kernel_rfl) rfl (hS23.memA .hd)) rfl ?_
   have hm30 := Rep.mv hr15 (Tr.trans hT19 hT24)
   have hm31 := Rep.mv h2_0 (Tr.trans hT13 (Tr.trans hT19 hT24))
   refine RD.one (i := 2) (readyD_ok kt25 (by kernel_rfl)) (RO.callE (fst := []) (cap := []) rfl .plain body58 rfl (evs_cons rfl (evs_cons rfl evs_nil)) (fun w9 hw9 => balance_count_totals_c n _ w9 (hS23.hL hL hw9) y3 (Rep.keep0 hm30 hw9) a2 (Rep.keep0 hm31 hw9) hy27) (fun w32 hag33 => ?_))
   obtain ⟨hS34, hT35⟩ := hS23.agr hag33
   obtain rfl := Option.some.inj h
   exact PN.leave hp0 Tryz.func74 ⟨hS34.ag, rfl⟩
  have h := exc_o h
  try dsimp only at h
  refine RD.vx 3 11 112 kt25 rfl kp26 (FV.loadN (by kernel_rfl) rfl (hS23.memA .hd)) rfl ?_
  have hm37 := Rep.mv hr15 (Tr.trans hT19 hT24)
  have hm38 := Rep.mv h2_0 (Tr.trans hT13 (Tr.trans hT19 hT24))
  refine RD.cl 2 15 kt25 rfl .plain body58 rfl (evs_cons rfl (evs_cons rfl evs_nil)) (fun w9 hw9 => Calls.okp (balance_count_totals_c n _ w9 (hS23.hL hL hw9) y3 (Rep.keep0 hm37 hw9) a2 (Rep.keep0 hm38 hw9) hy27)) rfl (fun w39 vu40 hag41 ⟨v44, hu_, hr45⟩ => ?_)
  subst hu_
  obtain ⟨hS42, hT43⟩ := hS23.agr hag41
  obtain ⟨y46, hy46, h⟩ := bind_in h
  have hm47 := Rep.mv hr15 (Tr.trans hT19 (Tr.trans hT24 hT43))
  refine RD.cq 4 31 96 (.int .i64 y46) kt25 rfl kp26 body71 rfl (evs_cons rfl evs_nil) (fun w9 hw9 => balance_count_people_c n _ w9 (hS42.hL0 hL hw9) y3 (Rep.keep0 (Rep.dropS hS42 hm47) hw9) hy46) rfl ?_
  refine RD.vw 5 63 kt25 rfl kp26 (fun _ => FV.assign rfl) rfl ?_
  refine RD.vw 6 127 kt25 rfl kp26 (fun _ => FV.assign rfl) rfl ?_
  refine RD.done (doneD_ok kt25 (by kernel_rfl)) ?_
  refine MX.sr ?_
  refine RG.mv rfl rfl ?_
  refine RG.vv (FV.eql (i := y46) (j := 0) rfl rfl) rfl ?_
  obtain ⟨y48, hy48, h⟩ := bind_in h
  rcases y48 with e49 | y50
  ·skip
   have h := exc_e h
   try dsimp only at h
   refine RG.callE (fst := []) (cap := []) .plain body75 rfl (evs_cons rfl (evs_cons rfl evs_nil)) (fun w9 hw9 => balance_fail_c n _ w9 (hS42.hL0 hL hw9) (decide (y46 = 0)) (7 : Int) hy48) (fun w51 hag52 => ?_)
   obtain ⟨hS53, hT54⟩ := hS42.agr hag52
   obtain rfl := Option.some.inj h
   exact PN.leave hp0 Tryz.func74 ⟨hS53.ag, rfl⟩
  have h := exc_o h
  try dsimp only at h
  refine RG.cq (.tuple #[]) body75 rfl (evs_cons rfl (evs_cons rfl evs_nil)) (fun w9 hw9 => Calls.okp (balance_fail_c n _ w9 (hS42.hL0 hL hw9) (decide (y46 = 0)) (7 : Int) hy48)) rfl ?_
  refine RG.nil ?_
  refine MX.sr ?_
  refine RG.mv rfl rfl ?_
  refine RG.vv (FV.load1 (by kernel_rfl) rfl ((fun j9 v9 h9 => hS42.ag.cell0 (m1 j9 v9 h9)) 0 _ rfl)) rfl ?_
  obtain ⟨y56, hy56, h⟩ := bind_in h
  rcases y56 with e57 | y58
  ·skip
   have h := exc_e h
   try dsimp only at h
   refine RG.callE (fst := []) (cap := []) .plain body70 rfl (evs_cons rfl (evs_cons rfl evs_nil)) (fun w9 hw9 => balance_of_c n _ w9 (hS42.hL0 hL hw9) y46 a1 hy56) (fun w59 hag60 => ?_)
   obtain ⟨hS61, hT62⟩ := hS42.agr hag60
   obtain rfl := Option.some.inj h
   exact PN.leave hp0 Tryz.func74 ⟨hS61.ag, rfl⟩
  have h := exc_o h
  try dsimp only at h
  refine RG.cq (.agg ((cs_TShare y58)).toArray) body70 rfl (evs_cons rfl (evs_cons rfl evs_nil)) (fun w9 hw9 => Calls.okp (balance_of_c n _ w9 (hS42.hL0 hL hw9) y46 a1 hy56)) rfl ?_
  refine RG.new .plain rfl (Does.alloc (zs := [.int .u64 0, .int .u64 0, .int .u64 0, .int .u64 0, .int .u64 0, .int .u64 0, .int .u64 0, .int .u64 0, .int .u64 0, .int .u64 0, .int .u64 0, .int .u64 0, .int .u64 0, .int .u64 0, .int .u64 0, .int .u64 0]) hS42 (zB (by kernel_rfl))) (fun w65 b68 hS66 hT67 => ?_)
  refine RG.now .plain (Acts.storeAll (news := (cs_TShare y58)) hS66 .hd rfl rfl rfl rfl rfl rfl (onesB rfl)) (fun w69 hS70 hT71 => ?_)
  refine RG.nil ?_
  refine MX.seq ?_
  refine MX.sr ?_
  refine RG.mv rfl rfl ?_
  have hm73 := Rep.mv hr45 (Tr.trans hT67 hT71)
  have hl72 : y29.length ≤ 281474976710656 := Rep.lenle hm73
  refine RG.vv (FV.len (xs := y29) Tryz.underlying45 rfl hm73) rfl ?_
  refine RG.mv rfl rfl ?_
  refine RG.nil ?_
  refine MX.block ?_
  have hS75 := hS70.nilRow 37 (Rep.size TShare)
  have hT76 := St.nilRowT hS70 37 (Rep.size TShare)
  have hc77 := Cells.at_ (cs := []) (xs := ([] : List TShare)) hS75 L (Cells.nil _ _)
  obtain ⟨hS174, hT175⟩ := St.arrB hS75 (.one .hd (.one .hd .done))
  have hm176 := Cells.mv hc77 hT175
  obtain ⟨o187, ho186, hh188⟩ := thn_in h
  refine MX.loop (α := Nat × (List TShare) × Value × (List Value)) (fun ⟨i177, xs178, v181, cs179⟩ => [(3, v181), (7, .pointer (some ⟨b68, 0, none⟩)), (24, vu40), (25, .int .i64 ((y29.length : Nat) : Int)), (26, .int .i64 ((i177 : Nat) : Int))]) (fun ⟨i177, xs178, v181, cs179⟩ wx181 => St w wx181 [.row w.heap.size 37 (Rep.size TShare) v181 xs178.length cs179, .cells b68 (cs_TShare y58) 37] ∧ Tr w69 [.row w.heap.size 37 (Rep.size TShare) (.slice none 0 0) (([] : List TShare).length) [], .cells b68 (cs_TShare y58) 37] wx181 [.row w.heap.size 37 (Rep.size TShare) v181 xs178.length cs179, .cells b68 (cs_TShare y58) 37] ∧ Cells wx181 (bl [.row w.heap.size 37 (Rep.size TShare) v181 xs178.length cs179, .cells b68 (cs_TShare y58) 37] ++ L) cs179 xs178) (fun ⟨i177, xs178, v181, cs179⟩ => (i177, xs178)) (0, ([] : List TShare), (.slice none 0 0), []) ho186 ⟨rfl, rfl, rfl, rfl, rfl, trivial⟩ ⟨hS174, Tr.refl _ _, hm176⟩ ?_
  rintro J189 ⟨i177, xs178, v181, cs179⟩ wx181 hJ190 ⟨hS182, hT183, hc180⟩ h
  unfold balance_Off_1_l1 at h
  try dsimp only at h
  refine MX.sr ?_
  refine RG.vv (FV.lssN (i := i177) (j := y29.length) rfl rfl) rfl ?_
  refine RG.nil ?_
  refine MX.seq ?_
  refine MX.ifd rfl h (fun c191 h => ?_) (fun c191 h => ?_)
  ·skip
   refine MX.skip ?_
   refine MX.seq ?_
   refine MX.block ?_
   refine MX.sr ?_
   obtain ⟨x192, hx192, h⟩ := bind_in h
   have hm200 := Rep.mv hr45 (Tr.trans hT67 (Tr.trans hT71 (Tr.trans hT76 (Tr.trans hT175 hT183))))
   obtain ⟨A193, c194, he195, hk196, cs197, hr198, hm199⟩ := Rep.nth hm200 hx192
   have he201 : cs197 = [.int .i64 x192] := hr198; subst he201
   refine RG.vv (FV.idxAddr (m := 1) (i := i177) (by kernel_rfl) rfl he195 rfl rfl hk196) rfl ?_
   refine RG.vv (FV.load1 (by kernel_rfl) rfl (hm199 0 _ rfl)) rfl ?_
   refine RG.sg rfl rfl ?_
   refine RG.nil ?_
   refine MX.drawT 14 tb74_8 (by kernel_rfl) (by kernel_rfl) (by kernel_rfl) (fun kt202 kp203 => ?_)
   refine RD.vw 0 1 kt202 rfl kp203 (fun _ => FV.move rfl) rfl ?_
   refine RD.vw 1 3 kt202 rfl kp203 (fun _ => FV.move rfl) rfl ?_
   obtain ⟨y204, hy204, h⟩ := bind_in h
   rcases y204 with e205 | y206
   ·skip
    have h := exc_e h
    try dsimp only at h
    refine RD.vx 3 11 65264 kt202 rfl kp203 (FV.loadN (by kernel_rfl) rfl (hS182.memA (.tl .hd))) rfl ?_
    refine RD.vx 8 267 65024 kt202 rfl kp203 (FV.loadN (by kernel_rfl) rfl (hS182.memA (.tl .hd))) rfl ?_
    have h := thn_inl h hh188
    refine RD.one (i := 2) (readyD_ok kt202 (by kernel_rfl)) (RO.callE (fst := []) (cap := []) rfl .plain body70 rfl (evs_cons rfl (evs_cons rfl evs_nil)) (fun w9 hw9 => balance_of_c n _ w9 (hS182.hL0 hL hw9) x192 (1 : Int) hy204) (fun w207 hag208 => ?_))
    obtain ⟨hS209, hT210⟩ := hS182.agr hag208
    obtain rfl := Option.some.inj h
    exact PN.leave hp0 Tryz.func74 ⟨hS209.ag, rfl⟩
   have h := exc_o h
   try dsimp only at h
   refine RD.cq 2 7 65264 (.agg ((cs_TShare y206)).toArray) kt202 rfl kp203 body70 rfl (evs_cons rfl (evs_cons rfl evs_nil)) (fun w9 hw9 => Calls.okp (balance_of_c n _ w9 (hS182.hL0 hL hw9) x192 (1 : Int) hy204)) rfl ?_
   refine RD.vx 3 15 65264 kt202 rfl kp203 (FV.loadN (by kernel_rfl) rfl (hS182.memA (.tl .hd))) rfl ?_
   obtain ⟨y212, hy212, h⟩ := bind_in h
   refine RD.cq 4 31 65248 (.tuple #[.agg ((cs_TShare y212.1)).toArray, .int .i64 y212.2]) kt202 rfl kp203 body24 rfl (evs_cons rfl (evs_cons rfl evs_nil)) (fun w9 hw9 => share_Sub_c n _ w9 (hS182.hL0 hL hw9) y206 y58 hy212) rfl ?_
   refine RD.vw 5 63 kt202 rfl kp203 (fun _ => FV.extract rfl rfl) rfl ?_
   refine RD.vw 6 127 kt202 rfl kp203 (fun _ => FV.extract rfl rfl) rfl ?_
   obtain ⟨y213, hy213, h⟩ := bind_in h
   rcases y213 with e214 | y215
   ·skip
    have h := exc_e h
    try dsimp only at h
    refine RD.vx 8 383 65024 kt202 rfl kp203 (FV.loadN (by kernel_rfl) rfl (hS182.memA (.tl .hd))) rfl ?_
    have h := thn_inl h hh188
    refine RD.one (i := 7) (readyD_ok kt202 (by kernel_rfl)) (RO.callE (fst := []) (cap := []) rfl .plain body76 rfl (evs_cons rfl (evs_cons rfl evs_nil)) (fun w9 hw9 => balance_must_api_Share_c n _ w9 (hS182.hL0 hL hw9) y212.1 y212.2 hy213) (fun w216 hag217 => ?_))
    obtain ⟨hS218, hT219⟩ := hS182.agr hag217
    obtain rfl := Option.some.inj h
    exact PN.leave hp0 Tryz.func74 ⟨hS218.ag, rfl⟩
   have h := exc_o h
   try dsimp only at h
   refine RD.cq 7 255 65024 (.agg ((cs_TShare y215)).toArray) kt202 rfl kp203 body76 rfl (evs_cons rfl (evs_cons rfl evs_nil)) (fun w9 hw9 => Calls.okp (balance_must_api_Share_c n _ w9 (hS182.hL0 hL hw9) y212.1 y212.2 hy213)) rfl ?_
   refine RD.vx 8 511 65024 kt202 rfl kp203 (FV.loadN (by kernel_rfl) rfl (hS182.memA (.tl .hd))) rfl ?_
   obtain ⟨y221, hy221, h⟩ := bind_in h
   refine RD.cq 9 1023 64512 (.tuple #[.agg ((cs_TShare y221.1)).toArray, .int .i64 y221.2]) kt202 rfl kp203 body77 rfl (evs_cons rfl (evs_cons rfl evs_nil)) (fun w9 hw9 => share_Div_c n _ w9 (hS182.hL0 hL hw9) y215 y58 hy221) rfl ?_
   refine RD.vw 10 2047 kt202 rfl kp203 (fun _ => FV.extract rfl rfl) rfl ?_
   refine RD.vw 11 4095 kt202 rfl kp203 (fun _ => FV.extract rfl rfl) rfl ?_
   obtain ⟨y222, hy222, h⟩ := bind_in h
   rcases y222 with e223 | y224
   ·skip
    have h := exc_e h
    try dsimp only at h
    have h := thn_inl h hh188
    refine RD.one (i := 12) (readyD_ok kt202 (by kernel_rfl)) (RO.callE (fst := []) (cap := []) rfl .plain body76 rfl (evs_cons rfl (evs_cons rfl evs_nil)) (fun w9 hw9 => balance_must_api_Share_c n _ w9 (hS182.hL0 hL hw9) y221.1 y221.2 hy222) (fun w225 hag226 => ?_))
    obtain ⟨hS227, hT228⟩ := hS182.agr hag226
    obtain rfl := Option.some.inj h
    exact PN.leave hp0 Tryz.func74 ⟨hS227.ag, rfl⟩
   have h := exc_o h
   try dsimp only at h
   refine RD.cq 12 8191 57344 (.agg ((cs_TShare y224)).toArray) kt202 rfl kp203 body76 rfl (evs_cons rfl (evs_cons rfl evs_nil)) (fun w9 hw9 => Calls.okp (balance_must_api_Share_c n _ w9 (hS182.hL0 hL hw9) y221.1 y221.2 hy222)) rfl ?_
   refine RD.nu 13 16383 kt202 rfl .plain rfl (Does.build (α := TShare) (xs := ([y224] : List TShare)) (vs := [.agg ((cs_TShare y224)).toArray]) (ds' := (cs_TShare y224)) rfl hS182 el68 rfl (evs_cons rfl evs_nil) (by kernel_rfl) rfl) (fun w231 b234 hS232 hT233 => ?_)
   have hc235 := Cells.at_ (cs := (cs_TShare y224)) (xs := (([y224] : List TShare) : List TShare)) hS232 L (Cells.cons (cs := (cs_TShare y224)) (ds := []) (mk_TShare y224.fN y224.fD) (Cells.nil _ _))
   obtain ⟨xs236, hxs236, h⟩ := bind_in h
   have hm237 := Cells.mv hc180 hT233
   refine RD.one (i := 14) (readyD_ok kt202 (by kernel_rfl)) (RO.doesL (m' := 32767) (stepC_ok kt202 (by kernel_rfl)) rfl rfl .plain rfl (DoesL.app (α := TShare) (ys := ([y224] : List TShare)) (F := fun v' cs' => [.row w.heap.size 37 (Rep.size TShare) (.slice (some ⟨b234, 0, none⟩) 1 1) (([y224] : List TShare).length) (cs_TShare y224), .row w.heap.size 37 (Rep.size TShare) v' xs236.length cs', .cells b68 (cs_TShare y58) 37]) hxs236 hS232 (fun _ _ => (.tl .hd)) el68 rfl rfl hm237 (Src.row (α := TShare) hS232 .hd hc235)) (fun v243 w238 ⟨cs242, hS239, hT240, hc241⟩ => ?_))
   refine RD.one (i := 15) (readyD_ok kt202 (by kernel_rfl)) (RO.val (m' := 65535) (stepC_ok kt202 (by kernel_rfl)) rfl .plain rfl (FV.assign rfl) ?_)
   refine RD.done (doneD_ok kt202 (by kernel_rfl)) ?_
   refine MX.inBlock ?_
   refine MX.region ?_
   refine RG.vv (FV.addN (i := i177) (j := 1) rfl rfl (by omega)) rfl ?_
   refine RG.mv rfl rfl ?_
   refine RG.nil ?_
   obtain ⟨hS245, hT246⟩ := St.arrB hS239 (.one (.tl .hd) (.one (.tl .hd) .done))
   have hm247 := Cells.mv hc241 hT246
   exact hJ190 (i177 + 1, xs236, v243, cs242) _ _ ⟨rfl, rfl, rfl, rfl, rfl, trivial⟩ ⟨hS245, (Tr.trans hT183 (Tr.trans hT233 (Tr.trans hT240 hT246))), hm247⟩ h
  refine MX.exit rfl ?_
  have h := thn_inr h hh188
  try dsimp only at h
  refine MX.sr ?_
  refine RG.mv rfl rfl ?_
  refine RG.sg rfl rfl ?_
  refine RG.nil ?_
  refine MX.ret rfl ?_
  have hr248 := St.freeze (α := TShare) hS182 .hd hc180 hL
  have hS249 := St.delS hS182 .hd
  have hT250 := St.delT hS182 .hd
  have hr251 := Rep.at_ (α := TShare) (v := v181) (xs := xs178) hS249 L hr248
  refine RT.leave hb0 Tryz.func74 rfl (.cons (.tmp rfl) .nil) rfl ?_
  obtain rfl := Option.some.inj h
  exact ⟨hS249.ag, fun w9 hw9 => okOf_in ⟨v181, rfl, Rep.keep0 (Rep.dropS hS249 hr251) hw9⟩⟩
def tb124_6 : List (Nat × Nat × Nat) := [(0, 131072, 32), (0, 262144, 8), (2, 524288, 262144), (1, 0, 131073), (15, 0, 524290)]
theorem body73 : bodyB Tryz.prog 73 = true := by kernel_rfl
theorem body74 : bodyB Tryz.prog 74 = true := by kernel_rfl
theorem body124 : bodyB Tryz.prog 124 = true := by kernel_rfl
def balance_Off_p (n : Nat) (a0 : TRoll) (a1 : List Int) (a2 : Int) : Option ((List TShare) × Int) :=
  (balance_Off_1_p n a0 a2 a1).bind fun y30 => exc y30 (fun y32 => some (y32, (0 : Int))) (fun e31 => some (([] : List TShare), e31.fErrno))
set_option maxRecDepth 4000 in
set_option maxHeartbeats 4000000 in
theorem balance_Off_c (n : Nat) (L : List Nat) (w : World) (hL : ∀ b ∈ L, b < w.heap.size) (a0 : TRoll) {v0_3 : Value} (h0_3 : Rep.R w L [v0_3] a0.fUnits) (a1 : List Int) {v1_0 : Value} (h1_0 : Rep.R w L [v1_0] a1) (a2 : Int)  {r : (List TShare) × Int} (h : balance_Off_p n a0 a1 a2 = some r) :
    Calls Tryz.prog 22 #[.agg #[.int .i64 a0.fGroups, .int .i64 a0.fParties, .int .i64 a0.fLevels, v0_3], v1_0, .int .i64 a2] w (Gives w fun w' u => ∃ v0_0 : Value, u = .tuple #[v0_0, .int .i64 r.2] ∧ Rep.R w' L [v0_0] r.1) := by
  unfold balance_Off_p at h
  have hS0 := St.start w
  refine MX.start Tryz.func22 rfl rfl rfl (fun _ cs0 hb0 => ?_)
  refine MX.sr ?_
  refine RG.new .plain rfl (Does.box (vs := [.int .i64 a0.fGroups, .int .i64 a0.fParties, .int .i64 a0.fLevels, v0_3]) hS0 rfl rfl) (fun w2 b5 hS3 hT4 => ?_)
  have hm7 := Rep.mv h1_0 hT4
  refine RG.new .plain rfl (Does.box (vs := [v1_0]) hS3 rfl (Rep.c1 hm7)) (fun w8 b11 hS9 hT10 => ?_)
  refine RG.new .plain rfl (Does.box (vs := [.int .i64 a2]) hS9 rfl rfl) (fun w13 b16 hS14 hT15 => ?_)
  refine RG.sg rfl rfl ?_
  refine RG.sg rfl rfl ?_
  refine RG.nil ?_
  refine MX.sr ?_
  refine RG.vv (FV.makeFunc (vs := []) (us := [.pointer (some ⟨b5, 0, none⟩), .pointer (some ⟨b16, 0, none⟩), .pointer (some ⟨b11, 0, none⟩)]) evs_nil (evs_cons rfl (evs_cons rfl (evs_cons rfl evs_nil)))) rfl ?_
  refine RG.enterP (fst := []) (cap := []) (vs := [.func (.func 74) #[] #[.pointer (some ⟨b5, 0, none⟩), .pointer (some ⟨b16, 0, none⟩), .pointer (some ⟨b11, 0, none⟩)]]) .plain body73 Tryz.func73 rfl rfl rfl rfl (evs_cons rfl evs_nil) rfl (fun cs18 hb17 hp19 => ?_)
  refine MX.sr ?_
  refine RG.new .plain rfl (Does.alloc (zs := [.slice none 0 0]) hS14 (zB (by kernel_rfl))) (fun w21 b24 hS22 hT23 => ?_)
  refine RG.new .plain rfl (Does.alloc (zs := [.int .i64 0]) hS22 (zB (by kernel_rfl))) (fun w26 b29 hS27 hT28 => ?_)
  refine RG.nil ?_
  refine MX.sr ?_
  refine RG.vv (FV.makeFunc (vs := []) (us := [.pointer (some ⟨b24, 0, none⟩), .pointer (some ⟨b29, 0, none⟩)]) evs_nil (evs_cons rfl (evs_cons rfl evs_nil))) rfl ?_
  refine RG.defer (fst := []) (cap := [.pointer (some ⟨b24, 0, none⟩), .pointer (some ⟨b29, 0, none⟩)]) (vs := []) rfl .plain rfl evs_nil ?_
  refine RG.nil ?_
  refine MX.sr ?_
  refine RG.mv rfl rfl ?_
  obtain ⟨y30, hy30, h⟩ := bind_in h
  rcases y30 with e31 | y32
  ·skip
   have h := exc_e h
   try dsimp only at h
   have hm33 := Rep.mv h0_3 (Tr.trans hT4 (Tr.trans hT10 (Tr.trans hT15 (Tr.trans hT23 hT28))))
   have hm34 := Rep.mv h1_0 (Tr.trans hT4 (Tr.trans hT10 (Tr.trans hT15 (Tr.trans hT23 hT28))))
   refine RG.callE (fst := []) (cap := [.pointer (some ⟨b5, 0, none⟩), .pointer (some ⟨b16, 0, none⟩), .pointer (some ⟨b11, 0, none⟩)]) .plain body74 rfl evs_nil (fun w9 hw9 => balance_Off_1_c n _ w9 (hS27.hL hL hw9) a0 (Rep.keep0 hm33 hw9) (fun j9 v9 h9 => hw9.cell0 ((hS27.memA (.tl (.tl (.tl (.tl .hd))))) j9 v9 h9)) a2 (fun j9 v9 h9 => hw9.cell0 ((hS27.memA (.tl (.tl .hd))) j9 v9 h9)) a1 (Rep.keep0 hm34 hw9) (fun j9 v9 h9 => hw9.cell0 ((hS27.memA (.tl (.tl (.tl .hd)))) j9 v9 h9)) hy30) (fun w35 hag36 => ?_)
   obtain ⟨hS37, hT38⟩ := hS27.agr hag36
   refine PN.callD (vs := []) (cap := [.pointer (some ⟨b24, 0, none⟩), .pointer (some ⟨b29, 0, none⟩)]) body124 Tryz.func124 rfl rfl rfl (fun c39 hc40 hk41 => ?_)
   refine MX.sr ?_
   refine RG.recover1 .plain hc40 rfl ?_
   refine RG.sg rfl rfl ?_
   refine RG.nil ?_
   refine MX.sr ?_
   refine RG.mv rfl rfl ?_
   refine RG.vv (FV.neqI Tryz.underlying20 rfl rfl) rfl ?_
   refine RG.nil ?_
   refine MX.cond_t rfl ?_
   refine MX.sr ?_
   refine RG.mv rfl rfl ?_
   refine RG.vv (FV.assertT (by kernel_rfl) rfl) rfl ?_
   refine RG.mv rfl rfl ?_
   refine RG.vv (FV.extract rfl rfl) rfl ?_
   refine RG.vv (FV.extract rfl rfl) rfl ?_
   refine RG.new .plain rfl (Does.alloc (zs := [.int .i64 0]) hS37 (zB (by kernel_rfl))) (fun w43 b46 hS44 hT45 => ?_)
   refine RG.now .plain (Acts.storeAll (news := [.int .i64 e31.fErrno]) hS44 .hd rfl rfl rfl rfl rfl rfl (ones_cons rfl ones_nil)) (fun w47 hS48 hT49 => ?_)
   refine RG.sg rfl rfl ?_
   refine RG.nil ?_
   refine MX.seq ?_
   refine MX.sr ?_
   refine RG.mv rfl rfl ?_
   refine RG.vv (FV.not rfl) rfl ?_
   refine RG.nil ?_
   refine MX.cond_f rfl ?_
   refine MX.skip ?_
   refine MX.sr ?_
   refine RG.sg rfl rfl ?_
   refine RG.nil ?_
   refine MX.drawT 3 tb124_6 (by kernel_rfl) (by kernel_rfl) (by kernel_rfl) (fun kt50 kp51 => ?_)
   refine RD.vw 0 1 kt50 rfl kp51 (fun _ => FV.move rfl) rfl ?_
   refine RD.vw 1 3 kt50 rfl kp51 (fun _ => FV.fieldAddr (off := 0) (by kernel_rfl) rfl) rfl ?_
   refine RD.meet (α := Unit) (fun () => [(1, .pointer (some ⟨b29, 0, none⟩)), (19, .int .i64 e31.fErrno)]) (fun () wx1254 => St w wx1254 [.cells b29 [.int .i64 0] 51, .cells b24 [.slice none 0 0] 68, .cells b16 [.int .i64 a2] 3, .cells b11 [v1_0] 46, .cells b5 [.int .i64 a0.fGroups, .int .i64 a0.fParties, .int .i64 a0.fLevels, v0_3] 44] ∧ Tr w47 [.cells b46 [.int .i64 e31.fErrno] 140, .cells b29 [.int .i64 0] 51, .cells b24 [.slice none 0 0] 68, .cells b16 [.int .i64 a2] 3, .cells b11 [v1_0] 46, .cells b5 [.int .i64 a0.fGroups, .int .i64 a0.fParties, .int .i64 a0.fLevels, v0_3] 44] wx1254 [.cells b29 [.int .i64 0] 51, .cells b24 [.slice none 0 0] 68, .cells b16 [.int .i64 a2] 3, .cells b11 [v1_0] 46, .cells b5 [.int .i64 a0.fGroups, .int .i64 a0.fParties, .int .i64 a0.fLevels, v0_3] 44]) 1 15 ?_ ?_
   ·skip
    rintro ⟨⟩ wx1254 ⟨hS1255, hT1256⟩
    try dsimp only
    refine RD.nw 4 31 kt50 rfl rfl .plain (Acts.storeAll (news := [.int .i64 e31.fErrno]) hS1255 .hd rfl rfl rfl rfl rfl rfl (ones_cons rfl ones_nil)) (fun w1258 hS1259 hT1260 => ?_)
    refine RD.done (doneD_ok kt50 (by kernel_rfl)) ?_
    refine MX.fin rfl ?_
    refine RT.leaveD1 hk41 Tryz.func124 rfl .nil ?_
    refine RT.leave (u := .tuple #[.slice none 0 0, .int .i64 e31.fErrno]) hb17 Tryz.func73 rfl (.cons (.one (by kernel_rfl) rfl ((hS1259.memA (.tl .hd)) 0 _ rfl)) (.cons (.one (by kernel_rfl) rfl ((hS1259.memA .hd) 0 _ rfl)) .nil)) rfl ?_
    refine RG.vv (FV.extract rfl rfl) rfl ?_
    refine RG.vv (FV.extract rfl rfl) rfl ?_
    refine RG.sg rfl rfl ?_
    refine RG.sg rfl rfl ?_
    refine RG.nil ?_
    refine MX.ret rfl ?_
    have hr1261 := Rep.nilAt (α := TShare) hS1259 L
    refine RT.leave hb0 Tryz.func22 rfl (.cons (.tmp rfl) (.cons (.tmp rfl) .nil)) rfl ?_
    obtain rfl := Option.some.inj h
    have hr1262 := Rep.nilAt (α := TShare) hS1259 L
    exact ⟨hS1259.ag, fun w9 hw9 => ⟨(.slice none 0 0), rfl, Rep.keep0 (Rep.dropS hS1259 hr1262) hw9⟩⟩
   ·skip
    intro hJ1263
    refine RD.each [2, 3] (readyD_ok kt50 (by kernel_rfl)) ⟨?_, ?_, trivial⟩
    ·skip
     refine RO.val (m' := 7) (stepC_ok kt50 (by kernel_rfl)) rfl .plain rfl (FV.load1 (by kernel_rfl) rfl ((hS48.memA .hd) 0 _ rfl)) ?_
     refine RD.nw 3 15 kt50 rfl rfl .plain (Acts.storeAll (news := [.slice none 0 0]) hS48 (.tl (.tl .hd)) rfl rfl rfl rfl rfl rfl (ones_cons rfl ones_nil)) (fun w652 hS653 hT654 => ?_)
     obtain ⟨hS1264, hT1265⟩ := St.arrB hS653 (.one (.tl .hd) (.one (.tl .hd) (.one (.tl .hd) (.one (.tl .hd) (.one (.tl .hd) .done)))))
     exact hJ1263 () _ _ ⟨rfl, rfl, trivial⟩ ⟨hS1264, (Tr.trans hT654 hT1265)⟩
    ·skip
     refine RO.now (m' := 11) (stepC_ok kt50 (by kernel_rfl)) rfl rfl .plain (Acts.storeAll (news := [.slice none 0 0]) hS48 (.tl (.tl .hd)) rfl rfl rfl rfl rfl rfl (ones_cons rfl ones_nil)) (fun w652 hS653 hT654 => ?_)
     refine RD.vx 2 15 16 kt50 rfl kp51 (FV.load1 (by kernel_rfl) rfl ((hS653.memA .hd) 0 _ rfl)) rfl ?_
     obtain ⟨hS1266, hT1267⟩ := St.arrB hS653 (.one (.tl .hd) (.one (.tl .hd) (.one (.tl .hd) (.one (.tl .hd) (.one (.tl .hd) .done)))))
     exact hJ1263 () _ _ ⟨rfl, rfl, trivial⟩ ⟨hS1266, (Tr.trans hT654 hT1267)⟩
  have h := exc_o h
  try dsimp only at h
  have hm1269 := Rep.mv h0_3 (Tr.trans hT4 (Tr.trans hT10 (Tr.trans hT15 (Tr.trans hT23 hT28))))
  have hm1270 := Rep.mv h1_0 (Tr.trans hT4 (Tr.trans hT10 (Tr.trans hT15 (Tr.trans hT23 hT28))))
  refine RG.call' (fst := []) (cap := [.pointer (some ⟨b5, 0, none⟩), .pointer (some ⟨b16, 0, none⟩), .pointer (some ⟨b11, 0, none⟩)]) .plain body74 rfl evs_nil (fun w9 hw9 => Calls.okp (balance_Off_1_c n _ w9 (hS27.hL hL hw9) a0 (Rep.keep0 hm1269 hw9) (fun j9 v9 h9 => hw9.cell0 ((hS27.memA (.tl (.tl (.tl (.tl .hd))))) j9 v9 h9)) a2 (fun j9 v9 h9 => hw9.cell0 ((hS27.memA (.tl (.tl .hd))) j9 v9 h9)) a1 (Rep.keep0 hm1270 hw9) (fun j9 v9 h9 => hw9.cell0 ((hS27.memA (.tl (.tl (.tl .hd)))) j9 v9 h9)) hy30)) rfl (fun w1271 vu1272 hag1273 ⟨v1276, hu_, hr1277⟩ => ?_)
  subst hu_
  obtain ⟨hS1274, hT1275⟩ := hS27.agr hag1273
  refine RG.now .plain (Acts.storeAll (news := [vu1272]) hS1274 (.tl .hd) rfl rfl rfl (Rep.c1 hr1277) rfl rfl (ones_cons (Rep.o1 hr1277) ones_nil)) (fun w1278 hS1279 hT1280 => ?_)
  refine RG.now .plain (Acts.storeAll (news := [.int .i64 0]) hS1279 .hd rfl rfl rfl rfl rfl rfl (ones_cons rfl ones_nil)) (fun w1281 hS1282 hT1283 => ?_)
  refine RG.nil ?_
  refine MX.ret rfl ?_
  refine RT.callD (vs := []) (cap := [.pointer (some ⟨b24, 0, none⟩), .pointer (some ⟨b29, 0, none⟩)]) body124 Tryz.func124 rfl rfl rfl (fun c1284 hc1285 hk1286 => ?_)
  refine MX.sr ?_
  refine RG.recover0 .plain hc1285 rfl ?_
  refine RG.sg rfl rfl ?_
  refine RG.nil ?_
  refine MX.sr ?_
  refine RG.mv rfl rfl ?_
  refine RG.vv (FV.neqI0 Tryz.underlying20 rfl rfl) rfl ?_
  refine RG.nil ?_
  refine MX.cond_f rfl ?_
  refine MX.skip ?_
  refine MX.fin rfl ?_
  refine RT.leaveD0 hc1285 hk1286 Tryz.func124 rfl .nil ?_
  refine RT.leave (u := .tuple #[vu1272, .int .i64 0]) hb17 Tryz.func73 rfl (.cons (.one (by kernel_rfl) rfl ((hS1282.memA (.tl .hd)) 0 _ rfl)) (.cons (.one (by kernel_rfl) rfl ((hS1282.memA .hd) 0 _ rfl)) .nil)) rfl ?_
  refine RG.vv (FV.extract rfl rfl) rfl ?_
  refine RG.vv (FV.extract rfl rfl) rfl ?_
  refine RG.sg rfl rfl ?_
  refine RG.sg rfl rfl ?_
  refine RG.nil ?_
  refine MX.ret rfl ?_
  refine RT.leave hb0 Tryz.func22 rfl (.cons (.tmp rfl) (.cons (.tmp rfl) .nil)) rfl ?_
  obtain rfl := Option.some.inj h
  have hm1287 := Rep.mv hr1277 (Tr.trans hT1280 hT1283)
  exact ⟨hS1282.ag, fun w9 hw9 => ⟨vu1272, rfl, Rep.keep0 (Rep.dropS hS1282 hm1287) hw9⟩⟩
def tb90_2 : List (Nat × Nat × Nat) := [(0, 1024, 16), (0, 2048, 4), (3, 4096, 3072), (0, 8192, 16), (12, 16384, 8192), (23, 32, 4096), (63, 64, 16384)]
def tb90_4 : List (Nat × Nat × Nat) := [(0, 262144, 32), (1, 524288, 262144), (2, 1048576, 524288), (0, 2097152, 32), (12, 4194304, 3145728), (0, 8388608, 32), (32, 16777216, 8388608), (64, 33554432, 16777216), (0, 67108864, 32), (400, 134217728, 100663296), (528, 268435456, 138412032), (1536, 536870912, 268435456), (0, 1073741824, 64), (0, 2147483648, 2), (14336, 4294967296, 3221225472), (18432, 8589934592, 4831838208), (32768, 17179869184, 8589934592), (32768, 34359738368, 8589934592), (229376, 68719476736, 51539607552), (524287, 0, 68719476744)]
def balance_Spread_1_p (n : Nat) (a0 : TRoll) (a1 : Int) (a2 : List Int) : Option (Except Tbroken TShare) :=
  (balance_counted_p n a0 a1).bind fun y6 => exc y6 (fun y8 => (balance_count_totals_p n y8 a2).bind fun y34 => exc y34 (fun y36 => (balance_count_people_p n y8).bind fun y53 => (balance_fail_p n (decide (y53 = 0)) (7 : Int)).bind fun y55 => exc y55 (fun y57 => (y36[0]?).bind fun x65 => (balance_greatest_p n x65 y36).bind fun y74 => (balance_least_p n x65 y36).bind fun y75 => (chk (y74 - y75)).bind fun s76 => (balance_of_p n s76 (1 : Int)).bind fun y77 => exc y77 (fun y79 => (balance_of_p n y53 a1).bind fun y85 => exc y85 (fun y87 => (share_Div_p n y79 y87).bind fun y93 => (balance_must_api_Share_p n y93.1 y93.2).bind fun y94 => exc y94 (fun y96 => some (.ok y96)) (fun e95 => some (.error e95))) (fun e86 => some (.error e86))) (fun e78 => some (.error e78))) (fun e56 => some (.error e56))) (fun e35 => some (.error e35))) (fun e7 => some (.error e7))
set_option maxRecDepth 4000 in
set_option maxHeartbeats 4000000 in
theorem balance_Spread_1_c (n : Nat) (L : List Nat) (w : World) (hL : ∀ b ∈ L, b < w.heap.size) (a0 : TRoll) {v0_3 : Value} (h0_3 : Rep.R w L [v0_3] a0.fUnits) {p0 : Nat} (m0 : ∀ j9 v9, ([.int .i64 a0.fGroups, .int .i64 a0.fParties, .int .i64 a0.fLevels, v0_3] : List Value)[j9]? = some v9 → w.cell? ((⟨p0, 0, none⟩ : Addr).add j9) = some v9) (a1 : Int) {p1 : Nat} (m1 : ∀ j9 v9, ([.int .i64 a1] : List Value)[j9]? = some v9 → w.cell? ((⟨p1, 0, none⟩ : Addr).add j9) = some v9) (a2 : List Int) {v2_0 : Value} (h2_0 : Rep.R w L [v2_0] a2) {p2 : Nat} (m2 : ∀ j9 v9, ([v2_0] : List Value)[j9]? = some v9 → w.cell? ((⟨p2, 0, none⟩ : Addr).add j9) = some v9)  {r : Except Tbroken TShare} (h : balance_Spread_1_p n a0 a1 a2 = some r) :
    Calls Tryz.prog 90 #[.pointer (some ⟨p0, 0, none⟩), .pointer (some ⟨p1, 0, none⟩), .pointer (some ⟨p2, 0, none⟩)] w (PGives w (fun (y : TShare) _ u => u = .agg ((cs_TShare y)).toArray) (fun e => .iface 140 (.agg #[.int .i64 e.fErrno])) r) := by
  unfold balance_Spread_1_p at h
  have hS0 := St.start w
  refine MX.startP Tryz.func90 rfl rfl rfl (fun _ cs0 hb0 hp0 => ?_)
  refine MX.sr ?_
  refine RG.new .plain rfl (Does.alloc (zs := [.int .u64 0, .int .u64 0, .int .u64 0, .int .u64 0, .int .u64 0, .int .u64 0, .int .u64 0, .int .u64 0, .int .u64 0, .int .u64 0, .int .u64 0, .int .u64 0, .int .u64 0, .int .u64 0, .int .u64 0, .int .u64 0]) hS0 (zB (by kernel_rfl))) (fun w2 b5 hS3 hT4 => ?_)
  refine RG.nil ?_
  refine MX.sr ?_
  refine RG.vv (FV.loadN (by kernel_rfl) rfl (fun j9 v9 h9 => hS3.ag.cell0 (m0 j9 v9 h9))) rfl ?_
  refine RG.vv (FV.load1 (by kernel_rfl) rfl ((fun j9 v9 h9 => hS3.ag.cell0 (m1 j9 v9 h9)) 0 _ rfl)) rfl ?_
  obtain ⟨y6, hy6, h⟩ := bind_in h
  rcases y6 with e7 | y8
  ·skip
   have h := exc_e h
   try dsimp only at h
   have hm9 := Rep.mv h0_3 hT4
   refine RG.callE (fst := []) (cap := []) .plain body50 rfl (evs_cons rfl (evs_cons rfl evs_nil)) (fun w9 hw9 => balance_counted_c n _ w9 (hS3.hL hL hw9) a0 (Rep.keep0 hm9 hw9) a1 hy6) (fun w10 hag11 => ?_)
   obtain ⟨hS12, hT13⟩ := hS3.agr hag11
   obtain rfl := Option.some.inj h
   exact PN.leave hp0 Tryz.func90 ⟨hS12.ag, rfl⟩
  have h := exc_o h
  try dsimp only at h
  have hm15 := Rep.mv h0_3 hT4
  refine RG.call' (fst := []) (cap := []) .plain body50 rfl (evs_cons rfl (evs_cons rfl evs_nil)) (fun w9 hw9 => Calls.okp (balance_counted_c n _ w9 (hS3.hL hL hw9) a0 (Rep.keep0 hm15 hw9) a1 hy6)) rfl (fun w16 vu17 hag18 ⟨v21, hu_, hr22⟩ => ?_)
  subst hu_
  obtain ⟨hS19, hT20⟩ := hS3.agr hag18
  refine RG.new .plain rfl (Does.alloc (zs := [.int .i64 0, .int .i64 0, .int .i64 0, .slice none 0 0, .int .i64 0]) hS19 (zB (by kernel_rfl))) (fun w24 b27 hS25 hT26 => ?_)
  have hm28 := Rep.mv hr22 hT26
  refine RG.now .plain (Acts.storeAll (news := [.int .i64 y8.fRoll.fGroups, .int .i64 y8.fRoll.fParties, .int .i64 y8.fRoll.fLevels, v21, .int .i64 y8.fk]) hS25 .hd rfl rfl rfl rfl rfl rfl (ones_cons rfl (ones_cons rfl (ones_cons rfl (ones_cons (Rep.o1 hm28) (ones_cons rfl ones_nil)))))) (fun w29 hS30 hT31 => ?_)
  refine RG.nil ?_
  refine MX.seq ?_
  refine MX.drawT 7 tb90_2 (by kernel_rfl) (by kernel_rfl) (by kernel_rfl) (fun kt32 kp33 => ?_)
  refine RD.vx 0 1 116 kt32 rfl kp33 (FV.loadN (by kernel_rfl) rfl (hS30.memA .hd)) rfl ?_
  refine RD.vx 1 3 116 kt32 rfl kp33 (FV.load1 (by kernel_rfl) rfl ((fun j9 v9 h9 => hS30.ag.cell0 (m2 j9 v9 h9)) 0 _ rfl)) rfl ?_
  obtain ⟨y34, hy34, h⟩ := bind_in h
  rcases y34 with e35 | y36
  ·skip
   have h := exc_e h
   try dsimp only at h
   refine RD.vx 3 11 112 kt32 rfl kp33 (FV.loadN (by kernel_rfl) rfl (hS30.memA .hd)) rfl ?_
   have hm37 := Rep.mv hr22 (Tr.trans hT26 hT31)
   have hm38 := Rep.mv h2_0 (Tr.trans hT4 (Tr.trans hT20 (Tr.trans hT26 hT31)))
   refine RD.one (i := 2) (readyD_ok kt32 (by kernel_rfl)) (RO.callE (fst := []) (cap := []) rfl .plain body58 rfl (evs_cons rfl (evs_cons rfl evs_nil)) (fun w9 hw9 => balance_count_totals_c n _ w9 (hS30.hL hL hw9) y8 (Rep.keep0 hm37 hw9) a2 (Rep.keep0 hm38 hw9) hy34) (fun w39 hag40 => ?_))
   obtain ⟨hS41, hT42⟩ := hS30.agr hag40
   obtain rfl := Option.some.inj h
   exact PN.leave hp0 Tryz.func90 ⟨hS41.ag, rfl⟩
  have h := exc_o h
  try dsimp only at h
  refine RD.vx 3 11 112 kt32 rfl kp33 (FV.loadN (by kernel_rfl) rfl (hS30.memA .hd)) rfl ?_
  have hm44 := Rep.mv hr22 (Tr.trans hT26 hT31)
  have hm45 := Rep.mv h2_0 (Tr.trans hT4 (Tr.trans hT20 (Tr.trans hT26 hT31)))
  refine RD.cl 2 15 kt32 rfl .plain body58 rfl (evs_cons rfl (evs_cons rfl evs_nil)) (fun w9 hw9 => Calls.okp (balance_count_totals_c n _ w9 (hS30.hL hL hw9) y8 (Rep.keep0 hm44 hw9) a2 (Rep.keep0 hm45 hw9) hy34)) rfl (fun w46 vu47 hag48 ⟨v51, hu_, hr52⟩ => ?_)
  subst hu_
  obtain ⟨hS49, hT50⟩ := hS30.agr hag48
  obtain ⟨y53, hy53, h⟩ := bind_in h
  have hm54 := Rep.mv hr22 (Tr.trans hT26 (Tr.trans hT31 hT50))
  refine RD.cq 4 31 96 (.int .i64 y53) kt32 rfl kp33 body71 rfl (evs_cons rfl evs_nil) (fun w9 hw9 => balance_count_people_c n _ w9 (hS49.hL0 hL hw9) y8 (Rep.keep0 (Rep.dropS hS49 hm54) hw9) hy53) rfl ?_
  refine RD.vw 5 63 kt32 rfl kp33 (fun _ => FV.assign rfl) rfl ?_
  refine RD.vw 6 127 kt32 rfl kp33 (fun _ => FV.assign rfl) rfl ?_
  refine RD.done (doneD_ok kt32 (by kernel_rfl)) ?_
  refine MX.sr ?_
  refine RG.mv rfl rfl ?_
  refine RG.vv (FV.eql (i := y53) (j := 0) rfl rfl) rfl ?_
  obtain ⟨y55, hy55, h⟩ := bind_in h
  rcases y55 with e56 | y57
  ·skip
   have h := exc_e h
   try dsimp only at h
   refine RG.callE (fst := []) (cap := []) .plain body75 rfl (evs_cons rfl (evs_cons rfl evs_nil)) (fun w9 hw9 => balance_fail_c n _ w9 (hS49.hL0 hL hw9) (decide (y53 = 0)) (7 : Int) hy55) (fun w58 hag59 => ?_)
   obtain ⟨hS60, hT61⟩ := hS49.agr hag59
   obtain rfl := Option.some.inj h
   exact PN.leave hp0 Tryz.func90 ⟨hS60.ag, rfl⟩
  have h := exc_o h
  try dsimp only at h
  refine RG.cq (.tuple #[]) body75 rfl (evs_cons rfl (evs_cons rfl evs_nil)) (fun w9 hw9 => Calls.okp (balance_fail_c n _ w9 (hS49.hL0 hL hw9) (decide (y53 = 0)) (7 : Int) hy55)) rfl ?_
  refine RG.nil ?_
  refine MX.seq ?_
  refine MX.drawT 19 tb90_4 (by kernel_rfl) (by kernel_rfl) (by kernel_rfl) (fun kt63 kp64 => ?_)
  refine RD.vw 0 1 kt63 rfl kp64 (fun _ => FV.move rfl) rfl ?_
  obtain ⟨x65, hx65, h⟩ := bind_in h
  obtain ⟨A66, c67, he68, hk69, cs70, hr71, hm72⟩ := Rep.nth hr52 hx65
  have he73 : cs70 = [.int .i64 x65] := hr71; subst he73
  refine RD.vw 1 3 kt63 rfl kp64 (fun _ => FV.idxAddr (m := 1) (i := 0) (by kernel_rfl) rfl he68 rfl rfl hk69) rfl ?_
  refine RD.vx 2 7 1035792 kt63 rfl kp64 (FV.load1 (by kernel_rfl) rfl (hm72 0 _ rfl)) rfl ?_
  refine RD.vw 3 15 kt63 rfl kp64 (fun _ => FV.move rfl) rfl ?_
  obtain ⟨y74, hy74, h⟩ := bind_in h
  refine RD.cq 4 31 1035776 (.int .i64 y74) kt63 rfl kp64 body60 rfl (evs_cons rfl (evs_cons rfl evs_nil)) (fun w9 hw9 => balance_greatest_c n _ w9 (hS49.hL0 hL hw9) x65 y36 (Rep.keep0 (Rep.dropS hS49 hr52) hw9) hy74) rfl ?_
  refine RD.vw 5 63 kt63 rfl kp64 (fun _ => FV.move rfl) rfl ?_
  refine RD.vw 6 127 kt63 rfl kp64 (fun _ => FV.idxAddr (m := 1) (i := 0) (by kernel_rfl) rfl he68 rfl rfl hk69) rfl ?_
  refine RD.vx 7 255 1035776 kt63 rfl kp64 (FV.load1 (by kernel_rfl) rfl (hm72 0 _ rfl)) rfl ?_
  refine RD.vw 8 511 kt63 rfl kp64 (fun _ => FV.move rfl) rfl ?_
  obtain ⟨y75, hy75, h⟩ := bind_in h
  refine RD.cq 9 1023 1035264 (.int .i64 y75) kt63 rfl kp64 body59 rfl (evs_cons rfl (evs_cons rfl evs_nil)) (fun w9 hw9 => balance_least_c n _ w9 (hS49.hL0 hL hw9) x65 y36 (Rep.keep0 (Rep.dropS hS49 hr52) hw9) hy75) rfl ?_
  obtain ⟨s76, hs76, h⟩ := bind_in h
  refine RD.vw 10 2047 kt63 rfl kp64 (fun _ => FV.subc (i := y74) (j := y75) rfl rfl hs76) rfl ?_
  obtain ⟨y77, hy77, h⟩ := bind_in h
  rcases y77 with e78 | y79
  ·skip
   have h := exc_e h
   try dsimp only at h
   refine RD.vw 12 6143 kt63 rfl kp64 (fun _ => FV.move rfl) rfl ?_
   refine RD.vx 13 14335 1032192 kt63 rfl kp64 (FV.load1 (by kernel_rfl) rfl ((fun j9 v9 h9 => hS49.ag.cell0 (m1 j9 v9 h9)) 0 _ rfl)) rfl ?_
   refine RD.one (i := 11) (readyD_ok kt63 (by kernel_rfl)) (RO.callE (fst := []) (cap := []) rfl .plain body70 rfl (evs_cons rfl (evs_cons rfl evs_nil)) (fun w9 hw9 => balance_of_c n _ w9 (hS49.hL0 hL hw9) s76 (1 : Int) hy77) (fun w80 hag81 => ?_))
   obtain ⟨hS82, hT83⟩ := hS49.agr hag81
   obtain rfl := Option.some.inj h
   exact PN.leave hp0 Tryz.func90 ⟨hS82.ag, rfl⟩
  have h := exc_o h
  try dsimp only at h
  refine RD.cq 11 4095 1032192 (.agg ((cs_TShare y79)).toArray) kt63 rfl kp64 body70 rfl (evs_cons rfl (evs_cons rfl evs_nil)) (fun w9 hw9 => Calls.okp (balance_of_c n _ w9 (hS49.hL0 hL hw9) s76 (1 : Int) hy77)) rfl ?_
  refine RD.vw 12 8191 kt63 rfl kp64 (fun _ => FV.move rfl) rfl ?_
  refine RD.vx 13 16383 1032192 kt63 rfl kp64 (FV.load1 (by kernel_rfl) rfl ((fun j9 v9 h9 => hS49.ag.cell0 (m1 j9 v9 h9)) 0 _ rfl)) rfl ?_
  obtain ⟨y85, hy85, h⟩ := bind_in h
  rcases y85 with e86 | y87
  ·skip
   have h := exc_e h
   try dsimp only at h
   refine RD.one (i := 14) (readyD_ok kt63 (by kernel_rfl)) (RO.callE (fst := []) (cap := []) rfl .plain body70 rfl (evs_cons rfl (evs_cons rfl evs_nil)) (fun w9 hw9 => balance_of_c n _ w9 (hS49.hL0 hL hw9) y53 a1 hy85) (fun w88 hag89 => ?_))
   obtain ⟨hS90, hT91⟩ := hS49.agr hag89
   obtain rfl := Option.some.inj h
   exact PN.leave hp0 Tryz.func90 ⟨hS90.ag, rfl⟩
  have h := exc_o h
  try dsimp only at h
  refine RD.cq 14 32767 1015808 (.agg ((cs_TShare y87)).toArray) kt63 rfl kp64 body70 rfl (evs_cons rfl (evs_cons rfl evs_nil)) (fun w9 hw9 => Calls.okp (balance_of_c n _ w9 (hS49.hL0 hL hw9) y53 a1 hy85)) rfl ?_
  obtain ⟨y93, hy93, h⟩ := bind_in h
  refine RD.cq 15 65535 983040 (.tuple #[.agg ((cs_TShare y93.1)).toArray, .int .i64 y93.2]) kt63 rfl kp64 body77 rfl (evs_cons rfl (evs_cons rfl evs_nil)) (fun w9 hw9 => share_Div_c n _ w9 (hS49.hL0 hL hw9) y79 y87 hy93) rfl ?_
  refine RD.vw 16 131071 kt63 rfl kp64 (fun _ => FV.extract rfl rfl) rfl ?_
  refine RD.vw 17 262143 kt63 rfl kp64 (fun _ => FV.extract rfl rfl) rfl ?_
  obtain ⟨y94, hy94, h⟩ := bind_in h
  rcases y94 with e95 | y96
  ·skip
   have h := exc_e h
   try dsimp only at h
   refine RD.one (i := 18) (readyD_ok kt63 (by kernel_rfl)) (RO.callE (fst := []) (cap := []) rfl .plain body76 rfl (evs_cons rfl (evs_cons rfl evs_nil)) (fun w9 hw9 => balance_must_api_Share_c n _ w9 (hS49.hL0 hL hw9) y93.1 y93.2 hy94) (fun w97 hag98 => ?_))
   obtain ⟨hS99, hT100⟩ := hS49.agr hag98
   obtain rfl := Option.some.inj h
   exact PN.leave hp0 Tryz.func90 ⟨hS99.ag, rfl⟩
  have h := exc_o h
  try dsimp only at h
  refine RD.cq 18 524287 524288 (.agg ((cs_TShare y96)).toArray) kt63 rfl kp64 body76 rfl (evs_cons rfl (evs_cons rfl evs_nil)) (fun w9 hw9 => Calls.okp (balance_must_api_Share_c n _ w9 (hS49.hL0 hL hw9) y93.1 y93.2 hy94)) rfl ?_
  refine RD.nw 19 1048575 kt63 rfl rfl .plain (Acts.storeAll (news := (cs_TShare y96)) hS49 (.tl .hd) rfl rfl rfl rfl rfl rfl (onesB rfl)) (fun w102 hS103 hT104 => ?_)
  refine RD.done (doneD_ok kt63 (by kernel_rfl)) ?_
  refine MX.ret rfl ?_
  refine RT.leave hb0 Tryz.func90 rfl (.cons (.many (cs := (cs_TShare y96)) (by kernel_rfl) rfl (hS103.memA (.tl .hd))) .nil) rfl ?_
  obtain rfl := Option.some.inj h
  exact ⟨hS103.ag, fun w9 hw9 => okOf_in rfl⟩
theorem body90 : bodyB Tryz.prog 90 = true := by kernel_rfl
def balance_Spread_p (n : Nat) (a0 : TRoll) (a1 : List Int) (a2 : Int) : Option (TShare × Int) :=
  (balance_Spread_1_p n a0 a2 a1).bind fun y35 => exc y35 (fun y37 => some (y37, (0 : Int))) (fun e36 => some ((⟨((0 : UInt64), (0 : UInt64), (0 : UInt64), (0 : UInt64), (0 : UInt64), (0 : UInt64), (0 : UInt64), (0 : UInt64)), ((0 : UInt64), (0 : UInt64), (0 : UInt64), (0 : UInt64), (0 : UInt64), (0 : UInt64), (0 : UInt64), (0 : UInt64))⟩ : TShare), e36.fErrno))
set_option maxRecDepth 4000 in
set_option maxHeartbeats 4000000 in
theorem balance_Spread_c (n : Nat) (L : List Nat) (w : World) (hL : ∀ b ∈ L, b < w.heap.size) (a0 : TRoll) {v0_3 : Value} (h0_3 : Rep.R w L [v0_3] a0.fUnits) (a1 : List Int) {v1_0 : Value} (h1_0 : Rep.R w L [v1_0] a1) (a2 : Int)  {r : TShare × Int} (h : balance_Spread_p n a0 a1 a2 = some r) :
    Calls Tryz.prog 33 #[.agg #[.int .i64 a0.fGroups, .int .i64 a0.fParties, .int .i64 a0.fLevels, v0_3], v1_0, .int .i64 a2] w (Gives w fun _ u => u = .tuple #[.agg ((cs_TShare r.1)).toArray, .int .i64 r.2]) := by
  unfold balance_Spread_p at h
  have hS0 := St.start w
  refine MX.start Tryz.func33 rfl rfl rfl (fun _ cs0 hb0 => ?_)
  refine MX.sr ?_
  refine RG.new .plain rfl (Does.box (vs := [.int .i64 a0.fGroups, .int .i64 a0.fParties, .int .i64 a0.fLevels, v0_3]) hS0 rfl rfl) (fun w2 b5 hS3 hT4 => ?_)
  have hm7 := Rep.mv h1_0 hT4
  refine RG.new .plain rfl (Does.box (vs := [v1_0]) hS3 rfl (Rep.c1 hm7)) (fun w8 b11 hS9 hT10 => ?_)
  refine RG.new .plain rfl (Does.box (vs := [.int .i64 a2]) hS9 rfl rfl) (fun w13 b16 hS14 hT15 => ?_)
  refine RG.new .plain rfl (Does.alloc (zs := [.int .u64 0, .int .u64 0, .int .u64 0, .int .u64 0, .int .u64 0, .int .u64 0, .int .u64 0, .int .u64 0, .int .u64 0, .int .u64 0, .int .u64 0, .int .u64 0, .int .u64 0, .int .u64 0, .int .u64 0, .int .u64 0]) hS14 (zB (by kernel_rfl))) (fun w18 b21 hS19 hT20 => ?_)
  refine RG.sg rfl rfl ?_
  refine RG.nil ?_
  refine MX.sr ?_
  refine RG.vv (FV.makeFunc (vs := []) (us := [.pointer (some ⟨b5, 0, none⟩), .pointer (some ⟨b16, 0, none⟩), .pointer (some ⟨b11, 0, none⟩)]) evs_nil (evs_cons rfl (evs_cons rfl (evs_cons rfl evs_nil)))) rfl ?_
  refine RG.enterP (fst := []) (cap := []) (vs := [.func (.func 90) #[] #[.pointer (some ⟨b5, 0, none⟩), .pointer (some ⟨b16, 0, none⟩), .pointer (some ⟨b11, 0, none⟩)]]) .plain body68 Tryz.func68 rfl rfl rfl rfl (evs_cons rfl evs_nil) rfl (fun cs23 hb22 hp24 => ?_)
  refine MX.sr ?_
  refine RG.new .plain rfl (Does.alloc (zs := [.int .u64 0, .int .u64 0, .int .u64 0, .int .u64 0, .int .u64 0, .int .u64 0, .int .u64 0, .int .u64 0, .int .u64 0, .int .u64 0, .int .u64 0, .int .u64 0, .int .u64 0, .int .u64 0, .int .u64 0, .int .u64 0]) hS19 (zB (by kernel_rfl))) (fun w26 b29 hS27 hT28 => ?_)
  refine RG.new .plain rfl (Does.alloc (zs := [.int .i64 0]) hS27 (zB (by kernel_rfl))) (fun w31 b34 hS32 hT33 => ?_)
  refine RG.nil ?_
  refine MX.sr ?_
  refine RG.vv (FV.makeFunc (vs := []) (us := [.pointer (some ⟨b29, 0, none⟩), .pointer (some ⟨b34, 0, none⟩)]) evs_nil (evs_cons rfl (evs_cons rfl evs_nil))) rfl ?_
  refine RG.defer (fst := []) (cap := [.pointer (some ⟨b29, 0, none⟩), .pointer (some ⟨b34, 0, none⟩)]) (vs := []) rfl .plain rfl evs_nil ?_
  refine RG.nil ?_
  refine MX.sr ?_
  refine RG.mv rfl rfl ?_
  obtain ⟨y35, hy35, h⟩ := bind_in h
  rcases y35 with e36 | y37
  ·skip
   have h := exc_e h
   try dsimp only at h
   have hm38 := Rep.mv h0_3 (Tr.trans hT4 (Tr.trans hT10 (Tr.trans hT15 (Tr.trans hT20 (Tr.trans hT28 hT33)))))
   have hm39 := Rep.mv h1_0 (Tr.trans hT4 (Tr.trans hT10 (Tr.trans hT15 (Tr.trans hT20 (Tr.trans hT28 hT33)))))
   refine RG.callE (fst := []) (cap := [.pointer (some ⟨b5, 0, none⟩), .pointer (some ⟨b16, 0, none⟩), .pointer (some ⟨b11, 0, none⟩)]) .plain body90 rfl evs_nil (fun w9 hw9 => balance_Spread_1_c n _ w9 (hS32.hL0 hL hw9) a0 (Rep.keep0 (Rep.dropS hS32 hm38) hw9) (fun j9 v9 h9 => hw9.cell0 ((hS32.memA (.tl (.tl (.tl (.tl (.tl .hd)))))) j9 v9 h9)) a2 (fun j9 v9 h9 => hw9.cell0 ((hS32.memA (.tl (.tl (.tl .hd)))) j9 v9 h9)) a1 (Rep.keep0 (Rep.dropS hS32 hm39) hw9) (fun j9 v9 h9 => hw9.cell0 ((hS32.memA (.tl (.tl (.tl (.tl .hd))))) j9 v9 h9)) hy35) (fun w40 hag41 => ?_)
   obtain ⟨hS42, hT43⟩ := hS32.agr hag41
   refine PN.callD (vs := []) (cap := [.pointer (some ⟨b29, 0, none⟩), .pointer (some ⟨b34, 0, none⟩)]) body123 Tryz.func123 rfl rfl rfl (fun c44 hc45 hk46 => ?_)
   refine MX.sr ?_
   refine RG.recover1 .plain hc45 rfl ?_
   refine RG.sg rfl rfl ?_
   refine RG.nil ?_
   refine MX.sr ?_
   refine RG.mv rfl rfl ?_
   refine RG.vv (FV.neqI Tryz.underlying20 rfl rfl) rfl ?_
   refine RG.nil ?_
   refine MX.cond_t rfl ?_
   refine MX.sr ?_
   refine RG.mv rfl rfl ?_
   refine RG.vv (FV.assertT (by kernel_rfl) rfl) rfl ?_
   refine RG.mv rfl rfl ?_
   refine RG.vv (FV.extract rfl rfl) rfl ?_
   refine RG.vv (FV.extract rfl rfl) rfl ?_
   refine RG.new .plain rfl (Does.alloc (zs := [.int .i64 0]) hS42 (zB (by kernel_rfl))) (fun w48 b51 hS49 hT50 => ?_)
   refine RG.now .plain (Acts.storeAll (news := [.int .i64 e36.fErrno]) hS49 .hd rfl rfl rfl rfl rfl rfl (ones_cons rfl ones_nil)) (fun w52 hS53 hT54 => ?_)
   refine RG.sg rfl rfl ?_
   refine RG.nil ?_
   refine MX.seq ?_
   refine MX.sr ?_
   refine RG.mv rfl rfl ?_
   refine RG.vv (FV.not rfl) rfl ?_
   refine RG.nil ?_
   refine MX.cond_f rfl ?_
   refine MX.skip ?_
   refine MX.sr ?_
   refine RG.new .plain rfl (Does.alloc (zs := [.int .u64 0, .int .u64 0, .int .u64 0, .int .u64 0, .int .u64 0, .int .u64 0, .int .u64 0, .int .u64 0, .int .u64 0, .int .u64 0, .int .u64 0, .int .u64 0, .int .u64 0, .int .u64 0, .int .u64 0, .int .u64 0]) hS53 (zB (by kernel_rfl))) (fun w56 b59 hS57 hT58 => ?_)
   refine RG.nil ?_
   refine MX.drawT 3 tb123_6 (by kernel_rfl) (by kernel_rfl) (by kernel_rfl) (fun kt60 kp61 => ?_)
   refine RD.vx 0 1 24 kt60 rfl kp61 (FV.loadN (by kernel_rfl) rfl (hS57.memA .hd)) rfl ?_
   refine RD.vw 1 3 kt60 rfl kp61 (fun _ => FV.fieldAddr (off := 0) (by kernel_rfl) rfl) rfl ?_
   refine RD.meet (α := Unit) (fun () => [(1, .pointer (some ⟨b34, 0, none⟩)), (19, .int .i64 e36.fErrno)]) (fun () wx1264 => St w wx1264 [.cells b34 [.int .i64 0] 51, .cells b29 [.int .u64 0, .int .u64 0, .int .u64 0, .int .u64 0, .int .u64 0, .int .u64 0, .int .u64 0, .int .u64 0, .int .u64 0, .int .u64 0, .int .u64 0, .int .u64 0, .int .u64 0, .int .u64 0, .int .u64 0, .int .u64 0] 37, .cells b21 [.int .u64 0, .int .u64 0, .int .u64 0, .int .u64 0, .int .u64 0, .int .u64 0, .int .u64 0, .int .u64 0, .int .u64 0, .int .u64 0, .int .u64 0, .int .u64 0, .int .u64 0, .int .u64 0, .int .u64 0, .int .u64 0] 37, .cells b16 [.int .i64 a2] 3, .cells b11 [v1_0] 46, .cells b5 [.int .i64 a0.fGroups, .int .i64 a0.fParties, .int .i64 a0.fLevels, v0_3] 44] ∧ Tr w56 [.cells b59 [.int .u64 0, .int .u64 0, .int .u64 0, .int .u64 0, .int .u64 0, .int .u64 0, .int .u64 0, .int .u64 0, .int .u64 0, .int .u64 0, .int .u64 0, .int .u64 0, .int .u64 0, .int .u64 0, .int .u64 0, .int .u64 0] 37, .cells b51 [.int .i64 e36.fErrno] 140, .cells b34 [.int .i64 0] 51, .cells b29 [.int .u64 0, .int .u64 0, .int .u64 0, .int .u64 0, .int .u64 0, .int .u64 0, .int .u64 0, .int .u64 0, .int .u64 0, .int .u64 0, .int .u64 0, .int .u64 0, .int .u64 0, .int .u64 0, .int .u64 0, .int .u64 0] 37, .cells b21 [.int .u64 0, .int .u64 0, .int .u64 0, .int .u64 0, .int .u64 0, .int .u64 0, .int .u64 0, .int .u64 0, .int .u64 0, .int .u64 0, .int .u64 0, .int .u64 0, .int .u64 0, .int .u64 0, .int .u64 0, .int .u64 0] 37, .cells b16 [.int .i64 a2] 3, .cells b11 [v1_0] 46, .cells b5 [.int .i64 a0.fGroups, .int .i64 a0.fParties, .int .i64 a0.fLevels, v0_3] 44] wx1264 [.cells b34 [.int .i64 0] 51, .cells b29 [.int .u64 0, .int .u64 0, .int .u64 0, .int .u64 0, .int .u64 0, .int .u64 0, .int .u64 0, .int .u64 0, .int .u64 0, .int .u64 0, .int .u64 0, .int .u64 0, .int .u64 0, .int .u64 0, .int .u64 0, .int .u64 0] 37, .cells b21 [.int .u64 0, .int .u64 0, .int .u64 0, .int .u64 0, .int .u64 0, .int .u64 0, .int .u64 0, .int .u64 0, .int .u64 0, .int .u64 0, .int .u64 0, .int .u64 0, .int .u64 0, .int .u64 0, .int .u64 0, .int .u64 0] 37, .cells b16 [.int .i64 a2] 3, .cells b11 [v1_0] 46, .cells b5 [.int .i64 a0.fGroups, .int .i64 a0.fParties, .int .i64 a0.fLevels, v0_3] 44]) 1 15 ?_ ?_
   ·skip
    rintro ⟨⟩ wx1264 ⟨hS1265, hT1266⟩
    try dsimp only
    refine RD.nw 4 31 kt60 rfl rfl .plain (Acts.storeAll (news := [.int .i64 e36.fErrno]) hS1265 .hd rfl rfl rfl rfl rfl rfl (ones_cons rfl ones_nil)) (fun w1268 hS1269 hT1270 => ?_)
    refine RD.done (doneD_ok kt60 (by kernel_rfl)) ?_
    refine MX.fin rfl ?_
    refine RT.leaveD1 hk46 Tryz.func123 rfl .nil ?_
    refine RT.leave (u := .tuple #[.agg #[.int .u64 0, .int .u64 0, .int .u64 0, .int .u64 0, .int .u64 0, .int .u64 0, .int .u64 0, .int .u64 0, .int .u64 0, .int .u64 0, .int .u64 0, .int .u64 0, .int .u64 0, .int .u64 0, .int .u64 0, .int .u64 0], .int .i64 e36.fErrno]) hb22 Tryz.func68 rfl (.cons (.many (cs := [.int .u64 0, .int .u64 0, .int .u64 0, .int .u64 0, .int .u64 0, .int .u64 0, .int .u64 0, .int .u64 0, .int .u64 0, .int .u64 0, .int .u64 0, .int .u64 0, .int .u64 0, .int .u64 0, .int .u64 0, .int .u64 0]) (by kernel_rfl) rfl (hS1269.memA (.tl .hd))) (.cons (.one (by kernel_rfl) rfl ((hS1269.memA .hd) 0 _ rfl)) .nil)) rfl ?_
    refine RG.vv (FV.extract rfl rfl) rfl ?_
    refine RG.vv (FV.extract rfl rfl) rfl ?_
    refine RG.now .plain (Acts.storeAll (news := [.int .u64 0, .int .u64 0, .int .u64 0, .int .u64 0, .int .u64 0, .int .u64 0, .int .u64 0, .int .u64 0, .int .u64 0, .int .u64 0, .int .u64 0, .int .u64 0, .int .u64 0, .int .u64 0, .int .u64 0, .int .u64 0]) hS1269 (.tl (.tl .hd)) rfl rfl rfl rfl rfl rfl (onesB rfl)) (fun w1271 hS1272 hT1273 => ?_)
    refine RG.sg rfl rfl ?_
    refine RG.nil ?_
    refine MX.ret rfl ?_
    refine RT.leave hb0 Tryz.func33 rfl (.cons (.many (cs := [.int .u64 0, .int .u64 0, .int .u64 0, .int .u64 0, .int .u64 0, .int .u64 0, .int .u64 0, .int .u64 0, .int .u64 0, .int .u64 0, .int .u64 0, .int .u64 0, .int .u64 0, .int .u64 0, .int .u64 0, .int .u64 0]) (by kernel_rfl) rfl (hS1272.memA (.tl (.tl .hd)))) (.cons (.tmp rfl) .nil)) rfl ?_
    obtain rfl := Option.some.inj h
    exact ⟨hS1272.ag, fun w9 hw9 => rfl⟩
   ·skip
    intro hJ1274
    refine RD.each [2, 3] (readyD_ok kt60 (by kernel_rfl)) ⟨?_, ?_, trivial⟩
    ·skip
     refine RO.val (m' := 7) (stepC_ok kt60 (by kernel_rfl)) rfl .plain rfl (FV.load1 (by kernel_rfl) rfl ((hS57.memA (.tl .hd)) 0 _ rfl)) ?_
     refine RD.nw 3 15 kt60 rfl rfl .plain (Acts.storeAll (news := [.int .u64 0, .int .u64 0, .int .u64 0, .int .u64 0, .int .u64 0, .int .u64 0, .int .u64 0, .int .u64 0, .int .u64 0, .int .u64 0, .int .u64 0, .int .u64 0, .int .u64 0, .int .u64 0, .int .u64 0, .int .u64 0]) hS57 (.tl (.tl (.tl .hd))) rfl rfl rfl rfl rfl rfl (onesB rfl)) (fun w662 hS663 hT664 => ?_)
     obtain ⟨hS1275, hT1276⟩ := St.arrB hS663 (.one (.tl (.tl .hd)) (.one (.tl (.tl .hd)) (.one (.tl (.tl .hd)) (.one (.tl (.tl .hd)) (.one (.tl (.tl .hd)) (.one (.tl (.tl .hd)) .done))))))
     exact hJ1274 () _ _ ⟨rfl, rfl, trivial⟩ ⟨hS1275, (Tr.trans hT664 hT1276)⟩
    ·skip
     refine RO.now (m' := 11) (stepC_ok kt60 (by kernel_rfl)) rfl rfl .plain (Acts.storeAll (news := [.int .u64 0, .int .u64 0, .int .u64 0, .int .u64 0, .int .u64 0, .int .u64 0, .int .u64 0, .int .u64 0, .int .u64 0, .int .u64 0, .int .u64 0, .int .u64 0, .int .u64 0, .int .u64 0, .int .u64 0, .int .u64 0]) hS57 (.tl (.tl (.tl .hd))) rfl rfl rfl rfl rfl rfl (onesB rfl)) (fun w662 hS663 hT664 => ?_)
     refine RD.vx 2 15 16 kt60 rfl kp61 (FV.load1 (by kernel_rfl) rfl ((hS663.memA (.tl .hd)) 0 _ rfl)) rfl ?_
     obtain ⟨hS1277, hT1278⟩ := St.arrB hS663 (.one (.tl (.tl .hd)) (.one (.tl (.tl .hd)) (.one (.tl (.tl .hd)) (.one (.tl (.tl .hd)) (.one (.tl (.tl .hd)) (.one (.tl (.tl .hd)) .done))))))
     exact hJ1274 () _ _ ⟨rfl, rfl, trivial⟩ ⟨hS1277, (Tr.trans hT664 hT1278)⟩
  have h := exc_o h
  try dsimp only at h
  have hm1280 := Rep.mv h0_3 (Tr.trans hT4 (Tr.trans hT10 (Tr.trans hT15 (Tr.trans hT20 (Tr.trans hT28 hT33)))))
  have hm1281 := Rep.mv h1_0 (Tr.trans hT4 (Tr.trans hT10 (Tr.trans hT15 (Tr.trans hT20 (Tr.trans hT28 hT33)))))
  refine RG.callq' (v := .agg ((cs_TShare y37)).toArray) (fst := []) (cap := [.pointer (some ⟨b5, 0, none⟩), .pointer (some ⟨b16, 0, none⟩), .pointer (some ⟨b11, 0, none⟩)]) .plain body90 rfl evs_nil (fun w9 hw9 => Calls.okp (balance_Spread_1_c n _ w9 (hS32.hL0 hL hw9) a0 (Rep.keep0 (Rep.dropS hS32 hm1280) hw9) (fun j9 v9 h9 => hw9.cell0 ((hS32.memA (.tl (.tl (.tl (.tl (.tl .hd)))))) j9 v9 h9)) a2 (fun j9 v9 h9 => hw9.cell0 ((hS32.memA (.tl (.tl (.tl .hd)))) j9 v9 h9)) a1 (Rep.keep0 (Rep.dropS hS32 hm1281) hw9) (fun j9 v9 h9 => hw9.cell0 ((hS32.memA (.tl (.tl (.tl (.tl .hd))))) j9 v9 h9)) hy35)) rfl ?_
  refine RG.now .plain (Acts.storeAll (news := (cs_TShare y37)) hS32 (.tl .hd) rfl rfl rfl rfl rfl rfl (onesB rfl)) (fun w1282 hS1283 hT1284 => ?_)
  refine RG.now .plain (Acts.storeAll (news := [.int .i64 0]) hS1283 .hd rfl rfl rfl rfl rfl rfl (ones_cons rfl ones_nil)) (fun w1285 hS1286 hT1287 => ?_)
  refine RG.nil ?_
  refine MX.ret rfl ?_
  refine RT.callD (vs := []) (cap := [.pointer (some ⟨b29, 0, none⟩), .pointer (some ⟨b34, 0, none⟩)]) body123 Tryz.func123 rfl rfl rfl (fun c1288 hc1289 hk1290 => ?_)
  refine MX.sr ?_
  refine RG.recover0 .plain hc1289 rfl ?_
  refine RG.sg rfl rfl ?_
  refine RG.nil ?_
  refine MX.sr ?_
  refine RG.mv rfl rfl ?_
  refine RG.vv (FV.neqI0 Tryz.underlying20 rfl rfl) rfl ?_
  refine RG.nil ?_
  refine MX.cond_f rfl ?_
  refine MX.skip ?_
  refine MX.fin rfl ?_
  refine RT.leaveD0 hc1289 hk1290 Tryz.func123 rfl .nil ?_
  refine RT.leave (u := .tuple #[.agg ((cs_TShare y37)).toArray, .int .i64 0]) hb22 Tryz.func68 rfl (.cons (.many (cs := (cs_TShare y37)) (by kernel_rfl) rfl (hS1286.memA (.tl .hd))) (.cons (.one (by kernel_rfl) rfl ((hS1286.memA .hd) 0 _ rfl)) .nil)) rfl ?_
  refine RG.vv (FV.extract rfl rfl) rfl ?_
  refine RG.vv (FV.extract rfl rfl) rfl ?_
  refine RG.now .plain (Acts.storeAll (news := (cs_TShare y37)) hS1286 (.tl (.tl .hd)) rfl rfl rfl rfl rfl rfl (onesB rfl)) (fun w1291 hS1292 hT1293 => ?_)
  refine RG.sg rfl rfl ?_
  refine RG.nil ?_
  refine MX.ret rfl ?_
  refine RT.leave hb0 Tryz.func33 rfl (.cons (.many (cs := (cs_TShare y37)) (by kernel_rfl) rfl (hS1292.memA (.tl (.tl .hd)))) (.cons (.tmp rfl) .nil)) rfl ?_
  obtain rfl := Option.some.inj h
  exact ⟨hS1292.ag, fun w9 hw9 => rfl⟩
theorem el42 : ElT Tryz.prog 42 65 (Rep.size TUnit) 104 (.agg #[.string ⟨#[]⟩, .int .i64 0, .slice none 0 0, .slice none 0 0, .slice none 0 0, .bool false]) [.string ⟨#[]⟩, .int .i64 0, .slice none 0 0, .slice none 0 0, .slice none 0 0, .bool false] := ⟨Tryz.underlying42, by kernel_rfl, rfl, rfl, rfl, rfl⟩
def wardmotelaw22_four_p (_n : Nat) : Option TRoll :=
  (app ([] : List TUnit) ([(⟨⟨#[97]⟩, (10 : Int), ([] : List Int), ([] : List Int), ([] : List Int), false⟩ : TUnit)] : List TUnit)).bind fun xs36 => (app xs36 ([(⟨⟨#[98]⟩, (20 : Int), ([] : List Int), ([] : List Int), ([] : List Int), false⟩ : TUnit)] : List TUnit)).bind fun xs69 => (app xs69 ([(⟨⟨#[99]⟩, (30 : Int), ([] : List Int), ([] : List Int), ([] : List Int), false⟩ : TUnit)] : List TUnit)).bind fun xs102 => (app xs102 ([(⟨⟨#[100]⟩, (40 : Int), ([] : List Int), ([] : List Int), ([] : List Int), false⟩ : TUnit)] : List TUnit)).bind fun xs135 => some (⟨(0 : Int), (0 : Int), (0 : Int), xs135⟩ : TRoll)
set_option maxRecDepth 4000 in
set_option maxHeartbeats 4000000 in
theorem wardmotelaw22_four_c (n : Nat) (L : List Nat) (w : World) (_hL : ∀ b ∈ L, b < w.heap.size)  {r : TRoll} (h : wardmotelaw22_four_p n = some r) :
    Calls Tryz.prog 36 #[] w (Gives w fun w' u => ∃ (v0_3 : Value) (cs0_3 : List Value), u = .agg #[.int .i64 r.fGroups, .int .i64 r.fParties, .int .i64 r.fLevels, v0_3] ∧ St w w' (rowsOf w.heap.size [(65, Rep.size TUnit, v0_3, r.fUnits.length, cs0_3)]) ∧ Cells w' (bl (rowsOf w.heap.size [(65, Rep.size TUnit, v0_3, r.fUnits.length, cs0_3)]) ++ L) cs0_3 (r.fUnits : List TUnit)) := by
  unfold wardmotelaw22_four_p at h
  have hS0 := St.start w
  refine MX.start Tryz.func36 rfl rfl rfl (fun _ cs0 hb0 => ?_)
  refine MX.sr ?_
  refine RG.new .plain rfl (Does.alloc (zs := [.int .i64 0, .int .i64 0, .int .i64 0, .slice none 0 0]) hS0 (zB (by kernel_rfl))) (fun w2 b5 hS3 hT4 => ?_)
  refine RG.nil ?_
  refine MX.sr ?_
  refine RG.new .plain rfl (Does.alloc (zs := [.int .i64 0, .int .i64 0, .int .i64 0, .slice none 0 0]) hS3 (zB (by kernel_rfl))) (fun w7 b10 hS8 hT9 => ?_)
  refine RG.nil ?_
  refine MX.seq ?_
  refine MX.sr ?_
  refine RG.vv (FV.buildV (vs := [.string ⟨#[97]⟩, .string ⟨#[98]⟩, .string ⟨#[99]⟩, .string ⟨#[100]⟩]) (u := .agg #[.string ⟨#[97]⟩, .string ⟨#[98]⟩, .string ⟨#[99]⟩, .string ⟨#[100]⟩]) (evs_cons rfl (evs_cons rfl (evs_cons rfl (evs_cons rfl evs_nil)))) (fun w9 => by kernel_rfl)) rfl ?_
  refine RG.mv rfl rfl ?_
  refine RG.nil ?_
  refine MX.block ?_
  refine MX.loop1 ?_
  refine MX.sr ?_
  refine RG.vv (FV.lssN (i := 0) (j := 4) rfl rfl) rfl ?_
  refine RG.nil ?_
  refine MX.seq ?_
  refine MX.cond_t rfl ?_
  refine MX.skip ?_
  refine MX.seq ?_
  refine MX.block ?_
  refine MX.sr ?_
  refine RG.mv rfl rfl ?_
  refine RG.vv (FV.idx1 (cs := [.string ⟨#[97]⟩, .string ⟨#[98]⟩, .string ⟨#[99]⟩, .string ⟨#[100]⟩]) (k := 0) (m := 1) (len := 4) (by kernel_rfl) (by kernel_rfl) rfl rfl rfl (by omega) rfl) rfl ?_
  refine RG.sg rfl rfl ?_
  refine RG.sg rfl rfl ?_
  refine RG.nil ?_
  refine MX.region ?_
  refine RG.vv (FV.fieldAddr (off := 3) (by kernel_rfl) rfl) rfl ?_
  refine RG.vv (FV.load1 (by kernel_rfl) rfl ((hS8.memA .hd) 3 _ rfl)) rfl ?_
  refine RG.mv rfl rfl ?_
  refine RG.mv rfl rfl ?_
  refine RG.vv (FV.add (i := 0) (j := 1) (r := 1) rfl rfl (by decide)) rfl ?_
  refine RG.vv (FV.mul (i := 10) (j := 1) (r := 10) rfl rfl (by decide)) rfl ?_
  refine RG.vv (FV.buildV (vs := [.string ⟨#[97]⟩, .int .i64 10]) (u := .agg #[.string ⟨#[97]⟩, .int .i64 10, .slice none 0 0, .slice none 0 0, .slice none 0 0, .bool false]) (evs_cons rfl (evs_cons rfl evs_nil)) (fun w9 => by kernel_rfl)) rfl ?_
  have hr12 := Rep.nilAt (α := Int) hS8 L
  have hr13 := Rep.nilAt (α := Int) hS8 L
  have hr14 := Rep.nilAt (α := Int) hS8 L
  have hr15 := Rep.nilAt (α := Int) hS8 L
  have hr16 := Rep.nilAt (α := Int) hS8 L
  have hr17 := Rep.nilAt (α := Int) hS8 L
  have hr18 := Rep.nilAt (α := Int) hS8 L
  have hr19 := Rep.nilAt (α := Int) hS8 L
  have hr20 := Rep.nilAt (α := Int) hS8 L
  refine RG.new .plain rfl (Does.build (α := TUnit) (xs := ([(⟨⟨#[97]⟩, (10 : Int), ([] : List Int), ([] : List Int), ([] : List Int), false⟩ : TUnit)] : List TUnit)) (vs := [.agg #[.string ⟨#[97]⟩, .int .i64 10, .slice none 0 0, .slice none 0 0, .slice none 0 0, .bool false]]) (ds' := [.string ⟨#[97]⟩, .int .i64 10, .slice none 0 0, .slice none 0 0, .slice none 0 0, .bool false]) rfl hS8 el42 rfl (evs_cons rfl evs_nil) (by kernel_rfl) rfl) (fun w21 b24 hS22 hT23 => ?_)
  have hr26 := Rep.nilAt (α := Int) hS22 L
  have hr27 := Rep.nilAt (α := Int) hS22 L
  have hr28 := Rep.nilAt (α := Int) hS22 L
  have hr29 := Rep.nilAt (α := Int) hS22 L
  have hr30 := Rep.nilAt (α := Int) hS22 L
  have hr31 := Rep.nilAt (α := Int) hS22 L
  have hc25 := Cells.at_ (cs := [.string ⟨#[97]⟩, .int .i64 10, .slice none 0 0, .slice none 0 0, .slice none 0 0, .bool false]) (xs := (([(⟨⟨#[97]⟩, (10 : Int), ([] : List Int), ([] : List Int), ([] : List Int), false⟩ : TUnit)] : List TUnit) : List TUnit)) hS22 L (Cells.cons (cs := [.string ⟨#[97]⟩, .int .i64 10, .slice none 0 0, .slice none 0 0, .slice none 0 0, .bool false]) (ds := []) (mk_TUnit ⟨#[97]⟩ (10 : Int) ([] : List Int) hr27 ([] : List Int) hr29 ([] : List Int) hr31 false) (Cells.nil _ _))
  have hS33 := hS22.nilRow 65 (Rep.size TUnit)
  have hT34 := St.nilRowT hS22 65 (Rep.size TUnit)
  have hc35 := Cells.at_ (cs := []) (xs := ([] : List TUnit)) hS33 L (Cells.nil _ _)
  obtain ⟨xs36, hxs36, h⟩ := bind_in h
  have hm37 := Cells.mv hc25 hT34
  refine RG.doesL .plain rfl (DoesL.app (α := TUnit) (ys := ([(⟨⟨#[97]⟩, (10 : Int), ([] : List Int), ([] : List Int), ([] : List Int), false⟩ : TUnit)] : List TUnit)) (F := fun v' cs' => [.row w.heap.size 65 (Rep.size TUnit) v' xs36.length cs', .row w.heap.size 65 (Rep.size TUnit) (.slice (some ⟨b24, 0, none⟩) 1 1) (([(⟨⟨#[97]⟩, (10 : Int), ([] : List Int), ([] : List Int), ([] : List Int), false⟩ : TUnit)] : List TUnit).length) [.string ⟨#[97]⟩, .int .i64 10, .slice none 0 0, .slice none 0 0, .slice none 0 0, .bool false], .cells b10 [.int .i64 0, .int .i64 0, .int .i64 0, .slice none 0 0] 44, .cells b5 [.int .i64 0, .int .i64 0, .int .i64 0, .slice none 0 0] 44]) hxs36 hS33 (fun _ _ => .hd) el42 rfl rfl hc35 (Src.row (α := TUnit) hS33 (.tl .hd) hm37)) (fun v43 w38 ⟨cs42, hS39, hT40, hc41⟩ => ?_)
  refine RG.vv (FV.fieldAddr (off := 3) (by kernel_rfl) rfl) rfl ?_
  refine RG.now .plain (Acts.store (j := 3) (old := [.int .i64 0, .int .i64 0, .int .i64 0, .slice none 0 0]) (news := [v43]) (new' := [.int .i64 0, .int .i64 0, .int .i64 0, v43]) hS39 (.tl (.tl .hd)) rfl rfl rfl (St.c1 (α := TUnit) hS39 .hd) rfl rfl (ones_cons (St.o1 (α := TUnit) hS39 .hd) ones_nil) rfl) (fun w45 hS46 hT47 => ?_)
  refine RG.nil ?_
  refine MX.inBlock ?_
  refine MX.region ?_
  refine RG.vv (FV.add (i := 0) (j := 1) (r := 1) rfl rfl (by decide)) rfl ?_
  refine RG.mv rfl rfl ?_
  refine RG.nil ?_
  refine MX.again1 ?_
  refine MX.sr ?_
  refine RG.vv (FV.lssN (i := 1) (j := 4) rfl rfl) rfl ?_
  refine RG.nil ?_
  refine MX.seq ?_
  refine MX.cond_t rfl ?_
  refine MX.skip ?_
  refine MX.seq ?_
  refine MX.block ?_
  refine MX.sr ?_
  refine RG.mv rfl rfl ?_
  refine RG.vv (FV.idx1 (cs := [.string ⟨#[97]⟩, .string ⟨#[98]⟩, .string ⟨#[99]⟩, .string ⟨#[100]⟩]) (k := 1) (m := 1) (len := 4) (by kernel_rfl) (by kernel_rfl) rfl rfl rfl (by omega) rfl) rfl ?_
  refine RG.sg rfl rfl ?_
  refine RG.sg rfl rfl ?_
  refine RG.nil ?_
  refine MX.region ?_
  refine RG.vv (FV.fieldAddr (off := 3) (by kernel_rfl) rfl) rfl ?_
  refine RG.vv (FV.load1 (by kernel_rfl) rfl ((hS46.memA (.tl (.tl .hd))) 3 _ rfl)) rfl ?_
  refine RG.mv rfl rfl ?_
  refine RG.mv rfl rfl ?_
  refine RG.vv (FV.add (i := 1) (j := 1) (r := 2) rfl rfl (by decide)) rfl ?_
  refine RG.vv (FV.mul (i := 10) (j := 2) (r := 20) rfl rfl (by decide)) rfl ?_
  refine RG.vv (FV.buildV (vs := [.string ⟨#[98]⟩, .int .i64 20]) (u := .agg #[.string ⟨#[98]⟩, .int .i64 20, .slice none 0 0, .slice none 0 0, .slice none 0 0, .bool false]) (evs_cons rfl (evs_cons rfl evs_nil)) (fun w9 => by kernel_rfl)) rfl ?_
  have hr49 := Rep.nilAt (α := Int) hS46 L
  have hr50 := Rep.nilAt (α := Int) hS46 L
  have hr51 := Rep.nilAt (α := Int) hS46 L
  have hr52 := Rep.nilAt (α := Int) hS46 L
  have hr53 := Rep.nilAt (α := Int) hS46 L
  have hr54 := Rep.nilAt (α := Int) hS46 L
  have hr55 := Rep.nilAt (α := Int) hS46 L
  have hr56 := Rep.nilAt (α := Int) hS46 L
  have hr57 := Rep.nilAt (α := Int) hS46 L
  refine RG.new .plain rfl (Does.build (α := TUnit) (xs := ([(⟨⟨#[98]⟩, (20 : Int), ([] : List Int), ([] : List Int), ([] : List Int), false⟩ : TUnit)] : List TUnit)) (vs := [.agg #[.string ⟨#[98]⟩, .int .i64 20, .slice none 0 0, .slice none 0 0, .slice none 0 0, .bool false]]) (ds' := [.string ⟨#[98]⟩, .int .i64 20, .slice none 0 0, .slice none 0 0, .slice none 0 0, .bool false]) rfl hS46 el42 rfl (evs_cons rfl evs_nil) (by kernel_rfl) rfl) (fun w58 b61 hS59 hT60 => ?_)
  have hr63 := Rep.nilAt (α := Int) hS59 L
  have hr64 := Rep.nilAt (α := Int) hS59 L
  have hr65 := Rep.nilAt (α := Int) hS59 L
  have hr66 := Rep.nilAt (α := Int) hS59 L
  have hr67 := Rep.nilAt (α := Int) hS59 L
  have hr68 := Rep.nilAt (α := Int) hS59 L
  have hc62 := Cells.at_ (cs := [.string ⟨#[98]⟩, .int .i64 20, .slice none 0 0, .slice none 0 0, .slice none 0 0, .bool false]) (xs := (([(⟨⟨#[98]⟩, (20 : Int), ([] : List Int), ([] : List Int), ([] : List Int), false⟩ : TUnit)] : List TUnit) : List TUnit)) hS59 L (Cells.cons (cs := [.string ⟨#[98]⟩, .int .i64 20, .slice none 0 0, .slice none 0 0, .slice none 0 0, .bool false]) (ds := []) (mk_TUnit ⟨#[98]⟩ (20 : Int) ([] : List Int) hr64 ([] : List Int) hr66 ([] : List Int) hr68 false) (Cells.nil _ _))
  obtain ⟨xs69, hxs69, h⟩ := bind_in h
  have hm70 := Cells.mv hc41 (Tr.trans hT47 hT60)
  refine RG.doesL .plain rfl (DoesL.app (α := TUnit) (ys := ([(⟨⟨#[98]⟩, (20 : Int), ([] : List Int), ([] : List Int), ([] : List Int), false⟩ : TUnit)] : List TUnit)) (F := fun v' cs' => [.row w.heap.size 65 (Rep.size TUnit) (.slice (some ⟨b61, 0, none⟩) 1 1) (([(⟨⟨#[98]⟩, (20 : Int), ([] : List Int), ([] : List Int), ([] : List Int), false⟩ : TUnit)] : List TUnit).length) [.string ⟨#[98]⟩, .int .i64 20, .slice none 0 0, .slice none 0 0, .slice none 0 0, .bool false], .row w.heap.size 65 (Rep.size TUnit) v' xs69.length cs', .row w.heap.size 65 (Rep.size TUnit) (.slice (some ⟨b24, 0, none⟩) 1 1) (([(⟨⟨#[97]⟩, (10 : Int), ([] : List Int), ([] : List Int), ([] : List Int), false⟩ : TUnit)] : List TUnit).length) [.string ⟨#[97]⟩, .int .i64 10, .slice none 0 0, .slice none 0 0, .slice none 0 0, .bool false], .cells b10 [.int .i64 0, .int .i64 0, .int .i64 0, v43] 44, .cells b5 [.int .i64 0, .int .i64 0, .int .i64 0, .slice none 0 0] 44]) hxs69 hS59 (fun _ _ => (.tl .hd)) el42 rfl rfl hm70 (Src.row (α := TUnit) hS59 .hd hc62)) (fun v76 w71 ⟨cs75, hS72, hT73, hc74⟩ => ?_)
  refine RG.vv (FV.fieldAddr (off := 3) (by kernel_rfl) rfl) rfl ?_
  refine RG.now .plain (Acts.store (j := 3) (old := [.int .i64 0, .int .i64 0, .int .i64 0, v43]) (news := [v76]) (new' := [.int .i64 0, .int .i64 0, .int .i64 0, v76]) hS72 (.tl (.tl (.tl .hd))) rfl rfl rfl (St.c1 (α := TUnit) hS72 (.tl .hd)) rfl rfl (ones_cons (St.o1 (α := TUnit) hS72 (.tl .hd)) ones_nil) rfl) (fun w78 hS79 hT80 => ?_)
  refine RG.nil ?_
  refine MX.inBlock ?_
  refine MX.region ?_
  refine RG.vv (FV.add (i := 1) (j := 1) (r := 2) rfl rfl (by decide)) rfl ?_
  refine RG.mv rfl rfl ?_
  refine RG.nil ?_
  refine MX.again1 ?_
  refine MX.sr ?_
  refine RG.vv (FV.lssN (i := 2) (j := 4) rfl rfl) rfl ?_
  refine RG.nil ?_
  refine MX.seq ?_
  refine MX.cond_t rfl ?_
  refine MX.skip ?_
  refine MX.seq ?_
  refine MX.block ?_
  refine MX.sr ?_
  refine RG.mv rfl rfl ?_
  refine RG.vv (FV.idx1 (cs := [.string ⟨#[97]⟩, .string ⟨#[98]⟩, .string ⟨#[99]⟩, .string ⟨#[100]⟩]) (k := 2) (m := 1) (len := 4) (by kernel_rfl) (by kernel_rfl) rfl rfl rfl (by omega) rfl) rfl ?_
  refine RG.sg rfl rfl ?_
  refine RG.sg rfl rfl ?_
  refine RG.nil ?_
  refine MX.region ?_
  refine RG.vv (FV.fieldAddr (off := 3) (by kernel_rfl) rfl) rfl ?_
  refine RG.vv (FV.load1 (by kernel_rfl) rfl ((hS79.memA (.tl (.tl (.tl .hd)))) 3 _ rfl)) rfl ?_
  refine RG.mv rfl rfl ?_
  refine RG.mv rfl rfl ?_
  refine RG.vv (FV.add (i := 2) (j := 1) (r := 3) rfl rfl (by decide)) rfl ?_
  refine RG.vv (FV.mul (i := 10) (j := 3) (r := 30) rfl rfl (by decide)) rfl ?_
  refine RG.vv (FV.buildV (vs := [.string ⟨#[99]⟩, .int .i64 30]) (u := .agg #[.string ⟨#[99]⟩, .int .i64 30, .slice none 0 0, .slice none 0 0, .slice none 0 0, .bool false]) (evs_cons rfl (evs_cons rfl evs_nil)) (fun w9 => by kernel_rfl)) rfl ?_
  have hr82 := Rep.nilAt (α := Int) hS79 L
  have hr83 := Rep.nilAt (α := Int) hS79 L
  have hr84 := Rep.nilAt (α := Int) hS79 L
  have hr85 := Rep.nilAt (α := Int) hS79 L
  have hr86 := Rep.nilAt (α := Int) hS79 L
  have hr87 := Rep.nilAt (α := Int) hS79 L
  have hr88 := Rep.nilAt (α := Int) hS79 L
  have hr89 := Rep.nilAt (α := Int) hS79 L
  have hr90 := Rep.nilAt (α := Int) hS79 L
  refine RG.new .plain rfl (Does.build (α := TUnit) (xs := ([(⟨⟨#[99]⟩, (30 : Int), ([] : List Int), ([] : List Int), ([] : List Int), false⟩ : TUnit)] : List TUnit)) (vs := [.agg #[.string ⟨#[99]⟩, .int .i64 30, .slice none 0 0, .slice none 0 0, .slice none 0 0, .bool false]]) (ds' := [.string ⟨#[99]⟩, .int .i64 30, .slice none 0 0, .slice none 0 0, .slice none 0 0, .bool false]) rfl hS79 el42 rfl (evs_cons rfl evs_nil) (by kernel_rfl) rfl) (fun w91 b94 hS92 hT93 => ?_)
  have hr96 := Rep.nilAt (α := Int) hS92 L
  have hr97 := Rep.nilAt (α := Int) hS92 L
  have hr98 := Rep.nilAt (α := Int) hS92 L
  have hr99 := Rep.nilAt (α := Int) hS92 L
  have hr100 := Rep.nilAt (α := Int) hS92 L
  have hr101 := Rep.nilAt (α := Int) hS92 L
  have hc95 := Cells.at_ (cs := [.string ⟨#[99]⟩, .int .i64 30, .slice none 0 0, .slice none 0 0, .slice none 0 0, .bool false]) (xs := (([(⟨⟨#[99]⟩, (30 : Int), ([] : List Int), ([] : List Int), ([] : List Int), false⟩ : TUnit)] : List TUnit) : List TUnit)) hS92 L (Cells.cons (cs := [.string ⟨#[99]⟩, .int .i64 30, .slice none 0 0, .slice none 0 0, .slice none 0 0, .bool false]) (ds := []) (mk_TUnit ⟨#[99]⟩ (30 : Int) ([] : List Int) hr97 ([] : List Int) hr99 ([] : List Int) hr101 false) (Cells.nil _ _))
  obtain ⟨xs102, hxs102, h⟩ := bind_in h
  have hm103 := Cells.mv hc74 (Tr.trans hT80 hT93)
  refine RG.doesL .plain rfl (DoesL.app (α := TUnit) (ys := ([(⟨⟨#[99]⟩, (30 : Int), ([] : List Int), ([] : List Int), ([] : List Int), false⟩ : TUnit)] : List TUnit)) (F := fun v' cs' => [.row w.heap.size 65 (Rep.size TUnit) (.slice (some ⟨b94, 0, none⟩) 1 1) (([(⟨⟨#[99]⟩, (30 : Int), ([] : List Int), ([] : List Int), ([] : List Int), false⟩ : TUnit)] : List TUnit).length) [.string ⟨#[99]⟩, .int .i64 30, .slice none 0 0, .slice none 0 0, .slice none 0 0, .bool false], .row w.heap.size 65 (Rep.size TUnit) (.slice (some ⟨b61, 0, none⟩) 1 1) (([(⟨⟨#[98]⟩, (20 : Int), ([] : List Int), ([] : List Int), ([] : List Int), false⟩ : TUnit)] : List TUnit).length) [.string ⟨#[98]⟩, .int .i64 20, .slice none 0 0, .slice none 0 0, .slice none 0 0, .bool false], .row w.heap.size 65 (Rep.size TUnit) v' xs102.length cs', .row w.heap.size 65 (Rep.size TUnit) (.slice (some ⟨b24, 0, none⟩) 1 1) (([(⟨⟨#[97]⟩, (10 : Int), ([] : List Int), ([] : List Int), ([] : List Int), false⟩ : TUnit)] : List TUnit).length) [.string ⟨#[97]⟩, .int .i64 10, .slice none 0 0, .slice none 0 0, .slice none 0 0, .bool false], .cells b10 [.int .i64 0, .int .i64 0, .int .i64 0, v76] 44, .cells b5 [.int .i64 0, .int .i64 0, .int .i64 0, .slice none 0 0] 44]) hxs102 hS92 (fun _ _ => (.tl (.tl .hd))) el42 rfl rfl hm103 (Src.row (α := TUnit) hS92 .hd hc95)) (fun v109 w104 ⟨cs108, hS105, hT106, hc107⟩ => ?_)
  refine RG.vv (FV.fieldAddr (off := 3) (by kernel_rfl) rfl) rfl ?_
  refine RG.now .plain (Acts.store (j := 3) (old := [.int .i64 0, .int .i64 0, .int .i64 0, v76]) (news := [v109]) (new' := [.int .i64 0, .int .i64 0, .int .i64 0, v109]) hS105 (.tl (.tl (.tl (.tl .hd)))) rfl rfl rfl (St.c1 (α := TUnit) hS105 (.tl (.tl .hd))) rfl rfl (ones_cons (St.o1 (α := TUnit) hS105 (.tl (.tl .hd))) ones_nil) rfl) (fun w111 hS112 hT113 => ?_)
  refine RG.nil ?_
  refine MX.inBlock ?_
  refine MX.region ?_
  refine RG.vv (FV.add (i := 2) (j := 1) (r := 3) rfl rfl (by decide)) rfl ?_
  refine RG.mv rfl rfl ?_
  refine RG.nil ?_
  refine MX.again1 ?_
  refine MX.sr ?_
  refine RG.vv (FV.lssN (i := 3) (j := 4) rfl rfl) rfl ?_
  refine RG.nil ?_
  refine MX.seq ?_
  refine MX.cond_t rfl ?_
  refine MX.skip ?_
  refine MX.seq ?_
  refine MX.block ?_
  refine MX.sr ?_
  refine RG.mv rfl rfl ?_
  refine RG.vv (FV.idx1 (cs := [.string ⟨#[97]⟩, .string ⟨#[98]⟩, .string ⟨#[99]⟩, .string ⟨#[100]⟩]) (k := 3) (m := 1) (len := 4) (by kernel_rfl) (by kernel_rfl) rfl rfl rfl (by omega) rfl) rfl ?_
  refine RG.sg rfl rfl ?_
  refine RG.sg rfl rfl ?_
  refine RG.nil ?_
  refine MX.region ?_
  refine RG.vv (FV.fieldAddr (off := 3) (by kernel_rfl) rfl) rfl ?_
  refine RG.vv (FV.load1 (by kernel_rfl) rfl ((hS112.memA (.tl (.tl (.tl (.tl .hd))))) 3 _ rfl)) rfl ?_
  refine RG.mv rfl rfl ?_
  refine RG.mv rfl rfl ?_
  refine RG.vv (FV.add (i := 3) (j := 1) (r := 4) rfl rfl (by decide)) rfl ?_
  refine RG.vv (FV.mul (i := 10) (j := 4) (r := 40) rfl rfl (by decide)) rfl ?_
  refine RG.vv (FV.buildV (vs := [.string ⟨#[100]⟩, .int .i64 40]) (u := .agg #[.string ⟨#[100]⟩, .int .i64 40, .slice none 0 0, .slice none 0 0, .slice none 0 0, .bool false]) (evs_cons rfl (evs_cons rfl evs_nil)) (fun w9 => by kernel_rfl)) rfl ?_
  have hr115 := Rep.nilAt (α := Int) hS112 L
  have hr116 := Rep.nilAt (α := Int) hS112 L
  have hr117 := Rep.nilAt (α := Int) hS112 L
  have hr118 := Rep.nilAt (α := Int) hS112 L
  have hr119 := Rep.nilAt (α := Int) hS112 L
  have hr120 := Rep.nilAt (α := Int) hS112 L
  have hr121 := Rep.nilAt (α := Int) hS112 L
  have hr122 := Rep.nilAt (α := Int) hS112 L
  have hr123 := Rep.nilAt (α := Int) hS112 L
  refine RG.new .plain rfl (Does.build (α := TUnit) (xs := ([(⟨⟨#[100]⟩, (40 : Int), ([] : List Int), ([] : List Int), ([] : List Int), false⟩ : TUnit)] : List TUnit)) (vs := [.agg #[.string ⟨#[100]⟩, .int .i64 40, .slice none 0 0, .slice none 0 0, .slice none 0 0, .bool false]]) (ds' := [.string ⟨#[100]⟩, .int .i64 40, .slice none 0 0, .slice none 0 0, .slice none 0 0, .bool false]) rfl hS112 el42 rfl (evs_cons rfl evs_nil) (by kernel_rfl) rfl) (fun w124 b127 hS125 hT126 => ?_)
  have hr129 := Rep.nilAt (α := Int) hS125 L
  have hr130 := Rep.nilAt (α := Int) hS125 L
  have hr131 := Rep.nilAt (α := Int) hS125 L
  have hr132 := Rep.nilAt (α := Int) hS125 L
  have hr133 := Rep.nilAt (α := Int) hS125 L
  have hr134 := Rep.nilAt (α := Int) hS125 L
  have hc128 := Cells.at_ (cs := [.string ⟨#[100]⟩, .int .i64 40, .slice none 0 0, .slice none 0 0, .slice none 0 0, .bool false]) (xs := (([(⟨⟨#[100]⟩, (40 : Int), ([] : List Int), ([] : List Int), ([] : List Int), false⟩ : TUnit)] : List TUnit) : List TUnit)) hS125 L (Cells.cons (cs := [.string ⟨#[100]⟩, .int .i64 40, .slice none 0 0, .slice none 0 0, .slice none 0 0, .bool false]) (ds := []) (mk_TUnit ⟨#[100]⟩ (40 : Int) ([] : List Int) hr130 ([] : List Int) hr132 ([] : List Int) hr134 false) (Cells.nil _ _))
  obtain ⟨xs135, hxs135, h⟩ := bind_in h
  have hm136 := Cells.mv hc107 (Tr.trans hT113 hT126)
  refine RG.doesL .plain rfl (DoesL.app (α := TUnit) (ys := ([(⟨⟨#[100]⟩, (40 : Int), ([] : List Int), ([] : List Int), ([] : List Int), false⟩ : TUnit)] : List TUnit)) (F := fun v' cs' => [.row w.heap.size 65 (Rep.size TUnit) (.slice (some ⟨b127, 0, none⟩) 1 1) (([(⟨⟨#[100]⟩, (40 : Int), ([] : List Int), ([] : List Int), ([] : List Int), false⟩ : TUnit)] : List TUnit).length) [.string ⟨#[100]⟩, .int .i64 40, .slice none 0 0, .slice none 0 0, .slice none 0 0, .bool false], .row w.heap.size 65 (Rep.size TUnit) (.slice (some ⟨b94, 0, none⟩) 1 1) (([(⟨⟨#[99]⟩, (30 : Int), ([] : List Int), ([] : List Int), ([] : List Int), false⟩ : TUnit)] : List TUnit).length) [.string ⟨#[99]⟩, .int .i64 30, .slice none 0 0, .slice none 0 0, .slice none 0 0, .bool false], .row w.heap.size 65 (Rep.size TUnit) (.slice (some ⟨b61, 0, none⟩) 1 1) (([(⟨⟨#[98]⟩, (20 : Int), ([] : List Int), ([] : List Int), ([] : List Int), false⟩ : TUnit)] : List TUnit).length) [.string ⟨#[98]⟩, .int .i64 20, .slice none 0 0, .slice none 0 0, .slice none 0 0, .bool false], .row w.heap.size 65 (Rep.size TUnit) v' xs135.length cs', .row w.heap.size 65 (Rep.size TUnit) (.slice (some ⟨b24, 0, none⟩) 1 1) (([(⟨⟨#[97]⟩, (10 : Int), ([] : List Int), ([] : List Int), ([] : List Int), false⟩ : TUnit)] : List TUnit).length) [.string ⟨#[97]⟩, .int .i64 10, .slice none 0 0, .slice none 0 0, .slice none 0 0, .bool false], .cells b10 [.int .i64 0, .int .i64 0, .int .i64 0, v109] 44, .cells b5 [.int .i64 0, .int .i64 0, .int .i64 0, .slice none 0 0] 44]) hxs135 hS125 (fun _ _ => (.tl (.tl (.tl .hd)))) el42 rfl rfl hm136 (Src.row (α := TUnit) hS125 .hd hc128)) (fun v142 w137 ⟨cs141, hS138, hT139, hc140⟩ => ?_)
  refine RG.vv (FV.fieldAddr (off := 3) (by kernel_rfl) rfl) rfl ?_
  refine RG.now .plain (Acts.store (j := 3) (old := [.int .i64 0, .int .i64 0, .int .i64 0, v109]) (news := [v142]) (new' := [.int .i64 0, .int .i64 0, .int .i64 0, v142]) hS138 (.tl (.tl (.tl (.tl (.tl .hd))))) rfl rfl rfl (St.c1 (α := TUnit) hS138 (.tl (.tl (.tl .hd)))) rfl rfl (ones_cons (St.o1 (α := TUnit) hS138 (.tl (.tl (.tl .hd)))) ones_nil) rfl) (fun w144 hS145 hT146 => ?_)
  refine RG.nil ?_
  refine MX.inBlock ?_
  refine MX.region ?_
  refine RG.vv (FV.add (i := 3) (j := 1) (r := 4) rfl rfl (by decide)) rfl ?_
  refine RG.mv rfl rfl ?_
  refine RG.nil ?_
  refine MX.again1 ?_
  refine MX.sr ?_
  refine RG.vv (FV.lssN (i := 4) (j := 4) rfl rfl) rfl ?_
  refine RG.nil ?_
  refine MX.seq ?_
  refine MX.cond_f rfl ?_
  refine MX.exit rfl ?_
  refine MX.sr ?_
  refine RG.vv (FV.loadN (by kernel_rfl) rfl (hS145.memA (.tl (.tl (.tl (.tl (.tl .hd))))))) rfl ?_
  refine RG.now .plain (Acts.storeAll (news := [.int .i64 0, .int .i64 0, .int .i64 0, v142]) hS145 (.tl (.tl (.tl (.tl (.tl (.tl .hd)))))) rfl rfl rfl rfl rfl rfl (ones_cons rfl (ones_cons rfl (ones_cons rfl (ones_cons (St.o1 (α := TUnit) hS145 (.tl (.tl (.tl .hd)))) ones_nil))))) (fun w147 hS148 hT149 => ?_)
  refine RG.nil ?_
  refine MX.ret rfl ?_
  refine RT.leave (u := .agg #[.int .i64 0, .int .i64 0, .int .i64 0, v142]) hb0 Tryz.func36 rfl (.cons (.many (cs := [.int .i64 0, .int .i64 0, .int .i64 0, v142]) (by kernel_rfl) rfl (hS148.memA (.tl (.tl (.tl (.tl (.tl (.tl .hd)))))))) .nil) rfl ?_
  obtain ⟨hS150, hT151⟩ := St.arrB hS148 (.one (.tl (.tl (.tl .hd))) .done)
  obtain rfl := Option.some.inj h
  have hm152 := Cells.mv hc140 (Tr.trans hT146 (Tr.trans hT149 hT151))
  exact ⟨hS150.ag, fun w9 hw9 => ⟨v142, cs141, rfl, hS150.agree hw9, Cells.keep0 hm152 hw9⟩⟩
def tb31_6 : List (Nat × Nat × Nat) := [(0, 65536, 1), (0, 131072, 32), (3, 262144, 196608), (4, 524288, 262144), (0, 1048576, 2), (0, 2097152, 32), (48, 4194304, 3145728), (64, 8388608, 4194304), (136, 16777216, 8912896)]
def slices_Equal_int_int_l1 (_n : Nat) (a0 : List Int) (a1 : List Int) (J40 : Nat → Option (Bool ⊕ Unit)) : Nat → Option (Bool ⊕ Unit)
  | i32 => (if i32 < a0.length then (a0[i32]?).bind fun x45 => (a1[i32]?).bind fun x55 => (if x45 = x55 then J40 (i32 + 1) else some (.inl false)) else some (.inr ()))
def slices_Equal_int_int_p (n : Nat) (a0 : List Int) (a1 : List Int) : Option Bool :=
  (if a0.length = a1.length then thn (loopF (slices_Equal_int_int_l1 n a0 a1) n 0) (fun _ => some true) else some false)
set_option maxRecDepth 4000 in
set_option maxHeartbeats 4000000 in
theorem slices_Equal_int_int_c (n : Nat) (L : List Nat) (w : World) (_hL : ∀ b ∈ L, b < w.heap.size) (a0 : List Int) {v0_0 : Value} (h0_0 : Rep.R w L [v0_0] a0) (a1 : List Int) {v1_0 : Value} (h1_0 : Rep.R w L [v1_0] a1)  {r : Bool} (h : slices_Equal_int_int_p n a0 a1 = some r) :
    Calls Tryz.prog 31 #[v0_0, v1_0] w (Gives w fun _ u => u = .bool r) := by
  unfold slices_Equal_int_int_p at h
  have hS0 := St.start w
  refine MX.start Tryz.func31 rfl rfl rfl (fun _ cs0 hb0 => ?_)
  refine MX.sr ?_
  refine RG.sg rfl rfl ?_
  refine RG.nil ?_
  refine MX.seq ?_
  refine MX.sr ?_
  refine RG.mv rfl rfl ?_
  have hl1 : a0.length ≤ 281474976710656 := Rep.lenle h0_0
  refine RG.vv (FV.len (xs := a0) Tryz.underlying45 rfl h0_0) rfl ?_
  refine RG.mv rfl rfl ?_
  have hl2 : a1.length ≤ 281474976710656 := Rep.lenle h1_0
  refine RG.vv (FV.len (xs := a1) Tryz.underlying45 rfl h1_0) rfl ?_
  refine RG.vv (FV.neqN (i := a0.length) (j := a1.length) rfl rfl) rfl ?_
  refine RG.nil ?_
  refine MX.ifn rfl h (fun c3 h => ?_) (fun c3 h => ?_)
  ·skip
   refine MX.skip ?_
   refine MX.seq ?_
   refine MX.sr ?_
   refine RG.mv rfl rfl ?_
   refine RG.vv (FV.len (xs := a0) Tryz.underlying45 rfl h0_0) rfl ?_
   refine RG.mv rfl rfl ?_
   refine RG.nil ?_
   refine MX.block ?_
   obtain ⟨o38, ho37, hh39⟩ := thn_in h
   refine MX.loop (α := Nat) (fun i32 => [(0, v0_0), (1, v1_0), (12, .int .i64 ((a0.length : Nat) : Int)), (13, .int .i64 ((i32 : Nat) : Int))]) (fun i32 wx32 => St w wx32 [] ∧ Tr w [] wx32 []) (fun i32 => i32) 0 ho37 ⟨rfl, rfl, rfl, rfl, trivial⟩ ⟨hS0, Tr.refl _ _⟩ ?_
   rintro J40 i32 wx32 hJ41 ⟨hS33, hT34⟩ h
   unfold slices_Equal_int_int_l1 at h
   try dsimp only at h
   refine MX.sr ?_
   refine RG.vv (FV.lssN (i := i32) (j := a0.length) rfl rfl) rfl ?_
   refine RG.nil ?_
   refine MX.seq ?_
   refine MX.ifd rfl h (fun c42 h => ?_) (fun c42 h => ?_)
   ·skip
    refine MX.skip ?_
    refine MX.seq ?_
    refine MX.block ?_
    refine MX.sr ?_
    refine RG.mv rfl rfl ?_
    refine RG.sg rfl rfl ?_
    refine RG.nil ?_
    refine MX.seq ?_
    refine MX.drawT 9 tb31_6 (by kernel_rfl) (by kernel_rfl) (by kernel_rfl) (fun kt43 kp44 => ?_)
    refine RD.vw 0 1 kt43 rfl kp44 (fun _ => FV.move rfl) rfl ?_
    refine RD.vw 1 3 kt43 rfl kp44 (fun _ => FV.move rfl) rfl ?_
    obtain ⟨x45, hx45, h⟩ := bind_in h
    have hm53 := Rep.mv h0_0 hT34
    obtain ⟨A46, c47, he48, hk49, cs50, hr51, hm52⟩ := Rep.nth hm53 hx45
    have he54 : cs50 = [.int .i64 x45] := hr51; subst he54
    refine RD.vw 2 7 kt43 rfl kp44 (fun _ => FV.idxAddr (m := 1) (i := i32) (by kernel_rfl) rfl he48 rfl rfl hk49) rfl ?_
    refine RD.vx 3 15 256 kt43 rfl kp44 (FV.load1 (by kernel_rfl) rfl (hm52 0 _ rfl)) rfl ?_
    refine RD.vw 4 31 kt43 rfl kp44 (fun _ => FV.move rfl) rfl ?_
    refine RD.vw 5 63 kt43 rfl kp44 (fun _ => FV.move rfl) rfl ?_
    obtain ⟨x55, hx55, h⟩ := bind_in h
    have hm63 := Rep.mv h1_0 hT34
    obtain ⟨A56, c57, he58, hk59, cs60, hr61, hm62⟩ := Rep.nth hm63 hx55
    have he64 : cs60 = [.int .i64 x55] := hr61; subst he64
    refine RD.vw 6 127 kt43 rfl kp44 (fun _ => FV.idxAddr (m := 1) (i := i32) (by kernel_rfl) rfl he58 rfl rfl hk59) rfl ?_
    refine RD.vx 7 255 256 kt43 rfl kp44 (FV.load1 (by kernel_rfl) rfl (hm62 0 _ rfl)) rfl ?_
    refine RD.vw 8 511 kt43 rfl kp44 (fun _ => FV.neq (i := x45) (j := x55) rfl rfl) rfl ?_
    refine RD.done (doneD_ok kt43 (by kernel_rfl)) ?_
    refine MX.ifn rfl h (fun c65 h => ?_) (fun c65 h => ?_)
    ·skip
     refine MX.skip ?_
     refine MX.inBlock ?_
     refine MX.region ?_
     refine RG.vv (FV.addN (i := i32) (j := 1) rfl rfl (by omega)) rfl ?_
     refine RG.mv rfl rfl ?_
     refine RG.nil ?_
     exact hJ41 (i32 + 1) _ _ ⟨rfl, rfl, rfl, rfl, trivial⟩ ⟨hS33, hT34⟩ h
    refine MX.sr ?_
    refine RG.sg rfl rfl ?_
    refine RG.nil ?_
    have h := thn_inl h hh39
    refine MX.ret rfl ?_
    refine RT.leave hb0 Tryz.func31 rfl (.cons (.tmp rfl) .nil) rfl ?_
    obtain rfl := Option.some.inj h
    exact ⟨hS33.ag, fun w9 hw9 => rfl⟩
   refine MX.exit rfl ?_
   have h := thn_inr h hh39
   try dsimp only at h
   refine MX.sr ?_
   refine RG.sg rfl rfl ?_
   refine RG.nil ?_
   refine MX.ret rfl ?_
   refine RT.leave hb0 Tryz.func31 rfl (.cons (.tmp rfl) .nil) rfl ?_
   obtain rfl := Option.some.inj h
   exact ⟨hS33.ag, fun w9 hw9 => rfl⟩
  refine MX.sr ?_
  refine RG.sg rfl rfl ?_
  refine RG.nil ?_
  refine MX.ret rfl ?_
  refine RT.leave hb0 Tryz.func31 rfl (.cons (.tmp rfl) .nil) rfl ?_
  obtain rfl := Option.some.inj h
  exact ⟨hS0.ag, fun w9 hw9 => rfl⟩
theorem body31 : bodyB Tryz.prog 31 = true := by kernel_rfl
def wardmotelaw22_is_1_p (n : Nat) (a0 : List Int) (a1 : Int) (a2 : List Int) : Option Bool :=
  (slices_Equal_int_int_p n a0 a2).bind fun y1 => (if y1 = true then some (decide (a1 = 0)) else some false)
set_option maxRecDepth 4000 in
set_option maxHeartbeats 4000000 in
theorem wardmotelaw22_is_1_c (n : Nat) (L : List Nat) (w : World) (hL : ∀ b ∈ L, b < w.heap.size) (a0 : List Int) {v0_0 : Value} (h0_0 : Rep.R w L [v0_0] a0) (a1 : Int) (a2 : List Int) {v2_0 : Value} (h2_0 : Rep.R w L [v2_0] a2) {p2 : Nat} (m2 : ∀ j9 v9, ([v2_0] : List Value)[j9]? = some v9 → w.cell? ((⟨p2, 0, none⟩ : Addr).add j9) = some v9)  {r : Bool} (h : wardmotelaw22_is_1_p n a0 a1 a2 = some r) :
    Calls Tryz.prog 91 #[v0_0, .int .i64 a1, .pointer (some ⟨p2, 0, none⟩)] w (Gives w fun _ u => u = .bool r) := by
  unfold wardmotelaw22_is_1_p at h
  have hS0 := St.start w
  refine MX.start Tryz.func91 rfl rfl rfl (fun _ cs0 hb0 => ?_)
  refine MX.sr ?_
  refine RG.sg rfl rfl ?_
  refine RG.nil ?_
  refine MX.sr ?_
  refine RG.mv rfl rfl ?_
  refine RG.vv (FV.load1 (by kernel_rfl) rfl ((fun j9 v9 h9 => hS0.ag.cell0 (m2 j9 v9 h9)) 0 _ rfl)) rfl ?_
  obtain ⟨y1, hy1, h⟩ := bind_in h
  refine RG.cq (.bool y1) body31 rfl (evs_cons rfl (evs_cons rfl evs_nil)) (fun w9 hw9 => slices_Equal_int_int_c n _ w9 (hS0.hL0 hL hw9) a0 (Rep.keep0 (Rep.dropS hS0 h0_0) hw9) a2 (Rep.keep0 (Rep.dropS hS0 h2_0) hw9) hy1) rfl ?_
  refine RG.mv rfl rfl ?_
  refine RG.ifb (s := 9) rfl h (fun c2 h => ?_) (fun c2 h => ?_)
  ·skip
   refine RG.val' (.yes rfl rfl) (FV.move rfl) rfl ?_
   refine RG.val' (.yes rfl rfl) (FV.eql (i := a1) (j := 0) rfl rfl) rfl ?_
   refine RG.vv (FV.pick_t rfl rfl) rfl ?_
   refine RG.sg rfl rfl ?_
   refine RG.nil ?_
   refine MX.ret rfl ?_
   refine RT.leave hb0 Tryz.func91 rfl (.cons (.tmp rfl) .nil) rfl ?_
   obtain rfl := Option.some.inj h
   exact ⟨hS0.ag, fun w9 hw9 => rfl⟩
  refine RG.off (.no rfl rfl) rfl ?_
  refine RG.off (.no rfl rfl) rfl ?_
  refine RG.vv (FV.pick_f rfl rfl) rfl ?_
  refine RG.sg rfl rfl ?_
  refine RG.nil ?_
  refine MX.ret rfl ?_
  refine RT.leave hb0 Tryz.func91 rfl (.cons (.tmp rfl) .nil) rfl ?_
  obtain rfl := Option.some.inj h
  exact ⟨hS0.ag, fun w9 hw9 => rfl⟩
set_option maxRecDepth 4000 in
set_option maxHeartbeats 4000000 in
theorem wardmotelaw22_is_c (n : Nat) (L : List Nat) (w : World) (_hL : ∀ b ∈ L, b < w.heap.size) (a0 : List Int) {v0_0 : Value} (h0_0 : Rep.R w L [v0_0] a0)  :
    Calls Tryz.prog 37 #[v0_0] w (Gives w fun w' u => ∃ b5 : Nat, u = .func (.func 91) #[] #[.pointer (some ⟨b5, 0, none⟩)] ∧ St w w' [.cells b5 [v0_0] 45]) := by
  have hS0 := St.start w
  refine MX.start Tryz.func37 rfl rfl rfl (fun _ cs0 hb0 => ?_)
  refine MX.sr ?_
  refine RG.new .plain rfl (Does.box (vs := [v0_0]) hS0 rfl (Rep.c1 h0_0)) (fun w2 b5 hS3 hT4 => ?_)
  refine RG.sg rfl rfl ?_
  refine RG.nil ?_
  refine MX.sr ?_
  refine RG.vv (FV.makeFunc (vs := []) (us := [.pointer (some ⟨b5, 0, none⟩)]) evs_nil (evs_cons rfl evs_nil)) rfl ?_
  refine RG.sg rfl rfl ?_
  refine RG.nil ?_
  refine MX.ret rfl ?_
  refine RT.leave (u := .func (.func 91) #[] #[.pointer (some ⟨b5, 0, none⟩)]) hb0 Tryz.func37 rfl (.cons (.tmp rfl) .nil) rfl ?_
  exact ⟨hS3.ag, fun w9 hw9 => ⟨b5, rfl, hS3.agree hw9⟩⟩
def wardmotelaw22_truth_1_p (_n : Nat) (a0 : Bool) (a1 : Int) (a2 : Bool) : Option Bool :=
  (if (a0 == a2) = true then some (decide (a1 = 0)) else some false)
set_option maxRecDepth 4000 in
set_option maxHeartbeats 4000000 in
theorem wardmotelaw22_truth_1_c (n : Nat) (L : List Nat) (w : World) (_hL : ∀ b ∈ L, b < w.heap.size) (a0 : Bool) (a1 : Int) (a2 : Bool) {p2 : Nat} (m2 : ∀ j9 v9, ([.bool a2] : List Value)[j9]? = some v9 → w.cell? ((⟨p2, 0, none⟩ : Addr).add j9) = some v9)  {r : Bool} (h : wardmotelaw22_truth_1_p n a0 a1 a2 = some r) :
    Calls Tryz.prog 92 #[.bool a0, .int .i64 a1, .pointer (some ⟨p2, 0, none⟩)] w (Gives w fun _ u => u = .bool r) := by
  unfold wardmotelaw22_truth_1_p at h
  have hS0 := St.start w
  refine MX.start Tryz.func92 rfl rfl rfl (fun _ cs0 hb0 => ?_)
  refine MX.sr ?_
  refine RG.sg rfl rfl ?_
  refine RG.nil ?_
  refine MX.sr ?_
  refine RG.mv rfl rfl ?_
  refine RG.vv (FV.load1 (by kernel_rfl) rfl ((fun j9 v9 h9 => hS0.ag.cell0 (m2 j9 v9 h9)) 0 _ rfl)) rfl ?_
  refine RG.vv (FV.eqlB (a := a0) (b := a2) Tryz.underlying4 rfl rfl) rfl ?_
  refine RG.mv rfl rfl ?_
  refine RG.ifb (s := 9) rfl h (fun c1 h => ?_) (fun c1 h => ?_)
  ·skip
   refine RG.val' (.yes rfl rfl) (FV.move rfl) rfl ?_
   refine RG.val' (.yes rfl rfl) (FV.eql (i := a1) (j := 0) rfl rfl) rfl ?_
   refine RG.vv (FV.pick_t rfl rfl) rfl ?_
   refine RG.sg rfl rfl ?_
   refine RG.nil ?_
   refine MX.ret rfl ?_
   refine RT.leave hb0 Tryz.func92 rfl (.cons (.tmp rfl) .nil) rfl ?_
   obtain rfl := Option.some.inj h
   exact ⟨hS0.ag, fun w9 hw9 => rfl⟩
  refine RG.off (.no rfl rfl) rfl ?_
  refine RG.off (.no rfl rfl) rfl ?_
  refine RG.vv (FV.pick_f rfl rfl) rfl ?_
  refine RG.sg rfl rfl ?_
  refine RG.nil ?_
  refine MX.ret rfl ?_
  refine RT.leave hb0 Tryz.func92 rfl (.cons (.tmp rfl) .nil) rfl ?_
  obtain rfl := Option.some.inj h
  exact ⟨hS0.ag, fun w9 hw9 => rfl⟩
set_option maxRecDepth 4000 in
set_option maxHeartbeats 4000000 in
theorem wardmotelaw22_truth_c (n : Nat) (L : List Nat) (w : World) (_hL : ∀ b ∈ L, b < w.heap.size) (a0 : Bool)  :
    Calls Tryz.prog 38 #[.bool a0] w (Gives w fun w' u => ∃ b5 : Nat, u = .func (.func 92) #[] #[.pointer (some ⟨b5, 0, none⟩)] ∧ St w w' [.cells b5 [.bool a0] 4]) := by
  have hS0 := St.start w
  refine MX.start Tryz.func38 rfl rfl rfl (fun _ cs0 hb0 => ?_)
  refine MX.sr ?_
  refine RG.new .plain rfl (Does.box (vs := [.bool a0]) hS0 rfl rfl) (fun w2 b5 hS3 hT4 => ?_)
  refine RG.sg rfl rfl ?_
  refine RG.nil ?_
  refine MX.sr ?_
  refine RG.vv (FV.makeFunc (vs := []) (us := [.pointer (some ⟨b5, 0, none⟩)]) evs_nil (evs_cons rfl evs_nil)) rfl ?_
  refine RG.sg rfl rfl ?_
  refine RG.nil ?_
  refine MX.ret rfl ?_
  refine RT.leave (u := .func (.func 92) #[] #[.pointer (some ⟨b5, 0, none⟩)]) hb0 Tryz.func38 rfl (.cons (.tmp rfl) .nil) rfl ?_
  exact ⟨hS3.ag, fun w9 hw9 => ⟨b5, rfl, hS3.agree hw9⟩⟩
end Go.Proofs.YtmhgoecnjleagaaGreatDoor
