/- Functions of the program, and what they give: part 5. -/
import Derived.Test.YtmhgoecnjleagaaGreatDoorPK4
namespace Go.Proofs.YtmhgoecnjleagaaGreatDoor
open Go Go.RowKit

def tb51_2 : List (Nat × Nat × Nat) := [(0, 65536, 4), (1, 131072, 65536), (0, 262144, 4), (4, 524288, 262144), (10, 1048576, 655360), (0, 32, 0), (63, 0, 1048608)]
def tb51_4 : List (Nat × Nat × Nat) := [(0, 4194304, 64), (0, 8388608, 0), (0, 16777216, 8), (6, 33554432, 25165824), (8, 67108864, 33554432), (8, 134217728, 33554432), (56, 268435456, 201326592), (65, 536870912, 272629760), (255, 128, 536870912)]
def tb51_5 : List (Nat × Nat × Nat) := [(0, 1073741824, 64), (0, 2147483648, 0), (0, 4294967296, 8), (6, 8589934592, 6442450944), (8, 17179869184, 8589934592), (8, 34359738368, 8589934592), (56, 68719476736, 51539607552), (65, 137438953472, 69793218560), (255, 256, 137438953472)]
theorem body24 : bodyB Tryz.prog 24 = true := by kernel_rfl
theorem body25 : bodyB Tryz.prog 25 = true := by kernel_rfl
theorem body26 : bodyB Tryz.prog 26 = true := by kernel_rfl
theorem body70 : bodyB Tryz.prog 70 = true := by kernel_rfl
theorem body71 : bodyB Tryz.prog 71 = true := by kernel_rfl
theorem body102 : bodyB Tryz.prog 102 = true := by kernel_rfl
theorem body103 : bodyB Tryz.prog 103 = true := by kernel_rfl
theorem body104 : bodyB Tryz.prog 104 = true := by kernel_rfl
theorem body105 : bodyB Tryz.prog 105 = true := by kernel_rfl
theorem body106 : bodyB Tryz.prog 106 = true := by kernel_rfl
theorem body107 : bodyB Tryz.prog 107 = true := by kernel_rfl
theorem body108 : bodyB Tryz.prog 108 = true := by kernel_rfl
def balance_count_within_p (n : Nat) (a0 : Tcount) (a1 : TShare) : Option (Except Tbroken Tbounds) :=
  (share_Sign_p n a1).bind fun y16 => (balance_must_int_p n y16.1 y16.2).bind fun y17 => exc y17 (fun y19 => (balance_fail_p n (decide (y19 < 0)) (2 : Int)).bind fun y25 => exc y25 (fun y27 => (balance_count_people_p n a0).bind fun y35 => (balance_of_p n y35 a0.fk).bind fun y37 => exc y37 (fun y39 => (balance_of_p n (1 : Int) (1 : Int)).bind fun y64 => exc y64 (fun y66 => (share_Sub_p n y66 a1).bind fun y72 => (balance_must_api_Share_p n y72.1 y72.2).bind fun y73 => exc y73 (fun y75 => (share_Mul_p n y75 y39).bind fun y89 => (balance_must_api_Share_p n y89.1 y89.2).bind fun y90 => exc y90 (fun y92 => (share_Ceil_p n y92).bind fun y98 => (balance_must_api_Wide_p n y98.1 y98.2).bind fun y99 => exc y99 (fun y101 => (wide_Int_p n y101).bind fun y107 => (balance_must_int_p n y107.1 y107.2).bind fun y108 => exc y108 (fun y110 => (balance_of_p n (1 : Int) (1 : Int)).bind fun y118 => exc y118 (fun y120 => (share_Add_p n y120 a1).bind fun y126 => (balance_must_api_Share_p n y126.1 y126.2).bind fun y127 => exc y127 (fun y129 => (share_Mul_p n y129 y39).bind fun y143 => (balance_must_api_Share_p n y143.1 y143.2).bind fun y144 => exc y144 (fun y146 => (share_Floor_p n y146).bind fun y152 => (balance_must_api_Wide_p n y152.1 y152.2).bind fun y153 => exc y153 (fun y155 => (wide_Int_p n y155).bind fun y161 => (balance_must_int_p n y161.1 y161.2).bind fun y162 => exc y162 (fun y164 => some (.ok (⟨y110, y164⟩ : Tbounds))) (fun e163 => some (.error e163))) (fun e154 => some (.error e154))) (fun e145 => some (.error e145))) (fun e128 => some (.error e128))) (fun e119 => some (.error e119))) (fun e109 => some (.error e109))) (fun e100 => some (.error e100))) (fun e91 => some (.error e91))) (fun e74 => some (.error e74))) (fun e65 => some (.error e65))) (fun e38 => some (.error e38))) (fun e26 => some (.error e26))) (fun e18 => some (.error e18))
set_option maxRecDepth 4000 in
set_option maxHeartbeats 4000000 in
theorem balance_count_within_c (n : Nat) (L : List Nat) (w : World) (hL : ∀ b ∈ L, b < w.heap.size) (a0 : Tcount) {v0_3 : Value} (h0_3 : Rep.R w L [v0_3] a0.fRoll.fUnits) (a1 : TShare)  {r : Except Tbroken Tbounds} (h : balance_count_within_p n a0 a1 = some r) :
    Calls Tryz.prog 51 #[.agg #[.int .i64 a0.fRoll.fGroups, .int .i64 a0.fRoll.fParties, .int .i64 a0.fRoll.fLevels, v0_3, .int .i64 a0.fk], .agg ((cs_TShare a1)).toArray] w (PGives w (fun (y : Tbounds) _ u => u = .agg #[.int .i64 y.flow, .int .i64 y.fhigh]) (fun e => .iface 140 (.agg #[.int .i64 e.fErrno])) r) := by
  unfold balance_count_within_p at h
  have hS0 := St.start w
  refine MX.startP Tryz.func51 rfl rfl rfl (fun _ cs0 hb0 hp0 => ?_)
  refine MX.sr ?_
  refine RG.new .plain rfl (Does.box (vs := [.int .i64 a0.fRoll.fGroups, .int .i64 a0.fRoll.fParties, .int .i64 a0.fRoll.fLevels, v0_3, .int .i64 a0.fk]) hS0 rfl rfl) (fun w2 b5 hS3 hT4 => ?_)
  refine RG.new .plain rfl (Does.box (vs := (cs_TShare a1)) hS3 rfl rfl) (fun w7 b10 hS8 hT9 => ?_)
  refine RG.new .plain rfl (Does.alloc (zs := [.int .i64 0, .int .i64 0]) hS8 (zB (by kernel_rfl))) (fun w12 b15 hS13 hT14 => ?_)
  refine RG.nil ?_
  refine MX.sr ?_
  refine RG.vv (FV.loadN (by kernel_rfl) rfl (hS13.memA (.tl .hd))) rfl ?_
  obtain ⟨y16, hy16, h⟩ := bind_in h
  refine RG.cq (.tuple #[.int .i64 y16.1, .int .i64 y16.2]) body103 rfl (evs_cons rfl evs_nil) (fun w9 hw9 => share_Sign_c n _ w9 (hS13.hL0 hL hw9) a1 hy16) rfl ?_
  refine RG.vv (FV.extract rfl rfl) rfl ?_
  refine RG.vv (FV.extract rfl rfl) rfl ?_
  obtain ⟨y17, hy17, h⟩ := bind_in h
  rcases y17 with e18 | y19
  ·skip
   have h := exc_e h
   try dsimp only at h
   refine RG.callE (fst := []) (cap := []) .plain body102 rfl (evs_cons rfl (evs_cons rfl evs_nil)) (fun w9 hw9 => balance_must_int_c n _ w9 (hS13.hL0 hL hw9) y16.1 y16.2 hy17) (fun w20 hag21 => ?_)
   obtain ⟨hS22, hT23⟩ := hS13.agr hag21
   obtain rfl := Option.some.inj h
   exact PN.leave hp0 Tryz.func51 ⟨hS22.ag, rfl⟩
  have h := exc_o h
  try dsimp only at h
  refine RG.cq (.int .i64 y19) body102 rfl (evs_cons rfl (evs_cons rfl evs_nil)) (fun w9 hw9 => Calls.okp (balance_must_int_c n _ w9 (hS13.hL0 hL hw9) y16.1 y16.2 hy17)) rfl ?_
  refine RG.vv (FV.lss (i := y19) (j := 0) rfl rfl) rfl ?_
  obtain ⟨y25, hy25, h⟩ := bind_in h
  rcases y25 with e26 | y27
  ·skip
   have h := exc_e h
   try dsimp only at h
   refine RG.callE (fst := []) (cap := []) .plain body75 rfl (evs_cons rfl (evs_cons rfl evs_nil)) (fun w9 hw9 => balance_fail_c n _ w9 (hS13.hL0 hL hw9) (decide (y19 < 0)) (2 : Int) hy25) (fun w28 hag29 => ?_)
   obtain ⟨hS30, hT31⟩ := hS13.agr hag29
   obtain rfl := Option.some.inj h
   exact PN.leave hp0 Tryz.func51 ⟨hS30.ag, rfl⟩
  have h := exc_o h
  try dsimp only at h
  refine RG.cq (.tuple #[]) body75 rfl (evs_cons rfl (evs_cons rfl evs_nil)) (fun w9 hw9 => Calls.okp (balance_fail_c n _ w9 (hS13.hL0 hL hw9) (decide (y19 < 0)) (2 : Int) hy25)) rfl ?_
  refine RG.nil ?_
  refine MX.seq ?_
  refine MX.drawT 6 tb51_2 (by kernel_rfl) (by kernel_rfl) (by kernel_rfl) (fun kt33 kp34 => ?_)
  refine RD.vx 0 1 82 kt33 rfl kp34 (FV.loadN (by kernel_rfl) rfl (hS13.memA (.tl (.tl .hd)))) rfl ?_
  obtain ⟨y35, hy35, h⟩ := bind_in h
  have hm36 := Rep.mv h0_3 (Tr.trans hT4 (Tr.trans hT9 hT14))
  refine RD.cq 1 3 80 (.int .i64 y35) kt33 rfl kp34 body71 rfl (evs_cons rfl evs_nil) (fun w9 hw9 => balance_count_people_c n _ w9 (hS13.hL0 hL hw9) a0 (Rep.keep0 (Rep.dropS hS13 hm36) hw9) hy35) rfl ?_
  refine RD.vw 2 7 kt33 rfl kp34 (fun _ => FV.fieldAddr (off := 4) (by kernel_rfl) rfl) rfl ?_
  refine RD.vx 3 15 80 kt33 rfl kp34 (FV.load1 (by kernel_rfl) rfl ((hS13.memA (.tl (.tl .hd))) 4 _ rfl)) rfl ?_
  obtain ⟨y37, hy37, h⟩ := bind_in h
  rcases y37 with e38 | y39
  ·skip
   have h := exc_e h
   try dsimp only at h
   refine RD.each [4, 5] (readyD_ok kt33 (by kernel_rfl)) ⟨?_, ?_, trivial⟩
   ·skip
    refine RO.callE (fst := []) (cap := []) rfl .plain body70 rfl (evs_cons rfl (evs_cons rfl evs_nil)) (fun w9 hw9 => balance_of_c n _ w9 (hS13.hL0 hL hw9) y35 a0.fk hy37) (fun w40 hag41 => ?_)
    obtain ⟨hS42, hT43⟩ := hS13.agr hag41
    obtain rfl := Option.some.inj h
    exact PN.leave hp0 Tryz.func51 ⟨hS42.ag, rfl⟩
   ·skip
    refine RO.new (m' := 47) (stepC_ok kt33 (by kernel_rfl)) rfl .plain rfl (Does.alloc (zs := [.int .u64 0, .int .u64 0, .int .u64 0, .int .u64 0, .int .u64 0, .int .u64 0, .int .u64 0, .int .u64 0, .int .u64 0, .int .u64 0, .int .u64 0, .int .u64 0, .int .u64 0, .int .u64 0, .int .u64 0, .int .u64 0]) hS13 (zB (by kernel_rfl))) (fun w45 b48 hS46 hT47 => ?_)
    refine RD.one (i := 4) (readyD_ok kt33 (by kernel_rfl)) (RO.callE (fst := []) (cap := []) rfl .plain body70 rfl (evs_cons rfl (evs_cons rfl evs_nil)) (fun w9 hw9 => balance_of_c n _ w9 (hS46.hL0 hL hw9) y35 a0.fk hy37) (fun w49 hag50 => ?_))
    obtain ⟨hS51, hT52⟩ := hS46.agr hag50
    obtain rfl := Option.some.inj h
    exact PN.leave hp0 Tryz.func51 ⟨hS51.ag, rfl⟩
  have h := exc_o h
  try dsimp only at h
  refine RD.cq 4 31 64 (.agg ((cs_TShare y39)).toArray) kt33 rfl kp34 body70 rfl (evs_cons rfl (evs_cons rfl evs_nil)) (fun w9 hw9 => Calls.okp (balance_of_c n _ w9 (hS13.hL0 hL hw9) y35 a0.fk hy37)) rfl ?_
  refine RD.nu 5 63 kt33 rfl .plain rfl (Does.alloc (zs := [.int .u64 0, .int .u64 0, .int .u64 0, .int .u64 0, .int .u64 0, .int .u64 0, .int .u64 0, .int .u64 0, .int .u64 0, .int .u64 0, .int .u64 0, .int .u64 0, .int .u64 0, .int .u64 0, .int .u64 0, .int .u64 0]) hS13 (zB (by kernel_rfl))) (fun w55 b58 hS56 hT57 => ?_)
  refine RD.nw 6 127 kt33 rfl rfl .plain (Acts.storeAll (news := (cs_TShare y39)) hS56 .hd rfl rfl rfl rfl rfl rfl (onesB rfl)) (fun w59 hS60 hT61 => ?_)
  refine RD.done (doneD_ok kt33 (by kernel_rfl)) ?_
  refine MX.sr ?_
  refine RG.vv (FV.makeFunc (vs := []) (us := [.pointer (some ⟨b58, 0, none⟩)]) evs_nil (evs_cons rfl evs_nil)) rfl ?_
  refine RG.sg rfl rfl ?_
  refine RG.nil ?_
  refine MX.seq ?_
  refine MX.drawT 7 tb51_4 (by kernel_rfl) (by kernel_rfl) (by kernel_rfl) (fun kt62 kp63 => ?_)
  obtain ⟨y64, hy64, h⟩ := bind_in h
  rcases y64 with e65 | y66
  ·skip
   have h := exc_e h
   try dsimp only at h
   refine RD.vw 0 1 kt62 rfl kp63 (fun _ => FV.move rfl) rfl ?_
   refine RD.vx 2 5 504 kt62 rfl kp63 (FV.loadN (by kernel_rfl) rfl (hS60.memA (.tl (.tl .hd)))) rfl ?_
   refine RD.one (i := 1) (readyD_ok kt62 (by kernel_rfl)) (RO.callE (fst := []) (cap := []) rfl .plain body70 rfl (evs_cons rfl (evs_cons rfl evs_nil)) (fun w9 hw9 => balance_of_c n _ w9 (hS60.hL0 hL hw9) (1 : Int) (1 : Int) hy64) (fun w67 hag68 => ?_))
   obtain ⟨hS69, hT70⟩ := hS60.agr hag68
   obtain rfl := Option.some.inj h
   exact PN.leave hp0 Tryz.func51 ⟨hS69.ag, rfl⟩
  have h := exc_o h
  try dsimp only at h
  refine RD.vw 0 1 kt62 rfl kp63 (fun _ => FV.move rfl) rfl ?_
  refine RD.cq 1 3 504 (.agg ((cs_TShare y66)).toArray) kt62 rfl kp63 body70 rfl (evs_cons rfl (evs_cons rfl evs_nil)) (fun w9 hw9 => Calls.okp (balance_of_c n _ w9 (hS60.hL0 hL hw9) (1 : Int) (1 : Int) hy64)) rfl ?_
  refine RD.vx 2 7 504 kt62 rfl kp63 (FV.loadN (by kernel_rfl) rfl (hS60.memA (.tl (.tl .hd)))) rfl ?_
  obtain ⟨y72, hy72, h⟩ := bind_in h
  refine RD.cq 3 15 496 (.tuple #[.agg ((cs_TShare y72.1)).toArray, .int .i64 y72.2]) kt62 rfl kp63 body24 rfl (evs_cons rfl (evs_cons rfl evs_nil)) (fun w9 hw9 => share_Sub_c n _ w9 (hS60.hL0 hL hw9) y66 a1 hy72) rfl ?_
  refine RD.vw 4 31 kt62 rfl kp63 (fun _ => FV.extract rfl rfl) rfl ?_
  refine RD.vw 5 63 kt62 rfl kp63 (fun _ => FV.extract rfl rfl) rfl ?_
  obtain ⟨y73, hy73, h⟩ := bind_in h
  rcases y73 with e74 | y75
  ·skip
   have h := exc_e h
   try dsimp only at h
   refine RD.one (i := 6) (readyD_ok kt62 (by kernel_rfl)) (RO.callE (fst := []) (cap := []) rfl .plain body76 rfl (evs_cons rfl (evs_cons rfl evs_nil)) (fun w9 hw9 => balance_must_api_Share_c n _ w9 (hS60.hL0 hL hw9) y72.1 y72.2 hy73) (fun w76 hag77 => ?_))
   obtain ⟨hS78, hT79⟩ := hS60.agr hag77
   obtain rfl := Option.some.inj h
   exact PN.leave hp0 Tryz.func51 ⟨hS78.ag, rfl⟩
  have h := exc_o h
  try dsimp only at h
  refine RD.cq 6 127 384 (.agg ((cs_TShare y75)).toArray) kt62 rfl kp63 body76 rfl (evs_cons rfl (evs_cons rfl evs_nil)) (fun w9 hw9 => Calls.okp (balance_must_api_Share_c n _ w9 (hS60.hL0 hL hw9) y72.1 y72.2 hy73)) rfl ?_
  refine RD.one (i := 7) (readyD_ok kt62 (by kernel_rfl)) (RO.enterPT (m' := 255) (fst := []) (cap := [.pointer (some ⟨b58, 0, none⟩)]) (vs := [.agg ((cs_TShare y75)).toArray, .func (.func 107) #[] #[]]) (stepC_ok kt62 (by kernel_rfl)) rfl rfl .plain body104 Tryz.func104 rfl rfl rfl rfl (evs_cons rfl (evs_cons rfl evs_nil)) rfl (fun _ cs82 hb81 hp83 => ?_))
  refine MX.sr ?_
  refine RG.new .plain rfl (Does.box (vs := (cs_TShare y75)) hS60 rfl rfl) (fun w85 b88 hS86 hT87 => ?_)
  refine RG.sg rfl rfl ?_
  refine RG.nil ?_
  refine MX.sr ?_
  refine RG.mv rfl rfl ?_
  refine RG.vv (FV.loadN (by kernel_rfl) rfl (hS86.memA .hd)) rfl ?_
  refine RG.vv (FV.loadN (by kernel_rfl) rfl (hS86.memA (.tl .hd))) rfl ?_
  obtain ⟨y89, hy89, h⟩ := bind_in h
  refine RG.cq (.tuple #[.agg ((cs_TShare y89.1)).toArray, .int .i64 y89.2]) body25 rfl (evs_cons rfl (evs_cons rfl evs_nil)) (fun w9 hw9 => share_Mul_c n _ w9 (hS86.hL0 hL hw9) y75 y39 hy89) rfl ?_
  refine RG.vv (FV.extract rfl rfl) rfl ?_
  refine RG.vv (FV.extract rfl rfl) rfl ?_
  obtain ⟨y90, hy90, h⟩ := bind_in h
  rcases y90 with e91 | y92
  ·skip
   have h := exc_e h
   try dsimp only at h
   refine RG.callE (fst := []) (cap := []) .plain body76 rfl (evs_cons rfl (evs_cons rfl evs_nil)) (fun w9 hw9 => balance_must_api_Share_c n _ w9 (hS86.hL0 hL hw9) y89.1 y89.2 hy90) (fun w93 hag94 => ?_)
   obtain ⟨hS95, hT96⟩ := hS86.agr hag94
   refine PN.leave hp83 Tryz.func104 ?_
   obtain rfl := Option.some.inj h
   exact PN.leave hp0 Tryz.func51 ⟨hS95.ag, rfl⟩
  have h := exc_o h
  try dsimp only at h
  refine RG.cq (.agg ((cs_TShare y92)).toArray) body76 rfl (evs_cons rfl (evs_cons rfl evs_nil)) (fun w9 hw9 => Calls.okp (balance_must_api_Share_c n _ w9 (hS86.hL0 hL hw9) y89.1 y89.2 hy90)) rfl ?_
  obtain ⟨y98, hy98, h⟩ := bind_in h
  refine RG.cq (.tuple #[.agg ((cs_A34 y98.1)).toArray, .int .i64 y98.2]) body107 rfl (evs_cons rfl evs_nil) (fun w9 hw9 => share_Ceil_c n _ w9 (hS86.hL0 hL hw9) y92 hy98) rfl ?_
  refine RG.vv (FV.extract rfl rfl) rfl ?_
  refine RG.vv (FV.extract rfl rfl) rfl ?_
  obtain ⟨y99, hy99, h⟩ := bind_in h
  rcases y99 with e100 | y101
  ·skip
   have h := exc_e h
   try dsimp only at h
   refine RG.callE (fst := []) (cap := []) .plain body106 rfl (evs_cons rfl (evs_cons rfl evs_nil)) (fun w9 hw9 => balance_must_api_Wide_c n _ w9 (hS86.hL0 hL hw9) y98.1 y98.2 hy99) (fun w102 hag103 => ?_)
   obtain ⟨hS104, hT105⟩ := hS86.agr hag103
   refine PN.leave hp83 Tryz.func104 ?_
   obtain rfl := Option.some.inj h
   exact PN.leave hp0 Tryz.func51 ⟨hS104.ag, rfl⟩
  have h := exc_o h
  try dsimp only at h
  refine RG.cq (.agg ((cs_A34 y101)).toArray) body106 rfl (evs_cons rfl (evs_cons rfl evs_nil)) (fun w9 hw9 => Calls.okp (balance_must_api_Wide_c n _ w9 (hS86.hL0 hL hw9) y98.1 y98.2 hy99)) rfl ?_
  obtain ⟨y107, hy107, h⟩ := bind_in h
  refine RG.cq (.tuple #[.int .i64 y107.1, .int .i64 y107.2]) body105 rfl (evs_cons rfl evs_nil) (fun w9 hw9 => wide_Int_c n _ w9 (hS86.hL0 hL hw9) y101 hy107) rfl ?_
  refine RG.vv (FV.extract rfl rfl) rfl ?_
  refine RG.vv (FV.extract rfl rfl) rfl ?_
  obtain ⟨y108, hy108, h⟩ := bind_in h
  rcases y108 with e109 | y110
  ·skip
   have h := exc_e h
   try dsimp only at h
   refine RG.callE (fst := []) (cap := []) .plain body102 rfl (evs_cons rfl (evs_cons rfl evs_nil)) (fun w9 hw9 => balance_must_int_c n _ w9 (hS86.hL0 hL hw9) y107.1 y107.2 hy108) (fun w111 hag112 => ?_)
   obtain ⟨hS113, hT114⟩ := hS86.agr hag112
   refine PN.leave hp83 Tryz.func104 ?_
   obtain rfl := Option.some.inj h
   exact PN.leave hp0 Tryz.func51 ⟨hS113.ag, rfl⟩
  have h := exc_o h
  try dsimp only at h
  refine RG.cq (.int .i64 y110) body102 rfl (evs_cons rfl (evs_cons rfl evs_nil)) (fun w9 hw9 => Calls.okp (balance_must_int_c n _ w9 (hS86.hL0 hL hw9) y107.1 y107.2 hy108)) rfl ?_
  refine RG.sg rfl rfl ?_
  refine RG.nil ?_
  refine MX.ret rfl ?_
  refine RT.leave (u := .int .i64 y110) hb81 Tryz.func104 rfl (.cons (.tmp rfl) .nil) rfl ?_
  refine RD.one (i := 8) (readyD_ok kt62 (by kernel_rfl)) (RO.val (m' := 511) (stepC_ok kt62 (by kernel_rfl)) rfl .plain rfl (FV.assign rfl) ?_)
  refine RD.done (doneD_ok kt62 (by kernel_rfl)) ?_
  refine MX.seq ?_
  refine MX.drawT 7 tb51_5 (by kernel_rfl) (by kernel_rfl) (by kernel_rfl) (fun kt116 kp117 => ?_)
  obtain ⟨y118, hy118, h⟩ := bind_in h
  rcases y118 with e119 | y120
  ·skip
   have h := exc_e h
   try dsimp only at h
   refine RD.vw 0 1 kt116 rfl kp117 (fun _ => FV.move rfl) rfl ?_
   refine RD.vx 2 5 504 kt116 rfl kp117 (FV.loadN (by kernel_rfl) rfl (hS86.memA (.tl (.tl (.tl .hd))))) rfl ?_
   refine RD.one (i := 1) (readyD_ok kt116 (by kernel_rfl)) (RO.callE (fst := []) (cap := []) rfl .plain body70 rfl (evs_cons rfl (evs_cons rfl evs_nil)) (fun w9 hw9 => balance_of_c n _ w9 (hS86.hL0 hL hw9) (1 : Int) (1 : Int) hy118) (fun w121 hag122 => ?_))
   obtain ⟨hS123, hT124⟩ := hS86.agr hag122
   obtain rfl := Option.some.inj h
   exact PN.leave hp0 Tryz.func51 ⟨hS123.ag, rfl⟩
  have h := exc_o h
  try dsimp only at h
  refine RD.vw 0 1 kt116 rfl kp117 (fun _ => FV.move rfl) rfl ?_
  refine RD.cq 1 3 504 (.agg ((cs_TShare y120)).toArray) kt116 rfl kp117 body70 rfl (evs_cons rfl (evs_cons rfl evs_nil)) (fun w9 hw9 => Calls.okp (balance_of_c n _ w9 (hS86.hL0 hL hw9) (1 : Int) (1 : Int) hy118)) rfl ?_
  refine RD.vx 2 7 504 kt116 rfl kp117 (FV.loadN (by kernel_rfl) rfl (hS86.memA (.tl (.tl (.tl .hd))))) rfl ?_
  obtain ⟨y126, hy126, h⟩ := bind_in h
  refine RD.cq 3 15 496 (.tuple #[.agg ((cs_TShare y126.1)).toArray, .int .i64 y126.2]) kt116 rfl kp117 body26 rfl (evs_cons rfl (evs_cons rfl evs_nil)) (fun w9 hw9 => share_Add_c n _ w9 (hS86.hL0 hL hw9) y120 a1 hy126) rfl ?_
  refine RD.vw 4 31 kt116 rfl kp117 (fun _ => FV.extract rfl rfl) rfl ?_
  refine RD.vw 5 63 kt116 rfl kp117 (fun _ => FV.extract rfl rfl) rfl ?_
  obtain ⟨y127, hy127, h⟩ := bind_in h
  rcases y127 with e128 | y129
  ·skip
   have h := exc_e h
   try dsimp only at h
   refine RD.one (i := 6) (readyD_ok kt116 (by kernel_rfl)) (RO.callE (fst := []) (cap := []) rfl .plain body76 rfl (evs_cons rfl (evs_cons rfl evs_nil)) (fun w9 hw9 => balance_must_api_Share_c n _ w9 (hS86.hL0 hL hw9) y126.1 y126.2 hy127) (fun w130 hag131 => ?_))
   obtain ⟨hS132, hT133⟩ := hS86.agr hag131
   obtain rfl := Option.some.inj h
   exact PN.leave hp0 Tryz.func51 ⟨hS132.ag, rfl⟩
  have h := exc_o h
  try dsimp only at h
  refine RD.cq 6 127 384 (.agg ((cs_TShare y129)).toArray) kt116 rfl kp117 body76 rfl (evs_cons rfl (evs_cons rfl evs_nil)) (fun w9 hw9 => Calls.okp (balance_must_api_Share_c n _ w9 (hS86.hL0 hL hw9) y126.1 y126.2 hy127)) rfl ?_
  refine RD.one (i := 7) (readyD_ok kt116 (by kernel_rfl)) (RO.enterPT (m' := 255) (fst := []) (cap := [.pointer (some ⟨b58, 0, none⟩)]) (vs := [.agg ((cs_TShare y129)).toArray, .func (.func 108) #[] #[]]) (stepC_ok kt116 (by kernel_rfl)) rfl rfl .plain body104 Tryz.func104 rfl rfl rfl rfl (evs_cons rfl (evs_cons rfl evs_nil)) rfl (fun _ cs136 hb135 hp137 => ?_))
  refine MX.sr ?_
  refine RG.new .plain rfl (Does.box (vs := (cs_TShare y129)) hS86 rfl rfl) (fun w139 b142 hS140 hT141 => ?_)
  refine RG.sg rfl rfl ?_
  refine RG.nil ?_
  refine MX.sr ?_
  refine RG.mv rfl rfl ?_
  refine RG.vv (FV.loadN (by kernel_rfl) rfl (hS140.memA .hd)) rfl ?_
  refine RG.vv (FV.loadN (by kernel_rfl) rfl (hS140.memA (.tl (.tl .hd)))) rfl ?_
  obtain ⟨y143, hy143, h⟩ := bind_in h
  refine RG.cq (.tuple #[.agg ((cs_TShare y143.1)).toArray, .int .i64 y143.2]) body25 rfl (evs_cons rfl (evs_cons rfl evs_nil)) (fun w9 hw9 => share_Mul_c n _ w9 (hS140.hL0 hL hw9) y129 y39 hy143) rfl ?_
  refine RG.vv (FV.extract rfl rfl) rfl ?_
  refine RG.vv (FV.extract rfl rfl) rfl ?_
  obtain ⟨y144, hy144, h⟩ := bind_in h
  rcases y144 with e145 | y146
  ·skip
   have h := exc_e h
   try dsimp only at h
   refine RG.callE (fst := []) (cap := []) .plain body76 rfl (evs_cons rfl (evs_cons rfl evs_nil)) (fun w9 hw9 => balance_must_api_Share_c n _ w9 (hS140.hL0 hL hw9) y143.1 y143.2 hy144) (fun w147 hag148 => ?_)
   obtain ⟨hS149, hT150⟩ := hS140.agr hag148
   refine PN.leave hp137 Tryz.func104 ?_
   obtain rfl := Option.some.inj h
   exact PN.leave hp0 Tryz.func51 ⟨hS149.ag, rfl⟩
  have h := exc_o h
  try dsimp only at h
  refine RG.cq (.agg ((cs_TShare y146)).toArray) body76 rfl (evs_cons rfl (evs_cons rfl evs_nil)) (fun w9 hw9 => Calls.okp (balance_must_api_Share_c n _ w9 (hS140.hL0 hL hw9) y143.1 y143.2 hy144)) rfl ?_
  obtain ⟨y152, hy152, h⟩ := bind_in h
  refine RG.cq (.tuple #[.agg ((cs_A34 y152.1)).toArray, .int .i64 y152.2]) body108 rfl (evs_cons rfl evs_nil) (fun w9 hw9 => share_Floor_c n _ w9 (hS140.hL0 hL hw9) y146 hy152) rfl ?_
  refine RG.vv (FV.extract rfl rfl) rfl ?_
  refine RG.vv (FV.extract rfl rfl) rfl ?_
  obtain ⟨y153, hy153, h⟩ := bind_in h
  rcases y153 with e154 | y155
  ·skip
   have h := exc_e h
   try dsimp only at h
   refine RG.callE (fst := []) (cap := []) .plain body106 rfl (evs_cons rfl (evs_cons rfl evs_nil)) (fun w9 hw9 => balance_must_api_Wide_c n _ w9 (hS140.hL0 hL hw9) y152.1 y152.2 hy153) (fun w156 hag157 => ?_)
   obtain ⟨hS158, hT159⟩ := hS140.agr hag157
   refine PN.leave hp137 Tryz.func104 ?_
   obtain rfl := Option.some.inj h
   exact PN.leave hp0 Tryz.func51 ⟨hS158.ag, rfl⟩
  have h := exc_o h
  try dsimp only at h
  refine RG.cq (.agg ((cs_A34 y155)).toArray) body106 rfl (evs_cons rfl (evs_cons rfl evs_nil)) (fun w9 hw9 => Calls.okp (balance_must_api_Wide_c n _ w9 (hS140.hL0 hL hw9) y152.1 y152.2 hy153)) rfl ?_
  obtain ⟨y161, hy161, h⟩ := bind_in h
  refine RG.cq (.tuple #[.int .i64 y161.1, .int .i64 y161.2]) body105 rfl (evs_cons rfl evs_nil) (fun w9 hw9 => wide_Int_c n _ w9 (hS140.hL0 hL hw9) y155 hy161) rfl ?_
  refine RG.vv (FV.extract rfl rfl) rfl ?_
  refine RG.vv (FV.extract rfl rfl) rfl ?_
  obtain ⟨y162, hy162, h⟩ := bind_in h
  rcases y162 with e163 | y164
  ·skip
   have h := exc_e h
   try dsimp only at h
   refine RG.callE (fst := []) (cap := []) .plain body102 rfl (evs_cons rfl (evs_cons rfl evs_nil)) (fun w9 hw9 => balance_must_int_c n _ w9 (hS140.hL0 hL hw9) y161.1 y161.2 hy162) (fun w165 hag166 => ?_)
   obtain ⟨hS167, hT168⟩ := hS140.agr hag166
   refine PN.leave hp137 Tryz.func104 ?_
   obtain rfl := Option.some.inj h
   exact PN.leave hp0 Tryz.func51 ⟨hS167.ag, rfl⟩
  have h := exc_o h
  try dsimp only at h
  refine RG.cq (.int .i64 y164) body102 rfl (evs_cons rfl (evs_cons rfl evs_nil)) (fun w9 hw9 => Calls.okp (balance_must_int_c n _ w9 (hS140.hL0 hL hw9) y161.1 y161.2 hy162)) rfl ?_
  refine RG.sg rfl rfl ?_
  refine RG.nil ?_
  refine MX.ret rfl ?_
  refine RT.leave (u := .int .i64 y164) hb135 Tryz.func104 rfl (.cons (.tmp rfl) .nil) rfl ?_
  refine RD.one (i := 8) (readyD_ok kt116 (by kernel_rfl)) (RO.val (m' := 511) (stepC_ok kt116 (by kernel_rfl)) rfl .plain rfl (FV.assign rfl) ?_)
  refine RD.done (doneD_ok kt116 (by kernel_rfl)) ?_
  refine MX.sr ?_
  refine RG.mv rfl rfl ?_
  refine RG.mv rfl rfl ?_
  refine RG.vv (FV.buildV (vs := [.int .i64 y110, .int .i64 y164]) (u := .agg #[.int .i64 y110, .int .i64 y164]) (evs_cons rfl (evs_cons rfl evs_nil)) (fun w9 => by kernel_rfl)) rfl ?_
  refine RG.now .plain (Acts.storeAll (news := [.int .i64 y110, .int .i64 y164]) hS140 (.tl (.tl (.tl .hd))) rfl rfl rfl rfl rfl rfl (onesB rfl)) (fun w170 hS171 hT172 => ?_)
  refine RG.nil ?_
  refine MX.ret rfl ?_
  refine RT.leave hb0 Tryz.func51 rfl (.cons (.many (cs := [.int .i64 y110, .int .i64 y164]) (by kernel_rfl) rfl (hS171.memA (.tl (.tl (.tl .hd))))) .nil) rfl ?_
  obtain rfl := Option.some.inj h
  exact ⟨hS171.ag, fun w9 hw9 => okOf_in rfl⟩
def tb49_1 : List (Nat × Nat × Nat) := [(0, 16, 1), (0, 32, 2), (3, 64, 48), (0, 128, 4), (12, 256, 192), (31, 0, 264)]
theorem body50 : bodyB Tryz.prog 50 = true := by kernel_rfl
theorem body51 : bodyB Tryz.prog 51 = true := by kernel_rfl
def balance_Bounds_1_p (n : Nat) (a0 : TRoll) (a1 : Int) (a2 : TShare) : Option (Except Tbroken Tbounds) :=
  (balance_counted_p n a0 a1).bind fun y8 => exc y8 (fun y10 => (balance_count_within_p n y10 a2).bind fun y25 => exc y25 (fun y27 => some (.ok y27)) (fun e26 => some (.error e26))) (fun e9 => some (.error e9))
set_option maxRecDepth 4000 in
set_option maxHeartbeats 4000000 in
theorem balance_Bounds_1_c (n : Nat) (L : List Nat) (w : World) (hL : ∀ b ∈ L, b < w.heap.size) (a0 : TRoll) {v0_3 : Value} (h0_3 : Rep.R w L [v0_3] a0.fUnits) {p0 : Nat} (m0 : ∀ j9 v9, ([.int .i64 a0.fGroups, .int .i64 a0.fParties, .int .i64 a0.fLevels, v0_3] : List Value)[j9]? = some v9 → w.cell? ((⟨p0, 0, none⟩ : Addr).add j9) = some v9) (a1 : Int) {p1 : Nat} (m1 : ∀ j9 v9, ([.int .i64 a1] : List Value)[j9]? = some v9 → w.cell? ((⟨p1, 0, none⟩ : Addr).add j9) = some v9) (a2 : TShare) {p2 : Nat} (m2 : ∀ j9 v9, ((cs_TShare a2) : List Value)[j9]? = some v9 → w.cell? ((⟨p2, 0, none⟩ : Addr).add j9) = some v9)  {r : Except Tbroken Tbounds} (h : balance_Bounds_1_p n a0 a1 a2 = some r) :
    Calls Tryz.prog 49 #[.pointer (some ⟨p0, 0, none⟩), .pointer (some ⟨p1, 0, none⟩), .pointer (some ⟨p2, 0, none⟩)] w (PGives w (fun (y : Tbounds) _ u => u = .agg #[.int .i64 y.flow, .int .i64 y.fhigh]) (fun e => .iface 140 (.agg #[.int .i64 e.fErrno])) r) := by
  unfold balance_Bounds_1_p at h
  have hS0 := St.start w
  refine MX.startP Tryz.func49 rfl rfl rfl (fun _ cs0 hb0 hp0 => ?_)
  refine MX.sr ?_
  refine RG.new .plain rfl (Does.alloc (zs := [.int .i64 0, .int .i64 0]) hS0 (zB (by kernel_rfl))) (fun w2 b5 hS3 hT4 => ?_)
  refine RG.nil ?_
  refine MX.seq ?_
  refine MX.drawT 5 tb49_1 (by kernel_rfl) (by kernel_rfl) (by kernel_rfl) (fun kt6 kp7 => ?_)
  refine RD.vx 0 1 52 kt6 rfl kp7 (FV.loadN (by kernel_rfl) rfl (fun j9 v9 h9 => hS3.ag.cell0 (m0 j9 v9 h9))) rfl ?_
  refine RD.vx 1 3 52 kt6 rfl kp7 (FV.load1 (by kernel_rfl) rfl ((fun j9 v9 h9 => hS3.ag.cell0 (m1 j9 v9 h9)) 0 _ rfl)) rfl ?_
  obtain ⟨y8, hy8, h⟩ := bind_in h
  rcases y8 with e9 | y10
  ·skip
   have h := exc_e h
   try dsimp only at h
   refine RD.vx 3 11 48 kt6 rfl kp7 (FV.loadN (by kernel_rfl) rfl (fun j9 v9 h9 => hS3.ag.cell0 (m2 j9 v9 h9))) rfl ?_
   have hm11 := Rep.mv h0_3 hT4
   refine RD.one (i := 2) (readyD_ok kt6 (by kernel_rfl)) (RO.callE (fst := []) (cap := []) rfl .plain body50 rfl (evs_cons rfl (evs_cons rfl evs_nil)) (fun w9 hw9 => balance_counted_c n _ w9 (hS3.hL hL hw9) a0 (Rep.keep0 hm11 hw9) a1 hy8) (fun w12 hag13 => ?_))
   obtain ⟨hS14, hT15⟩ := hS3.agr hag13
   obtain rfl := Option.some.inj h
   exact PN.leave hp0 Tryz.func49 ⟨hS14.ag, rfl⟩
  have h := exc_o h
  try dsimp only at h
  refine RD.vx 3 11 48 kt6 rfl kp7 (FV.loadN (by kernel_rfl) rfl (fun j9 v9 h9 => hS3.ag.cell0 (m2 j9 v9 h9))) rfl ?_
  have hm17 := Rep.mv h0_3 hT4
  refine RD.cl 2 15 kt6 rfl .plain body50 rfl (evs_cons rfl (evs_cons rfl evs_nil)) (fun w9 hw9 => Calls.okp (balance_counted_c n _ w9 (hS3.hL hL hw9) a0 (Rep.keep0 hm17 hw9) a1 hy8)) rfl (fun w18 vu19 hag20 ⟨v23, hu_, hr24⟩ => ?_)
  subst hu_
  obtain ⟨hS21, hT22⟩ := hS3.agr hag20
  obtain ⟨y25, hy25, h⟩ := bind_in h
  rcases y25 with e26 | y27
  ·skip
   have h := exc_e h
   try dsimp only at h
   refine RD.one (i := 4) (readyD_ok kt6 (by kernel_rfl)) (RO.callE (fst := []) (cap := []) rfl .plain body51 rfl (evs_cons rfl (evs_cons rfl evs_nil)) (fun w9 hw9 => balance_count_within_c n _ w9 (hS21.hL0 hL hw9) y10 (Rep.keep0 (Rep.dropS hS21 hr24) hw9) a2 hy25) (fun w28 hag29 => ?_))
   obtain ⟨hS30, hT31⟩ := hS21.agr hag29
   obtain rfl := Option.some.inj h
   exact PN.leave hp0 Tryz.func49 ⟨hS30.ag, rfl⟩
  have h := exc_o h
  try dsimp only at h
  refine RD.cq 4 31 32 (.agg #[.int .i64 y27.flow, .int .i64 y27.fhigh]) kt6 rfl kp7 body51 rfl (evs_cons rfl (evs_cons rfl evs_nil)) (fun w9 hw9 => Calls.okp (balance_count_within_c n _ w9 (hS21.hL0 hL hw9) y10 (Rep.keep0 (Rep.dropS hS21 hr24) hw9) a2 hy25)) rfl ?_
  refine RD.nw 5 63 kt6 rfl rfl .plain (Acts.storeAll (news := [.int .i64 y27.flow, .int .i64 y27.fhigh]) hS21 .hd rfl rfl rfl rfl rfl rfl (onesB rfl)) (fun w33 hS34 hT35 => ?_)
  refine RD.done (doneD_ok kt6 (by kernel_rfl)) ?_
  refine MX.ret rfl ?_
  refine RT.leave hb0 Tryz.func49 rfl (.cons (.many (cs := [.int .i64 y27.flow, .int .i64 y27.fhigh]) (by kernel_rfl) rfl (hS34.memA .hd)) .nil) rfl ?_
  obtain rfl := Option.some.inj h
  exact ⟨hS34.ag, fun w9 hw9 => okOf_in rfl⟩
def tb99_6 : List (Nat × Nat × Nat) := [(0, 131072, 32), (0, 262144, 8), (2, 524288, 262144), (1, 0, 131073), (15, 0, 524290)]
def tb13_2 : List (Nat × Nat × Nat) := [(0, 32768, 512), (1, 65536, 32768), (0, 131072, 512), (4, 262144, 131072), (0, 524288, 256), (3, 64, 65536), (47, 128, 262144), (127, 256, 524288)]
theorem body48 : bodyB Tryz.prog 48 = true := by kernel_rfl
theorem body49 : bodyB Tryz.prog 49 = true := by kernel_rfl
theorem body99 : bodyB Tryz.prog 99 = true := by kernel_rfl
def balance_Bounds_p (n : Nat) (a0 : TRoll) (a1 : Int) (a2 : TShare) : Option (Int × Int × Int) :=
  (balance_Bounds_1_p n a0 a1 a2).bind fun y29 => exc y29 (fun y31 => some (y31.flow, y31.fhigh, (0 : Int))) (fun e30 => some ((0 : Int), (0 : Int), e30.fErrno))
set_option maxRecDepth 4000 in
set_option maxHeartbeats 4000000 in
theorem balance_Bounds_c (n : Nat) (L : List Nat) (w : World) (hL : ∀ b ∈ L, b < w.heap.size) (a0 : TRoll) {v0_3 : Value} (h0_3 : Rep.R w L [v0_3] a0.fUnits) (a1 : Int) (a2 : TShare)  {r : Int × Int × Int} (h : balance_Bounds_p n a0 a1 a2 = some r) :
    Calls Tryz.prog 13 #[.agg #[.int .i64 a0.fGroups, .int .i64 a0.fParties, .int .i64 a0.fLevels, v0_3], .int .i64 a1, .agg ((cs_TShare a2)).toArray] w (Gives w fun _ u => u = .tuple #[.int .i64 r.1, .int .i64 r.2.1, .int .i64 r.2.2]) := by
  unfold balance_Bounds_p at h
  have hS0 := St.start w
  refine MX.start Tryz.func13 rfl rfl rfl (fun _ cs0 hb0 => ?_)
  refine MX.sr ?_
  refine RG.new .plain rfl (Does.box (vs := [.int .i64 a0.fGroups, .int .i64 a0.fParties, .int .i64 a0.fLevels, v0_3]) hS0 rfl rfl) (fun w2 b5 hS3 hT4 => ?_)
  refine RG.new .plain rfl (Does.box (vs := [.int .i64 a1]) hS3 rfl rfl) (fun w7 b10 hS8 hT9 => ?_)
  refine RG.new .plain rfl (Does.box (vs := (cs_TShare a2)) hS8 rfl rfl) (fun w12 b15 hS13 hT14 => ?_)
  refine RG.sg rfl rfl ?_
  refine RG.sg rfl rfl ?_
  refine RG.sg rfl rfl ?_
  refine RG.nil ?_
  refine MX.sr ?_
  refine RG.vv (FV.makeFunc (vs := []) (us := [.pointer (some ⟨b5, 0, none⟩), .pointer (some ⟨b10, 0, none⟩), .pointer (some ⟨b15, 0, none⟩)]) evs_nil (evs_cons rfl (evs_cons rfl (evs_cons rfl evs_nil)))) rfl ?_
  refine RG.enterP (fst := []) (cap := []) (vs := [.func (.func 49) #[] #[.pointer (some ⟨b5, 0, none⟩), .pointer (some ⟨b10, 0, none⟩), .pointer (some ⟨b15, 0, none⟩)]]) .plain body48 Tryz.func48 rfl rfl rfl rfl (evs_cons rfl evs_nil) rfl (fun cs17 hb16 hp18 => ?_)
  refine MX.sr ?_
  refine RG.new .plain rfl (Does.alloc (zs := [.int .i64 0, .int .i64 0]) hS13 (zB (by kernel_rfl))) (fun w20 b23 hS21 hT22 => ?_)
  refine RG.new .plain rfl (Does.alloc (zs := [.int .i64 0]) hS21 (zB (by kernel_rfl))) (fun w25 b28 hS26 hT27 => ?_)
  refine RG.nil ?_
  refine MX.sr ?_
  refine RG.vv (FV.makeFunc (vs := []) (us := [.pointer (some ⟨b23, 0, none⟩), .pointer (some ⟨b28, 0, none⟩)]) evs_nil (evs_cons rfl (evs_cons rfl evs_nil))) rfl ?_
  refine RG.defer (fst := []) (cap := [.pointer (some ⟨b23, 0, none⟩), .pointer (some ⟨b28, 0, none⟩)]) (vs := []) rfl .plain rfl evs_nil ?_
  refine RG.nil ?_
  refine MX.sr ?_
  refine RG.mv rfl rfl ?_
  obtain ⟨y29, hy29, h⟩ := bind_in h
  rcases y29 with e30 | y31
  ·skip
   have h := exc_e h
   try dsimp only at h
   have hm32 := Rep.mv h0_3 (Tr.trans hT4 (Tr.trans hT9 (Tr.trans hT14 (Tr.trans hT22 hT27))))
   refine RG.callE (fst := []) (cap := [.pointer (some ⟨b5, 0, none⟩), .pointer (some ⟨b10, 0, none⟩), .pointer (some ⟨b15, 0, none⟩)]) .plain body49 rfl evs_nil (fun w9 hw9 => balance_Bounds_1_c n _ w9 (hS26.hL0 hL hw9) a0 (Rep.keep0 (Rep.dropS hS26 hm32) hw9) (fun j9 v9 h9 => hw9.cell0 ((hS26.memA (.tl (.tl (.tl (.tl .hd))))) j9 v9 h9)) a1 (fun j9 v9 h9 => hw9.cell0 ((hS26.memA (.tl (.tl (.tl .hd)))) j9 v9 h9)) a2 (fun j9 v9 h9 => hw9.cell0 ((hS26.memA (.tl (.tl .hd))) j9 v9 h9)) hy29) (fun w33 hag34 => ?_)
   obtain ⟨hS35, hT36⟩ := hS26.agr hag34
   refine PN.callD (vs := []) (cap := [.pointer (some ⟨b23, 0, none⟩), .pointer (some ⟨b28, 0, none⟩)]) body99 Tryz.func99 rfl rfl rfl (fun c37 hc38 hk39 => ?_)
   refine MX.sr ?_
   refine RG.recover1 .plain hc38 rfl ?_
   refine RG.sg rfl rfl ?_
   refine RG.nil ?_
   refine MX.sr ?_
   refine RG.mv rfl rfl ?_
   refine RG.vv (FV.neqI Tryz.underlying20 rfl rfl) rfl ?_
   refine RG.nil ?_
   refine MX.cond_t rfl ?_
   refine MX.sr ?_
   refine RG.mv rfl rfl ?_
   refine RG.vv (FV.assertT (by kernel_rfl) rfl) rfl ?_
   refine RG.mv rfl rfl ?_
   refine RG.vv (FV.extract rfl rfl) rfl ?_
   refine RG.vv (FV.extract rfl rfl) rfl ?_
   refine RG.new .plain rfl (Does.alloc (zs := [.int .i64 0]) hS35 (zB (by kernel_rfl))) (fun w41 b44 hS42 hT43 => ?_)
   refine RG.now .plain (Acts.storeAll (news := [.int .i64 e30.fErrno]) hS42 .hd rfl rfl rfl rfl rfl rfl (ones_cons rfl ones_nil)) (fun w45 hS46 hT47 => ?_)
   refine RG.sg rfl rfl ?_
   refine RG.nil ?_
   refine MX.seq ?_
   refine MX.sr ?_
   refine RG.mv rfl rfl ?_
   refine RG.vv (FV.not rfl) rfl ?_
   refine RG.nil ?_
   refine MX.cond_f rfl ?_
   refine MX.skip ?_
   refine MX.sr ?_
   refine RG.new .plain rfl (Does.alloc (zs := [.int .i64 0, .int .i64 0]) hS46 (zB (by kernel_rfl))) (fun w49 b52 hS50 hT51 => ?_)
   refine RG.nil ?_
   refine MX.drawT 3 tb99_6 (by kernel_rfl) (by kernel_rfl) (by kernel_rfl) (fun kt53 kp54 => ?_)
   refine RD.vx 0 1 24 kt53 rfl kp54 (FV.loadN (by kernel_rfl) rfl (hS50.memA .hd)) rfl ?_
   refine RD.vw 1 3 kt53 rfl kp54 (fun _ => FV.fieldAddr (off := 0) (by kernel_rfl) rfl) rfl ?_
   refine RD.meet (α := Unit) (fun () => [(1, .pointer (some ⟨b28, 0, none⟩)), (19, .int .i64 e30.fErrno)]) (fun () wx1257 => St w wx1257 [.cells b28 [.int .i64 0] 51, .cells b23 [.int .i64 0, .int .i64 0] 93, .cells b15 (cs_TShare a2) 37, .cells b10 [.int .i64 a1] 3, .cells b5 [.int .i64 a0.fGroups, .int .i64 a0.fParties, .int .i64 a0.fLevels, v0_3] 44] ∧ Tr w49 [.cells b52 [.int .i64 0, .int .i64 0] 93, .cells b44 [.int .i64 e30.fErrno] 140, .cells b28 [.int .i64 0] 51, .cells b23 [.int .i64 0, .int .i64 0] 93, .cells b15 (cs_TShare a2) 37, .cells b10 [.int .i64 a1] 3, .cells b5 [.int .i64 a0.fGroups, .int .i64 a0.fParties, .int .i64 a0.fLevels, v0_3] 44] wx1257 [.cells b28 [.int .i64 0] 51, .cells b23 [.int .i64 0, .int .i64 0] 93, .cells b15 (cs_TShare a2) 37, .cells b10 [.int .i64 a1] 3, .cells b5 [.int .i64 a0.fGroups, .int .i64 a0.fParties, .int .i64 a0.fLevels, v0_3] 44]) 1 15 ?_ ?_
   ·skip
    rintro ⟨⟩ wx1257 ⟨hS1258, hT1259⟩
    try dsimp only
    refine RD.nw 4 31 kt53 rfl rfl .plain (Acts.storeAll (news := [.int .i64 e30.fErrno]) hS1258 .hd rfl rfl rfl rfl rfl rfl (ones_cons rfl ones_nil)) (fun w1261 hS1262 hT1263 => ?_)
    refine RD.done (doneD_ok kt53 (by kernel_rfl)) ?_
    refine MX.fin rfl ?_
    refine RT.leaveD1 hk39 Tryz.func99 rfl .nil ?_
    refine RT.leave (u := .tuple #[.agg #[.int .i64 0, .int .i64 0], .int .i64 e30.fErrno]) hb16 Tryz.func48 rfl (.cons (.many (cs := [.int .i64 0, .int .i64 0]) (by kernel_rfl) rfl (hS1262.memA (.tl .hd))) (.cons (.one (by kernel_rfl) rfl ((hS1262.memA .hd) 0 _ rfl)) .nil)) rfl ?_
    refine RG.mv rfl rfl ?_
    refine RG.vv (FV.extract rfl rfl) rfl ?_
    refine RG.vv (FV.extract rfl rfl) rfl ?_
    refine RG.new .plain rfl (Does.alloc (zs := [.int .i64 0, .int .i64 0]) hS1262 (zB (by kernel_rfl))) (fun w1265 b1268 hS1266 hT1267 => ?_)
    refine RG.now .plain (Acts.storeAll (news := [.int .i64 0, .int .i64 0]) hS1266 .hd rfl rfl rfl rfl rfl rfl (onesB rfl)) (fun w1269 hS1270 hT1271 => ?_)
    refine RG.sg rfl rfl ?_
    refine RG.nil ?_
    refine MX.seq ?_
    refine MX.drawT 8 tb13_2 (by kernel_rfl) (by kernel_rfl) (by kernel_rfl) (fun kt1272 kp1273 => ?_)
    refine RD.vw 0 1 kt1272 rfl kp1273 (fun _ => FV.fieldAddr (off := 0) (by kernel_rfl) rfl) rfl ?_
    refine RD.vx 1 3 224 kt1272 rfl kp1273 (FV.load1 (by kernel_rfl) rfl ((hS1270.memA .hd) 0 _ rfl)) rfl ?_
    refine RD.vw 2 7 kt1272 rfl kp1273 (fun _ => FV.fieldAddr (off := 1) (by kernel_rfl) rfl) rfl ?_
    refine RD.vx 3 15 192 kt1272 rfl kp1273 (FV.load1 (by kernel_rfl) rfl ((hS1270.memA .hd) 1 _ rfl)) rfl ?_
    refine RD.vw 4 31 kt1272 rfl kp1273 (fun _ => FV.move rfl) rfl ?_
    refine RD.vw 5 63 kt1272 rfl kp1273 (fun _ => FV.assign rfl) rfl ?_
    refine RD.vw 6 127 kt1272 rfl kp1273 (fun _ => FV.assign rfl) rfl ?_
    refine RD.vw 7 255 kt1272 rfl kp1273 (fun _ => FV.assign rfl) rfl ?_
    refine RD.done (doneD_ok kt1272 (by kernel_rfl)) ?_
    refine MX.ret rfl ?_
    refine RT.leave hb0 Tryz.func13 rfl (.cons (.tmp rfl) (.cons (.tmp rfl) (.cons (.tmp rfl) .nil))) rfl ?_
    obtain rfl := Option.some.inj h
    exact ⟨hS1270.ag, fun w9 hw9 => rfl⟩
   ·skip
    intro hJ1274
    refine RD.each [2, 3] (readyD_ok kt53 (by kernel_rfl)) ⟨?_, ?_, trivial⟩
    ·skip
     refine RO.val (m' := 7) (stepC_ok kt53 (by kernel_rfl)) rfl .plain rfl (FV.load1 (by kernel_rfl) rfl ((hS50.memA (.tl .hd)) 0 _ rfl)) ?_
     refine RD.nw 3 15 kt53 rfl rfl .plain (Acts.storeAll (news := [.int .i64 0, .int .i64 0]) hS50 (.tl (.tl (.tl .hd))) rfl rfl rfl rfl rfl rfl (onesB rfl)) (fun w655 hS656 hT657 => ?_)
     obtain ⟨hS1275, hT1276⟩ := St.arrB hS656 (.one (.tl (.tl .hd)) (.one (.tl (.tl .hd)) (.one (.tl (.tl .hd)) (.one (.tl (.tl .hd)) (.one (.tl (.tl .hd)) .done)))))
     exact hJ1274 () _ _ ⟨rfl, rfl, trivial⟩ ⟨hS1275, (Tr.trans hT657 hT1276)⟩
    ·skip
     refine RO.now (m' := 11) (stepC_ok kt53 (by kernel_rfl)) rfl rfl .plain (Acts.storeAll (news := [.int .i64 0, .int .i64 0]) hS50 (.tl (.tl (.tl .hd))) rfl rfl rfl rfl rfl rfl (onesB rfl)) (fun w655 hS656 hT657 => ?_)
     refine RD.vx 2 15 16 kt53 rfl kp54 (FV.load1 (by kernel_rfl) rfl ((hS656.memA (.tl .hd)) 0 _ rfl)) rfl ?_
     obtain ⟨hS1277, hT1278⟩ := St.arrB hS656 (.one (.tl (.tl .hd)) (.one (.tl (.tl .hd)) (.one (.tl (.tl .hd)) (.one (.tl (.tl .hd)) (.one (.tl (.tl .hd)) .done)))))
     exact hJ1274 () _ _ ⟨rfl, rfl, trivial⟩ ⟨hS1277, (Tr.trans hT657 hT1278)⟩
  have h := exc_o h
  try dsimp only at h
  have hm1280 := Rep.mv h0_3 (Tr.trans hT4 (Tr.trans hT9 (Tr.trans hT14 (Tr.trans hT22 hT27))))
  refine RG.callq' (v := .agg #[.int .i64 y31.flow, .int .i64 y31.fhigh]) (fst := []) (cap := [.pointer (some ⟨b5, 0, none⟩), .pointer (some ⟨b10, 0, none⟩), .pointer (some ⟨b15, 0, none⟩)]) .plain body49 rfl evs_nil (fun w9 hw9 => Calls.okp (balance_Bounds_1_c n _ w9 (hS26.hL0 hL hw9) a0 (Rep.keep0 (Rep.dropS hS26 hm1280) hw9) (fun j9 v9 h9 => hw9.cell0 ((hS26.memA (.tl (.tl (.tl (.tl .hd))))) j9 v9 h9)) a1 (fun j9 v9 h9 => hw9.cell0 ((hS26.memA (.tl (.tl (.tl .hd)))) j9 v9 h9)) a2 (fun j9 v9 h9 => hw9.cell0 ((hS26.memA (.tl (.tl .hd))) j9 v9 h9)) hy29)) rfl ?_
  refine RG.now .plain (Acts.storeAll (news := [.int .i64 y31.flow, .int .i64 y31.fhigh]) hS26 (.tl .hd) rfl rfl rfl rfl rfl rfl (onesB rfl)) (fun w1281 hS1282 hT1283 => ?_)
  refine RG.now .plain (Acts.storeAll (news := [.int .i64 0]) hS1282 .hd rfl rfl rfl rfl rfl rfl (ones_cons rfl ones_nil)) (fun w1284 hS1285 hT1286 => ?_)
  refine RG.nil ?_
  refine MX.ret rfl ?_
  refine RT.callD (vs := []) (cap := [.pointer (some ⟨b23, 0, none⟩), .pointer (some ⟨b28, 0, none⟩)]) body99 Tryz.func99 rfl rfl rfl (fun c1287 hc1288 hk1289 => ?_)
  refine MX.sr ?_
  refine RG.recover0 .plain hc1288 rfl ?_
  refine RG.sg rfl rfl ?_
  refine RG.nil ?_
  refine MX.sr ?_
  refine RG.mv rfl rfl ?_
  refine RG.vv (FV.neqI0 Tryz.underlying20 rfl rfl) rfl ?_
  refine RG.nil ?_
  refine MX.cond_f rfl ?_
  refine MX.skip ?_
  refine MX.fin rfl ?_
  refine RT.leaveD0 hc1288 hk1289 Tryz.func99 rfl .nil ?_
  refine RT.leave (u := .tuple #[.agg #[.int .i64 y31.flow, .int .i64 y31.fhigh], .int .i64 0]) hb16 Tryz.func48 rfl (.cons (.many (cs := [.int .i64 y31.flow, .int .i64 y31.fhigh]) (by kernel_rfl) rfl (hS1285.memA (.tl .hd))) (.cons (.one (by kernel_rfl) rfl ((hS1285.memA .hd) 0 _ rfl)) .nil)) rfl ?_
  refine RG.mv rfl rfl ?_
  refine RG.vv (FV.extract rfl rfl) rfl ?_
  refine RG.vv (FV.extract rfl rfl) rfl ?_
  refine RG.new .plain rfl (Does.alloc (zs := [.int .i64 0, .int .i64 0]) hS1285 (zB (by kernel_rfl))) (fun w1291 b1294 hS1292 hT1293 => ?_)
  refine RG.now .plain (Acts.storeAll (news := [.int .i64 y31.flow, .int .i64 y31.fhigh]) hS1292 .hd rfl rfl rfl rfl rfl rfl (onesB rfl)) (fun w1295 hS1296 hT1297 => ?_)
  refine RG.sg rfl rfl ?_
  refine RG.nil ?_
  refine MX.seq ?_
  refine MX.drawT 8 tb13_2 (by kernel_rfl) (by kernel_rfl) (by kernel_rfl) (fun kt1298 kp1299 => ?_)
  refine RD.vw 0 1 kt1298 rfl kp1299 (fun _ => FV.fieldAddr (off := 0) (by kernel_rfl) rfl) rfl ?_
  refine RD.vx 1 3 224 kt1298 rfl kp1299 (FV.load1 (by kernel_rfl) rfl ((hS1296.memA .hd) 0 _ rfl)) rfl ?_
  refine RD.vw 2 7 kt1298 rfl kp1299 (fun _ => FV.fieldAddr (off := 1) (by kernel_rfl) rfl) rfl ?_
  refine RD.vx 3 15 192 kt1298 rfl kp1299 (FV.load1 (by kernel_rfl) rfl ((hS1296.memA .hd) 1 _ rfl)) rfl ?_
  refine RD.vw 4 31 kt1298 rfl kp1299 (fun _ => FV.move rfl) rfl ?_
  refine RD.vw 5 63 kt1298 rfl kp1299 (fun _ => FV.assign rfl) rfl ?_
  refine RD.vw 6 127 kt1298 rfl kp1299 (fun _ => FV.assign rfl) rfl ?_
  refine RD.vw 7 255 kt1298 rfl kp1299 (fun _ => FV.assign rfl) rfl ?_
  refine RD.done (doneD_ok kt1298 (by kernel_rfl)) ?_
  refine MX.ret rfl ?_
  refine RT.leave hb0 Tryz.func13 rfl (.cons (.tmp rfl) (.cons (.tmp rfl) (.cons (.tmp rfl) .nil))) rfl ?_
  obtain rfl := Option.some.inj h
  exact ⟨hS1296.ag, fun w9 hw9 => rfl⟩
def balance_count_check_l1 (n : Nat) (a1 : List Int) (a0 : Tcount) (J265 : Nat × (List (Int × Bool)) → Option ((Except Tbroken Unit) ⊕ (List (Int × Bool)))) : Nat × (List (Int × Bool)) → Option ((Except Tbroken Unit) ⊕ (List (Int × Bool)))
  | (i256, D257) => (if i256 < a1.length then (a1[i256]?).bind fun x268 => (if x268 < 0 then (balance_fail_p n true (220 : Int)).bind fun y279 => exc y279 (fun y281 => J265 (i256 + 1, mset D257 x268 true)) (fun e280 => some (.inl (.error e280))) else (balance_fail_p n (decide (a0.fk ≤ x268)) (220 : Int)).bind fun y295 => exc y295 (fun y297 => J265 (i256 + 1, mset D257 x268 true)) (fun e296 => some (.inl (.error e296)))) else some (.inr D257))
def balance_count_check_l2 (n : Nat) (a1 : List Int) (a0 : Tcount) (J442 : Nat × (List (Int × Bool)) → Option ((Except Tbroken Unit) ⊕ (List (Int × Bool)))) : Nat × (List (Int × Bool)) → Option ((Except Tbroken Unit) ⊕ (List (Int × Bool)))
  | (i433, D434) => (if i433 < a1.length then (a1[i433]?).bind fun x445 => (if x445 < 0 then (balance_fail_p n true (220 : Int)).bind fun y456 => exc y456 (fun y458 => J442 (i433 + 1, mset D434 x445 true)) (fun e457 => some (.inl (.error e457))) else (balance_fail_p n (decide (a0.fk ≤ x445)) (220 : Int)).bind fun y472 => exc y472 (fun y474 => J442 (i433 + 1, mset D434 x445 true)) (fun e473 => some (.inl (.error e473)))) else some (.inr D434))
def balance_count_check_l3 (n : Nat) (a0 : Tcount) (a1 : List Int) (J137 : Nat × Int → Option ((Except Tbroken Unit) ⊕ Int)) : Nat × Int → Option ((Except Tbroken Unit) ⊕ Int)
  | (i128, z129) => (if i128 < a0.fRoll.fUnits.length then (a0.fRoll.fUnits[i128]?).bind fun x140 => (if x140.fWater = true then ((balance_fail_p n (!(decide (((a1.length : Nat) : Int) = z129))) (220 : Int)).bind fun y174 => exc y174 (fun y176 => thn (loopF (balance_count_check_l1 n a1 a0) n (0, ([] : List (Int × Bool)))) (fun D257 => (balance_fail_p n (!(decide (((D257.length : Nat) : Int) = a0.fk))) (220 : Int)).bind fun y311 => exc y311 (fun y313 => some (.ok ())) (fun e312 => some (.error e312)))) (fun e175 => some (.error e175))).map .inl else (chk (z129 + 1)).bind fun s335 => J137 (i128 + 1, s335)) else some (.inr z129))
def balance_count_check_p (n : Nat) (a0 : Tcount) (a1 : List Int) : Option (Except Tbroken Unit) :=
  thn (loopF (balance_count_check_l3 n a0 a1) n (0, 0)) (fun z129 => (balance_fail_p n (!(decide (((a1.length : Nat) : Int) = z129))) (220 : Int)).bind fun y351 => exc y351 (fun y353 => thn (loopF (balance_count_check_l2 n a1 a0) n (0, ([] : List (Int × Bool)))) (fun D434 => (balance_fail_p n (!(decide (((D434.length : Nat) : Int) = a0.fk))) (220 : Int)).bind fun y488 => exc y488 (fun y490 => some (.ok ())) (fun e489 => some (.error e489)))) (fun e352 => some (.error e352)))
set_option maxRecDepth 4000 in
set_option maxHeartbeats 4000000 in
theorem balance_count_check_c (n : Nat) (L : List Nat) (w : World) (hL : ∀ b ∈ L, b < w.heap.size) (a0 : Tcount) {v0_3 : Value} (h0_3 : Rep.R w L [v0_3] a0.fRoll.fUnits) (a1 : List Int) {v1_0 : Value} (h1_0 : Rep.R w L [v1_0] a1)  {r : Except Tbroken Unit} (h : balance_count_check_p n a0 a1 = some r) :
    Calls Tryz.prog 87 #[.agg #[.int .i64 a0.fRoll.fGroups, .int .i64 a0.fRoll.fParties, .int .i64 a0.fRoll.fLevels, v0_3, .int .i64 a0.fk], v1_0] w (PGives w (fun (y : Unit) _ u => u = .tuple #[]) (fun e => .iface 140 (.agg #[.int .i64 e.fErrno])) r) := by
  unfold balance_count_check_p at h
  have hS0 := St.start w
  refine MX.startP Tryz.func87 rfl rfl rfl (fun _ cs0 hb0 hp0 => ?_)
  refine MX.sr ?_
  refine RG.new .plain rfl (Does.box (vs := [.int .i64 a0.fRoll.fGroups, .int .i64 a0.fRoll.fParties, .int .i64 a0.fRoll.fLevels, v0_3, .int .i64 a0.fk]) hS0 rfl rfl) (fun w2 b5 hS3 hT4 => ?_)
  refine RG.nil ?_
  refine MX.sr ?_
  refine RG.new .plain rfl (Does.alloc (zs := [.int .i64 0]) hS3 (zB (by kernel_rfl))) (fun w7 b10 hS8 hT9 => ?_)
  refine RG.now .plain (Acts.storeAll (news := [.int .i64 0]) hS8 .hd rfl rfl rfl rfl rfl rfl (ones_cons rfl ones_nil)) (fun w11 hS12 hT13 => ?_)
  refine RG.nil ?_
  refine MX.seq ?_
  refine MX.sr ?_
  refine RG.vv (FV.loadN (by kernel_rfl) rfl (hS12.memA (.tl .hd))) rfl ?_
  have hm14 := Rep.mv h0_3 (Tr.trans hT4 (Tr.trans hT9 hT13))
  refine RG.call' (fst := []) (cap := []) .plain body120 rfl (evs_cons rfl evs_nil) (fun w9 hw9 => Calls.gives (balance_count_land_c n _ w9 (hS12.hL hL hw9) a0 (Rep.keep0 hm14 hw9)) fun (w8 : World) (u8 : Value) ⟨b0_, hu_, s_⟩ => (⟨b0_, hu_, s_.from hw9⟩ : ∃ b16 : Nat, u8 = Value.func (.func 161) #[] #[.pointer (some ⟨b16, 0, none⟩)] ∧ St w11 w8 [.cells b16 [.int .i64 a0.fRoll.fGroups, .int .i64 a0.fRoll.fParties, .int .i64 a0.fRoll.fLevels, v0_3, .int .i64 a0.fk] 97])) rfl (fun w17 vu18 hag19 ⟨b16, hu21, s20⟩ => ?_)
  subst hu21
  have hS22 : St w w17 [.cells b16 [.int .i64 a0.fRoll.fGroups, .int .i64 a0.fRoll.fParties, .int .i64 a0.fRoll.fLevels, v0_3, .int .i64 a0.fk] 97, .cells b10 [.int .i64 0] 3, .cells b5 [.int .i64 a0.fRoll.fGroups, .int .i64 a0.fRoll.fParties, .int .i64 a0.fRoll.fLevels, v0_3, .int .i64 a0.fk] 97] := St.merge hS12 s20
  have hT23 : Tr w11 [.cells b10 [.int .i64 0] 3, .cells b5 [.int .i64 a0.fRoll.fGroups, .int .i64 a0.fRoll.fParties, .int .i64 a0.fRoll.fLevels, v0_3, .int .i64 a0.fk] 97] w17 [.cells b16 [.int .i64 a0.fRoll.fGroups, .int .i64 a0.fRoll.fParties, .int .i64 a0.fRoll.fLevels, v0_3, .int .i64 a0.fk] 97, .cells b10 [.int .i64 0] 3, .cells b5 [.int .i64 a0.fRoll.fGroups, .int .i64 a0.fRoll.fParties, .int .i64 a0.fRoll.fLevels, v0_3, .int .i64 a0.fk] 97] := Tr.merge hS12 s20
  refine RG.nil ?_
  refine MX.block ?_
  refine MX.rangeP (lb := [.pointer (some ⟨b16, 0, none⟩)]) rfl hS22 rfl body161 Tryz.func161 rfl rfl rfl (fun w24 lk27 D28 r29 cs32 hS25 hT26 rec30 hb31 hp33 => ?_)
  refine MX.sr ?_
  refine RG.vv (FV.fieldAddr (off := 0) (by kernel_rfl) rfl) rfl ?_
  refine RG.vv (FV.fieldAddr (off := 3) (by kernel_rfl) rfl) rfl ?_
  refine RG.vv (FV.load1 (by kernel_rfl) rfl ((mem_from (hS25.memA (.tl (.tl .hd))) 0) 3 _ rfl)) rfl ?_
  have hm37 := Rep.mv h0_3 (Tr.trans hT4 (Tr.trans hT9 (Tr.trans hT13 (Tr.trans hT23 hT26))))
  have hl36 : a0.fRoll.fUnits.length ≤ 281474976710656 := Rep.lenle hm37
  refine RG.vv (FV.len (xs := a0.fRoll.fUnits) Tryz.underlying42 rfl hm37) rfl ?_
  refine RG.mv rfl rfl ?_
  refine RG.nil ?_
  refine MX.block ?_
  obtain ⟨o135, ho134, hh136⟩ := thn_in h
  refine MX.loop (α := Nat × Int) (fun ⟨i128, z129⟩ => [(0, .func (.yield lk27) #[] #[]), (7, v0_3), (8, .int .i64 ((a0.fRoll.fUnits.length : Nat) : Int)), (9, .int .i64 ((i128 : Nat) : Int))]) (fun ⟨i128, z129⟩ wx129 => St w wx129 [.obj lk27 (lpO r29 .ready none), .obj D28 (.deferred (some [])), .cells b16 [.int .i64 a0.fRoll.fGroups, .int .i64 a0.fRoll.fParties, .int .i64 a0.fRoll.fLevels, v0_3, .int .i64 a0.fk] 97, .cells b10 [.int .i64 z129] 3, .cells b5 [.int .i64 a0.fRoll.fGroups, .int .i64 a0.fRoll.fParties, .int .i64 a0.fRoll.fLevels, v0_3, .int .i64 a0.fk] 97] ∧ Tr w24 [.obj lk27 (lpO r29 .ready none), .obj D28 (.deferred (some [])), .cells b16 [.int .i64 a0.fRoll.fGroups, .int .i64 a0.fRoll.fParties, .int .i64 a0.fRoll.fLevels, v0_3, .int .i64 a0.fk] 97, .cells b10 [.int .i64 0] 3, .cells b5 [.int .i64 a0.fRoll.fGroups, .int .i64 a0.fRoll.fParties, .int .i64 a0.fRoll.fLevels, v0_3, .int .i64 a0.fk] 97] wx129 [.obj lk27 (lpO r29 .ready none), .obj D28 (.deferred (some [])), .cells b16 [.int .i64 a0.fRoll.fGroups, .int .i64 a0.fRoll.fParties, .int .i64 a0.fRoll.fLevels, v0_3, .int .i64 a0.fk] 97, .cells b10 [.int .i64 z129] 3, .cells b5 [.int .i64 a0.fRoll.fGroups, .int .i64 a0.fRoll.fParties, .int .i64 a0.fRoll.fLevels, v0_3, .int .i64 a0.fk] 97]) (fun ⟨i128, z129⟩ => (i128, z129)) (0, 0) ho134 ⟨rfl, rfl, rfl, rfl, trivial⟩ ⟨hS25, Tr.refl _ _⟩ ?_
  rintro J137 ⟨i128, z129⟩ wx129 hJ138 ⟨hS130, hT131⟩ h
  unfold balance_count_check_l3 at h
  try dsimp only at h
  refine MX.sr ?_
  refine RG.vv (FV.lssN (i := i128) (j := a0.fRoll.fUnits.length) rfl rfl) rfl ?_
  refine RG.nil ?_
  refine MX.seq ?_
  refine MX.ifd rfl h (fun c139 h => ?_) (fun c139 h => ?_)
  ·skip
   refine MX.skip ?_
   refine MX.seq ?_
   refine MX.block ?_
   refine MX.sr ?_
   refine RG.mv rfl rfl ?_
   obtain ⟨x140, hx140, h⟩ := bind_in h
   have hm148 := Rep.mv h0_3 (Tr.trans hT4 (Tr.trans hT9 (Tr.trans hT13 (Tr.trans hT23 (Tr.trans hT26 hT131)))))
   obtain ⟨A141, c142, he143, hk144, cs145, hr146, hm147⟩ := Rep.nth hm148 hx140
   obtain ⟨v149, v150, v151, rfl, hr152, hr153, hr154⟩ := op_TUnit hr146
   refine RG.vv (FV.idxAddr (m := 6) (i := i128) (by kernel_rfl) rfl he143 rfl rfl hk144) rfl ?_
   refine RG.vv (FV.loadN (by kernel_rfl) rfl hm147) rfl ?_
   refine RG.new .plain rfl (Does.alloc (zs := [.string ⟨#[]⟩, .int .i64 0, .slice none 0 0, .slice none 0 0, .slice none 0 0, .bool false]) hS130 (zB (by kernel_rfl))) (fun w156 b159 hS157 hT158 => ?_)
   refine RG.sg rfl rfl ?_
   have hm160 := Rep.mv hr152 hT158
   have hm161 := Rep.mv hr153 hT158
   have hm162 := Rep.mv hr154 hT158
   refine RG.now .plain (Acts.storeAll (news := [.string x140.fName, .int .i64 x140.fPeople, v149, v150, v151, .bool x140.fWater]) hS157 .hd rfl rfl rfl rfl rfl rfl (ones_cons rfl (ones_cons rfl (ones_cons (Rep.o1 hm160) (ones_cons (Rep.o1 hm161) (ones_cons (Rep.o1 hm162) (ones_cons rfl ones_nil))))))) (fun w163 hS164 hT165 => ?_)
   refine RG.nil ?_
   refine MX.sr ?_
   refine RG.vv (FV.fieldAddr (off := 5) (by kernel_rfl) rfl) rfl ?_
   refine RG.vv (FV.load1 (by kernel_rfl) rfl ((hS164.memA .hd) 5 _ rfl)) rfl ?_
   refine RG.mv rfl rfl ?_
   refine RG.ifb (s := 16) rfl h (fun c166 h => ?_) (fun c166 h => ?_)
   ·skip
    refine RG.off (.no rfl rfl) rfl ?_
    refine RG.off (.no rfl rfl) rfl ?_
    refine RG.off (.no rfl rfl) rfl ?_
    refine RG.off (.no rfl rfl) rfl ?_
    refine RG.off (.no rfl rfl) rfl ?_
    refine RG.vv (FV.pick_t rfl rfl) rfl ?_
    refine RG.nil ?_
    refine MX.cond_t rfl ?_
    have h := thn_map h hh136
    refine MX.ret rfl ?_
    refine RT.leave (u := .tuple #[]) hb31 Tryz.func161 rfl .nil rfl ?_
    refine MX.endRange0 hS164 (.tl .hd) (by intro h9; cases h9) (fun w167 hS168 hT169 => ?_)
    obtain ⟨hS170, hT171⟩ := St.arrB hS168 (.one .hd (.one (.tl .hd) (.one (.tl .hd) (.one (.tl .hd) (.one (.tl .hd) .done)))))
    refine MX.inBlock ?_
    refine MX.sr ?_
    refine RG.mv rfl rfl ?_
    have hm173 := Rep.mv h1_0 (Tr.trans hT4 (Tr.trans hT9 (Tr.trans hT13 (Tr.trans hT23 (Tr.trans hT26 (Tr.trans hT131 (Tr.trans hT158 (Tr.trans hT165 (Tr.trans hT169 hT171)))))))))
    have hl172 : a1.length ≤ 281474976710656 := Rep.lenle hm173
    refine RG.vv (FV.len (xs := a1) Tryz.underlying46 rfl hm173) rfl ?_
    refine RG.vv (FV.load1 (by kernel_rfl) rfl ((hS170.memA (.tl (.tl (.tl .hd)))) 0 _ rfl)) rfl ?_
    refine RG.vv (FV.neq (i := ((a1.length : Nat) : Int)) (j := z129) rfl rfl) rfl ?_
    obtain ⟨y174, hy174, h⟩ := bind_in h
    rcases y174 with e175 | y176
    ·skip
     have h := exc_e h
     try dsimp only at h
     refine RG.callE (fst := []) (cap := []) .plain body75 rfl (evs_cons rfl (evs_cons rfl evs_nil)) (fun w9 hw9 => balance_fail_c n _ w9 (hS170.hL0 hL hw9) (!(decide (((a1.length : Nat) : Int) = z129))) (220 : Int) hy174) (fun w177 hag178 => ?_)
     obtain ⟨hS179, hT180⟩ := hS170.agr hag178
     refine PN.take hS179 (.tl .hd) (fun w181 hS182 hT183 => ?_)
     obtain ⟨hS184, hT185⟩ := St.arrB hS182 (.one .hd (.one (.tl .hd) (.one (.tl .hd) (.one (.tl .hd) .done))))
     obtain rfl := Option.some.inj h
     exact PN.leave hp0 Tryz.func87 ⟨hS184.ag, rfl⟩
    have h := exc_o h
    try dsimp only at h
    refine RG.cq (.tuple #[]) body75 rfl (evs_cons rfl (evs_cons rfl evs_nil)) (fun w9 hw9 => Calls.okp (balance_fail_c n _ w9 (hS170.hL0 hL hw9) (!(decide (((a1.length : Nat) : Int) = z129))) (220 : Int) hy174)) rfl ?_
    refine RG.nil ?_
    refine MX.sr ?_
    refine RG.new .plain rfl (Does.makeMap (κ := Int) (ν := Bool) hS170) (fun w188 b191 hS189 hT190 => ?_)
    refine RG.sg rfl rfl ?_
    refine RG.nil ?_
    refine MX.seq ?_
    refine MX.sr ?_
    refine RG.mv rfl rfl ?_
    have hm192 := Rep.mv h1_0 (Tr.trans hT4 (Tr.trans hT9 (Tr.trans hT13 (Tr.trans hT23 (Tr.trans hT26 (Tr.trans hT131 (Tr.trans hT158 (Tr.trans hT165 (Tr.trans hT169 (Tr.trans hT171 hT190))))))))))
    refine RG.vv (FV.len (xs := a1) Tryz.underlying46 rfl hm192) rfl ?_
    refine RG.mv rfl rfl ?_
    refine RG.nil ?_
    refine MX.block ?_
    obtain ⟨hS254, hT255⟩ := St.arrB hS189 (.one .hd (.one (.tl .hd) (.one (.tl (.tl (.tl .hd))) .done)))
    obtain ⟨o263, ho262, hh264⟩ := thn_in h
    refine MX.loop (α := Nat × (List (Int × Bool))) (fun ⟨i256, D257⟩ => [(2, .pointer (some ⟨b5, 0, none⟩)), (5, .map (some b191)), (20, v1_0), (21, .int .i64 ((a1.length : Nat) : Int)), (22, .int .i64 ((i256 : Nat) : Int))]) (fun ⟨i256, D257⟩ wx257 => St w wx257 [.obj b191 (mapO (D257 : List (Int × Bool))), .obj D28 (.deferred (some [])), .cells b5 [.int .i64 a0.fRoll.fGroups, .int .i64 a0.fRoll.fParties, .int .i64 a0.fRoll.fLevels, v0_3, .int .i64 a0.fk] 97] ∧ Tr w188 [.obj b191 (mapO ([] : List (Int × Bool))), .obj D28 (.deferred (some [])), .cells b5 [.int .i64 a0.fRoll.fGroups, .int .i64 a0.fRoll.fParties, .int .i64 a0.fRoll.fLevels, v0_3, .int .i64 a0.fk] 97] wx257 [.obj b191 (mapO (D257 : List (Int × Bool))), .obj D28 (.deferred (some [])), .cells b5 [.int .i64 a0.fRoll.fGroups, .int .i64 a0.fRoll.fParties, .int .i64 a0.fRoll.fLevels, v0_3, .int .i64 a0.fk] 97]) (fun ⟨i256, D257⟩ => (i256, D257)) (0, ([] : List (Int × Bool))) ho262 ⟨rfl, rfl, rfl, rfl, rfl, trivial⟩ ⟨hS254, Tr.refl _ _⟩ ?_
    rintro J265 ⟨i256, D257⟩ wx257 hJ266 ⟨hS258, hT259⟩ h
    unfold balance_count_check_l1 at h
    try dsimp only at h
    refine MX.sr ?_
    refine RG.vv (FV.lssN (i := i256) (j := a1.length) rfl rfl) rfl ?_
    refine RG.nil ?_
    refine MX.seq ?_
    refine MX.ifd rfl h (fun c267 h => ?_) (fun c267 h => ?_)
    ·skip
     refine MX.skip ?_
     refine MX.seq ?_
     refine MX.block ?_
     refine MX.sr ?_
     obtain ⟨x268, hx268, h⟩ := bind_in h
     have hm276 := Rep.mv h1_0 (Tr.trans hT4 (Tr.trans hT9 (Tr.trans hT13 (Tr.trans hT23 (Tr.trans hT26 (Tr.trans hT131 (Tr.trans hT158 (Tr.trans hT165 (Tr.trans hT169 (Tr.trans hT171 (Tr.trans hT190 (Tr.trans hT255 hT259))))))))))))
     obtain ⟨A269, c270, he271, hk272, cs273, hr274, hm275⟩ := Rep.nth hm276 hx268
     have he277 : cs273 = [.int .i64 x268] := hr274; subst he277
     refine RG.vv (FV.idxAddr (m := 1) (i := i256) (by kernel_rfl) rfl he271 rfl rfl hk272) rfl ?_
     refine RG.vv (FV.load1 (by kernel_rfl) rfl (hm275 0 _ rfl)) rfl ?_
     refine RG.sg rfl rfl ?_
     refine RG.nil ?_
     refine MX.sr ?_
     refine RG.mv rfl rfl ?_
     refine RG.vv (FV.lss (i := x268) (j := 0) rfl rfl) rfl ?_
     refine RG.mv rfl rfl ?_
     refine RG.ifd (s := 28) rfl h (fun c278 h => ?_) (fun c278 h => ?_)
     ·skip
      refine RG.off (.no rfl rfl) rfl ?_
      refine RG.off (.no rfl rfl) rfl ?_
      refine RG.off (.no rfl rfl) rfl ?_
      refine RG.off (.no rfl rfl) rfl ?_
      refine RG.vv (FV.pick_t rfl rfl) rfl ?_
      obtain ⟨y279, hy279, h⟩ := bind_in h
      rcases y279 with e280 | y281
      ·skip
       have h := exc_e h
       try dsimp only at h
       have h := thn_inl h hh264
       refine RG.callE (fst := []) (cap := []) .plain body75 rfl (evs_cons rfl (evs_cons rfl evs_nil)) (fun w9 hw9 => balance_fail_c n _ w9 (hS258.hL0 hL hw9) true (220 : Int) hy279) (fun w282 hag283 => ?_)
       obtain ⟨hS284, hT285⟩ := hS258.agr hag283
       refine PN.take hS284 (.tl .hd) (fun w286 hS287 hT288 => ?_)
       obtain ⟨hS289, hT290⟩ := St.arrB hS287 (.one .hd (.one (.tl .hd) .done))
       obtain rfl := Option.some.inj h
       exact PN.leave hp0 Tryz.func87 ⟨hS289.ag, rfl⟩
      have h := exc_o h
      try dsimp only at h
      refine RG.cq (.tuple #[]) body75 rfl (evs_cons rfl (evs_cons rfl evs_nil)) (fun w9 hw9 => Calls.okp (balance_fail_c n _ w9 (hS258.hL0 hL hw9) true (220 : Int) hy279)) rfl ?_
      refine RG.nil ?_
      refine MX.region ?_
      refine RG.mv rfl rfl ?_
      refine RG.mv rfl rfl ?_
      refine RG.now .plain (Acts.mapUpdate (kv := x268) (vv := true) hS258 .hd Tryz.underlying168 Tryz.underlying3 rfl rfl rfl rfl) (fun w292 hS293 hT294 => ?_)
      refine RG.nil ?_
      refine MX.inBlock ?_
      refine MX.region ?_
      refine RG.vv (FV.addN (i := i256) (j := 1) rfl rfl (by omega)) rfl ?_
      refine RG.mv rfl rfl ?_
      refine RG.nil ?_
      exact hJ266 (i256 + 1, mset D257 x268 true) _ _ ⟨rfl, rfl, rfl, rfl, rfl, trivial⟩ ⟨hS293, (Tr.trans hT259 hT294)⟩ h
     refine RG.val' (.yes rfl rfl) (FV.move rfl) rfl ?_
     refine RG.val' (.yes rfl rfl) (FV.fieldAddr (off := 4) (by kernel_rfl) rfl) rfl ?_
     refine RG.val' (.yes rfl rfl) (FV.load1 (by kernel_rfl) rfl ((hS258.memA (.tl (.tl .hd))) 4 _ rfl)) rfl ?_
     refine RG.val' (.yes rfl rfl) (FV.geq (i := x268) (j := a0.fk) rfl rfl) rfl ?_
     refine RG.vv (FV.pick_f rfl rfl) rfl ?_
     obtain ⟨y295, hy295, h⟩ := bind_in h
     rcases y295 with e296 | y297
     ·skip
      have h := exc_e h
      try dsimp only at h
      have h := thn_inl h hh264
      refine RG.callE (fst := []) (cap := []) .plain body75 rfl (evs_cons rfl (evs_cons rfl evs_nil)) (fun w9 hw9 => balance_fail_c n _ w9 (hS258.hL0 hL hw9) (decide (a0.fk ≤ x268)) (220 : Int) hy295) (fun w298 hag299 => ?_)
      obtain ⟨hS300, hT301⟩ := hS258.agr hag299
      refine PN.take hS300 (.tl .hd) (fun w302 hS303 hT304 => ?_)
      obtain ⟨hS305, hT306⟩ := St.arrB hS303 (.one .hd (.one (.tl .hd) .done))
      obtain rfl := Option.some.inj h
      exact PN.leave hp0 Tryz.func87 ⟨hS305.ag, rfl⟩
     have h := exc_o h
     try dsimp only at h
     refine RG.cq (.tuple #[]) body75 rfl (evs_cons rfl (evs_cons rfl evs_nil)) (fun w9 hw9 => Calls.okp (balance_fail_c n _ w9 (hS258.hL0 hL hw9) (decide (a0.fk ≤ x268)) (220 : Int) hy295)) rfl ?_
     refine RG.nil ?_
     refine MX.region ?_
     refine RG.mv rfl rfl ?_
     refine RG.mv rfl rfl ?_
     refine RG.now .plain (Acts.mapUpdate (kv := x268) (vv := true) hS258 .hd Tryz.underlying168 Tryz.underlying3 rfl rfl rfl rfl) (fun w308 hS309 hT310 => ?_)
     refine RG.nil ?_
     refine MX.inBlock ?_
     refine MX.region ?_
     refine RG.vv (FV.addN (i := i256) (j := 1) rfl rfl (by omega)) rfl ?_
     refine RG.mv rfl rfl ?_
     refine RG.nil ?_
     exact hJ266 (i256 + 1, mset D257 x268 true) _ _ ⟨rfl, rfl, rfl, rfl, rfl, trivial⟩ ⟨hS309, (Tr.trans hT259 hT310)⟩ h
    refine MX.exit rfl ?_
    have h := thn_inr h hh264
    try dsimp only at h
    refine MX.region ?_
    refine RG.mv rfl rfl ?_
    refine RG.vv (FV.len_map (D := D257) hS258 .hd Tryz.underlying168 rfl) rfl ?_
    refine RG.vv (FV.fieldAddr (off := 4) (by kernel_rfl) rfl) rfl ?_
    refine RG.vv (FV.load1 (by kernel_rfl) rfl ((hS258.memA (.tl (.tl .hd))) 4 _ rfl)) rfl ?_
    refine RG.vv (FV.neq (i := ((D257.length : Nat) : Int)) (j := a0.fk) rfl rfl) rfl ?_
    obtain ⟨y311, hy311, h⟩ := bind_in h
    rcases y311 with e312 | y313
    ·skip
     have h := exc_e h
     try dsimp only at h
     refine RG.callE (fst := []) (cap := []) .plain body75 rfl (evs_cons rfl (evs_cons rfl evs_nil)) (fun w9 hw9 => balance_fail_c n _ w9 (hS258.hL0 hL hw9) (!(decide (((D257.length : Nat) : Int) = a0.fk))) (220 : Int) hy311) (fun w314 hag315 => ?_)
     obtain ⟨hS316, hT317⟩ := hS258.agr hag315
     refine PN.take hS316 (.tl .hd) (fun w318 hS319 hT320 => ?_)
     obtain ⟨hS321, hT322⟩ := St.arrB hS319 (.one .hd (.one (.tl .hd) .done))
     obtain rfl := Option.some.inj h
     exact PN.leave hp0 Tryz.func87 ⟨hS321.ag, rfl⟩
    have h := exc_o h
    try dsimp only at h
    refine RG.cq (.tuple #[]) body75 rfl (evs_cons rfl (evs_cons rfl evs_nil)) (fun w9 hw9 => Calls.okp (balance_fail_c n _ w9 (hS258.hL0 hL hw9) (!(decide (((D257.length : Nat) : Int) = a0.fk))) (220 : Int) hy311)) rfl ?_
    refine RG.nil ?_
    refine MX.fin rfl ?_
    refine RT.take hS258 (.tl .hd) (fun w324 hS325 hT326 => ?_)
    obtain ⟨hS327, hT328⟩ := St.arrB hS325 (.one .hd (.one (.tl .hd) .done))
    refine RT.leave hb0 Tryz.func87 rfl .nil rfl ?_
    obtain rfl := Option.some.inj h
    exact ⟨hS327.ag, fun w9 hw9 => okOf_in rfl⟩
   refine RG.val' (.yes rfl rfl) (FV.move rfl) rfl ?_
   refine RG.val' (.yes rfl rfl) (FV.move rfl) rfl ?_
   refine RG.val' (.yes rfl rfl) (FV.loadN (by kernel_rfl) rfl (hS164.memA .hd)) rfl ?_
   refine RG.yieldP (vs := [.int .i64 ((i128 : Nat) : Int), .agg #[.string x140.fName, .int .i64 x140.fPeople, v149, v150, v151, .bool x140.fWater]]) (.yes rfl rfl) rfl (evs_cons rfl (evs_cons rfl evs_nil)) hS164 (.tl .hd) rec30 rfl rfl rfl (fun cs330 hb329 hp331 => ?_)
   refine MX.skip ?_
   refine MX.begin hS164 (.tl .hd) (fun w332 hS333 hT334 => ?_)
   refine MX.block ?_
   refine MX.region ?_
   refine RG.vv (FV.load1 (by kernel_rfl) rfl ((hS333.memA (.tl (.tl (.tl (.tl .hd))))) 0 _ rfl)) rfl ?_
   obtain ⟨s335, hs335, h⟩ := bind_in h
   refine RG.vv (FV.addc (i := z129) (j := 1) rfl rfl hs335) rfl ?_
   refine RG.now .plain (Acts.storeAll (news := [.int .i64 s335]) hS333 (.tl (.tl (.tl (.tl .hd)))) rfl rfl rfl rfl rfl rfl (ones_cons rfl ones_nil)) (fun w336 hS337 hT338 => ?_)
   refine RG.nil ?_
   refine MX.inBlock ?_
   refine MX.roundEnd hb329 hS337 (.tl .hd) (fun w339 hS340 hT341 => ?_)
   refine RG.val' (.yes rfl rfl) (FV.not rfl) rfl ?_
   refine RG.vv (FV.pick_f rfl rfl) rfl ?_
   refine RG.nil ?_
   refine MX.cond_f rfl ?_
   refine MX.skip ?_
   refine MX.inBlock ?_
   refine MX.region ?_
   refine RG.vv (FV.addN (i := i128) (j := 1) rfl rfl (by omega)) rfl ?_
   refine RG.mv rfl rfl ?_
   refine RG.nil ?_
   obtain ⟨hS342, hT343⟩ := St.arrB hS340 (.one (.tl .hd) (.one (.tl .hd) (.one (.tl .hd) (.one (.tl .hd) (.one (.tl .hd) .done)))))
   exact hJ138 (i128 + 1, s335) _ _ ⟨rfl, rfl, rfl, rfl, trivial⟩ ⟨hS342, (Tr.trans hT131 (Tr.trans hT158 (Tr.trans hT165 (Tr.trans hT334 (Tr.trans hT338 (Tr.trans hT341 hT343))))))⟩ h
  refine MX.exit rfl ?_
  have h := thn_inr h hh136
  try dsimp only at h
  refine MX.fin rfl ?_
  refine RT.leave (u := .tuple #[]) hb31 Tryz.func161 rfl .nil rfl ?_
  refine MX.endRange0 hS130 .hd (by intro h9; cases h9) (fun w344 hS345 hT346 => ?_)
  obtain ⟨hS347, hT348⟩ := St.arrB hS345 (.one (.tl .hd) (.one (.tl .hd) (.one (.tl .hd) (.one (.tl .hd) .done))))
  refine MX.inBlock ?_
  refine MX.sr ?_
  refine RG.mv rfl rfl ?_
  have hm350 := Rep.mv h1_0 (Tr.trans hT4 (Tr.trans hT9 (Tr.trans hT13 (Tr.trans hT23 (Tr.trans hT26 (Tr.trans hT131 (Tr.trans hT346 hT348)))))))
  have hl349 : a1.length ≤ 281474976710656 := Rep.lenle hm350
  refine RG.vv (FV.len (xs := a1) Tryz.underlying46 rfl hm350) rfl ?_
  refine RG.vv (FV.load1 (by kernel_rfl) rfl ((hS347.memA (.tl (.tl .hd))) 0 _ rfl)) rfl ?_
  refine RG.vv (FV.neq (i := ((a1.length : Nat) : Int)) (j := z129) rfl rfl) rfl ?_
  obtain ⟨y351, hy351, h⟩ := bind_in h
  rcases y351 with e352 | y353
  ·skip
   have h := exc_e h
   try dsimp only at h
   refine RG.callE (fst := []) (cap := []) .plain body75 rfl (evs_cons rfl (evs_cons rfl evs_nil)) (fun w9 hw9 => balance_fail_c n _ w9 (hS347.hL0 hL hw9) (!(decide (((a1.length : Nat) : Int) = z129))) (220 : Int) hy351) (fun w354 hag355 => ?_)
   obtain ⟨hS356, hT357⟩ := hS347.agr hag355
   refine PN.take hS356 .hd (fun w358 hS359 hT360 => ?_)
   obtain ⟨hS361, hT362⟩ := St.arrB hS359 (.one (.tl .hd) (.one (.tl .hd) (.one (.tl .hd) .done)))
   obtain rfl := Option.some.inj h
   exact PN.leave hp0 Tryz.func87 ⟨hS361.ag, rfl⟩
  have h := exc_o h
  try dsimp only at h
  refine RG.cq (.tuple #[]) body75 rfl (evs_cons rfl (evs_cons rfl evs_nil)) (fun w9 hw9 => Calls.okp (balance_fail_c n _ w9 (hS347.hL0 hL hw9) (!(decide (((a1.length : Nat) : Int) = z129))) (220 : Int) hy351)) rfl ?_
  refine RG.nil ?_
  refine MX.sr ?_
  refine RG.new .plain rfl (Does.makeMap (κ := Int) (ν := Bool) hS347) (fun w365 b368 hS366 hT367 => ?_)
  refine RG.sg rfl rfl ?_
  refine RG.nil ?_
  refine MX.seq ?_
  refine MX.sr ?_
  refine RG.mv rfl rfl ?_
  have hm369 := Rep.mv h1_0 (Tr.trans hT4 (Tr.trans hT9 (Tr.trans hT13 (Tr.trans hT23 (Tr.trans hT26 (Tr.trans hT131 (Tr.trans hT346 (Tr.trans hT348 hT367))))))))
  refine RG.vv (FV.len (xs := a1) Tryz.underlying46 rfl hm369) rfl ?_
  refine RG.mv rfl rfl ?_
  refine RG.nil ?_
  refine MX.block ?_
  obtain ⟨hS431, hT432⟩ := St.arrB hS366 (.one .hd (.one .hd (.one (.tl (.tl .hd)) .done)))
  obtain ⟨o440, ho439, hh441⟩ := thn_in h
  refine MX.loop (α := Nat × (List (Int × Bool))) (fun ⟨i433, D434⟩ => [(2, .pointer (some ⟨b5, 0, none⟩)), (5, .map (some b368)), (20, v1_0), (21, .int .i64 ((a1.length : Nat) : Int)), (22, .int .i64 ((i433 : Nat) : Int))]) (fun ⟨i433, D434⟩ wx434 => St w wx434 [.obj b368 (mapO (D434 : List (Int × Bool))), .obj D28 (.deferred (some [])), .cells b5 [.int .i64 a0.fRoll.fGroups, .int .i64 a0.fRoll.fParties, .int .i64 a0.fRoll.fLevels, v0_3, .int .i64 a0.fk] 97] ∧ Tr w365 [.obj b368 (mapO ([] : List (Int × Bool))), .obj D28 (.deferred (some [])), .cells b5 [.int .i64 a0.fRoll.fGroups, .int .i64 a0.fRoll.fParties, .int .i64 a0.fRoll.fLevels, v0_3, .int .i64 a0.fk] 97] wx434 [.obj b368 (mapO (D434 : List (Int × Bool))), .obj D28 (.deferred (some [])), .cells b5 [.int .i64 a0.fRoll.fGroups, .int .i64 a0.fRoll.fParties, .int .i64 a0.fRoll.fLevels, v0_3, .int .i64 a0.fk] 97]) (fun ⟨i433, D434⟩ => (i433, D434)) (0, ([] : List (Int × Bool))) ho439 ⟨rfl, rfl, rfl, rfl, rfl, trivial⟩ ⟨hS431, Tr.refl _ _⟩ ?_
  rintro J442 ⟨i433, D434⟩ wx434 hJ443 ⟨hS435, hT436⟩ h
  unfold balance_count_check_l2 at h
  try dsimp only at h
  refine MX.sr ?_
  refine RG.vv (FV.lssN (i := i433) (j := a1.length) rfl rfl) rfl ?_
  refine RG.nil ?_
  refine MX.seq ?_
  refine MX.ifd rfl h (fun c444 h => ?_) (fun c444 h => ?_)
  ·skip
   refine MX.skip ?_
   refine MX.seq ?_
   refine MX.block ?_
   refine MX.sr ?_
   obtain ⟨x445, hx445, h⟩ := bind_in h
   have hm453 := Rep.mv h1_0 (Tr.trans hT4 (Tr.trans hT9 (Tr.trans hT13 (Tr.trans hT23 (Tr.trans hT26 (Tr.trans hT131 (Tr.trans hT346 (Tr.trans hT348 (Tr.trans hT367 (Tr.trans hT432 hT436))))))))))
   obtain ⟨A446, c447, he448, hk449, cs450, hr451, hm452⟩ := Rep.nth hm453 hx445
   have he454 : cs450 = [.int .i64 x445] := hr451; subst he454
   refine RG.vv (FV.idxAddr (m := 1) (i := i433) (by kernel_rfl) rfl he448 rfl rfl hk449) rfl ?_
   refine RG.vv (FV.load1 (by kernel_rfl) rfl (hm452 0 _ rfl)) rfl ?_
   refine RG.sg rfl rfl ?_
   refine RG.nil ?_
   refine MX.sr ?_
   refine RG.mv rfl rfl ?_
   refine RG.vv (FV.lss (i := x445) (j := 0) rfl rfl) rfl ?_
   refine RG.mv rfl rfl ?_
   refine RG.ifd (s := 28) rfl h (fun c455 h => ?_) (fun c455 h => ?_)
   ·skip
    refine RG.off (.no rfl rfl) rfl ?_
    refine RG.off (.no rfl rfl) rfl ?_
    refine RG.off (.no rfl rfl) rfl ?_
    refine RG.off (.no rfl rfl) rfl ?_
    refine RG.vv (FV.pick_t rfl rfl) rfl ?_
    obtain ⟨y456, hy456, h⟩ := bind_in h
    rcases y456 with e457 | y458
    ·skip
     have h := exc_e h
     try dsimp only at h
     have h := thn_inl h hh441
     refine RG.callE (fst := []) (cap := []) .plain body75 rfl (evs_cons rfl (evs_cons rfl evs_nil)) (fun w9 hw9 => balance_fail_c n _ w9 (hS435.hL0 hL hw9) true (220 : Int) hy456) (fun w459 hag460 => ?_)
     obtain ⟨hS461, hT462⟩ := hS435.agr hag460
     refine PN.take hS461 (.tl .hd) (fun w463 hS464 hT465 => ?_)
     obtain ⟨hS466, hT467⟩ := St.arrB hS464 (.one .hd (.one (.tl .hd) .done))
     obtain rfl := Option.some.inj h
     exact PN.leave hp0 Tryz.func87 ⟨hS466.ag, rfl⟩
    have h := exc_o h
    try dsimp only at h
    refine RG.cq (.tuple #[]) body75 rfl (evs_cons rfl (evs_cons rfl evs_nil)) (fun w9 hw9 => Calls.okp (balance_fail_c n _ w9 (hS435.hL0 hL hw9) true (220 : Int) hy456)) rfl ?_
    refine RG.nil ?_
    refine MX.region ?_
    refine RG.mv rfl rfl ?_
    refine RG.mv rfl rfl ?_
    refine RG.now .plain (Acts.mapUpdate (kv := x445) (vv := true) hS435 .hd Tryz.underlying168 Tryz.underlying3 rfl rfl rfl rfl) (fun w469 hS470 hT471 => ?_)
    refine RG.nil ?_
    refine MX.inBlock ?_
    refine MX.region ?_
    refine RG.vv (FV.addN (i := i433) (j := 1) rfl rfl (by omega)) rfl ?_
    refine RG.mv rfl rfl ?_
    refine RG.nil ?_
    exact hJ443 (i433 + 1, mset D434 x445 true) _ _ ⟨rfl, rfl, rfl, rfl, rfl, trivial⟩ ⟨hS470, (Tr.trans hT436 hT471)⟩ h
   refine RG.val' (.yes rfl rfl) (FV.move rfl) rfl ?_
   refine RG.val' (.yes rfl rfl) (FV.fieldAddr (off := 4) (by kernel_rfl) rfl) rfl ?_
   refine RG.val' (.yes rfl rfl) (FV.load1 (by kernel_rfl) rfl ((hS435.memA (.tl (.tl .hd))) 4 _ rfl)) rfl ?_
   refine RG.val' (.yes rfl rfl) (FV.geq (i := x445) (j := a0.fk) rfl rfl) rfl ?_
   refine RG.vv (FV.pick_f rfl rfl) rfl ?_
   obtain ⟨y472, hy472, h⟩ := bind_in h
   rcases y472 with e473 | y474
   ·skip
    have h := exc_e h
    try dsimp only at h
    have h := thn_inl h hh441
    refine RG.callE (fst := []) (cap := []) .plain body75 rfl (evs_cons rfl (evs_cons rfl evs_nil)) (fun w9 hw9 => balance_fail_c n _ w9 (hS435.hL0 hL hw9) (decide (a0.fk ≤ x445)) (220 : Int) hy472) (fun w475 hag476 => ?_)
    obtain ⟨hS477, hT478⟩ := hS435.agr hag476
    refine PN.take hS477 (.tl .hd) (fun w479 hS480 hT481 => ?_)
    obtain ⟨hS482, hT483⟩ := St.arrB hS480 (.one .hd (.one (.tl .hd) .done))
    obtain rfl := Option.some.inj h
    exact PN.leave hp0 Tryz.func87 ⟨hS482.ag, rfl⟩
   have h := exc_o h
   try dsimp only at h
   refine RG.cq (.tuple #[]) body75 rfl (evs_cons rfl (evs_cons rfl evs_nil)) (fun w9 hw9 => Calls.okp (balance_fail_c n _ w9 (hS435.hL0 hL hw9) (decide (a0.fk ≤ x445)) (220 : Int) hy472)) rfl ?_
   refine RG.nil ?_
   refine MX.region ?_
   refine RG.mv rfl rfl ?_
   refine RG.mv rfl rfl ?_
   refine RG.now .plain (Acts.mapUpdate (kv := x445) (vv := true) hS435 .hd Tryz.underlying168 Tryz.underlying3 rfl rfl rfl rfl) (fun w485 hS486 hT487 => ?_)
   refine RG.nil ?_
   refine MX.inBlock ?_
   refine MX.region ?_
   refine RG.vv (FV.addN (i := i433) (j := 1) rfl rfl (by omega)) rfl ?_
   refine RG.mv rfl rfl ?_
   refine RG.nil ?_
   exact hJ443 (i433 + 1, mset D434 x445 true) _ _ ⟨rfl, rfl, rfl, rfl, rfl, trivial⟩ ⟨hS486, (Tr.trans hT436 hT487)⟩ h
  refine MX.exit rfl ?_
  have h := thn_inr h hh441
  try dsimp only at h
  refine MX.region ?_
  refine RG.mv rfl rfl ?_
  refine RG.vv (FV.len_map (D := D434) hS435 .hd Tryz.underlying168 rfl) rfl ?_
  refine RG.vv (FV.fieldAddr (off := 4) (by kernel_rfl) rfl) rfl ?_
  refine RG.vv (FV.load1 (by kernel_rfl) rfl ((hS435.memA (.tl (.tl .hd))) 4 _ rfl)) rfl ?_
  refine RG.vv (FV.neq (i := ((D434.length : Nat) : Int)) (j := a0.fk) rfl rfl) rfl ?_
  obtain ⟨y488, hy488, h⟩ := bind_in h
  rcases y488 with e489 | y490
  ·skip
   have h := exc_e h
   try dsimp only at h
   refine RG.callE (fst := []) (cap := []) .plain body75 rfl (evs_cons rfl (evs_cons rfl evs_nil)) (fun w9 hw9 => balance_fail_c n _ w9 (hS435.hL0 hL hw9) (!(decide (((D434.length : Nat) : Int) = a0.fk))) (220 : Int) hy488) (fun w491 hag492 => ?_)
   obtain ⟨hS493, hT494⟩ := hS435.agr hag492
   refine PN.take hS493 (.tl .hd) (fun w495 hS496 hT497 => ?_)
   obtain ⟨hS498, hT499⟩ := St.arrB hS496 (.one .hd (.one (.tl .hd) .done))
   obtain rfl := Option.some.inj h
   exact PN.leave hp0 Tryz.func87 ⟨hS498.ag, rfl⟩
  have h := exc_o h
  try dsimp only at h
  refine RG.cq (.tuple #[]) body75 rfl (evs_cons rfl (evs_cons rfl evs_nil)) (fun w9 hw9 => Calls.okp (balance_fail_c n _ w9 (hS435.hL0 hL hw9) (!(decide (((D434.length : Nat) : Int) = a0.fk))) (220 : Int) hy488)) rfl ?_
  refine RG.nil ?_
  refine MX.fin rfl ?_
  refine RT.take hS435 (.tl .hd) (fun w501 hS502 hT503 => ?_)
  obtain ⟨hS504, hT505⟩ := St.arrB hS502 (.one .hd (.one (.tl .hd) .done))
  refine RT.leave hb0 Tryz.func87 rfl .nil rfl ?_
  obtain rfl := Option.some.inj h
  exact ⟨hS504.ag, fun w9 hw9 => okOf_in rfl⟩
def tb58_6 : List (Nat × Nat × Nat) := [(0, 262144, 32), (0, 524288, 8), (0, 1048576, 64), (6, 2097152, 1572864), (8, 4194304, 2097152), (17, 8388608, 4456448), (32, 16777216, 8388608), (0, 33554432, 128), (128, 67108864, 33554432), (320, 134217728, 83886080), (1023, 268435456, 4456448), (2047, 0, 402653184)]
theorem el45 : ElT Tryz.prog 45 3 (Rep.size Int) 8 (.int .i64 0) [.int .i64 0] := ⟨Tryz.underlying45, by kernel_rfl, rfl, rfl, rfl, rfl⟩
theorem body87 : bodyB Tryz.prog 87 = true := by kernel_rfl
def balance_count_totals_l1 (_n : Nat) (a0 : Tcount) (a1 : List Int) (J250 : Nat × (List Int) → Option ((Except Tbroken (List Int)) ⊕ (List Int))) : Nat × (List Int) → Option ((Except Tbroken (List Int)) ⊕ (List Int))
  | (i239, xs240) => (if i239 < a0.fRoll.fUnits.length then (a0.fRoll.fUnits[i239]?).bind fun x253 => (if x253.fWater = true then some (.inl (.ok xs240)) else (a1[i239]?).bind fun x314 => (idx xs240 x314).bind fun x324 => (chk (x324 + x253.fPeople)).bind fun s339 => (put xs240 ((x314.toNat : Nat) : Int) s339).bind fun xs340 => J250 (i239 + 1, xs340)) else some (.inr xs240))
def balance_count_totals_p (n : Nat) (a0 : Tcount) (a1 : List Int) : Option (Except Tbroken (List Int)) :=
  (balance_count_check_p n a0 a1).bind fun y12 => exc y12 (fun y14 => (mk a0.fk (0 : Int)).bind fun xs25 => thn (loopF (balance_count_totals_l1 n a0 a1) n (0, xs25)) (fun xs240 => some (.ok xs240))) (fun e13 => some (.error e13))
set_option maxRecDepth 4000 in
set_option maxHeartbeats 4000000 in
theorem balance_count_totals_c (n : Nat) (L : List Nat) (w : World) (hL : ∀ b ∈ L, b < w.heap.size) (a0 : Tcount) {v0_3 : Value} (h0_3 : Rep.R w L [v0_3] a0.fRoll.fUnits) (a1 : List Int) {v1_0 : Value} (h1_0 : Rep.R w L [v1_0] a1)  {r : Except Tbroken (List Int)} (h : balance_count_totals_p n a0 a1 = some r) :
    Calls Tryz.prog 58 #[.agg #[.int .i64 a0.fRoll.fGroups, .int .i64 a0.fRoll.fParties, .int .i64 a0.fRoll.fLevels, v0_3, .int .i64 a0.fk], v1_0] w (PGives w (fun (y : List Int) w' u => ∃ v0_0 : Value, u = v0_0 ∧ Rep.R w' L [v0_0] y) (fun e => .iface 140 (.agg #[.int .i64 e.fErrno])) r) := by
  unfold balance_count_totals_p at h
  have hS0 := St.start w
  refine MX.startP Tryz.func58 rfl rfl rfl (fun _ cs0 hb0 hp0 => ?_)
  refine MX.sr ?_
  refine RG.new .plain rfl (Does.box (vs := [.int .i64 a0.fRoll.fGroups, .int .i64 a0.fRoll.fParties, .int .i64 a0.fRoll.fLevels, v0_3, .int .i64 a0.fk]) hS0 rfl rfl) (fun w2 b5 hS3 hT4 => ?_)
  have hm7 := Rep.mv h1_0 hT4
  refine RG.new .plain rfl (Does.box (vs := [v1_0]) hS3 rfl (Rep.c1 hm7)) (fun w8 b11 hS9 hT10 => ?_)
  refine RG.sg rfl rfl ?_
  refine RG.nil ?_
  refine MX.sr ?_
  refine RG.vv (FV.loadN (by kernel_rfl) rfl (hS9.memA (.tl .hd))) rfl ?_
  refine RG.vv (FV.load1 (by kernel_rfl) rfl ((hS9.memA .hd) 0 _ rfl)) rfl ?_
  obtain ⟨y12, hy12, h⟩ := bind_in h
  rcases y12 with e13 | y14
  ·skip
   have h := exc_e h
   try dsimp only at h
   have hm15 := Rep.mv h0_3 (Tr.trans hT4 hT10)
   have hm16 := Rep.mv h1_0 (Tr.trans hT4 hT10)
   refine RG.callE (fst := []) (cap := []) .plain body87 rfl (evs_cons rfl (evs_cons rfl evs_nil)) (fun w9 hw9 => balance_count_check_c n _ w9 (hS9.hL0 hL hw9) a0 (Rep.keep0 (Rep.dropS hS9 hm15) hw9) a1 (Rep.keep0 (Rep.dropS hS9 hm16) hw9) hy12) (fun w17 hag18 => ?_)
   obtain ⟨hS19, hT20⟩ := hS9.agr hag18
   obtain rfl := Option.some.inj h
   exact PN.leave hp0 Tryz.func58 ⟨hS19.ag, rfl⟩
  have h := exc_o h
  try dsimp only at h
  have hm22 := Rep.mv h0_3 (Tr.trans hT4 hT10)
  have hm23 := Rep.mv h1_0 (Tr.trans hT4 hT10)
  refine RG.cq (.tuple #[]) body87 rfl (evs_cons rfl (evs_cons rfl evs_nil)) (fun w9 hw9 => Calls.okp (balance_count_check_c n _ w9 (hS9.hL0 hL hw9) a0 (Rep.keep0 (Rep.dropS hS9 hm22) hw9) a1 (Rep.keep0 (Rep.dropS hS9 hm23) hw9) hy12)) rfl ?_
  refine RG.nil ?_
  refine MX.sr ?_
  refine RG.vv (FV.fieldAddr (off := 4) (by kernel_rfl) rfl) rfl ?_
  refine RG.vv (FV.load1 (by kernel_rfl) rfl ((hS9.memA (.tl .hd)) 4 _ rfl)) rfl ?_
  obtain ⟨xs25, hxs25, h⟩ := bind_in h
  refine RG.new .plain rfl (Does.mk (α := Int) hxs25 hS9 el45 rfl) (fun w26 b29 hS27 hT28 => ?_)
  have hc30 := Cells.at_ (cs := (List.replicate a0.fk.toNat [.int .i64 0]).flatten) (xs := xs25) hS27 L (Cells.mk hxs25 rfl)
  refine RG.new .plain rfl (Does.alloc (zs := [.slice none 0 0]) hS27 (zB (by kernel_rfl))) (fun w32 b35 hS33 hT34 => ?_)
  refine RG.now .plain (Acts.storeAll (news := [(.slice (some ⟨b29, 0, none⟩) a0.fk.toNat a0.fk.toNat)]) hS33 .hd rfl rfl rfl (St.c1 (α := Int) hS33 (.tl .hd)) rfl rfl (ones_cons (St.o1 (α := Int) hS33 (.tl .hd)) ones_nil)) (fun w36 hS37 hT38 => ?_)
  refine RG.nil ?_
  refine MX.seq ?_
  refine MX.sr ?_
  refine RG.vv (FV.loadN (by kernel_rfl) rfl (hS37.memA (.tl (.tl (.tl .hd))))) rfl ?_
  have hm39 := Rep.mv h0_3 (Tr.trans hT4 (Tr.trans hT10 (Tr.trans hT28 (Tr.trans hT34 hT38))))
  refine RG.call' (fst := []) (cap := []) .plain body120 rfl (evs_cons rfl evs_nil) (fun w9 hw9 => Calls.gives (balance_count_land_c n _ w9 (hS37.hL hL hw9) a0 (Rep.keep0 hm39 hw9)) fun (w8 : World) (u8 : Value) ⟨b0_, hu_, s_⟩ => (⟨b0_, hu_, s_.from hw9⟩ : ∃ b41 : Nat, u8 = Value.func (.func 161) #[] #[.pointer (some ⟨b41, 0, none⟩)] ∧ St w36 w8 [.cells b41 [.int .i64 a0.fRoll.fGroups, .int .i64 a0.fRoll.fParties, .int .i64 a0.fRoll.fLevels, v0_3, .int .i64 a0.fk] 97])) rfl (fun w42 vu43 hag44 ⟨b41, hu46, s45⟩ => ?_)
  subst hu46
  have hS47 : St w w42 [.cells b41 [.int .i64 a0.fRoll.fGroups, .int .i64 a0.fRoll.fParties, .int .i64 a0.fRoll.fLevels, v0_3, .int .i64 a0.fk] 97, .cells b35 [(.slice (some ⟨b29, 0, none⟩) a0.fk.toNat a0.fk.toNat)] 45, .row w.heap.size 3 (Rep.size Int) (.slice (some ⟨b29, 0, none⟩) a0.fk.toNat a0.fk.toNat) xs25.length ((List.replicate a0.fk.toNat [.int .i64 0]).flatten), .cells b11 [v1_0] 46, .cells b5 [.int .i64 a0.fRoll.fGroups, .int .i64 a0.fRoll.fParties, .int .i64 a0.fRoll.fLevels, v0_3, .int .i64 a0.fk] 97] := St.merge hS37 s45
  have hT48 : Tr w36 [.cells b35 [(.slice (some ⟨b29, 0, none⟩) a0.fk.toNat a0.fk.toNat)] 45, .row w.heap.size 3 (Rep.size Int) (.slice (some ⟨b29, 0, none⟩) a0.fk.toNat a0.fk.toNat) xs25.length ((List.replicate a0.fk.toNat [.int .i64 0]).flatten), .cells b11 [v1_0] 46, .cells b5 [.int .i64 a0.fRoll.fGroups, .int .i64 a0.fRoll.fParties, .int .i64 a0.fRoll.fLevels, v0_3, .int .i64 a0.fk] 97] w42 [.cells b41 [.int .i64 a0.fRoll.fGroups, .int .i64 a0.fRoll.fParties, .int .i64 a0.fRoll.fLevels, v0_3, .int .i64 a0.fk] 97, .cells b35 [(.slice (some ⟨b29, 0, none⟩) a0.fk.toNat a0.fk.toNat)] 45, .row w.heap.size 3 (Rep.size Int) (.slice (some ⟨b29, 0, none⟩) a0.fk.toNat a0.fk.toNat) xs25.length ((List.replicate a0.fk.toNat [.int .i64 0]).flatten), .cells b11 [v1_0] 46, .cells b5 [.int .i64 a0.fRoll.fGroups, .int .i64 a0.fRoll.fParties, .int .i64 a0.fRoll.fLevels, v0_3, .int .i64 a0.fk] 97] := Tr.merge hS37 s45
  refine RG.nil ?_
  refine MX.block ?_
  refine MX.rangeP (lb := [.pointer (some ⟨b41, 0, none⟩)]) rfl hS47 rfl body161 Tryz.func161 rfl rfl rfl (fun w49 lk52 D53 r54 cs57 hS50 hT51 rec55 hb56 hp58 => ?_)
  refine MX.sr ?_
  refine RG.vv (FV.fieldAddr (off := 0) (by kernel_rfl) rfl) rfl ?_
  refine RG.vv (FV.fieldAddr (off := 3) (by kernel_rfl) rfl) rfl ?_
  refine RG.vv (FV.load1 (by kernel_rfl) rfl ((mem_from (hS50.memA (.tl (.tl .hd))) 0) 3 _ rfl)) rfl ?_
  have hm62 := Rep.mv h0_3 (Tr.trans hT4 (Tr.trans hT10 (Tr.trans hT28 (Tr.trans hT34 (Tr.trans hT38 (Tr.trans hT48 hT51))))))
  have hl61 : a0.fRoll.fUnits.length ≤ 281474976710656 := Rep.lenle hm62
  refine RG.vv (FV.len (xs := a0.fRoll.fUnits) Tryz.underlying42 rfl hm62) rfl ?_
  refine RG.mv rfl rfl ?_
  refine RG.nil ?_
  refine MX.block ?_
  have hm238 := Cells.mv hc30 (Tr.trans hT34 (Tr.trans hT38 (Tr.trans hT48 hT51)))
  obtain ⟨o248, ho247, hh249⟩ := thn_in h
  refine MX.loop (α := Nat × (List Int) × (List Value)) (fun ⟨i239, xs240, cs241⟩ => [(0, .func (.yield lk52) #[] #[]), (7, v0_3), (8, .int .i64 ((a0.fRoll.fUnits.length : Nat) : Int)), (9, .int .i64 ((i239 : Nat) : Int))]) (fun ⟨i239, xs240, cs241⟩ wx242 => St w wx242 [.obj lk52 (lpO r54 .ready none), .obj D53 (.deferred (some [])), .cells b41 [.int .i64 a0.fRoll.fGroups, .int .i64 a0.fRoll.fParties, .int .i64 a0.fRoll.fLevels, v0_3, .int .i64 a0.fk] 97, .cells b35 [(.slice (some ⟨b29, 0, none⟩) a0.fk.toNat a0.fk.toNat)] 45, .row w.heap.size 3 (Rep.size Int) (.slice (some ⟨b29, 0, none⟩) a0.fk.toNat a0.fk.toNat) xs240.length cs241, .cells b11 [v1_0] 46, .cells b5 [.int .i64 a0.fRoll.fGroups, .int .i64 a0.fRoll.fParties, .int .i64 a0.fRoll.fLevels, v0_3, .int .i64 a0.fk] 97] ∧ Tr w49 [.obj lk52 (lpO r54 .ready none), .obj D53 (.deferred (some [])), .cells b41 [.int .i64 a0.fRoll.fGroups, .int .i64 a0.fRoll.fParties, .int .i64 a0.fRoll.fLevels, v0_3, .int .i64 a0.fk] 97, .cells b35 [(.slice (some ⟨b29, 0, none⟩) a0.fk.toNat a0.fk.toNat)] 45, .row w.heap.size 3 (Rep.size Int) (.slice (some ⟨b29, 0, none⟩) a0.fk.toNat a0.fk.toNat) xs25.length ((List.replicate a0.fk.toNat [.int .i64 0]).flatten), .cells b11 [v1_0] 46, .cells b5 [.int .i64 a0.fRoll.fGroups, .int .i64 a0.fRoll.fParties, .int .i64 a0.fRoll.fLevels, v0_3, .int .i64 a0.fk] 97] wx242 [.obj lk52 (lpO r54 .ready none), .obj D53 (.deferred (some [])), .cells b41 [.int .i64 a0.fRoll.fGroups, .int .i64 a0.fRoll.fParties, .int .i64 a0.fRoll.fLevels, v0_3, .int .i64 a0.fk] 97, .cells b35 [(.slice (some ⟨b29, 0, none⟩) a0.fk.toNat a0.fk.toNat)] 45, .row w.heap.size 3 (Rep.size Int) (.slice (some ⟨b29, 0, none⟩) a0.fk.toNat a0.fk.toNat) xs240.length cs241, .cells b11 [v1_0] 46, .cells b5 [.int .i64 a0.fRoll.fGroups, .int .i64 a0.fRoll.fParties, .int .i64 a0.fRoll.fLevels, v0_3, .int .i64 a0.fk] 97] ∧ Cells wx242 (bl [.obj lk52 (lpO r54 .ready none), .obj D53 (.deferred (some [])), .cells b41 [.int .i64 a0.fRoll.fGroups, .int .i64 a0.fRoll.fParties, .int .i64 a0.fRoll.fLevels, v0_3, .int .i64 a0.fk] 97, .cells b35 [(.slice (some ⟨b29, 0, none⟩) a0.fk.toNat a0.fk.toNat)] 45, .row w.heap.size 3 (Rep.size Int) (.slice (some ⟨b29, 0, none⟩) a0.fk.toNat a0.fk.toNat) xs240.length cs241, .cells b11 [v1_0] 46, .cells b5 [.int .i64 a0.fRoll.fGroups, .int .i64 a0.fRoll.fParties, .int .i64 a0.fRoll.fLevels, v0_3, .int .i64 a0.fk] 97] ++ L) cs241 xs240) (fun ⟨i239, xs240, cs241⟩ => (i239, xs240)) (0, xs25, (List.replicate a0.fk.toNat [.int .i64 0]).flatten) ho247 ⟨rfl, rfl, rfl, rfl, trivial⟩ ⟨hS50, Tr.refl _ _, hm238⟩ ?_
  rintro J250 ⟨i239, xs240, cs241⟩ wx242 hJ251 ⟨hS243, hT244, hc242⟩ h
  unfold balance_count_totals_l1 at h
  try dsimp only at h
  refine MX.sr ?_
  refine RG.vv (FV.lssN (i := i239) (j := a0.fRoll.fUnits.length) rfl rfl) rfl ?_
  refine RG.nil ?_
  refine MX.seq ?_
  refine MX.ifd rfl h (fun c252 h => ?_) (fun c252 h => ?_)
  ·skip
   refine MX.skip ?_
   refine MX.seq ?_
   refine MX.block ?_
   refine MX.sr ?_
   refine RG.mv rfl rfl ?_
   obtain ⟨x253, hx253, h⟩ := bind_in h
   have hm261 := Rep.mv h0_3 (Tr.trans hT4 (Tr.trans hT10 (Tr.trans hT28 (Tr.trans hT34 (Tr.trans hT38 (Tr.trans hT48 (Tr.trans hT51 hT244)))))))
   obtain ⟨A254, c255, he256, hk257, cs258, hr259, hm260⟩ := Rep.nth hm261 hx253
   obtain ⟨v262, v263, v264, rfl, hr265, hr266, hr267⟩ := op_TUnit hr259
   refine RG.vv (FV.idxAddr (m := 6) (i := i239) (by kernel_rfl) rfl he256 rfl rfl hk257) rfl ?_
   refine RG.vv (FV.loadN (by kernel_rfl) rfl hm260) rfl ?_
   refine RG.new .plain rfl (Does.alloc (zs := [.string ⟨#[]⟩, .int .i64 0, .slice none 0 0, .slice none 0 0, .slice none 0 0, .bool false]) hS243 (zB (by kernel_rfl))) (fun w269 b272 hS270 hT271 => ?_)
   refine RG.sg rfl rfl ?_
   have hm273 := Rep.mv hr265 hT271
   have hm274 := Rep.mv hr266 hT271
   have hm275 := Rep.mv hr267 hT271
   refine RG.now .plain (Acts.storeAll (news := [.string x253.fName, .int .i64 x253.fPeople, v262, v263, v264, .bool x253.fWater]) hS270 .hd rfl rfl rfl rfl rfl rfl (ones_cons rfl (ones_cons rfl (ones_cons (Rep.o1 hm273) (ones_cons (Rep.o1 hm274) (ones_cons (Rep.o1 hm275) (ones_cons rfl ones_nil))))))) (fun w276 hS277 hT278 => ?_)
   refine RG.nil ?_
   refine MX.sr ?_
   refine RG.vv (FV.fieldAddr (off := 5) (by kernel_rfl) rfl) rfl ?_
   refine RG.vv (FV.load1 (by kernel_rfl) rfl ((hS277.memA .hd) 5 _ rfl)) rfl ?_
   refine RG.mv rfl rfl ?_
   refine RG.ifb (s := 16) rfl h (fun c279 h => ?_) (fun c279 h => ?_)
   ·skip
    refine RG.off (.no rfl rfl) rfl ?_
    refine RG.off (.no rfl rfl) rfl ?_
    refine RG.off (.no rfl rfl) rfl ?_
    refine RG.off (.no rfl rfl) rfl ?_
    refine RG.off (.no rfl rfl) rfl ?_
    refine RG.vv (FV.pick_t rfl rfl) rfl ?_
    refine RG.nil ?_
    refine MX.cond_t rfl ?_
    have h := thn_inl h hh249
    refine MX.ret rfl ?_
    refine RT.leave (u := .tuple #[]) hb56 Tryz.func161 rfl .nil rfl ?_
    refine MX.endRange0 hS277 (.tl .hd) (by intro h9; cases h9) (fun w280 hS281 hT282 => ?_)
    obtain ⟨hS283, hT284⟩ := St.arrB hS281 (.one .hd (.one (.tl .hd) (.one (.tl .hd) (.one (.tl .hd) (.one (.tl .hd) (.one (.tl .hd) (.one (.tl .hd) .done)))))))
    refine MX.inBlock ?_
    refine MX.sr ?_
    refine RG.vv (FV.load1 (by kernel_rfl) rfl ((hS283.memA (.tl (.tl (.tl .hd)))) 0 _ rfl)) rfl ?_
    refine RG.sg rfl rfl ?_
    refine RG.nil ?_
    refine MX.ret rfl ?_
    refine RT.take hS283 (.tl .hd) (fun w285 hS286 hT287 => ?_)
    obtain ⟨hS288, hT289⟩ := St.arrB hS286 (.one .hd (.one (.tl .hd) (.one (.tl .hd) (.one (.tl .hd) (.one (.tl .hd) (.one (.tl .hd) .done))))))
    have hm293 := Cells.mv hc242 (Tr.trans hT271 (Tr.trans hT278 (Tr.trans hT282 (Tr.trans hT284 (Tr.trans hT287 hT289)))))
    have hr290 := St.freeze (α := Int) hS288 (.tl (.tl (.tl .hd))) hm293 hL
    have hS291 := St.delS hS288 (.tl (.tl (.tl .hd)))
    have hT292 := St.delT hS288 (.tl (.tl (.tl .hd)))
    have hr294 := Rep.at_ (α := Int) (v := (.slice (some ⟨b29, 0, none⟩) a0.fk.toNat a0.fk.toNat)) (xs := xs240) hS291 L hr290
    refine RT.leave hb0 Tryz.func58 rfl (.cons (.tmp rfl) .nil) rfl ?_
    obtain rfl := Option.some.inj h
    exact ⟨hS291.ag, fun w9 hw9 => okOf_in ⟨(.slice (some ⟨b29, 0, none⟩) a0.fk.toNat a0.fk.toNat), rfl, Rep.keep0 (Rep.dropS hS291 hr294) hw9⟩⟩
   refine RG.val' (.yes rfl rfl) (FV.move rfl) rfl ?_
   refine RG.val' (.yes rfl rfl) (FV.move rfl) rfl ?_
   refine RG.val' (.yes rfl rfl) (FV.loadN (by kernel_rfl) rfl (hS277.memA .hd)) rfl ?_
   refine RG.yieldP (vs := [.int .i64 ((i239 : Nat) : Int), .agg #[.string x253.fName, .int .i64 x253.fPeople, v262, v263, v264, .bool x253.fWater]]) (.yes rfl rfl) rfl (evs_cons rfl (evs_cons rfl evs_nil)) hS277 (.tl .hd) rec55 rfl rfl rfl (fun cs296 hb295 hp297 => ?_)
   refine MX.sr ?_
   refine RG.sg rfl rfl ?_
   refine RG.nil ?_
   refine MX.region ?_
   refine RG.new .plain rfl (Does.alloc (zs := [.string ⟨#[]⟩, .int .i64 0, .slice none 0 0, .slice none 0 0, .slice none 0 0, .bool false]) hS277 (zB (by kernel_rfl))) (fun w299 b302 hS300 hT301 => ?_)
   have hm303 := Rep.mv hr265 (Tr.trans hT271 (Tr.trans hT278 hT301))
   have hm304 := Rep.mv hr266 (Tr.trans hT271 (Tr.trans hT278 hT301))
   have hm305 := Rep.mv hr267 (Tr.trans hT271 (Tr.trans hT278 hT301))
   refine RG.now .plain (Acts.storeAll (news := [.string x253.fName, .int .i64 x253.fPeople, v262, v263, v264, .bool x253.fWater]) hS300 .hd rfl rfl rfl rfl rfl rfl (ones_cons rfl (ones_cons rfl (ones_cons (Rep.o1 hm303) (ones_cons (Rep.o1 hm304) (ones_cons (Rep.o1 hm305) (ones_cons rfl ones_nil))))))) (fun w306 hS307 hT308 => ?_)
   refine RG.nil ?_
   refine MX.begin hS307 (.tl (.tl .hd)) (fun w309 hS310 hT311 => ?_)
   refine MX.block ?_
   refine MX.drawT 11 tb58_6 (by kernel_rfl) (by kernel_rfl) (by kernel_rfl) (fun kt312 kp313 => ?_)
   refine RD.vx 0 1 3680 kt312 rfl kp313 (FV.load1 (by kernel_rfl) rfl ((hS310.memA (.tl (.tl (.tl (.tl (.tl .hd)))))) 0 _ rfl)) rfl ?_
   refine RD.vx 1 3 3704 kt312 rfl kp313 (FV.load1 (by kernel_rfl) rfl ((hS310.memA (.tl (.tl (.tl (.tl (.tl (.tl (.tl .hd)))))))) 0 _ rfl)) rfl ?_
   refine RD.vw 2 7 kt312 rfl kp313 (fun _ => FV.move rfl) rfl ?_
   obtain ⟨x314, hx314, h⟩ := bind_in h
   have hm322 := Rep.mv h1_0 (Tr.trans hT4 (Tr.trans hT10 (Tr.trans hT28 (Tr.trans hT34 (Tr.trans hT38 (Tr.trans hT48 (Tr.trans hT51 (Tr.trans hT244 (Tr.trans hT271 (Tr.trans hT278 (Tr.trans hT301 (Tr.trans hT308 hT311))))))))))))
   obtain ⟨A315, c316, he317, hk318, cs319, hr320, hm321⟩ := Rep.nth hm322 hx314
   have he323 : cs319 = [.int .i64 x314] := hr320; subst he323
   refine RD.vw 3 15 kt312 rfl kp313 (fun _ => FV.idxAddr (m := 1) (i := i239) (by kernel_rfl) rfl he317 rfl rfl hk318) rfl ?_
   refine RD.vx 4 31 3680 kt312 rfl kp313 (FV.load1 (by kernel_rfl) rfl (hm321 0 _ rfl)) rfl ?_
   obtain ⟨x324, hx324, h⟩ := bind_in h
   obtain ⟨hi325, hx326⟩ := idx_in hx324
   have hm334 := Cells.mv hc242 (Tr.trans hT271 (Tr.trans hT278 (Tr.trans hT301 (Tr.trans hT308 hT311))))
   obtain ⟨A327, c328, he329, hk330, cs331, hr332, hm333⟩ := St.nth (α := Int) hS310 (.tl (.tl (.tl (.tl (.tl (.tl .hd)))))) hm334 hx326
   obtain ⟨b335, c336, he337⟩ := St.nthOwn (α := Int) hS310 (.tl (.tl (.tl (.tl (.tl (.tl .hd)))))) hk330
   obtain rfl : A327 = ⟨b335, 0, none⟩ := by rw [he337] at he329; cases he329; rfl
   have he338 : cs331 = [.int .i64 x324] := hr332; subst he338
   refine RD.vw 5 63 kt312 rfl kp313 (fun _ => FV.idxAddr (m := 1) (i := x314.toNat) (by kernel_rfl) rfl he329 rfl hi325 hk330) rfl ?_
   refine RD.vx 6 127 3584 kt312 rfl kp313 (FV.load1 (by kernel_rfl) rfl (hm333 0 _ rfl)) rfl ?_
   refine RD.vw 7 255 kt312 rfl kp313 (fun _ => FV.fieldAddr (off := 1) (by kernel_rfl) rfl) rfl ?_
   refine RD.vx 8 511 3584 kt312 rfl kp313 (FV.load1 (by kernel_rfl) rfl ((hS310.memA .hd) 1 _ rfl)) rfl ?_
   obtain ⟨s339, hs339, h⟩ := bind_in h
   refine RD.vw 9 1023 kt312 rfl kp313 (fun _ => FV.addc (i := x324) (j := x253.fPeople) rfl rfl hs339) rfl ?_
   refine RD.vw 10 2047 kt312 rfl kp313 (fun _ => FV.idxAddr (m := 1) (i := x314.toNat) (by kernel_rfl) rfl he329 rfl hi325 hk330) rfl ?_
   obtain ⟨xs340, hxs340, h⟩ := bind_in h
   refine RD.one (i := 11) (readyD_ok kt312 (by kernel_rfl)) (RO.acts (m' := 4095) (stepC_ok kt312 (by kernel_rfl)) rfl rfl .plain (Acts.set (α := Int) (i := x314.toNat) (F := fun cs' => [.cells b302 [.string x253.fName, .int .i64 x253.fPeople, v262, v263, v264, .bool x253.fWater] 65, .cells b272 [.string x253.fName, .int .i64 x253.fPeople, v262, v263, v264, .bool x253.fWater] 65, .obj lk52 (lpO r54 .busy none), .obj D53 (.deferred (some [])), .cells b41 [.int .i64 a0.fRoll.fGroups, .int .i64 a0.fRoll.fParties, .int .i64 a0.fRoll.fLevels, v0_3, .int .i64 a0.fk] 97, .cells b35 [(.slice (some ⟨b29, 0, none⟩) a0.fk.toNat a0.fk.toNat)] 45, .row w.heap.size 3 (Rep.size Int) (.slice (some ⟨b29, 0, none⟩) a0.fk.toNat a0.fk.toNat) xs340.length cs', .cells b11 [v1_0] 46, .cells b5 [.int .i64 a0.fRoll.fGroups, .int .i64 a0.fRoll.fParties, .int .i64 a0.fRoll.fLevels, v0_3, .int .i64 a0.fk] 97]) hxs340 hS310 he337 (fun _ => (.tl (.tl (.tl (.tl (.tl (.tl .hd))))))) hm334 rfl rfl rfl rfl rfl (by kernel_rfl)) (fun w341 ⟨cs345, hS342, hT343, hc344⟩ => ?_))
   refine RD.done (doneD_ok kt312 (by kernel_rfl)) ?_
   refine MX.inBlock ?_
   refine MX.roundEnd hb295 hS342 (.tl (.tl .hd)) (fun w346 hS347 hT348 => ?_)
   refine RG.val' (.yes rfl rfl) (FV.not rfl) rfl ?_
   refine RG.vv (FV.pick_f rfl rfl) rfl ?_
   refine RG.nil ?_
   refine MX.cond_f rfl ?_
   refine MX.skip ?_
   refine MX.inBlock ?_
   refine MX.region ?_
   refine RG.vv (FV.addN (i := i239) (j := 1) rfl rfl (by omega)) rfl ?_
   refine RG.mv rfl rfl ?_
   refine RG.nil ?_
   obtain ⟨hS349, hT350⟩ := St.arrB hS347 (.one (.tl (.tl .hd)) (.one (.tl (.tl .hd)) (.one (.tl (.tl .hd)) (.one (.tl (.tl .hd)) (.one (.tl (.tl .hd)) (.one (.tl (.tl .hd)) (.one (.tl (.tl .hd)) .done)))))))
   have hm351 := Cells.mv hc344 (Tr.trans hT348 hT350)
   exact hJ251 (i239 + 1, xs340, cs345) _ _ ⟨rfl, rfl, rfl, rfl, trivial⟩ ⟨hS349, (Tr.trans hT244 (Tr.trans hT271 (Tr.trans hT278 (Tr.trans hT301 (Tr.trans hT308 (Tr.trans hT311 (Tr.trans hT343 (Tr.trans hT348 hT350)))))))), hm351⟩ h
  refine MX.exit rfl ?_
  have h := thn_inr h hh249
  try dsimp only at h
  refine MX.fin rfl ?_
  refine RT.leave (u := .tuple #[]) hb56 Tryz.func161 rfl .nil rfl ?_
  refine MX.endRange0 hS243 .hd (by intro h9; cases h9) (fun w352 hS353 hT354 => ?_)
  obtain ⟨hS355, hT356⟩ := St.arrB hS353 (.one (.tl .hd) (.one (.tl .hd) (.one (.tl .hd) (.one (.tl .hd) (.one (.tl .hd) (.one (.tl .hd) .done))))))
  refine MX.inBlock ?_
  refine MX.sr ?_
  refine RG.vv (FV.load1 (by kernel_rfl) rfl ((hS355.memA (.tl (.tl .hd))) 0 _ rfl)) rfl ?_
  refine RG.sg rfl rfl ?_
  refine RG.nil ?_
  refine MX.ret rfl ?_
  refine RT.take hS355 .hd (fun w357 hS358 hT359 => ?_)
  obtain ⟨hS360, hT361⟩ := St.arrB hS358 (.one (.tl .hd) (.one (.tl .hd) (.one (.tl .hd) (.one (.tl .hd) (.one (.tl .hd) .done)))))
  have hm365 := Cells.mv hc242 (Tr.trans hT354 (Tr.trans hT356 (Tr.trans hT359 hT361)))
  have hr362 := St.freeze (α := Int) hS360 (.tl (.tl .hd)) hm365 hL
  have hS363 := St.delS hS360 (.tl (.tl .hd))
  have hT364 := St.delT hS360 (.tl (.tl .hd))
  have hr366 := Rep.at_ (α := Int) (v := (.slice (some ⟨b29, 0, none⟩) a0.fk.toNat a0.fk.toNat)) (xs := xs240) hS363 L hr362
  refine RT.leave hb0 Tryz.func58 rfl (.cons (.tmp rfl) .nil) rfl ?_
  obtain rfl := Option.some.inj h
  exact ⟨hS363.ag, fun w9 hw9 => okOf_in ⟨(.slice (some ⟨b29, 0, none⟩) a0.fk.toNat a0.fk.toNat), rfl, Rep.keep0 (Rep.dropS hS363 hr366) hw9⟩⟩
def balance_least_l1 (_n : Nat) (a1 : List Int) (J27 : Int × Nat → Option Int) : Int × Nat → Option Int
  | (z18, i19) => (if i19 < a1.length then (a1[i19]?).bind fun x30 => J27 (min z18 x30, i19 + 1) else some z18)
def balance_least_p (n : Nat) (a0 : Int) (a1 : List Int) : Option Int :=
  Option.bind (loopF (balance_least_l1 n a1) n (a0, 0)) (fun z18 => some z18)
set_option maxRecDepth 4000 in
set_option maxHeartbeats 4000000 in
theorem balance_least_c (n : Nat) (L : List Nat) (w : World) (_hL : ∀ b ∈ L, b < w.heap.size) (a0 : Int) (a1 : List Int) {v1_0 : Value} (h1_0 : Rep.R w L [v1_0] a1)  {r : Int} (h : balance_least_p n a0 a1 = some r) :
    Calls Tryz.prog 59 #[.int .i64 a0, v1_0] w (Gives w fun _ u => u = .int .i64 r) := by
  unfold balance_least_p at h
  have hS0 := St.start w
  refine MX.start Tryz.func59 rfl rfl rfl (fun _ cs0 hb0 => ?_)
  refine MX.sr ?_
  refine RG.sg rfl rfl ?_
  refine RG.nil ?_
  refine MX.seq ?_
  refine MX.sr ?_
  refine RG.mv rfl rfl ?_
  have hl1 : a1.length ≤ 281474976710656 := Rep.lenle h1_0
  refine RG.vv (FV.len (xs := a1) Tryz.underlying45 rfl h1_0) rfl ?_
  refine RG.mv rfl rfl ?_
  refine RG.nil ?_
  refine MX.block ?_
  obtain ⟨o25, ho24, hh26⟩ := bind_in2 h
  refine MX.loop (α := Int × Nat) (fun ⟨z18, i19⟩ => [(0, .int .i64 z18), (7, v1_0), (8, .int .i64 ((a1.length : Nat) : Int)), (9, .int .i64 ((i19 : Nat) : Int))]) (fun ⟨z18, i19⟩ wx19 => St w wx19 [] ∧ Tr w [] wx19 []) (fun ⟨z18, i19⟩ => (z18, i19)) (a0, 0) ho24 ⟨rfl, rfl, rfl, rfl, trivial⟩ ⟨hS0, Tr.refl _ _⟩ ?_
  rintro J27 ⟨z18, i19⟩ wx19 hJ28 ⟨hS20, hT21⟩ h
  unfold balance_least_l1 at h
  try dsimp only at h
  refine MX.sr ?_
  refine RG.vv (FV.lssN (i := i19) (j := a1.length) rfl rfl) rfl ?_
  refine RG.nil ?_
  refine MX.seq ?_
  refine MX.ifd rfl h (fun c29 h => ?_) (fun c29 h => ?_)
  ·skip
   refine MX.skip ?_
   refine MX.seq ?_
   refine MX.block ?_
   refine MX.sr ?_
   obtain ⟨x30, hx30, h⟩ := bind_in h
   have hm38 := Rep.mv h1_0 hT21
   obtain ⟨A31, c32, he33, hk34, cs35, hr36, hm37⟩ := Rep.nth hm38 hx30
   have he39 : cs35 = [.int .i64 x30] := hr36; subst he39
   refine RG.vv (FV.idxAddr (m := 1) (i := i19) (by kernel_rfl) rfl he33 rfl rfl hk34) rfl ?_
   refine RG.vv (FV.load1 (by kernel_rfl) rfl (hm37 0 _ rfl)) rfl ?_
   refine RG.sg rfl rfl ?_
   refine RG.nil ?_
   refine MX.region ?_
   refine RG.mv rfl rfl ?_
   refine RG.mv rfl rfl ?_
   refine RG.vv (FV.min2 (i := z18) (j := x30) rfl rfl) rfl ?_
   refine RG.sg rfl rfl ?_
   refine RG.nil ?_
   refine MX.inBlock ?_
   refine MX.region ?_
   refine RG.vv (FV.addN (i := i19) (j := 1) rfl rfl (by omega)) rfl ?_
   refine RG.mv rfl rfl ?_
   refine RG.nil ?_
   exact hJ28 (min z18 x30, i19 + 1) _ _ ⟨rfl, rfl, rfl, rfl, trivial⟩ ⟨hS20, hT21⟩ h
  refine MX.exit rfl ?_
  have h := hh26 _ h
  try dsimp only at h
  refine MX.sr ?_
  refine RG.mv rfl rfl ?_
  refine RG.sg rfl rfl ?_
  refine RG.nil ?_
  refine MX.ret rfl ?_
  refine RT.leave hb0 Tryz.func59 rfl (.cons (.tmp rfl) .nil) rfl ?_
  obtain rfl := Option.some.inj h
  exact ⟨hS20.ag, fun w9 hw9 => rfl⟩
def balance_greatest_l1 (_n : Nat) (a1 : List Int) (J27 : Int × Nat → Option Int) : Int × Nat → Option Int
  | (z18, i19) => (if i19 < a1.length then (a1[i19]?).bind fun x30 => J27 (max z18 x30, i19 + 1) else some z18)
def balance_greatest_p (n : Nat) (a0 : Int) (a1 : List Int) : Option Int :=
  Option.bind (loopF (balance_greatest_l1 n a1) n (a0, 0)) (fun z18 => some z18)
set_option maxRecDepth 4000 in
set_option maxHeartbeats 4000000 in
theorem balance_greatest_c (n : Nat) (L : List Nat) (w : World) (_hL : ∀ b ∈ L, b < w.heap.size) (a0 : Int) (a1 : List Int) {v1_0 : Value} (h1_0 : Rep.R w L [v1_0] a1)  {r : Int} (h : balance_greatest_p n a0 a1 = some r) :
    Calls Tryz.prog 60 #[.int .i64 a0, v1_0] w (Gives w fun _ u => u = .int .i64 r) := by
  unfold balance_greatest_p at h
  have hS0 := St.start w
  refine MX.start Tryz.func60 rfl rfl rfl (fun _ cs0 hb0 => ?_)
  refine MX.sr ?_
  refine RG.sg rfl rfl ?_
  refine RG.nil ?_
  refine MX.seq ?_
  refine MX.sr ?_
  refine RG.mv rfl rfl ?_
  have hl1 : a1.length ≤ 281474976710656 := Rep.lenle h1_0
  refine RG.vv (FV.len (xs := a1) Tryz.underlying45 rfl h1_0) rfl ?_
  refine RG.mv rfl rfl ?_
  refine RG.nil ?_
  refine MX.block ?_
  obtain ⟨o25, ho24, hh26⟩ := bind_in2 h
  refine MX.loop (α := Int × Nat) (fun ⟨z18, i19⟩ => [(0, .int .i64 z18), (7, v1_0), (8, .int .i64 ((a1.length : Nat) : Int)), (9, .int .i64 ((i19 : Nat) : Int))]) (fun ⟨z18, i19⟩ wx19 => St w wx19 [] ∧ Tr w [] wx19 []) (fun ⟨z18, i19⟩ => (z18, i19)) (a0, 0) ho24 ⟨rfl, rfl, rfl, rfl, trivial⟩ ⟨hS0, Tr.refl _ _⟩ ?_
  rintro J27 ⟨z18, i19⟩ wx19 hJ28 ⟨hS20, hT21⟩ h
  unfold balance_greatest_l1 at h
  try dsimp only at h
  refine MX.sr ?_
  refine RG.vv (FV.lssN (i := i19) (j := a1.length) rfl rfl) rfl ?_
  refine RG.nil ?_
  refine MX.seq ?_
  refine MX.ifd rfl h (fun c29 h => ?_) (fun c29 h => ?_)
  ·skip
   refine MX.skip ?_
   refine MX.seq ?_
   refine MX.block ?_
   refine MX.sr ?_
   obtain ⟨x30, hx30, h⟩ := bind_in h
   have hm38 := Rep.mv h1_0 hT21
   obtain ⟨A31, c32, he33, hk34, cs35, hr36, hm37⟩ := Rep.nth hm38 hx30
   have he39 : cs35 = [.int .i64 x30] := hr36; subst he39
   refine RG.vv (FV.idxAddr (m := 1) (i := i19) (by kernel_rfl) rfl he33 rfl rfl hk34) rfl ?_
   refine RG.vv (FV.load1 (by kernel_rfl) rfl (hm37 0 _ rfl)) rfl ?_
   refine RG.sg rfl rfl ?_
   refine RG.nil ?_
   refine MX.region ?_
   refine RG.mv rfl rfl ?_
   refine RG.mv rfl rfl ?_
   refine RG.vv (FV.max2 (i := z18) (j := x30) rfl rfl) rfl ?_
   refine RG.sg rfl rfl ?_
   refine RG.nil ?_
   refine MX.inBlock ?_
   refine MX.region ?_
   refine RG.vv (FV.addN (i := i19) (j := 1) rfl rfl (by omega)) rfl ?_
   refine RG.mv rfl rfl ?_
   refine RG.nil ?_
   exact hJ28 (max z18 x30, i19 + 1) _ _ ⟨rfl, rfl, rfl, rfl, trivial⟩ ⟨hS20, hT21⟩ h
  refine MX.exit rfl ?_
  have h := hh26 _ h
  try dsimp only at h
  refine MX.sr ?_
  refine RG.mv rfl rfl ?_
  refine RG.sg rfl rfl ?_
  refine RG.nil ?_
  refine MX.ret rfl ?_
  refine RT.leave hb0 Tryz.func60 rfl (.cons (.tmp rfl) .nil) rfl ?_
  obtain rfl := Option.some.inj h
  exact ⟨hS20.ag, fun w9 hw9 => rfl⟩
def tb57_4 : List (Nat × Nat × Nat) := [(0, 131072, 64), (1, 262144, 131072), (2, 524288, 262144), (0, 1048576, 64), (12, 2097152, 1572864), (0, 4194304, 128), (32, 8388608, 4194304), (80, 16777216, 10485760), (144, 33554432, 16777216), (256, 67108864, 33554496), (768, 134217728, 100663296), (1280, 268435456, 167772160), (256, 536870912, 33554496), (6400, 1073741824, 838860800), (256, 2147483648, 33554560), (16640, 4294967296, 2181038080), (41216, 8589934592, 5402263552), (65792, 17179869184, 8623489024), (262143, 16, 17179869184)]
theorem body58 : bodyB Tryz.prog 58 = true := by kernel_rfl
theorem body59 : bodyB Tryz.prog 59 = true := by kernel_rfl
theorem body60 : bodyB Tryz.prog 60 = true := by kernel_rfl
def balance_Within_1_p (n : Nat) (a0 : TRoll) (a1 : Int) (a2 : List Int) (a3 : TShare) : Option (Except Tbroken Bool) :=
  (balance_counted_p n a0 a1).bind fun y1 => exc y1 (fun y3 => (balance_count_totals_p n y3 a2).bind fun y25 => exc y25 (fun y27 => (balance_count_within_p n y3 a3).bind fun y44 => exc y44 (fun y46 => (y27[0]?).bind fun x64 => (balance_least_p n x64 y27).bind fun y74 => (if y46.flow ≤ y74 then (balance_greatest_p n x64 y27).bind fun y76 => some (.ok (decide (y76 ≤ y46.fhigh))) else some (.ok false))) (fun e45 => some (.error e45))) (fun e26 => some (.error e26))) (fun e2 => some (.error e2))
set_option maxRecDepth 4000 in
set_option maxHeartbeats 4000000 in
theorem balance_Within_1_c (n : Nat) (L : List Nat) (w : World) (hL : ∀ b ∈ L, b < w.heap.size) (a0 : TRoll) {v0_3 : Value} (h0_3 : Rep.R w L [v0_3] a0.fUnits) {p0 : Nat} (m0 : ∀ j9 v9, ([.int .i64 a0.fGroups, .int .i64 a0.fParties, .int .i64 a0.fLevels, v0_3] : List Value)[j9]? = some v9 → w.cell? ((⟨p0, 0, none⟩ : Addr).add j9) = some v9) (a1 : Int) {p1 : Nat} (m1 : ∀ j9 v9, ([.int .i64 a1] : List Value)[j9]? = some v9 → w.cell? ((⟨p1, 0, none⟩ : Addr).add j9) = some v9) (a2 : List Int) {v2_0 : Value} (h2_0 : Rep.R w L [v2_0] a2) {p2 : Nat} (m2 : ∀ j9 v9, ([v2_0] : List Value)[j9]? = some v9 → w.cell? ((⟨p2, 0, none⟩ : Addr).add j9) = some v9) (a3 : TShare) {p3 : Nat} (m3 : ∀ j9 v9, ((cs_TShare a3) : List Value)[j9]? = some v9 → w.cell? ((⟨p3, 0, none⟩ : Addr).add j9) = some v9)  {r : Except Tbroken Bool} (h : balance_Within_1_p n a0 a1 a2 a3 = some r) :
    Calls Tryz.prog 57 #[.pointer (some ⟨p0, 0, none⟩), .pointer (some ⟨p1, 0, none⟩), .pointer (some ⟨p2, 0, none⟩), .pointer (some ⟨p3, 0, none⟩)] w (PGives w (fun (y : Bool) _ u => u = .bool y) (fun e => .iface 140 (.agg #[.int .i64 e.fErrno])) r) := by
  unfold balance_Within_1_p at h
  have hS0 := St.start w
  refine MX.startP Tryz.func57 rfl rfl rfl (fun _ cs0 hb0 hp0 => ?_)
  refine MX.sr ?_
  refine RG.sg rfl rfl ?_
  refine RG.nil ?_
  refine MX.sr ?_
  refine RG.vv (FV.loadN (by kernel_rfl) rfl (fun j9 v9 h9 => hS0.ag.cell0 (m0 j9 v9 h9))) rfl ?_
  refine RG.vv (FV.load1 (by kernel_rfl) rfl ((fun j9 v9 h9 => hS0.ag.cell0 (m1 j9 v9 h9)) 0 _ rfl)) rfl ?_
  obtain ⟨y1, hy1, h⟩ := bind_in h
  rcases y1 with e2 | y3
  ·skip
   have h := exc_e h
   try dsimp only at h
   refine RG.callE (fst := []) (cap := []) .plain body50 rfl (evs_cons rfl (evs_cons rfl evs_nil)) (fun w9 hw9 => balance_counted_c n _ w9 (hS0.hL hL hw9) a0 (Rep.keep0 h0_3 hw9) a1 hy1) (fun w4 hag5 => ?_)
   obtain ⟨hS6, hT7⟩ := hS0.agr hag5
   obtain rfl := Option.some.inj h
   exact PN.leave hp0 Tryz.func57 ⟨hS6.ag, rfl⟩
  have h := exc_o h
  try dsimp only at h
  refine RG.call' (fst := []) (cap := []) .plain body50 rfl (evs_cons rfl (evs_cons rfl evs_nil)) (fun w9 hw9 => Calls.okp (balance_counted_c n _ w9 (hS0.hL hL hw9) a0 (Rep.keep0 h0_3 hw9) a1 hy1)) rfl (fun w9 vu10 hag11 ⟨v14, hu_, hr15⟩ => ?_)
  subst hu_
  obtain ⟨hS12, hT13⟩ := hS0.agr hag11
  refine RG.new .plain rfl (Does.alloc (zs := [.int .i64 0, .int .i64 0, .int .i64 0, .slice none 0 0, .int .i64 0]) hS12 (zB (by kernel_rfl))) (fun w17 b20 hS18 hT19 => ?_)
  have hm21 := Rep.mv hr15 hT19
  refine RG.now .plain (Acts.storeAll (news := [.int .i64 y3.fRoll.fGroups, .int .i64 y3.fRoll.fParties, .int .i64 y3.fRoll.fLevels, v14, .int .i64 y3.fk]) hS18 .hd rfl rfl rfl rfl rfl rfl (ones_cons rfl (ones_cons rfl (ones_cons rfl (ones_cons (Rep.o1 hm21) (ones_cons rfl ones_nil)))))) (fun w22 hS23 hT24 => ?_)
  refine RG.nil ?_
  refine MX.sr ?_
  refine RG.vv (FV.loadN (by kernel_rfl) rfl (hS23.memA .hd)) rfl ?_
  refine RG.vv (FV.load1 (by kernel_rfl) rfl ((fun j9 v9 h9 => hS23.ag.cell0 (m2 j9 v9 h9)) 0 _ rfl)) rfl ?_
  obtain ⟨y25, hy25, h⟩ := bind_in h
  rcases y25 with e26 | y27
  ·skip
   have h := exc_e h
   try dsimp only at h
   have hm28 := Rep.mv hr15 (Tr.trans hT19 hT24)
   have hm29 := Rep.mv h2_0 (Tr.trans hT13 (Tr.trans hT19 hT24))
   refine RG.callE (fst := []) (cap := []) .plain body58 rfl (evs_cons rfl (evs_cons rfl evs_nil)) (fun w9 hw9 => balance_count_totals_c n _ w9 (hS23.hL hL hw9) y3 (Rep.keep0 hm28 hw9) a2 (Rep.keep0 hm29 hw9) hy25) (fun w30 hag31 => ?_)
   obtain ⟨hS32, hT33⟩ := hS23.agr hag31
   obtain rfl := Option.some.inj h
   exact PN.leave hp0 Tryz.func57 ⟨hS32.ag, rfl⟩
  have h := exc_o h
  try dsimp only at h
  have hm35 := Rep.mv hr15 (Tr.trans hT19 hT24)
  have hm36 := Rep.mv h2_0 (Tr.trans hT13 (Tr.trans hT19 hT24))
  refine RG.call' (fst := []) (cap := []) .plain body58 rfl (evs_cons rfl (evs_cons rfl evs_nil)) (fun w9 hw9 => Calls.okp (balance_count_totals_c n _ w9 (hS23.hL hL hw9) y3 (Rep.keep0 hm35 hw9) a2 (Rep.keep0 hm36 hw9) hy25)) rfl (fun w37 vu38 hag39 ⟨v42, hu_, hr43⟩ => ?_)
  subst hu_
  obtain ⟨hS40, hT41⟩ := hS23.agr hag39
  refine RG.sg rfl rfl ?_
  refine RG.nil ?_
  refine MX.sr ?_
  refine RG.vv (FV.loadN (by kernel_rfl) rfl (hS40.memA .hd)) rfl ?_
  refine RG.vv (FV.loadN (by kernel_rfl) rfl (fun j9 v9 h9 => hS40.ag.cell0 (m3 j9 v9 h9))) rfl ?_
  obtain ⟨y44, hy44, h⟩ := bind_in h
  rcases y44 with e45 | y46
  ·skip
   have h := exc_e h
   try dsimp only at h
   have hm47 := Rep.mv hr15 (Tr.trans hT19 (Tr.trans hT24 hT41))
   refine RG.callE (fst := []) (cap := []) .plain body51 rfl (evs_cons rfl (evs_cons rfl evs_nil)) (fun w9 hw9 => balance_count_within_c n _ w9 (hS40.hL0 hL hw9) y3 (Rep.keep0 (Rep.dropS hS40 hm47) hw9) a3 hy44) (fun w48 hag49 => ?_)
   obtain ⟨hS50, hT51⟩ := hS40.agr hag49
   obtain rfl := Option.some.inj h
   exact PN.leave hp0 Tryz.func57 ⟨hS50.ag, rfl⟩
  have h := exc_o h
  try dsimp only at h
  have hm53 := Rep.mv hr15 (Tr.trans hT19 (Tr.trans hT24 hT41))
  refine RG.cq (.agg #[.int .i64 y46.flow, .int .i64 y46.fhigh]) body51 rfl (evs_cons rfl (evs_cons rfl evs_nil)) (fun w9 hw9 => Calls.okp (balance_count_within_c n _ w9 (hS40.hL0 hL hw9) y3 (Rep.keep0 (Rep.dropS hS40 hm53) hw9) a3 hy44)) rfl ?_
  refine RG.new .plain rfl (Does.alloc (zs := [.int .i64 0, .int .i64 0]) hS40 (zB (by kernel_rfl))) (fun w55 b58 hS56 hT57 => ?_)
  refine RG.now .plain (Acts.storeAll (news := [.int .i64 y46.flow, .int .i64 y46.fhigh]) hS56 .hd rfl rfl rfl rfl rfl rfl (onesB rfl)) (fun w59 hS60 hT61 => ?_)
  refine RG.nil ?_
  refine MX.seq ?_
  refine MX.drawT 19 tb57_4 (by kernel_rfl) (by kernel_rfl) (by kernel_rfl) (fun kt62 kp63 => ?_)
  refine RD.vw 0 1 kt62 rfl kp63 (fun _ => FV.move rfl) rfl ?_
  obtain ⟨x64, hx64, h⟩ := bind_in h
  have hm72 := Rep.mv hr43 (Tr.trans hT57 hT61)
  obtain ⟨A65, c66, he67, hk68, cs69, hr70, hm71⟩ := Rep.nth hm72 hx64
  have he73 : cs69 = [.int .i64 x64] := hr70; subst he73
  refine RD.vw 1 3 kt62 rfl kp63 (fun _ => FV.idxAddr (m := 1) (i := 0) (by kernel_rfl) rfl he67 rfl rfl hk68) rfl ?_
  refine RD.vx 2 7 524176 kt62 rfl kp63 (FV.load1 (by kernel_rfl) rfl (hm71 0 _ rfl)) rfl ?_
  refine RD.vw 3 15 kt62 rfl kp63 (fun _ => FV.move rfl) rfl ?_
  obtain ⟨y74, hy74, h⟩ := bind_in h
  refine RD.cq 4 31 524160 (.int .i64 y74) kt62 rfl kp63 body59 rfl (evs_cons rfl (evs_cons rfl evs_nil)) (fun w9 hw9 => balance_least_c n _ w9 (hS60.hL0 hL hw9) x64 y27 (Rep.keep0 (Rep.dropS hS60 hm72) hw9) hy74) rfl ?_
  refine RD.vw 5 63 kt62 rfl kp63 (fun _ => FV.fieldAddr (off := 0) (by kernel_rfl) rfl) rfl ?_
  refine RD.vx 6 127 524160 kt62 rfl kp63 (FV.load1 (by kernel_rfl) rfl ((hS60.memA .hd) 0 _ rfl)) rfl ?_
  refine RD.vw 7 255 kt62 rfl kp63 (fun _ => FV.geq (i := y74) (j := y46.flow) rfl rfl) rfl ?_
  refine RD.vw 8 511 kt62 rfl kp63 (fun _ => FV.move rfl) rfl ?_
  refine RD.ifd (s := 25) rfl h (fun c75 h => ?_) (fun c75 h => ?_)
  ·skip
   refine RD.vP 9 1023 kt62 rfl kp63 (.yes rfl rfl) (fun _ => FV.move rfl) rfl ?_
   refine RD.vP 10 2047 kt62 rfl kp63 (.yes rfl rfl) (fun _ => FV.idxAddr (m := 1) (i := 0) (by kernel_rfl) rfl he67 rfl rfl hk68) rfl ?_
   refine RD.val (i := 11) (m' := 4095) (W := 466944) (takeC_ok kt62 (by kernel_rfl)) rfl kp63 (.yes rfl rfl) (FV.load1 (by kernel_rfl) rfl (hm71 0 _ rfl)) rfl ?_
   refine RD.vP 12 8191 kt62 rfl kp63 (.yes rfl rfl) (fun _ => FV.move rfl) rfl ?_
   obtain ⟨y76, hy76, h⟩ := bind_in h
   refine RD.callq (i := 13) (m' := 16383) (W := 458752) (takeC_ok kt62 (by kernel_rfl)) rfl kp63 (v := .int .i64 y76) (fst := []) (cap := []) (.yes rfl rfl) body60 rfl (evs_cons rfl (evs_cons rfl evs_nil)) (fun w9 hw9 => balance_greatest_c n _ w9 (hS60.hL0 hL hw9) x64 y27 (Rep.keep0 (Rep.dropS hS60 hm72) hw9) hy76) rfl ?_
   refine RD.vP 14 32767 kt62 rfl kp63 (.yes rfl rfl) (fun _ => FV.fieldAddr (off := 1) (by kernel_rfl) rfl) rfl ?_
   refine RD.val (i := 15) (m' := 65535) (W := 458752) (takeC_ok kt62 (by kernel_rfl)) rfl kp63 (.yes rfl rfl) (FV.load1 (by kernel_rfl) rfl ((hS60.memA .hd) 1 _ rfl)) rfl ?_
   refine RD.vP 16 131071 kt62 rfl kp63 (.yes rfl rfl) (fun _ => FV.leq (i := y76) (j := y46.fhigh) rfl rfl) rfl ?_
   refine RD.vw 17 262143 kt62 rfl kp63 (fun _ => FV.pick_t rfl rfl) rfl ?_
   refine RD.vw 18 524287 kt62 rfl kp63 (fun _ => FV.assign rfl) rfl ?_
   refine RD.done (doneD_ok kt62 (by kernel_rfl)) ?_
   refine MX.ret rfl ?_
   refine RT.leave hb0 Tryz.func57 rfl (.cons (.tmp rfl) .nil) rfl ?_
   obtain rfl := Option.some.inj h
   exact ⟨hS60.ag, fun w9 hw9 => okOf_in rfl⟩
  refine RD.offs 131071 2 [(9, 26), (10, 27), (11, 28), (12, 29), (13, 30), (14, 31), (15, 32), (16, 33)] (F := [(25, false)]) (U := []) kt62 kp63 (.cons rfl .nil) .nil ?_
  dsimp only [offS, List.map]
  refine RD.vw 17 262143 kt62 rfl kp63 (fun _ => FV.pick_f rfl rfl) rfl ?_
  refine RD.vw 18 524287 kt62 rfl kp63 (fun _ => FV.assign rfl) rfl ?_
  refine RD.done (doneD_ok kt62 (by kernel_rfl)) ?_
  refine MX.ret rfl ?_
  refine RT.leave hb0 Tryz.func57 rfl (.cons (.tmp rfl) .nil) rfl ?_
  obtain rfl := Option.some.inj h
  exact ⟨hS60.ag, fun w9 hw9 => okOf_in rfl⟩
def tb119_6 : List (Nat × Nat × Nat) := [(0, 131072, 32), (0, 262144, 8), (2, 524288, 262144), (1, 0, 131073), (15, 0, 524290)]
theorem body56 : bodyB Tryz.prog 56 = true := by kernel_rfl
theorem body57 : bodyB Tryz.prog 57 = true := by kernel_rfl
theorem body119 : bodyB Tryz.prog 119 = true := by kernel_rfl
def balance_Within_p (n : Nat) (a0 : TRoll) (a1 : List Int) (a2 : Int) (a3 : TShare) : Option (Bool × Int) :=
  (balance_Within_1_p n a0 a2 a1 a3).bind fun y35 => exc y35 (fun y37 => some (y37, (0 : Int))) (fun e36 => some (false, e36.fErrno))
set_option maxRecDepth 4000 in
set_option maxHeartbeats 4000000 in
theorem balance_Within_c (n : Nat) (L : List Nat) (w : World) (hL : ∀ b ∈ L, b < w.heap.size) (a0 : TRoll) {v0_3 : Value} (h0_3 : Rep.R w L [v0_3] a0.fUnits) (a1 : List Int) {v1_0 : Value} (h1_0 : Rep.R w L [v1_0] a1) (a2 : Int) (a3 : TShare)  {r : Bool × Int} (h : balance_Within_p n a0 a1 a2 a3 = some r) :
    Calls Tryz.prog 15 #[.agg #[.int .i64 a0.fGroups, .int .i64 a0.fParties, .int .i64 a0.fLevels, v0_3], v1_0, .int .i64 a2, .agg ((cs_TShare a3)).toArray] w (Gives w fun _ u => u = .tuple #[.bool r.1, .int .i64 r.2]) := by
  unfold balance_Within_p at h
  have hS0 := St.start w
  refine MX.start Tryz.func15 rfl rfl rfl (fun _ cs0 hb0 => ?_)
  refine MX.sr ?_
  refine RG.new .plain rfl (Does.box (vs := [.int .i64 a0.fGroups, .int .i64 a0.fParties, .int .i64 a0.fLevels, v0_3]) hS0 rfl rfl) (fun w2 b5 hS3 hT4 => ?_)
  have hm7 := Rep.mv h1_0 hT4
  refine RG.new .plain rfl (Does.box (vs := [v1_0]) hS3 rfl (Rep.c1 hm7)) (fun w8 b11 hS9 hT10 => ?_)
  refine RG.new .plain rfl (Does.box (vs := [.int .i64 a2]) hS9 rfl rfl) (fun w13 b16 hS14 hT15 => ?_)
  refine RG.new .plain rfl (Does.box (vs := (cs_TShare a3)) hS14 rfl rfl) (fun w18 b21 hS19 hT20 => ?_)
  refine RG.sg rfl rfl ?_
  refine RG.sg rfl rfl ?_
  refine RG.nil ?_
  refine MX.sr ?_
  refine RG.vv (FV.makeFunc (vs := []) (us := [.pointer (some ⟨b5, 0, none⟩), .pointer (some ⟨b16, 0, none⟩), .pointer (some ⟨b11, 0, none⟩), .pointer (some ⟨b21, 0, none⟩)]) evs_nil (evs_cons rfl (evs_cons rfl (evs_cons rfl (evs_cons rfl evs_nil))))) rfl ?_
  refine RG.enterP (fst := []) (cap := []) (vs := [.func (.func 57) #[] #[.pointer (some ⟨b5, 0, none⟩), .pointer (some ⟨b16, 0, none⟩), .pointer (some ⟨b11, 0, none⟩), .pointer (some ⟨b21, 0, none⟩)]]) .plain body56 Tryz.func56 rfl rfl rfl rfl (evs_cons rfl evs_nil) rfl (fun cs23 hb22 hp24 => ?_)
  refine MX.sr ?_
  refine RG.new .plain rfl (Does.alloc (zs := [.bool false]) hS19 (zB (by kernel_rfl))) (fun w26 b29 hS27 hT28 => ?_)
  refine RG.new .plain rfl (Does.alloc (zs := [.int .i64 0]) hS27 (zB (by kernel_rfl))) (fun w31 b34 hS32 hT33 => ?_)
  refine RG.nil ?_
  refine MX.sr ?_
  refine RG.vv (FV.makeFunc (vs := []) (us := [.pointer (some ⟨b29, 0, none⟩), .pointer (some ⟨b34, 0, none⟩)]) evs_nil (evs_cons rfl (evs_cons rfl evs_nil))) rfl ?_
  refine RG.defer (fst := []) (cap := [.pointer (some ⟨b29, 0, none⟩), .pointer (some ⟨b34, 0, none⟩)]) (vs := []) rfl .plain rfl evs_nil ?_
  refine RG.nil ?_
  refine MX.sr ?_
  refine RG.mv rfl rfl ?_
  obtain ⟨y35, hy35, h⟩ := bind_in h
  rcases y35 with e36 | y37
  ·skip
   have h := exc_e h
   try dsimp only at h
   have hm38 := Rep.mv h0_3 (Tr.trans hT4 (Tr.trans hT10 (Tr.trans hT15 (Tr.trans hT20 (Tr.trans hT28 hT33)))))
   have hm39 := Rep.mv h1_0 (Tr.trans hT4 (Tr.trans hT10 (Tr.trans hT15 (Tr.trans hT20 (Tr.trans hT28 hT33)))))
   refine RG.callE (fst := []) (cap := [.pointer (some ⟨b5, 0, none⟩), .pointer (some ⟨b16, 0, none⟩), .pointer (some ⟨b11, 0, none⟩), .pointer (some ⟨b21, 0, none⟩)]) .plain body57 rfl evs_nil (fun w9 hw9 => balance_Within_1_c n _ w9 (hS32.hL0 hL hw9) a0 (Rep.keep0 (Rep.dropS hS32 hm38) hw9) (fun j9 v9 h9 => hw9.cell0 ((hS32.memA (.tl (.tl (.tl (.tl (.tl .hd)))))) j9 v9 h9)) a2 (fun j9 v9 h9 => hw9.cell0 ((hS32.memA (.tl (.tl (.tl .hd)))) j9 v9 h9)) a1 (Rep.keep0 (Rep.dropS hS32 hm39) hw9) (fun j9 v9 h9 => hw9.cell0 ((hS32.memA (.tl (.tl (.tl (.tl .hd))))) j9 v9 h9)) a3 (fun j9 v9 h9 => hw9.cell0 ((hS32.memA (.tl (.tl .hd))) j9 v9 h9)) hy35) (fun w40 hag41 => ?_)
   obtain ⟨hS42, hT43⟩ := hS32.agr hag41
   refine PN.callD (vs := []) (cap := [.pointer (some ⟨b29, 0, none⟩), .pointer (some ⟨b34, 0, none⟩)]) body119 Tryz.func119 rfl rfl rfl (fun c44 hc45 hk46 => ?_)
   refine MX.sr ?_
   refine RG.recover1 .plain hc45 rfl ?_
   refine RG.sg rfl rfl ?_
   refine RG.nil ?_
   refine MX.sr ?_
   refine RG.mv rfl rfl ?_
   refine RG.vv (FV.neqI Tryz.underlying20 rfl rfl) rfl ?_
   refine RG.nil ?_
   refine MX.cond_t rfl ?_
   refine MX.sr ?_
   refine RG.mv rfl rfl ?_
   refine RG.vv (FV.assertT (by kernel_rfl) rfl) rfl ?_
   refine RG.mv rfl rfl ?_
   refine RG.vv (FV.extract rfl rfl) rfl ?_
   refine RG.vv (FV.extract rfl rfl) rfl ?_
   refine RG.new .plain rfl (Does.alloc (zs := [.int .i64 0]) hS42 (zB (by kernel_rfl))) (fun w48 b51 hS49 hT50 => ?_)
   refine RG.now .plain (Acts.storeAll (news := [.int .i64 e36.fErrno]) hS49 .hd rfl rfl rfl rfl rfl rfl (ones_cons rfl ones_nil)) (fun w52 hS53 hT54 => ?_)
   refine RG.sg rfl rfl ?_
   refine RG.nil ?_
   refine MX.seq ?_
   refine MX.sr ?_
   refine RG.mv rfl rfl ?_
   refine RG.vv (FV.not rfl) rfl ?_
   refine RG.nil ?_
   refine MX.cond_f rfl ?_
   refine MX.skip ?_
   refine MX.sr ?_
   refine RG.sg rfl rfl ?_
   refine RG.nil ?_
   refine MX.drawT 3 tb119_6 (by kernel_rfl) (by kernel_rfl) (by kernel_rfl) (fun kt55 kp56 => ?_)
   refine RD.vw 0 1 kt55 rfl kp56 (fun _ => FV.move rfl) rfl ?_
   refine RD.vw 1 3 kt55 rfl kp56 (fun _ => FV.fieldAddr (off := 0) (by kernel_rfl) rfl) rfl ?_
   refine RD.meet (α := Unit) (fun () => [(1, .pointer (some ⟨b34, 0, none⟩)), (19, .int .i64 e36.fErrno)]) (fun () wx1259 => St w wx1259 [.cells b34 [.int .i64 0] 51, .cells b29 [.bool false] 4, .cells b21 (cs_TShare a3) 37, .cells b16 [.int .i64 a2] 3, .cells b11 [v1_0] 46, .cells b5 [.int .i64 a0.fGroups, .int .i64 a0.fParties, .int .i64 a0.fLevels, v0_3] 44] ∧ Tr w52 [.cells b51 [.int .i64 e36.fErrno] 140, .cells b34 [.int .i64 0] 51, .cells b29 [.bool false] 4, .cells b21 (cs_TShare a3) 37, .cells b16 [.int .i64 a2] 3, .cells b11 [v1_0] 46, .cells b5 [.int .i64 a0.fGroups, .int .i64 a0.fParties, .int .i64 a0.fLevels, v0_3] 44] wx1259 [.cells b34 [.int .i64 0] 51, .cells b29 [.bool false] 4, .cells b21 (cs_TShare a3) 37, .cells b16 [.int .i64 a2] 3, .cells b11 [v1_0] 46, .cells b5 [.int .i64 a0.fGroups, .int .i64 a0.fParties, .int .i64 a0.fLevels, v0_3] 44]) 1 15 ?_ ?_
   ·skip
    rintro ⟨⟩ wx1259 ⟨hS1260, hT1261⟩
    try dsimp only
    refine RD.nw 4 31 kt55 rfl rfl .plain (Acts.storeAll (news := [.int .i64 e36.fErrno]) hS1260 .hd rfl rfl rfl rfl rfl rfl (ones_cons rfl ones_nil)) (fun w1263 hS1264 hT1265 => ?_)
    refine RD.done (doneD_ok kt55 (by kernel_rfl)) ?_
    refine MX.fin rfl ?_
    refine RT.leaveD1 hk46 Tryz.func119 rfl .nil ?_
    refine RT.leave (u := .tuple #[.bool false, .int .i64 e36.fErrno]) hb22 Tryz.func56 rfl (.cons (.one (by kernel_rfl) rfl ((hS1264.memA (.tl .hd)) 0 _ rfl)) (.cons (.one (by kernel_rfl) rfl ((hS1264.memA .hd) 0 _ rfl)) .nil)) rfl ?_
    refine RG.vv (FV.extract rfl rfl) rfl ?_
    refine RG.vv (FV.extract rfl rfl) rfl ?_
    refine RG.sg rfl rfl ?_
    refine RG.sg rfl rfl ?_
    refine RG.nil ?_
    refine MX.ret rfl ?_
    refine RT.leave hb0 Tryz.func15 rfl (.cons (.tmp rfl) (.cons (.tmp rfl) .nil)) rfl ?_
    obtain rfl := Option.some.inj h
    exact ⟨hS1264.ag, fun w9 hw9 => rfl⟩
   ·skip
    intro hJ1266
    refine RD.each [2, 3] (readyD_ok kt55 (by kernel_rfl)) ⟨?_, ?_, trivial⟩
    ·skip
     refine RO.val (m' := 7) (stepC_ok kt55 (by kernel_rfl)) rfl .plain rfl (FV.load1 (by kernel_rfl) rfl ((hS53.memA .hd) 0 _ rfl)) ?_
     refine RD.nw 3 15 kt55 rfl rfl .plain (Acts.storeAll (news := [.bool false]) hS53 (.tl (.tl .hd)) rfl rfl rfl rfl rfl rfl (ones_cons rfl ones_nil)) (fun w657 hS658 hT659 => ?_)
     obtain ⟨hS1267, hT1268⟩ := St.arrB hS658 (.one (.tl .hd) (.one (.tl .hd) (.one (.tl .hd) (.one (.tl .hd) (.one (.tl .hd) (.one (.tl .hd) .done))))))
     exact hJ1266 () _ _ ⟨rfl, rfl, trivial⟩ ⟨hS1267, (Tr.trans hT659 hT1268)⟩
    ·skip
     refine RO.now (m' := 11) (stepC_ok kt55 (by kernel_rfl)) rfl rfl .plain (Acts.storeAll (news := [.bool false]) hS53 (.tl (.tl .hd)) rfl rfl rfl rfl rfl rfl (ones_cons rfl ones_nil)) (fun w657 hS658 hT659 => ?_)
     refine RD.vx 2 15 16 kt55 rfl kp56 (FV.load1 (by kernel_rfl) rfl ((hS658.memA .hd) 0 _ rfl)) rfl ?_
     obtain ⟨hS1269, hT1270⟩ := St.arrB hS658 (.one (.tl .hd) (.one (.tl .hd) (.one (.tl .hd) (.one (.tl .hd) (.one (.tl .hd) (.one (.tl .hd) .done))))))
     exact hJ1266 () _ _ ⟨rfl, rfl, trivial⟩ ⟨hS1269, (Tr.trans hT659 hT1270)⟩
  have h := exc_o h
  try dsimp only at h
  have hm1272 := Rep.mv h0_3 (Tr.trans hT4 (Tr.trans hT10 (Tr.trans hT15 (Tr.trans hT20 (Tr.trans hT28 hT33)))))
  have hm1273 := Rep.mv h1_0 (Tr.trans hT4 (Tr.trans hT10 (Tr.trans hT15 (Tr.trans hT20 (Tr.trans hT28 hT33)))))
  refine RG.callq' (v := .bool y37) (fst := []) (cap := [.pointer (some ⟨b5, 0, none⟩), .pointer (some ⟨b16, 0, none⟩), .pointer (some ⟨b11, 0, none⟩), .pointer (some ⟨b21, 0, none⟩)]) .plain body57 rfl evs_nil (fun w9 hw9 => Calls.okp (balance_Within_1_c n _ w9 (hS32.hL0 hL hw9) a0 (Rep.keep0 (Rep.dropS hS32 hm1272) hw9) (fun j9 v9 h9 => hw9.cell0 ((hS32.memA (.tl (.tl (.tl (.tl (.tl .hd)))))) j9 v9 h9)) a2 (fun j9 v9 h9 => hw9.cell0 ((hS32.memA (.tl (.tl (.tl .hd)))) j9 v9 h9)) a1 (Rep.keep0 (Rep.dropS hS32 hm1273) hw9) (fun j9 v9 h9 => hw9.cell0 ((hS32.memA (.tl (.tl (.tl (.tl .hd))))) j9 v9 h9)) a3 (fun j9 v9 h9 => hw9.cell0 ((hS32.memA (.tl (.tl .hd))) j9 v9 h9)) hy35)) rfl ?_
  refine RG.now .plain (Acts.storeAll (news := [.bool y37]) hS32 (.tl .hd) rfl rfl rfl rfl rfl rfl (ones_cons rfl ones_nil)) (fun w1274 hS1275 hT1276 => ?_)
  refine RG.now .plain (Acts.storeAll (news := [.int .i64 0]) hS1275 .hd rfl rfl rfl rfl rfl rfl (ones_cons rfl ones_nil)) (fun w1277 hS1278 hT1279 => ?_)
  refine RG.nil ?_
  refine MX.ret rfl ?_
  refine RT.callD (vs := []) (cap := [.pointer (some ⟨b29, 0, none⟩), .pointer (some ⟨b34, 0, none⟩)]) body119 Tryz.func119 rfl rfl rfl (fun c1280 hc1281 hk1282 => ?_)
  refine MX.sr ?_
  refine RG.recover0 .plain hc1281 rfl ?_
  refine RG.sg rfl rfl ?_
  refine RG.nil ?_
  refine MX.sr ?_
  refine RG.mv rfl rfl ?_
  refine RG.vv (FV.neqI0 Tryz.underlying20 rfl rfl) rfl ?_
  refine RG.nil ?_
  refine MX.cond_f rfl ?_
  refine MX.skip ?_
  refine MX.fin rfl ?_
  refine RT.leaveD0 hc1281 hk1282 Tryz.func119 rfl .nil ?_
  refine RT.leave (u := .tuple #[.bool y37, .int .i64 0]) hb22 Tryz.func56 rfl (.cons (.one (by kernel_rfl) rfl ((hS1278.memA (.tl .hd)) 0 _ rfl)) (.cons (.one (by kernel_rfl) rfl ((hS1278.memA .hd) 0 _ rfl)) .nil)) rfl ?_
  refine RG.vv (FV.extract rfl rfl) rfl ?_
  refine RG.vv (FV.extract rfl rfl) rfl ?_
  refine RG.sg rfl rfl ?_
  refine RG.sg rfl rfl ?_
  refine RG.nil ?_
  refine MX.ret rfl ?_
  refine RT.leave hb0 Tryz.func15 rfl (.cons (.tmp rfl) (.cons (.tmp rfl) .nil)) rfl ?_
  obtain rfl := Option.some.inj h
  exact ⟨hS1278.ag, fun w9 hw9 => rfl⟩
def tb67_1 : List (Nat × Nat × Nat) := [(0, 16, 1), (0, 32, 2), (3, 64, 48), (0, 128, 4), (12, 256, 192), (31, 8, 256)]
def balance_Totals_1_p (n : Nat) (a0 : TRoll) (a1 : Int) (a2 : List Int) : Option (Except Tbroken (List Int)) :=
  (balance_counted_p n a0 a1).bind fun y3 => exc y3 (fun y5 => (balance_count_totals_p n y5 a2).bind fun y18 => exc y18 (fun y20 => some (.ok y20)) (fun e19 => some (.error e19))) (fun e4 => some (.error e4))
set_option maxRecDepth 4000 in
set_option maxHeartbeats 4000000 in
theorem balance_Totals_1_c (n : Nat) (L : List Nat) (w : World) (hL : ∀ b ∈ L, b < w.heap.size) (a0 : TRoll) {v0_3 : Value} (h0_3 : Rep.R w L [v0_3] a0.fUnits) {p0 : Nat} (m0 : ∀ j9 v9, ([.int .i64 a0.fGroups, .int .i64 a0.fParties, .int .i64 a0.fLevels, v0_3] : List Value)[j9]? = some v9 → w.cell? ((⟨p0, 0, none⟩ : Addr).add j9) = some v9) (a1 : Int) {p1 : Nat} (m1 : ∀ j9 v9, ([.int .i64 a1] : List Value)[j9]? = some v9 → w.cell? ((⟨p1, 0, none⟩ : Addr).add j9) = some v9) (a2 : List Int) {v2_0 : Value} (h2_0 : Rep.R w L [v2_0] a2) {p2 : Nat} (m2 : ∀ j9 v9, ([v2_0] : List Value)[j9]? = some v9 → w.cell? ((⟨p2, 0, none⟩ : Addr).add j9) = some v9)  {r : Except Tbroken (List Int)} (h : balance_Totals_1_p n a0 a1 a2 = some r) :
    Calls Tryz.prog 67 #[.pointer (some ⟨p0, 0, none⟩), .pointer (some ⟨p1, 0, none⟩), .pointer (some ⟨p2, 0, none⟩)] w (PGives w (fun (y : List Int) w' u => ∃ v0_0 : Value, u = v0_0 ∧ Rep.R w' L [v0_0] y) (fun e => .iface 140 (.agg #[.int .i64 e.fErrno])) r) := by
  unfold balance_Totals_1_p at h
  have hS0 := St.start w
  refine MX.startP Tryz.func67 rfl rfl rfl (fun _ cs0 hb0 hp0 => ?_)
  refine MX.sr ?_
  refine RG.sg rfl rfl ?_
  refine RG.nil ?_
  refine MX.seq ?_
  refine MX.drawT 6 tb67_1 (by kernel_rfl) (by kernel_rfl) (by kernel_rfl) (fun kt1 kp2 => ?_)
  refine RD.vx 0 1 52 kt1 rfl kp2 (FV.loadN (by kernel_rfl) rfl (fun j9 v9 h9 => hS0.ag.cell0 (m0 j9 v9 h9))) rfl ?_
  refine RD.vx 1 3 52 kt1 rfl kp2 (FV.load1 (by kernel_rfl) rfl ((fun j9 v9 h9 => hS0.ag.cell0 (m1 j9 v9 h9)) 0 _ rfl)) rfl ?_
  obtain ⟨y3, hy3, h⟩ := bind_in h
  rcases y3 with e4 | y5
  ·skip
   have h := exc_e h
   try dsimp only at h
   refine RD.vx 3 11 48 kt1 rfl kp2 (FV.load1 (by kernel_rfl) rfl ((fun j9 v9 h9 => hS0.ag.cell0 (m2 j9 v9 h9)) 0 _ rfl)) rfl ?_
   refine RD.one (i := 2) (readyD_ok kt1 (by kernel_rfl)) (RO.callE (fst := []) (cap := []) rfl .plain body50 rfl (evs_cons rfl (evs_cons rfl evs_nil)) (fun w9 hw9 => balance_counted_c n _ w9 (hS0.hL hL hw9) a0 (Rep.keep0 h0_3 hw9) a1 hy3) (fun w6 hag7 => ?_))
   obtain ⟨hS8, hT9⟩ := hS0.agr hag7
   obtain rfl := Option.some.inj h
   exact PN.leave hp0 Tryz.func67 ⟨hS8.ag, rfl⟩
  have h := exc_o h
  try dsimp only at h
  refine RD.vx 3 11 48 kt1 rfl kp2 (FV.load1 (by kernel_rfl) rfl ((fun j9 v9 h9 => hS0.ag.cell0 (m2 j9 v9 h9)) 0 _ rfl)) rfl ?_
  refine RD.cl 2 15 kt1 rfl .plain body50 rfl (evs_cons rfl (evs_cons rfl evs_nil)) (fun w9 hw9 => Calls.okp (balance_counted_c n _ w9 (hS0.hL hL hw9) a0 (Rep.keep0 h0_3 hw9) a1 hy3)) rfl (fun w11 vu12 hag13 ⟨v16, hu_, hr17⟩ => ?_)
  subst hu_
  obtain ⟨hS14, hT15⟩ := hS0.agr hag13
  obtain ⟨y18, hy18, h⟩ := bind_in h
  rcases y18 with e19 | y20
  ·skip
   have h := exc_e h
   try dsimp only at h
   have hm21 := Rep.mv h2_0 hT15
   refine RD.one (i := 4) (readyD_ok kt1 (by kernel_rfl)) (RO.callE (fst := []) (cap := []) rfl .plain body58 rfl (evs_cons rfl (evs_cons rfl evs_nil)) (fun w9 hw9 => balance_count_totals_c n _ w9 (hS14.hL hL hw9) y5 (Rep.keep0 hr17 hw9) a2 (Rep.keep0 hm21 hw9) hy18) (fun w22 hag23 => ?_))
   obtain ⟨hS24, hT25⟩ := hS14.agr hag23
   obtain rfl := Option.some.inj h
   exact PN.leave hp0 Tryz.func67 ⟨hS24.ag, rfl⟩
  have h := exc_o h
  try dsimp only at h
  have hm27 := Rep.mv h2_0 hT15
  refine RD.cl 4 31 kt1 rfl .plain body58 rfl (evs_cons rfl (evs_cons rfl evs_nil)) (fun w9 hw9 => Calls.okp (balance_count_totals_c n _ w9 (hS14.hL hL hw9) y5 (Rep.keep0 hr17 hw9) a2 (Rep.keep0 hm27 hw9) hy18)) rfl (fun w28 vu29 hag30 ⟨v33, hu_, hr34⟩ => ?_)
  subst hu_
  obtain ⟨hS31, hT32⟩ := hS14.agr hag30
  refine RD.vw 5 63 kt1 rfl kp2 (fun _ => FV.assign rfl) rfl ?_
  refine RD.done (doneD_ok kt1 (by kernel_rfl)) ?_
  refine MX.ret rfl ?_
  refine RT.leave hb0 Tryz.func67 rfl (.cons (.tmp rfl) .nil) rfl ?_
  obtain rfl := Option.some.inj h
  exact ⟨hS31.ag, fun w9 hw9 => okOf_in ⟨vu29, rfl, Rep.keep0 (Rep.dropS hS31 hr34) hw9⟩⟩
def tb122_6 : List (Nat × Nat × Nat) := [(0, 131072, 32), (0, 262144, 8), (2, 524288, 262144), (1, 0, 131073), (15, 0, 524290)]
theorem body66 : bodyB Tryz.prog 66 = true := by kernel_rfl
theorem body67 : bodyB Tryz.prog 67 = true := by kernel_rfl
theorem body122 : bodyB Tryz.prog 122 = true := by kernel_rfl
def balance_Totals_p (n : Nat) (a0 : TRoll) (a1 : List Int) (a2 : Int) : Option ((List Int) × Int) :=
  (balance_Totals_1_p n a0 a2 a1).bind fun y30 => exc y30 (fun y32 => some (y32, (0 : Int))) (fun e31 => some (([] : List Int), e31.fErrno))
set_option maxRecDepth 4000 in
set_option maxHeartbeats 4000000 in
theorem balance_Totals_c (n : Nat) (L : List Nat) (w : World) (hL : ∀ b ∈ L, b < w.heap.size) (a0 : TRoll) {v0_3 : Value} (h0_3 : Rep.R w L [v0_3] a0.fUnits) (a1 : List Int) {v1_0 : Value} (h1_0 : Rep.R w L [v1_0] a1) (a2 : Int)  {r : (List Int) × Int} (h : balance_Totals_p n a0 a1 a2 = some r) :
    Calls Tryz.prog 19 #[.agg #[.int .i64 a0.fGroups, .int .i64 a0.fParties, .int .i64 a0.fLevels, v0_3], v1_0, .int .i64 a2] w (Gives w fun w' u => ∃ v0_0 : Value, u = .tuple #[v0_0, .int .i64 r.2] ∧ Rep.R w' L [v0_0] r.1) := by
  unfold balance_Totals_p at h
  have hS0 := St.start w
  refine MX.start Tryz.func19 rfl rfl rfl (fun _ cs0 hb0 => ?_)
  refine MX.sr ?_
  refine RG.new .plain rfl (Does.box (vs := [.int .i64 a0.fGroups, .int .i64 a0.fParties, .int .i64 a0.fLevels, v0_3]) hS0 rfl rfl) (fun w2 b5 hS3 hT4 => ?_)
  have hm7 := Rep.mv h1_0 hT4
  refine RG.new .plain rfl (Does.box (vs := [v1_0]) hS3 rfl (Rep.c1 hm7)) (fun w8 b11 hS9 hT10 => ?_)
  refine RG.new .plain rfl (Does.box (vs := [.int .i64 a2]) hS9 rfl rfl) (fun w13 b16 hS14 hT15 => ?_)
  refine RG.sg rfl rfl ?_
  refine RG.sg rfl rfl ?_
  refine RG.nil ?_
  refine MX.sr ?_
  refine RG.vv (FV.makeFunc (vs := []) (us := [.pointer (some ⟨b5, 0, none⟩), .pointer (some ⟨b16, 0, none⟩), .pointer (some ⟨b11, 0, none⟩)]) evs_nil (evs_cons rfl (evs_cons rfl (evs_cons rfl evs_nil)))) rfl ?_
  refine RG.enterP (fst := []) (cap := []) (vs := [.func (.func 67) #[] #[.pointer (some ⟨b5, 0, none⟩), .pointer (some ⟨b16, 0, none⟩), .pointer (some ⟨b11, 0, none⟩)]]) .plain body66 Tryz.func66 rfl rfl rfl rfl (evs_cons rfl evs_nil) rfl (fun cs18 hb17 hp19 => ?_)
  refine MX.sr ?_
  refine RG.new .plain rfl (Does.alloc (zs := [.slice none 0 0]) hS14 (zB (by kernel_rfl))) (fun w21 b24 hS22 hT23 => ?_)
  refine RG.new .plain rfl (Does.alloc (zs := [.int .i64 0]) hS22 (zB (by kernel_rfl))) (fun w26 b29 hS27 hT28 => ?_)
  refine RG.nil ?_
  refine MX.sr ?_
  refine RG.vv (FV.makeFunc (vs := []) (us := [.pointer (some ⟨b24, 0, none⟩), .pointer (some ⟨b29, 0, none⟩)]) evs_nil (evs_cons rfl (evs_cons rfl evs_nil))) rfl ?_
  refine RG.defer (fst := []) (cap := [.pointer (some ⟨b24, 0, none⟩), .pointer (some ⟨b29, 0, none⟩)]) (vs := []) rfl .plain rfl evs_nil ?_
  refine RG.nil ?_
  refine MX.sr ?_
  refine RG.mv rfl rfl ?_
  obtain ⟨y30, hy30, h⟩ := bind_in h
  rcases y30 with e31 | y32
  ·skip
   have h := exc_e h
   try dsimp only at h
   have hm33 := Rep.mv h0_3 (Tr.trans hT4 (Tr.trans hT10 (Tr.trans hT15 (Tr.trans hT23 hT28))))
   have hm34 := Rep.mv h1_0 (Tr.trans hT4 (Tr.trans hT10 (Tr.trans hT15 (Tr.trans hT23 hT28))))
   refine RG.callE (fst := []) (cap := [.pointer (some ⟨b5, 0, none⟩), .pointer (some ⟨b16, 0, none⟩), .pointer (some ⟨b11, 0, none⟩)]) .plain body67 rfl evs_nil (fun w9 hw9 => balance_Totals_1_c n _ w9 (hS27.hL hL hw9) a0 (Rep.keep0 hm33 hw9) (fun j9 v9 h9 => hw9.cell0 ((hS27.memA (.tl (.tl (.tl (.tl .hd))))) j9 v9 h9)) a2 (fun j9 v9 h9 => hw9.cell0 ((hS27.memA (.tl (.tl .hd))) j9 v9 h9)) a1 (Rep.keep0 hm34 hw9) (fun j9 v9 h9 => hw9.cell0 ((hS27.memA (.tl (.tl (.tl .hd)))) j9 v9 h9)) hy30) (fun w35 hag36 => ?_)
   obtain ⟨hS37, hT38⟩ := hS27.agr hag36
   refine PN.callD (vs := []) (cap := [.pointer (some ⟨b24, 0, none⟩), .pointer (some ⟨b29, 0, none⟩)]) body122 Tryz.func122 rfl rfl rfl (fun c39 hc40 hk41 => ?_)
   refine MX.sr ?_
   refine RG.recover1 .plain hc40 rfl ?_
   refine RG.sg rfl rfl ?_
   refine RG.nil ?_
   refine MX.sr ?_
   refine RG.mv rfl rfl ?_
   refine RG.vv (FV.neqI Tryz.underlying20 rfl rfl) rfl ?_
   refine RG.nil ?_
   refine MX.cond_t rfl ?_
   refine MX.sr ?_
   refine RG.mv rfl rfl ?_
   refine RG.vv (FV.assertT (by kernel_rfl) rfl) rfl ?_
   refine RG.mv rfl rfl ?_
   refine RG.vv (FV.extract rfl rfl) rfl ?_
   refine RG.vv (FV.extract rfl rfl) rfl ?_
   refine RG.new .plain rfl (Does.alloc (zs := [.int .i64 0]) hS37 (zB (by kernel_rfl))) (fun w43 b46 hS44 hT45 => ?_)
   refine RG.now .plain (Acts.storeAll (news := [.int .i64 e31.fErrno]) hS44 .hd rfl rfl rfl rfl rfl rfl (ones_cons rfl ones_nil)) (fun w47 hS48 hT49 => ?_)
   refine RG.sg rfl rfl ?_
   refine RG.nil ?_
   refine MX.seq ?_
   refine MX.sr ?_
   refine RG.mv rfl rfl ?_
   refine RG.vv (FV.not rfl) rfl ?_
   refine RG.nil ?_
   refine MX.cond_f rfl ?_
   refine MX.skip ?_
   refine MX.sr ?_
   refine RG.sg rfl rfl ?_
   refine RG.nil ?_
   refine MX.drawT 3 tb122_6 (by kernel_rfl) (by kernel_rfl) (by kernel_rfl) (fun kt50 kp51 => ?_)
   refine RD.vw 0 1 kt50 rfl kp51 (fun _ => FV.move rfl) rfl ?_
   refine RD.vw 1 3 kt50 rfl kp51 (fun _ => FV.fieldAddr (off := 0) (by kernel_rfl) rfl) rfl ?_
   refine RD.meet (α := Unit) (fun () => [(1, .pointer (some ⟨b29, 0, none⟩)), (19, .int .i64 e31.fErrno)]) (fun () wx1254 => St w wx1254 [.cells b29 [.int .i64 0] 51, .cells b24 [.slice none 0 0] 45, .cells b16 [.int .i64 a2] 3, .cells b11 [v1_0] 46, .cells b5 [.int .i64 a0.fGroups, .int .i64 a0.fParties, .int .i64 a0.fLevels, v0_3] 44] ∧ Tr w47 [.cells b46 [.int .i64 e31.fErrno] 140, .cells b29 [.int .i64 0] 51, .cells b24 [.slice none 0 0] 45, .cells b16 [.int .i64 a2] 3, .cells b11 [v1_0] 46, .cells b5 [.int .i64 a0.fGroups, .int .i64 a0.fParties, .int .i64 a0.fLevels, v0_3] 44] wx1254 [.cells b29 [.int .i64 0] 51, .cells b24 [.slice none 0 0] 45, .cells b16 [.int .i64 a2] 3, .cells b11 [v1_0] 46, .cells b5 [.int .i64 a0.fGroups, .int .i64 a0.fParties, .int .i64 a0.fLevels, v0_3] 44]) 1 15 ?_ ?_
   ·skip
    rintro ⟨⟩ wx1254 ⟨hS1255, hT1256⟩
    try dsimp only
    refine RD.nw 4 31 kt50 rfl rfl .plain (Acts.storeAll (news := [.int .i64 e31.fErrno]) hS1255 .hd rfl rfl rfl rfl rfl rfl (ones_cons rfl ones_nil)) (fun w1258 hS1259 hT1260 => ?_)
    refine RD.done (doneD_ok kt50 (by kernel_rfl)) ?_
    refine MX.fin rfl ?_
    refine RT.leaveD1 hk41 Tryz.func122 rfl .nil ?_
    refine RT.leave (u := .tuple #[.slice none 0 0, .int .i64 e31.fErrno]) hb17 Tryz.func66 rfl (.cons (.one (by kernel_rfl) rfl ((hS1259.memA (.tl .hd)) 0 _ rfl)) (.cons (.one (by kernel_rfl) rfl ((hS1259.memA .hd) 0 _ rfl)) .nil)) rfl ?_
    refine RG.vv (FV.extract rfl rfl) rfl ?_
    refine RG.vv (FV.extract rfl rfl) rfl ?_
    refine RG.sg rfl rfl ?_
    refine RG.sg rfl rfl ?_
    refine RG.nil ?_
    refine MX.ret rfl ?_
    have hr1261 := Rep.nilAt (α := Int) hS1259 L
    refine RT.leave hb0 Tryz.func19 rfl (.cons (.tmp rfl) (.cons (.tmp rfl) .nil)) rfl ?_
    obtain rfl := Option.some.inj h
    have hr1262 := Rep.nilAt (α := Int) hS1259 L
    exact ⟨hS1259.ag, fun w9 hw9 => ⟨(.slice none 0 0), rfl, Rep.keep0 (Rep.dropS hS1259 hr1262) hw9⟩⟩
   ·skip
    intro hJ1263
    refine RD.each [2, 3] (readyD_ok kt50 (by kernel_rfl)) ⟨?_, ?_, trivial⟩
    ·skip
     refine RO.val (m' := 7) (stepC_ok kt50 (by kernel_rfl)) rfl .plain rfl (FV.load1 (by kernel_rfl) rfl ((hS48.memA .hd) 0 _ rfl)) ?_
     refine RD.nw 3 15 kt50 rfl rfl .plain (Acts.storeAll (news := [.slice none 0 0]) hS48 (.tl (.tl .hd)) rfl rfl rfl rfl rfl rfl (ones_cons rfl ones_nil)) (fun w652 hS653 hT654 => ?_)
     obtain ⟨hS1264, hT1265⟩ := St.arrB hS653 (.one (.tl .hd) (.one (.tl .hd) (.one (.tl .hd) (.one (.tl .hd) (.one (.tl .hd) .done)))))
     exact hJ1263 () _ _ ⟨rfl, rfl, trivial⟩ ⟨hS1264, (Tr.trans hT654 hT1265)⟩
    ·skip
     refine RO.now (m' := 11) (stepC_ok kt50 (by kernel_rfl)) rfl rfl .plain (Acts.storeAll (news := [.slice none 0 0]) hS48 (.tl (.tl .hd)) rfl rfl rfl rfl rfl rfl (ones_cons rfl ones_nil)) (fun w652 hS653 hT654 => ?_)
     refine RD.vx 2 15 16 kt50 rfl kp51 (FV.load1 (by kernel_rfl) rfl ((hS653.memA .hd) 0 _ rfl)) rfl ?_
     obtain ⟨hS1266, hT1267⟩ := St.arrB hS653 (.one (.tl .hd) (.one (.tl .hd) (.one (.tl .hd) (.one (.tl .hd) (.one (.tl .hd) .done)))))
     exact hJ1263 () _ _ ⟨rfl, rfl, trivial⟩ ⟨hS1266, (Tr.trans hT654 hT1267)⟩
  have h := exc_o h
  try dsimp only at h
  have hm1269 := Rep.mv h0_3 (Tr.trans hT4 (Tr.trans hT10 (Tr.trans hT15 (Tr.trans hT23 hT28))))
  have hm1270 := Rep.mv h1_0 (Tr.trans hT4 (Tr.trans hT10 (Tr.trans hT15 (Tr.trans hT23 hT28))))
  refine RG.call' (fst := []) (cap := [.pointer (some ⟨b5, 0, none⟩), .pointer (some ⟨b16, 0, none⟩), .pointer (some ⟨b11, 0, none⟩)]) .plain body67 rfl evs_nil (fun w9 hw9 => Calls.okp (balance_Totals_1_c n _ w9 (hS27.hL hL hw9) a0 (Rep.keep0 hm1269 hw9) (fun j9 v9 h9 => hw9.cell0 ((hS27.memA (.tl (.tl (.tl (.tl .hd))))) j9 v9 h9)) a2 (fun j9 v9 h9 => hw9.cell0 ((hS27.memA (.tl (.tl .hd))) j9 v9 h9)) a1 (Rep.keep0 hm1270 hw9) (fun j9 v9 h9 => hw9.cell0 ((hS27.memA (.tl (.tl (.tl .hd)))) j9 v9 h9)) hy30)) rfl (fun w1271 vu1272 hag1273 ⟨v1276, hu_, hr1277⟩ => ?_)
  subst hu_
  obtain ⟨hS1274, hT1275⟩ := hS27.agr hag1273
  refine RG.now .plain (Acts.storeAll (news := [vu1272]) hS1274 (.tl .hd) rfl rfl rfl (Rep.c1 hr1277) rfl rfl (ones_cons (Rep.o1 hr1277) ones_nil)) (fun w1278 hS1279 hT1280 => ?_)
  refine RG.now .plain (Acts.storeAll (news := [.int .i64 0]) hS1279 .hd rfl rfl rfl rfl rfl rfl (ones_cons rfl ones_nil)) (fun w1281 hS1282 hT1283 => ?_)
  refine RG.nil ?_
  refine MX.ret rfl ?_
  refine RT.callD (vs := []) (cap := [.pointer (some ⟨b24, 0, none⟩), .pointer (some ⟨b29, 0, none⟩)]) body122 Tryz.func122 rfl rfl rfl (fun c1284 hc1285 hk1286 => ?_)
  refine MX.sr ?_
  refine RG.recover0 .plain hc1285 rfl ?_
  refine RG.sg rfl rfl ?_
  refine RG.nil ?_
  refine MX.sr ?_
  refine RG.mv rfl rfl ?_
  refine RG.vv (FV.neqI0 Tryz.underlying20 rfl rfl) rfl ?_
  refine RG.nil ?_
  refine MX.cond_f rfl ?_
  refine MX.skip ?_
  refine MX.fin rfl ?_
  refine RT.leaveD0 hc1285 hk1286 Tryz.func122 rfl .nil ?_
  refine RT.leave (u := .tuple #[vu1272, .int .i64 0]) hb17 Tryz.func66 rfl (.cons (.one (by kernel_rfl) rfl ((hS1282.memA (.tl .hd)) 0 _ rfl)) (.cons (.one (by kernel_rfl) rfl ((hS1282.memA .hd) 0 _ rfl)) .nil)) rfl ?_
  refine RG.vv (FV.extract rfl rfl) rfl ?_
  refine RG.vv (FV.extract rfl rfl) rfl ?_
  refine RG.sg rfl rfl ?_
  refine RG.sg rfl rfl ?_
  refine RG.nil ?_
  refine MX.ret rfl ?_
  refine RT.leave hb0 Tryz.func19 rfl (.cons (.tmp rfl) (.cons (.tmp rfl) .nil)) rfl ?_
  obtain rfl := Option.some.inj h
  have hm1287 := Rep.mv hr1277 (Tr.trans hT1280 hT1283)
  exact ⟨hS1282.ag, fun w9 hw9 => ⟨vu1272, rfl, Rep.keep0 (Rep.dropS hS1282 hm1287) hw9⟩⟩
def tb69_1 : List (Nat × Nat × Nat) := [(0, 8, 1), (0, 16, 2), (3, 32, 24), (4, 64, 32), (0, 128, 2), (24, 256, 192), (63, 0, 260)]
def balance_Ideal_1_p (n : Nat) (a0 : TRoll) (a1 : Int) : Option (Except Tbroken TShare) :=
  (balance_counted_p n a0 a1).bind fun y8 => exc y8 (fun y10 => (balance_count_people_p n y10).bind fun y25 => (balance_of_p n y25 a1).bind fun y26 => exc y26 (fun y28 => some (.ok y28)) (fun e27 => some (.error e27))) (fun e9 => some (.error e9))
set_option maxRecDepth 4000 in
set_option maxHeartbeats 4000000 in
theorem balance_Ideal_1_c (n : Nat) (L : List Nat) (w : World) (hL : ∀ b ∈ L, b < w.heap.size) (a0 : TRoll) {v0_3 : Value} (h0_3 : Rep.R w L [v0_3] a0.fUnits) {p0 : Nat} (m0 : ∀ j9 v9, ([.int .i64 a0.fGroups, .int .i64 a0.fParties, .int .i64 a0.fLevels, v0_3] : List Value)[j9]? = some v9 → w.cell? ((⟨p0, 0, none⟩ : Addr).add j9) = some v9) (a1 : Int) {p1 : Nat} (m1 : ∀ j9 v9, ([.int .i64 a1] : List Value)[j9]? = some v9 → w.cell? ((⟨p1, 0, none⟩ : Addr).add j9) = some v9)  {r : Except Tbroken TShare} (h : balance_Ideal_1_p n a0 a1 = some r) :
    Calls Tryz.prog 69 #[.pointer (some ⟨p0, 0, none⟩), .pointer (some ⟨p1, 0, none⟩)] w (PGives w (fun (y : TShare) _ u => u = .agg ((cs_TShare y)).toArray) (fun e => .iface 140 (.agg #[.int .i64 e.fErrno])) r) := by
  unfold balance_Ideal_1_p at h
  have hS0 := St.start w
  refine MX.startP Tryz.func69 rfl rfl rfl (fun _ cs0 hb0 hp0 => ?_)
  refine MX.sr ?_
  refine RG.new .plain rfl (Does.alloc (zs := [.int .u64 0, .int .u64 0, .int .u64 0, .int .u64 0, .int .u64 0, .int .u64 0, .int .u64 0, .int .u64 0, .int .u64 0, .int .u64 0, .int .u64 0, .int .u64 0, .int .u64 0, .int .u64 0, .int .u64 0, .int .u64 0]) hS0 (zB (by kernel_rfl))) (fun w2 b5 hS3 hT4 => ?_)
  refine RG.nil ?_
  refine MX.seq ?_
  refine MX.drawT 6 tb69_1 (by kernel_rfl) (by kernel_rfl) (by kernel_rfl) (fun kt6 kp7 => ?_)
  refine RD.vx 0 1 108 kt6 rfl kp7 (FV.loadN (by kernel_rfl) rfl (fun j9 v9 h9 => hS3.ag.cell0 (m0 j9 v9 h9))) rfl ?_
  refine RD.vx 1 3 108 kt6 rfl kp7 (FV.load1 (by kernel_rfl) rfl ((fun j9 v9 h9 => hS3.ag.cell0 (m1 j9 v9 h9)) 0 _ rfl)) rfl ?_
  obtain ⟨y8, hy8, h⟩ := bind_in h
  rcases y8 with e9 | y10
  ·skip
   have h := exc_e h
   try dsimp only at h
   refine RD.vx 4 19 96 kt6 rfl kp7 (FV.load1 (by kernel_rfl) rfl ((fun j9 v9 h9 => hS3.ag.cell0 (m1 j9 v9 h9)) 0 _ rfl)) rfl ?_
   have hm11 := Rep.mv h0_3 hT4
   refine RD.one (i := 2) (readyD_ok kt6 (by kernel_rfl)) (RO.callE (fst := []) (cap := []) rfl .plain body50 rfl (evs_cons rfl (evs_cons rfl evs_nil)) (fun w9 hw9 => balance_counted_c n _ w9 (hS3.hL hL hw9) a0 (Rep.keep0 hm11 hw9) a1 hy8) (fun w12 hag13 => ?_))
   obtain ⟨hS14, hT15⟩ := hS3.agr hag13
   obtain rfl := Option.some.inj h
   exact PN.leave hp0 Tryz.func69 ⟨hS14.ag, rfl⟩
  have h := exc_o h
  try dsimp only at h
  refine RD.vx 4 19 96 kt6 rfl kp7 (FV.load1 (by kernel_rfl) rfl ((fun j9 v9 h9 => hS3.ag.cell0 (m1 j9 v9 h9)) 0 _ rfl)) rfl ?_
  have hm17 := Rep.mv h0_3 hT4
  refine RD.cl 2 23 kt6 rfl .plain body50 rfl (evs_cons rfl (evs_cons rfl evs_nil)) (fun w9 hw9 => Calls.okp (balance_counted_c n _ w9 (hS3.hL hL hw9) a0 (Rep.keep0 hm17 hw9) a1 hy8)) rfl (fun w18 vu19 hag20 ⟨v23, hu_, hr24⟩ => ?_)
  subst hu_
  obtain ⟨hS21, hT22⟩ := hS3.agr hag20
  obtain ⟨y25, hy25, h⟩ := bind_in h
  refine RD.cq 3 31 96 (.int .i64 y25) kt6 rfl kp7 body71 rfl (evs_cons rfl evs_nil) (fun w9 hw9 => balance_count_people_c n _ w9 (hS21.hL0 hL hw9) y10 (Rep.keep0 (Rep.dropS hS21 hr24) hw9) hy25) rfl ?_
  obtain ⟨y26, hy26, h⟩ := bind_in h
  rcases y26 with e27 | y28
  ·skip
   have h := exc_e h
   try dsimp only at h
   refine RD.one (i := 5) (readyD_ok kt6 (by kernel_rfl)) (RO.callE (fst := []) (cap := []) rfl .plain body70 rfl (evs_cons rfl (evs_cons rfl evs_nil)) (fun w9 hw9 => balance_of_c n _ w9 (hS21.hL0 hL hw9) y25 a1 hy26) (fun w29 hag30 => ?_))
   obtain ⟨hS31, hT32⟩ := hS21.agr hag30
   obtain rfl := Option.some.inj h
   exact PN.leave hp0 Tryz.func69 ⟨hS31.ag, rfl⟩
  have h := exc_o h
  try dsimp only at h
  refine RD.cq 5 63 64 (.agg ((cs_TShare y28)).toArray) kt6 rfl kp7 body70 rfl (evs_cons rfl (evs_cons rfl evs_nil)) (fun w9 hw9 => Calls.okp (balance_of_c n _ w9 (hS21.hL0 hL hw9) y25 a1 hy26)) rfl ?_
  refine RD.nw 6 127 kt6 rfl rfl .plain (Acts.storeAll (news := (cs_TShare y28)) hS21 .hd rfl rfl rfl rfl rfl rfl (onesB rfl)) (fun w34 hS35 hT36 => ?_)
  refine RD.done (doneD_ok kt6 (by kernel_rfl)) ?_
  refine MX.ret rfl ?_
  refine RT.leave hb0 Tryz.func69 rfl (.cons (.many (cs := (cs_TShare y28)) (by kernel_rfl) rfl (hS35.memA .hd)) .nil) rfl ?_
  obtain rfl := Option.some.inj h
  exact ⟨hS35.ag, fun w9 hw9 => okOf_in rfl⟩
end Go.Proofs.YtmhgoecnjleagaaGreatDoor
