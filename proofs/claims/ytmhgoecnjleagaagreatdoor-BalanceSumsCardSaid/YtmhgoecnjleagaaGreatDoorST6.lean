/- Functions of the program, and what they give: part 6. -/
import Derived.Test.YtmhgoecnjleagaaGreatDoorST5
namespace Go.Proofs.YtmhgoecnjleagaaGreatDoor
open Go Go.RowKit
set_option maxRecDepth 4000
set_option maxHeartbeats 4000000

def tb74_2 : List (Nat × Nat × Nat) := [(0, 8192, 16), (0, 16384, 4), (3, 32768, 24576), (0, 65536, 16), (12, 131072, 65536), (23, 32, 32768), (63, 64, 131072)]
def tb74_8 : List (Nat × Nat × Nat) := [(0, 1073741824, 8), (0, 2147483648, 512), (2, 4294967296, 2147483648), (0, 8589934592, 128), (12, 17179869184, 12884901888), (16, 34359738368, 17179869184), (16, 68719476736, 17179869184), (112, 137438953472, 103079215104), (0, 274877906944, 128), (384, 549755813888, 412316860416), (512, 1099511627776, 549755813888), (512, 2199023255552, 549755813888), (3584, 4398046511104, 3298534883328), (4096, 8796093022208, 4398046511104), (12289, 17592186044416, 8797166764032), (32767, 8, 17592186044416)]
theorem body77 : bodyB Tryz.prog 77 = true := by kernel_rfl
def balance_Off_1_l1 (n : Nat) (y0 : List Int) (y1 : TShare) (J0 : Nat × (List TShare) → Option ((Except Tbroken (List TShare)) ⊕ (List TShare))) : Nat × (List TShare) → Option ((Except Tbroken (List TShare)) ⊕ (List TShare))
  | (i0, xs0) => (if i0 < y0.length then (y0[i0]?).bind fun x0 => (balance_of_p n x0 (1 : Int)).bind fun y2 => exc y2 (fun y3 => (share_Sub_p n y3 y1).bind fun y4 => (balance_must_api_Share_p n y4.1 y4.2).bind fun y5 => exc y5 (fun y6 => (share_Div_p n y6 y1).bind fun y7 => (balance_must_api_Share_p n y7.1 y7.2).bind fun y8 => exc y8 (fun y9 => (app xs0 ([y9] : List TShare)).bind fun xs1 => J0 (i0 + 1, xs1)) (fun e0 => some (.inl (.error e0)))) (fun e1 => some (.inl (.error e1)))) (fun e2 => some (.inl (.error e2))) else some (.inr xs0))
def balance_Off_1_p (n : Nat) (a0 : TRoll) (a1 : Int) (a2 : List Int) : Option (Except Tbroken (List TShare)) :=
  (balance_counted_p n a0 a1).bind fun y1 => exc y1 (fun y3 => (balance_count_totals_p n y3 a2).bind fun y0 => exc y0 (fun y2 => (balance_count_people_p n y3).bind fun y4 => (balance_fail_p n (decide (y4 = 0)) (7 : Int)).bind fun y5 => exc y5 (fun y6 => (balance_of_p n y4 a1).bind fun y7 => exc y7 (fun y8 => thn (loopF (balance_Off_1_l1 n y2 y8) n (0, ([] : List TShare))) (fun xs0 => some (.ok xs0))) (fun e0 => some (.error e0))) (fun e1 => some (.error e1))) (fun e3 => some (.error e3))) (fun e2 => some (.error e2))
theorem balance_Off_1_c (n : Nat) (L : List Nat) (w : World) (hL : ∀ b ∈ L, b < w.heap.size) (a0 : TRoll) {v0_3 : Value} (h0_3 : Rep.R w L [v0_3] a0.fUnits) {p0 : Nat} (m0 : ∀ j9 v9, ([.int .i64 a0.fGroups, .int .i64 a0.fParties, .int .i64 a0.fLevels, v0_3] : List Value)[j9]? = some v9 → w.cell? ((⟨p0, 0, none⟩ : Addr).add j9) = some v9) (a1 : Int) {p1 : Nat} (m1 : ∀ j9 v9, ([.int .i64 a1] : List Value)[j9]? = some v9 → w.cell? ((⟨p1, 0, none⟩ : Addr).add j9) = some v9) (a2 : List Int) {v2_0 : Value} (h2_0 : Rep.R w L [v2_0] a2) {p2 : Nat} (m2 : ∀ j9 v9, ([v2_0] : List Value)[j9]? = some v9 → w.cell? ((⟨p2, 0, none⟩ : Addr).add j9) = some v9)  {r : Except Tbroken (List TShare)} (h : balance_Off_1_p n a0 a1 a2 = some r) :
    Calls Tryz.prog 74 #[.pointer (some ⟨p0, 0, none⟩), .pointer (some ⟨p1, 0, none⟩), .pointer (some ⟨p2, 0, none⟩)] w (PGives w (fun (y : List TShare) w' u => ∃ v0_0 : Value, u = v0_0 ∧ Rep.R w' L [v0_0] y) (fun e => .iface 140 (.agg #[.int .i64 e.fErrno])) r) := by
  unfold balance_Off_1_p at h
  have hS0 := St.start w
  refine MX.startP Tryz.func74 rfl rfl rfl (fun _ cs0 hb0 hp0 => ?_)
  refine MX.sr <| RG.sg rfl rfl <| RG.nil <| MX.sr <| RG.vv (FV.loadN (by kernel_rfl) rfl (fun j9 v9 h9 => hS0.ag.cell0 (m0 j9 v9 h9))) rfl <| RG.vv (FV.load1 (by kernel_rfl) rfl ((fun j9 v9 h9 => hS0.ag.cell0 (m1 j9 v9 h9)) 0 _ rfl)) rfl ?_
  obtain ⟨y1, hy1, h⟩ := bind_in h
  rcases y1 with e2 | y3
  ·skip
   have h := exc_e h
   try dsimp only at h
   refine RG.callE (fst := []) (cap := []) .plain body50 rfl (evs_cons rfl (evs_cons rfl evs_nil)) (fun w9 hw9 => balance_counted_c n _ w9 (hS0.hL hL hw9) a0 (Rep.keep0 h0_3 hw9) a1 hy1) (fun w4 hag5 => ?_)
   obtain ⟨hS6, hT7⟩ := hS0.agr hag5
   obtain rfl := Option.some.inj h
   exact PN.leave hp0 Tryz.func74 ⟨hS6.ag, rfl⟩
  have h := exc_o h
  try dsimp only at h
  refine RG.call' (fst := []) (cap := []) .plain body50 rfl (evs_cons rfl (evs_cons rfl evs_nil)) (fun w9 hw9 => Calls.okp (balance_counted_c n _ w9 (hS0.hL hL hw9) a0 (Rep.keep0 h0_3 hw9) a1 hy1)) rfl (fun w9 vu0 hag0 ⟨v0, hu_, hr0⟩ => ?_)
  subst hu_
  obtain ⟨hS1, hT0⟩ := hS0.agr hag0
  refine RG.new .plain rfl (Does.alloc (zs := [.int .i64 0, .int .i64 0, .int .i64 0, .slice none 0 0, .int .i64 0]) hS1 (zB (by kernel_rfl))) (fun w0 b0 hS2 hT1 => ?_)
  have hm0 := Rep.mv hr0 hT1
  refine RG.now .plain (Acts.storeAll (news := [.int .i64 y3.fRoll.fGroups, .int .i64 y3.fRoll.fParties, .int .i64 y3.fRoll.fLevels, v0, .int .i64 y3.fk]) hS2 .hd rfl rfl rfl rfl rfl rfl (ones_cons rfl (ones_cons rfl (ones_cons rfl (ones_cons (Rep.o1 hm0) (ones_cons rfl ones_nil)))))) (fun w1 hS3 hT2 => ?_)
  refine RG.nil <| MX.seq <| MX.drawT 7 tb74_2 (by kernel_rfl) (by kernel_rfl) (by kernel_rfl) (fun kt0 kp0 => ?_)
  refine RD.vx 0 1 116 kt0 rfl kp0 (FV.loadN (by kernel_rfl) rfl (hS3.memA .hd)) rfl <| RD.vx 1 3 116 kt0 rfl kp0 (FV.load1 (by kernel_rfl) rfl ((fun j9 v9 h9 => hS3.ag.cell0 (m2 j9 v9 h9)) 0 _ rfl)) rfl ?_
  obtain ⟨y0, hy0, h⟩ := bind_in h
  rcases y0 with e0 | y2
  ·skip
   have h := exc_e h
   try dsimp only at h
   refine RD.vx 3 11 112 kt0 rfl kp0 (FV.loadN (by kernel_rfl) rfl (hS3.memA .hd)) rfl ?_
   have hm1 := Rep.mv hr0 (Tr.trans hT1 hT2)
   have hm2 := Rep.mv h2_0 (Tr.trans hT0 (Tr.trans hT1 hT2))
   refine RD.one (i := 2) (readyD_ok kt0 (by kernel_rfl)) (RO.callE (fst := []) (cap := []) rfl .plain body58 rfl (evs_cons rfl (evs_cons rfl evs_nil)) (fun w9 hw9 => balance_count_totals_c n _ w9 (hS3.hL hL hw9) y3 (Rep.keep0 hm1 hw9) a2 (Rep.keep0 hm2 hw9) hy0) (fun w2 hag1 => ?_))
   obtain ⟨hS4, hT3⟩ := hS3.agr hag1
   obtain rfl := Option.some.inj h
   exact PN.leave hp0 Tryz.func74 ⟨hS4.ag, rfl⟩
  have h := exc_o h
  try dsimp only at h
  refine RD.vx 3 11 112 kt0 rfl kp0 (FV.loadN (by kernel_rfl) rfl (hS3.memA .hd)) rfl ?_
  have hm3 := Rep.mv hr0 (Tr.trans hT1 hT2)
  have hm4 := Rep.mv h2_0 (Tr.trans hT0 (Tr.trans hT1 hT2))
  refine RD.cl 2 15 kt0 rfl .plain body58 rfl (evs_cons rfl (evs_cons rfl evs_nil)) (fun w9 hw9 => Calls.okp (balance_count_totals_c n _ w9 (hS3.hL hL hw9) y3 (Rep.keep0 hm3 hw9) a2 (Rep.keep0 hm4 hw9) hy0)) rfl (fun w3 vu1 hag2 ⟨v1, hu_, hr1⟩ => ?_)
  subst hu_
  obtain ⟨hS5, hT4⟩ := hS3.agr hag2
  obtain ⟨y4, hy2, h⟩ := bind_in h
  have hm5 := Rep.mv hr0 (Tr.trans hT1 (Tr.trans hT2 hT4))
  refine RD.cq 4 31 96 (.int .i64 y4) kt0 rfl kp0 body71 rfl (evs_cons rfl evs_nil) (fun w9 hw9 => balance_count_people_c n _ w9 (hS5.hL0 hL hw9) y3 (Rep.keep0 (Rep.dropS hS5 hm5) hw9) hy2) rfl <| RD.vw 5 63 kt0 rfl kp0 (fun _ => FV.assign rfl) rfl <| RD.vw 6 127 kt0 rfl kp0 (fun _ => FV.assign rfl) rfl <| RD.done (doneD_ok kt0 (by kernel_rfl)) <| MX.sr <| RG.mv rfl rfl ?_
  refine RG.vv (FV.eql (i := y4) (j := 0) rfl rfl) rfl ?_
  obtain ⟨y5, hy3, h⟩ := bind_in h
  rcases y5 with e1 | y6
  ·skip
   have h := exc_e h
   try dsimp only at h
   refine RG.callE (fst := []) (cap := []) .plain body75 rfl (evs_cons rfl (evs_cons rfl evs_nil)) (fun w9 hw9 => balance_fail_c n _ w9 (hS5.hL0 hL hw9) (decide (y4 = 0)) (7 : Int) hy3) (fun w5 hag3 => ?_)
   obtain ⟨hS7, hT5⟩ := hS5.agr hag3
   obtain rfl := Option.some.inj h
   exact PN.leave hp0 Tryz.func74 ⟨hS7.ag, rfl⟩
  have h := exc_o h
  try dsimp only at h
  refine RG.cq (.tuple #[]) body75 rfl (evs_cons rfl (evs_cons rfl evs_nil)) (fun w9 hw9 => Calls.okp (balance_fail_c n _ w9 (hS5.hL0 hL hw9) (decide (y4 = 0)) (7 : Int) hy3)) rfl <| RG.nil <| MX.sr <| RG.mv rfl rfl <| RG.vv (FV.load1 (by kernel_rfl) rfl ((fun j9 v9 h9 => hS5.ag.cell0 (m1 j9 v9 h9)) 0 _ rfl)) rfl ?_
  obtain ⟨y7, hy4, h⟩ := bind_in h
  rcases y7 with e3 | y8
  ·skip
   have h := exc_e h
   try dsimp only at h
   refine RG.callE (fst := []) (cap := []) .plain body70 rfl (evs_cons rfl (evs_cons rfl evs_nil)) (fun w9 hw9 => balance_of_c n _ w9 (hS5.hL0 hL hw9) y4 a1 hy4) (fun w6 hag4 => ?_)
   obtain ⟨hS8, hT6⟩ := hS5.agr hag4
   obtain rfl := Option.some.inj h
   exact PN.leave hp0 Tryz.func74 ⟨hS8.ag, rfl⟩
  have h := exc_o h
  try dsimp only at h
  refine RG.cq (.agg ((cs_TShare y8)).toArray) body70 rfl (evs_cons rfl (evs_cons rfl evs_nil)) (fun w9 hw9 => Calls.okp (balance_of_c n _ w9 (hS5.hL0 hL hw9) y4 a1 hy4)) rfl <| RG.new .plain rfl (Does.alloc (zs := [.int .u64 0, .int .u64 0, .int .u64 0, .int .u64 0, .int .u64 0, .int .u64 0, .int .u64 0, .int .u64 0, .int .u64 0, .int .u64 0, .int .u64 0, .int .u64 0, .int .u64 0, .int .u64 0, .int .u64 0, .int .u64 0]) hS5 (zB (by kernel_rfl))) (fun w7 b1 hS9 hT8 => ?_)
  refine RG.now .plain (Acts.storeAll (news := (cs_TShare y8)) hS9 .hd rfl rfl rfl rfl rfl rfl (onesB rfl)) (fun w8 hS70 hT9 => ?_)
  refine RG.nil <| MX.seq <| MX.sr <| RG.mv rfl rfl ?_
  have hm6 := Rep.mv hr1 (Tr.trans hT8 hT9)
  have hl72 : y2.length ≤ 281474976710656 := Rep.lenle hm6
  refine RG.vv (FV.len (xs := y2) Tryz.underlying45 rfl hm6) rfl <| RG.mv rfl rfl <| RG.nil <| MX.block ?_
  have hS75 := hS70.nilRow 37 (Rep.size TShare)
  have hT76 := St.nilRowT hS70 37 (Rep.size TShare)
  have hc0 := Cells.at_ (cs := []) (xs := ([] : List TShare)) hS75 L (Cells.nil _ _)
  obtain ⟨hS10, hT10⟩ := St.arrB hS75 (.one .hd (.one .hd .done))
  have hm7 := Cells.mv hc0 hT10
  obtain ⟨o0, ho186, hh188⟩ := thn_in h
  refine MX.loop (α := Nat × (List TShare) × Value × (List Value)) (fun ⟨i0, xs0, v2, cs1⟩ => [(3, v2), (7, .pointer (some ⟨b1, 0, none⟩)), (24, vu1), (25, .int .i64 ((y2.length : Nat) : Int)), (26, .int .i64 ((i0 : Nat) : Int))]) (fun ⟨i0, xs0, v2, cs1⟩ wx0 => St w wx0 [.row w.heap.size 37 (Rep.size TShare) v2 xs0.length cs1, .cells b1 (cs_TShare y8) 37] ∧ Tr w8 [.row w.heap.size 37 (Rep.size TShare) (.slice none 0 0) (([] : List TShare).length) [], .cells b1 (cs_TShare y8) 37] wx0 [.row w.heap.size 37 (Rep.size TShare) v2 xs0.length cs1, .cells b1 (cs_TShare y8) 37] ∧ Cells wx0 (bl [.row w.heap.size 37 (Rep.size TShare) v2 xs0.length cs1, .cells b1 (cs_TShare y8) 37] ++ L) cs1 xs0) (fun ⟨i0, xs0, v2, cs1⟩ => (i0, xs0)) (0, ([] : List TShare), (.slice none 0 0), []) ho186 ⟨rfl, rfl, rfl, rfl, rfl, trivial⟩ ⟨hS10, Tr.refl _ _, hm7⟩ ?_
  rintro J0 ⟨i0, xs0, v2, cs1⟩ wx0 hJ190 ⟨hS11, hT11, hc1⟩ h
  unfold balance_Off_1_l1 at h
  try dsimp only at h
  refine MX.sr <| RG.vv (FV.lssN (i := i0) (j := y2.length) rfl rfl) rfl <| RG.nil <| MX.seq <| MX.ifd rfl h (fun c0 h => ?_) (fun c0 h => ?_)
  ·skip
   refine MX.skip <| MX.seq <| MX.block <| MX.sr ?_
   obtain ⟨x0, hx0, h⟩ := bind_in h
   have hm8 := Rep.mv hr1 (Tr.trans hT8 (Tr.trans hT9 (Tr.trans hT76 (Tr.trans hT10 hT11))))
   obtain ⟨A193, c1, he0, hk0, cs2, hr2, hm9⟩ := Rep.nth hm8 hx0
   have he1 : cs2 = [.int .i64 x0] := hr2; subst he1
   refine RG.vv (FV.idxAddr (m := 1) (i := i0) (by kernel_rfl) rfl he0 rfl rfl hk0) rfl <| RG.vv (FV.load1 (by kernel_rfl) rfl (hm9 0 _ rfl)) rfl <| RG.sg rfl rfl <| RG.nil <| MX.drawT 14 tb74_8 (by kernel_rfl) (by kernel_rfl) (by kernel_rfl) (fun kt1 kp1 => ?_)
   refine RD.vw 0 1 kt1 rfl kp1 (fun _ => FV.move rfl) rfl <| RD.vw 1 3 kt1 rfl kp1 (fun _ => FV.move rfl) rfl ?_
   obtain ⟨y9, hy5, h⟩ := bind_in h
   rcases y9 with e4 | y10
   ·skip
    have h := exc_e h
    try dsimp only at h
    refine RD.vx 3 11 65264 kt1 rfl kp1 (FV.loadN (by kernel_rfl) rfl (hS11.memA (.tl .hd))) rfl <| RD.vx 8 267 65024 kt1 rfl kp1 (FV.loadN (by kernel_rfl) rfl (hS11.memA (.tl .hd))) rfl ?_
    have h := thn_inl h hh188
    refine RD.one (i := 2) (readyD_ok kt1 (by kernel_rfl)) (RO.callE (fst := []) (cap := []) rfl .plain body70 rfl (evs_cons rfl (evs_cons rfl evs_nil)) (fun w9 hw9 => balance_of_c n _ w9 (hS11.hL0 hL hw9) x0 (1 : Int) hy5) (fun w10 hag6 => ?_))
    obtain ⟨hS13, hT12⟩ := hS11.agr hag6
    obtain rfl := Option.some.inj h
    exact PN.leave hp0 Tryz.func74 ⟨hS13.ag, rfl⟩
   have h := exc_o h
   try dsimp only at h
   refine RD.cq 2 7 65264 (.agg ((cs_TShare y10)).toArray) kt1 rfl kp1 body70 rfl (evs_cons rfl (evs_cons rfl evs_nil)) (fun w9 hw9 => Calls.okp (balance_of_c n _ w9 (hS11.hL0 hL hw9) x0 (1 : Int) hy5)) rfl <| RD.vx 3 15 65264 kt1 rfl kp1 (FV.loadN (by kernel_rfl) rfl (hS11.memA (.tl .hd))) rfl ?_
   obtain ⟨y11, hy6, h⟩ := bind_in h
   refine RD.cq 4 31 65248 (.tuple #[.agg ((cs_TShare y11.1)).toArray, .int .i64 y11.2]) kt1 rfl kp1 body24 rfl (evs_cons rfl (evs_cons rfl evs_nil)) (fun w9 hw9 => share_Sub_c n _ w9 (hS11.hL0 hL hw9) y10 y8 hy6) rfl <| RD.vw 5 63 kt1 rfl kp1 (fun _ => FV.extract rfl rfl) rfl <| RD.vw 6 127 kt1 rfl kp1 (fun _ => FV.extract rfl rfl) rfl ?_
   obtain ⟨y12, hy7, h⟩ := bind_in h
   rcases y12 with e5 | y13
   ·skip
    have h := exc_e h
    try dsimp only at h
    refine RD.vx 8 383 65024 kt1 rfl kp1 (FV.loadN (by kernel_rfl) rfl (hS11.memA (.tl .hd))) rfl ?_
    have h := thn_inl h hh188
    refine RD.one (i := 7) (readyD_ok kt1 (by kernel_rfl)) (RO.callE (fst := []) (cap := []) rfl .plain body76 rfl (evs_cons rfl (evs_cons rfl evs_nil)) (fun w9 hw9 => balance_must_api_Share_c n _ w9 (hS11.hL0 hL hw9) y11.1 y11.2 hy7) (fun w11 hag7 => ?_))
    obtain ⟨hS14, hT14⟩ := hS11.agr hag7
    obtain rfl := Option.some.inj h
    exact PN.leave hp0 Tryz.func74 ⟨hS14.ag, rfl⟩
   have h := exc_o h
   try dsimp only at h
   refine RD.cq 7 255 65024 (.agg ((cs_TShare y13)).toArray) kt1 rfl kp1 body76 rfl (evs_cons rfl (evs_cons rfl evs_nil)) (fun w9 hw9 => Calls.okp (balance_must_api_Share_c n _ w9 (hS11.hL0 hL hw9) y11.1 y11.2 hy7)) rfl <| RD.vx 8 511 65024 kt1 rfl kp1 (FV.loadN (by kernel_rfl) rfl (hS11.memA (.tl .hd))) rfl ?_
   obtain ⟨y14, hy8, h⟩ := bind_in h
   refine RD.cq 9 1023 64512 (.tuple #[.agg ((cs_TShare y14.1)).toArray, .int .i64 y14.2]) kt1 rfl kp1 body77 rfl (evs_cons rfl (evs_cons rfl evs_nil)) (fun w9 hw9 => share_Div_c n _ w9 (hS11.hL0 hL hw9) y13 y8 hy8) rfl <| RD.vw 10 2047 kt1 rfl kp1 (fun _ => FV.extract rfl rfl) rfl <| RD.vw 11 4095 kt1 rfl kp1 (fun _ => FV.extract rfl rfl) rfl ?_
   obtain ⟨y15, hy9, h⟩ := bind_in h
   rcases y15 with e6 | y16
   ·skip
    have h := exc_e h
    try dsimp only at h
    have h := thn_inl h hh188
    refine RD.one (i := 12) (readyD_ok kt1 (by kernel_rfl)) (RO.callE (fst := []) (cap := []) rfl .plain body76 rfl (evs_cons rfl (evs_cons rfl evs_nil)) (fun w9 hw9 => balance_must_api_Share_c n _ w9 (hS11.hL0 hL hw9) y14.1 y14.2 hy9) (fun w12 hag8 => ?_))
    obtain ⟨hS15, hT15⟩ := hS11.agr hag8
    obtain rfl := Option.some.inj h
    exact PN.leave hp0 Tryz.func74 ⟨hS15.ag, rfl⟩
   have h := exc_o h
   try dsimp only at h
   refine RD.cq 12 8191 57344 (.agg ((cs_TShare y16)).toArray) kt1 rfl kp1 body76 rfl (evs_cons rfl (evs_cons rfl evs_nil)) (fun w9 hw9 => Calls.okp (balance_must_api_Share_c n _ w9 (hS11.hL0 hL hw9) y14.1 y14.2 hy9)) rfl <| RD.nu 13 16383 kt1 rfl .plain rfl (Does.build (α := TShare) (xs := ([y16] : List TShare)) (vs := [.agg ((cs_TShare y16)).toArray]) (ds' := (cs_TShare y16)) rfl hS11 el68 rfl (evs_cons rfl evs_nil) (by kernel_rfl) rfl) (fun w13 b2 hS16 hT16 => ?_)
   have hc2 := Cells.at_ (cs := (cs_TShare y16)) (xs := (([y16] : List TShare) : List TShare)) hS16 L (Cells.cons (cs := (cs_TShare y16)) (ds := []) (mk_TShare y16.fN y16.fD) (Cells.nil _ _))
   obtain ⟨xs1, hxs236, h⟩ := bind_in h
   have hm10 := Cells.mv hc1 hT16
   refine RD.one (i := 14) (readyD_ok kt1 (by kernel_rfl)) (RO.doesL (m' := 32767) (stepC_ok kt1 (by kernel_rfl)) rfl rfl .plain rfl (DoesL.app (α := TShare) (ys := ([y16] : List TShare)) (F := fun v' cs' => [.row w.heap.size 37 (Rep.size TShare) (.slice (some ⟨b2, 0, none⟩) 1 1) (([y16] : List TShare).length) (cs_TShare y16), .row w.heap.size 37 (Rep.size TShare) v' xs1.length cs', .cells b1 (cs_TShare y8) 37]) hxs236 hS16 (fun _ _ => (.tl .hd)) el68 rfl rfl hm10 (Src.row (α := TShare) hS16 .hd hc2)) (fun v3 w14 ⟨cs3, hS17, hT17, hc3⟩ => ?_))
   refine RD.one (i := 15) (readyD_ok kt1 (by kernel_rfl)) (RO.val (m' := 65535) (stepC_ok kt1 (by kernel_rfl)) rfl .plain rfl (FV.assign rfl) ?_)
   refine RD.done (doneD_ok kt1 (by kernel_rfl)) <| MX.inBlock <| MX.region <| RG.vv (FV.addN (i := i0) (j := 1) rfl rfl (by omega)) rfl <| RG.mv rfl rfl <| RG.nil ?_
   obtain ⟨hS19, hT18⟩ := St.arrB hS17 (.one (.tl .hd) (.one (.tl .hd) .done))
   have hm11 := Cells.mv hc3 hT18
   exact hJ190 (i0 + 1, xs1, v3, cs3) _ _ ⟨rfl, rfl, rfl, rfl, rfl, trivial⟩ ⟨hS19, (Tr.trans hT11 (Tr.trans hT16 (Tr.trans hT17 hT18))), hm11⟩ h
  refine MX.exit rfl ?_
  have h := thn_inr h hh188
  try dsimp only at h
  refine MX.sr <| RG.mv rfl rfl <| RG.sg rfl rfl <| RG.nil <| MX.ret rfl ?_
  have hr3 := St.freeze (α := TShare) hS11 .hd hc1 hL
  have hS20 := St.delS hS11 .hd
  have hT20 := St.delT hS11 .hd
  have hr4 := Rep.at_ (α := TShare) (v := v2) (xs := xs0) hS20 L hr3
  refine RT.leave hb0 Tryz.func74 rfl (.cons (.tmp rfl) .nil) rfl ?_
  obtain rfl := Option.some.inj h
  exact ⟨hS20.ag, fun w9 hw9 => okOf_in ⟨v2, rfl, Rep.keep0 (Rep.dropS hS20 hr4) hw9⟩⟩
def tb124_6 : List (Nat × Nat × Nat) := [(0, 131072, 32), (0, 262144, 8), (2, 524288, 262144), (1, 0, 131073), (15, 0, 524290)]
theorem body73 : bodyB Tryz.prog 73 = true := by kernel_rfl
theorem body74 : bodyB Tryz.prog 74 = true := by kernel_rfl
theorem body124 : bodyB Tryz.prog 124 = true := by kernel_rfl
def balance_Off_p (n : Nat) (a0 : TRoll) (a1 : List Int) (a2 : Int) : Option ((List TShare) × Int) :=
  (balance_Off_1_p n a0 a2 a1).bind fun y0 => exc y0 (fun y1 => some (y1, (0 : Int))) (fun e0 => some (([] : List TShare), e0.fErrno))
theorem balance_Off_c (n : Nat) (L : List Nat) (w : World) (hL : ∀ b ∈ L, b < w.heap.size) (a0 : TRoll) {v0_3 : Value} (h0_3 : Rep.R w L [v0_3] a0.fUnits) (a1 : List Int) {v1_0 : Value} (h1_0 : Rep.R w L [v1_0] a1) (a2 : Int)  {r : (List TShare) × Int} (h : balance_Off_p n a0 a1 a2 = some r) :
    Calls Tryz.prog 22 #[.agg #[.int .i64 a0.fGroups, .int .i64 a0.fParties, .int .i64 a0.fLevels, v0_3], v1_0, .int .i64 a2] w (Gives w fun w' u => ∃ v0_0 : Value, u = .tuple #[v0_0, .int .i64 r.2] ∧ Rep.R w' L [v0_0] r.1) := by
  unfold balance_Off_p at h
  have hS0 := St.start w
  refine MX.start Tryz.func22 rfl rfl rfl (fun _ cs0 hb0 => ?_)
  refine MX.sr <| RG.new .plain rfl (Does.box (vs := [.int .i64 a0.fGroups, .int .i64 a0.fParties, .int .i64 a0.fLevels, v0_3]) hS0 rfl rfl) (fun w2 b5 hS3 hT4 => ?_)
  have hm7 := Rep.mv h1_0 hT4
  refine RG.new .plain rfl (Does.box (vs := [v1_0]) hS3 rfl (Rep.c1 hm7)) (fun w8 b0 hS9 hT0 => ?_)
  refine RG.new .plain rfl (Does.box (vs := [.int .i64 a2]) hS9 rfl rfl) (fun w0 b1 hS1 hT1 => ?_)
  refine RG.sg rfl rfl <| RG.sg rfl rfl <| RG.nil <| MX.sr <| RG.vv (FV.makeFunc (vs := []) (us := [.pointer (some ⟨b5, 0, none⟩), .pointer (some ⟨b1, 0, none⟩), .pointer (some ⟨b0, 0, none⟩)]) evs_nil (evs_cons rfl (evs_cons rfl (evs_cons rfl evs_nil)))) rfl <| RG.enterP (fst := []) (cap := []) (vs := [.func (.func 74) #[] #[.pointer (some ⟨b5, 0, none⟩), .pointer (some ⟨b1, 0, none⟩), .pointer (some ⟨b0, 0, none⟩)]]) .plain body73 Tryz.func73 rfl rfl rfl rfl (evs_cons rfl evs_nil) rfl (fun cs1 hb1 hp0 => ?_)
  refine MX.sr <| RG.new .plain rfl (Does.alloc (zs := [.slice none 0 0]) hS1 (zB (by kernel_rfl))) (fun w1 b2 hS2 hT2 => ?_)
  refine RG.new .plain rfl (Does.alloc (zs := [.int .i64 0]) hS2 (zB (by kernel_rfl))) (fun w3 b3 hS4 hT3 => ?_)
  refine RG.nil <| MX.sr <| RG.vv (FV.makeFunc (vs := []) (us := [.pointer (some ⟨b2, 0, none⟩), .pointer (some ⟨b3, 0, none⟩)]) evs_nil (evs_cons rfl (evs_cons rfl evs_nil))) rfl <| RG.defer (fst := []) (cap := [.pointer (some ⟨b2, 0, none⟩), .pointer (some ⟨b3, 0, none⟩)]) (vs := []) rfl .plain rfl evs_nil <| RG.nil <| MX.sr ?_
  refine RG.mv rfl rfl ?_
  obtain ⟨y0, hy0, h⟩ := bind_in h
  rcases y0 with e0 | y1
  ·skip
   have h := exc_e h
   try dsimp only at h
   have hm0 := Rep.mv h0_3 (Tr.trans hT4 (Tr.trans hT0 (Tr.trans hT1 (Tr.trans hT2 hT3))))
   have hm1 := Rep.mv h1_0 (Tr.trans hT4 (Tr.trans hT0 (Tr.trans hT1 (Tr.trans hT2 hT3))))
   refine RG.callE (fst := []) (cap := [.pointer (some ⟨b5, 0, none⟩), .pointer (some ⟨b1, 0, none⟩), .pointer (some ⟨b0, 0, none⟩)]) .plain body74 rfl evs_nil (fun w9 hw9 => balance_Off_1_c n _ w9 (hS4.hL hL hw9) a0 (Rep.keep0 hm0 hw9) (fun j9 v9 h9 => hw9.cell0 ((hS4.memA (.tl (.tl (.tl (.tl .hd))))) j9 v9 h9)) a2 (fun j9 v9 h9 => hw9.cell0 ((hS4.memA (.tl (.tl .hd))) j9 v9 h9)) a1 (Rep.keep0 hm1 hw9) (fun j9 v9 h9 => hw9.cell0 ((hS4.memA (.tl (.tl (.tl .hd)))) j9 v9 h9)) hy0) (fun w4 hag0 => ?_)
   obtain ⟨hS5, hT5⟩ := hS4.agr hag0
   refine PN.callD (vs := []) (cap := [.pointer (some ⟨b2, 0, none⟩), .pointer (some ⟨b3, 0, none⟩)]) body124 Tryz.func124 rfl rfl rfl (fun c0 hc0 hk0 => ?_)
   refine MX.sr <| RG.recover1 .plain hc0 rfl <| RG.sg rfl rfl <| RG.nil <| MX.sr <| RG.mv rfl rfl ?_
   refine RG.vv (FV.neqI Tryz.underlying20 rfl rfl) rfl <| RG.nil <| MX.cond_t rfl <| MX.sr <| RG.mv rfl rfl <| RG.vv (FV.assertT (by kernel_rfl) rfl) rfl ?_
   refine RG.mv rfl rfl <| RG.vv (FV.extract rfl rfl) rfl <| RG.vv (FV.extract rfl rfl) rfl <| RG.new .plain rfl (Does.alloc (zs := [.int .i64 0]) hS5 (zB (by kernel_rfl))) (fun w5 b4 hS6 hT6 => ?_)
   refine RG.now .plain (Acts.storeAll (news := [.int .i64 e0.fErrno]) hS6 .hd rfl rfl rfl rfl rfl rfl (ones_cons rfl ones_nil)) (fun w6 hS7 hT7 => ?_)
   refine RG.sg rfl rfl <| RG.nil <| MX.seq <| MX.sr <| RG.mv rfl rfl <| RG.vv (FV.not rfl) rfl ?_
   refine RG.nil <| MX.cond_f rfl <| MX.skip <| MX.sr <| RG.sg rfl rfl <| RG.nil ?_
   refine MX.drawT 3 tb124_6 (by kernel_rfl) (by kernel_rfl) (by kernel_rfl) (fun kt0 kp0 => ?_)
   refine RD.vw 0 1 kt0 rfl kp0 (fun _ => FV.move rfl) rfl <| RD.vw 1 3 kt0 rfl kp0 (fun _ => FV.fieldAddr (off := 0) (by kernel_rfl) rfl) rfl <| RD.meet (α := Unit) (fun () => [(1, .pointer (some ⟨b3, 0, none⟩)), (19, .int .i64 e0.fErrno)]) (fun () wx0 => St w wx0 [.cells b3 [.int .i64 0] 51, .cells b2 [.slice none 0 0] 68, .cells b1 [.int .i64 a2] 3, .cells b0 [v1_0] 46, .cells b5 [.int .i64 a0.fGroups, .int .i64 a0.fParties, .int .i64 a0.fLevels, v0_3] 44] ∧ Tr w6 [.cells b4 [.int .i64 e0.fErrno] 140, .cells b3 [.int .i64 0] 51, .cells b2 [.slice none 0 0] 68, .cells b1 [.int .i64 a2] 3, .cells b0 [v1_0] 46, .cells b5 [.int .i64 a0.fGroups, .int .i64 a0.fParties, .int .i64 a0.fLevels, v0_3] 44] wx0 [.cells b3 [.int .i64 0] 51, .cells b2 [.slice none 0 0] 68, .cells b1 [.int .i64 a2] 3, .cells b0 [v1_0] 46, .cells b5 [.int .i64 a0.fGroups, .int .i64 a0.fParties, .int .i64 a0.fLevels, v0_3] 44]) 1 15 ?_ ?_
   ·skip
    rintro ⟨⟩ wx0 ⟨hS8, hT8⟩
    try dsimp only
    refine RD.nw 4 31 kt0 rfl rfl .plain (Acts.storeAll (news := [.int .i64 e0.fErrno]) hS8 .hd rfl rfl rfl rfl rfl rfl (ones_cons rfl ones_nil)) (fun w7 hS10 hT9 => ?_)
    refine RD.done (doneD_ok kt0 (by kernel_rfl)) <| MX.fin rfl <| RT.leaveD1 hk0 Tryz.func124 rfl .nil <| RT.leave (u := .tuple #[.slice none 0 0, .int .i64 e0.fErrno]) hb1 Tryz.func73 rfl (.cons (.one (by kernel_rfl) rfl ((hS10.memA (.tl .hd)) 0 _ rfl)) (.cons (.one (by kernel_rfl) rfl ((hS10.memA .hd) 0 _ rfl)) .nil)) rfl <| RG.vv (FV.extract rfl rfl) rfl <| RG.vv (FV.extract rfl rfl) rfl ?_
    refine RG.sg rfl rfl <| RG.sg rfl rfl <| RG.nil <| MX.ret rfl ?_
    have hr0 := Rep.nilAt (α := TShare) hS10 L
    refine RT.leave hb0 Tryz.func22 rfl (.cons (.tmp rfl) (.cons (.tmp rfl) .nil)) rfl ?_
    obtain rfl := Option.some.inj h
    have hr1 := Rep.nilAt (α := TShare) hS10 L
    exact ⟨hS10.ag, fun w9 hw9 => ⟨(.slice none 0 0), rfl, Rep.keep0 (Rep.dropS hS10 hr1) hw9⟩⟩
   ·skip
    intro hJ1263
    refine RD.each [2, 3] (readyD_ok kt0 (by kernel_rfl)) ⟨?_, ?_, trivial⟩
    ·skip
     refine RO.val (m' := 7) (stepC_ok kt0 (by kernel_rfl)) rfl .plain rfl (FV.load1 (by kernel_rfl) rfl ((hS7.memA .hd) 0 _ rfl)) <| RD.nw 3 15 kt0 rfl rfl .plain (Acts.storeAll (news := [.slice none 0 0]) hS7 (.tl (.tl .hd)) rfl rfl rfl rfl rfl rfl (ones_cons rfl ones_nil)) (fun w10 hS11 hT11 => ?_)
     obtain ⟨hS12, hT12⟩ := St.arrB hS11 (.one (.tl .hd) (.one (.tl .hd) (.one (.tl .hd) (.one (.tl .hd) (.one (.tl .hd) .done)))))
     exact hJ1263 () _ _ ⟨rfl, rfl, trivial⟩ ⟨hS12, (Tr.trans hT11 hT12)⟩
    ·skip
     refine RO.now (m' := 11) (stepC_ok kt0 (by kernel_rfl)) rfl rfl .plain (Acts.storeAll (news := [.slice none 0 0]) hS7 (.tl (.tl .hd)) rfl rfl rfl rfl rfl rfl (ones_cons rfl ones_nil)) (fun w10 hS11 hT11 => ?_)
     refine RD.vx 2 15 16 kt0 rfl kp0 (FV.load1 (by kernel_rfl) rfl ((hS11.memA .hd) 0 _ rfl)) rfl ?_
     obtain ⟨hS13, hT13⟩ := St.arrB hS11 (.one (.tl .hd) (.one (.tl .hd) (.one (.tl .hd) (.one (.tl .hd) (.one (.tl .hd) .done)))))
     exact hJ1263 () _ _ ⟨rfl, rfl, trivial⟩ ⟨hS13, (Tr.trans hT11 hT13)⟩
  have h := exc_o h
  try dsimp only at h
  have hm2 := Rep.mv h0_3 (Tr.trans hT4 (Tr.trans hT0 (Tr.trans hT1 (Tr.trans hT2 hT3))))
  have hm3 := Rep.mv h1_0 (Tr.trans hT4 (Tr.trans hT0 (Tr.trans hT1 (Tr.trans hT2 hT3))))
  refine RG.call' (fst := []) (cap := [.pointer (some ⟨b5, 0, none⟩), .pointer (some ⟨b1, 0, none⟩), .pointer (some ⟨b0, 0, none⟩)]) .plain body74 rfl evs_nil (fun w9 hw9 => Calls.okp (balance_Off_1_c n _ w9 (hS4.hL hL hw9) a0 (Rep.keep0 hm2 hw9) (fun j9 v9 h9 => hw9.cell0 ((hS4.memA (.tl (.tl (.tl (.tl .hd))))) j9 v9 h9)) a2 (fun j9 v9 h9 => hw9.cell0 ((hS4.memA (.tl (.tl .hd))) j9 v9 h9)) a1 (Rep.keep0 hm3 hw9) (fun j9 v9 h9 => hw9.cell0 ((hS4.memA (.tl (.tl (.tl .hd)))) j9 v9 h9)) hy0)) rfl (fun w11 vu0 hag1 ⟨v0, hu_, hr2⟩ => ?_)
  subst hu_
  obtain ⟨hS15, hT14⟩ := hS4.agr hag1
  refine RG.now .plain (Acts.storeAll (news := [vu0]) hS15 (.tl .hd) rfl rfl rfl (Rep.c1 hr2) rfl rfl (ones_cons (Rep.o1 hr2) ones_nil)) (fun w12 hS16 hT16 => ?_)
  refine RG.now .plain (Acts.storeAll (news := [.int .i64 0]) hS16 .hd rfl rfl rfl rfl rfl rfl (ones_cons rfl ones_nil)) (fun w14 hS17 hT17 => ?_)
  refine RG.nil <| MX.ret rfl <| RT.callD (vs := []) (cap := [.pointer (some ⟨b2, 0, none⟩), .pointer (some ⟨b3, 0, none⟩)]) body124 Tryz.func124 rfl rfl rfl (fun c1 hc1 hk1 => ?_)
  refine MX.sr <| RG.recover0 .plain hc1 rfl <| RG.sg rfl rfl <| RG.nil <| MX.sr <| RG.mv rfl rfl ?_
  refine RG.vv (FV.neqI0 Tryz.underlying20 rfl rfl) rfl <| RG.nil <| MX.cond_f rfl <| MX.skip <| MX.fin rfl <| RT.leaveD0 hc1 hk1 Tryz.func124 rfl .nil ?_
  refine RT.leave (u := .tuple #[vu0, .int .i64 0]) hb1 Tryz.func73 rfl (.cons (.one (by kernel_rfl) rfl ((hS17.memA (.tl .hd)) 0 _ rfl)) (.cons (.one (by kernel_rfl) rfl ((hS17.memA .hd) 0 _ rfl)) .nil)) rfl <| RG.vv (FV.extract rfl rfl) rfl <| RG.vv (FV.extract rfl rfl) rfl <| RG.sg rfl rfl <| RG.sg rfl rfl <| RG.nil ?_
  refine MX.ret rfl <| RT.leave hb0 Tryz.func22 rfl (.cons (.tmp rfl) (.cons (.tmp rfl) .nil)) rfl ?_
  obtain rfl := Option.some.inj h
  have hm4 := Rep.mv hr2 (Tr.trans hT16 hT17)
  exact ⟨hS17.ag, fun w9 hw9 => ⟨vu0, rfl, Rep.keep0 (Rep.dropS hS17 hm4) hw9⟩⟩
def tb90_2 : List (Nat × Nat × Nat) := [(0, 1024, 16), (0, 2048, 4), (3, 4096, 3072), (0, 8192, 16), (12, 16384, 8192), (23, 32, 4096), (63, 64, 16384)]
def tb90_4 : List (Nat × Nat × Nat) := [(0, 262144, 32), (1, 524288, 262144), (2, 1048576, 524288), (0, 2097152, 32), (12, 4194304, 3145728), (0, 8388608, 32), (32, 16777216, 8388608), (64, 33554432, 16777216), (0, 67108864, 32), (400, 134217728, 100663296), (528, 268435456, 138412032), (1536, 536870912, 268435456), (0, 1073741824, 64), (0, 2147483648, 2), (14336, 4294967296, 3221225472), (18432, 8589934592, 4831838208), (32768, 17179869184, 8589934592), (32768, 34359738368, 8589934592), (229376, 68719476736, 51539607552), (524287, 0, 68719476744)]
def balance_Spread_1_p (n : Nat) (a0 : TRoll) (a1 : Int) (a2 : List Int) : Option (Except Tbroken TShare) :=
  (balance_counted_p n a0 a1).bind fun y6 => exc y6 (fun y8 => (balance_count_totals_p n y8 a2).bind fun y0 => exc y0 (fun y1 => (balance_count_people_p n y8).bind fun y2 => (balance_fail_p n (decide (y2 = 0)) (7 : Int)).bind fun y3 => exc y3 (fun y4 => (y1[0]?).bind fun x0 => (balance_greatest_p n x0 y1).bind fun y5 => (balance_least_p n x0 y1).bind fun y7 => (chk (y5 - y7)).bind fun s0 => (balance_of_p n s0 (1 : Int)).bind fun y9 => exc y9 (fun y79 => (balance_of_p n y2 a1).bind fun y85 => exc y85 (fun y87 => (share_Div_p n y79 y87).bind fun y93 => (balance_must_api_Share_p n y93.1 y93.2).bind fun y94 => exc y94 (fun y96 => some (.ok y96)) (fun e0 => some (.error e0))) (fun e1 => some (.error e1))) (fun e2 => some (.error e2))) (fun e3 => some (.error e3))) (fun e4 => some (.error e4))) (fun e7 => some (.error e7))
theorem balance_Spread_1_c (n : Nat) (L : List Nat) (w : World) (hL : ∀ b ∈ L, b < w.heap.size) (a0 : TRoll) {v0_3 : Value} (h0_3 : Rep.R w L [v0_3] a0.fUnits) {p0 : Nat} (m0 : ∀ j9 v9, ([.int .i64 a0.fGroups, .int .i64 a0.fParties, .int .i64 a0.fLevels, v0_3] : List Value)[j9]? = some v9 → w.cell? ((⟨p0, 0, none⟩ : Addr).add j9) = some v9) (a1 : Int) {p1 : Nat} (m1 : ∀ j9 v9, ([.int .i64 a1] : List Value)[j9]? = some v9 → w.cell? ((⟨p1, 0, none⟩ : Addr).add j9) = some v9) (a2 : List Int) {v2_0 : Value} (h2_0 : Rep.R w L [v2_0] a2) {p2 : Nat} (m2 : ∀ j9 v9, ([v2_0] : List Value)[j9]? = some v9 → w.cell? ((⟨p2, 0, none⟩ : Addr).add j9) = some v9)  {r : Except Tbroken TShare} (h : balance_Spread_1_p n a0 a1 a2 = some r) :
    Calls Tryz.prog 90 #[.pointer (some ⟨p0, 0, none⟩), .pointer (some ⟨p1, 0, none⟩), .pointer (some ⟨p2, 0, none⟩)] w (PGives w (fun (y : TShare) _ u => u = .agg ((cs_TShare y)).toArray) (fun e => .iface 140 (.agg #[.int .i64 e.fErrno])) r) := by
  unfold balance_Spread_1_p at h
  have hS0 := St.start w
  refine MX.startP Tryz.func90 rfl rfl rfl (fun _ cs0 hb0 hp0 => ?_)
  refine MX.sr <| RG.new .plain rfl (Does.alloc (zs := [.int .u64 0, .int .u64 0, .int .u64 0, .int .u64 0, .int .u64 0, .int .u64 0, .int .u64 0, .int .u64 0, .int .u64 0, .int .u64 0, .int .u64 0, .int .u64 0, .int .u64 0, .int .u64 0, .int .u64 0, .int .u64 0]) hS0 (zB (by kernel_rfl))) (fun w2 b5 hS3 hT4 => ?_)
  refine RG.nil <| MX.sr <| RG.vv (FV.loadN (by kernel_rfl) rfl (fun j9 v9 h9 => hS3.ag.cell0 (m0 j9 v9 h9))) rfl <| RG.vv (FV.load1 (by kernel_rfl) rfl ((fun j9 v9 h9 => hS3.ag.cell0 (m1 j9 v9 h9)) 0 _ rfl)) rfl ?_
  obtain ⟨y6, hy6, h⟩ := bind_in h
  rcases y6 with e7 | y8
  ·skip
   have h := exc_e h
   try dsimp only at h
   have hm9 := Rep.mv h0_3 hT4
   refine RG.callE (fst := []) (cap := []) .plain body50 rfl (evs_cons rfl (evs_cons rfl evs_nil)) (fun w9 hw9 => balance_counted_c n _ w9 (hS3.hL hL hw9) a0 (Rep.keep0 hm9 hw9) a1 hy6) (fun w0 hag0 => ?_)
   obtain ⟨hS1, hT0⟩ := hS3.agr hag0
   obtain rfl := Option.some.inj h
   exact PN.leave hp0 Tryz.func90 ⟨hS1.ag, rfl⟩
  have h := exc_o h
  try dsimp only at h
  have hm0 := Rep.mv h0_3 hT4
  refine RG.call' (fst := []) (cap := []) .plain body50 rfl (evs_cons rfl (evs_cons rfl evs_nil)) (fun w9 hw9 => Calls.okp (balance_counted_c n _ w9 (hS3.hL hL hw9) a0 (Rep.keep0 hm0 hw9) a1 hy6)) rfl (fun w1 vu0 hag1 ⟨v0, hu_, hr0⟩ => ?_)
  subst hu_
  obtain ⟨hS2, hT1⟩ := hS3.agr hag1
  refine RG.new .plain rfl (Does.alloc (zs := [.int .i64 0, .int .i64 0, .int .i64 0, .slice none 0 0, .int .i64 0]) hS2 (zB (by kernel_rfl))) (fun w3 b0 hS4 hT2 => ?_)
  have hm1 := Rep.mv hr0 hT2
  refine RG.now .plain (Acts.storeAll (news := [.int .i64 y8.fRoll.fGroups, .int .i64 y8.fRoll.fParties, .int .i64 y8.fRoll.fLevels, v0, .int .i64 y8.fk]) hS4 .hd rfl rfl rfl rfl rfl rfl (ones_cons rfl (ones_cons rfl (ones_cons rfl (ones_cons (Rep.o1 hm1) (ones_cons rfl ones_nil)))))) (fun w4 hS5 hT3 => ?_)
  refine RG.nil <| MX.seq <| MX.drawT 7 tb90_2 (by kernel_rfl) (by kernel_rfl) (by kernel_rfl) (fun kt0 kp0 => ?_)
  refine RD.vx 0 1 116 kt0 rfl kp0 (FV.loadN (by kernel_rfl) rfl (hS5.memA .hd)) rfl <| RD.vx 1 3 116 kt0 rfl kp0 (FV.load1 (by kernel_rfl) rfl ((fun j9 v9 h9 => hS5.ag.cell0 (m2 j9 v9 h9)) 0 _ rfl)) rfl ?_
  obtain ⟨y0, hy0, h⟩ := bind_in h
  rcases y0 with e0 | y1
  ·skip
   have h := exc_e h
   try dsimp only at h
   refine RD.vx 3 11 112 kt0 rfl kp0 (FV.loadN (by kernel_rfl) rfl (hS5.memA .hd)) rfl ?_
   have hm2 := Rep.mv hr0 (Tr.trans hT2 hT3)
   have hm3 := Rep.mv h2_0 (Tr.trans hT4 (Tr.trans hT1 (Tr.trans hT2 hT3)))
   refine RD.one (i := 2) (readyD_ok kt0 (by kernel_rfl)) (RO.callE (fst := []) (cap := []) rfl .plain body58 rfl (evs_cons rfl (evs_cons rfl evs_nil)) (fun w9 hw9 => balance_count_totals_c n _ w9 (hS5.hL hL hw9) y8 (Rep.keep0 hm2 hw9) a2 (Rep.keep0 hm3 hw9) hy0) (fun w5 hag2 => ?_))
   obtain ⟨hS6, hT5⟩ := hS5.agr hag2
   obtain rfl := Option.some.inj h
   exact PN.leave hp0 Tryz.func90 ⟨hS6.ag, rfl⟩
  have h := exc_o h
  try dsimp only at h
  refine RD.vx 3 11 112 kt0 rfl kp0 (FV.loadN (by kernel_rfl) rfl (hS5.memA .hd)) rfl ?_
  have hm4 := Rep.mv hr0 (Tr.trans hT2 hT3)
  have hm5 := Rep.mv h2_0 (Tr.trans hT4 (Tr.trans hT1 (Tr.trans hT2 hT3)))
  refine RD.cl 2 15 kt0 rfl .plain body58 rfl (evs_cons rfl (evs_cons rfl evs_nil)) (fun w9 hw9 => Calls.okp (balance_count_totals_c n _ w9 (hS5.hL hL hw9) y8 (Rep.keep0 hm4 hw9) a2 (Rep.keep0 hm5 hw9) hy0)) rfl (fun w6 vu1 hag3 ⟨v1, hu_, hr1⟩ => ?_)
  subst hu_
  obtain ⟨hS7, hT6⟩ := hS5.agr hag3
  obtain ⟨y2, hy1, h⟩ := bind_in h
  have hm6 := Rep.mv hr0 (Tr.trans hT2 (Tr.trans hT3 hT6))
  refine RD.cq 4 31 96 (.int .i64 y2) kt0 rfl kp0 body71 rfl (evs_cons rfl evs_nil) (fun w9 hw9 => balance_count_people_c n _ w9 (hS7.hL0 hL hw9) y8 (Rep.keep0 (Rep.dropS hS7 hm6) hw9) hy1) rfl <| RD.vw 5 63 kt0 rfl kp0 (fun _ => FV.assign rfl) rfl <| RD.vw 6 127 kt0 rfl kp0 (fun _ => FV.assign rfl) rfl <| RD.done (doneD_ok kt0 (by kernel_rfl)) <| MX.sr <| RG.mv rfl rfl ?_
  refine RG.vv (FV.eql (i := y2) (j := 0) rfl rfl) rfl ?_
  obtain ⟨y3, hy2, h⟩ := bind_in h
  rcases y3 with e1 | y4
  ·skip
   have h := exc_e h
   try dsimp only at h
   refine RG.callE (fst := []) (cap := []) .plain body75 rfl (evs_cons rfl (evs_cons rfl evs_nil)) (fun w9 hw9 => balance_fail_c n _ w9 (hS7.hL0 hL hw9) (decide (y2 = 0)) (7 : Int) hy2) (fun w7 hag4 => ?_)
   obtain ⟨hS8, hT7⟩ := hS7.agr hag4
   obtain rfl := Option.some.inj h
   exact PN.leave hp0 Tryz.func90 ⟨hS8.ag, rfl⟩
  have h := exc_o h
  try dsimp only at h
  refine RG.cq (.tuple #[]) body75 rfl (evs_cons rfl (evs_cons rfl evs_nil)) (fun w9 hw9 => Calls.okp (balance_fail_c n _ w9 (hS7.hL0 hL hw9) (decide (y2 = 0)) (7 : Int) hy2)) rfl <| RG.nil <| MX.seq <| MX.drawT 19 tb90_4 (by kernel_rfl) (by kernel_rfl) (by kernel_rfl) (fun kt1 kp1 => ?_)
  refine RD.vw 0 1 kt1 rfl kp1 (fun _ => FV.move rfl) rfl ?_
  obtain ⟨x0, hx0, h⟩ := bind_in h
  obtain ⟨A66, c0, he0, hk0, cs1, hr2, hm7⟩ := Rep.nth hr1 hx0
  have he1 : cs1 = [.int .i64 x0] := hr2; subst he1
  refine RD.vw 1 3 kt1 rfl kp1 (fun _ => FV.idxAddr (m := 1) (i := 0) (by kernel_rfl) rfl he0 rfl rfl hk0) rfl <| RD.vx 2 7 1035792 kt1 rfl kp1 (FV.load1 (by kernel_rfl) rfl (hm7 0 _ rfl)) rfl <| RD.vw 3 15 kt1 rfl kp1 (fun _ => FV.move rfl) rfl ?_
  obtain ⟨y5, hy3, h⟩ := bind_in h
  refine RD.cq 4 31 1035776 (.int .i64 y5) kt1 rfl kp1 body60 rfl (evs_cons rfl (evs_cons rfl evs_nil)) (fun w9 hw9 => balance_greatest_c n _ w9 (hS7.hL0 hL hw9) x0 y1 (Rep.keep0 (Rep.dropS hS7 hr1) hw9) hy3) rfl <| RD.vw 5 63 kt1 rfl kp1 (fun _ => FV.move rfl) rfl <| RD.vw 6 127 kt1 rfl kp1 (fun _ => FV.idxAddr (m := 1) (i := 0) (by kernel_rfl) rfl he0 rfl rfl hk0) rfl <| RD.vx 7 255 1035776 kt1 rfl kp1 (FV.load1 (by kernel_rfl) rfl (hm7 0 _ rfl)) rfl <| RD.vw 8 511 kt1 rfl kp1 (fun _ => FV.move rfl) rfl ?_
  obtain ⟨y7, hy4, h⟩ := bind_in h
  refine RD.cq 9 1023 1035264 (.int .i64 y7) kt1 rfl kp1 body59 rfl (evs_cons rfl (evs_cons rfl evs_nil)) (fun w9 hw9 => balance_least_c n _ w9 (hS7.hL0 hL hw9) x0 y1 (Rep.keep0 (Rep.dropS hS7 hr1) hw9) hy4) rfl ?_
  obtain ⟨s0, hs0, h⟩ := bind_in h
  refine RD.vw 10 2047 kt1 rfl kp1 (fun _ => FV.subc (i := y5) (j := y7) rfl rfl hs0) rfl ?_
  obtain ⟨y9, hy5, h⟩ := bind_in h
  rcases y9 with e2 | y79
  ·skip
   have h := exc_e h
   try dsimp only at h
   refine RD.vw 12 6143 kt1 rfl kp1 (fun _ => FV.move rfl) rfl <| RD.vx 13 14335 1032192 kt1 rfl kp1 (FV.load1 (by kernel_rfl) rfl ((fun j9 v9 h9 => hS7.ag.cell0 (m1 j9 v9 h9)) 0 _ rfl)) rfl <| RD.one (i := 11) (readyD_ok kt1 (by kernel_rfl)) (RO.callE (fst := []) (cap := []) rfl .plain body70 rfl (evs_cons rfl (evs_cons rfl evs_nil)) (fun w9 hw9 => balance_of_c n _ w9 (hS7.hL0 hL hw9) s0 (1 : Int) hy5) (fun w8 hag5 => ?_))
   obtain ⟨hS9, hT8⟩ := hS7.agr hag5
   obtain rfl := Option.some.inj h
   exact PN.leave hp0 Tryz.func90 ⟨hS9.ag, rfl⟩
  have h := exc_o h
  try dsimp only at h
  refine RD.cq 11 4095 1032192 (.agg ((cs_TShare y79)).toArray) kt1 rfl kp1 body70 rfl (evs_cons rfl (evs_cons rfl evs_nil)) (fun w9 hw9 => Calls.okp (balance_of_c n _ w9 (hS7.hL0 hL hw9) s0 (1 : Int) hy5)) rfl <| RD.vw 12 8191 kt1 rfl kp1 (fun _ => FV.move rfl) rfl <| RD.vx 13 16383 1032192 kt1 rfl kp1 (FV.load1 (by kernel_rfl) rfl ((fun j9 v9 h9 => hS7.ag.cell0 (m1 j9 v9 h9)) 0 _ rfl)) rfl ?_
  obtain ⟨y85, hy7, h⟩ := bind_in h
  rcases y85 with e3 | y87
  ·skip
   have h := exc_e h
   try dsimp only at h
   refine RD.one (i := 14) (readyD_ok kt1 (by kernel_rfl)) (RO.callE (fst := []) (cap := []) rfl .plain body70 rfl (evs_cons rfl (evs_cons rfl evs_nil)) (fun w9 hw9 => balance_of_c n _ w9 (hS7.hL0 hL hw9) y2 a1 hy7) (fun w88 hag6 => ?_))
   obtain ⟨hS90, hT9⟩ := hS7.agr hag6
   obtain rfl := Option.some.inj h
   exact PN.leave hp0 Tryz.func90 ⟨hS90.ag, rfl⟩
  have h := exc_o h
  try dsimp only at h
  refine RD.cq 14 32767 1015808 (.agg ((cs_TShare y87)).toArray) kt1 rfl kp1 body70 rfl (evs_cons rfl (evs_cons rfl evs_nil)) (fun w9 hw9 => Calls.okp (balance_of_c n _ w9 (hS7.hL0 hL hw9) y2 a1 hy7)) rfl ?_
  obtain ⟨y93, hy8, h⟩ := bind_in h
  refine RD.cq 15 65535 983040 (.tuple #[.agg ((cs_TShare y93.1)).toArray, .int .i64 y93.2]) kt1 rfl kp1 body77 rfl (evs_cons rfl (evs_cons rfl evs_nil)) (fun w9 hw9 => share_Div_c n _ w9 (hS7.hL0 hL hw9) y79 y87 hy8) rfl <| RD.vw 16 131071 kt1 rfl kp1 (fun _ => FV.extract rfl rfl) rfl <| RD.vw 17 262143 kt1 rfl kp1 (fun _ => FV.extract rfl rfl) rfl ?_
  obtain ⟨y94, hy9, h⟩ := bind_in h
  rcases y94 with e4 | y96
  ·skip
   have h := exc_e h
   try dsimp only at h
   refine RD.one (i := 18) (readyD_ok kt1 (by kernel_rfl)) (RO.callE (fst := []) (cap := []) rfl .plain body76 rfl (evs_cons rfl (evs_cons rfl evs_nil)) (fun w9 hw9 => balance_must_api_Share_c n _ w9 (hS7.hL0 hL hw9) y93.1 y93.2 hy9) (fun w97 hag7 => ?_))
   obtain ⟨hS99, hT10⟩ := hS7.agr hag7
   obtain rfl := Option.some.inj h
   exact PN.leave hp0 Tryz.func90 ⟨hS99.ag, rfl⟩
  have h := exc_o h
  try dsimp only at h
  refine RD.cq 18 524287 524288 (.agg ((cs_TShare y96)).toArray) kt1 rfl kp1 body76 rfl (evs_cons rfl (evs_cons rfl evs_nil)) (fun w9 hw9 => Calls.okp (balance_must_api_Share_c n _ w9 (hS7.hL0 hL hw9) y93.1 y93.2 hy9)) rfl <| RD.nw 19 1048575 kt1 rfl rfl .plain (Acts.storeAll (news := (cs_TShare y96)) hS7 (.tl .hd) rfl rfl rfl rfl rfl rfl (onesB rfl)) (fun w11 hS10 hT11 => ?_)
  refine RD.done (doneD_ok kt1 (by kernel_rfl)) <| MX.ret rfl <| RT.leave hb0 Tryz.func90 rfl (.cons (.many (cs := (cs_TShare y96)) (by kernel_rfl) rfl (hS10.memA (.tl .hd))) .nil) rfl ?_
  obtain rfl := Option.some.inj h
  exact ⟨hS10.ag, fun w9 hw9 => okOf_in rfl⟩
theorem body90 : bodyB Tryz.prog 90 = true := by kernel_rfl
def balance_Spread_p (n : Nat) (a0 : TRoll) (a1 : List Int) (a2 : Int) : Option (TShare × Int) :=
  (balance_Spread_1_p n a0 a2 a1).bind fun y0 => exc y0 (fun y1 => some (y1, (0 : Int))) (fun e0 => some ((⟨((0 : UInt64), (0 : UInt64), (0 : UInt64), (0 : UInt64), (0 : UInt64), (0 : UInt64), (0 : UInt64), (0 : UInt64)), ((0 : UInt64), (0 : UInt64), (0 : UInt64), (0 : UInt64), (0 : UInt64), (0 : UInt64), (0 : UInt64), (0 : UInt64))⟩ : TShare), e0.fErrno))
theorem balance_Spread_c (n : Nat) (L : List Nat) (w : World) (hL : ∀ b ∈ L, b < w.heap.size) (a0 : TRoll) {v0_3 : Value} (h0_3 : Rep.R w L [v0_3] a0.fUnits) (a1 : List Int) {v1_0 : Value} (h1_0 : Rep.R w L [v1_0] a1) (a2 : Int)  {r : TShare × Int} (h : balance_Spread_p n a0 a1 a2 = some r) :
    Calls Tryz.prog 33 #[.agg #[.int .i64 a0.fGroups, .int .i64 a0.fParties, .int .i64 a0.fLevels, v0_3], v1_0, .int .i64 a2] w (Gives w fun _ u => u = .tuple #[.agg ((cs_TShare r.1)).toArray, .int .i64 r.2]) := by
  unfold balance_Spread_p at h
  have hS0 := St.start w
  refine MX.start Tryz.func33 rfl rfl rfl (fun _ cs0 hb0 => ?_)
  refine MX.sr <| RG.new .plain rfl (Does.box (vs := [.int .i64 a0.fGroups, .int .i64 a0.fParties, .int .i64 a0.fLevels, v0_3]) hS0 rfl rfl) (fun w2 b5 hS3 hT4 => ?_)
  have hm7 := Rep.mv h1_0 hT4
  refine RG.new .plain rfl (Does.box (vs := [v1_0]) hS3 rfl (Rep.c1 hm7)) (fun w8 b0 hS9 hT0 => ?_)
  refine RG.new .plain rfl (Does.box (vs := [.int .i64 a2]) hS9 rfl rfl) (fun w0 b1 hS1 hT1 => ?_)
  refine RG.new .plain rfl (Does.alloc (zs := [.int .u64 0, .int .u64 0, .int .u64 0, .int .u64 0, .int .u64 0, .int .u64 0, .int .u64 0, .int .u64 0, .int .u64 0, .int .u64 0, .int .u64 0, .int .u64 0, .int .u64 0, .int .u64 0, .int .u64 0, .int .u64 0]) hS1 (zB (by kernel_rfl))) (fun w1 b2 hS2 hT2 => ?_)
  refine RG.sg rfl rfl <| RG.nil <| MX.sr <| RG.vv (FV.makeFunc (vs := []) (us := [.pointer (some ⟨b5, 0, none⟩), .pointer (some ⟨b1, 0, none⟩), .pointer (some ⟨b0, 0, none⟩)]) evs_nil (evs_cons rfl (evs_cons rfl (evs_cons rfl evs_nil)))) rfl <| RG.enterP (fst := []) (cap := []) (vs := [.func (.func 90) #[] #[.pointer (some ⟨b5, 0, none⟩), .pointer (some ⟨b1, 0, none⟩), .pointer (some ⟨b0, 0, none⟩)]]) .plain body68 Tryz.func68 rfl rfl rfl rfl (evs_cons rfl evs_nil) rfl (fun cs1 hb1 hp0 => ?_)
  refine MX.sr <| RG.new .plain rfl (Does.alloc (zs := [.int .u64 0, .int .u64 0, .int .u64 0, .int .u64 0, .int .u64 0, .int .u64 0, .int .u64 0, .int .u64 0, .int .u64 0, .int .u64 0, .int .u64 0, .int .u64 0, .int .u64 0, .int .u64 0, .int .u64 0, .int .u64 0]) hS2 (zB (by kernel_rfl))) (fun w3 b3 hS4 hT3 => ?_)
  refine RG.new .plain rfl (Does.alloc (zs := [.int .i64 0]) hS4 (zB (by kernel_rfl))) (fun w4 b4 hS5 hT5 => ?_)
  refine RG.nil <| MX.sr <| RG.vv (FV.makeFunc (vs := []) (us := [.pointer (some ⟨b3, 0, none⟩), .pointer (some ⟨b4, 0, none⟩)]) evs_nil (evs_cons rfl (evs_cons rfl evs_nil))) rfl <| RG.defer (fst := []) (cap := [.pointer (some ⟨b3, 0, none⟩), .pointer (some ⟨b4, 0, none⟩)]) (vs := []) rfl .plain rfl evs_nil <| RG.nil <| MX.sr ?_
  refine RG.mv rfl rfl ?_
  obtain ⟨y0, hy0, h⟩ := bind_in h
  rcases y0 with e0 | y1
  ·skip
   have h := exc_e h
   try dsimp only at h
   have hm0 := Rep.mv h0_3 (Tr.trans hT4 (Tr.trans hT0 (Tr.trans hT1 (Tr.trans hT2 (Tr.trans hT3 hT5)))))
   have hm1 := Rep.mv h1_0 (Tr.trans hT4 (Tr.trans hT0 (Tr.trans hT1 (Tr.trans hT2 (Tr.trans hT3 hT5)))))
   refine RG.callE (fst := []) (cap := [.pointer (some ⟨b5, 0, none⟩), .pointer (some ⟨b1, 0, none⟩), .pointer (some ⟨b0, 0, none⟩)]) .plain body90 rfl evs_nil (fun w9 hw9 => balance_Spread_1_c n _ w9 (hS5.hL0 hL hw9) a0 (Rep.keep0 (Rep.dropS hS5 hm0) hw9) (fun j9 v9 h9 => hw9.cell0 ((hS5.memA (.tl (.tl (.tl (.tl (.tl .hd)))))) j9 v9 h9)) a2 (fun j9 v9 h9 => hw9.cell0 ((hS5.memA (.tl (.tl (.tl .hd)))) j9 v9 h9)) a1 (Rep.keep0 (Rep.dropS hS5 hm1) hw9) (fun j9 v9 h9 => hw9.cell0 ((hS5.memA (.tl (.tl (.tl (.tl .hd))))) j9 v9 h9)) hy0) (fun w5 hag0 => ?_)
   obtain ⟨hS6, hT6⟩ := hS5.agr hag0
   refine PN.callD (vs := []) (cap := [.pointer (some ⟨b3, 0, none⟩), .pointer (some ⟨b4, 0, none⟩)]) body123 Tryz.func123 rfl rfl rfl (fun c0 hc0 hk0 => ?_)
   refine MX.sr <| RG.recover1 .plain hc0 rfl <| RG.sg rfl rfl <| RG.nil <| MX.sr <| RG.mv rfl rfl ?_
   refine RG.vv (FV.neqI Tryz.underlying20 rfl rfl) rfl <| RG.nil <| MX.cond_t rfl <| MX.sr <| RG.mv rfl rfl <| RG.vv (FV.assertT (by kernel_rfl) rfl) rfl ?_
   refine RG.mv rfl rfl <| RG.vv (FV.extract rfl rfl) rfl <| RG.vv (FV.extract rfl rfl) rfl <| RG.new .plain rfl (Does.alloc (zs := [.int .i64 0]) hS6 (zB (by kernel_rfl))) (fun w6 b6 hS7 hT7 => ?_)
   refine RG.now .plain (Acts.storeAll (news := [.int .i64 e0.fErrno]) hS7 .hd rfl rfl rfl rfl rfl rfl (ones_cons rfl ones_nil)) (fun w7 hS8 hT8 => ?_)
   refine RG.sg rfl rfl <| RG.nil <| MX.seq <| MX.sr <| RG.mv rfl rfl <| RG.vv (FV.not rfl) rfl ?_
   refine RG.nil <| MX.cond_f rfl <| MX.skip <| MX.sr <| RG.new .plain rfl (Does.alloc (zs := [.int .u64 0, .int .u64 0, .int .u64 0, .int .u64 0, .int .u64 0, .int .u64 0, .int .u64 0, .int .u64 0, .int .u64 0, .int .u64 0, .int .u64 0, .int .u64 0, .int .u64 0, .int .u64 0, .int .u64 0, .int .u64 0]) hS8 (zB (by kernel_rfl))) (fun w56 b7 hS57 hT9 => ?_)
   refine RG.nil <| MX.drawT 3 tb123_6 (by kernel_rfl) (by kernel_rfl) (by kernel_rfl) (fun kt0 kp0 => ?_)
   refine RD.vx 0 1 24 kt0 rfl kp0 (FV.loadN (by kernel_rfl) rfl (hS57.memA .hd)) rfl <| RD.vw 1 3 kt0 rfl kp0 (fun _ => FV.fieldAddr (off := 0) (by kernel_rfl) rfl) rfl <| RD.meet (α := Unit) (fun () => [(1, .pointer (some ⟨b4, 0, none⟩)), (19, .int .i64 e0.fErrno)]) (fun () wx0 => St w wx0 [.cells b4 [.int .i64 0] 51, .cells b3 [.int .u64 0, .int .u64 0, .int .u64 0, .int .u64 0, .int .u64 0, .int .u64 0, .int .u64 0, .int .u64 0, .int .u64 0, .int .u64 0, .int .u64 0, .int .u64 0, .int .u64 0, .int .u64 0, .int .u64 0, .int .u64 0] 37, .cells b2 [.int .u64 0, .int .u64 0, .int .u64 0, .int .u64 0, .int .u64 0, .int .u64 0, .int .u64 0, .int .u64 0, .int .u64 0, .int .u64 0, .int .u64 0, .int .u64 0, .int .u64 0, .int .u64 0, .int .u64 0, .int .u64 0] 37, .cells b1 [.int .i64 a2] 3, .cells b0 [v1_0] 46, .cells b5 [.int .i64 a0.fGroups, .int .i64 a0.fParties, .int .i64 a0.fLevels, v0_3] 44] ∧ Tr w56 [.cells b7 [.int .u64 0, .int .u64 0, .int .u64 0, .int .u64 0, .int .u64 0, .int .u64 0, .int .u64 0, .int .u64 0, .int .u64 0, .int .u64 0, .int .u64 0, .int .u64 0, .int .u64 0, .int .u64 0, .int .u64 0, .int .u64 0] 37, .cells b6 [.int .i64 e0.fErrno] 140, .cells b4 [.int .i64 0] 51, .cells b3 [.int .u64 0, .int .u64 0, .int .u64 0, .int .u64 0, .int .u64 0, .int .u64 0, .int .u64 0, .int .u64 0, .int .u64 0, .int .u64 0, .int .u64 0, .int .u64 0, .int .u64 0, .int .u64 0, .int .u64 0, .int .u64 0] 37, .cells b2 [.int .u64 0, .int .u64 0, .int .u64 0, .int .u64 0, .int .u64 0, .int .u64 0, .int .u64 0, .int .u64 0, .int .u64 0, .int .u64 0, .int .u64 0, .int .u64 0, .int .u64 0, .int .u64 0, .int .u64 0, .int .u64 0] 37, .cells b1 [.int .i64 a2] 3, .cells b0 [v1_0] 46, .cells b5 [.int .i64 a0.fGroups, .int .i64 a0.fParties, .int .i64 a0.fLevels, v0_3] 44] wx0 [.cells b4 [.int .i64 0] 51, .cells b3 [.int .u64 0, .int .u64 0, .int .u64 0, .int .u64 0, .int .u64 0, .int .u64 0, .int .u64 0, .int .u64 0, .int .u64 0, .int .u64 0, .int .u64 0, .int .u64 0, .int .u64 0, .int .u64 0, .int .u64 0, .int .u64 0] 37, .cells b2 [.int .u64 0, .int .u64 0, .int .u64 0, .int .u64 0, .int .u64 0, .int .u64 0, .int .u64 0, .int .u64 0, .int .u64 0, .int .u64 0, .int .u64 0, .int .u64 0, .int .u64 0, .int .u64 0, .int .u64 0, .int .u64 0] 37, .cells b1 [.int .i64 a2] 3, .cells b0 [v1_0] 46, .cells b5 [.int .i64 a0.fGroups, .int .i64 a0.fParties, .int .i64 a0.fLevels, v0_3] 44]) 1 15 ?_ ?_
   ·skip
    rintro ⟨⟩ wx0 ⟨hS10, hT11⟩
    try dsimp only
    refine RD.nw 4 31 kt0 rfl rfl .plain (Acts.storeAll (news := [.int .i64 e0.fErrno]) hS10 .hd rfl rfl rfl rfl rfl rfl (ones_cons rfl ones_nil)) (fun w10 hS11 hT12 => ?_)
    refine RD.done (doneD_ok kt0 (by kernel_rfl)) <| MX.fin rfl <| RT.leaveD1 hk0 Tryz.func123 rfl .nil <| RT.leave (u := .tuple #[.agg #[.int .u64 0, .int .u64 0, .int .u64 0, .int .u64 0, .int .u64 0, .int .u64 0, .int .u64 0, .int .u64 0, .int .u64 0, .int .u64 0, .int .u64 0, .int .u64 0, .int .u64 0, .int .u64 0, .int .u64 0, .int .u64 0], .int .i64 e0.fErrno]) hb1 Tryz.func68 rfl (.cons (.many (cs := [.int .u64 0, .int .u64 0, .int .u64 0, .int .u64 0, .int .u64 0, .int .u64 0, .int .u64 0, .int .u64 0, .int .u64 0, .int .u64 0, .int .u64 0, .int .u64 0, .int .u64 0, .int .u64 0, .int .u64 0, .int .u64 0]) (by kernel_rfl) rfl (hS11.memA (.tl .hd))) (.cons (.one (by kernel_rfl) rfl ((hS11.memA .hd) 0 _ rfl)) .nil)) rfl <| RG.vv (FV.extract rfl rfl) rfl <| RG.vv (FV.extract rfl rfl) rfl ?_
    refine RG.now .plain (Acts.storeAll (news := [.int .u64 0, .int .u64 0, .int .u64 0, .int .u64 0, .int .u64 0, .int .u64 0, .int .u64 0, .int .u64 0, .int .u64 0, .int .u64 0, .int .u64 0, .int .u64 0, .int .u64 0, .int .u64 0, .int .u64 0, .int .u64 0]) hS11 (.tl (.tl .hd)) rfl rfl rfl rfl rfl rfl (onesB rfl)) (fun w11 hS12 hT13 => ?_)
    refine RG.sg rfl rfl <| RG.nil <| MX.ret rfl <| RT.leave hb0 Tryz.func33 rfl (.cons (.many (cs := [.int .u64 0, .int .u64 0, .int .u64 0, .int .u64 0, .int .u64 0, .int .u64 0, .int .u64 0, .int .u64 0, .int .u64 0, .int .u64 0, .int .u64 0, .int .u64 0, .int .u64 0, .int .u64 0, .int .u64 0, .int .u64 0]) (by kernel_rfl) rfl (hS12.memA (.tl (.tl .hd)))) (.cons (.tmp rfl) .nil)) rfl ?_
    obtain rfl := Option.some.inj h
    exact ⟨hS12.ag, fun w9 hw9 => rfl⟩
   ·skip
    intro hJ1274
    refine RD.each [2, 3] (readyD_ok kt0 (by kernel_rfl)) ⟨?_, ?_, trivial⟩
    ·skip
     refine RO.val (m' := 7) (stepC_ok kt0 (by kernel_rfl)) rfl .plain rfl (FV.load1 (by kernel_rfl) rfl ((hS57.memA (.tl .hd)) 0 _ rfl)) <| RD.nw 3 15 kt0 rfl rfl .plain (Acts.storeAll (news := [.int .u64 0, .int .u64 0, .int .u64 0, .int .u64 0, .int .u64 0, .int .u64 0, .int .u64 0, .int .u64 0, .int .u64 0, .int .u64 0, .int .u64 0, .int .u64 0, .int .u64 0, .int .u64 0, .int .u64 0, .int .u64 0]) hS57 (.tl (.tl (.tl .hd))) rfl rfl rfl rfl rfl rfl (onesB rfl)) (fun w12 hS13 hT14 => ?_)
     obtain ⟨hS15, hT16⟩ := St.arrB hS13 (.one (.tl (.tl .hd)) (.one (.tl (.tl .hd)) (.one (.tl (.tl .hd)) (.one (.tl (.tl .hd)) (.one (.tl (.tl .hd)) (.one (.tl (.tl .hd)) .done))))))
     exact hJ1274 () _ _ ⟨rfl, rfl, trivial⟩ ⟨hS15, (Tr.trans hT14 hT16)⟩
    ·skip
     refine RO.now (m' := 11) (stepC_ok kt0 (by kernel_rfl)) rfl rfl .plain (Acts.storeAll (news := [.int .u64 0, .int .u64 0, .int .u64 0, .int .u64 0, .int .u64 0, .int .u64 0, .int .u64 0, .int .u64 0, .int .u64 0, .int .u64 0, .int .u64 0, .int .u64 0, .int .u64 0, .int .u64 0, .int .u64 0, .int .u64 0]) hS57 (.tl (.tl (.tl .hd))) rfl rfl rfl rfl rfl rfl (onesB rfl)) (fun w12 hS13 hT14 => ?_)
     refine RD.vx 2 15 16 kt0 rfl kp0 (FV.load1 (by kernel_rfl) rfl ((hS13.memA (.tl .hd)) 0 _ rfl)) rfl ?_
     obtain ⟨hS16, hT17⟩ := St.arrB hS13 (.one (.tl (.tl .hd)) (.one (.tl (.tl .hd)) (.one (.tl (.tl .hd)) (.one (.tl (.tl .hd)) (.one (.tl (.tl .hd)) (.one (.tl (.tl .hd)) .done))))))
     exact hJ1274 () _ _ ⟨rfl, rfl, trivial⟩ ⟨hS16, (Tr.trans hT14 hT17)⟩
  have h := exc_o h
  try dsimp only at h
  have hm2 := Rep.mv h0_3 (Tr.trans hT4 (Tr.trans hT0 (Tr.trans hT1 (Tr.trans hT2 (Tr.trans hT3 hT5)))))
  have hm3 := Rep.mv h1_0 (Tr.trans hT4 (Tr.trans hT0 (Tr.trans hT1 (Tr.trans hT2 (Tr.trans hT3 hT5)))))
  refine RG.callq' (v := .agg ((cs_TShare y1)).toArray) (fst := []) (cap := [.pointer (some ⟨b5, 0, none⟩), .pointer (some ⟨b1, 0, none⟩), .pointer (some ⟨b0, 0, none⟩)]) .plain body90 rfl evs_nil (fun w9 hw9 => Calls.okp (balance_Spread_1_c n _ w9 (hS5.hL0 hL hw9) a0 (Rep.keep0 (Rep.dropS hS5 hm2) hw9) (fun j9 v9 h9 => hw9.cell0 ((hS5.memA (.tl (.tl (.tl (.tl (.tl .hd)))))) j9 v9 h9)) a2 (fun j9 v9 h9 => hw9.cell0 ((hS5.memA (.tl (.tl (.tl .hd)))) j9 v9 h9)) a1 (Rep.keep0 (Rep.dropS hS5 hm3) hw9) (fun j9 v9 h9 => hw9.cell0 ((hS5.memA (.tl (.tl (.tl (.tl .hd))))) j9 v9 h9)) hy0)) rfl <| RG.now .plain (Acts.storeAll (news := (cs_TShare y1)) hS5 (.tl .hd) rfl rfl rfl rfl rfl rfl (onesB rfl)) (fun w14 hS17 hT18 => ?_)
  refine RG.now .plain (Acts.storeAll (news := [.int .i64 0]) hS17 .hd rfl rfl rfl rfl rfl rfl (ones_cons rfl ones_nil)) (fun w15 hS18 hT19 => ?_)
  refine RG.nil <| MX.ret rfl <| RT.callD (vs := []) (cap := [.pointer (some ⟨b3, 0, none⟩), .pointer (some ⟨b4, 0, none⟩)]) body123 Tryz.func123 rfl rfl rfl (fun c1 hc1 hk1 => ?_)
  refine MX.sr <| RG.recover0 .plain hc1 rfl <| RG.sg rfl rfl <| RG.nil <| MX.sr <| RG.mv rfl rfl ?_
  refine RG.vv (FV.neqI0 Tryz.underlying20 rfl rfl) rfl <| RG.nil <| MX.cond_f rfl <| MX.skip <| MX.fin rfl <| RT.leaveD0 hc1 hk1 Tryz.func123 rfl .nil ?_
  refine RT.leave (u := .tuple #[.agg ((cs_TShare y1)).toArray, .int .i64 0]) hb1 Tryz.func68 rfl (.cons (.many (cs := (cs_TShare y1)) (by kernel_rfl) rfl (hS18.memA (.tl .hd))) (.cons (.one (by kernel_rfl) rfl ((hS18.memA .hd) 0 _ rfl)) .nil)) rfl <| RG.vv (FV.extract rfl rfl) rfl <| RG.vv (FV.extract rfl rfl) rfl <| RG.now .plain (Acts.storeAll (news := (cs_TShare y1)) hS18 (.tl (.tl .hd)) rfl rfl rfl rfl rfl rfl (onesB rfl)) (fun w16 hS20 hT21 => ?_)
  refine RG.sg rfl rfl <| RG.nil <| MX.ret rfl <| RT.leave hb0 Tryz.func33 rfl (.cons (.many (cs := (cs_TShare y1)) (by kernel_rfl) rfl (hS20.memA (.tl (.tl .hd)))) (.cons (.tmp rfl) .nil)) rfl ?_
  obtain rfl := Option.some.inj h
  exact ⟨hS20.ag, fun w9 hw9 => rfl⟩
theorem el42 : ElT Tryz.prog 42 65 (Rep.size TUnit) 104 (.agg #[.string ⟨#[]⟩, .int .i64 0, .slice none 0 0, .slice none 0 0, .slice none 0 0, .bool false]) [.string ⟨#[]⟩, .int .i64 0, .slice none 0 0, .slice none 0 0, .slice none 0 0, .bool false] := ⟨Tryz.underlying42, by kernel_rfl, rfl, rfl, rfl, rfl⟩
def wardmotelaw22_four_p (_n : Nat) : Option TRoll :=
  (app ([] : List TUnit) ([(⟨⟨#[97]⟩, (10 : Int), ([] : List Int), ([] : List Int), ([] : List Int), false⟩ : TUnit)] : List TUnit)).bind fun xs0 => (app xs0 ([(⟨⟨#[98]⟩, (20 : Int), ([] : List Int), ([] : List Int), ([] : List Int), false⟩ : TUnit)] : List TUnit)).bind fun xs1 => (app xs1 ([(⟨⟨#[99]⟩, (30 : Int), ([] : List Int), ([] : List Int), ([] : List Int), false⟩ : TUnit)] : List TUnit)).bind fun xs2 => (app xs2 ([(⟨⟨#[100]⟩, (40 : Int), ([] : List Int), ([] : List Int), ([] : List Int), false⟩ : TUnit)] : List TUnit)).bind fun xs3 => some (⟨(0 : Int), (0 : Int), (0 : Int), xs3⟩ : TRoll)
theorem wardmotelaw22_four_c (n : Nat) (L : List Nat) (w : World) (_hL : ∀ b ∈ L, b < w.heap.size)  {r : TRoll} (h : wardmotelaw22_four_p n = some r) :
    Calls Tryz.prog 36 #[] w (Gives w fun w' u => ∃ (v0_3 : Value) (cs0_3 : List Value), u = .agg #[.int .i64 r.fGroups, .int .i64 r.fParties, .int .i64 r.fLevels, v0_3] ∧ St w w' (rowsOf w.heap.size [(65, Rep.size TUnit, v0_3, r.fUnits.length, cs0_3)]) ∧ Cells w' (bl (rowsOf w.heap.size [(65, Rep.size TUnit, v0_3, r.fUnits.length, cs0_3)]) ++ L) cs0_3 (r.fUnits : List TUnit)) := by
  unfold wardmotelaw22_four_p at h
  have hS0 := St.start w
  refine MX.start Tryz.func36 rfl rfl rfl (fun _ cs0 hb0 => ?_)
  refine MX.sr <| RG.new .plain rfl (Does.alloc (zs := [.int .i64 0, .int .i64 0, .int .i64 0, .slice none 0 0]) hS0 (zB (by kernel_rfl))) (fun w2 b5 hS3 hT4 => ?_)
  refine RG.nil <| MX.sr <| RG.new .plain rfl (Does.alloc (zs := [.int .i64 0, .int .i64 0, .int .i64 0, .slice none 0 0]) hS3 (zB (by kernel_rfl))) (fun w7 b0 hS8 hT9 => ?_)
  refine RG.nil <| MX.seq <| MX.sr <| RG.vv (FV.buildV (vs := [.string ⟨#[97]⟩, .string ⟨#[98]⟩, .string ⟨#[99]⟩, .string ⟨#[100]⟩]) (u := .agg #[.string ⟨#[97]⟩, .string ⟨#[98]⟩, .string ⟨#[99]⟩, .string ⟨#[100]⟩]) (evs_cons rfl (evs_cons rfl (evs_cons rfl (evs_cons rfl evs_nil)))) (fun w9 => by kernel_rfl)) rfl <| RG.mv rfl rfl <| RG.nil ?_
  refine MX.block <| MX.loop1 <| MX.sr <| RG.vv (FV.lssN (i := 0) (j := 4) rfl rfl) rfl <| RG.nil <| MX.seq ?_
  refine MX.cond_t rfl <| MX.skip <| MX.seq <| MX.block <| MX.sr <| RG.mv rfl rfl ?_
  refine RG.vv (FV.idx1 (cs := [.string ⟨#[97]⟩, .string ⟨#[98]⟩, .string ⟨#[99]⟩, .string ⟨#[100]⟩]) (k := 0) (m := 1) (len := 4) (by kernel_rfl) (by kernel_rfl) rfl rfl rfl (by omega) rfl) rfl <| RG.sg rfl rfl <| RG.sg rfl rfl <| RG.nil <| MX.region <| RG.vv (FV.fieldAddr (off := 3) (by kernel_rfl) rfl) rfl ?_
  refine RG.vv (FV.load1 (by kernel_rfl) rfl ((hS8.memA .hd) 3 _ rfl)) rfl <| RG.mv rfl rfl <| RG.mv rfl rfl <| RG.vv (FV.add (i := 0) (j := 1) (r := 1) rfl rfl (by decide)) rfl <| RG.vv (FV.mul (i := 10) (j := 1) (r := 10) rfl rfl (by decide)) rfl <| RG.vv (FV.buildV (vs := [.string ⟨#[97]⟩, .int .i64 10]) (u := .agg #[.string ⟨#[97]⟩, .int .i64 10, .slice none 0 0, .slice none 0 0, .slice none 0 0, .bool false]) (evs_cons rfl (evs_cons rfl evs_nil)) (fun w9 => by kernel_rfl)) rfl ?_
  have hr0 := Rep.nilAt (α := Int) hS8 L
  have hr1 := Rep.nilAt (α := Int) hS8 L
  have hr2 := Rep.nilAt (α := Int) hS8 L
  have hr3 := Rep.nilAt (α := Int) hS8 L
  have hr4 := Rep.nilAt (α := Int) hS8 L
  have hr5 := Rep.nilAt (α := Int) hS8 L
  have hr6 := Rep.nilAt (α := Int) hS8 L
  have hr7 := Rep.nilAt (α := Int) hS8 L
  have hr8 := Rep.nilAt (α := Int) hS8 L
  refine RG.new .plain rfl (Does.build (α := TUnit) (xs := ([(⟨⟨#[97]⟩, (10 : Int), ([] : List Int), ([] : List Int), ([] : List Int), false⟩ : TUnit)] : List TUnit)) (vs := [.agg #[.string ⟨#[97]⟩, .int .i64 10, .slice none 0 0, .slice none 0 0, .slice none 0 0, .bool false]]) (ds' := [.string ⟨#[97]⟩, .int .i64 10, .slice none 0 0, .slice none 0 0, .slice none 0 0, .bool false]) rfl hS8 el42 rfl (evs_cons rfl evs_nil) (by kernel_rfl) rfl) (fun w0 b1 hS1 hT0 => ?_)
  have hr9 := Rep.nilAt (α := Int) hS1 L
  have hr27 := Rep.nilAt (α := Int) hS1 L
  have hr28 := Rep.nilAt (α := Int) hS1 L
  have hr29 := Rep.nilAt (α := Int) hS1 L
  have hr30 := Rep.nilAt (α := Int) hS1 L
  have hr31 := Rep.nilAt (α := Int) hS1 L
  have hc0 := Cells.at_ (cs := [.string ⟨#[97]⟩, .int .i64 10, .slice none 0 0, .slice none 0 0, .slice none 0 0, .bool false]) (xs := (([(⟨⟨#[97]⟩, (10 : Int), ([] : List Int), ([] : List Int), ([] : List Int), false⟩ : TUnit)] : List TUnit) : List TUnit)) hS1 L (Cells.cons (cs := [.string ⟨#[97]⟩, .int .i64 10, .slice none 0 0, .slice none 0 0, .slice none 0 0, .bool false]) (ds := []) (mk_TUnit ⟨#[97]⟩ (10 : Int) ([] : List Int) hr27 ([] : List Int) hr29 ([] : List Int) hr31 false) (Cells.nil _ _))
  have hS2 := hS1.nilRow 65 (Rep.size TUnit)
  have hT1 := St.nilRowT hS1 65 (Rep.size TUnit)
  have hc1 := Cells.at_ (cs := []) (xs := ([] : List TUnit)) hS2 L (Cells.nil _ _)
  obtain ⟨xs0, hxs36, h⟩ := bind_in h
  have hm0 := Cells.mv hc0 hT1
  refine RG.doesL .plain rfl (DoesL.app (α := TUnit) (ys := ([(⟨⟨#[97]⟩, (10 : Int), ([] : List Int), ([] : List Int), ([] : List Int), false⟩ : TUnit)] : List TUnit)) (F := fun v' cs' => [.row w.heap.size 65 (Rep.size TUnit) v' xs0.length cs', .row w.heap.size 65 (Rep.size TUnit) (.slice (some ⟨b1, 0, none⟩) 1 1) (([(⟨⟨#[97]⟩, (10 : Int), ([] : List Int), ([] : List Int), ([] : List Int), false⟩ : TUnit)] : List TUnit).length) [.string ⟨#[97]⟩, .int .i64 10, .slice none 0 0, .slice none 0 0, .slice none 0 0, .bool false], .cells b0 [.int .i64 0, .int .i64 0, .int .i64 0, .slice none 0 0] 44, .cells b5 [.int .i64 0, .int .i64 0, .int .i64 0, .slice none 0 0] 44]) hxs36 hS2 (fun _ _ => .hd) el42 rfl rfl hc1 (Src.row (α := TUnit) hS2 (.tl .hd) hm0)) (fun v0 w1 ⟨cs1, hS4, hT2, hc2⟩ => ?_)
  refine RG.vv (FV.fieldAddr (off := 3) (by kernel_rfl) rfl) rfl <| RG.now .plain (Acts.store (j := 3) (old := [.int .i64 0, .int .i64 0, .int .i64 0, .slice none 0 0]) (news := [v0]) (new' := [.int .i64 0, .int .i64 0, .int .i64 0, v0]) hS4 (.tl (.tl .hd)) rfl rfl rfl (St.c1 (α := TUnit) hS4 .hd) rfl rfl (ones_cons (St.o1 (α := TUnit) hS4 .hd) ones_nil) rfl) (fun w3 hS5 hT3 => ?_)
  refine RG.nil <| MX.inBlock <| MX.region <| RG.vv (FV.add (i := 0) (j := 1) (r := 1) rfl rfl (by decide)) rfl <| RG.mv rfl rfl <| RG.nil ?_
  refine MX.again1 <| MX.sr <| RG.vv (FV.lssN (i := 1) (j := 4) rfl rfl) rfl <| RG.nil <| MX.seq <| MX.cond_t rfl ?_
  refine MX.skip <| MX.seq <| MX.block <| MX.sr <| RG.mv rfl rfl <| RG.vv (FV.idx1 (cs := [.string ⟨#[97]⟩, .string ⟨#[98]⟩, .string ⟨#[99]⟩, .string ⟨#[100]⟩]) (k := 1) (m := 1) (len := 4) (by kernel_rfl) (by kernel_rfl) rfl rfl rfl (by omega) rfl) rfl ?_
  refine RG.sg rfl rfl <| RG.sg rfl rfl <| RG.nil <| MX.region <| RG.vv (FV.fieldAddr (off := 3) (by kernel_rfl) rfl) rfl <| RG.vv (FV.load1 (by kernel_rfl) rfl ((hS5.memA (.tl (.tl .hd))) 3 _ rfl)) rfl ?_
  refine RG.mv rfl rfl <| RG.mv rfl rfl <| RG.vv (FV.add (i := 1) (j := 1) (r := 2) rfl rfl (by decide)) rfl <| RG.vv (FV.mul (i := 10) (j := 2) (r := 20) rfl rfl (by decide)) rfl <| RG.vv (FV.buildV (vs := [.string ⟨#[98]⟩, .int .i64 20]) (u := .agg #[.string ⟨#[98]⟩, .int .i64 20, .slice none 0 0, .slice none 0 0, .slice none 0 0, .bool false]) (evs_cons rfl (evs_cons rfl evs_nil)) (fun w9 => by kernel_rfl)) rfl ?_
  have hr49 := Rep.nilAt (α := Int) hS5 L
  have hr50 := Rep.nilAt (α := Int) hS5 L
  have hr51 := Rep.nilAt (α := Int) hS5 L
  have hr52 := Rep.nilAt (α := Int) hS5 L
  have hr53 := Rep.nilAt (α := Int) hS5 L
  have hr54 := Rep.nilAt (α := Int) hS5 L
  have hr55 := Rep.nilAt (α := Int) hS5 L
  have hr56 := Rep.nilAt (α := Int) hS5 L
  have hr57 := Rep.nilAt (α := Int) hS5 L
  refine RG.new .plain rfl (Does.build (α := TUnit) (xs := ([(⟨⟨#[98]⟩, (20 : Int), ([] : List Int), ([] : List Int), ([] : List Int), false⟩ : TUnit)] : List TUnit)) (vs := [.agg #[.string ⟨#[98]⟩, .int .i64 20, .slice none 0 0, .slice none 0 0, .slice none 0 0, .bool false]]) (ds' := [.string ⟨#[98]⟩, .int .i64 20, .slice none 0 0, .slice none 0 0, .slice none 0 0, .bool false]) rfl hS5 el42 rfl (evs_cons rfl evs_nil) (by kernel_rfl) rfl) (fun w4 b2 hS6 hT5 => ?_)
  have hr63 := Rep.nilAt (α := Int) hS6 L
  have hr64 := Rep.nilAt (α := Int) hS6 L
  have hr65 := Rep.nilAt (α := Int) hS6 L
  have hr66 := Rep.nilAt (α := Int) hS6 L
  have hr67 := Rep.nilAt (α := Int) hS6 L
  have hr68 := Rep.nilAt (α := Int) hS6 L
  have hc3 := Cells.at_ (cs := [.string ⟨#[98]⟩, .int .i64 20, .slice none 0 0, .slice none 0 0, .slice none 0 0, .bool false]) (xs := (([(⟨⟨#[98]⟩, (20 : Int), ([] : List Int), ([] : List Int), ([] : List Int), false⟩ : TUnit)] : List TUnit) : List TUnit)) hS6 L (Cells.cons (cs := [.string ⟨#[98]⟩, .int .i64 20, .slice none 0 0, .slice none 0 0, .slice none 0 0, .bool false]) (ds := []) (mk_TUnit ⟨#[98]⟩ (20 : Int) ([] : List Int) hr64 ([] : List Int) hr66 ([] : List Int) hr68 false) (Cells.nil _ _))
  obtain ⟨xs1, hxs69, h⟩ := bind_in h
  have hm1 := Cells.mv hc2 (Tr.trans hT3 hT5)
  refine RG.doesL .plain rfl (DoesL.app (α := TUnit) (ys := ([(⟨⟨#[98]⟩, (20 : Int), ([] : List Int), ([] : List Int), ([] : List Int), false⟩ : TUnit)] : List TUnit)) (F := fun v' cs' => [.row w.heap.size 65 (Rep.size TUnit) (.slice (some ⟨b2, 0, none⟩) 1 1) (([(⟨⟨#[98]⟩, (20 : Int), ([] : List Int), ([] : List Int), ([] : List Int), false⟩ : TUnit)] : List TUnit).length) [.string ⟨#[98]⟩, .int .i64 20, .slice none 0 0, .slice none 0 0, .slice none 0 0, .bool false], .row w.heap.size 65 (Rep.size TUnit) v' xs1.length cs', .row w.heap.size 65 (Rep.size TUnit) (.slice (some ⟨b1, 0, none⟩) 1 1) (([(⟨⟨#[97]⟩, (10 : Int), ([] : List Int), ([] : List Int), ([] : List Int), false⟩ : TUnit)] : List TUnit).length) [.string ⟨#[97]⟩, .int .i64 10, .slice none 0 0, .slice none 0 0, .slice none 0 0, .bool false], .cells b0 [.int .i64 0, .int .i64 0, .int .i64 0, v0] 44, .cells b5 [.int .i64 0, .int .i64 0, .int .i64 0, .slice none 0 0] 44]) hxs69 hS6 (fun _ _ => (.tl .hd)) el42 rfl rfl hm1 (Src.row (α := TUnit) hS6 .hd hc3)) (fun v1 w5 ⟨cs2, hS7, hT6, hc4⟩ => ?_)
  refine RG.vv (FV.fieldAddr (off := 3) (by kernel_rfl) rfl) rfl <| RG.now .plain (Acts.store (j := 3) (old := [.int .i64 0, .int .i64 0, .int .i64 0, v0]) (news := [v1]) (new' := [.int .i64 0, .int .i64 0, .int .i64 0, v1]) hS7 (.tl (.tl (.tl .hd))) rfl rfl rfl (St.c1 (α := TUnit) hS7 (.tl .hd)) rfl rfl (ones_cons (St.o1 (α := TUnit) hS7 (.tl .hd)) ones_nil) rfl) (fun w6 hS9 hT7 => ?_)
  refine RG.nil <| MX.inBlock <| MX.region <| RG.vv (FV.add (i := 1) (j := 1) (r := 2) rfl rfl (by decide)) rfl <| RG.mv rfl rfl <| RG.nil ?_
  refine MX.again1 <| MX.sr <| RG.vv (FV.lssN (i := 2) (j := 4) rfl rfl) rfl <| RG.nil <| MX.seq <| MX.cond_t rfl ?_
  refine MX.skip <| MX.seq <| MX.block <| MX.sr <| RG.mv rfl rfl <| RG.vv (FV.idx1 (cs := [.string ⟨#[97]⟩, .string ⟨#[98]⟩, .string ⟨#[99]⟩, .string ⟨#[100]⟩]) (k := 2) (m := 1) (len := 4) (by kernel_rfl) (by kernel_rfl) rfl rfl rfl (by omega) rfl) rfl ?_
  refine RG.sg rfl rfl <| RG.sg rfl rfl <| RG.nil <| MX.region <| RG.vv (FV.fieldAddr (off := 3) (by kernel_rfl) rfl) rfl <| RG.vv (FV.load1 (by kernel_rfl) rfl ((hS9.memA (.tl (.tl (.tl .hd)))) 3 _ rfl)) rfl ?_
  refine RG.mv rfl rfl <| RG.mv rfl rfl <| RG.vv (FV.add (i := 2) (j := 1) (r := 3) rfl rfl (by decide)) rfl <| RG.vv (FV.mul (i := 10) (j := 3) (r := 30) rfl rfl (by decide)) rfl <| RG.vv (FV.buildV (vs := [.string ⟨#[99]⟩, .int .i64 30]) (u := .agg #[.string ⟨#[99]⟩, .int .i64 30, .slice none 0 0, .slice none 0 0, .slice none 0 0, .bool false]) (evs_cons rfl (evs_cons rfl evs_nil)) (fun w9 => by kernel_rfl)) rfl ?_
  have hr82 := Rep.nilAt (α := Int) hS9 L
  have hr83 := Rep.nilAt (α := Int) hS9 L
  have hr84 := Rep.nilAt (α := Int) hS9 L
  have hr85 := Rep.nilAt (α := Int) hS9 L
  have hr86 := Rep.nilAt (α := Int) hS9 L
  have hr87 := Rep.nilAt (α := Int) hS9 L
  have hr88 := Rep.nilAt (α := Int) hS9 L
  have hr89 := Rep.nilAt (α := Int) hS9 L
  have hr90 := Rep.nilAt (α := Int) hS9 L
  refine RG.new .plain rfl (Does.build (α := TUnit) (xs := ([(⟨⟨#[99]⟩, (30 : Int), ([] : List Int), ([] : List Int), ([] : List Int), false⟩ : TUnit)] : List TUnit)) (vs := [.agg #[.string ⟨#[99]⟩, .int .i64 30, .slice none 0 0, .slice none 0 0, .slice none 0 0, .bool false]]) (ds' := [.string ⟨#[99]⟩, .int .i64 30, .slice none 0 0, .slice none 0 0, .slice none 0 0, .bool false]) rfl hS9 el42 rfl (evs_cons rfl evs_nil) (by kernel_rfl) rfl) (fun w8 b3 hS92 hT8 => ?_)
  have hr96 := Rep.nilAt (α := Int) hS92 L
  have hr97 := Rep.nilAt (α := Int) hS92 L
  have hr98 := Rep.nilAt (α := Int) hS92 L
  have hr99 := Rep.nilAt (α := Int) hS92 L
  have hr10 := Rep.nilAt (α := Int) hS92 L
  have hr11 := Rep.nilAt (α := Int) hS92 L
  have hc5 := Cells.at_ (cs := [.string ⟨#[99]⟩, .int .i64 30, .slice none 0 0, .slice none 0 0, .slice none 0 0, .bool false]) (xs := (([(⟨⟨#[99]⟩, (30 : Int), ([] : List Int), ([] : List Int), ([] : List Int), false⟩ : TUnit)] : List TUnit) : List TUnit)) hS92 L (Cells.cons (cs := [.string ⟨#[99]⟩, .int .i64 30, .slice none 0 0, .slice none 0 0, .slice none 0 0, .bool false]) (ds := []) (mk_TUnit ⟨#[99]⟩ (30 : Int) ([] : List Int) hr97 ([] : List Int) hr99 ([] : List Int) hr11 false) (Cells.nil _ _))
  obtain ⟨xs2, hxs102, h⟩ := bind_in h
  have hm2 := Cells.mv hc4 (Tr.trans hT7 hT8)
  refine RG.doesL .plain rfl (DoesL.app (α := TUnit) (ys := ([(⟨⟨#[99]⟩, (30 : Int), ([] : List Int), ([] : List Int), ([] : List Int), false⟩ : TUnit)] : List TUnit)) (F := fun v' cs' => [.row w.heap.size 65 (Rep.size TUnit) (.slice (some ⟨b3, 0, none⟩) 1 1) (([(⟨⟨#[99]⟩, (30 : Int), ([] : List Int), ([] : List Int), ([] : List Int), false⟩ : TUnit)] : List TUnit).length) [.string ⟨#[99]⟩, .int .i64 30, .slice none 0 0, .slice none 0 0, .slice none 0 0, .bool false], .row w.heap.size 65 (Rep.size TUnit) (.slice (some ⟨b2, 0, none⟩) 1 1) (([(⟨⟨#[98]⟩, (20 : Int), ([] : List Int), ([] : List Int), ([] : List Int), false⟩ : TUnit)] : List TUnit).length) [.string ⟨#[98]⟩, .int .i64 20, .slice none 0 0, .slice none 0 0, .slice none 0 0, .bool false], .row w.heap.size 65 (Rep.size TUnit) v' xs2.length cs', .row w.heap.size 65 (Rep.size TUnit) (.slice (some ⟨b1, 0, none⟩) 1 1) (([(⟨⟨#[97]⟩, (10 : Int), ([] : List Int), ([] : List Int), ([] : List Int), false⟩ : TUnit)] : List TUnit).length) [.string ⟨#[97]⟩, .int .i64 10, .slice none 0 0, .slice none 0 0, .slice none 0 0, .bool false], .cells b0 [.int .i64 0, .int .i64 0, .int .i64 0, v1] 44, .cells b5 [.int .i64 0, .int .i64 0, .int .i64 0, .slice none 0 0] 44]) hxs102 hS92 (fun _ _ => (.tl (.tl .hd))) el42 rfl rfl hm2 (Src.row (α := TUnit) hS92 .hd hc5)) (fun v2 w10 ⟨cs3, hS10, hT10, hc6⟩ => ?_)
  refine RG.vv (FV.fieldAddr (off := 3) (by kernel_rfl) rfl) rfl <| RG.now .plain (Acts.store (j := 3) (old := [.int .i64 0, .int .i64 0, .int .i64 0, v1]) (news := [v2]) (new' := [.int .i64 0, .int .i64 0, .int .i64 0, v2]) hS10 (.tl (.tl (.tl (.tl .hd)))) rfl rfl rfl (St.c1 (α := TUnit) hS10 (.tl (.tl .hd))) rfl rfl (ones_cons (St.o1 (α := TUnit) hS10 (.tl (.tl .hd))) ones_nil) rfl) (fun w11 hS11 hT11 => ?_)
  refine RG.nil <| MX.inBlock <| MX.region <| RG.vv (FV.add (i := 2) (j := 1) (r := 3) rfl rfl (by decide)) rfl <| RG.mv rfl rfl <| RG.nil ?_
  refine MX.again1 <| MX.sr <| RG.vv (FV.lssN (i := 3) (j := 4) rfl rfl) rfl <| RG.nil <| MX.seq <| MX.cond_t rfl ?_
  refine MX.skip <| MX.seq <| MX.block <| MX.sr <| RG.mv rfl rfl <| RG.vv (FV.idx1 (cs := [.string ⟨#[97]⟩, .string ⟨#[98]⟩, .string ⟨#[99]⟩, .string ⟨#[100]⟩]) (k := 3) (m := 1) (len := 4) (by kernel_rfl) (by kernel_rfl) rfl rfl rfl (by omega) rfl) rfl ?_
  refine RG.sg rfl rfl <| RG.sg rfl rfl <| RG.nil <| MX.region <| RG.vv (FV.fieldAddr (off := 3) (by kernel_rfl) rfl) rfl <| RG.vv (FV.load1 (by kernel_rfl) rfl ((hS11.memA (.tl (.tl (.tl (.tl .hd))))) 3 _ rfl)) rfl ?_
  refine RG.mv rfl rfl <| RG.mv rfl rfl <| RG.vv (FV.add (i := 3) (j := 1) (r := 4) rfl rfl (by decide)) rfl <| RG.vv (FV.mul (i := 10) (j := 4) (r := 40) rfl rfl (by decide)) rfl <| RG.vv (FV.buildV (vs := [.string ⟨#[100]⟩, .int .i64 40]) (u := .agg #[.string ⟨#[100]⟩, .int .i64 40, .slice none 0 0, .slice none 0 0, .slice none 0 0, .bool false]) (evs_cons rfl (evs_cons rfl evs_nil)) (fun w9 => by kernel_rfl)) rfl ?_
  have hr21 := Rep.nilAt (α := Int) hS11 L
  have hr22 := Rep.nilAt (α := Int) hS11 L
  have hr23 := Rep.nilAt (α := Int) hS11 L
  have hr24 := Rep.nilAt (α := Int) hS11 L
  have hr25 := Rep.nilAt (α := Int) hS11 L
  have hr32 := Rep.nilAt (α := Int) hS11 L
  have hr33 := Rep.nilAt (α := Int) hS11 L
  have hr34 := Rep.nilAt (α := Int) hS11 L
  have hr35 := Rep.nilAt (α := Int) hS11 L
  refine RG.new .plain rfl (Does.build (α := TUnit) (xs := ([(⟨⟨#[100]⟩, (40 : Int), ([] : List Int), ([] : List Int), ([] : List Int), false⟩ : TUnit)] : List TUnit)) (vs := [.agg #[.string ⟨#[100]⟩, .int .i64 40, .slice none 0 0, .slice none 0 0, .slice none 0 0, .bool false]]) (ds' := [.string ⟨#[100]⟩, .int .i64 40, .slice none 0 0, .slice none 0 0, .slice none 0 0, .bool false]) rfl hS11 el42 rfl (evs_cons rfl evs_nil) (by kernel_rfl) rfl) (fun w12 b4 hS12 hT12 => ?_)
  have hr36 := Rep.nilAt (α := Int) hS12 L
  have hr37 := Rep.nilAt (α := Int) hS12 L
  have hr38 := Rep.nilAt (α := Int) hS12 L
  have hr39 := Rep.nilAt (α := Int) hS12 L
  have hr40 := Rep.nilAt (α := Int) hS12 L
  have hr41 := Rep.nilAt (α := Int) hS12 L
  have hc7 := Cells.at_ (cs := [.string ⟨#[100]⟩, .int .i64 40, .slice none 0 0, .slice none 0 0, .slice none 0 0, .bool false]) (xs := (([(⟨⟨#[100]⟩, (40 : Int), ([] : List Int), ([] : List Int), ([] : List Int), false⟩ : TUnit)] : List TUnit) : List TUnit)) hS12 L (Cells.cons (cs := [.string ⟨#[100]⟩, .int .i64 40, .slice none 0 0, .slice none 0 0, .slice none 0 0, .bool false]) (ds := []) (mk_TUnit ⟨#[100]⟩ (40 : Int) ([] : List Int) hr37 ([] : List Int) hr39 ([] : List Int) hr41 false) (Cells.nil _ _))
  obtain ⟨xs3, hxs135, h⟩ := bind_in h
  have hm3 := Cells.mv hc6 (Tr.trans hT11 hT12)
  refine RG.doesL .plain rfl (DoesL.app (α := TUnit) (ys := ([(⟨⟨#[100]⟩, (40 : Int), ([] : List Int), ([] : List Int), ([] : List Int), false⟩ : TUnit)] : List TUnit)) (F := fun v' cs' => [.row w.heap.size 65 (Rep.size TUnit) (.slice (some ⟨b4, 0, none⟩) 1 1) (([(⟨⟨#[100]⟩, (40 : Int), ([] : List Int), ([] : List Int), ([] : List Int), false⟩ : TUnit)] : List TUnit).length) [.string ⟨#[100]⟩, .int .i64 40, .slice none 0 0, .slice none 0 0, .slice none 0 0, .bool false], .row w.heap.size 65 (Rep.size TUnit) (.slice (some ⟨b3, 0, none⟩) 1 1) (([(⟨⟨#[99]⟩, (30 : Int), ([] : List Int), ([] : List Int), ([] : List Int), false⟩ : TUnit)] : List TUnit).length) [.string ⟨#[99]⟩, .int .i64 30, .slice none 0 0, .slice none 0 0, .slice none 0 0, .bool false], .row w.heap.size 65 (Rep.size TUnit) (.slice (some ⟨b2, 0, none⟩) 1 1) (([(⟨⟨#[98]⟩, (20 : Int), ([] : List Int), ([] : List Int), ([] : List Int), false⟩ : TUnit)] : List TUnit).length) [.string ⟨#[98]⟩, .int .i64 20, .slice none 0 0, .slice none 0 0, .slice none 0 0, .bool false], .row w.heap.size 65 (Rep.size TUnit) v' xs3.length cs', .row w.heap.size 65 (Rep.size TUnit) (.slice (some ⟨b1, 0, none⟩) 1 1) (([(⟨⟨#[97]⟩, (10 : Int), ([] : List Int), ([] : List Int), ([] : List Int), false⟩ : TUnit)] : List TUnit).length) [.string ⟨#[97]⟩, .int .i64 10, .slice none 0 0, .slice none 0 0, .slice none 0 0, .bool false], .cells b0 [.int .i64 0, .int .i64 0, .int .i64 0, v2] 44, .cells b5 [.int .i64 0, .int .i64 0, .int .i64 0, .slice none 0 0] 44]) hxs135 hS12 (fun _ _ => (.tl (.tl (.tl .hd)))) el42 rfl rfl hm3 (Src.row (α := TUnit) hS12 .hd hc7)) (fun v3 w13 ⟨cs4, hS13, hT13, hc8⟩ => ?_)
  refine RG.vv (FV.fieldAddr (off := 3) (by kernel_rfl) rfl) rfl <| RG.now .plain (Acts.store (j := 3) (old := [.int .i64 0, .int .i64 0, .int .i64 0, v2]) (news := [v3]) (new' := [.int .i64 0, .int .i64 0, .int .i64 0, v3]) hS13 (.tl (.tl (.tl (.tl (.tl .hd))))) rfl rfl rfl (St.c1 (α := TUnit) hS13 (.tl (.tl (.tl .hd)))) rfl rfl (ones_cons (St.o1 (α := TUnit) hS13 (.tl (.tl (.tl .hd)))) ones_nil) rfl) (fun w14 hS14 hT14 => ?_)
  refine RG.nil <| MX.inBlock <| MX.region <| RG.vv (FV.add (i := 3) (j := 1) (r := 4) rfl rfl (by decide)) rfl <| RG.mv rfl rfl <| RG.nil ?_
  refine MX.again1 <| MX.sr <| RG.vv (FV.lssN (i := 4) (j := 4) rfl rfl) rfl <| RG.nil <| MX.seq <| MX.cond_f rfl ?_
  refine MX.exit rfl <| MX.sr <| RG.vv (FV.loadN (by kernel_rfl) rfl (hS14.memA (.tl (.tl (.tl (.tl (.tl .hd))))))) rfl <| RG.now .plain (Acts.storeAll (news := [.int .i64 0, .int .i64 0, .int .i64 0, v3]) hS14 (.tl (.tl (.tl (.tl (.tl (.tl .hd)))))) rfl rfl rfl rfl rfl rfl (ones_cons rfl (ones_cons rfl (ones_cons rfl (ones_cons (St.o1 (α := TUnit) hS14 (.tl (.tl (.tl .hd)))) ones_nil))))) (fun w15 hS15 hT15 => ?_)
  refine RG.nil <| MX.ret rfl <| RT.leave (u := .agg #[.int .i64 0, .int .i64 0, .int .i64 0, v3]) hb0 Tryz.func36 rfl (.cons (.many (cs := [.int .i64 0, .int .i64 0, .int .i64 0, v3]) (by kernel_rfl) rfl (hS15.memA (.tl (.tl (.tl (.tl (.tl (.tl .hd)))))))) .nil) rfl ?_
  obtain ⟨hS16, hT16⟩ := St.arrB hS15 (.one (.tl (.tl (.tl .hd))) .done)
  obtain rfl := Option.some.inj h
  have hm4 := Cells.mv hc8 (Tr.trans hT14 (Tr.trans hT15 hT16))
  exact ⟨hS16.ag, fun w9 hw9 => ⟨v3, cs4, rfl, hS16.agree hw9, Cells.keep0 hm4 hw9⟩⟩
def tb31_6 : List (Nat × Nat × Nat) := [(0, 65536, 1), (0, 131072, 32), (3, 262144, 196608), (4, 524288, 262144), (0, 1048576, 2), (0, 2097152, 32), (48, 4194304, 3145728), (64, 8388608, 4194304), (136, 16777216, 8912896)]
def slices_Equal_int_int_l1 (_n : Nat) (a0 : List Int) (a1 : List Int) (J0 : Nat → Option (Bool ⊕ Unit)) : Nat → Option (Bool ⊕ Unit)
  | i32 => (if i32 < a0.length then (a0[i32]?).bind fun x0 => (a1[i32]?).bind fun x1 => (if x0 = x1 then J0 (i32 + 1) else some (.inl false)) else some (.inr ()))
def slices_Equal_int_int_p (n : Nat) (a0 : List Int) (a1 : List Int) : Option Bool :=
  (if a0.length = a1.length then thn (loopF (slices_Equal_int_int_l1 n a0 a1) n 0) (fun _ => some true) else some false)
theorem slices_Equal_int_int_c (n : Nat) (L : List Nat) (w : World) (_hL : ∀ b ∈ L, b < w.heap.size) (a0 : List Int) {v0_0 : Value} (h0_0 : Rep.R w L [v0_0] a0) (a1 : List Int) {v1_0 : Value} (h1_0 : Rep.R w L [v1_0] a1)  {r : Bool} (h : slices_Equal_int_int_p n a0 a1 = some r) :
    Calls Tryz.prog 31 #[v0_0, v1_0] w (Gives w fun _ u => u = .bool r) := by
  unfold slices_Equal_int_int_p at h
  have hS0 := St.start w
  refine MX.start Tryz.func31 rfl rfl rfl (fun _ cs0 hb0 => ?_)
  refine MX.sr <| RG.sg rfl rfl <| RG.nil <| MX.seq <| MX.sr <| RG.mv rfl rfl ?_
  have hl1 : a0.length ≤ 281474976710656 := Rep.lenle h0_0
  refine RG.vv (FV.len (xs := a0) Tryz.underlying45 rfl h0_0) rfl <| RG.mv rfl rfl ?_
  have hl2 : a1.length ≤ 281474976710656 := Rep.lenle h1_0
  refine RG.vv (FV.len (xs := a1) Tryz.underlying45 rfl h1_0) rfl <| RG.vv (FV.neqN (i := a0.length) (j := a1.length) rfl rfl) rfl <| RG.nil <| MX.ifn rfl h (fun c3 h => ?_) (fun c3 h => ?_)
  ·skip
   refine MX.skip <| MX.seq <| MX.sr <| RG.mv rfl rfl <| RG.vv (FV.len (xs := a0) Tryz.underlying45 rfl h0_0) rfl <| RG.mv rfl rfl ?_
   refine RG.nil <| MX.block ?_
   obtain ⟨o0, ho37, hh39⟩ := thn_in h
   refine MX.loop (α := Nat) (fun i32 => [(0, v0_0), (1, v1_0), (12, .int .i64 ((a0.length : Nat) : Int)), (13, .int .i64 ((i32 : Nat) : Int))]) (fun i32 wx0 => St w wx0 [] ∧ Tr w [] wx0 []) (fun i32 => i32) 0 ho37 ⟨rfl, rfl, rfl, rfl, trivial⟩ ⟨hS0, Tr.refl _ _⟩ ?_
   rintro J0 i32 wx0 hJ41 ⟨hS1, hT0⟩ h
   unfold slices_Equal_int_int_l1 at h
   try dsimp only at h
   refine MX.sr <| RG.vv (FV.lssN (i := i32) (j := a0.length) rfl rfl) rfl <| RG.nil <| MX.seq <| MX.ifd rfl h (fun c0 h => ?_) (fun c0 h => ?_)
   ·skip
    refine MX.skip <| MX.seq <| MX.block <| MX.sr <| RG.mv rfl rfl <| RG.sg rfl rfl ?_
    refine RG.nil <| MX.seq <| MX.drawT 9 tb31_6 (by kernel_rfl) (by kernel_rfl) (by kernel_rfl) (fun kt0 kp0 => ?_)
    refine RD.vw 0 1 kt0 rfl kp0 (fun _ => FV.move rfl) rfl <| RD.vw 1 3 kt0 rfl kp0 (fun _ => FV.move rfl) rfl ?_
    obtain ⟨x0, hx0, h⟩ := bind_in h
    have hm0 := Rep.mv h0_0 hT0
    obtain ⟨A46, c1, he0, hk0, cs1, hr0, hm1⟩ := Rep.nth hm0 hx0
    have he1 : cs1 = [.int .i64 x0] := hr0; subst he1
    refine RD.vw 2 7 kt0 rfl kp0 (fun _ => FV.idxAddr (m := 1) (i := i32) (by kernel_rfl) rfl he0 rfl rfl hk0) rfl <| RD.vx 3 15 256 kt0 rfl kp0 (FV.load1 (by kernel_rfl) rfl (hm1 0 _ rfl)) rfl <| RD.vw 4 31 kt0 rfl kp0 (fun _ => FV.move rfl) rfl <| RD.vw 5 63 kt0 rfl kp0 (fun _ => FV.move rfl) rfl ?_
    obtain ⟨x1, hx1, h⟩ := bind_in h
    have hm2 := Rep.mv h1_0 hT0
    obtain ⟨A56, c2, he2, hk1, cs2, hr1, hm3⟩ := Rep.nth hm2 hx1
    have he3 : cs2 = [.int .i64 x1] := hr1; subst he3
    refine RD.vw 6 127 kt0 rfl kp0 (fun _ => FV.idxAddr (m := 1) (i := i32) (by kernel_rfl) rfl he2 rfl rfl hk1) rfl <| RD.vx 7 255 256 kt0 rfl kp0 (FV.load1 (by kernel_rfl) rfl (hm3 0 _ rfl)) rfl <| RD.vw 8 511 kt0 rfl kp0 (fun _ => FV.neq (i := x0) (j := x1) rfl rfl) rfl <| RD.done (doneD_ok kt0 (by kernel_rfl)) <| MX.ifn rfl h (fun c4 h => ?_) (fun c4 h => ?_)
    ·skip
     refine MX.skip <| MX.inBlock <| MX.region <| RG.vv (FV.addN (i := i32) (j := 1) rfl rfl (by omega)) rfl <| RG.mv rfl rfl <| RG.nil ?_
     exact hJ41 (i32 + 1) _ _ ⟨rfl, rfl, rfl, rfl, trivial⟩ ⟨hS1, hT0⟩ h
    refine MX.sr <| RG.sg rfl rfl <| RG.nil ?_
    have h := thn_inl h hh39
    refine MX.ret rfl <| RT.leave hb0 Tryz.func31 rfl (.cons (.tmp rfl) .nil) rfl ?_
    obtain rfl := Option.some.inj h
    exact ⟨hS1.ag, fun w9 hw9 => rfl⟩
   refine MX.exit rfl ?_
   have h := thn_inr h hh39
   try dsimp only at h
   refine MX.sr <| RG.sg rfl rfl <| RG.nil <| MX.ret rfl <| RT.leave hb0 Tryz.func31 rfl (.cons (.tmp rfl) .nil) rfl ?_
   obtain rfl := Option.some.inj h
   exact ⟨hS1.ag, fun w9 hw9 => rfl⟩
  refine MX.sr <| RG.sg rfl rfl <| RG.nil <| MX.ret rfl <| RT.leave hb0 Tryz.func31 rfl (.cons (.tmp rfl) .nil) rfl ?_
  obtain rfl := Option.some.inj h
  exact ⟨hS0.ag, fun w9 hw9 => rfl⟩
theorem body31 : bodyB Tryz.prog 31 = true := by kernel_rfl
def wardmotelaw22_is_1_p (n : Nat) (a0 : List Int) (a1 : Int) (a2 : List Int) : Option Bool :=
  (slices_Equal_int_int_p n a0 a2).bind fun y1 => (if y1 = true then some (decide (a1 = 0)) else some false)
theorem wardmotelaw22_is_1_c (n : Nat) (L : List Nat) (w : World) (hL : ∀ b ∈ L, b < w.heap.size) (a0 : List Int) {v0_0 : Value} (h0_0 : Rep.R w L [v0_0] a0) (a1 : Int) (a2 : List Int) {v2_0 : Value} (h2_0 : Rep.R w L [v2_0] a2) {p2 : Nat} (m2 : ∀ j9 v9, ([v2_0] : List Value)[j9]? = some v9 → w.cell? ((⟨p2, 0, none⟩ : Addr).add j9) = some v9)  {r : Bool} (h : wardmotelaw22_is_1_p n a0 a1 a2 = some r) :
    Calls Tryz.prog 91 #[v0_0, .int .i64 a1, .pointer (some ⟨p2, 0, none⟩)] w (Gives w fun _ u => u = .bool r) := by
  unfold wardmotelaw22_is_1_p at h
  have hS0 := St.start w
  refine MX.start Tryz.func91 rfl rfl rfl (fun _ cs0 hb0 => ?_)
  refine MX.sr <| RG.sg rfl rfl <| RG.nil <| MX.sr <| RG.mv rfl rfl <| RG.vv (FV.load1 (by kernel_rfl) rfl ((fun j9 v9 h9 => hS0.ag.cell0 (m2 j9 v9 h9)) 0 _ rfl)) rfl ?_
  obtain ⟨y1, hy1, h⟩ := bind_in h
  refine RG.cq (.bool y1) body31 rfl (evs_cons rfl (evs_cons rfl evs_nil)) (fun w9 hw9 => slices_Equal_int_int_c n _ w9 (hS0.hL0 hL hw9) a0 (Rep.keep0 (Rep.dropS hS0 h0_0) hw9) a2 (Rep.keep0 (Rep.dropS hS0 h2_0) hw9) hy1) rfl <| RG.mv rfl rfl <| RG.ifb (s := 9) rfl h (fun c2 h => ?_) (fun c2 h => ?_)
  ·skip
   refine RG.val' (.yes rfl rfl) (FV.move rfl) rfl <| RG.val' (.yes rfl rfl) (FV.eql (i := a1) (j := 0) rfl rfl) rfl <| RG.vv (FV.pick_t rfl rfl) rfl <| RG.sg rfl rfl <| RG.nil <| MX.ret rfl ?_
   refine RT.leave hb0 Tryz.func91 rfl (.cons (.tmp rfl) .nil) rfl ?_
   obtain rfl := Option.some.inj h
   exact ⟨hS0.ag, fun w9 hw9 => rfl⟩
  refine RG.off (.no rfl rfl) rfl <| RG.off (.no rfl rfl) rfl <| RG.vv (FV.pick_f rfl rfl) rfl <| RG.sg rfl rfl <| RG.nil <| MX.ret rfl ?_
  refine RT.leave hb0 Tryz.func91 rfl (.cons (.tmp rfl) .nil) rfl ?_
  obtain rfl := Option.some.inj h
  exact ⟨hS0.ag, fun w9 hw9 => rfl⟩
theorem wardmotelaw22_is_c (n : Nat) (L : List Nat) (w : World) (_hL : ∀ b ∈ L, b < w.heap.size) (a0 : List Int) {v0_0 : Value} (h0_0 : Rep.R w L [v0_0] a0)  :
    Calls Tryz.prog 37 #[v0_0] w (Gives w fun w' u => ∃ b5 : Nat, u = .func (.func 91) #[] #[.pointer (some ⟨b5, 0, none⟩)] ∧ St w w' [.cells b5 [v0_0] 45]) := by
  have hS0 := St.start w
  refine MX.start Tryz.func37 rfl rfl rfl (fun _ cs0 hb0 => ?_)
  refine MX.sr <| RG.new .plain rfl (Does.box (vs := [v0_0]) hS0 rfl (Rep.c1 h0_0)) (fun w2 b5 hS3 hT4 => ?_)
  refine RG.sg rfl rfl <| RG.nil <| MX.sr <| RG.vv (FV.makeFunc (vs := []) (us := [.pointer (some ⟨b5, 0, none⟩)]) evs_nil (evs_cons rfl evs_nil)) rfl <| RG.sg rfl rfl <| RG.nil ?_
  refine MX.ret rfl <| RT.leave (u := .func (.func 91) #[] #[.pointer (some ⟨b5, 0, none⟩)]) hb0 Tryz.func37 rfl (.cons (.tmp rfl) .nil) rfl ?_
  exact ⟨hS3.ag, fun w9 hw9 => ⟨b5, rfl, hS3.agree hw9⟩⟩
def wardmotelaw22_truth_1_p (_n : Nat) (a0 : Bool) (a1 : Int) (a2 : Bool) : Option Bool :=
  (if (a0 == a2) = true then some (decide (a1 = 0)) else some false)
theorem wardmotelaw22_truth_1_c (n : Nat) (L : List Nat) (w : World) (_hL : ∀ b ∈ L, b < w.heap.size) (a0 : Bool) (a1 : Int) (a2 : Bool) {p2 : Nat} (m2 : ∀ j9 v9, ([.bool a2] : List Value)[j9]? = some v9 → w.cell? ((⟨p2, 0, none⟩ : Addr).add j9) = some v9)  {r : Bool} (h : wardmotelaw22_truth_1_p n a0 a1 a2 = some r) :
    Calls Tryz.prog 92 #[.bool a0, .int .i64 a1, .pointer (some ⟨p2, 0, none⟩)] w (Gives w fun _ u => u = .bool r) := by
  unfold wardmotelaw22_truth_1_p at h
  have hS0 := St.start w
  refine MX.start Tryz.func92 rfl rfl rfl (fun _ cs0 hb0 => ?_)
  refine MX.sr <| RG.sg rfl rfl <| RG.nil <| MX.sr <| RG.mv rfl rfl <| RG.vv (FV.load1 (by kernel_rfl) rfl ((fun j9 v9 h9 => hS0.ag.cell0 (m2 j9 v9 h9)) 0 _ rfl)) rfl ?_
  refine RG.vv (FV.eqlB (a := a0) (b := a2) Tryz.underlying4 rfl rfl) rfl <| RG.mv rfl rfl <| RG.ifb (s := 9) rfl h (fun c1 h => ?_) (fun c1 h => ?_)
  ·skip
   refine RG.val' (.yes rfl rfl) (FV.move rfl) rfl <| RG.val' (.yes rfl rfl) (FV.eql (i := a1) (j := 0) rfl rfl) rfl <| RG.vv (FV.pick_t rfl rfl) rfl <| RG.sg rfl rfl <| RG.nil <| MX.ret rfl ?_
   refine RT.leave hb0 Tryz.func92 rfl (.cons (.tmp rfl) .nil) rfl ?_
   obtain rfl := Option.some.inj h
   exact ⟨hS0.ag, fun w9 hw9 => rfl⟩
  refine RG.off (.no rfl rfl) rfl <| RG.off (.no rfl rfl) rfl <| RG.vv (FV.pick_f rfl rfl) rfl <| RG.sg rfl rfl <| RG.nil <| MX.ret rfl ?_
  refine RT.leave hb0 Tryz.func92 rfl (.cons (.tmp rfl) .nil) rfl ?_
  obtain rfl := Option.some.inj h
  exact ⟨hS0.ag, fun w9 hw9 => rfl⟩
theorem wardmotelaw22_truth_c (n : Nat) (L : List Nat) (w : World) (_hL : ∀ b ∈ L, b < w.heap.size) (a0 : Bool)  :
    Calls Tryz.prog 38 #[.bool a0] w (Gives w fun w' u => ∃ b5 : Nat, u = .func (.func 92) #[] #[.pointer (some ⟨b5, 0, none⟩)] ∧ St w w' [.cells b5 [.bool a0] 4]) := by
  have hS0 := St.start w
  refine MX.start Tryz.func38 rfl rfl rfl (fun _ cs0 hb0 => ?_)
  refine MX.sr <| RG.new .plain rfl (Does.box (vs := [.bool a0]) hS0 rfl rfl) (fun w2 b5 hS3 hT4 => ?_)
  refine RG.sg rfl rfl <| RG.nil <| MX.sr <| RG.vv (FV.makeFunc (vs := []) (us := [.pointer (some ⟨b5, 0, none⟩)]) evs_nil (evs_cons rfl evs_nil)) rfl <| RG.sg rfl rfl <| RG.nil ?_
  refine MX.ret rfl <| RT.leave (u := .func (.func 92) #[] #[.pointer (some ⟨b5, 0, none⟩)]) hb0 Tryz.func38 rfl (.cons (.tmp rfl) .nil) rfl ?_
  exact ⟨hS3.ag, fun w9 hw9 => ⟨b5, rfl, hS3.agree hw9⟩⟩
def tb44_6 : List (Nat × Nat × Nat) := [(0, 65536, 1), (0, 131072, 32), (3, 262144, 196608), (4, 524288, 262144), (0, 1048576, 2), (0, 2097152, 32), (48, 4194304, 3145728), (64, 8388608, 4194304), (136, 16777216, 8912896)]
def slices_Equal_api_Share_api_Share_l1 (_n : Nat) (a0 : List TShare) (a1 : List TShare) (J0 : Nat → Option (Bool ⊕ Unit)) : Nat → Option (Bool ⊕ Unit)
  | i0 => (if i0 < a0.length then (a0[i0]?).bind fun x0 => (a1[i0]?).bind fun x1 => (if x0 = x1 then J0 (i0 + 1) else some (.inl false)) else some (.inr ()))
def slices_Equal_api_Share_api_Share_p (n : Nat) (a0 : List TShare) (a1 : List TShare) : Option Bool :=
  (if a0.length = a1.length then thn (loopF (slices_Equal_api_Share_api_Share_l1 n a0 a1) n 0) (fun _ => some true) else some false)
theorem slices_Equal_api_Share_api_Share_c (n : Nat) (L : List Nat) (w : World) (_hL : ∀ b ∈ L, b < w.heap.size) (a0 : List TShare) {v0_0 : Value} (h0_0 : Rep.R w L [v0_0] a0) (a1 : List TShare) {v1_0 : Value} (h1_0 : Rep.R w L [v1_0] a1)  {r : Bool} (h : slices_Equal_api_Share_api_Share_p n a0 a1 = some r) :
    Calls Tryz.prog 44 #[v0_0, v1_0] w (Gives w fun _ u => u = .bool r) := by
  unfold slices_Equal_api_Share_api_Share_p at h
  have hS0 := St.start w
  refine MX.start Tryz.func44 rfl rfl rfl (fun _ cs0 hb0 => ?_)
  refine MX.sr <| RG.sg rfl rfl <| RG.nil <| MX.seq <| MX.sr <| RG.mv rfl rfl ?_
  have hl1 : a0.length ≤ 281474976710656 := Rep.lenle h0_0
  refine RG.vv (FV.len (xs := a0) Tryz.underlying68 rfl h0_0) rfl <| RG.mv rfl rfl ?_
  have hl2 : a1.length ≤ 281474976710656 := Rep.lenle h1_0
  refine RG.vv (FV.len (xs := a1) Tryz.underlying68 rfl h1_0) rfl <| RG.vv (FV.neqN (i := a0.length) (j := a1.length) rfl rfl) rfl <| RG.nil <| MX.ifn rfl h (fun c3 h => ?_) (fun c3 h => ?_)
  ·skip
   refine MX.skip <| MX.seq <| MX.sr <| RG.mv rfl rfl <| RG.vv (FV.len (xs := a0) Tryz.underlying68 rfl h0_0) rfl <| RG.mv rfl rfl ?_
   refine RG.nil <| MX.block ?_
   obtain ⟨o0, ho35, hh37⟩ := thn_in h
   refine MX.loop (α := Nat) (fun i0 => [(0, v0_0), (1, v1_0), (12, .int .i64 ((a0.length : Nat) : Int)), (13, .int .i64 ((i0 : Nat) : Int))]) (fun i0 wx0 => St w wx0 [] ∧ Tr w [] wx0 []) (fun i0 => i0) 0 ho35 ⟨rfl, rfl, rfl, rfl, trivial⟩ ⟨hS0, Tr.refl _ _⟩ ?_
   rintro J0 i0 wx0 hJ39 ⟨hS1, hT0⟩ h
   unfold slices_Equal_api_Share_api_Share_l1 at h
   try dsimp only at h
   refine MX.sr <| RG.vv (FV.lssN (i := i0) (j := a0.length) rfl rfl) rfl <| RG.nil <| MX.seq <| MX.ifd rfl h (fun c0 h => ?_) (fun c0 h => ?_)
   ·skip
    refine MX.skip <| MX.seq <| MX.block <| MX.sr <| RG.mv rfl rfl <| RG.sg rfl rfl ?_
    refine RG.nil <| MX.seq <| MX.drawT 9 tb44_6 (by kernel_rfl) (by kernel_rfl) (by kernel_rfl) (fun kt0 kp0 => ?_)
    refine RD.vw 0 1 kt0 rfl kp0 (fun _ => FV.move rfl) rfl <| RD.vw 1 3 kt0 rfl kp0 (fun _ => FV.move rfl) rfl ?_
    obtain ⟨x0, hx0, h⟩ := bind_in h
    have hm0 := Rep.mv h0_0 hT0
    obtain ⟨A44, c1, he0, hk0, cs1, hr0, hm1⟩ := Rep.nth hm0 hx0
    obtain rfl := op_TShare hr0
    refine RD.vw 2 7 kt0 rfl kp0 (fun _ => FV.idxAddr (m := 16) (i := i0) (by kernel_rfl) rfl he0 rfl rfl hk0) rfl <| RD.vx 3 15 256 kt0 rfl kp0 (FV.loadN (by kernel_rfl) rfl hm1) rfl <| RD.vw 4 31 kt0 rfl kp0 (fun _ => FV.move rfl) rfl <| RD.vw 5 63 kt0 rfl kp0 (fun _ => FV.move rfl) rfl ?_
    obtain ⟨x1, hx1, h⟩ := bind_in h
    have hm2 := Rep.mv h1_0 hT0
    obtain ⟨A53, c2, he1, hk1, cs2, hr1, hm3⟩ := Rep.nth hm2 hx1
    obtain rfl := op_TShare hr1
    refine RD.vw 6 127 kt0 rfl kp0 (fun _ => FV.idxAddr (m := 16) (i := i0) (by kernel_rfl) rfl he1 rfl rfl hk1) rfl <| RD.vx 7 255 256 kt0 rfl kp0 (FV.loadN (by kernel_rfl) rfl hm3) rfl <| RD.vw 8 511 kt0 rfl kp0 (fun _ => FV.neqV (xs := ((cs_TShare x0)).toArray) (ys := ((cs_TShare x1)).toArray) rfl rfl (by kernel_rfl) (eqlD_37 x0 x1)) rfl <| RD.done (doneD_ok kt0 (by kernel_rfl)) <| MX.ifn rfl h (fun c4 h => ?_) (fun c4 h => ?_)
    ·skip
     refine MX.skip <| MX.inBlock <| MX.region <| RG.vv (FV.addN (i := i0) (j := 1) rfl rfl (by omega)) rfl <| RG.mv rfl rfl <| RG.nil ?_
     exact hJ39 (i0 + 1) _ _ ⟨rfl, rfl, rfl, rfl, trivial⟩ ⟨hS1, hT0⟩ h
    refine MX.sr <| RG.sg rfl rfl <| RG.nil ?_
    have h := thn_inl h hh37
    refine MX.ret rfl <| RT.leave hb0 Tryz.func44 rfl (.cons (.tmp rfl) .nil) rfl ?_
    obtain rfl := Option.some.inj h
    exact ⟨hS1.ag, fun w9 hw9 => rfl⟩
   refine MX.exit rfl ?_
   have h := thn_inr h hh37
   try dsimp only at h
   refine MX.sr <| RG.sg rfl rfl <| RG.nil <| MX.ret rfl <| RT.leave hb0 Tryz.func44 rfl (.cons (.tmp rfl) .nil) rfl ?_
   obtain rfl := Option.some.inj h
   exact ⟨hS1.ag, fun w9 hw9 => rfl⟩
  refine MX.sr <| RG.sg rfl rfl <| RG.nil <| MX.ret rfl <| RT.leave hb0 Tryz.func44 rfl (.cons (.tmp rfl) .nil) rfl ?_
  obtain rfl := Option.some.inj h
  exact ⟨hS0.ag, fun w9 hw9 => rfl⟩
def tb9_3 : List (Nat × Nat × Nat) := [(0, 1048576, 2), (0, 2097152, 0), (3, 4194304, 3145728), (4, 524288, 4194304), (8, 8388608, 524288), (8, 16777216, 524288), (8, 33554432, 524288), (31, 32, 8388608), (191, 64, 16777216), (511, 128, 33554432)]
def tb9_5 : List (Nat × Nat × Nat) := [(0, 4294967296, 0), (1, 8589934592, 4294967296), (0, 17179869184, 2), (0, 34359738368, 4), (14, 68719476736, 51539607552), (16, 137438953472, 68719476736), (16, 274877906944, 68719476736), (114, 549755813888, 420906795008), (128, 1099511627776, 549755813888), (256, 2199023255552, 1099511627776), (256, 4398046511104, 1099511627778), (1792, 8796093022208, 5497558138880), (2304, 17592186044416, 9895604649984), (2304, 35184372088832, 9895604649984), (15104, 70368744177664, 56075093016576), (16640, 140737488355328, 71468255805440), (49152, 281474976710656, 140737488355328), (65536, 562949953421312, 281474976710664), (65536, 1125899906842624, 281474976710656), (327680, 2251799813685248, 281474976710656), (851968, 4503599627370496, 3659174697238528), (1769472, 9007199254740992, 5348024557502464), (2162688, 18014398509481984, 9288674231451648), (6291456, 36028797018963968, 18014398509481984), (8388608, 72057594037927936, 36028797018963984), (25165824, 144115188075855872, 108086391056891904), (41943040, 288230376151711744, 180143985094819840), (75497472, 576460752303423488, 288230376151711744), (134217728, 1152921504606846976, 576460752303423488), (134217728, 2305843009213693952, 576460752303423490), (134217728, 4611686018427387904, 576460752303423492), (2013265920, 9223372036854775808, 7493989779944505344), (2281701376, 18446744073709551616, 9799832789158199296), (2281701376, 36893488147419103232, 9799832789158199296), (15435038720, 73786976294838206464, 57069614478038925312), (17314086912, 147573952589676412928, 74363437047141629952), (68719476735, 1024, 147573952589676412928)]
def tb9_6 : List (Nat × Nat × Nat) := [(0, 295147905179352825856, 1024), (1, 590295810358705651712, 295147905179352825856), (2, 1180591620717411303424, 590295810358705651744), (6, 2361183241434822606848, 1770887431076116955136), (10, 4722366482869645213696, 2951479051793528258560), (18, 9444732965739290427392, 4722366482869645213696), (32, 18889465931478580854784, 9444732965739290427456), (96, 37778931862957161709568, 28334198897217871282176), (160, 75557863725914323419136, 47223664828696452136960), (288, 151115727451828646838272, 75557863725914323419136), (512, 302231454903657293676544, 151115727451828646838400), (1536, 604462909807314587353088, 453347182355485940514816), (2560, 1208925819614629174706176, 755578637259143234191360), (4608, 2417851639229258349412352, 1208925819614629174706176), (8192, 4835703278458516698824704, 2417851639229258349412352), (8192, 9671406556917033397649408, 2417851639229258349412354), (8192, 19342813113834066795298816, 2417851639229258349412356), (24576, 38685626227668133590597632, 2417851639229258349412352), (237568, 77371252455336267181195264, 70117697537648492132958208), (270336, 154742504910672534362390528, 79789104094565525530607616), (270336, 309485009821345068724781056, 79789104094565525530607616), (1859584, 618970019642690137449562112, 471481069649705378135408640), (2105344, 1237940039285380274899124224, 621387871281919395798974464), (6291456, 2475880078570760549798248448, 1237940039285380274899124224), (8388608, 4951760157141521099596496896, 2475880078570760549798248448), (8388608, 9903520314283042199192993792, 2475880078570760549798248450), (8388608, 19807040628566084398385987584, 2475880078570760549798248452), (25165824, 39614081257132168796771975168, 2475880078570760549798248448), (243269632, 79228162514264337593543950336, 71800522278552055944149204992), (276824064, 158456325028528675187087900672, 81704042592835098143342198784), (276824064, 316912650057057350374175801344, 81704042592835098143342198784), (1904214016, 633825300114114700748351602688, 482796615321298307210658447360), (2155872256, 1267650600228229401496703205376, 636301180192685461298149851136), (6442450944, 2535301200456458802993406410752, 1267650600228229401496703205376), (8589934592, 5070602400912917605986812821504, 2535301200456458802993406411264), (25769803776, 10141204801825835211973625643008, 7605903601369376408980219232256), (42949672960, 20282409603651670423947251286016, 12676506002282294014967032053760), (137438953471, 1, 20282409603651670423947251286016)]
theorem el46 : ElT Tryz.prog 46 3 (Rep.size Int) 8 (.int .i64 0) [.int .i64 0] := ⟨Tryz.underlying46, by kernel_rfl, rfl, rfl, rfl, rfl⟩
theorem body13 : bodyB Tryz.prog 13 = true := by kernel_rfl
theorem body15 : bodyB Tryz.prog 15 = true := by kernel_rfl
theorem body19 : bodyB Tryz.prog 19 = true := by kernel_rfl
theorem body20 : bodyB Tryz.prog 20 = true := by kernel_rfl
theorem body21 : bodyB Tryz.prog 21 = true := by kernel_rfl
theorem body22 : bodyB Tryz.prog 22 = true := by kernel_rfl
theorem body33 : bodyB Tryz.prog 33 = true := by kernel_rfl
theorem body36 : bodyB Tryz.prog 36 = true := by kernel_rfl
theorem body37 : bodyB Tryz.prog 37 = true := by kernel_rfl
theorem body38 : bodyB Tryz.prog 38 = true := by kernel_rfl
theorem body44 : bodyB Tryz.prog 44 = true := by kernel_rfl
theorem body72 : bodyB Tryz.prog 72 = true := by kernel_rfl
theorem body91 : bodyB Tryz.prog 91 = true := by kernel_rfl
theorem body92 : bodyB Tryz.prog 92 = true := by kernel_rfl
def wardmotelaw22_works_p (n : Nat) : Option Bool :=
  (wardmotelaw22_four_p n).bind fun y1 => (balance_Off_p n y1 ([(0 : Int), (0 : Int), (0 : Int), (1 : Int)] : List Int) (2 : Int)).bind fun y0 => (wardmotelaw22_of_p n (1 : Int) (10 : Int)).bind fun y2 => (balance_Bounds_p n y1 (3 : Int) y2).bind fun y3 => (balance_Totals_p n y1 ([(0 : Int), (0 : Int), (0 : Int), (0 : Int)] : List Int) (2 : Int)).bind fun y4 => jn (fun q0 => (if q0 = true then (if y3.1 = 30 then (if y3.2.1 = 36 then (if y3.2.2 = 0 then (wardmotelaw22_of_p n (1 : Int) (5 : Int)).bind fun y5 => (balance_Within_p n y1 ([(0 : Int), (0 : Int), (0 : Int), (1 : Int)] : List Int) (2 : Int) y5).bind fun y6 => (wardmotelaw22_truth_1_p n y6.1 y6.2 true).bind fun y7 => (if y7 = true then (wardmotelaw22_of_p n (1 : Int) (6 : Int)).bind fun y8 => (balance_Within_p n y1 ([(0 : Int), (0 : Int), (0 : Int), (1 : Int)] : List Int) (2 : Int) y8).bind fun y9 => (wardmotelaw22_truth_1_p n y9.1 y9.2 false).bind fun y10 => (if y10 = true then some (decide (y4.2 = 220)) else some false) else some false) else some false) else some false) else some false) else some false)) (fun J0 => (balance_Totals_p n y1 ([(0 : Int), (0 : Int), (0 : Int), (1 : Int)] : List Int) (2 : Int)).bind fun y11 => (wardmotelaw22_is_1_p n y11.1 y11.2 ([(60 : Int), (40 : Int)] : List Int)).bind fun y12 => (if y12 = true then (balance_Ideal_p n y1 (2 : Int)).bind fun y13 => (wardmotelaw22_part_1_p n y13.1 y13.2 (50 : Int) (1 : Int)).bind fun y14 => (if y14 = true then (wardmotelaw22_of_p n (1 : Int) (5 : Int)).bind fun y15 => (wardmotelaw22_of_p n (-1 : Int) (5 : Int)).bind fun y16 => (slices_Equal_api_Share_api_Share_p n y0.1 ([y15, y16] : List TShare)).bind fun y17 => (if y17 = true then (if y0.2 = 0 then (balance_Spread_p n y1 ([(0 : Int), (0 : Int), (0 : Int), (1 : Int)] : List Int) (2 : Int)).bind fun y18 => (wardmotelaw22_part_1_p n y18.1 y18.2 (2 : Int) (5 : Int)).bind fun y19 => J0 y19 else J0 false) else J0 false) else J0 false) else J0 false))
theorem wardmotelaw22_works_c (n : Nat) (L : List Nat) (w : World) (hL : ∀ b ∈ L, b < w.heap.size)  {r : Bool} (h : wardmotelaw22_works_p n = some r) :
    Calls Tryz.prog 9 #[] w (Gives w fun _ u => u = .bool r) := by
  unfold wardmotelaw22_works_p at h
  have hS0 := St.start w
  refine MX.start Tryz.func9 rfl rfl rfl (fun _ cs0 hb0 => ?_)
  refine MX.sr <| RG.sg rfl rfl <| RG.nil <| MX.sr ?_
  obtain ⟨y1, hy1, h⟩ := bind_in h
  refine RG.call' (fst := []) (cap := []) .plain body36 rfl evs_nil (fun w9 hw9 => own_gives (b0 := w.heap.size) (wardmotelaw22_four_c n _ w9 (hS0.hL hL hw9)  hy1) hw9 (Nat.le_trans hS0.ag.size hw9.size)) rfl (fun w2 vu3 hag4 ⟨v9, cs1, hu6, s5, hc0⟩ => ?_)
  subst hu6
  have hS7 := own_push hS0 s5
  have hT8 := own_tr hS0 s5
  have hc1 := Cells.at_ (cs := cs1) (xs := (y1.fUnits : List TUnit)) hS7 L (own_cells hc0)
  refine RG.new .plain rfl (Does.build (α := Int) (xs := ([(0 : Int), (0 : Int), (0 : Int), (1 : Int)] : List Int)) (vs := [.int .i64 0, .int .i64 0, .int .i64 0, .int .i64 1]) (ds' := [.int .i64 0, .int .i64 0, .int .i64 0, .int .i64 1]) rfl hS7 el46 rfl (evs_cons rfl (evs_cons rfl (evs_cons rfl (evs_cons rfl evs_nil)))) (by kernel_rfl) rfl) (fun w0 b1 hS1 hT0 => ?_)
  have hc2 := Cells.at_ (cs := [.int .i64 0, .int .i64 0, .int .i64 0, .int .i64 1]) (xs := (([(0 : Int), (0 : Int), (0 : Int), (1 : Int)] : List Int) : List Int)) hS1 L (Cells.cons (cs := [.int .i64 0]) (ds := [.int .i64 0, .int .i64 0, .int .i64 1]) rfl (Cells.cons (cs := [.int .i64 0]) (ds := [.int .i64 0, .int .i64 1]) rfl (Cells.cons (cs := [.int .i64 0]) (ds := [.int .i64 1]) rfl (Cells.cons (cs := [.int .i64 1]) (ds := []) rfl (Cells.nil _ _)))))
  refine RG.new .plain rfl (Does.alloc (zs := [.int .i64 0, .int .i64 0, .int .i64 0, .slice none 0 0]) hS1 (zB (by kernel_rfl))) (fun w1 b2 hS2 hT1 => ?_)
  refine RG.now .plain (Acts.storeAll (news := [.int .i64 y1.fGroups, .int .i64 y1.fParties, .int .i64 y1.fLevels, v9]) hS2 .hd rfl rfl rfl rfl rfl rfl (ones_cons rfl (ones_cons rfl (ones_cons rfl (ones_cons (St.o1 (α := TUnit) hS2 (.tl (.tl .hd))) ones_nil))))) (fun w3 hS3 hT2 => ?_)
  refine RG.sg rfl rfl <| RG.nil <| MX.sr <| RG.vv (FV.loadN (by kernel_rfl) rfl (hS3.memA .hd)) rfl <| RG.mv rfl rfl ?_
  have hm0 := Cells.mv hc1 (Tr.trans hT0 (Tr.trans hT1 hT2))
  have hr0 := St.freeze (α := TUnit) hS3 (.tl (.tl .hd)) hm0 hL
  have hS4 := St.delS hS3 (.tl (.tl .hd))
  have hT3 := St.delT hS3 (.tl (.tl .hd))
  have hr1 := Rep.at_ (α := TUnit) (v := v9) (xs := y1.fUnits) hS4 L hr0
  have hm1 := Cells.mv hc2 (Tr.trans hT1 (Tr.trans hT2 hT3))
  have hr2 := St.freeze (α := Int) hS4 (.tl .hd) hm1 hL
  have hS5 := St.delS hS4 (.tl .hd)
  have hT4 := St.delT hS4 (.tl .hd)
  have hr3 := Rep.at_ (α := Int) (v := (.slice (some ⟨b1, 0, none⟩) 4 4)) (xs := ([(0 : Int), (0 : Int), (0 : Int), (1 : Int)] : List Int)) hS5 L hr2
  obtain ⟨y0, hy0, h⟩ := bind_in h
  have hm2 := Rep.mv hr1 hT4
  refine RG.call' (fst := []) (cap := []) .plain body22 rfl (evs_cons rfl (evs_cons rfl (evs_cons rfl evs_nil))) (fun w9 hw9 => balance_Off_c n _ w9 (hS5.hL hL hw9) y1 (Rep.keep0 hm2 hw9) ([(0 : Int), (0 : Int), (0 : Int), (1 : Int)] : List Int) (Rep.keep0 hr3 hw9) (2 : Int) hy0) rfl (fun w4 vu0 hag0 ⟨v0, hu_, hr4⟩ => ?_)
  subst hu_
  obtain ⟨hS6, hT5⟩ := hS5.agr hag0
  refine RG.mv rfl rfl <| RG.vv (FV.extract rfl rfl) rfl <| RG.vv (FV.extract rfl rfl) rfl <| RG.sg rfl rfl <| RG.sg rfl rfl <| RG.nil ?_
  refine MX.seq <| MX.drawT 10 tb9_3 (by kernel_rfl) (by kernel_rfl) (by kernel_rfl) (fun kt0 kp0 => ?_)
  refine RD.vx 0 1 1020 kt0 rfl kp0 (FV.loadN (by kernel_rfl) rfl (hS6.memA .hd)) rfl ?_
  obtain ⟨y2, hy2, h⟩ := bind_in h
  refine RD.cq 1 3 1020 (.agg ((cs_TShare y2)).toArray) kt0 rfl kp0 body23 rfl (evs_cons rfl (evs_cons rfl evs_nil)) (fun w9 hw9 => wardmotelaw22_of_c n _ w9 (hS6.hL0 hL hw9) (1 : Int) (10 : Int) hy2) rfl ?_
  obtain ⟨y3, hy3, h⟩ := bind_in h
  have hm3 := Rep.mv hr1 (Tr.trans hT4 hT5)
  refine RD.cq 2 7 1016 (.tuple #[.int .i64 y3.1, .int .i64 y3.2.1, .int .i64 y3.2.2]) kt0 rfl kp0 body13 rfl (evs_cons rfl (evs_cons rfl (evs_cons rfl evs_nil))) (fun w9 hw9 => balance_Bounds_c n _ w9 (hS6.hL0 hL hw9) y1 (Rep.keep0 (Rep.dropS hS6 hm3) hw9) (3 : Int) y2 hy3) rfl <| RD.vw 3 15 kt0 rfl kp0 (fun _ => FV.move rfl) rfl <| RD.vw 4 31 kt0 rfl kp0 (fun _ => FV.extract rfl rfl) rfl <| RD.vw 5 63 kt0 rfl kp0 (fun _ => FV.extract rfl rfl) rfl <| RD.vw 6 127 kt0 rfl kp0 (fun _ => FV.extract rfl rfl) rfl <| RD.vw 7 255 kt0 rfl kp0 (fun _ => FV.assign rfl) rfl ?_
  refine RD.vw 8 511 kt0 rfl kp0 (fun _ => FV.assign rfl) rfl <| RD.vw 9 1023 kt0 rfl kp0 (fun _ => FV.assign rfl) rfl <| RD.done (doneD_ok kt0 (by kernel_rfl)) <| MX.sr <| RG.vv (FV.loadN (by kernel_rfl) rfl (hS6.memA .hd)) rfl <| RG.new .plain rfl (Does.build (α := Int) (xs := ([(0 : Int), (0 : Int), (0 : Int), (0 : Int)] : List Int)) (vs := [.int .i64 0, .int .i64 0, .int .i64 0, .int .i64 0]) (ds' := [.int .i64 0, .int .i64 0, .int .i64 0, .int .i64 0]) rfl hS6 el46 rfl (evs_cons rfl (evs_cons rfl (evs_cons rfl (evs_cons rfl evs_nil)))) (by kernel_rfl) rfl) (fun w5 b3 hS8 hT6 => ?_)
  have hc3 := Cells.at_ (cs := [.int .i64 0, .int .i64 0, .int .i64 0, .int .i64 0]) (xs := (([(0 : Int), (0 : Int), (0 : Int), (0 : Int)] : List Int) : List Int)) hS8 L (Cells.cons (cs := [.int .i64 0]) (ds := [.int .i64 0, .int .i64 0, .int .i64 0]) rfl (Cells.cons (cs := [.int .i64 0]) (ds := [.int .i64 0, .int .i64 0]) rfl (Cells.cons (cs := [.int .i64 0]) (ds := [.int .i64 0]) rfl (Cells.cons (cs := [.int .i64 0]) (ds := []) rfl (Cells.nil _ _)))))
  have hr5 := St.freeze (α := Int) hS8 .hd hc3 hL
  have hS9 := St.delS hS8 .hd
  have hT7 := St.delT hS8 .hd
  have hr6 := Rep.at_ (α := Int) (v := (.slice (some ⟨b3, 0, none⟩) 4 4)) (xs := ([(0 : Int), (0 : Int), (0 : Int), (0 : Int)] : List Int)) hS9 L hr5
  obtain ⟨y4, hy4, h⟩ := bind_in h
  have hm4 := Rep.mv hr1 (Tr.trans hT4 (Tr.trans hT5 (Tr.trans hT6 hT7)))
  refine RG.call' (fst := []) (cap := []) .plain body19 rfl (evs_cons rfl (evs_cons rfl (evs_cons rfl evs_nil))) (fun w9 hw9 => balance_Totals_c n _ w9 (hS9.hL hL hw9) y1 (Rep.keep0 hm4 hw9) ([(0 : Int), (0 : Int), (0 : Int), (0 : Int)] : List Int) (Rep.keep0 hr6 hw9) (2 : Int) hy4) rfl (fun w6 vu1 hag1 ⟨v1, hu_, hr7⟩ => ?_)
  subst hu_
  obtain ⟨hS67, hT9⟩ := hS9.agr hag1
  refine RG.mv rfl rfl <| RG.vv (FV.extract rfl rfl) rfl <| RG.vv (FV.extract rfl rfl) rfl <| RG.sg rfl rfl <| RG.sg rfl rfl <| RG.nil ?_
  refine MX.seq <| MX.join (α := Bool) (fun q0 => [(1, .pointer (some ⟨b2, 0, none⟩)), (2, (.slice (some ⟨b1, 0, none⟩) 4 4)), (5, .int .i64 y3.1), (6, .int .i64 y3.2.1), (7, .int .i64 y3.2.2), (9, .int .i64 y4.2), (10, .bool q0)]) (fun q0 wx0 => St w wx0 [.cells b2 [.int .i64 y1.fGroups, .int .i64 y1.fParties, .int .i64 y1.fLevels, v9] 44] ∧ Tr w6 [.cells b2 [.int .i64 y1.fGroups, .int .i64 y1.fParties, .int .i64 y1.fLevels, v9] 44] wx0 [.cells b2 [.int .i64 y1.fGroups, .int .i64 y1.fParties, .int .i64 y1.fLevels, v9] 44]) (fun q0 => q0) h ?_ ?_
  ·skip
   rintro q0 wx0 ⟨hS10, hT10⟩ h
   try dsimp only at h
   refine MX.seq <| MX.drawT 38 tb9_6 (by kernel_rfl) (by kernel_rfl) (by kernel_rfl) (fun kt1 kp1 => ?_)
   refine RD.vw 0 1 kt1 rfl kp1 (fun _ => FV.move rfl) rfl <| RD.vw 1 3 kt1 rfl kp1 (fun _ => FV.move rfl) rfl <| RD.ifb (s := 69) rfl h (fun c0 h => ?_) (fun c0 h => ?_)
   ·skip
    refine RD.vP 2 7 kt1 rfl kp1 (.yes rfl rfl) (fun _ => FV.move rfl) rfl <| RD.vP 3 15 kt1 rfl kp1 (.yes rfl rfl) (fun _ => FV.eql (i := y3.1) (j := 30) rfl rfl) rfl <| RD.vw 4 31 kt1 rfl kp1 (fun _ => FV.pick_t rfl rfl) rfl <| RD.vw 5 63 kt1 rfl kp1 (fun _ => FV.move rfl) rfl <| RD.ifd (s := 73) rfl h (fun c1 h => ?_) (fun c1 h => ?_)
    ·skip
     refine RD.vP 6 127 kt1 rfl kp1 (.yes rfl rfl) (fun _ => FV.move rfl) rfl <| RD.vP 7 255 kt1 rfl kp1 (.yes rfl rfl) (fun _ => FV.eql (i := y3.2.1) (j := 36) rfl rfl) rfl <| RD.vw 8 511 kt1 rfl kp1 (fun _ => FV.pick_t rfl rfl) rfl <| RD.vw 9 1023 kt1 rfl kp1 (fun _ => FV.move rfl) rfl <| RD.ifd (s := 77) rfl h (fun c2 h => ?_) (fun c2 h => ?_)
     ·skip
      refine RD.vP 10 2047 kt1 rfl kp1 (.yes rfl rfl) (fun _ => FV.move rfl) rfl <| RD.vP 11 4095 kt1 rfl kp1 (.yes rfl rfl) (fun _ => FV.eql (i := y3.2.2) (j := 0) rfl rfl) rfl <| RD.vw 12 8191 kt1 rfl kp1 (fun _ => FV.pick_t rfl rfl) rfl <| RD.vw 13 16383 kt1 rfl kp1 (fun _ => FV.move rfl) rfl <| RD.ifd (s := 81) rfl h (fun c3 h => ?_) (fun c3 h => ?_)
      ·skip
       refine RD.val (i := 15) (m' := 49151) (W := 274877644800) (takeC_ok kt1 (by kernel_rfl)) rfl kp1 (.yes rfl rfl) (FV.loadN (by kernel_rfl) rfl (hS10.memA .hd)) rfl <| RD.vP 16 114687 kt1 rfl kp1 (.yes rfl rfl) (fun _ => FV.move rfl) rfl <| RD.cl 14 131071 kt1 rfl (.yes rfl rfl) body38 rfl (evs_cons rfl evs_nil) (fun w9 hw9 => Calls.gives (wardmotelaw22_truth_c n _ w9 (hS10.hL hL hw9) true) fun (w8 : World) (u8 : Value) ⟨b0_, hu_, s_⟩ => (⟨b0_, hu_, s_.from hw9⟩ : ∃ b4 : Nat, u8 = Value.func (.func 92) #[] #[.pointer (some ⟨b4, 0, none⟩)] ∧ St wx0 w8 [.cells b4 [.bool true] 4])) rfl (fun w7 vu2 hag2 ⟨b4, hu0, s0⟩ => ?_)
       subst hu0
       have hS11 : St w w7 [.cells b4 [.bool true] 4, .cells b2 [.int .i64 y1.fGroups, .int .i64 y1.fParties, .int .i64 y1.fLevels, v9] 44] := St.merge hS10 s0
       have hT11 : Tr wx0 [.cells b2 [.int .i64 y1.fGroups, .int .i64 y1.fParties, .int .i64 y1.fLevels, v9] 44] w7 [.cells b4 [.bool true] 4, .cells b2 [.int .i64 y1.fGroups, .int .i64 y1.fParties, .int .i64 y1.fLevels, v9] 44] := Tr.merge hS10 s0
       obtain ⟨y5, hy5, h⟩ := bind_in h
       refine RD.callq (i := 17) (m' := 262143) (W := 274877644800) (takeC_ok kt1 (by kernel_rfl)) rfl kp1 (v := .agg ((cs_TShare y5)).toArray) (fst := []) (cap := []) (.yes rfl rfl) body23 rfl (evs_cons rfl (evs_cons rfl evs_nil)) (fun w9 hw9 => wardmotelaw22_of_c n _ w9 (hS11.hL0 hL hw9) (1 : Int) (5 : Int) hy5) rfl ?_
       obtain ⟨y6, hy6, h⟩ := bind_in h
       have hm5 := Rep.mv hr1 (Tr.trans hT4 (Tr.trans hT5 (Tr.trans hT6 (Tr.trans hT7 (Tr.trans hT9 (Tr.trans hT10 hT11))))))
       have hm6 := Rep.mv hr3 (Tr.trans hT5 (Tr.trans hT6 (Tr.trans hT7 (Tr.trans hT9 (Tr.trans hT10 hT11)))))
       refine RD.callq (i := 18) (m' := 524287) (W := 274877382656) (takeC_ok kt1 (by kernel_rfl)) rfl kp1 (v := .tuple #[.bool y6.1, .int .i64 y6.2]) (fst := []) (cap := []) (.yes rfl rfl) body15 rfl (evs_cons rfl (evs_cons rfl (evs_cons rfl (evs_cons rfl evs_nil)))) (fun w9 hw9 => balance_Within_c n _ w9 (hS11.hL0 hL hw9) y1 (Rep.keep0 (Rep.dropS hS11 hm5) hw9) ([(0 : Int), (0 : Int), (0 : Int), (1 : Int)] : List Int) (Rep.keep0 (Rep.dropS hS11 hm6) hw9) (2 : Int) y5 hy6) rfl <| RD.vP 19 1048575 kt1 rfl kp1 (.yes rfl rfl) (fun _ => FV.extract rfl rfl) rfl <| RD.vP 20 2097151 kt1 rfl kp1 (.yes rfl rfl) (fun _ => FV.extract rfl rfl) rfl ?_
       obtain ⟨y7, hy7, h⟩ := bind_in h
       refine RD.callq (i := 21) (m' := 4194303) (W := 274873712640) (takeC_ok kt1 (by kernel_rfl)) rfl kp1 (v := .bool y7) (fst := []) (cap := [.pointer (some ⟨b4, 0, none⟩)]) (.yes rfl rfl) body92 rfl (evs_cons rfl (evs_cons rfl evs_nil)) (fun w9 hw9 => wardmotelaw22_truth_1_c n _ w9 (hS11.hL0 hL hw9) y6.1 y6.2 true (fun j9 v9 h9 => hw9.cell0 ((hS11.memA .hd) j9 v9 h9)) hy7) rfl <| RD.vw 22 8388607 kt1 rfl kp1 (fun _ => FV.pick_t rfl rfl) rfl <| RD.vw 23 16777215 kt1 rfl kp1 (fun _ => FV.move rfl) rfl <| RD.ifb (s := 91) rfl h (fun c4 h => ?_) (fun c4 h => ?_)
       ·skip
        refine RD.val (i := 25) (m' := 50331647) (W := 274609471488) (takeC_ok kt1 (by kernel_rfl)) rfl kp1 (.yes rfl rfl) (FV.loadN (by kernel_rfl) rfl (hS11.memA (.tl .hd))) rfl <| RD.vP 26 117440511 kt1 rfl kp1 (.yes rfl rfl) (fun _ => FV.move rfl) rfl <| RD.cl 24 134217727 kt1 rfl (.yes rfl rfl) body38 rfl (evs_cons rfl evs_nil) (fun w9 hw9 => Calls.gives (wardmotelaw22_truth_c n _ w9 (hS11.hL hL hw9) false) fun (w8 : World) (u8 : Value) ⟨b0_, hu_, s_⟩ => (⟨b0_, hu_, s_.from hw9⟩ : ∃ b5 : Nat, u8 = Value.func (.func 92) #[] #[.pointer (some ⟨b5, 0, none⟩)] ∧ St w7 w8 [.cells b5 [.bool false] 4])) rfl (fun w10 vu4 hag3 ⟨b5, hu1, s1⟩ => ?_)
        subst hu1
        have hS12 : St w w10 [.cells b5 [.bool false] 4, .cells b4 [.bool true] 4, .cells b2 [.int .i64 y1.fGroups, .int .i64 y1.fParties, .int .i64 y1.fLevels, v9] 44] := St.merge hS11 s1
        have hT12 : Tr w7 [.cells b4 [.bool true] 4, .cells b2 [.int .i64 y1.fGroups, .int .i64 y1.fParties, .int .i64 y1.fLevels, v9] 44] w10 [.cells b5 [.bool false] 4, .cells b4 [.bool true] 4, .cells b2 [.int .i64 y1.fGroups, .int .i64 y1.fParties, .int .i64 y1.fLevels, v9] 44] := Tr.merge hS11 s1
        obtain ⟨y8, hy8, h⟩ := bind_in h
        refine RD.callq (i := 27) (m' := 268435455) (W := 274609471488) (takeC_ok kt1 (by kernel_rfl)) rfl kp1 (v := .agg ((cs_TShare y8)).toArray) (fst := []) (cap := []) (.yes rfl rfl) body23 rfl (evs_cons rfl (evs_cons rfl evs_nil)) (fun w9 hw9 => wardmotelaw22_of_c n _ w9 (hS12.hL0 hL hw9) (1 : Int) (6 : Int) hy8) rfl ?_
        obtain ⟨y9, hy9, h⟩ := bind_in h
        have hm7 := Rep.mv hr1 (Tr.trans hT4 (Tr.trans hT5 (Tr.trans hT6 (Tr.trans hT7 (Tr.trans hT9 (Tr.trans hT10 (Tr.trans hT11 hT12)))))))
        have hm8 := Rep.mv hr3 (Tr.trans hT5 (Tr.trans hT6 (Tr.trans hT7 (Tr.trans hT9 (Tr.trans hT10 (Tr.trans hT11 hT12))))))
        refine RD.callq (i := 28) (m' := 536870911) (W := 274341036032) (takeC_ok kt1 (by kernel_rfl)) rfl kp1 (v := .tuple #[.bool y9.1, .int .i64 y9.2]) (fst := []) (cap := []) (.yes rfl rfl) body15 rfl (evs_cons rfl (evs_cons rfl (evs_cons rfl (evs_cons rfl evs_nil)))) (fun w9 hw9 => balance_Within_c n _ w9 (hS12.hL0 hL hw9) y1 (Rep.keep0 (Rep.dropS hS12 hm7) hw9) ([(0 : Int), (0 : Int), (0 : Int), (1 : Int)] : List Int) (Rep.keep0 (Rep.dropS hS12 hm8) hw9) (2 : Int) y8 hy9) rfl <| RD.vP 29 1073741823 kt1 rfl kp1 (.yes rfl rfl) (fun _ => FV.extract rfl rfl) rfl <| RD.vP 30 2147483647 kt1 rfl kp1 (.yes rfl rfl) (fun _ => FV.extract rfl rfl) rfl ?_
        obtain ⟨y10, hy10, h⟩ := bind_in h
        refine RD.callq (i := 31) (m' := 4294967295) (W := 270582939648) (takeC_ok kt1 (by kernel_rfl)) rfl kp1 (v := .bool y10) (fst := []) (cap := [.pointer (some ⟨b5, 0, none⟩)]) (.yes rfl rfl) body92 rfl (evs_cons rfl (evs_cons rfl evs_nil)) (fun w9 hw9 => wardmotelaw22_truth_1_c n _ w9 (hS12.hL0 hL hw9) y9.1 y9.2 false (fun j9 v9 h9 => hw9.cell0 ((hS12.memA .hd) j9 v9 h9)) hy10) rfl <| RD.vw 32 8589934591 kt1 rfl kp1 (fun _ => FV.pick_t rfl rfl) rfl <| RD.vw 33 17179869183 kt1 rfl kp1 (fun _ => FV.move rfl) rfl <| RD.ifb (s := 101) rfl h (fun c5 h => ?_) (fun c5 h => ?_)
        ·skip
         refine RD.vP 34 34359738367 kt1 rfl kp1 (.yes rfl rfl) (fun _ => FV.move rfl) rfl <| RD.vP 35 68719476735 kt1 rfl kp1 (.yes rfl rfl) (fun _ => FV.eql (i := y4.2) (j := 220) rfl rfl) rfl <| RD.vw 36 137438953471 kt1 rfl kp1 (fun _ => FV.pick_t rfl rfl) rfl <| RD.vw 37 274877906943 kt1 rfl kp1 (fun _ => FV.assign rfl) rfl <| RD.done (doneD_ok kt1 (by kernel_rfl)) <| MX.ret rfl ?_
         refine RT.leave hb0 Tryz.func9 rfl (.cons (.tmp rfl) .nil) rfl ?_
         obtain rfl := Option.some.inj h
         exact ⟨hS12.ag, fun w9 hw9 => rfl⟩
        refine RD.offs 68719476735 2 [(34, 102), (35, 103)] (F := [(101, false)]) (U := []) kt1 kp1 (.cons rfl .nil) .nil ?_
        dsimp only [offS, List.map]
        refine RD.vw 36 137438953471 kt1 rfl kp1 (fun _ => FV.pick_f rfl rfl) rfl <| RD.vw 37 274877906943 kt1 rfl kp1 (fun _ => FV.assign rfl) rfl <| RD.done (doneD_ok kt1 (by kernel_rfl)) <| MX.ret rfl <| RT.leave hb0 Tryz.func9 rfl (.cons (.tmp rfl) .nil) rfl ?_
        obtain rfl := Option.some.inj h
        exact ⟨hS12.ag, fun w9 hw9 => rfl⟩
       refine RD.offs 4294967295 6 [(24, 92), (25, 93), (26, 94), (27, 95), (28, 96), (29, 97), (30, 98), (31, 99)] (F := [(91, false)]) (U := []) kt1 kp1 (.cons rfl .nil) .nil ?_
       dsimp only [offS, List.map]
       refine RD.vw 32 8589934591 kt1 rfl kp1 (fun _ => FV.pick_f rfl rfl) rfl <| RD.vw 33 17179869183 kt1 rfl kp1 (fun _ => FV.move rfl) rfl <| RD.offs 68719476735 2 [(34, 102), (35, 103)] (F := [(101, false)]) (U := []) kt1 kp1 (.cons rfl .nil) .nil ?_
       dsimp only [offS, List.map]
       refine RD.vw 36 137438953471 kt1 rfl kp1 (fun _ => FV.pick_f rfl rfl) rfl <| RD.vw 37 274877906943 kt1 rfl kp1 (fun _ => FV.assign rfl) rfl <| RD.done (doneD_ok kt1 (by kernel_rfl)) <| MX.ret rfl <| RT.leave hb0 Tryz.func9 rfl (.cons (.tmp rfl) .nil) rfl ?_
       obtain rfl := Option.some.inj h
       exact ⟨hS11.ag, fun w9 hw9 => rfl⟩
      refine RD.offs 4194303 16 [(14, 82), (15, 83), (16, 84), (17, 85), (18, 86), (19, 87), (20, 88), (21, 89)] (F := [(81, false)]) (U := []) kt1 kp1 (.cons rfl .nil) .nil ?_
      dsimp only [offS, List.map]
      refine RD.vw 22 8388607 kt1 rfl kp1 (fun _ => FV.pick_f rfl rfl) rfl <| RD.vw 23 16777215 kt1 rfl kp1 (fun _ => FV.move rfl) rfl <| RD.offs 4294967295 6 [(24, 92), (25, 93), (26, 94), (27, 95), (28, 96), (29, 97), (30, 98), (31, 99)] (F := [(91, false)]) (U := []) kt1 kp1 (.cons rfl .nil) .nil ?_
      dsimp only [offS, List.map]
      refine RD.vw 32 8589934591 kt1 rfl kp1 (fun _ => FV.pick_f rfl rfl) rfl <| RD.vw 33 17179869183 kt1 rfl kp1 (fun _ => FV.move rfl) rfl <| RD.offs 68719476735 2 [(34, 102), (35, 103)] (F := [(101, false)]) (U := []) kt1 kp1 (.cons rfl .nil) .nil ?_
      dsimp only [offS, List.map]
      refine RD.vw 36 137438953471 kt1 rfl kp1 (fun _ => FV.pick_f rfl rfl) rfl <| RD.vw 37 274877906943 kt1 rfl kp1 (fun _ => FV.assign rfl) rfl <| RD.done (doneD_ok kt1 (by kernel_rfl)) <| MX.ret rfl <| RT.leave hb0 Tryz.func9 rfl (.cons (.tmp rfl) .nil) rfl ?_
      obtain rfl := Option.some.inj h
      exact ⟨hS10.ag, fun w9 hw9 => rfl⟩
     refine RD.offs 4095 26 [(10, 78), (11, 79)] (F := [(77, false)]) (U := []) kt1 kp1 (.cons rfl .nil) .nil ?_
     dsimp only [offS, List.map]
     refine RD.vw 12 8191 kt1 rfl kp1 (fun _ => FV.pick_f rfl rfl) rfl <| RD.vw 13 16383 kt1 rfl kp1 (fun _ => FV.move rfl) rfl <| RD.offs 4194303 16 [(14, 82), (15, 83), (16, 84), (17, 85), (18, 86), (19, 87), (20, 88), (21, 89)] (F := [(81, false)]) (U := []) kt1 kp1 (.cons rfl .nil) .nil ?_
     dsimp only [offS, List.map]
     refine RD.vw 22 8388607 kt1 rfl kp1 (fun _ => FV.pick_f rfl rfl) rfl <| RD.vw 23 16777215 kt1 rfl kp1 (fun _ => FV.move rfl) rfl <| RD.offs 4294967295 6 [(24, 92), (25, 93), (26, 94), (27, 95), (28, 96), (29, 97), (30, 98), (31, 99)] (F := [(91, false)]) (U := []) kt1 kp1 (.cons rfl .nil) .nil ?_
     dsimp only [offS, List.map]
     refine RD.vw 32 8589934591 kt1 rfl kp1 (fun _ => FV.pick_f rfl rfl) rfl <| RD.vw 33 17179869183 kt1 rfl kp1 (fun _ => FV.move rfl) rfl <| RD.offs 68719476735 2 [(34, 102), (35, 103)] (F := [(101, false)]) (U := []) kt1 kp1 (.cons rfl .nil) .nil ?_
     dsimp only [offS, List.map]
     refine RD.vw 36 137438953471 kt1 rfl kp1 (fun _ => FV.pick_f rfl rfl) rfl <| RD.vw 37 274877906943 kt1 rfl kp1 (fun _ => FV.assign rfl) rfl <| RD.done (doneD_ok kt1 (by kernel_rfl)) <| MX.ret rfl <| RT.leave hb0 Tryz.func9 rfl (.cons (.tmp rfl) .nil) rfl ?_
     obtain rfl := Option.some.inj h
     exact ⟨hS10.ag, fun w9 hw9 => rfl⟩
    refine RD.offs 255 30 [(6, 74), (7, 75)] (F := [(73, false)]) (U := []) kt1 kp1 (.cons rfl .nil) .nil ?_
    dsimp only [offS, List.map]
    refine RD.vw 8 511 kt1 rfl kp1 (fun _ => FV.pick_f rfl rfl) rfl <| RD.vw 9 1023 kt1 rfl kp1 (fun _ => FV.move rfl) rfl <| RD.offs 4095 26 [(10, 78), (11, 79)] (F := [(77, false)]) (U := []) kt1 kp1 (.cons rfl .nil) .nil ?_
    dsimp only [offS, List.map]
    refine RD.vw 12 8191 kt1 rfl kp1 (fun _ => FV.pick_f rfl rfl) rfl <| RD.vw 13 16383 kt1 rfl kp1 (fun _ => FV.move rfl) rfl <| RD.offs 4194303 16 [(14, 82), (15, 83), (16, 84), (17, 85), (18, 86), (19, 87), (20, 88), (21, 89)] (F := [(81, false)]) (U := []) kt1 kp1 (.cons rfl .nil) .nil ?_
    dsimp only [offS, List.map]
    refine RD.vw 22 8388607 kt1 rfl kp1 (fun _ => FV.pick_f rfl rfl) rfl <| RD.vw 23 16777215 kt1 rfl kp1 (fun _ => FV.move rfl) rfl <| RD.offs 4294967295 6 [(24, 92), (25, 93), (26, 94), (27, 95), (28, 96), (29, 97), (30, 98), (31, 99)] (F := [(91, false)]) (U := []) kt1 kp1 (.cons rfl .nil) .nil ?_
    dsimp only [offS, List.map]
    refine RD.vw 32 8589934591 kt1 rfl kp1 (fun _ => FV.pick_f rfl rfl) rfl <| RD.vw 33 17179869183 kt1 rfl kp1 (fun _ => FV.move rfl) rfl <| RD.offs 68719476735 2 [(34, 102), (35, 103)] (F := [(101, false)]) (U := []) kt1 kp1 (.cons rfl .nil) .nil ?_
    dsimp only [offS, List.map]
    refine RD.vw 36 137438953471 kt1 rfl kp1 (fun _ => FV.pick_f rfl rfl) rfl <| RD.vw 37 274877906943 kt1 rfl kp1 (fun _ => FV.assign rfl) rfl <| RD.done (doneD_ok kt1 (by kernel_rfl)) <| MX.ret rfl <| RT.leave hb0 Tryz.func9 rfl (.cons (.tmp rfl) .nil) rfl ?_
    obtain rfl := Option.some.inj h
    exact ⟨hS10.ag, fun w9 hw9 => rfl⟩
   refine RD.offs 15 34 [(2, 70), (3, 71)] (F := [(69, false)]) (U := []) kt1 kp1 (.cons rfl .nil) .nil ?_
   dsimp only [offS, List.map]
   refine RD.vw 4 31 kt1 rfl kp1 (fun _ => FV.pick_f rfl rfl) rfl <| RD.vw 5 63 kt1 rfl kp1 (fun _ => FV.move rfl) rfl <| RD.offs 255 30 [(6, 74), (7, 75)] (F := [(73, false)]) (U := []) kt1 kp1 (.cons rfl .nil) .nil ?_
   dsimp only [offS, List.map]
   refine RD.vw 8 511 kt1 rfl kp1 (fun _ => FV.pick_f rfl rfl) rfl <| RD.vw 9 1023 kt1 rfl kp1 (fun _ => FV.move rfl) rfl <| RD.offs 4095 26 [(10, 78), (11, 79)] (F := [(77, false)]) (U := []) kt1 kp1 (.cons rfl .nil) .nil ?_
   dsimp only [offS, List.map]
   refine RD.vw 12 8191 kt1 rfl kp1 (fun _ => FV.pick_f rfl rfl) rfl <| RD.vw 13 16383 kt1 rfl kp1 (fun _ => FV.move rfl) rfl <| RD.offs 4194303 16 [(14, 82), (15, 83), (16, 84), (17, 85), (18, 86), (19, 87), (20, 88), (21, 89)] (F := [(81, false)]) (U := []) kt1 kp1 (.cons rfl .nil) .nil ?_
   dsimp only [offS, List.map]
   refine RD.vw 22 8388607 kt1 rfl kp1 (fun _ => FV.pick_f rfl rfl) rfl <| RD.vw 23 16777215 kt1 rfl kp1 (fun _ => FV.move rfl) rfl <| RD.offs 4294967295 6 [(24, 92), (25, 93), (26, 94), (27, 95), (28, 96), (29, 97), (30, 98), (31, 99)] (F := [(91, false)]) (U := []) kt1 kp1 (.cons rfl .nil) .nil ?_
   dsimp only [offS, List.map]
   refine RD.vw 32 8589934591 kt1 rfl kp1 (fun _ => FV.pick_f rfl rfl) rfl <| RD.vw 33 17179869183 kt1 rfl kp1 (fun _ => FV.move rfl) rfl <| RD.offs 68719476735 2 [(34, 102), (35, 103)] (F := [(101, false)]) (U := []) kt1 kp1 (.cons rfl .nil) .nil ?_
   dsimp only [offS, List.map]
   refine RD.vw 36 137438953471 kt1 rfl kp1 (fun _ => FV.pick_f rfl rfl) rfl <| RD.vw 37 274877906943 kt1 rfl kp1 (fun _ => FV.assign rfl) rfl <| RD.done (doneD_ok kt1 (by kernel_rfl)) <| MX.ret rfl <| RT.leave hb0 Tryz.func9 rfl (.cons (.tmp rfl) .nil) rfl ?_
   obtain rfl := Option.some.inj h
   exact ⟨hS10.ag, fun w9 hw9 => rfl⟩
  ·skip
   intro J0 hJ152 h
   try dsimp only at h
   refine MX.drawT 37 tb9_5 (by kernel_rfl) (by kernel_rfl) (by kernel_rfl) (fun kt2 kp2 => ?_)
   refine RD.vx 2 4 137438953456 kt2 rfl kp2 (FV.loadN (by kernel_rfl) rfl (hS67.memA .hd)) rfl <| RD.vw 3 12 kt2 rfl kp2 (fun _ => FV.move rfl) rfl <| RD.nu 0 13 kt2 rfl .plain rfl (Does.build (α := Int) (xs := ([(60 : Int), (40 : Int)] : List Int)) (vs := [.int .i64 60, .int .i64 40]) (ds' := [.int .i64 60, .int .i64 40]) rfl hS67 el45 rfl (evs_cons rfl (evs_cons rfl evs_nil)) (by kernel_rfl) rfl) (fun w11 b6 hS13 hT13 => ?_)
   have hc4 := Cells.at_ (cs := [.int .i64 60, .int .i64 40]) (xs := (([(60 : Int), (40 : Int)] : List Int) : List Int)) hS13 L (Cells.cons (cs := [.int .i64 60]) (ds := [.int .i64 40]) rfl (Cells.cons (cs := [.int .i64 40]) (ds := []) rfl (Cells.nil _ _)))
   have hr8 := St.freeze (α := Int) hS13 .hd hc4 hL
   have hS14 := St.delS hS13 .hd
   have hT14 := St.delT hS13 .hd
   have hr9 := Rep.at_ (α := Int) (v := (.slice (some ⟨b6, 0, none⟩) 2 2)) (xs := ([(60 : Int), (40 : Int)] : List Int)) hS14 L hr8
   refine RD.cl 1 15 kt2 rfl .plain body37 rfl (evs_cons rfl evs_nil) (fun w9 hw9 => Calls.gives (wardmotelaw22_is_c n _ w9 (hS14.hL hL hw9) ([(60 : Int), (40 : Int)] : List Int) (Rep.keep0 hr9 hw9)) fun (w8 : World) (u8 : Value) ⟨b0_, hu_, s_⟩ => (⟨b0_, hu_, s_.from hw9⟩ : ∃ b7 : Nat, u8 = Value.func (.func 91) #[] #[.pointer (some ⟨b7, 0, none⟩)] ∧ St w11 w8 [.cells b7 [(.slice (some ⟨b6, 0, none⟩) 2 2)] 45])) rfl (fun w12 vu5 hag5 ⟨b7, hu2, s2⟩ => ?_)
   subst hu2
   have hS15 : St w w12 [.cells b7 [(.slice (some ⟨b6, 0, none⟩) 2 2)] 45, .cells b2 [.int .i64 y1.fGroups, .int .i64 y1.fParties, .int .i64 y1.fLevels, v9] 44] := St.merge hS14 s2
   have hT15 : Tr w11 [.cells b2 [.int .i64 y1.fGroups, .int .i64 y1.fParties, .int .i64 y1.fLevels, v9] 44] w12 [.cells b7 [(.slice (some ⟨b6, 0, none⟩) 2 2)] 45, .cells b2 [.int .i64 y1.fGroups, .int .i64 y1.fParties, .int .i64 y1.fLevels, v9] 44] := Tr.merge hS14 s2
   obtain ⟨y11, hy11, h⟩ := bind_in h
   have hm9 := Rep.mv hr1 (Tr.trans hT4 (Tr.trans hT5 (Tr.trans hT6 (Tr.trans hT7 (Tr.trans hT9 (Tr.trans hT13 (Tr.trans hT14 hT15)))))))
   have hm10 := Rep.mv hr3 (Tr.trans hT5 (Tr.trans hT6 (Tr.trans hT7 (Tr.trans hT9 (Tr.trans hT13 (Tr.trans hT14 hT15))))))
   refine RD.cl 4 31 kt2 rfl .plain body19 rfl (evs_cons rfl (evs_cons rfl (evs_cons rfl evs_nil))) (fun w9 hw9 => balance_Totals_c n _ w9 (hS15.hL hL hw9) y1 (Rep.keep0 hm9 hw9) ([(0 : Int), (0 : Int), (0 : Int), (1 : Int)] : List Int) (Rep.keep0 hm10 hw9) (2 : Int) hy11) rfl (fun w13 vu6 hag6 ⟨v2, hu_, hr10⟩ => ?_)
   subst hu_
   obtain ⟨hS17, hT16⟩ := hS15.agr hag6
   refine RD.vw 5 63 kt2 rfl kp2 (fun _ => FV.extract rfl rfl) rfl <| RD.vw 6 127 kt2 rfl kp2 (fun _ => FV.extract rfl rfl) rfl ?_
   obtain ⟨y12, hy12, h⟩ := bind_in h
   have hm11 := Rep.mv hr9 (Tr.trans hT15 hT16)
   refine RD.callq (i := 7) (m' := 255) (W := 137438953216) (takeC_ok kt2 (by kernel_rfl)) rfl kp2 (v := .bool y12) (fst := []) (cap := [.pointer (some ⟨b7, 0, none⟩)]) .plain body91 rfl (evs_cons rfl (evs_cons rfl evs_nil)) (fun w9 hw9 => wardmotelaw22_is_1_c n _ w9 (hS17.hL0 hL hw9) y11.1 (Rep.keep0 (Rep.dropS hS17 hr10) hw9) y11.2 ([(60 : Int), (40 : Int)] : List Int) (Rep.keep0 (Rep.dropS hS17 hm11) hw9) (fun j9 v9 h9 => hw9.cell0 ((hS17.memA .hd) j9 v9 h9)) hy12) rfl <| RD.vw 8 511 kt2 rfl kp2 (fun _ => FV.move rfl) rfl <| RD.ifb (s := 40) rfl h (fun c6 h => ?_) (fun c6 h => ?_)
   ·skip
    refine RD.val (i := 10) (m' := 1535) (W := 137438951424) (takeC_ok kt2 (by kernel_rfl)) rfl kp2 (.yes rfl rfl) (FV.loadN (by kernel_rfl) rfl (hS17.memA (.tl .hd))) rfl <| RD.cl 9 2047 kt2 rfl (.yes rfl rfl) body21 rfl (evs_cons rfl (evs_cons rfl evs_nil)) (fun w9 hw9 => Calls.gives (wardmotelaw22_part_c n _ w9 (hS17.hL hL hw9) (50 : Int) (1 : Int)) fun (w8 : World) (u8 : Value) ⟨b0_, b1_, hu_, s_⟩ => (⟨b0_, b1_, hu_, s_.from hw9⟩ : ∃ b8 b9 : Nat, u8 = Value.func (.func 72) #[] #[.pointer (some ⟨b8, 0, none⟩), .pointer (some ⟨b9, 0, none⟩)] ∧ St w13 w8 [.cells b8 [.int .i64 50] 3, .cells b9 [.int .i64 1] 3])) rfl (fun w14 vu7 hag7 ⟨b8, b9, hu3, s3⟩ => ?_)
    subst hu3
    have hS18 : St w w14 [.cells b8 [.int .i64 50] 3, .cells b9 [.int .i64 1] 3, .cells b7 [(.slice (some ⟨b6, 0, none⟩) 2 2)] 45, .cells b2 [.int .i64 y1.fGroups, .int .i64 y1.fParties, .int .i64 y1.fLevels, v9] 44] := St.merge hS17 s3
    have hT18 : Tr w13 [.cells b7 [(.slice (some ⟨b6, 0, none⟩) 2 2)] 45, .cells b2 [.int .i64 y1.fGroups, .int .i64 y1.fParties, .int .i64 y1.fLevels, v9] 44] w14 [.cells b8 [.int .i64 50] 3, .cells b9 [.int .i64 1] 3, .cells b7 [(.slice (some ⟨b6, 0, none⟩) 2 2)] 45, .cells b2 [.int .i64 y1.fGroups, .int .i64 y1.fParties, .int .i64 y1.fLevels, v9] 44] := Tr.merge hS17 s3
    obtain ⟨y13, hy13, h⟩ := bind_in h
    have hm12 := Rep.mv hr1 (Tr.trans hT4 (Tr.trans hT5 (Tr.trans hT6 (Tr.trans hT7 (Tr.trans hT9 (Tr.trans hT13 (Tr.trans hT14 (Tr.trans hT15 (Tr.trans hT16 hT18)))))))))
    refine RD.callq (i := 11) (m' := 4095) (W := 137438949376) (takeC_ok kt2 (by kernel_rfl)) rfl kp2 (v := .tuple #[.agg ((cs_TShare y13.1)).toArray, .int .i64 y13.2]) (fst := []) (cap := []) (.yes rfl rfl) body20 rfl (evs_cons rfl (evs_cons rfl evs_nil)) (fun w9 hw9 => balance_Ideal_c n _ w9 (hS18.hL0 hL hw9) y1 (Rep.keep0 (Rep.dropS hS18 hm12) hw9) (2 : Int) hy13) rfl <| RD.vP 12 8191 kt2 rfl kp2 (.yes rfl rfl) (fun _ => FV.extract rfl rfl) rfl <| RD.vP 13 16383 kt2 rfl kp2 (.yes rfl rfl) (fun _ => FV.extract rfl rfl) rfl ?_
    obtain ⟨y14, hy14, h⟩ := bind_in h
    refine RD.callq (i := 14) (m' := 32767) (W := 137438920704) (takeC_ok kt2 (by kernel_rfl)) rfl kp2 (v := .bool y14) (fst := []) (cap := [.pointer (some ⟨b8, 0, none⟩), .pointer (some ⟨b9, 0, none⟩)]) (.yes rfl rfl) body72 rfl (evs_cons rfl (evs_cons rfl evs_nil)) (fun w9 hw9 => wardmotelaw22_part_1_c n _ w9 (hS18.hL0 hL hw9) y13.1 y13.2 (50 : Int) (fun j9 v9 h9 => hw9.cell0 ((hS18.memA .hd) j9 v9 h9)) (1 : Int) (fun j9 v9 h9 => hw9.cell0 ((hS18.memA (.tl .hd)) j9 v9 h9)) hy14) rfl <| RD.vw 15 65535 kt2 rfl kp2 (fun _ => FV.pick_t rfl rfl) rfl <| RD.vw 16 131071 kt2 rfl kp2 (fun _ => FV.move rfl) rfl <| RD.ifb (s := 48) rfl h (fun c7 h => ?_) (fun c7 h => ?_)
    ·skip
     refine RD.vP 17 262143 kt2 rfl kp2 (.yes rfl rfl) (fun _ => FV.move rfl) rfl ?_
     obtain ⟨y15, hy15, h⟩ := bind_in h
     refine RD.callq (i := 18) (m' := 524287) (W := 137438429184) (takeC_ok kt2 (by kernel_rfl)) rfl kp2 (v := .agg ((cs_TShare y15)).toArray) (fst := []) (cap := []) (.yes rfl rfl) body23 rfl (evs_cons rfl (evs_cons rfl evs_nil)) (fun w9 hw9 => wardmotelaw22_of_c n _ w9 (hS18.hL0 hL hw9) (1 : Int) (5 : Int) hy15) rfl ?_
     obtain ⟨y16, hy16, h⟩ := bind_in h
     refine RD.callq (i := 19) (m' := 1048575) (W := 137437904896) (takeC_ok kt2 (by kernel_rfl)) rfl kp2 (v := .agg ((cs_TShare y16)).toArray) (fst := []) (cap := []) (.yes rfl rfl) body23 rfl (evs_cons rfl (evs_cons rfl evs_nil)) (fun w9 hw9 => wardmotelaw22_of_c n _ w9 (hS18.hL0 hL hw9) (-1 : Int) (5 : Int) hy16) rfl <| RD.nu 20 2097151 kt2 rfl (.yes rfl rfl) rfl (Does.build (α := TShare) (xs := ([y15, y16] : List TShare)) (vs := [.agg ((cs_TShare y15)).toArray, .agg ((cs_TShare y16)).toArray]) (ds' := (cs_TShare y15 ++ cs_TShare y16)) rfl hS18 el68 rfl (evs_cons rfl (evs_cons rfl evs_nil)) (by kernel_rfl) rfl) (fun w16 b10 hS19 hT19 => ?_)
     have hc5 := Cells.at_ (cs := (cs_TShare y15 ++ cs_TShare y16)) (xs := (([y15, y16] : List TShare) : List TShare)) hS19 L (Cells.cons (cs := (cs_TShare y15)) (ds := (cs_TShare y16)) (mk_TShare y15.fN y15.fD) (Cells.cons (cs := (cs_TShare y16)) (ds := []) (mk_TShare y16.fN y16.fD) (Cells.nil _ _)))
     obtain ⟨y17, hy17, h⟩ := bind_in h
     have hm13 := Rep.mv hr4 (Tr.trans hT6 (Tr.trans hT7 (Tr.trans hT9 (Tr.trans hT13 (Tr.trans hT14 (Tr.trans hT15 (Tr.trans hT16 (Tr.trans hT18 hT19))))))))
     refine RD.callq (i := 21) (m' := 4194303) (W := 137434759168) (takeC_ok kt2 (by kernel_rfl)) rfl kp2 (v := .bool y17) (fst := []) (cap := []) (.yes rfl rfl) body44 rfl (evs_cons rfl (evs_cons rfl evs_nil)) (fun w9 hw9 => slices_Equal_api_Share_api_Share_c n _ w9 (hS19.hL0 hL hw9) y0.1 (Rep.keep0 (Rep.dropS hS19 hm13) hw9) ([y15, y16] : List TShare) (Rep.keep0 (St.lend (α := TShare) (L := L) hS19 .hd hc5 hL) hw9) hy17) rfl <| RD.vw 22 8388607 kt2 rfl kp2 (fun _ => FV.pick_t rfl rfl) rfl <| RD.vw 23 16777215 kt2 rfl kp2 (fun _ => FV.move rfl) rfl <| RD.ifb (s := 55) rfl h (fun c8 h => ?_) (fun c8 h => ?_)
     ·skip
      refine RD.vP 24 33554431 kt2 rfl kp2 (.yes rfl rfl) (fun _ => FV.move rfl) rfl <| RD.vP 25 67108863 kt2 rfl kp2 (.yes rfl rfl) (fun _ => FV.eql (i := y0.2) (j := 0) rfl rfl) rfl <| RD.vw 26 134217727 kt2 rfl kp2 (fun _ => FV.pick_t rfl rfl) rfl <| RD.vw 27 268435455 kt2 rfl kp2 (fun _ => FV.move rfl) rfl <| RD.ifd (s := 59) rfl h (fun c9 h => ?_) (fun c9 h => ?_)
      ·skip
       refine RD.val (i := 29) (m' := 805306367) (W := 135291469824) (takeC_ok kt2 (by kernel_rfl)) rfl kp2 (.yes rfl rfl) (FV.loadN (by kernel_rfl) rfl (hS19.memA (.tl (.tl (.tl (.tl .hd)))))) rfl <| RD.vP 30 1879048191 kt2 rfl kp2 (.yes rfl rfl) (fun _ => FV.move rfl) rfl <| RD.cl 28 2147483647 kt2 rfl (.yes rfl rfl) body21 rfl (evs_cons rfl (evs_cons rfl evs_nil)) (fun w9 hw9 => Calls.gives (wardmotelaw22_part_c n _ w9 (hS19.hL hL hw9) (2 : Int) (5 : Int)) fun (w8 : World) (u8 : Value) ⟨b0_, b1_, hu_, s_⟩ => (⟨b0_, b1_, hu_, s_.from hw9⟩ : ∃ b11 b12 : Nat, u8 = Value.func (.func 72) #[] #[.pointer (some ⟨b11, 0, none⟩), .pointer (some ⟨b12, 0, none⟩)] ∧ St w16 w8 [.cells b11 [.int .i64 2] 3, .cells b12 [.int .i64 5] 3])) rfl (fun w17 vu8 hag8 ⟨b11, b12, hu4, s4⟩ => ?_)
       subst hu4
       have hS20 : St w w17 [.cells b11 [.int .i64 2] 3, .cells b12 [.int .i64 5] 3, .row w.heap.size 37 (Rep.size TShare) (.slice (some ⟨b10, 0, none⟩) 2 2) (([y15, y16] : List TShare).length) (cs_TShare y15 ++ cs_TShare y16), .cells b8 [.int .i64 50] 3, .cells b9 [.int .i64 1] 3, .cells b7 [(.slice (some ⟨b6, 0, none⟩) 2 2)] 45, .cells b2 [.int .i64 y1.fGroups, .int .i64 y1.fParties, .int .i64 y1.fLevels, v9] 44] := St.merge hS19 s4
       have hT20 : Tr w16 [.row w.heap.size 37 (Rep.size TShare) (.slice (some ⟨b10, 0, none⟩) 2 2) (([y15, y16] : List TShare).length) (cs_TShare y15 ++ cs_TShare y16), .cells b8 [.int .i64 50] 3, .cells b9 [.int .i64 1] 3, .cells b7 [(.slice (some ⟨b6, 0, none⟩) 2 2)] 45, .cells b2 [.int .i64 y1.fGroups, .int .i64 y1.fParties, .int .i64 y1.fLevels, v9] 44] w17 [.cells b11 [.int .i64 2] 3, .cells b12 [.int .i64 5] 3, .row w.heap.size 37 (Rep.size TShare) (.slice (some ⟨b10, 0, none⟩) 2 2) (([y15, y16] : List TShare).length) (cs_TShare y15 ++ cs_TShare y16), .cells b8 [.int .i64 50] 3, .cells b9 [.int .i64 1] 3, .cells b7 [(.slice (some ⟨b6, 0, none⟩) 2 2)] 45, .cells b2 [.int .i64 y1.fGroups, .int .i64 y1.fParties, .int .i64 y1.fLevels, v9] 44] := Tr.merge hS19 s4
       obtain ⟨y18, hy18, h⟩ := bind_in h
       have hm14 := Rep.mv hr1 (Tr.trans hT4 (Tr.trans hT5 (Tr.trans hT6 (Tr.trans hT7 (Tr.trans hT9 (Tr.trans hT13 (Tr.trans hT14 (Tr.trans hT15 (Tr.trans hT16 (Tr.trans hT18 (Tr.trans hT19 hT20)))))))))))
       have hm15 := Rep.mv hr3 (Tr.trans hT5 (Tr.trans hT6 (Tr.trans hT7 (Tr.trans hT9 (Tr.trans hT13 (Tr.trans hT14 (Tr.trans hT15 (Tr.trans hT16 (Tr.trans hT18 (Tr.trans hT19 hT20))))))))))
       refine RD.callq (i := 31) (m' := 4294967295) (W := 133143986176) (takeC_ok kt2 (by kernel_rfl)) rfl kp2 (v := .tuple #[.agg ((cs_TShare y18.1)).toArray, .int .i64 y18.2]) (fst := []) (cap := []) (.yes rfl rfl) body33 rfl (evs_cons rfl (evs_cons rfl (evs_cons rfl evs_nil))) (fun w9 hw9 => balance_Spread_c n _ w9 (hS20.hL0 hL hw9) y1 (Rep.keep0 (Rep.dropS hS20 hm14) hw9) ([(0 : Int), (0 : Int), (0 : Int), (1 : Int)] : List Int) (Rep.keep0 (Rep.dropS hS20 hm15) hw9) (2 : Int) hy18) rfl <| RD.vP 32 8589934591 kt2 rfl kp2 (.yes rfl rfl) (fun _ => FV.extract rfl rfl) rfl <| RD.vP 33 17179869183 kt2 rfl kp2 (.yes rfl rfl) (fun _ => FV.extract rfl rfl) rfl ?_
       obtain ⟨y19, hy19, h⟩ := bind_in h
       refine RD.callq (i := 34) (m' := 34359738367) (W := 103079215104) (takeC_ok kt2 (by kernel_rfl)) rfl kp2 (v := .bool y19) (fst := []) (cap := [.pointer (some ⟨b11, 0, none⟩), .pointer (some ⟨b12, 0, none⟩)]) (.yes rfl rfl) body72 rfl (evs_cons rfl (evs_cons rfl evs_nil)) (fun w9 hw9 => wardmotelaw22_part_1_c n _ w9 (hS20.hL0 hL hw9) y18.1 y18.2 (2 : Int) (fun j9 v9 h9 => hw9.cell0 ((hS20.memA .hd) j9 v9 h9)) (5 : Int) (fun j9 v9 h9 => hw9.cell0 ((hS20.memA (.tl .hd)) j9 v9 h9)) hy19) rfl <| RD.vw 35 68719476735 kt2 rfl kp2 (fun _ => FV.pick_t rfl rfl) rfl <| RD.vw 36 137438953471 kt2 rfl kp2 (fun _ => FV.assign rfl) rfl <| RD.done (doneD_ok kt2 (by kernel_rfl)) ?_
       obtain ⟨hS21, hT21⟩ := St.arrB hS20 (.one (.tl (.tl (.tl (.tl (.tl (.tl .hd)))))) .done)
       exact hJ152 y19 _ _ ⟨rfl, rfl, rfl, rfl, rfl, rfl, rfl, trivial⟩ ⟨hS21, (Tr.trans hT13 (Tr.trans hT14 (Tr.trans hT15 (Tr.trans hT16 (Tr.trans hT18 (Tr.trans hT19 (Tr.trans hT20 hT21)))))))⟩ h
      refine RD.offs 34359738367 2 [(28, 60), (29, 61), (30, 62), (31, 63), (32, 64), (33, 65), (34, 66)] (F := [(59, false)]) (U := []) kt2 kp2 (.cons rfl .nil) .nil ?_
      dsimp only [offS, List.map]
      refine RD.vw 35 68719476735 kt2 rfl kp2 (fun _ => FV.pick_f rfl rfl) rfl <| RD.vw 36 137438953471 kt2 rfl kp2 (fun _ => FV.assign rfl) rfl <| RD.done (doneD_ok kt2 (by kernel_rfl)) ?_
      obtain ⟨hS23, hT22⟩ := St.arrB hS19 (.one (.tl (.tl (.tl (.tl .hd)))) .done)
      exact hJ152 false _ _ ⟨rfl, rfl, rfl, rfl, rfl, rfl, rfl, trivial⟩ ⟨hS23, (Tr.trans hT13 (Tr.trans hT14 (Tr.trans hT15 (Tr.trans hT16 (Tr.trans hT18 (Tr.trans hT19 hT22))))))⟩ h
     refine RD.offs 67108863 11 [(24, 56), (25, 57)] (F := [(55, false)]) (U := []) kt2 kp2 (.cons rfl .nil) .nil ?_
     dsimp only [offS, List.map]
     refine RD.vw 26 134217727 kt2 rfl kp2 (fun _ => FV.pick_f rfl rfl) rfl <| RD.vw 27 268435455 kt2 rfl kp2 (fun _ => FV.move rfl) rfl <| RD.offs 34359738367 2 [(28, 60), (29, 61), (30, 62), (31, 63), (32, 64), (33, 65), (34, 66)] (F := [(59, false)]) (U := []) kt2 kp2 (.cons rfl .nil) .nil ?_
     dsimp only [offS, List.map]
     refine RD.vw 35 68719476735 kt2 rfl kp2 (fun _ => FV.pick_f rfl rfl) rfl <| RD.vw 36 137438953471 kt2 rfl kp2 (fun _ => FV.assign rfl) rfl <| RD.done (doneD_ok kt2 (by kernel_rfl)) ?_
     obtain ⟨hS24, hT24⟩ := St.arrB hS19 (.one (.tl (.tl (.tl (.tl .hd)))) .done)
     exact hJ152 false _ _ ⟨rfl, rfl, rfl, rfl, rfl, rfl, rfl, trivial⟩ ⟨hS24, (Tr.trans hT13 (Tr.trans hT14 (Tr.trans hT15 (Tr.trans hT16 (Tr.trans hT18 (Tr.trans hT19 hT24))))))⟩ h
    refine RD.offs 4194303 15 [(17, 49), (18, 50), (19, 51), (20, 52), (21, 53)] (F := [(48, false)]) (U := []) kt2 kp2 (.cons rfl .nil) .nil ?_
    dsimp only [offS, List.map]
    refine RD.vw 22 8388607 kt2 rfl kp2 (fun _ => FV.pick_f rfl rfl) rfl <| RD.vw 23 16777215 kt2 rfl kp2 (fun _ => FV.move rfl) rfl <| RD.offs 67108863 11 [(24, 56), (25, 57)] (F := [(55, false)]) (U := []) kt2 kp2 (.cons rfl .nil) .nil ?_
    dsimp only [offS, List.map]
    refine RD.vw 26 134217727 kt2 rfl kp2 (fun _ => FV.pick_f rfl rfl) rfl <| RD.vw 27 268435455 kt2 rfl kp2 (fun _ => FV.move rfl) rfl <| RD.offs 34359738367 2 [(28, 60), (29, 61), (30, 62), (31, 63), (32, 64), (33, 65), (34, 66)] (F := [(59, false)]) (U := []) kt2 kp2 (.cons rfl .nil) .nil ?_
    dsimp only [offS, List.map]
    refine RD.vw 35 68719476735 kt2 rfl kp2 (fun _ => FV.pick_f rfl rfl) rfl <| RD.vw 36 137438953471 kt2 rfl kp2 (fun _ => FV.assign rfl) rfl <| RD.done (doneD_ok kt2 (by kernel_rfl)) ?_
    obtain ⟨hS25, hT25⟩ := St.arrB hS18 (.one (.tl (.tl (.tl .hd))) .done)
    exact hJ152 false _ _ ⟨rfl, rfl, rfl, rfl, rfl, rfl, rfl, trivial⟩ ⟨hS25, (Tr.trans hT13 (Tr.trans hT14 (Tr.trans hT15 (Tr.trans hT16 (Tr.trans hT18 hT25)))))⟩ h
   refine RD.offs 32767 22 [(9, 41), (10, 42), (11, 43), (12, 44), (13, 45), (14, 46)] (F := [(40, false)]) (U := []) kt2 kp2 (.cons rfl .nil) .nil ?_
   dsimp only [offS, List.map]
   refine RD.vw 15 65535 kt2 rfl kp2 (fun _ => FV.pick_f rfl rfl) rfl <| RD.vw 16 131071 kt2 rfl kp2 (fun _ => FV.move rfl) rfl <| RD.offs 4194303 15 [(17, 49), (18, 50), (19, 51), (20, 52), (21, 53)] (F := [(48, false)]) (U := []) kt2 kp2 (.cons rfl .nil) .nil ?_
   dsimp only [offS, List.map]
   refine RD.vw 22 8388607 kt2 rfl kp2 (fun _ => FV.pick_f rfl rfl) rfl <| RD.vw 23 16777215 kt2 rfl kp2 (fun _ => FV.move rfl) rfl <| RD.offs 67108863 11 [(24, 56), (25, 57)] (F := [(55, false)]) (U := []) kt2 kp2 (.cons rfl .nil) .nil ?_
   dsimp only [offS, List.map]
   refine RD.vw 26 134217727 kt2 rfl kp2 (fun _ => FV.pick_f rfl rfl) rfl <| RD.vw 27 268435455 kt2 rfl kp2 (fun _ => FV.move rfl) rfl <| RD.offs 34359738367 2 [(28, 60), (29, 61), (30, 62), (31, 63), (32, 64), (33, 65), (34, 66)] (F := [(59, false)]) (U := []) kt2 kp2 (.cons rfl .nil) .nil ?_
   dsimp only [offS, List.map]
   refine RD.vw 35 68719476735 kt2 rfl kp2 (fun _ => FV.pick_f rfl rfl) rfl <| RD.vw 36 137438953471 kt2 rfl kp2 (fun _ => FV.assign rfl) rfl <| RD.done (doneD_ok kt2 (by kernel_rfl)) ?_
   obtain ⟨hS27, hT26⟩ := St.arrB hS17 (.one (.tl .hd) .done)
   exact hJ152 false _ _ ⟨rfl, rfl, rfl, rfl, rfl, rfl, rfl, trivial⟩ ⟨hS27, (Tr.trans hT13 (Tr.trans hT14 (Tr.trans hT15 (Tr.trans hT16 hT26))))⟩ h
structure TDraft where
  fN : UInt8
  fParents : List UInt8
  fMore : List (UInt8 × UInt8)
  fLabels : List UInt8
  fK : UInt8
  deriving DecidableEq
instance : Rep TDraft := Rep.via (β := UInt8 × (List UInt8) × (List (UInt8 × UInt8)) × (List UInt8) × UInt8) fun x => (x.fN, x.fParents, x.fMore, x.fLabels, x.fK)
def wardmoteref21_Draft_Units_p (_n : Nat) (a0 : TDraft) : Option Int :=
  some ((1 + ((a0.fN % (9 : UInt8)).toNat) : Nat) : Int)
theorem wardmoteref21_Draft_Units_c (n : Nat) (L : List Nat) (w : World) (_hL : ∀ b ∈ L, b < w.heap.size) (a0 : TDraft) {v0_1 : Value} (h0_1 : Rep.R w L [v0_1] a0.fParents) {v0_2 : Value} (h0_2 : Rep.R w L [v0_2] a0.fMore) {v0_3 : Value} (h0_3 : Rep.R w L [v0_3] a0.fLabels)  {r : Int} (h : wardmoteref21_Draft_Units_p n a0 = some r) :
    Calls Tryz.prog 61 #[.agg #[.int .u8 (a0.fN.toNat : Int), v0_1, v0_2, v0_3, .int .u8 (a0.fK.toNat : Int)]] w (Gives w fun _ u => u = .int .i64 r) := by
  unfold wardmoteref21_Draft_Units_p at h
  have hS0 := St.start w
  refine MX.start Tryz.func61 rfl rfl rfl (fun _ cs0 hb0 => ?_)
  refine MX.sr <| RG.new .plain rfl (Does.box (vs := [.int .u8 (a0.fN.toNat : Int), v0_1, v0_2, v0_3, .int .u8 (a0.fK.toNat : Int)]) hS0 rfl rfl) (fun w2 b5 hS3 hT4 => ?_)
  refine RG.sg rfl rfl <| RG.nil <| MX.sr <| RG.vv (FV.fieldAddr (off := 0) (by kernel_rfl) rfl) rfl <| RG.vv (FV.load1 (by kernel_rfl) rfl ((hS3.memA .hd) 0 _ rfl)) rfl <| RG.vv (FV.rem8 (a := a0.fN) (b := (9 : UInt8)) rfl rfl (by decide)) rfl ?_
  have hu6 := (a0.fN % (9 : UInt8)).toNat_lt
  refine RG.vv (FV.convN (i := (a0.fN % (9 : UInt8)).toNat) Tryz.underlying5 Tryz.underlying3 rfl (by omega)) rfl <| RG.vv (FV.addN (i := 1) (j := (a0.fN % (9 : UInt8)).toNat) rfl rfl (by omega)) rfl <| RG.sg rfl rfl <| RG.nil <| MX.ret rfl <| RT.leave hb0 Tryz.func61 rfl (.cons (.tmp rfl) .nil) rfl ?_
  obtain rfl := Option.some.inj h
  exact ⟨hS3.ag, fun w9 hw9 => rfl⟩
def wardmoteref21_Draft_label_p (_n : Nat) (a0 : TDraft) (a1 : Int) : Option Int :=
  (if a1 < ((a0.fLabels.length : Nat) : Int) then (idx a0.fLabels a1).bind fun x9 => some ((x9.toNat : Nat) : Int) else some (0 : Int))
theorem wardmoteref21_Draft_label_c (n : Nat) (L : List Nat) (w : World) (_hL : ∀ b ∈ L, b < w.heap.size) (a0 : TDraft) {v0_1 : Value} (h0_1 : Rep.R w L [v0_1] a0.fParents) {v0_2 : Value} (h0_2 : Rep.R w L [v0_2] a0.fMore) {v0_3 : Value} (h0_3 : Rep.R w L [v0_3] a0.fLabels) (a1 : Int)  {r : Int} (h : wardmoteref21_Draft_label_p n a0 a1 = some r) :
    Calls Tryz.prog 62 #[.agg #[.int .u8 (a0.fN.toNat : Int), v0_1, v0_2, v0_3, .int .u8 (a0.fK.toNat : Int)], .int .i64 a1] w (Gives w fun _ u => u = .int .i64 r) := by
  unfold wardmoteref21_Draft_label_p at h
  have hS0 := St.start w
  refine MX.start Tryz.func62 rfl rfl rfl (fun _ cs0 hb0 => ?_)
  refine MX.sr <| RG.new .plain rfl (Does.box (vs := [.int .u8 (a0.fN.toNat : Int), v0_1, v0_2, v0_3, .int .u8 (a0.fK.toNat : Int)]) hS0 rfl rfl) (fun w2 b5 hS3 hT4 => ?_)
  refine RG.sg rfl rfl <| RG.nil <| MX.seq <| MX.sr <| RG.mv rfl rfl <| RG.vv (FV.fieldAddr (off := 3) (by kernel_rfl) rfl) rfl ?_
  refine RG.vv (FV.load1 (by kernel_rfl) rfl ((hS3.memA .hd) 3 _ rfl)) rfl ?_
  have hm7 := Rep.mv h0_3 hT4
  have hl6 : a0.fLabels.length ≤ 281474976710656 := Rep.lenle hm7
  refine RG.vv (FV.len (xs := a0.fLabels) Tryz.underlying22 rfl hm7) rfl <| RG.vv (FV.lss (i := a1) (j := ((a0.fLabels.length : Nat) : Int)) rfl rfl) rfl <| RG.nil <| MX.ifd rfl h (fun c8 h => ?_) (fun c8 h => ?_)
  ·skip
   refine MX.sr <| RG.vv (FV.fieldAddr (off := 3) (by kernel_rfl) rfl) rfl <| RG.vv (FV.load1 (by kernel_rfl) rfl ((hS3.memA .hd) 3 _ rfl)) rfl <| RG.mv rfl rfl ?_
   obtain ⟨x9, hx9, h⟩ := bind_in h
   obtain ⟨hi0, hx0⟩ := idx_in hx9
   obtain ⟨A12, c0, he0, hk0, cs1, hr0, hm0⟩ := Rep.nth hm7 hx0
   have he1 : cs1 = [.int .u8 (x9.toNat : Int)] := hr0; subst he1
   refine RG.vv (FV.idxAddr (m := 1) (i := a1.toNat) (by kernel_rfl) rfl he0 rfl hi0 hk0) rfl <| RG.vv (FV.load1 (by kernel_rfl) rfl (hm0 0 _ rfl)) rfl ?_
   have hu0 := x9.toNat_lt
   refine RG.vv (FV.convN (i := x9.toNat) Tryz.underlying5 Tryz.underlying3 rfl (by omega)) rfl <| RG.sg rfl rfl <| RG.nil <| MX.ret rfl <| RT.leave hb0 Tryz.func62 rfl (.cons (.tmp rfl) .nil) rfl ?_
   obtain rfl := Option.some.inj h
   exact ⟨hS3.ag, fun w9 hw9 => rfl⟩
  refine MX.skip <| MX.sr <| RG.sg rfl rfl <| RG.nil <| MX.ret rfl <| RT.leave hb0 Tryz.func62 rfl (.cons (.tmp rfl) .nil) rfl ?_
  obtain rfl := Option.some.inj h
  exact ⟨hS3.ag, fun w9 hw9 => rfl⟩
end Go.Proofs.YtmhgoecnjleagaaGreatDoor
