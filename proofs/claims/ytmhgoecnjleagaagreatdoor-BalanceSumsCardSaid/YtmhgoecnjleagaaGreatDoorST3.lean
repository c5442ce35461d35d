/- Functions of the program, and what they give: part 3. -/
import Derived.Test.YtmhgoecnjleagaaGreatDoorST2
namespace Go.Proofs.YtmhgoecnjleagaaGreatDoor
open Go Go.RowKit
set_option maxRecDepth 4000
set_option maxHeartbeats 4000000

def tb194_7 : List (Nat × Nat × Nat) := [(0, 16777216, 16), (0, 33554432, 128), (0, 67108864, 64), (0, 134217728, 1), (0, 268435456, 128), (24, 536870912, 402653184), (32, 1073741824, 536870912), (0, 2147483648, 2), (128, 4294967296, 2147483648), (256, 8589934592, 4294967296), (580, 17179869184, 9730785280), (1024, 8388608, 17179869184), (2048, 34359738368, 8388608), (2048, 68719476736, 8388608), (8191, 137438953472, 50331648), (24575, 0, 171798691840), (65535, 64, 68719476736)]
def tb194_16 : List (Nat × Nat × Nat) := [(0, 36893488147419103232, 16), (0, 73786976294838206464, 256), (2, 147573952589676412928, 73786976294838206464), (5, 295147905179352825856, 184467440737095516160), (8, 590295810358705651712, 295147905179352825856), (0, 1180591620717411303424, 256), (32, 2361183241434822606848, 1180591620717411303424), (64, 4722366482869645213696, 2361183241434822606848), (144, 9444732965739290427392, 5312662293228350865408), (511, 18889465931478580854784, 184467440737095516160), (1023, 0, 28334198897217871282176)]
theorem body172 : bodyB Tryz.prog 172 = true := by kernel_rfl
theorem body173 : bodyB Tryz.prog 173 = true := by kernel_rfl
theorem body214 : bodyB Tryz.prog 214 = true := by kernel_rfl
theorem body215 : bodyB Tryz.prog 215 = true := by kernel_rfl
theorem body216 : bodyB Tryz.prog 216 = true := by kernel_rfl
def wide_divided_l1 (n : Nat) (a0 : List UInt64) (a1 : List UInt64) (J0 : UInt64 × Int × (List UInt64) → Option (UInt64 × (List UInt64))) : UInt64 × Int × (List UInt64) → Option (UInt64 × (List UInt64))
  | (u0, z0, xs0) => (if 0 ≤ z0 then (idx a0 z0).bind fun x0 => (a1[0]?).bind fun x1 => (math_bits_Div64_p n u0 x0 x1).bind fun y0 => (idx xs0 z0).bind fun x2 => (put xs0 ((z0.toNat : Nat) : Int) y0.1).bind fun xs1 => (chk (z0 - 1)).bind fun s0 => J0 (y0.2, s0, xs1) else some (u0, xs0))
def wide_divided_l2 (n : Nat) (a1 : List UInt64) (J0 : (List UInt64) × Int × (List UInt64) → Option ((List UInt64) × (List UInt64))) : (List UInt64) × Int × (List UInt64) → Option ((List UInt64) × (List UInt64))
  | (xs0, z0, xs1) => (if 0 ≤ z0 then (wide_moved_p n a1 z0).bind fun y0 => (wide_compared_p n xs0 y0).bind fun y1 => jn (fun (xs2, xs3) => (chk (z0 - 1)).bind fun s0 => J0 (xs2, s0, xs3)) (fun J1 => (if 0 ≤ y1 then (wide_taken_p n xs0 y0).bind fun y2 => (wide_trimmed_p n false y2).bind fun y3 => (quoI z0 64).bind fun s1 => (idx xs1 s1).bind fun x0 => (remI z0 64).bind fun s2 => (natOf s2).bind fun k570 => (put xs1 ((s1.toNat : Nat) : Int) (x0 ||| (shlU (1 : UInt64) k570))).bind fun xs4 => J1 (y3.fWords, xs4) else J1 (xs0, xs1))) else some (xs1, xs0))
def wide_divided_p (n : Nat) (a0 : List UInt64) (a1 : List UInt64) : Option ((List UInt64) × (List UInt64)) :=
  (mk ((a0.length : Nat) : Int) (0 : UInt64)).bind fun xs3 => (if a1.length = 1 then Option.bind (loopF (wide_divided_l1 n a0 a1) n ((0 : UInt64), ((a0.length : Nat) : Int) - 1, xs3)) (fun (u0, xs0) => (wide_trimmed_p n false ([u0] : List UInt64)).bind fun y0 => some (xs0, y0.fWords)) else (wide_length_p n a0).bind fun y1 => (wide_length_p n a1).bind fun y2 => (chk (y1 - y2)).bind fun s0 => Option.bind (loopF (wide_divided_l2 n a1) n (a0, s0, xs3)) (fun (xs1, xs2) => some (xs1, xs2)))
theorem wide_divided_c (n : Nat) (L : List Nat) (w : World) (hL : ∀ b ∈ L, b < w.heap.size) (a0 : List UInt64) {v0_0 : Value} (h0_0 : Rep.R w L [v0_0] a0) (a1 : List UInt64) {v1_0 : Value} (h1_0 : Rep.R w L [v1_0] a1)  {r : (List UInt64) × (List UInt64)} (h : wide_divided_p n a0 a1 = some r) :
    Calls Tryz.prog 194 #[v0_0, v1_0] w (Gives w fun w' u => ∃ v0_0 v1_0 : Value, u = .tuple #[v0_0, v1_0] ∧ Rep.R w' L [v0_0] r.1 ∧ Rep.R w' L [v1_0] r.2) := by
  unfold wide_divided_p at h
  have hS0 := St.start w
  refine MX.start Tryz.func194 rfl rfl rfl (fun _ cs0 hb0 => ?_)
  refine MX.sr <| RG.sg rfl rfl <| RG.sg rfl rfl <| RG.nil <| MX.sr <| RG.mv rfl rfl ?_
  have hl1 : a0.length ≤ 281474976710656 := Rep.lenle h0_0
  refine RG.vv (FV.len (xs := a0) Tryz.underlying121 rfl h0_0) rfl ?_
  obtain ⟨xs3, hxs3, h⟩ := bind_in h
  refine RG.new .plain rfl (Does.mk (α := UInt64) hxs3 hS0 el121 rfl) (fun w4 b7 hS5 hT6 => ?_)
  have hc8 := Cells.at_ (cs := (List.replicate ((a0.length : Nat) : Int).toNat [.int .u64 0]).flatten) (xs := xs3) hS5 L (Cells.mk hxs3 rfl)
  refine RG.sg rfl rfl <| RG.nil <| MX.seq <| MX.sr <| RG.mv rfl rfl ?_
  have hm0 := Rep.mv h1_0 hT6
  have hl9 : a1.length ≤ 281474976710656 := Rep.lenle hm0
  refine RG.vv (FV.len (xs := a1) Tryz.underlying121 rfl hm0) rfl <| RG.vv (FV.eqlN (i := a1.length) (j := 1) rfl rfl) rfl <| RG.nil <| MX.ifd rfl h (fun c0 h => ?_) (fun c0 h => ?_)
  ·skip
   refine MX.sr <| RG.sg rfl rfl <| RG.nil <| MX.seq <| MX.sr <| RG.mv rfl rfl ?_
   have hm1 := Rep.mv h0_0 hT6
   refine RG.vv (FV.len (xs := a0) Tryz.underlying121 rfl hm1) rfl <| RG.vv (FV.subI (i := ((a0.length : Nat) : Int)) (j := 1) rfl rfl (by omega)) rfl <| RG.sg rfl rfl <| RG.nil <| MX.block ?_
   obtain ⟨o0, ho130, hh132⟩ := bind_in2 h
   refine MX.loop (α := UInt64 × Int × (List UInt64) × (List Value)) (fun ⟨u0, z0, xs0, cs1⟩ => [(0, v0_0), (1, v1_0), (4, (.slice (some ⟨b7, 0, none⟩) ((a0.length : Nat) : Int).toNat ((a0.length : Nat) : Int).toNat)), (6, .int .u64 (u0.toNat : Int)), (7, .int .i64 z0)]) (fun ⟨u0, z0, xs0, cs1⟩ wx0 => St w wx0 [.row w.heap.size 33 (Rep.size UInt64) (.slice (some ⟨b7, 0, none⟩) ((a0.length : Nat) : Int).toNat ((a0.length : Nat) : Int).toNat) xs0.length cs1] ∧ Tr w4 [.row w.heap.size 33 (Rep.size UInt64) (.slice (some ⟨b7, 0, none⟩) ((a0.length : Nat) : Int).toNat ((a0.length : Nat) : Int).toNat) xs3.length ((List.replicate ((a0.length : Nat) : Int).toNat [.int .u64 0]).flatten)] wx0 [.row w.heap.size 33 (Rep.size UInt64) (.slice (some ⟨b7, 0, none⟩) ((a0.length : Nat) : Int).toNat ((a0.length : Nat) : Int).toNat) xs0.length cs1] ∧ Cells wx0 (bl [.row w.heap.size 33 (Rep.size UInt64) (.slice (some ⟨b7, 0, none⟩) ((a0.length : Nat) : Int).toNat ((a0.length : Nat) : Int).toNat) xs0.length cs1] ++ L) cs1 xs0) (fun ⟨u0, z0, xs0, cs1⟩ => (u0, z0, xs0)) ((0 : UInt64), ((a0.length : Nat) : Int) - 1, xs3, (List.replicate ((a0.length : Nat) : Int).toNat [.int .u64 0]).flatten) ho130 ⟨rfl, rfl, rfl, rfl, rfl, trivial⟩ ⟨hS5, Tr.refl _ _, hc8⟩ ?_
   rintro J0 ⟨u0, z0, xs0, cs1⟩ wx0 hJ134 ⟨hS1, hT0, hc0⟩ h
   unfold wide_divided_l1 at h
   try dsimp only at h
   refine MX.seq <| MX.sr <| RG.mv rfl rfl <| RG.vv (FV.geq (i := z0) (j := 0) rfl rfl) rfl <| RG.nil <| MX.ifd rfl h (fun c1 h => ?_) (fun c1 h => ?_)
   ·skip
    refine MX.skip <| MX.seq <| MX.block <| MX.drawT 15 tb194_7 (by kernel_rfl) (by kernel_rfl) (by kernel_rfl) (fun kt0 kp0 => ?_)
    refine RD.vw 0 1 kt0 rfl kp0 (fun _ => FV.move rfl) rfl <| RD.vw 1 3 kt0 rfl kp0 (fun _ => FV.move rfl) rfl <| RD.vw 2 7 kt0 rfl kp0 (fun _ => FV.move rfl) rfl <| RD.vw 3 15 kt0 rfl kp0 (fun _ => FV.move rfl) rfl <| RD.vw 4 31 kt0 rfl kp0 (fun _ => FV.move rfl) rfl ?_
    obtain ⟨x0, hx0, h⟩ := bind_in h
    obtain ⟨hi0, hx1⟩ := idx_in hx0
    have hm2 := Rep.mv h0_0 (Tr.trans hT6 hT0)
    obtain ⟨A141, c2, he0, hk0, cs2, hr0, hm3⟩ := Rep.nth hm2 hx1
    have he1 : cs2 = [.int .u64 (x0.toNat : Int)] := hr0; subst he1
    refine RD.vw 5 63 kt0 rfl kp0 (fun _ => FV.idxAddr (m := 1) (i := z0.toNat) (by kernel_rfl) rfl he0 rfl hi0 hk0) rfl <| RD.vx 6 127 130048 kt0 rfl kp0 (FV.load1 (by kernel_rfl) rfl (hm3 0 _ rfl)) rfl <| RD.vw 7 255 kt0 rfl kp0 (fun _ => FV.move rfl) rfl ?_
    obtain ⟨x1, hx2, h⟩ := bind_in h
    have hm4 := Rep.mv h1_0 (Tr.trans hT6 hT0)
    obtain ⟨A151, c3, he2, hk1, cs3, hr1, hm5⟩ := Rep.nth hm4 hx2
    have he3 : cs3 = [.int .u64 (x1.toNat : Int)] := hr1; subst he3
    refine RD.vw 8 511 kt0 rfl kp0 (fun _ => FV.idxAddr (m := 1) (i := 0) (by kernel_rfl) rfl he2 rfl rfl hk1) rfl <| RD.vx 9 1023 130048 kt0 rfl kp0 (FV.load1 (by kernel_rfl) rfl (hm5 0 _ rfl)) rfl ?_
    obtain ⟨y0, hy0, h⟩ := bind_in h
    refine RD.cq 10 2047 129024 (.tuple #[.int .u64 (y0.1.toNat : Int), .int .u64 (y0.2.toNat : Int)]) kt0 rfl kp0 body214 rfl (evs_cons rfl (evs_cons rfl (evs_cons rfl evs_nil))) (fun w9 hw9 => math_bits_Div64_c n _ w9 (hS1.hL0 hL hw9) u0 x0 x1 hy0) rfl <| RD.vw 11 4095 kt0 rfl kp0 (fun _ => FV.move rfl) rfl <| RD.vw 12 8191 kt0 rfl kp0 (fun _ => FV.extract rfl rfl) rfl <| RD.vw 13 16383 kt0 rfl kp0 (fun _ => FV.extract rfl rfl) rfl ?_
    obtain ⟨x2, hx3, h⟩ := bind_in h
    obtain ⟨hi1, hx4⟩ := idx_in hx3
    obtain ⟨A164, c4, he4, hk2, cs4, hr2, hm6⟩ := St.nth (α := UInt64) hS1 .hd hc0 hx4
    obtain ⟨b0, c5, he5⟩ := St.nthOwn (α := UInt64) hS1 .hd hk2
    obtain rfl : A164 = ⟨b0, 0, none⟩ := by rw [he5] at he4; cases he4; rfl
    have he6 : cs4 = [.int .u64 (x2.toNat : Int)] := hr2; subst he6
    refine RD.vw 14 32767 kt0 rfl kp0 (fun _ => FV.idxAddr (m := 1) (i := z0.toNat) (by kernel_rfl) rfl he4 rfl hi1 hk2) rfl ?_
    obtain ⟨xs1, hxs175, h⟩ := bind_in h
    refine RD.one (i := 15) (readyD_ok kt0 (by kernel_rfl)) (RO.acts (m' := 65535) (stepC_ok kt0 (by kernel_rfl)) rfl rfl .plain (Acts.set (α := UInt64) (i := z0.toNat) (F := fun cs' => [.row w.heap.size 33 (Rep.size UInt64) (.slice (some ⟨b7, 0, none⟩) ((a0.length : Nat) : Int).toNat ((a0.length : Nat) : Int).toNat) xs1.length cs']) hxs175 hS1 he5 (fun _ => .hd) hc0 rfl rfl rfl rfl rfl (by kernel_rfl)) (fun w0 ⟨cs5, hS2, hT1, hc1⟩ => ?_))
    refine RD.one (i := 16) (readyD_ok kt0 (by kernel_rfl)) (RO.val (m' := 131071) (stepC_ok kt0 (by kernel_rfl)) rfl .plain rfl (FV.assign rfl) ?_)
    refine RD.done (doneD_ok kt0 (by kernel_rfl)) <| MX.inBlock <| MX.region <| RG.mv rfl rfl ?_
    obtain ⟨s0, hs0, h⟩ := bind_in h
    refine RG.vv (FV.subc (i := z0) (j := 1) rfl rfl hs0) rfl <| RG.sg rfl rfl <| RG.nil ?_
    exact hJ134 (y0.2, s0, xs1, cs5) _ _ ⟨rfl, rfl, rfl, rfl, rfl, trivial⟩ ⟨hS2, (Tr.trans hT0 hT1), hc1⟩ h
   refine MX.exit rfl ?_
   have h := hh132 _ h
   try dsimp only at h
   refine MX.sr <| RG.mv rfl rfl <| RG.mv rfl rfl <| RG.new .plain rfl (Does.build (α := UInt64) (xs := ([u0] : List UInt64)) (vs := [.int .u64 (u0.toNat : Int)]) (ds' := [.int .u64 (u0.toNat : Int)]) rfl hS1 el121 rfl (evs_cons rfl evs_nil) (by kernel_rfl) rfl) (fun w1 b1 hS3 hT2 => ?_)
   have hc2 := Cells.at_ (cs := [.int .u64 (u0.toNat : Int)]) (xs := (([u0] : List UInt64) : List UInt64)) hS3 L (Cells.cons (cs := [.int .u64 (u0.toNat : Int)]) (ds := []) rfl (Cells.nil _ _))
   have hr3 := St.freeze (α := UInt64) hS3 .hd hc2 hL
   have hS4 := St.delS hS3 .hd
   have hT3 := St.delT hS3 .hd
   have hr4 := Rep.at_ (α := UInt64) (v := (.slice (some ⟨b1, 0, none⟩) 1 1)) (xs := ([u0] : List UInt64)) hS4 L hr3
   obtain ⟨y1, hy1, h⟩ := bind_in h
   refine RG.call' (fst := []) (cap := []) .plain body169 rfl (evs_cons rfl (evs_cons rfl evs_nil)) (fun w9 hw9 => wide_trimmed_c n _ w9 (hS4.hL hL hw9) false ([u0] : List UInt64) (Rep.keep0 hr4 hw9) hy1) rfl (fun w2 vu0 hag0 ⟨v0, hu_, hr5⟩ => ?_)
   subst hu_
   obtain ⟨hS6, hT4⟩ := hS4.agr hag0
   refine RG.vv (FV.field1 (cs := [.bool y1.fBelow, v0]) (off := 1) (m := 1) (by kernel_rfl) (by kernel_rfl) rfl rfl) rfl <| RG.sg rfl rfl <| RG.sg rfl rfl <| RG.nil <| MX.ret rfl ?_
   have hm7 := Cells.mv hc0 (Tr.trans hT2 (Tr.trans hT3 hT4))
   have hr6 := St.freeze (α := UInt64) hS6 .hd hm7 hL
   have hS7 := St.delS hS6 .hd
   have hT5 := St.delT hS6 .hd
   have hr7 := Rep.at_ (α := UInt64) (v := (.slice (some ⟨b7, 0, none⟩) ((a0.length : Nat) : Int).toNat ((a0.length : Nat) : Int).toNat)) (xs := xs0) hS7 L hr6
   refine RT.leave hb0 Tryz.func194 rfl (.cons (.tmp rfl) (.cons (.tmp rfl) .nil)) rfl ?_
   obtain rfl := Option.some.inj h
   have hm8 := Rep.mv hr5 hT5
   exact ⟨hS7.ag, fun w9 hw9 => ⟨(.slice (some ⟨b7, 0, none⟩) ((a0.length : Nat) : Int).toNat ((a0.length : Nat) : Int).toNat), v0, rfl, Rep.keep0 (Rep.dropS hS7 hr7) hw9, Rep.keep0 (Rep.dropS hS7 hm8) hw9⟩⟩
  refine MX.skip <| MX.sr <| RG.mv rfl rfl <| RG.sg rfl rfl <| RG.nil <| MX.seq ?_
  refine MX.sr <| RG.mv rfl rfl ?_
  obtain ⟨y2, hy2, h⟩ := bind_in h
  have hm9 := Rep.mv h0_0 hT6
  refine RG.cq (.int .i64 y2) body215 rfl (evs_cons rfl evs_nil) (fun w9 hw9 => wide_length_c n _ w9 (hS5.hL0 hL hw9) a0 (Rep.keep0 (Rep.dropS hS5 hm9) hw9) hy2) rfl <| RG.mv rfl rfl ?_
  obtain ⟨y3, hy3, h⟩ := bind_in h
  refine RG.cq (.int .i64 y3) body215 rfl (evs_cons rfl evs_nil) (fun w9 hw9 => wide_length_c n _ w9 (hS5.hL0 hL hw9) a1 (Rep.keep0 (Rep.dropS hS5 hm0) hw9) hy3) rfl ?_
  obtain ⟨s1, hs1, h⟩ := bind_in h
  refine RG.vv (FV.subc (i := y2) (j := y3) rfl rfl hs1) rfl <| RG.sg rfl rfl <| RG.nil <| MX.block ?_
  obtain ⟨o1, ho462, hh464⟩ := bind_in2 h
  refine MX.loop (α := (List UInt64) × Int × (List UInt64) × Value × (List Value)) (fun ⟨xs2, z1, xs4, v1, cs6⟩ => [(1, v1_0), (4, (.slice (some ⟨b7, 0, none⟩) ((a0.length : Nat) : Int).toNat ((a0.length : Nat) : Int).toNat)), (5, v1), (8, .int .i64 z1)]) (fun ⟨xs2, z1, xs4, v1, cs6⟩ wx1 => St w wx1 [.row w.heap.size 33 (Rep.size UInt64) (.slice (some ⟨b7, 0, none⟩) ((a0.length : Nat) : Int).toNat ((a0.length : Nat) : Int).toNat) xs4.length cs6] ∧ Tr w4 [.row w.heap.size 33 (Rep.size UInt64) (.slice (some ⟨b7, 0, none⟩) ((a0.length : Nat) : Int).toNat ((a0.length : Nat) : Int).toNat) xs3.length ((List.replicate ((a0.length : Nat) : Int).toNat [.int .u64 0]).flatten)] wx1 [.row w.heap.size 33 (Rep.size UInt64) (.slice (some ⟨b7, 0, none⟩) ((a0.length : Nat) : Int).toNat ((a0.length : Nat) : Int).toNat) xs4.length cs6] ∧ Rep.R wx1 (bl [.row w.heap.size 33 (Rep.size UInt64) (.slice (some ⟨b7, 0, none⟩) ((a0.length : Nat) : Int).toNat ((a0.length : Nat) : Int).toNat) xs4.length cs6] ++ L) [v1] xs2 ∧ Cells wx1 (bl [.row w.heap.size 33 (Rep.size UInt64) (.slice (some ⟨b7, 0, none⟩) ((a0.length : Nat) : Int).toNat ((a0.length : Nat) : Int).toNat) xs4.length cs6] ++ L) cs6 xs4) (fun ⟨xs2, z1, xs4, v1, cs6⟩ => (xs2, z1, xs4)) (a0, s1, xs3, v0_0, (List.replicate ((a0.length : Nat) : Int).toNat [.int .u64 0]).flatten) ho462 ⟨rfl, rfl, rfl, rfl, trivial⟩ ⟨hS5, Tr.refl _ _, hm9, hc8⟩ ?_
  rintro J1 ⟨xs2, z1, xs4, v1, cs6⟩ wx1 hJ466 ⟨hS8, hT7, hr8, hc3⟩ h
  unfold wide_divided_l2 at h
  try dsimp only at h
  refine MX.seq <| MX.sr <| RG.mv rfl rfl <| RG.vv (FV.geq (i := z1) (j := 0) rfl rfl) rfl <| RG.nil <| MX.ifd rfl h (fun c6 h => ?_) (fun c6 h => ?_)
  ·skip
   refine MX.skip <| MX.seq <| MX.block <| MX.sr <| RG.mv rfl rfl <| RG.mv rfl rfl ?_
   obtain ⟨y4, hy4, h⟩ := bind_in h
   have hm11 := Rep.mv h1_0 (Tr.trans hT6 hT7)
   refine RG.call' (fst := []) (cap := []) .plain body216 rfl (evs_cons rfl (evs_cons rfl evs_nil)) (fun w9 hw9 => wide_moved_c n _ w9 (hS8.hL hL hw9) a1 (Rep.keep0 hm11 hw9) z1 hy4) rfl (fun w3 vu1 hag1 ⟨v2, hu_, hr9⟩ => ?_)
   subst hu_
   obtain ⟨hS9, hT8⟩ := hS8.agr hag1
   refine RG.sg rfl rfl <| RG.nil <| MX.sr <| RG.mv rfl rfl <| RG.mv rfl rfl ?_
   obtain ⟨y5, hy5, h⟩ := bind_in h
   have hm13 := Rep.mv hr8 hT8
   refine RG.cq (.int .i64 y5) body172 rfl (evs_cons rfl (evs_cons rfl evs_nil)) (fun w9 hw9 => wide_compared_c n _ w9 (hS9.hL0 hL hw9) xs2 (Rep.keep0 (Rep.dropS hS9 hm13) hw9) y4 (Rep.keep0 (Rep.dropS hS9 hr9) hw9) hy5) rfl <| RG.vv (FV.geq (i := y5) (j := 0) rfl rfl) rfl <| RG.nil <| MX.join (α := (List UInt64) × (List UInt64) × Value × (List Value)) (fun ⟨xs5, xs6, v3, cs7⟩ => [(1, v1_0), (4, (.slice (some ⟨b7, 0, none⟩) ((a0.length : Nat) : Int).toNat ((a0.length : Nat) : Int).toNat)), (5, v3), (8, .int .i64 z1)]) (fun ⟨xs5, xs6, v3, cs7⟩ wx2 => St w wx2 [.row w.heap.size 33 (Rep.size UInt64) (.slice (some ⟨b7, 0, none⟩) ((a0.length : Nat) : Int).toNat ((a0.length : Nat) : Int).toNat) xs6.length cs7] ∧ Tr w3 [.row w.heap.size 33 (Rep.size UInt64) (.slice (some ⟨b7, 0, none⟩) ((a0.length : Nat) : Int).toNat ((a0.length : Nat) : Int).toNat) xs4.length cs6] wx2 [.row w.heap.size 33 (Rep.size UInt64) (.slice (some ⟨b7, 0, none⟩) ((a0.length : Nat) : Int).toNat ((a0.length : Nat) : Int).toNat) xs6.length cs7] ∧ Rep.R wx2 (bl [.row w.heap.size 33 (Rep.size UInt64) (.slice (some ⟨b7, 0, none⟩) ((a0.length : Nat) : Int).toNat ((a0.length : Nat) : Int).toNat) xs6.length cs7] ++ L) [v3] xs5 ∧ Cells wx2 (bl [.row w.heap.size 33 (Rep.size UInt64) (.slice (some ⟨b7, 0, none⟩) ((a0.length : Nat) : Int).toNat ((a0.length : Nat) : Int).toNat) xs6.length cs7] ++ L) cs7 xs6) (fun ⟨xs5, xs6, v3, cs7⟩ => (xs5, xs6)) h ?_ ?_
   ·skip
    rintro ⟨xs5, xs6, v3, cs7⟩ wx2 ⟨hS10, hT9, hr10, hc4⟩ h
    try dsimp only at h
    refine MX.inBlock <| MX.region <| RG.mv rfl rfl ?_
    obtain ⟨s2, hs2, h⟩ := bind_in h
    refine RG.vv (FV.subc (i := z1) (j := 1) rfl rfl hs2) rfl <| RG.sg rfl rfl <| RG.nil ?_
    exact hJ466 (xs5, s2, xs6, v3, cs7) _ _ ⟨rfl, rfl, rfl, rfl, trivial⟩ ⟨hS10, (Tr.trans hT7 (Tr.trans hT8 hT9)), hr10, hc4⟩ h
   ·skip
    intro J2 hJ532 h
    try dsimp only at h
    refine MX.ifd rfl h (fun c7 h => ?_) (fun c7 h => ?_)
    ·skip
     refine MX.sr <| RG.mv rfl rfl <| RG.mv rfl rfl ?_
     obtain ⟨y6, hy6, h⟩ := bind_in h
     refine RG.call' (fst := []) (cap := []) .plain body173 rfl (evs_cons rfl (evs_cons rfl evs_nil)) (fun w9 hw9 => wide_taken_c n _ w9 (hS9.hL hL hw9) xs2 (Rep.keep0 hm13 hw9) y4 (Rep.keep0 hr9 hw9) hy6) rfl (fun w5 vu2 hag2 ⟨v4, hu_, hr11⟩ => ?_)
     subst hu_
     obtain ⟨hS11, hT10⟩ := hS9.agr hag2
     obtain ⟨y7, hy7, h⟩ := bind_in h
     refine RG.call' (fst := []) (cap := []) .plain body169 rfl (evs_cons rfl (evs_cons rfl evs_nil)) (fun w9 hw9 => wide_trimmed_c n _ w9 (hS11.hL hL hw9) false y6 (Rep.keep0 hr11 hw9) hy7) rfl (fun w6 vu3 hag3 ⟨v5, hu_, hr12⟩ => ?_)
     subst hu_
     obtain ⟨hS12, hT11⟩ := hS11.agr hag3
     refine RG.vv (FV.field1 (cs := [.bool y7.fBelow, v5]) (off := 1) (m := 1) (by kernel_rfl) (by kernel_rfl) rfl rfl) rfl <| RG.sg rfl rfl <| RG.nil <| MX.drawT 10 tb194_16 (by kernel_rfl) (by kernel_rfl) (by kernel_rfl) (fun kt1 kp1 => ?_)
     refine RD.vw 0 1 kt1 rfl kp1 (fun _ => FV.move rfl) rfl <| RD.vw 1 3 kt1 rfl kp1 (fun _ => FV.move rfl) rfl ?_
     obtain ⟨s3, hs3, h⟩ := bind_in h
     refine RD.vw 2 7 kt1 rfl kp1 (fun _ => FV.quoc (i := z1) (j := 64) rfl rfl hs3) rfl ?_
     obtain ⟨x3, hx5, h⟩ := bind_in h
     obtain ⟨hi2, hx6⟩ := idx_in hx5
     have hm14 := Cells.mv hc3 (Tr.trans hT8 (Tr.trans hT10 hT11))
     obtain ⟨A557, c8, he7, hk3, cs8, hr13, hm15⟩ := St.nth (α := UInt64) hS12 .hd hm14 hx6
     obtain ⟨b2, c9, he8⟩ := St.nthOwn (α := UInt64) hS12 .hd hk3
     obtain rfl : A557 = ⟨b2, 0, none⟩ := by rw [he8] at he7; cases he7; rfl
     have he9 : cs8 = [.int .u64 (x3.toNat : Int)] := hr13; subst he9
     refine RD.vw 3 15 kt1 rfl kp1 (fun _ => FV.idxAddr (m := 1) (i := s3.toNat) (by kernel_rfl) rfl he7 rfl hi2 hk3) rfl <| RD.vx 4 31 1792 kt1 rfl kp1 (FV.load1 (by kernel_rfl) rfl (hm15 0 _ rfl)) rfl <| RD.vw 5 63 kt1 rfl kp1 (fun _ => FV.move rfl) rfl ?_
     obtain ⟨s4, hs4, h⟩ := bind_in h
     refine RD.vw 6 127 kt1 rfl kp1 (fun _ => FV.remc (i := z1) (j := 64) rfl rfl hs4) rfl ?_
     obtain ⟨k570, hk4, h⟩ := bind_in h
     refine RD.vw 7 255 kt1 rfl kp1 (fun _ => FV.shlI (a := (1 : UInt64)) (i := s4) rfl rfl hk4) rfl <| RD.vw 8 511 kt1 rfl kp1 (fun _ => FV.orU (a := x3) (b := shlU (1 : UInt64) k570) rfl rfl) rfl <| RD.vw 9 1023 kt1 rfl kp1 (fun _ => FV.idxAddr (m := 1) (i := s3.toNat) (by kernel_rfl) rfl he7 rfl hi2 hk3) rfl ?_
     obtain ⟨xs7, hxs571, h⟩ := bind_in h
     refine RD.one (i := 10) (readyD_ok kt1 (by kernel_rfl)) (RO.acts (m' := 2047) (stepC_ok kt1 (by kernel_rfl)) rfl rfl .plain (Acts.set (α := UInt64) (i := s3.toNat) (F := fun cs' => [.row w.heap.size 33 (Rep.size UInt64) (.slice (some ⟨b7, 0, none⟩) ((a0.length : Nat) : Int).toNat ((a0.length : Nat) : Int).toNat) xs7.length cs']) hxs571 hS12 he8 (fun _ => .hd) hm14 rfl rfl rfl rfl rfl (by kernel_rfl)) (fun w7 ⟨cs9, hS13, hT12, hc5⟩ => ?_))
     refine RD.done (doneD_ok kt1 (by kernel_rfl)) ?_
     have hm16 := Rep.mv hr12 hT12
     exact hJ532 (y7.fWords, xs7, v5, cs9) _ _ ⟨rfl, rfl, rfl, rfl, trivial⟩ ⟨hS13, (Tr.trans hT10 (Tr.trans hT11 hT12)), hm16, hc5⟩ h
    refine MX.skip ?_
    have hm17 := Cells.mv hc3 hT8
    exact hJ532 (xs2, xs4, v1, cs6) _ _ ⟨rfl, rfl, rfl, rfl, trivial⟩ ⟨hS9, Tr.refl _ _, hm13, hm17⟩ h
  refine MX.exit rfl ?_
  have h := hh464 _ h
  try dsimp only at h
  refine MX.sr <| RG.mv rfl rfl <| RG.mv rfl rfl <| RG.sg rfl rfl <| RG.sg rfl rfl <| RG.nil ?_
  refine MX.ret rfl ?_
  have hr14 := St.freeze (α := UInt64) hS8 .hd hc3 hL
  have hS14 := St.delS hS8 .hd
  have hT13 := St.delT hS8 .hd
  have hr15 := Rep.at_ (α := UInt64) (v := (.slice (some ⟨b7, 0, none⟩) ((a0.length : Nat) : Int).toNat ((a0.length : Nat) : Int).toNat)) (xs := xs4) hS14 L hr14
  refine RT.leave hb0 Tryz.func194 rfl (.cons (.tmp rfl) (.cons (.tmp rfl) .nil)) rfl ?_
  obtain rfl := Option.some.inj h
  have hm18 := Rep.mv hr8 hT13
  exact ⟨hS14.ag, fun w9 hw9 => ⟨(.slice (some ⟨b7, 0, none⟩) ((a0.length : Nat) : Int).toNat ((a0.length : Nat) : Int).toNat), v1, rfl, Rep.keep0 (Rep.dropS hS14 hr15) hw9, Rep.keep0 (Rep.dropS hS14 hm18) hw9⟩⟩
def tb167_1 : List (Nat × Nat × Nat) := [(0, 512, 4), (1, 1024, 512), (0, 2048, 8), (4, 4096, 2048), (3, 32, 1024), (31, 64, 4096)]
theorem body194 : bodyB Tryz.prog 194 = true := by kernel_rfl
def wide_Long_Common_l1 (n : Nat) (J0 : (List UInt64) × (List UInt64) → Option (List UInt64)) : (List UInt64) × (List UInt64) → Option (List UInt64)
  | (xs0, xs1) => (if 0 < xs1.length then (wide_divided_p n xs0 xs1).bind fun y0 => J0 (xs1, y0.2) else some xs0)
def wide_Long_Common_p (n : Nat) (a0 : TLong) (a1 : TLong) : Option TLong :=
  Option.bind (loopF (wide_Long_Common_l1 n) n (a0.fWords, a1.fWords)) (fun xs0 => some (⟨false, xs0⟩ : TLong))
theorem wide_Long_Common_c (n : Nat) (L : List Nat) (w : World) (hL : ∀ b ∈ L, b < w.heap.size) (a0 : TLong) {v0_1 : Value} (h0_1 : Rep.R w L [v0_1] a0.fWords) (a1 : TLong) {v1_1 : Value} (h1_1 : Rep.R w L [v1_1] a1.fWords)  {r : TLong} (h : wide_Long_Common_p n a0 a1 = some r) :
    Calls Tryz.prog 167 #[.agg #[.bool a0.fBelow, v0_1], .agg #[.bool a1.fBelow, v1_1]] w (Gives w fun w' u => ∃ v0_1 : Value, u = .agg #[.bool r.fBelow, v0_1] ∧ Rep.R w' L [v0_1] r.fWords) := by
  unfold wide_Long_Common_p at h
  have hS0 := St.start w
  refine MX.start Tryz.func167 rfl rfl rfl (fun _ cs0 hb0 => ?_)
  refine MX.sr <| RG.new .plain rfl (Does.box (vs := [.bool a0.fBelow, v0_1]) hS0 rfl rfl) (fun w2 b5 hS3 hT4 => ?_)
  refine RG.new .plain rfl (Does.box (vs := [.bool a1.fBelow, v1_1]) hS3 rfl rfl) (fun w7 b0 hS8 hT9 => ?_)
  refine RG.new .plain rfl (Does.alloc (zs := [.bool false, .slice none 0 0]) hS8 (zB (by kernel_rfl))) (fun w0 b1 hS1 hT0 => ?_)
  refine RG.nil <| MX.seq <| MX.drawT 6 tb167_1 (by kernel_rfl) (by kernel_rfl) (by kernel_rfl) (fun kt0 kp0 => ?_)
  refine RD.vw 0 1 kt0 rfl kp0 (fun _ => FV.fieldAddr (off := 1) (by kernel_rfl) rfl) rfl <| RD.vx 1 3 48 kt0 rfl kp0 (FV.load1 (by kernel_rfl) rfl ((hS1.memA (.tl (.tl .hd))) 1 _ rfl)) rfl <| RD.vw 2 7 kt0 rfl kp0 (fun _ => FV.fieldAddr (off := 1) (by kernel_rfl) rfl) rfl <| RD.vx 3 15 32 kt0 rfl kp0 (FV.load1 (by kernel_rfl) rfl ((hS1.memA (.tl .hd)) 1 _ rfl)) rfl <| RD.vw 4 31 kt0 rfl kp0 (fun _ => FV.assign rfl) rfl <| RD.vw 5 63 kt0 rfl kp0 (fun _ => FV.assign rfl) rfl ?_
  refine RD.done (doneD_ok kt0 (by kernel_rfl)) <| MX.seq <| MX.block ?_
  obtain ⟨hS2, hT1⟩ := St.arrB hS1 (.one .hd .done)
  have hm0 := Rep.mv h0_1 (Tr.trans hT4 (Tr.trans hT9 (Tr.trans hT0 hT1)))
  have hm1 := Rep.mv h1_1 (Tr.trans hT4 (Tr.trans hT9 (Tr.trans hT0 hT1)))
  obtain ⟨o0, ho53, hh55⟩ := bind_in2 h
  refine MX.loop (α := (List UInt64) × (List UInt64) × Value × Value) (fun ⟨xs0, xs1, v0, v1⟩ => [(4, .pointer (some ⟨b1, 0, none⟩)), (5, v0), (6, v1)]) (fun ⟨xs0, xs1, v0, v1⟩ wx0 => St w wx0 [.cells b1 [.bool false, .slice none 0 0] 123] ∧ Tr w0 [.cells b1 [.bool false, .slice none 0 0] 123] wx0 [.cells b1 [.bool false, .slice none 0 0] 123] ∧ Rep.R wx0 (bl [.cells b1 [.bool false, .slice none 0 0] 123] ++ L) [v0] xs0 ∧ Rep.R wx0 (bl [.cells b1 [.bool false, .slice none 0 0] 123] ++ L) [v1] xs1) (fun ⟨xs0, xs1, v0, v1⟩ => (xs0, xs1)) (a0.fWords, a1.fWords, v0_1, v1_1) ho53 ⟨rfl, rfl, rfl, trivial⟩ ⟨hS2, Tr.refl _ _, hm0, hm1⟩ ?_
  rintro J0 ⟨xs0, xs1, v0, v1⟩ wx0 hJ57 ⟨hS4, hT2, hr0, hr1⟩ h
  unfold wide_Long_Common_l1 at h
  try dsimp only at h
  refine MX.seq <| MX.sr <| RG.mv rfl rfl ?_
  have hl58 : xs1.length ≤ 281474976710656 := Rep.lenle hr1
  refine RG.vv (FV.len (xs := xs1) Tryz.underlying121 rfl hr1) rfl <| RG.vv (FV.gtrN (i := xs1.length) (j := 0) rfl rfl) rfl <| RG.nil <| MX.ifd rfl h (fun c0 h => ?_) (fun c0 h => ?_)
  ·skip
   refine MX.skip <| MX.block <| MX.sr <| RG.mv rfl rfl <| RG.mv rfl rfl ?_
   obtain ⟨y0, hy0, h⟩ := bind_in h
   refine RG.call' (fst := []) (cap := []) .plain body194 rfl (evs_cons rfl (evs_cons rfl evs_nil)) (fun w9 hw9 => wide_divided_c n _ w9 (hS4.hL hL hw9) xs0 (Rep.keep0 hr0 hw9) xs1 (Rep.keep0 hr1 hw9) hy0) rfl (fun w1 vu0 hag0 ⟨v2, v3, hu_, hr2, hr3⟩ => ?_)
   subst hu_
   obtain ⟨hS5, hT3⟩ := hS4.agr hag0
   refine RG.mv rfl rfl <| RG.vv (FV.extract rfl rfl) rfl <| RG.vv (FV.extract rfl rfl) rfl <| RG.sg rfl rfl <| RG.sg rfl rfl <| RG.nil ?_
   refine MX.region <| RG.mv rfl rfl <| RG.mv rfl rfl <| RG.sg rfl rfl <| RG.sg rfl rfl <| RG.nil ?_
   refine MX.inBlock ?_
   have hm2 := Rep.mv hr1 hT3
   exact hJ57 (xs1, y0.2, v1, v3) _ _ ⟨rfl, rfl, rfl, trivial⟩ ⟨hS5, (Tr.trans hT2 hT3), hm2, hr3⟩ h
  refine MX.exit rfl ?_
  have h := hh55 _ h
  try dsimp only at h
  refine MX.sr <| RG.mv rfl rfl ?_
  obtain ⟨A71, c1, hv73, _⟩ := Rep.sl hr0
  refine RG.vv (FV.buildV (vs := [v0]) (u := .agg #[.bool false, v0]) (evs_cons rfl evs_nil) (fun w9 => by rw [hv73]; try kernel_rfl)) rfl <| RG.now .plain (Acts.storeAll (news := [.bool false, v0]) hS4 .hd rfl rfl rfl rfl rfl rfl (ones_cons rfl (ones_cons (Rep.o1 hr0) ones_nil))) (fun w3 hS6 hT5 => ?_)
  refine RG.nil <| MX.ret rfl <| RT.leave hb0 Tryz.func167 rfl (.cons (.many (cs := [.bool false, v0]) (by kernel_rfl) rfl (hS6.memA .hd)) .nil) rfl ?_
  obtain rfl := Option.some.inj h
  have hm3 := Rep.mv hr0 hT5
  exact ⟨hS6.ag, fun w9 hw9 => ⟨v0, rfl, Rep.keep0 (Rep.dropS hS6 hm3) hw9⟩⟩
def wide_added_l1 (_n : Nat) (xs4 : List UInt64) (xs7 : List UInt64) (J0 : UInt64 × Nat × (List UInt64) → Option ((List UInt64) × UInt64)) : UInt64 × Nat × (List UInt64) → Option ((List UInt64) × UInt64)
  | (u0, i0, xs0) => (if i0 < xs4.length then (xs4[i0]?).bind fun x0 => jn (fun u1 => (add64 x0 u1 u0).bind fun z0 => (xs0[i0]?).bind fun x1 => (put xs0 ((i0 : Nat) : Int) z0.1).bind fun xs1 => J0 (z0.2, i0 + 1, xs1)) (fun J1 => (if i0 < xs7.length then (xs7[i0]?).bind fun x2 => J1 x2 else J1 (0 : UInt64))) else some (xs0, u0))
def wide_added_p (n : Nat) (a0 : List UInt64) (a1 : List UInt64) : Option (List UInt64) :=
  jn (fun (xs4, xs7) => (mk ((xs4.length + 1 : Nat) : Int) (0 : UInt64)).bind fun xs0 => Option.bind (loopF (wide_added_l1 n xs4 xs7) n ((0 : UInt64), 0, xs0)) (fun (xs1, u0) => (xs1[xs4.length]?).bind fun x0 => (put xs1 ((xs4.length : Nat) : Int) u0).bind fun xs2 => some xs2)) (fun J0 => (if a0.length < a1.length then J0 (a1, a0) else J0 (a0, a1)))
theorem wide_added_c (n : Nat) (L : List Nat) (w : World) (hL : ∀ b ∈ L, b < w.heap.size) (a0 : List UInt64) {v0_0 : Value} (h0_0 : Rep.R w L [v0_0] a0) (a1 : List UInt64) {v1_0 : Value} (h1_0 : Rep.R w L [v1_0] a1)  {r : List UInt64} (h : wide_added_p n a0 a1 = some r) :
    Calls Tryz.prog 171 #[v0_0, v1_0] w (Gives w fun w' u => ∃ v0_0 : Value, u = v0_0 ∧ Rep.R w' L [v0_0] r) := by
  unfold wide_added_p at h
  have hS0 := St.start w
  refine MX.start Tryz.func171 rfl rfl rfl (fun _ cs0 hb0 => ?_)
  refine MX.sr <| RG.sg rfl rfl <| RG.nil <| MX.seq <| MX.sr <| RG.mv rfl rfl ?_
  have hl1 : a0.length ≤ 281474976710656 := Rep.lenle h0_0
  refine RG.vv (FV.len (xs := a0) Tryz.underlying121 rfl h0_0) rfl <| RG.mv rfl rfl ?_
  have hl2 : a1.length ≤ 281474976710656 := Rep.lenle h1_0
  refine RG.vv (FV.len (xs := a1) Tryz.underlying121 rfl h1_0) rfl <| RG.vv (FV.lssN (i := a0.length) (j := a1.length) rfl rfl) rfl <| RG.nil <| MX.join (α := (List UInt64) × (List UInt64) × Value × Value) (fun ⟨xs4, xs7, v5, v8⟩ => [(0, v5), (1, v8)]) (fun ⟨xs4, xs7, v5, v8⟩ wx9 => St w wx9 [] ∧ Tr w [] wx9 [] ∧ Rep.R wx9 (bl [] ++ L) [v5] xs4 ∧ Rep.R wx9 (bl [] ++ L) [v8] xs7) (fun ⟨xs4, xs7, v5, v8⟩ => (xs4, xs7)) h ?_ ?_
  ·skip
   rintro ⟨xs4, xs7, v5, v8⟩ wx9 ⟨hS1, hT0, hr6, hr9⟩ h
   try dsimp only at h
   refine MX.sr <| RG.mv rfl rfl ?_
   have hl15 : xs4.length ≤ 281474976710656 := Rep.lenle hr6
   refine RG.vv (FV.len (xs := xs4) Tryz.underlying121 rfl hr6) rfl <| RG.vv (FV.addN (i := xs4.length) (j := 1) rfl rfl (by omega)) rfl ?_
   obtain ⟨xs0, hxs17, h⟩ := bind_in h
   refine RG.new .plain rfl (Does.mk (α := UInt64) hxs17 hS1 el121 rfl) (fun w0 b0 hS2 hT1 => ?_)
   have hc0 := Cells.at_ (cs := (List.replicate ((xs4.length + 1 : Nat) : Int).toNat [.int .u64 0]).flatten) (xs := xs0) hS2 L (Cells.mk hxs17 rfl)
   refine RG.sg rfl rfl <| RG.nil <| MX.sr <| RG.sg rfl rfl <| RG.nil <| MX.seq ?_
   refine MX.sr <| RG.mv rfl rfl ?_
   have hm0 := Rep.mv hr6 hT1
   refine RG.vv (FV.len (xs := xs4) Tryz.underlying121 rfl hm0) rfl <| RG.mv rfl rfl <| RG.nil <| MX.block ?_
   obtain ⟨o0, ho164, hh166⟩ := bind_in2 h
   refine MX.loop (α := UInt64 × Nat × (List UInt64) × (List Value)) (fun ⟨u0, i0, xs1, cs1⟩ => [(0, v5), (1, v8), (5, (.slice (some ⟨b0, 0, none⟩) ((xs4.length + 1 : Nat) : Int).toNat ((xs4.length + 1 : Nat) : Int).toNat)), (6, .int .u64 (u0.toNat : Int)), (21, v5), (22, .int .i64 ((xs4.length : Nat) : Int)), (23, .int .i64 ((i0 : Nat) : Int))]) (fun ⟨u0, i0, xs1, cs1⟩ wx0 => St w wx0 [.row w.heap.size 33 (Rep.size UInt64) (.slice (some ⟨b0, 0, none⟩) ((xs4.length + 1 : Nat) : Int).toNat ((xs4.length + 1 : Nat) : Int).toNat) xs1.length cs1] ∧ Tr w0 [.row w.heap.size 33 (Rep.size UInt64) (.slice (some ⟨b0, 0, none⟩) ((xs4.length + 1 : Nat) : Int).toNat ((xs4.length + 1 : Nat) : Int).toNat) xs0.length ((List.replicate ((xs4.length + 1 : Nat) : Int).toNat [.int .u64 0]).flatten)] wx0 [.row w.heap.size 33 (Rep.size UInt64) (.slice (some ⟨b0, 0, none⟩) ((xs4.length + 1 : Nat) : Int).toNat ((xs4.length + 1 : Nat) : Int).toNat) xs1.length cs1] ∧ Cells wx0 (bl [.row w.heap.size 33 (Rep.size UInt64) (.slice (some ⟨b0, 0, none⟩) ((xs4.length + 1 : Nat) : Int).toNat ((xs4.length + 1 : Nat) : Int).toNat) xs1.length cs1] ++ L) cs1 xs1) (fun ⟨u0, i0, xs1, cs1⟩ => (u0, i0, xs1)) ((0 : UInt64), 0, xs0, (List.replicate ((xs4.length + 1 : Nat) : Int).toNat [.int .u64 0]).flatten) ho164 ⟨rfl, rfl, rfl, rfl, rfl, rfl, rfl, trivial⟩ ⟨hS2, Tr.refl _ _, hc0⟩ ?_
   rintro J0 ⟨u0, i0, xs1, cs1⟩ wx0 hJ168 ⟨hS3, hT2, hc1⟩ h
   unfold wide_added_l1 at h
   try dsimp only at h
   refine MX.sr <| RG.vv (FV.lssN (i := i0) (j := xs4.length) rfl rfl) rfl <| RG.nil <| MX.seq <| MX.ifd rfl h (fun c0 h => ?_) (fun c0 h => ?_)
   ·skip
    refine MX.skip <| MX.seq <| MX.block <| MX.sr <| RG.mv rfl rfl ?_
    obtain ⟨x0, hx0, h⟩ := bind_in h
    have hm1 := Rep.mv hr6 (Tr.trans hT1 hT2)
    obtain ⟨A171, c1, he0, hk0, cs2, hr0, hm2⟩ := Rep.nth hm1 hx0
    have he1 : cs2 = [.int .u64 (x0.toNat : Int)] := hr0; subst he1
    refine RG.vv (FV.idxAddr (m := 1) (i := i0) (by kernel_rfl) rfl he0 rfl rfl hk0) rfl <| RG.vv (FV.load1 (by kernel_rfl) rfl (hm2 0 _ rfl)) rfl <| RG.sg rfl rfl <| RG.sg rfl rfl <| RG.nil <| MX.sr ?_
    refine RG.sg rfl rfl <| RG.nil <| MX.seq <| MX.sr <| RG.mv rfl rfl <| RG.mv rfl rfl ?_
    have hm3 := Rep.mv hr9 (Tr.trans hT1 hT2)
    have hl180 : xs7.length ≤ 281474976710656 := Rep.lenle hm3
    refine RG.vv (FV.len (xs := xs7) Tryz.underlying121 rfl hm3) rfl <| RG.vv (FV.lssN (i := i0) (j := xs7.length) rfl rfl) rfl <| RG.nil <| MX.join (α := UInt64) (fun u1 => [(0, v5), (1, v8), (5, (.slice (some ⟨b0, 0, none⟩) ((xs4.length + 1 : Nat) : Int).toNat ((xs4.length + 1 : Nat) : Int).toNat)), (6, .int .u64 (u0.toNat : Int)), (21, v5), (22, .int .i64 ((xs4.length : Nat) : Int)), (23, .int .i64 ((i0 : Nat) : Int)), (7, .int .i64 ((i0 : Nat) : Int)), (8, .int .u64 (x0.toNat : Int)), (9, .int .u64 (u1.toNat : Int))]) (fun u1 wx1 => St w wx1 [.row w.heap.size 33 (Rep.size UInt64) (.slice (some ⟨b0, 0, none⟩) ((xs4.length + 1 : Nat) : Int).toNat ((xs4.length + 1 : Nat) : Int).toNat) xs1.length cs1] ∧ Tr wx0 [.row w.heap.size 33 (Rep.size UInt64) (.slice (some ⟨b0, 0, none⟩) ((xs4.length + 1 : Nat) : Int).toNat ((xs4.length + 1 : Nat) : Int).toNat) xs1.length cs1] wx1 [.row w.heap.size 33 (Rep.size UInt64) (.slice (some ⟨b0, 0, none⟩) ((xs4.length + 1 : Nat) : Int).toNat ((xs4.length + 1 : Nat) : Int).toNat) xs1.length cs1]) (fun u1 => u1) h ?_ ?_
    ·skip
     rintro u1 wx1 ⟨hS4, hT3⟩ h
     try dsimp only at h
     refine MX.region <| RG.mv rfl rfl <| RG.mv rfl rfl <| RG.mv rfl rfl <| RG.mv rfl rfl <| RG.mv rfl rfl ?_
     obtain ⟨z0, hz198, h⟩ := bind_in h
     refine RG.vv (FV.add64 (a := x0) (b := u1) (c := u0) Tryz.func196 rfl (by kernel_rfl) (by kernel_rfl) (by kernel_rfl) rfl rfl rfl hz198) rfl <| RG.mv rfl rfl <| RG.vv (FV.extract rfl rfl) rfl <| RG.vv (FV.extract rfl rfl) rfl ?_
     obtain ⟨x1, hx1, h⟩ := bind_in h
     have hm4 := Cells.mv hc1 hT3
     obtain ⟨A200, c2, he2, hk1, cs3, hr1, hm5⟩ := St.nth (α := UInt64) hS4 .hd hm4 hx1
     obtain ⟨b1, c3, he3⟩ := St.nthOwn (α := UInt64) hS4 .hd hk1
     obtain rfl : A200 = ⟨b1, 0, none⟩ := by rw [he3] at he2; cases he2; rfl
     have he4 : cs3 = [.int .u64 (x1.toNat : Int)] := hr1; subst he4
     refine RG.vv (FV.idxAddr (m := 1) (i := i0) (by kernel_rfl) rfl he2 rfl rfl hk1) rfl ?_
     obtain ⟨xs2, hxs212, h⟩ := bind_in h
     refine RG.acts' .plain (Acts.set (α := UInt64) (i := i0) (F := fun cs' => [.row w.heap.size 33 (Rep.size UInt64) (.slice (some ⟨b0, 0, none⟩) ((xs4.length + 1 : Nat) : Int).toNat ((xs4.length + 1 : Nat) : Int).toNat) xs2.length cs']) hxs212 hS4 he3 (fun _ => .hd) hm4 rfl rfl rfl rfl rfl (by kernel_rfl)) (fun w1 ⟨cs4, hS5, hT4, hc2⟩ => ?_)
     refine RG.sg rfl rfl <| RG.nil <| MX.inBlock <| MX.region <| RG.vv (FV.addN (i := i0) (j := 1) rfl rfl (by omega)) rfl <| RG.mv rfl rfl ?_
     refine RG.nil ?_
     exact hJ168 (z0.2, i0 + 1, xs2, cs4) _ _ ⟨rfl, rfl, rfl, rfl, rfl, rfl, rfl, trivial⟩ ⟨hS5, (Tr.trans hT2 (Tr.trans hT3 hT4)), hc2⟩ h
    ·skip
     intro J1 hJ197 h
     try dsimp only at h
     refine MX.ifd rfl h (fun c4 h => ?_) (fun c4 h => ?_)
     ·skip
      refine MX.region <| RG.mv rfl rfl <| RG.mv rfl rfl ?_
      obtain ⟨x2, hx2, h⟩ := bind_in h
      obtain ⟨A220, c5, he5, hk2, cs5, hr2, hm6⟩ := Rep.nth hm3 hx2
      have he6 : cs5 = [.int .u64 (x2.toNat : Int)] := hr2; subst he6
      refine RG.vv (FV.idxAddr (m := 1) (i := i0) (by kernel_rfl) rfl he5 rfl rfl hk2) rfl <| RG.vv (FV.load1 (by kernel_rfl) rfl (hm6 0 _ rfl)) rfl <| RG.sg rfl rfl <| RG.nil ?_
      exact hJ197 x2 _ _ ⟨rfl, rfl, rfl, rfl, rfl, rfl, rfl, rfl, rfl, rfl, trivial⟩ ⟨hS3, Tr.refl _ _⟩ h
     refine MX.skip ?_
     exact hJ197 (0 : UInt64) _ _ ⟨rfl, rfl, rfl, rfl, rfl, rfl, rfl, rfl, rfl, rfl, trivial⟩ ⟨hS3, Tr.refl _ _⟩ h
   refine MX.exit rfl ?_
   have h := hh166 _ h
   try dsimp only at h
   refine MX.sr <| RG.mv rfl rfl <| RG.mv rfl rfl ?_
   have hm7 := Rep.mv hr6 (Tr.trans hT1 hT2)
   refine RG.vv (FV.len (xs := xs4) Tryz.underlying121 rfl hm7) rfl <| RG.mv rfl rfl ?_
   obtain ⟨x3, hx3, h⟩ := bind_in h
   obtain ⟨A230, c6, he7, hk3, cs6, hr3, hm8⟩ := St.nth (α := UInt64) hS3 .hd hc1 hx3
   obtain ⟨b2, c7, he8⟩ := St.nthOwn (α := UInt64) hS3 .hd hk3
   obtain rfl : A230 = ⟨b2, 0, none⟩ := by rw [he8] at he7; cases he7; rfl
   have he9 : cs6 = [.int .u64 (x3.toNat : Int)] := hr3; subst he9
   refine RG.vv (FV.idxAddr (m := 1) (i := xs4.length) (by kernel_rfl) rfl he7 rfl rfl hk3) rfl ?_
   obtain ⟨xs3, hxs241, h⟩ := bind_in h
   refine RG.acts' .plain (Acts.set (α := UInt64) (i := xs4.length) (F := fun cs' => [.row w.heap.size 33 (Rep.size UInt64) (.slice (some ⟨b0, 0, none⟩) ((xs4.length + 1 : Nat) : Int).toNat ((xs4.length + 1 : Nat) : Int).toNat) xs3.length cs']) hxs241 hS3 he8 (fun _ => .hd) hc1 rfl rfl rfl rfl rfl (by kernel_rfl)) (fun w2 ⟨cs7, hS6, hT5, hc3⟩ => ?_)
   refine RG.nil <| MX.sr <| RG.mv rfl rfl <| RG.sg rfl rfl <| RG.nil <| MX.ret rfl ?_
   have hr4 := St.freeze (α := UInt64) hS6 .hd hc3 hL
   have hS7 := St.delS hS6 .hd
   have hT6 := St.delT hS6 .hd
   have hr5 := Rep.at_ (α := UInt64) (v := (.slice (some ⟨b0, 0, none⟩) ((xs4.length + 1 : Nat) : Int).toNat ((xs4.length + 1 : Nat) : Int).toNat)) (xs := xs3) hS7 L hr4
   refine RT.leave hb0 Tryz.func171 rfl (.cons (.tmp rfl) .nil) rfl ?_
   obtain rfl := Option.some.inj h
   exact ⟨hS7.ag, fun w9 hw9 => ⟨(.slice (some ⟨b0, 0, none⟩) ((xs4.length + 1 : Nat) : Int).toNat ((xs4.length + 1 : Nat) : Int).toNat), rfl, Rep.keep0 (Rep.dropS hS7 hr5) hw9⟩⟩
  ·skip
   intro J2 hJ14 h
   try dsimp only at h
   refine MX.ifd rfl h (fun c8 h => ?_) (fun c8 h => ?_)
   ·skip
    refine MX.region <| RG.mv rfl rfl <| RG.mv rfl rfl <| RG.sg rfl rfl <| RG.sg rfl rfl <| RG.nil ?_
    exact hJ14 (a1, a0, v1_0, v0_0) _ _ ⟨rfl, rfl, trivial⟩ ⟨hS0, Tr.refl _ _, h1_0, h0_0⟩ h
   refine MX.skip ?_
   exact hJ14 (a0, a1, v0_0, v1_0) _ _ ⟨rfl, rfl, trivial⟩ ⟨hS0, Tr.refl _ _, h0_0, h1_0⟩ h
def tb133_2 : List (Nat × Nat × Nat) := [(0, 1024, 4), (1, 2048, 1024), (0, 4096, 4), (4, 8192, 4096), (0, 16384, 8), (16, 32768, 16384), (40, 65536, 40960), (66, 131072, 67584), (255, 0, 131088)]
def tb133_5 : List (Nat × Nat × Nat) := [(0, 67108864, 4), (1, 134217728, 67108864), (0, 268435456, 4), (4, 536870912, 268435456), (0, 1073741824, 8), (16, 2147483648, 1073741824), (40, 4294967296, 2684354560), (66, 8589934592, 4429185024), (255, 0, 8589934608)]
theorem body171 : bodyB Tryz.prog 171 = true := by kernel_rfl
def wide_Long_Plus_p (n : Nat) (a0 : TLong) (a1 : TLong) : Option TLong :=
  (if (a0.fBelow == a1.fBelow) = true then (wide_added_p n a0.fWords a1.fWords).bind fun y0 => (wide_trimmed_p n a0.fBelow y0).bind fun y1 => some y1 else (wide_compared_p n a0.fWords a1.fWords).bind fun y2 => jn (fun (q0, xs0, q1, xs1) => (wide_taken_p n xs1 xs0).bind fun y3 => (wide_trimmed_p n q1 y3).bind fun y4 => some y4) (fun J0 => (if y2 < 0 then J0 (a0.fBelow, a0.fWords, a1.fBelow, a1.fWords) else J0 (a1.fBelow, a1.fWords, a0.fBelow, a0.fWords))))
theorem wide_Long_Plus_c (n : Nat) (L : List Nat) (w : World) (hL : ∀ b ∈ L, b < w.heap.size) (a0 : TLong) {v0_1 : Value} (h0_1 : Rep.R w L [v0_1] a0.fWords) (a1 : TLong) {v1_1 : Value} (h1_1 : Rep.R w L [v1_1] a1.fWords)  {r : TLong} (h : wide_Long_Plus_p n a0 a1 = some r) :
    Calls Tryz.prog 133 #[.agg #[.bool a0.fBelow, v0_1], .agg #[.bool a1.fBelow, v1_1]] w (Gives w fun w' u => ∃ v0_1 : Value, u = .agg #[.bool r.fBelow, v0_1] ∧ Rep.R w' L [v0_1] r.fWords) := by
  unfold wide_Long_Plus_p at h
  have hS0 := St.start w
  refine MX.start Tryz.func133 rfl rfl rfl (fun _ cs0 hb0 => ?_)
  refine MX.sr <| RG.new .plain rfl (Does.box (vs := [.bool a0.fBelow, v0_1]) hS0 rfl rfl) (fun w2 b5 hS3 hT4 => ?_)
  refine RG.new .plain rfl (Does.box (vs := [.bool a1.fBelow, v1_1]) hS3 rfl rfl) (fun w7 b0 hS8 hT9 => ?_)
  refine RG.new .plain rfl (Does.alloc (zs := [.bool false, .slice none 0 0]) hS8 (zB (by kernel_rfl))) (fun w0 b1 hS1 hT0 => ?_)
  refine RG.nil <| MX.seq <| MX.sr <| RG.vv (FV.fieldAddr (off := 0) (by kernel_rfl) rfl) rfl <| RG.vv (FV.load1 (by kernel_rfl) rfl ((hS1.memA (.tl (.tl .hd))) 0 _ rfl)) rfl <| RG.vv (FV.fieldAddr (off := 0) (by kernel_rfl) rfl) rfl ?_
  refine RG.vv (FV.load1 (by kernel_rfl) rfl ((hS1.memA (.tl .hd)) 0 _ rfl)) rfl <| RG.vv (FV.eqlB (a := a0.fBelow) (b := a1.fBelow) Tryz.underlying4 rfl rfl) rfl <| RG.nil <| MX.ifb rfl h (fun c0 h => ?_) (fun c0 h => ?_)
  ·skip
   refine MX.seq <| MX.drawT 8 tb133_2 (by kernel_rfl) (by kernel_rfl) (by kernel_rfl) (fun kt0 kp0 => ?_)
   refine RD.vw 0 1 kt0 rfl kp0 (fun _ => FV.fieldAddr (off := 0) (by kernel_rfl) rfl) rfl <| RD.vx 1 3 384 kt0 rfl kp0 (FV.load1 (by kernel_rfl) rfl ((hS1.memA (.tl (.tl .hd))) 0 _ rfl)) rfl <| RD.vw 2 7 kt0 rfl kp0 (fun _ => FV.fieldAddr (off := 1) (by kernel_rfl) rfl) rfl <| RD.vx 3 15 448 kt0 rfl kp0 (FV.load1 (by kernel_rfl) rfl ((hS1.memA (.tl (.tl .hd))) 1 _ rfl)) rfl <| RD.vw 4 31 kt0 rfl kp0 (fun _ => FV.fieldAddr (off := 1) (by kernel_rfl) rfl) rfl <| RD.vx 5 63 448 kt0 rfl kp0 (FV.load1 (by kernel_rfl) rfl ((hS1.memA (.tl .hd)) 1 _ rfl)) rfl ?_
   obtain ⟨y0, hy0, h⟩ := bind_in h
   have hm0 := Rep.mv h0_1 (Tr.trans hT4 (Tr.trans hT9 hT0))
   have hm1 := Rep.mv h1_1 (Tr.trans hT4 (Tr.trans hT9 hT0))
   refine RD.cl 6 127 kt0 rfl .plain body171 rfl (evs_cons rfl (evs_cons rfl evs_nil)) (fun w9 hw9 => wide_added_c n _ w9 (hS1.hL hL hw9) a0.fWords (Rep.keep0 hm0 hw9) a1.fWords (Rep.keep0 hm1 hw9) hy0) rfl (fun w1 vu0 hag0 ⟨v0, hu_, hr0⟩ => ?_)
   subst hu_
   obtain ⟨hS2, hT1⟩ := hS1.agr hag0
   obtain ⟨y1, hy1, h⟩ := bind_in h
   refine RD.cl 7 255 kt0 rfl .plain body169 rfl (evs_cons rfl (evs_cons rfl evs_nil)) (fun w9 hw9 => wide_trimmed_c n _ w9 (hS2.hL hL hw9) a0.fBelow y0 (Rep.keep0 hr0 hw9) hy1) rfl (fun w3 vu1 hag1 ⟨v1, hu_, hr1⟩ => ?_)
   subst hu_
   obtain ⟨hS4, hT2⟩ := hS2.agr hag1
   refine RD.nw 8 511 kt0 rfl rfl .plain (Acts.storeAll (news := [.bool y1.fBelow, v1]) hS4 .hd rfl rfl rfl rfl rfl rfl (ones_cons rfl (ones_cons (Rep.o1 hr1) ones_nil))) (fun w4 hS5 hT3 => ?_)
   refine RD.done (doneD_ok kt0 (by kernel_rfl)) <| MX.ret rfl <| RT.leave hb0 Tryz.func133 rfl (.cons (.many (cs := [.bool y1.fBelow, v1]) (by kernel_rfl) rfl (hS5.memA .hd)) .nil) rfl ?_
   obtain rfl := Option.some.inj h
   have hm2 := Rep.mv hr1 hT3
   exact ⟨hS5.ag, fun w9 hw9 => ⟨v1, rfl, Rep.keep0 (Rep.dropS hS5 hm2) hw9⟩⟩
  refine MX.skip <| MX.seq <| MX.sr <| RG.vv (FV.fieldAddr (off := 1) (by kernel_rfl) rfl) rfl <| RG.vv (FV.load1 (by kernel_rfl) rfl ((hS1.memA (.tl (.tl .hd))) 1 _ rfl)) rfl <| RG.vv (FV.fieldAddr (off := 1) (by kernel_rfl) rfl) rfl ?_
  refine RG.vv (FV.load1 (by kernel_rfl) rfl ((hS1.memA (.tl .hd)) 1 _ rfl)) rfl ?_
  obtain ⟨y2, hy2, h⟩ := bind_in h
  have hm3 := Rep.mv h0_1 (Tr.trans hT4 (Tr.trans hT9 hT0))
  have hm4 := Rep.mv h1_1 (Tr.trans hT4 (Tr.trans hT9 hT0))
  refine RG.cq (.int .i64 y2) body172 rfl (evs_cons rfl (evs_cons rfl evs_nil)) (fun w9 hw9 => wide_compared_c n _ w9 (hS1.hL0 hL hw9) a0.fWords (Rep.keep0 (Rep.dropS hS1 hm3) hw9) a1.fWords (Rep.keep0 (Rep.dropS hS1 hm4) hw9) hy2) rfl <| RG.vv (FV.lss (i := y2) (j := 0) rfl rfl) rfl <| RG.nil <| MX.join (α := Bool × (List UInt64) × Bool × (List UInt64) × Value × Value) (fun ⟨q0, xs0, q1, xs1, v2, v3⟩ => [(2, .pointer (some ⟨b5, 0, none⟩)), (3, .pointer (some ⟨b0, 0, none⟩)), (4, .pointer (some ⟨b1, 0, none⟩))]) (fun ⟨q0, xs0, q1, xs1, v2, v3⟩ wx0 => St w wx0 [.cells b1 [.bool false, .slice none 0 0] 123, .cells b0 [.bool q0, v2] 123, .cells b5 [.bool q1, v3] 123] ∧ Tr w0 [.cells b1 [.bool false, .slice none 0 0] 123, .cells b0 [.bool a1.fBelow, v1_1] 123, .cells b5 [.bool a0.fBelow, v0_1] 123] wx0 [.cells b1 [.bool false, .slice none 0 0] 123, .cells b0 [.bool q0, v2] 123, .cells b5 [.bool q1, v3] 123] ∧ Rep.R wx0 (bl [.cells b1 [.bool false, .slice none 0 0] 123, .cells b0 [.bool q0, v2] 123, .cells b5 [.bool q1, v3] 123] ++ L) [v2] xs0 ∧ Rep.R wx0 (bl [.cells b1 [.bool false, .slice none 0 0] 123, .cells b0 [.bool q0, v2] 123, .cells b5 [.bool q1, v3] 123] ++ L) [v3] xs1) (fun ⟨q0, xs0, q1, xs1, v2, v3⟩ => (q0, xs0, q1, xs1)) h ?_ ?_
  ·skip
   rintro ⟨q0, xs0, q1, xs1, v2, v3⟩ wx0 ⟨hS6, hT5, hr2, hr3⟩ h
   try dsimp only at h
   refine MX.seq <| MX.drawT 8 tb133_5 (by kernel_rfl) (by kernel_rfl) (by kernel_rfl) (fun kt1 kp1 => ?_)
   refine RD.vw 0 1 kt1 rfl kp1 (fun _ => FV.fieldAddr (off := 0) (by kernel_rfl) rfl) rfl <| RD.vx 1 3 384 kt1 rfl kp1 (FV.load1 (by kernel_rfl) rfl ((hS6.memA (.tl (.tl .hd))) 0 _ rfl)) rfl <| RD.vw 2 7 kt1 rfl kp1 (fun _ => FV.fieldAddr (off := 1) (by kernel_rfl) rfl) rfl <| RD.vx 3 15 448 kt1 rfl kp1 (FV.load1 (by kernel_rfl) rfl ((hS6.memA (.tl (.tl .hd))) 1 _ rfl)) rfl <| RD.vw 4 31 kt1 rfl kp1 (fun _ => FV.fieldAddr (off := 1) (by kernel_rfl) rfl) rfl <| RD.vx 5 63 448 kt1 rfl kp1 (FV.load1 (by kernel_rfl) rfl ((hS6.memA (.tl .hd)) 1 _ rfl)) rfl ?_
   obtain ⟨y3, hy3, h⟩ := bind_in h
   refine RD.cl 6 127 kt1 rfl .plain body173 rfl (evs_cons rfl (evs_cons rfl evs_nil)) (fun w9 hw9 => wide_taken_c n _ w9 (hS6.hL hL hw9) xs1 (Rep.keep0 hr3 hw9) xs0 (Rep.keep0 hr2 hw9) hy3) rfl (fun w5 vu2 hag2 ⟨v4, hu_, hr4⟩ => ?_)
   subst hu_
   obtain ⟨hS7, hT6⟩ := hS6.agr hag2
   obtain ⟨y4, hy4, h⟩ := bind_in h
   refine RD.cl 7 255 kt1 rfl .plain body169 rfl (evs_cons rfl (evs_cons rfl evs_nil)) (fun w9 hw9 => wide_trimmed_c n _ w9 (hS7.hL hL hw9) q1 y3 (Rep.keep0 hr4 hw9) hy4) rfl (fun w6 vu3 hag3 ⟨v5, hu_, hr5⟩ => ?_)
   subst hu_
   obtain ⟨hS9, hT7⟩ := hS7.agr hag3
   refine RD.nw 8 511 kt1 rfl rfl .plain (Acts.storeAll (news := [.bool y4.fBelow, v5]) hS9 .hd rfl rfl rfl rfl rfl rfl (ones_cons rfl (ones_cons (Rep.o1 hr5) ones_nil))) (fun w8 hS84 hT8 => ?_)
   refine RD.done (doneD_ok kt1 (by kernel_rfl)) <| MX.ret rfl <| RT.leave hb0 Tryz.func133 rfl (.cons (.many (cs := [.bool y4.fBelow, v5]) (by kernel_rfl) rfl (hS84.memA .hd)) .nil) rfl ?_
   obtain rfl := Option.some.inj h
   have hm5 := Rep.mv hr5 hT8
   exact ⟨hS84.ag, fun w9 hw9 => ⟨v5, rfl, Rep.keep0 (Rep.dropS hS84 hm5) hw9⟩⟩
  ·skip
   intro J0 hJ64 h
   try dsimp only at h
   refine MX.ifd rfl h (fun c1 h => ?_) (fun c1 h => ?_)
   ·skip
    refine MX.region <| RG.vv (FV.loadN (by kernel_rfl) rfl (hS1.memA (.tl .hd))) rfl <| RG.vv (FV.loadN (by kernel_rfl) rfl (hS1.memA (.tl (.tl .hd)))) rfl <| RG.now .plain (Acts.storeAll (news := [.bool a1.fBelow, v1_1]) hS1 (.tl (.tl .hd)) rfl rfl rfl rfl rfl rfl (ones_cons rfl (ones_cons (Rep.o1 hm4) ones_nil))) (fun w88 hS89 hT90 => ?_)
    have hm6 := Rep.mv h0_1 (Tr.trans hT4 (Tr.trans hT9 (Tr.trans hT0 hT90)))
    refine RG.now .plain (Acts.storeAll (news := [.bool a0.fBelow, v0_1]) hS89 (.tl .hd) rfl rfl rfl rfl rfl rfl (ones_cons rfl (ones_cons (Rep.o1 hm6) ones_nil))) (fun w92 hS93 hT94 => ?_)
    refine RG.nil ?_
    have hm7 := Rep.mv h0_1 (Tr.trans hT4 (Tr.trans hT9 (Tr.trans hT0 (Tr.trans hT90 hT94))))
    have hm8 := Rep.mv h1_1 (Tr.trans hT4 (Tr.trans hT9 (Tr.trans hT0 (Tr.trans hT90 hT94))))
    exact hJ64 (a0.fBelow, a0.fWords, a1.fBelow, a1.fWords, v0_1, v1_1) _ _ ⟨rfl, rfl, rfl, trivial⟩ ⟨hS93, (Tr.trans hT90 hT94), hm7, hm8⟩ h
   refine MX.skip ?_
   exact hJ64 (a1.fBelow, a1.fWords, a0.fBelow, a0.fWords, v1_1, v0_1) _ _ ⟨rfl, rfl, rfl, trivial⟩ ⟨hS1, Tr.refl _ _, hm4, hm3⟩ h
def wide_Long_Turned_p (n : Nat) (a0 : TLong) : Option TLong :=
  (wide_trimmed_p n (!a0.fBelow) a0.fWords).bind fun y0 => some y0
theorem wide_Long_Turned_c (n : Nat) (L : List Nat) (w : World) (hL : ∀ b ∈ L, b < w.heap.size) (a0 : TLong) {v0_1 : Value} (h0_1 : Rep.R w L [v0_1] a0.fWords)  {r : TLong} (h : wide_Long_Turned_p n a0 = some r) :
    Calls Tryz.prog 137 #[.agg #[.bool a0.fBelow, v0_1]] w (Gives w fun w' u => ∃ v0_1 : Value, u = .agg #[.bool r.fBelow, v0_1] ∧ Rep.R w' L [v0_1] r.fWords) := by
  unfold wide_Long_Turned_p at h
  have hS0 := St.start w
  refine MX.start Tryz.func137 rfl rfl rfl (fun _ cs0 hb0 => ?_)
  refine MX.sr <| RG.new .plain rfl (Does.box (vs := [.bool a0.fBelow, v0_1]) hS0 rfl rfl) (fun w2 b5 hS3 hT4 => ?_)
  refine RG.new .plain rfl (Does.alloc (zs := [.bool false, .slice none 0 0]) hS3 (zB (by kernel_rfl))) (fun w7 b0 hS8 hT9 => ?_)
  refine RG.nil <| MX.sr <| RG.vv (FV.fieldAddr (off := 0) (by kernel_rfl) rfl) rfl <| RG.vv (FV.load1 (by kernel_rfl) rfl ((hS8.memA (.tl .hd)) 0 _ rfl)) rfl <| RG.vv (FV.not rfl) rfl <| RG.vv (FV.fieldAddr (off := 1) (by kernel_rfl) rfl) rfl ?_
  refine RG.vv (FV.load1 (by kernel_rfl) rfl ((hS8.memA (.tl .hd)) 1 _ rfl)) rfl ?_
  obtain ⟨y0, hy0, h⟩ := bind_in h
  have hm0 := Rep.mv h0_1 (Tr.trans hT4 hT9)
  refine RG.call' (fst := []) (cap := []) .plain body169 rfl (evs_cons rfl (evs_cons rfl evs_nil)) (fun w9 hw9 => wide_trimmed_c n _ w9 (hS8.hL hL hw9) (!a0.fBelow) a0.fWords (Rep.keep0 hm0 hw9) hy0) rfl (fun w0 vu0 hag0 ⟨v0, hu_, hr0⟩ => ?_)
  subst hu_
  obtain ⟨hS1, hT0⟩ := hS8.agr hag0
  refine RG.now .plain (Acts.storeAll (news := [.bool y0.fBelow, v0]) hS1 .hd rfl rfl rfl rfl rfl rfl (ones_cons rfl (ones_cons (Rep.o1 hr0) ones_nil))) (fun w1 hS2 hT1 => ?_)
  refine RG.nil <| MX.ret rfl <| RT.leave hb0 Tryz.func137 rfl (.cons (.many (cs := [.bool y0.fBelow, v0]) (by kernel_rfl) rfl (hS2.memA .hd)) .nil) rfl ?_
  obtain rfl := Option.some.inj h
  have hm1 := Rep.mv hr0 hT1
  exact ⟨hS2.ag, fun w9 hw9 => ⟨v0, rfl, Rep.keep0 (Rep.dropS hS2 hm1) hw9⟩⟩
def tb200_1 : List (Nat × Nat × Nat) := [(0, 32, 4), (0, 64, 8), (2, 128, 64), (5, 256, 160), (15, 0, 272)]
theorem body133 : bodyB Tryz.prog 133 = true := by kernel_rfl
theorem body137 : bodyB Tryz.prog 137 = true := by kernel_rfl
def wide_Long_Minus_p (n : Nat) (a0 : TLong) (a1 : TLong) : Option TLong :=
  (wide_Long_Turned_p n a1).bind fun y0 => (wide_Long_Plus_p n a0 y0).bind fun y1 => some y1
theorem wide_Long_Minus_c (n : Nat) (L : List Nat) (w : World) (hL : ∀ b ∈ L, b < w.heap.size) (a0 : TLong) {v0_1 : Value} (h0_1 : Rep.R w L [v0_1] a0.fWords) (a1 : TLong) {v1_1 : Value} (h1_1 : Rep.R w L [v1_1] a1.fWords)  {r : TLong} (h : wide_Long_Minus_p n a0 a1 = some r) :
    Calls Tryz.prog 200 #[.agg #[.bool a0.fBelow, v0_1], .agg #[.bool a1.fBelow, v1_1]] w (Gives w fun w' u => ∃ v0_1 : Value, u = .agg #[.bool r.fBelow, v0_1] ∧ Rep.R w' L [v0_1] r.fWords) := by
  unfold wide_Long_Minus_p at h
  have hS0 := St.start w
  refine MX.start Tryz.func200 rfl rfl rfl (fun _ cs0 hb0 => ?_)
  refine MX.sr <| RG.new .plain rfl (Does.box (vs := [.bool a0.fBelow, v0_1]) hS0 rfl rfl) (fun w2 b5 hS3 hT4 => ?_)
  refine RG.new .plain rfl (Does.box (vs := [.bool a1.fBelow, v1_1]) hS3 rfl rfl) (fun w7 b0 hS8 hT9 => ?_)
  refine RG.new .plain rfl (Does.alloc (zs := [.bool false, .slice none 0 0]) hS8 (zB (by kernel_rfl))) (fun w0 b1 hS1 hT0 => ?_)
  refine RG.nil <| MX.seq <| MX.drawT 4 tb200_1 (by kernel_rfl) (by kernel_rfl) (by kernel_rfl) (fun kt0 kp0 => ?_)
  refine RD.vx 0 1 24 kt0 rfl kp0 (FV.loadN (by kernel_rfl) rfl (hS1.memA (.tl (.tl .hd)))) rfl <| RD.vx 1 3 28 kt0 rfl kp0 (FV.loadN (by kernel_rfl) rfl (hS1.memA (.tl .hd))) rfl ?_
  obtain ⟨y0, hy0, h⟩ := bind_in h
  have hm0 := Rep.mv h1_1 (Tr.trans hT4 (Tr.trans hT9 hT0))
  refine RD.cl 2 7 kt0 rfl .plain body137 rfl (evs_cons rfl evs_nil) (fun w9 hw9 => wide_Long_Turned_c n _ w9 (hS1.hL hL hw9) a1 (Rep.keep0 hm0 hw9) hy0) rfl (fun w1 vu0 hag0 ⟨v0, hu_, hr0⟩ => ?_)
  subst hu_
  obtain ⟨hS2, hT1⟩ := hS1.agr hag0
  obtain ⟨y1, hy1, h⟩ := bind_in h
  have hm1 := Rep.mv h0_1 (Tr.trans hT4 (Tr.trans hT9 (Tr.trans hT0 hT1)))
  refine RD.cl 3 15 kt0 rfl .plain body133 rfl (evs_cons rfl (evs_cons rfl evs_nil)) (fun w9 hw9 => wide_Long_Plus_c n _ w9 (hS2.hL hL hw9) a0 (Rep.keep0 hm1 hw9) y0 (Rep.keep0 hr0 hw9) hy1) rfl (fun w3 vu1 hag1 ⟨v1, hu_, hr1⟩ => ?_)
  subst hu_
  obtain ⟨hS4, hT2⟩ := hS2.agr hag1
  refine RD.nw 4 31 kt0 rfl rfl .plain (Acts.storeAll (news := [.bool y1.fBelow, v1]) hS4 .hd rfl rfl rfl rfl rfl rfl (ones_cons rfl (ones_cons (Rep.o1 hr1) ones_nil))) (fun w4 hS5 hT3 => ?_)
  refine RD.done (doneD_ok kt0 (by kernel_rfl)) <| MX.ret rfl <| RT.leave hb0 Tryz.func200 rfl (.cons (.many (cs := [.bool y1.fBelow, v1]) (by kernel_rfl) rfl (hS5.memA .hd)) .nil) rfl ?_
  obtain rfl := Option.some.inj h
  have hm2 := Rep.mv hr1 hT3
  exact ⟨hS5.ag, fun w9 hw9 => ⟨v1, rfl, Rep.keep0 (Rep.dropS hS5 hm2) hw9⟩⟩
theorem body144 : bodyB Tryz.prog 144 = true := by kernel_rfl
theorem body200 : bodyB Tryz.prog 200 = true := by kernel_rfl
def wide_Long_Cmp_p (n : Nat) (a0 : TLong) (a1 : TLong) : Option Int :=
  (wide_Long_Minus_p n a0 a1).bind fun y0 => (wide_Long_Side_p n y0).bind fun y1 => some y1
theorem wide_Long_Cmp_c (n : Nat) (L : List Nat) (w : World) (hL : ∀ b ∈ L, b < w.heap.size) (a0 : TLong) {v0_1 : Value} (h0_1 : Rep.R w L [v0_1] a0.fWords) (a1 : TLong) {v1_1 : Value} (h1_1 : Rep.R w L [v1_1] a1.fWords)  {r : Int} (h : wide_Long_Cmp_p n a0 a1 = some r) :
    Calls Tryz.prog 176 #[.agg #[.bool a0.fBelow, v0_1], .agg #[.bool a1.fBelow, v1_1]] w (Gives w fun _ u => u = .int .i64 r) := by
  unfold wide_Long_Cmp_p at h
  have hS0 := St.start w
  refine MX.start Tryz.func176 rfl rfl rfl (fun _ cs0 hb0 => ?_)
  refine MX.sr <| RG.new .plain rfl (Does.box (vs := [.bool a0.fBelow, v0_1]) hS0 rfl rfl) (fun w2 b5 hS3 hT4 => ?_)
  refine RG.new .plain rfl (Does.box (vs := [.bool a1.fBelow, v1_1]) hS3 rfl rfl) (fun w7 b0 hS8 hT9 => ?_)
  refine RG.sg rfl rfl <| RG.nil <| MX.sr <| RG.vv (FV.loadN (by kernel_rfl) rfl (hS8.memA (.tl .hd))) rfl <| RG.vv (FV.loadN (by kernel_rfl) rfl (hS8.memA .hd)) rfl ?_
  obtain ⟨y0, hy0, h⟩ := bind_in h
  have hm0 := Rep.mv h0_1 (Tr.trans hT4 hT9)
  have hm1 := Rep.mv h1_1 (Tr.trans hT4 hT9)
  refine RG.call' (fst := []) (cap := []) .plain body200 rfl (evs_cons rfl (evs_cons rfl evs_nil)) (fun w9 hw9 => wide_Long_Minus_c n _ w9 (hS8.hL hL hw9) a0 (Rep.keep0 hm0 hw9) a1 (Rep.keep0 hm1 hw9) hy0) rfl (fun w0 vu0 hag0 ⟨v0, hu_, hr0⟩ => ?_)
  subst hu_
  obtain ⟨hS1, hT0⟩ := hS8.agr hag0
  obtain ⟨y1, hy1, h⟩ := bind_in h
  refine RG.cq (.int .i64 y1) body144 rfl (evs_cons rfl evs_nil) (fun w9 hw9 => wide_Long_Side_c n _ w9 (hS1.hL0 hL hw9) y0 (Rep.keep0 (Rep.dropS hS1 hr0) hw9) hy1) rfl <| RG.sg rfl rfl <| RG.nil <| MX.ret rfl <| RT.leave hb0 Tryz.func176 rfl (.cons (.tmp rfl) .nil) rfl ?_
  obtain rfl := Option.some.inj h
  exact ⟨hS1.ag, fun w9 hw9 => rfl⟩
def wide_Of_l1 (_n : Nat) (J0 : Nat × UInt64 × UInt64 × UInt64 × UInt64 × UInt64 × UInt64 × UInt64 × UInt64 → Option (UInt64 × UInt64 × UInt64 × UInt64 × UInt64 × UInt64 × UInt64 × UInt64)) : Nat × UInt64 × UInt64 × UInt64 × UInt64 × UInt64 × UInt64 × UInt64 × UInt64 → Option (UInt64 × UInt64 × UInt64 × UInt64 × UInt64 × UInt64 × UInt64 × UInt64)
  | (i0, u0, u1, u2, u3, u4, u5, u6, u7) => (if i0 < 8 then (([u0, u1, u2, u3, u4, u5, u6, u7] : List UInt64)[i0]?).bind fun z0 => J0 (i0 + 1, setA i0 0 (18446744073709551615 : UInt64) u0, setA i0 1 (18446744073709551615 : UInt64) u1, setA i0 2 (18446744073709551615 : UInt64) u2, setA i0 3 (18446744073709551615 : UInt64) u3, setA i0 4 (18446744073709551615 : UInt64) u4, setA i0 5 (18446744073709551615 : UInt64) u5, setA i0 6 (18446744073709551615 : UInt64) u6, setA i0 7 (18446744073709551615 : UInt64) u7) else some (u0, u1, u2, u3, u4, u5, u6, u7))
def wide_Of_p (n : Nat) (a0 : Int) : Option (UInt64 × UInt64 × UInt64 × UInt64 × UInt64 × UInt64 × UInt64 × UInt64) :=
  (if a0 < 0 then Option.bind (loopF (wide_Of_l1 n) n (1, u64of a0, (0 : UInt64), (0 : UInt64), (0 : UInt64), (0 : UInt64), (0 : UInt64), (0 : UInt64), (0 : UInt64))) (fun (u0, u1, u2, u3, u4, u5, u6, u7) => some (u0, u1, u2, u3, u4, u5, u6, u7)) else some (u64of a0, (0 : UInt64), (0 : UInt64), (0 : UInt64), (0 : UInt64), (0 : UInt64), (0 : UInt64), (0 : UInt64)))
theorem wide_Of_c (n : Nat) (L : List Nat) (w : World) (_hL : ∀ b ∈ L, b < w.heap.size) (a0 : Int)  {r : UInt64 × UInt64 × UInt64 × UInt64 × UInt64 × UInt64 × UInt64 × UInt64} (h : wide_Of_p n a0 = some r) :
    Calls Tryz.prog 128 #[.int .i64 a0] w (Gives w fun _ u => u = .agg ((cs_A34 r)).toArray) := by
  unfold wide_Of_p at h
  have hS0 := St.start w
  refine MX.start Tryz.func128 rfl rfl rfl (fun _ cs0 hb0 => ?_)
  refine MX.sr <| RG.new .plain rfl (Does.alloc (zs := [.int .u64 0, .int .u64 0, .int .u64 0, .int .u64 0, .int .u64 0, .int .u64 0, .int .u64 0, .int .u64 0]) hS0 (zB (by kernel_rfl))) (fun w2 b5 hS3 hT4 => ?_)
  refine RG.nil <| MX.sr <| RG.mv rfl rfl <| RG.vv (FV.convU (i := a0) Tryz.underlying3 Tryz.underlying33 rfl) rfl <| RG.vv (FV.buildV (vs := [.int .u64 ((u64of a0).toNat : Int)]) (u := .agg #[.int .u64 ((u64of a0).toNat : Int), .int .u64 0, .int .u64 0, .int .u64 0, .int .u64 0, .int .u64 0, .int .u64 0, .int .u64 0]) (evs_cons rfl evs_nil) (fun w9 => by kernel_rfl)) rfl <| RG.new .plain rfl (Does.alloc (zs := [.int .u64 0, .int .u64 0, .int .u64 0, .int .u64 0, .int .u64 0, .int .u64 0, .int .u64 0, .int .u64 0]) hS3 (zB (by kernel_rfl))) (fun w7 b0 hS8 hT9 => ?_)
  refine RG.now .plain (Acts.storeAll (news := [.int .u64 ((u64of a0).toNat : Int), .int .u64 0, .int .u64 0, .int .u64 0, .int .u64 0, .int .u64 0, .int .u64 0, .int .u64 0]) hS8 .hd rfl rfl rfl rfl rfl rfl (onesB rfl)) (fun w0 hS1 hT0 => ?_)
  refine RG.nil <| MX.seq <| MX.sr <| RG.mv rfl rfl <| RG.vv (FV.lss (i := a0) (j := 0) rfl rfl) rfl <| RG.nil ?_
  refine MX.ifd rfl h (fun c0 h => ?_) (fun c0 h => ?_)
  ·skip
   refine MX.sr <| RG.sg rfl rfl <| RG.nil <| MX.block ?_
   obtain ⟨o0, ho56, hh58⟩ := bind_in2 h
   refine MX.loop (α := Nat × UInt64 × UInt64 × UInt64 × UInt64 × UInt64 × UInt64 × UInt64 × UInt64) (fun ⟨i0, u0, u1, u2, u3, u4, u5, u6, u7⟩ => [(2, .pointer (some ⟨b5, 0, none⟩)), (3, .pointer (some ⟨b0, 0, none⟩)), (4, .int .i64 ((i0 : Nat) : Int))]) (fun ⟨i0, u0, u1, u2, u3, u4, u5, u6, u7⟩ wx0 => St w wx0 [.cells b0 [.int .u64 (u0.toNat : Int), .int .u64 (u1.toNat : Int), .int .u64 (u2.toNat : Int), .int .u64 (u3.toNat : Int), .int .u64 (u4.toNat : Int), .int .u64 (u5.toNat : Int), .int .u64 (u6.toNat : Int), .int .u64 (u7.toNat : Int)] 35, .cells b5 [.int .u64 0, .int .u64 0, .int .u64 0, .int .u64 0, .int .u64 0, .int .u64 0, .int .u64 0, .int .u64 0] 35] ∧ Tr w0 [.cells b0 [.int .u64 ((u64of a0).toNat : Int), .int .u64 0, .int .u64 0, .int .u64 0, .int .u64 0, .int .u64 0, .int .u64 0, .int .u64 0] 35, .cells b5 [.int .u64 0, .int .u64 0, .int .u64 0, .int .u64 0, .int .u64 0, .int .u64 0, .int .u64 0, .int .u64 0] 35] wx0 [.cells b0 [.int .u64 (u0.toNat : Int), .int .u64 (u1.toNat : Int), .int .u64 (u2.toNat : Int), .int .u64 (u3.toNat : Int), .int .u64 (u4.toNat : Int), .int .u64 (u5.toNat : Int), .int .u64 (u6.toNat : Int), .int .u64 (u7.toNat : Int)] 35, .cells b5 [.int .u64 0, .int .u64 0, .int .u64 0, .int .u64 0, .int .u64 0, .int .u64 0, .int .u64 0, .int .u64 0] 35]) (fun ⟨i0, u0, u1, u2, u3, u4, u5, u6, u7⟩ => (i0, u0, u1, u2, u3, u4, u5, u6, u7)) (1, u64of a0, (0 : UInt64), (0 : UInt64), (0 : UInt64), (0 : UInt64), (0 : UInt64), (0 : UInt64), (0 : UInt64)) ho56 ⟨rfl, rfl, rfl, trivial⟩ ⟨hS1, Tr.refl _ _⟩ ?_
   rintro J0 ⟨i0, u0, u1, u2, u3, u4, u5, u6, u7⟩ wx0 hJ60 ⟨hS2, hT1⟩ h
   unfold wide_Of_l1 at h
   try dsimp only at h
   refine MX.seq <| MX.sr <| RG.mv rfl rfl <| RG.vv (FV.lssN (i := i0) (j := 8) rfl rfl) rfl <| RG.nil <| MX.ifd rfl h (fun c1 h => ?_) (fun c1 h => ?_)
   ·skip
    refine MX.skip <| MX.seq <| MX.block <| MX.region <| RG.mv rfl rfl ?_
    obtain ⟨z0, hz62, h⟩ := bind_in h
    have hm0 := mem_elem1 (p := ⟨b0, 0, none⟩) (cs := ([u0, u1, u2, u3, u4, u5, u6, u7] : List UInt64).map (fun z9 : UInt64 => (.int .u64 (z9.toNat : Int) : Value)) ++ []) (i := i0) (hS2.memA .hd) (arr_get (fun z9 : UInt64 => (.int .u64 (z9.toNat : Int) : Value)) hz62)
    refine RG.vv (FV.indexArr (m := 1) (k := i0) (len := 8) (by kernel_rfl) rfl rfl rfl (arr_lt hz62 rfl)) rfl <| RG.now .plain (Acts.storeArr (fun z9 : UInt64 => (.int .u64 (z9.toNat : Int) : Value)) (xs := ([u0, u1, u2, u3, u4, u5, u6, u7] : List UInt64)) (pre := []) (post := []) (i := i0) (m := 8) (x := (18446744073709551615 : UInt64)) (old := [.int .u64 (u0.toNat : Int), .int .u64 (u1.toNat : Int), .int .u64 (u2.toNat : Int), .int .u64 (u3.toNat : Int), .int .u64 (u4.toNat : Int), .int .u64 (u5.toNat : Int), .int .u64 (u6.toNat : Int), .int .u64 (u7.toNat : Int)]) (new' := [.int .u64 ((setA i0 0 (18446744073709551615 : UInt64) u0).toNat : Int), .int .u64 ((setA i0 1 (18446744073709551615 : UInt64) u1).toNat : Int), .int .u64 ((setA i0 2 (18446744073709551615 : UInt64) u2).toNat : Int), .int .u64 ((setA i0 3 (18446744073709551615 : UInt64) u3).toNat : Int), .int .u64 ((setA i0 4 (18446744073709551615 : UInt64) u4).toNat : Int), .int .u64 ((setA i0 5 (18446744073709551615 : UInt64) u5).toNat : Int), .int .u64 ((setA i0 6 (18446744073709551615 : UInt64) u6).toNat : Int), .int .u64 ((setA i0 7 (18446744073709551615 : UInt64) u7).toNat : Int)]) rfl rfl (arr_lt hz62 rfl) hS2 .hd rfl (addr_at _ _ _) rfl (by kernel_rfl) (fun _ => ⟨rfl, rfl⟩) rfl rfl) (fun w1 hS4 hT2 => ?_)
    refine RG.nil <| MX.inBlock <| MX.region <| RG.mv rfl rfl <| RG.vv (FV.addN (i := i0) (j := 1) rfl rfl (by omega)) rfl <| RG.sg rfl rfl ?_
    refine RG.nil ?_
    exact hJ60 (i0 + 1, setA i0 0 (18446744073709551615 : UInt64) u0, setA i0 1 (18446744073709551615 : UInt64) u1, setA i0 2 (18446744073709551615 : UInt64) u2, setA i0 3 (18446744073709551615 : UInt64) u3, setA i0 4 (18446744073709551615 : UInt64) u4, setA i0 5 (18446744073709551615 : UInt64) u5, setA i0 6 (18446744073709551615 : UInt64) u6, setA i0 7 (18446744073709551615 : UInt64) u7) _ _ ⟨rfl, rfl, rfl, trivial⟩ ⟨hS4, (Tr.trans hT1 hT2)⟩ h
   refine MX.exit rfl ?_
   have h := hh58 _ h
   try dsimp only at h
   refine MX.sr <| RG.vv (FV.loadN (by kernel_rfl) rfl (hS2.memA .hd)) rfl <| RG.now .plain (Acts.storeAll (news := [.int .u64 (u0.toNat : Int), .int .u64 (u1.toNat : Int), .int .u64 (u2.toNat : Int), .int .u64 (u3.toNat : Int), .int .u64 (u4.toNat : Int), .int .u64 (u5.toNat : Int), .int .u64 (u6.toNat : Int), .int .u64 (u7.toNat : Int)]) hS2 (.tl .hd) rfl rfl rfl rfl rfl rfl (onesB rfl)) (fun w3 hS5 hT3 => ?_)
   refine RG.nil <| MX.ret rfl <| RT.leave hb0 Tryz.func128 rfl (.cons (.many (cs := [.int .u64 (u0.toNat : Int), .int .u64 (u1.toNat : Int), .int .u64 (u2.toNat : Int), .int .u64 (u3.toNat : Int), .int .u64 (u4.toNat : Int), .int .u64 (u5.toNat : Int), .int .u64 (u6.toNat : Int), .int .u64 (u7.toNat : Int)]) (by kernel_rfl) rfl (hS5.memA (.tl .hd))) .nil) rfl ?_
   obtain rfl := Option.some.inj h
   exact ⟨hS5.ag, fun w9 hw9 => rfl⟩
  refine MX.skip <| MX.sr <| RG.vv (FV.loadN (by kernel_rfl) rfl (hS1.memA .hd)) rfl <| RG.now .plain (Acts.storeAll (news := [.int .u64 ((u64of a0).toNat : Int), .int .u64 0, .int .u64 0, .int .u64 0, .int .u64 0, .int .u64 0, .int .u64 0, .int .u64 0]) hS1 (.tl .hd) rfl rfl rfl rfl rfl rfl (onesB rfl)) (fun w4 hS6 hT5 => ?_)
  refine RG.nil <| MX.ret rfl <| RT.leave hb0 Tryz.func128 rfl (.cons (.many (cs := [.int .u64 ((u64of a0).toNat : Int), .int .u64 0, .int .u64 0, .int .u64 0, .int .u64 0, .int .u64 0, .int .u64 0, .int .u64 0]) (by kernel_rfl) rfl (hS6.memA (.tl .hd))) .nil) rfl ?_
  obtain rfl := Option.some.inj h
  exact ⟨hS6.ag, fun w9 hw9 => rfl⟩
theorem body128 : bodyB Tryz.prog 128 = true := by kernel_rfl
def wide_From_p (n : Nat) (a0 : Int) : Option TLong :=
  (wide_Of_p n a0).bind fun y6 => (wide_Longer_p n y6).bind fun y7 => some y7
theorem wide_From_c (n : Nat) (L : List Nat) (w : World) (hL : ∀ b ∈ L, b < w.heap.size) (a0 : Int)  {r : TLong} (h : wide_From_p n a0 = some r) :
    Calls Tryz.prog 191 #[.int .i64 a0] w (Gives w fun w' u => ∃ v0_1 : Value, u = .agg #[.bool r.fBelow, v0_1] ∧ Rep.R w' L [v0_1] r.fWords) := by
  unfold wide_From_p at h
  have hS0 := St.start w
  refine MX.start Tryz.func191 rfl rfl rfl (fun _ cs0 hb0 => ?_)
  refine MX.sr <| RG.new .plain rfl (Does.alloc (zs := [.bool false, .slice none 0 0]) hS0 (zB (by kernel_rfl))) (fun w2 b5 hS3 hT4 => ?_)
  refine RG.nil <| MX.sr <| RG.mv rfl rfl ?_
  obtain ⟨y6, hy6, h⟩ := bind_in h
  refine RG.cq (.agg ((cs_A34 y6)).toArray) body128 rfl (evs_cons rfl evs_nil) (fun w9 hw9 => wide_Of_c n _ w9 (hS3.hL0 hL hw9) a0 hy6) rfl ?_
  obtain ⟨y7, hy7, h⟩ := bind_in h
  refine RG.call' (fst := []) (cap := []) .plain body165 rfl (evs_cons rfl evs_nil) (fun w9 hw9 => wide_Longer_c n _ w9 (hS3.hL hL hw9) y6 hy7) rfl (fun w8 vu9 hag0 ⟨v0, hu_, hr0⟩ => ?_)
  subst hu_
  obtain ⟨hS1, hT0⟩ := hS3.agr hag0
  refine RG.now .plain (Acts.storeAll (news := [.bool y7.fBelow, v0]) hS1 .hd rfl rfl rfl rfl rfl rfl (ones_cons rfl (ones_cons (Rep.o1 hr0) ones_nil))) (fun w0 hS2 hT1 => ?_)
  refine RG.nil <| MX.ret rfl <| RT.leave hb0 Tryz.func191 rfl (.cons (.many (cs := [.bool y7.fBelow, v0]) (by kernel_rfl) rfl (hS2.memA .hd)) .nil) rfl ?_
  obtain rfl := Option.some.inj h
  have hm0 := Rep.mv hr0 hT1
  exact ⟨hS2.ag, fun w9 hw9 => ⟨v0, rfl, Rep.keep0 (Rep.dropS hS2 hm0) hw9⟩⟩
def tb163_3 : List (Nat × Nat × Nat) := [(0, 256, 16), (1, 512, 256), (2, 1024, 512), (4, 2048, 1024), (12, 4096, 2048), (16, 8192, 4112), (48, 16384, 12288), (16, 32768, 4112), (144, 65536, 36864), (336, 131072, 86016), (16, 262144, 4104), (1552, 524288, 397312), (2064, 1048576, 528384), (4112, 2097152, 1052672)]
theorem body130 : bodyB Tryz.prog 130 = true := by kernel_rfl
theorem body167 : bodyB Tryz.prog 167 = true := by kernel_rfl
theorem body176 : bodyB Tryz.prog 176 = true := by kernel_rfl
theorem body191 : bodyB Tryz.prog 191 = true := by kernel_rfl
def share_Check_p (n : Nat) (a0 : TShare) : Option Int :=
  (wide_From_p n (1 : Int)).bind fun y6 => (share_Read_p n a0).bind fun y0 => (wide_Long_Side_p n y0.fUnder).bind fun y1 => (if y1 ≤ 0 then some (20 : Int) else (wide_Long_Common_p n y0.fLong y0.fUnder).bind fun y2 => (wide_Long_Cmp_p n y2 y6).bind fun y3 => (if y3 = 0 then some (0 : Int) else some (20 : Int)))
theorem share_Check_c (n : Nat) (L : List Nat) (w : World) (hL : ∀ b ∈ L, b < w.heap.size) (a0 : TShare)  {r : Int} (h : share_Check_p n a0 = some r) :
    Calls Tryz.prog 163 #[.agg ((cs_TShare a0)).toArray] w (Gives w fun _ u => u = .int .i64 r) := by
  unfold share_Check_p at h
  have hS0 := St.start w
  refine MX.start Tryz.func163 rfl rfl rfl (fun _ cs0 hb0 => ?_)
  refine MX.sr <| RG.new .plain rfl (Does.box (vs := (cs_TShare a0)) hS0 rfl rfl) (fun w2 b5 hS3 hT4 => ?_)
  refine RG.sg rfl rfl <| RG.nil <| MX.sr ?_
  obtain ⟨y6, hy6, h⟩ := bind_in h
  refine RG.call' (fst := []) (cap := []) .plain body191 rfl (evs_cons rfl evs_nil) (fun w9 hw9 => wide_From_c n _ w9 (hS3.hL hL hw9) (1 : Int) hy6) rfl (fun w7 vu8 hag9 ⟨v0, hu_, hr0⟩ => ?_)
  subst hu_
  obtain ⟨hS1, hT0⟩ := hS3.agr hag9
  refine RG.new .plain rfl (Does.alloc (zs := [.bool false, .slice none 0 0]) hS1 (zB (by kernel_rfl))) (fun w0 b0 hS2 hT1 => ?_)
  have hm0 := Rep.mv hr0 hT1
  refine RG.now .plain (Acts.storeAll (news := [.bool y6.fBelow, v0]) hS2 .hd rfl rfl rfl rfl rfl rfl (ones_cons rfl (ones_cons (Rep.o1 hm0) ones_nil))) (fun w1 hS4 hT2 => ?_)
  refine RG.nil <| MX.sr <| RG.vv (FV.loadN (by kernel_rfl) rfl (hS4.memA (.tl .hd))) rfl ?_
  obtain ⟨y0, hy0, h⟩ := bind_in h
  refine RG.call' (fst := []) (cap := []) .plain body130 rfl (evs_cons rfl evs_nil) (fun w9 hw9 => share_Read_c n _ w9 (hS4.hL hL hw9) a0 hy0) rfl (fun w3 vu0 hag0 ⟨v1, v2, hu_, hr1, hr2⟩ => ?_)
  subst hu_
  obtain ⟨hS5, hT3⟩ := hS4.agr hag0
  refine RG.new .plain rfl (Does.alloc (zs := [.bool false, .slice none 0 0, .bool false, .slice none 0 0]) hS5 (zB (by kernel_rfl))) (fun w4 b1 hS6 hT5 => ?_)
  have hm1 := Rep.mv hr1 hT5
  have hm2 := Rep.mv hr2 hT5
  refine RG.now .plain (Acts.storeAll (news := [.bool y0.fLong.fBelow, v1, .bool y0.fUnder.fBelow, v2]) hS6 .hd rfl rfl rfl rfl rfl rfl (ones_cons rfl (ones_cons (Rep.o1 hm1) (ones_cons rfl (ones_cons (Rep.o1 hm2) ones_nil))))) (fun w5 hS7 hT6 => ?_)
  refine RG.nil <| MX.seq <| MX.seq <| MX.drawT 14 tb163_3 (by kernel_rfl) (by kernel_rfl) (by kernel_rfl) (fun kt0 kp0 => ?_)
  refine RD.vw 0 1 kt0 rfl kp0 (fun _ => FV.fieldAddr (off := 2) (by kernel_rfl) rfl) rfl <| RD.vx 1 3 16380 kt0 rfl kp0 (FV.loadN (cs := [.bool y0.fUnder.fBelow, v2]) (by kernel_rfl) rfl (mem_part (hS7.memA .hd) 2 2)) rfl ?_
  obtain ⟨y1, hy1, h⟩ := bind_in h
  have hm3 := Rep.mv hr2 (Tr.trans hT5 hT6)
  refine RD.cq 2 7 16376 (.int .i64 y1) kt0 rfl kp0 body144 rfl (evs_cons rfl evs_nil) (fun w9 hw9 => wide_Long_Side_c n _ w9 (hS7.hL0 hL hw9) y0.fUnder (Rep.keep0 (Rep.dropS hS7 hm3) hw9) hy1) rfl <| RD.vw 3 15 kt0 rfl kp0 (fun _ => FV.leq (i := y1) (j := 0) rfl rfl) rfl <| RD.vw 4 31 kt0 rfl kp0 (fun _ => FV.move rfl) rfl <| RD.ifd (s := 12) rfl h (fun c0 h => ?_) (fun c0 h => ?_)
  ·skip
   refine RD.offs 8191 1 [(5, 13), (6, 14), (7, 15), (8, 16), (9, 17), (10, 18), (11, 19), (12, 20)] (F := [(12, true)]) (U := []) kt0 kp0 (.cons rfl .nil) .nil ?_
   dsimp only [offS, List.map]
   refine RD.vw 13 16383 kt0 rfl kp0 (fun _ => FV.pick_t rfl rfl) rfl <| RD.done (doneD_ok kt0 (by kernel_rfl)) <| MX.cond_t rfl <| MX.sr <| RG.sg rfl rfl <| RG.nil ?_
   refine MX.ret rfl <| RT.leave hb0 Tryz.func163 rfl (.cons (.tmp rfl) .nil) rfl ?_
   obtain rfl := Option.some.inj h
   exact ⟨hS7.ag, fun w9 hw9 => rfl⟩
  refine RD.vP 5 63 kt0 rfl kp0 (.yes rfl rfl) (fun _ => FV.fieldAddr (off := 0) (by kernel_rfl) rfl) rfl <| RD.val (i := 6) (m' := 127) (W := 14848) (takeC_ok kt0 (by kernel_rfl)) rfl kp0 (.yes rfl rfl) (FV.loadN (cs := [.bool y0.fLong.fBelow, v1]) (by kernel_rfl) rfl (mem_part (hS7.memA .hd) 0 2)) rfl <| RD.vP 7 255 kt0 rfl kp0 (.yes rfl rfl) (fun _ => FV.fieldAddr (off := 2) (by kernel_rfl) rfl) rfl <| RD.val (i := 8) (m' := 511) (W := 14848) (takeC_ok kt0 (by kernel_rfl)) rfl kp0 (.yes rfl rfl) (FV.loadN (cs := [.bool y0.fUnder.fBelow, v2]) (by kernel_rfl) rfl (mem_part (hS7.memA .hd) 2 2)) rfl <| RD.val (i := 10) (m' := 1535) (W := 14336) (takeC_ok kt0 (by kernel_rfl)) rfl kp0 (.yes rfl rfl) (FV.loadN (by kernel_rfl) rfl (hS7.memA (.tl .hd))) rfl ?_
  obtain ⟨y2, hy2, h⟩ := bind_in h
  have hm4 := Rep.mv hr1 (Tr.trans hT5 hT6)
  refine RD.cl 9 2047 kt0 rfl (.yes rfl rfl) body167 rfl (evs_cons rfl (evs_cons rfl evs_nil)) (fun w9 hw9 => wide_Long_Common_c n _ w9 (hS7.hL hL hw9) y0.fLong (Rep.keep0 hm4 hw9) y0.fUnder (Rep.keep0 hm3 hw9) hy2) rfl (fun w6 vu1 hag1 ⟨v3, hu_, hr3⟩ => ?_)
  subst hu_
  obtain ⟨hS8, hT7⟩ := hS7.agr hag1
  obtain ⟨y3, hy3, h⟩ := bind_in h
  have hm5 := Rep.mv hr0 (Tr.trans hT1 (Tr.trans hT2 (Tr.trans hT3 (Tr.trans hT5 (Tr.trans hT6 hT7)))))
  refine RD.callq (i := 11) (m' := 4095) (W := 12288) (takeC_ok kt0 (by kernel_rfl)) rfl kp0 (v := .int .i64 y3) (fst := []) (cap := []) (.yes rfl rfl) body176 rfl (evs_cons rfl (evs_cons rfl evs_nil)) (fun w9 hw9 => wide_Long_Cmp_c n _ w9 (hS8.hL0 hL hw9) y2 (Rep.keep0 (Rep.dropS hS8 hr3) hw9) y6 (Rep.keep0 (Rep.dropS hS8 hm5) hw9) hy3) rfl <| RD.vP 12 8191 kt0 rfl kp0 (.yes rfl rfl) (fun _ => FV.neq (i := y3) (j := 0) rfl rfl) rfl <| RD.vw 13 16383 kt0 rfl kp0 (fun _ => FV.pick_f rfl rfl) rfl <| RD.done (doneD_ok kt0 (by kernel_rfl)) <| MX.ifn rfl h (fun c1 h => ?_) (fun c1 h => ?_)
  ·skip
   refine MX.skip <| MX.sr <| RG.sg rfl rfl <| RG.nil <| MX.ret rfl <| RT.leave hb0 Tryz.func163 rfl (.cons (.tmp rfl) .nil) rfl ?_
   obtain rfl := Option.some.inj h
   exact ⟨hS8.ag, fun w9 hw9 => rfl⟩
  refine MX.sr <| RG.sg rfl rfl <| RG.nil <| MX.ret rfl <| RT.leave hb0 Tryz.func163 rfl (.cons (.tmp rfl) .nil) rfl ?_
  obtain rfl := Option.some.inj h
  exact ⟨hS8.ag, fun w9 hw9 => rfl⟩
theorem body163 : bodyB Tryz.prog 163 = true := by kernel_rfl
def share_valid_1_p (n : Nat) (a0 : TShare) : Option Bool :=
  (share_Check_p n a0).bind fun y6 => some (decide (y6 = 0))
theorem share_valid_1_c (n : Nat) (L : List Nat) (w : World) (hL : ∀ b ∈ L, b < w.heap.size) (a0 : TShare)  {r : Bool} (h : share_valid_1_p n a0 = some r) :
    Calls Tryz.prog 162 #[.agg ((cs_TShare a0)).toArray] w (Gives w fun _ u => u = .bool r) := by
  unfold share_valid_1_p at h
  have hS0 := St.start w
  refine MX.start Tryz.func162 rfl rfl rfl (fun _ cs0 hb0 => ?_)
  refine MX.sr <| RG.new .plain rfl (Does.box (vs := (cs_TShare a0)) hS0 rfl rfl) (fun w2 b5 hS3 hT4 => ?_)
  refine RG.sg rfl rfl <| RG.nil <| MX.sr <| RG.vv (FV.loadN (by kernel_rfl) rfl (hS3.memA .hd)) rfl ?_
  obtain ⟨y6, hy6, h⟩ := bind_in h
  refine RG.cq (.int .i64 y6) body163 rfl (evs_cons rfl evs_nil) (fun w9 hw9 => share_Check_c n _ w9 (hS3.hL0 hL hw9) a0 hy6) rfl <| RG.vv (FV.eql (i := y6) (j := 0) rfl rfl) rfl <| RG.sg rfl rfl <| RG.nil <| MX.ret rfl <| RT.leave hb0 Tryz.func162 rfl (.cons (.tmp rfl) .nil) rfl ?_
  obtain rfl := Option.some.inj h
  exact ⟨hS3.ag, fun w9 hw9 => rfl⟩
theorem op_A34 {w : World} {L : List Nat} {cs : List Value} {x : UInt64 × UInt64 × UInt64 × UInt64 × UInt64 × UInt64 × UInt64 × UInt64} (h : Rep.R w L cs x) : cs = [.int .u64 (x.1.toNat : Int), .int .u64 (x.2.1.toNat : Int), .int .u64 (x.2.2.1.toNat : Int), .int .u64 (x.2.2.2.1.toNat : Int), .int .u64 (x.2.2.2.2.1.toNat : Int), .int .u64 (x.2.2.2.2.2.1.toNat : Int), .int .u64 (x.2.2.2.2.2.2.1.toNat : Int), .int .u64 (x.2.2.2.2.2.2.2.toNat : Int)] := by
  obtain ⟨c0, r0, rfl, h0, h⟩ := h
  have e0 : c0 = [.int .u64 (x.1.toNat : Int)] := h0; subst e0
  obtain ⟨c1, r1, rfl, h1, h⟩ := h
  have e1 : c1 = [.int .u64 (x.2.1.toNat : Int)] := h1; subst e1
  obtain ⟨c2, r2, rfl, h2, h⟩ := h
  have e2 : c2 = [.int .u64 (x.2.2.1.toNat : Int)] := h2; subst e2
  obtain ⟨c3, r3, rfl, h3, h⟩ := h
  have e3 : c3 = [.int .u64 (x.2.2.2.1.toNat : Int)] := h3; subst e3
  obtain ⟨c4, r4, rfl, h4, h⟩ := h
  have e4 : c4 = [.int .u64 (x.2.2.2.2.1.toNat : Int)] := h4; subst e4
  obtain ⟨c5, r5, rfl, h5, h⟩ := h
  have e5 : c5 = [.int .u64 (x.2.2.2.2.2.1.toNat : Int)] := h5; subst e5
  obtain ⟨c6, r6, rfl, h6, h⟩ := h
  have e6 : c6 = [.int .u64 (x.2.2.2.2.2.2.1.toNat : Int)] := h6; subst e6
  have e7 : r6 = [.int .u64 (x.2.2.2.2.2.2.2.toNat : Int)] := h; subst e7
  rfl
theorem mk_A34 {w : World} {L : List Nat} (a0 : UInt64) (a1 : UInt64) (a2 : UInt64) (a3 : UInt64) (a4 : UInt64) (a5 : UInt64) (a6 : UInt64) (a7 : UInt64) : Rep.R w L [.int .u64 (a0.toNat : Int), .int .u64 (a1.toNat : Int), .int .u64 (a2.toNat : Int), .int .u64 (a3.toNat : Int), .int .u64 (a4.toNat : Int), .int .u64 (a5.toNat : Int), .int .u64 (a6.toNat : Int), .int .u64 (a7.toNat : Int)] ((a0, a1, a2, a3, a4, a5, a6, a7) : UInt64 × UInt64 × UInt64 × UInt64 × UInt64 × UInt64 × UInt64 × UInt64) := ⟨[.int .u64 (a0.toNat : Int)], [.int .u64 (a1.toNat : Int), .int .u64 (a2.toNat : Int), .int .u64 (a3.toNat : Int), .int .u64 (a4.toNat : Int), .int .u64 (a5.toNat : Int), .int .u64 (a6.toNat : Int), .int .u64 (a7.toNat : Int)], rfl, rfl, ⟨[.int .u64 (a1.toNat : Int)], [.int .u64 (a2.toNat : Int), .int .u64 (a3.toNat : Int), .int .u64 (a4.toNat : Int), .int .u64 (a5.toNat : Int), .int .u64 (a6.toNat : Int), .int .u64 (a7.toNat : Int)], rfl, rfl, ⟨[.int .u64 (a2.toNat : Int)], [.int .u64 (a3.toNat : Int), .int .u64 (a4.toNat : Int), .int .u64 (a5.toNat : Int), .int .u64 (a6.toNat : Int), .int .u64 (a7.toNat : Int)], rfl, rfl, ⟨[.int .u64 (a3.toNat : Int)], [.int .u64 (a4.toNat : Int), .int .u64 (a5.toNat : Int), .int .u64 (a6.toNat : Int), .int .u64 (a7.toNat : Int)], rfl, rfl, ⟨[.int .u64 (a4.toNat : Int)], [.int .u64 (a5.toNat : Int), .int .u64 (a6.toNat : Int), .int .u64 (a7.toNat : Int)], rfl, rfl, ⟨[.int .u64 (a5.toNat : Int)], [.int .u64 (a6.toNat : Int), .int .u64 (a7.toNat : Int)], rfl, rfl, ⟨[.int .u64 (a6.toNat : Int)], [.int .u64 (a7.toNat : Int)], rfl, rfl, rfl⟩⟩⟩⟩⟩⟩⟩
theorem op_TShare {w : World} {L : List Nat} {cs : List Value} {x : TShare} (h : Rep.R w L cs x) : cs = [.int .u64 (x.fN.1.toNat : Int), .int .u64 (x.fN.2.1.toNat : Int), .int .u64 (x.fN.2.2.1.toNat : Int), .int .u64 (x.fN.2.2.2.1.toNat : Int), .int .u64 (x.fN.2.2.2.2.1.toNat : Int), .int .u64 (x.fN.2.2.2.2.2.1.toNat : Int), .int .u64 (x.fN.2.2.2.2.2.2.1.toNat : Int), .int .u64 (x.fN.2.2.2.2.2.2.2.toNat : Int), .int .u64 (x.fD.1.toNat : Int), .int .u64 (x.fD.2.1.toNat : Int), .int .u64 (x.fD.2.2.1.toNat : Int), .int .u64 (x.fD.2.2.2.1.toNat : Int), .int .u64 (x.fD.2.2.2.2.1.toNat : Int), .int .u64 (x.fD.2.2.2.2.2.1.toNat : Int), .int .u64 (x.fD.2.2.2.2.2.2.1.toNat : Int), .int .u64 (x.fD.2.2.2.2.2.2.2.toNat : Int)] := by
  obtain ⟨c0, r0, rfl, h0, h⟩ := h
  obtain rfl := op_A34 (x := x.fN) h0
  obtain rfl := op_A34 (x := x.fD) h
  rfl
theorem mk_TShare {w : World} {L : List Nat} (a0 : UInt64 × UInt64 × UInt64 × UInt64 × UInt64 × UInt64 × UInt64 × UInt64) (a1 : UInt64 × UInt64 × UInt64 × UInt64 × UInt64 × UInt64 × UInt64 × UInt64) : Rep.R w L [.int .u64 (a0.1.toNat : Int), .int .u64 (a0.2.1.toNat : Int), .int .u64 (a0.2.2.1.toNat : Int), .int .u64 (a0.2.2.2.1.toNat : Int), .int .u64 (a0.2.2.2.2.1.toNat : Int), .int .u64 (a0.2.2.2.2.2.1.toNat : Int), .int .u64 (a0.2.2.2.2.2.2.1.toNat : Int), .int .u64 (a0.2.2.2.2.2.2.2.toNat : Int), .int .u64 (a1.1.toNat : Int), .int .u64 (a1.2.1.toNat : Int), .int .u64 (a1.2.2.1.toNat : Int), .int .u64 (a1.2.2.2.1.toNat : Int), .int .u64 (a1.2.2.2.2.1.toNat : Int), .int .u64 (a1.2.2.2.2.2.1.toNat : Int), .int .u64 (a1.2.2.2.2.2.2.1.toNat : Int), .int .u64 (a1.2.2.2.2.2.2.2.toNat : Int)] (⟨a0, a1⟩ : TShare) := ⟨[.int .u64 (a0.1.toNat : Int), .int .u64 (a0.2.1.toNat : Int), .int .u64 (a0.2.2.1.toNat : Int), .int .u64 (a0.2.2.2.1.toNat : Int), .int .u64 (a0.2.2.2.2.1.toNat : Int), .int .u64 (a0.2.2.2.2.2.1.toNat : Int), .int .u64 (a0.2.2.2.2.2.2.1.toNat : Int), .int .u64 (a0.2.2.2.2.2.2.2.toNat : Int)], [.int .u64 (a1.1.toNat : Int), .int .u64 (a1.2.1.toNat : Int), .int .u64 (a1.2.2.1.toNat : Int), .int .u64 (a1.2.2.2.1.toNat : Int), .int .u64 (a1.2.2.2.2.1.toNat : Int), .int .u64 (a1.2.2.2.2.2.1.toNat : Int), .int .u64 (a1.2.2.2.2.2.2.1.toNat : Int), .int .u64 (a1.2.2.2.2.2.2.2.toNat : Int)], rfl, mk_A34 a0.1 a0.2.1 a0.2.2.1 a0.2.2.2.1 a0.2.2.2.2.1 a0.2.2.2.2.2.1 a0.2.2.2.2.2.2.1 a0.2.2.2.2.2.2.2, mk_A34 a1.1 a1.2.1 a1.2.2.1 a1.2.2.2.1 a1.2.2.2.2.1 a1.2.2.2.2.2.1 a1.2.2.2.2.2.2.1 a1.2.2.2.2.2.2.2⟩
theorem body162 : bodyB Tryz.prog 162 = true := by kernel_rfl
theorem body164 : bodyB Tryz.prog 164 = true := by kernel_rfl
def share_valid_l1 (n : Nat) (a0 : List TShare) (J0 : Nat → Option (Bool ⊕ Unit)) : Nat → Option (Bool ⊕ Unit)
  | i0 => (if i0 < a0.length then (a0[i0]?).bind fun x0 => (share_valid_1_p n x0).bind fun y0 => (if y0 = true then J0 (i0 + 1) else some (.inl false)) else some (.inr ()))
def share_valid_p (n : Nat) (a0 : List TShare) : Option Bool :=
  thn (loopF (share_valid_l1 n a0) n 0) (fun _ => some true)
theorem share_valid_c (n : Nat) (L : List Nat) (w : World) (hL : ∀ b ∈ L, b < w.heap.size) (a0 : List TShare) {v0_0 : Value} (h0_0 : Rep.R w L [v0_0] a0)  {r : Bool} (h : share_valid_p n a0 = some r) :
    Calls Tryz.prog 125 #[v0_0] w (Gives w fun _ u => u = .bool r) := by
  unfold share_valid_p at h
  have hS0 := St.start w
  refine MX.start Tryz.func125 rfl rfl rfl (fun _ cs0 hb0 => ?_)
  refine MX.sr <| RG.sg rfl rfl <| RG.nil <| MX.sr <| RG.sg rfl rfl <| RG.nil ?_
  refine MX.sr <| RG.mv rfl rfl <| RG.mv rfl rfl <| RG.enterP (fst := []) (cap := []) (vs := [.func (.func 162) #[] #[], v0_0]) .plain body164 Tryz.func164 rfl rfl rfl rfl (evs_cons rfl (evs_cons rfl evs_nil)) rfl (fun cs2 hb1 hp3 => ?_)
  refine MX.sr <| RG.sg rfl rfl <| RG.nil <| MX.seq <| MX.sr <| RG.mv rfl rfl ?_
  have hl4 : a0.length ≤ 281474976710656 := Rep.lenle h0_0
  refine RG.vv (FV.len (xs := a0) Tryz.underlying68 rfl h0_0) rfl <| RG.mv rfl rfl <| RG.nil <| MX.block ?_
  obtain ⟨o0, ho34, hh36⟩ := thn_in h
  refine MX.loop (α := Nat) (fun i0 => [(0, .func (.func 162) #[] #[]), (7, v0_0), (8, .int .i64 ((a0.length : Nat) : Int)), (9, .int .i64 ((i0 : Nat) : Int))]) (fun i0 wx0 => St w wx0 [] ∧ Tr w [] wx0 []) (fun i0 => i0) 0 ho34 ⟨rfl, rfl, rfl, rfl, trivial⟩ ⟨hS0, Tr.refl _ _⟩ ?_
  rintro J0 i0 wx0 hJ38 ⟨hS1, hT0⟩ h
  unfold share_valid_l1 at h
  try dsimp only at h
  refine MX.sr <| RG.vv (FV.lssN (i := i0) (j := a0.length) rfl rfl) rfl <| RG.nil <| MX.seq <| MX.ifd rfl h (fun c0 h => ?_) (fun c0 h => ?_)
  ·skip
   refine MX.skip <| MX.seq <| MX.block <| MX.sr ?_
   obtain ⟨x0, hx0, h⟩ := bind_in h
   have hm0 := Rep.mv h0_0 hT0
   obtain ⟨A41, c1, he0, hk0, cs1, hr0, hm1⟩ := Rep.nth hm0 hx0
   obtain rfl := op_TShare hr0
   refine RG.vv (FV.idxAddr (m := 16) (i := i0) (by kernel_rfl) rfl he0 rfl rfl hk0) rfl <| RG.vv (FV.loadN (by kernel_rfl) rfl hm1) rfl <| RG.new .plain rfl (Does.alloc (zs := [.int .u64 0, .int .u64 0, .int .u64 0, .int .u64 0, .int .u64 0, .int .u64 0, .int .u64 0, .int .u64 0, .int .u64 0, .int .u64 0, .int .u64 0, .int .u64 0, .int .u64 0, .int .u64 0, .int .u64 0, .int .u64 0]) hS1 (zB (by kernel_rfl))) (fun w0 b0 hS2 hT1 => ?_)
   refine RG.now .plain (Acts.storeAll (news := (cs_TShare x0)) hS2 .hd rfl rfl rfl rfl rfl rfl (onesB rfl)) (fun w1 hS3 hT2 => ?_)
   refine RG.nil <| MX.sr <| RG.mv rfl rfl <| RG.vv (FV.loadN (by kernel_rfl) rfl (hS3.memA .hd)) rfl ?_
   obtain ⟨y0, hy0, h⟩ := bind_in h
   refine RG.cq (.bool y0) body162 rfl (evs_cons rfl evs_nil) (fun w9 hw9 => share_valid_1_c n _ w9 (hS3.hL0 hL hw9) x0 hy0) rfl <| RG.vv (FV.not rfl) rfl <| RG.nil <| MX.ifnb rfl h (fun c2 h => ?_) (fun c2 h => ?_)
   ·skip
    refine MX.skip <| MX.inBlock <| MX.region <| RG.vv (FV.addN (i := i0) (j := 1) rfl rfl (by omega)) rfl <| RG.mv rfl rfl <| RG.nil ?_
    obtain ⟨hS4, hT3⟩ := St.arrB hS3 .done
    exact hJ38 (i0 + 1) _ _ ⟨rfl, rfl, rfl, rfl, trivial⟩ ⟨hS4, (Tr.trans hT0 (Tr.trans hT1 (Tr.trans hT2 hT3)))⟩ h
   refine MX.sr <| RG.sg rfl rfl <| RG.nil ?_
   have h := thn_inl h hh36
   refine MX.ret rfl <| RT.leave (u := .bool false) hb1 Tryz.func164 rfl (.cons (.tmp rfl) .nil) rfl <| RG.sg rfl rfl <| RG.nil <| MX.ret rfl <| RT.leave hb0 Tryz.func125 rfl (.cons (.tmp rfl) .nil) rfl ?_
   obtain rfl := Option.some.inj h
   exact ⟨hS3.ag, fun w9 hw9 => rfl⟩
  refine MX.exit rfl ?_
  have h := thn_inr h hh36
  try dsimp only at h
  refine MX.sr <| RG.sg rfl rfl <| RG.nil <| MX.ret rfl <| RT.leave (u := .bool true) hb1 Tryz.func164 rfl (.cons (.tmp rfl) .nil) rfl <| RG.sg rfl rfl ?_
  refine RG.nil <| MX.ret rfl <| RT.leave hb0 Tryz.func125 rfl (.cons (.tmp rfl) .nil) rfl ?_
  obtain rfl := Option.some.inj h
  exact ⟨hS1.ag, fun w9 hw9 => rfl⟩
def tb168_2 : List (Nat × Nat × Nat) := [(0, 262144, 4), (1, 524288, 262144), (0, 1048576, 8), (4, 2097152, 1048576), (10, 4194304, 2621440), (0, 8388608, 64), (48, 16777216, 12582912), (0, 33554432, 4), (128, 67108864, 33554432), (0, 134217728, 128), (832, 268435456, 201326592), (1151, 0, 16777232), (4095, 0, 268435488)]
def tb168_8 : List (Nat × Nat × Nat) := [(0, 35184372088832, 16), (0, 70368744177664, 32), (1, 0, 35184372088848), (7, 0, 70368744177696)]
def wide_Long_Parts_p (n : Nat) (a0 : TLong) (a1 : TLong) : Option (TLong × TLong) :=
  (wide_divided_p n a0.fWords a1.fWords).bind fun y0 => (wide_trimmed_p n (!(a0.fBelow == a1.fBelow)) y0.1).bind fun y1 => (wide_trimmed_p n a0.fBelow y0.2).bind fun y2 => (if y2.fBelow = true then (wide_Long_Plus_p n y2 (⟨false, a1.fWords⟩ : TLong)).bind fun y3 => (wide_Long_Plus_p n y1 (⟨(!a1.fBelow), ([(1 : UInt64)] : List UInt64)⟩ : TLong)).bind fun y4 => some (y4, y3) else some (y1, y2))
theorem wide_Long_Parts_c (n : Nat) (L : List Nat) (w : World) (hL : ∀ b ∈ L, b < w.heap.size) (a0 : TLong) {v0_1 : Value} (h0_1 : Rep.R w L [v0_1] a0.fWords) (a1 : TLong) {v1_1 : Value} (h1_1 : Rep.R w L [v1_1] a1.fWords)  {r : TLong × TLong} (h : wide_Long_Parts_p n a0 a1 = some r) :
    Calls Tryz.prog 168 #[.agg #[.bool a0.fBelow, v0_1], .agg #[.bool a1.fBelow, v1_1]] w (Gives w fun w' u => ∃ v0_1 v1_1 : Value, u = .tuple #[.agg #[.bool r.1.fBelow, v0_1], .agg #[.bool r.2.fBelow, v1_1]] ∧ Rep.R w' L [v0_1] r.1.fWords ∧ Rep.R w' L [v1_1] r.2.fWords) := by
  unfold wide_Long_Parts_p at h
  have hS0 := St.start w
  refine MX.start Tryz.func168 rfl rfl rfl (fun _ cs0 hb0 => ?_)
  refine MX.sr <| RG.new .plain rfl (Does.box (vs := [.bool a0.fBelow, v0_1]) hS0 rfl rfl) (fun w2 b5 hS3 hT4 => ?_)
  refine RG.new .plain rfl (Does.box (vs := [.bool a1.fBelow, v1_1]) hS3 rfl rfl) (fun w7 b0 hS8 hT9 => ?_)
  refine RG.new .plain rfl (Does.alloc (zs := [.bool false, .slice none 0 0]) hS8 (zB (by kernel_rfl))) (fun w0 b1 hS1 hT0 => ?_)
  refine RG.new .plain rfl (Does.alloc (zs := [.bool false, .slice none 0 0]) hS1 (zB (by kernel_rfl))) (fun w1 b2 hS2 hT1 => ?_)
  refine RG.nil <| MX.sr <| RG.vv (FV.fieldAddr (off := 1) (by kernel_rfl) rfl) rfl <| RG.vv (FV.load1 (by kernel_rfl) rfl ((hS2.memA (.tl (.tl (.tl .hd)))) 1 _ rfl)) rfl <| RG.vv (FV.fieldAddr (off := 1) (by kernel_rfl) rfl) rfl <| RG.vv (FV.load1 (by kernel_rfl) rfl ((hS2.memA (.tl (.tl .hd))) 1 _ rfl)) rfl ?_
  obtain ⟨y0, hy0, h⟩ := bind_in h
  have hm0 := Rep.mv h0_1 (Tr.trans hT4 (Tr.trans hT9 (Tr.trans hT0 hT1)))
  have hm1 := Rep.mv h1_1 (Tr.trans hT4 (Tr.trans hT9 (Tr.trans hT0 hT1)))
  refine RG.call' (fst := []) (cap := []) .plain body194 rfl (evs_cons rfl (evs_cons rfl evs_nil)) (fun w9 hw9 => wide_divided_c n _ w9 (hS2.hL hL hw9) a0.fWords (Rep.keep0 hm0 hw9) a1.fWords (Rep.keep0 hm1 hw9) hy0) rfl (fun w3 vu0 hag0 ⟨v0, v1, hu_, hr0, hr1⟩ => ?_)
  subst hu_
  obtain ⟨hS4, hT2⟩ := hS2.agr hag0
  refine RG.mv rfl rfl <| RG.vv (FV.extract rfl rfl) rfl <| RG.vv (FV.extract rfl rfl) rfl <| RG.sg rfl rfl <| RG.sg rfl rfl <| RG.nil ?_
  refine MX.seq <| MX.drawT 11 tb168_2 (by kernel_rfl) (by kernel_rfl) (by kernel_rfl) (fun kt0 kp0 => ?_)
  refine RD.vw 0 1 kt0 rfl kp0 (fun _ => FV.fieldAddr (off := 0) (by kernel_rfl) rfl) rfl <| RD.vx 1 3 7248 kt0 rfl kp0 (FV.load1 (by kernel_rfl) rfl ((hS4.memA (.tl (.tl (.tl .hd)))) 0 _ rfl)) rfl <| RD.vw 2 7 kt0 rfl kp0 (fun _ => FV.fieldAddr (off := 0) (by kernel_rfl) rfl) rfl <| RD.vx 3 15 7248 kt0 rfl kp0 (FV.load1 (by kernel_rfl) rfl ((hS4.memA (.tl (.tl .hd))) 0 _ rfl)) rfl <| RD.vw 4 31 kt0 rfl kp0 (fun _ => FV.neqB (a := a0.fBelow) (b := a1.fBelow) Tryz.underlying4 rfl rfl) rfl <| RD.vw 5 63 kt0 rfl kp0 (fun _ => FV.move rfl) rfl ?_
  refine RD.vw 7 191 kt0 rfl kp0 (fun _ => FV.fieldAddr (off := 0) (by kernel_rfl) rfl) rfl <| RD.vx 8 447 7168 kt0 rfl kp0 (FV.load1 (by kernel_rfl) rfl ((hS4.memA (.tl (.tl (.tl .hd)))) 0 _ rfl)) rfl <| RD.vw 9 959 kt0 rfl kp0 (fun _ => FV.move rfl) rfl ?_
  obtain ⟨y1, hy1, h⟩ := bind_in h
  refine RD.cl 6 1023 kt0 rfl .plain body169 rfl (evs_cons rfl (evs_cons rfl evs_nil)) (fun w9 hw9 => wide_trimmed_c n _ w9 (hS4.hL hL hw9) (!(a0.fBelow == a1.fBelow)) y0.1 (Rep.keep0 hr0 hw9) hy1) rfl (fun w4 vu1 hag1 ⟨v2, hu_, hr2⟩ => ?_)
  subst hu_
  obtain ⟨hS5, hT3⟩ := hS4.agr hag1
  obtain ⟨y2, hy2, h⟩ := bind_in h
  have hm2 := Rep.mv hr1 hT3
  refine RD.cl 10 2047 kt0 rfl .plain body169 rfl (evs_cons rfl (evs_cons rfl evs_nil)) (fun w9 hw9 => wide_trimmed_c n _ w9 (hS5.hL hL hw9) a0.fBelow y0.2 (Rep.keep0 hm2 hw9) hy2) rfl (fun w5 vu2 hag2 ⟨v3, hu_, hr3⟩ => ?_)
  subst hu_
  obtain ⟨hS6, hT5⟩ := hS5.agr hag2
  have hm3 := Rep.mv hr2 hT5
  refine RD.nw 11 4095 kt0 rfl rfl .plain (Acts.storeAll (news := [.bool y1.fBelow, v2]) hS6 (.tl .hd) rfl rfl rfl rfl rfl rfl (ones_cons rfl (ones_cons (Rep.o1 hm3) ones_nil))) (fun w6 hS7 hT6 => ?_)
  have hm4 := Rep.mv hr3 hT6
  refine RD.nw 12 8191 kt0 rfl rfl .plain (Acts.storeAll (news := [.bool y2.fBelow, v3]) hS7 .hd rfl rfl rfl rfl rfl rfl (ones_cons rfl (ones_cons (Rep.o1 hm4) ones_nil))) (fun w8 hS9 hT7 => ?_)
  refine RD.done (doneD_ok kt0 (by kernel_rfl)) <| MX.seq <| MX.sr <| RG.vv (FV.fieldAddr (off := 0) (by kernel_rfl) rfl) rfl <| RG.vv (FV.load1 (by kernel_rfl) rfl ((hS9.memA .hd) 0 _ rfl)) rfl <| RG.nil ?_
  refine MX.ifb rfl h (fun c0 h => ?_) (fun c0 h => ?_)
  ·skip
   refine MX.sr <| RG.vv (FV.fieldAddr (off := 1) (by kernel_rfl) rfl) rfl <| RG.vv (FV.load1 (by kernel_rfl) rfl ((hS9.memA (.tl (.tl .hd))) 1 _ rfl)) rfl ?_
   have hm5 := Rep.mv h1_1 (Tr.trans hT4 (Tr.trans hT9 (Tr.trans hT0 (Tr.trans hT1 (Tr.trans hT2 (Tr.trans hT3 (Tr.trans hT5 (Tr.trans hT6 hT7))))))))
   obtain ⟨A61, c1, hv63, _⟩ := Rep.sl hm5
   refine RG.vv (FV.buildV (vs := [v1_1]) (u := .agg #[.bool false, v1_1]) (evs_cons rfl evs_nil) (fun w9 => by rw [hv63]; try kernel_rfl)) rfl <| RG.new .plain rfl (Does.alloc (zs := [.bool false, .slice none 0 0]) hS9 (zB (by kernel_rfl))) (fun w66 b3 hS67 hT8 => ?_)
   have hm6 := Rep.mv h1_1 (Tr.trans hT4 (Tr.trans hT9 (Tr.trans hT0 (Tr.trans hT1 (Tr.trans hT2 (Tr.trans hT3 (Tr.trans hT5 (Tr.trans hT6 (Tr.trans hT7 hT8)))))))))
   refine RG.now .plain (Acts.storeAll (news := [.bool false, v1_1]) hS67 .hd rfl rfl rfl rfl rfl rfl (ones_cons rfl (ones_cons (Rep.o1 hm6) ones_nil))) (fun w71 hS72 hT73 => ?_)
   refine RG.nil <| MX.sr <| RG.vv (FV.loadN (by kernel_rfl) rfl (hS72.memA (.tl .hd))) rfl <| RG.vv (FV.loadN (by kernel_rfl) rfl (hS72.memA .hd)) rfl ?_
   obtain ⟨y3, hy3, h⟩ := bind_in h
   have hm7 := Rep.mv hr3 (Tr.trans hT6 (Tr.trans hT7 (Tr.trans hT8 hT73)))
   have hm8 := Rep.mv h1_1 (Tr.trans hT4 (Tr.trans hT9 (Tr.trans hT0 (Tr.trans hT1 (Tr.trans hT2 (Tr.trans hT3 (Tr.trans hT5 (Tr.trans hT6 (Tr.trans hT7 (Tr.trans hT8 hT73))))))))))
   refine RG.call' (fst := []) (cap := []) .plain body133 rfl (evs_cons rfl (evs_cons rfl evs_nil)) (fun w9 hw9 => wide_Long_Plus_c n _ w9 (hS72.hL hL hw9) y2 (Rep.keep0 hm7 hw9) (⟨false, a1.fWords⟩ : TLong) (Rep.keep0 hm8 hw9) hy3) rfl (fun w77 vu3 hag3 ⟨v4, hu_, hr4⟩ => ?_)
   subst hu_
   obtain ⟨hS80, hT81⟩ := hS72.agr hag3
   refine RG.now .plain (Acts.storeAll (news := [.bool y3.fBelow, v4]) hS80 (.tl .hd) rfl rfl rfl rfl rfl rfl (ones_cons rfl (ones_cons (Rep.o1 hr4) ones_nil))) (fun w84 hS85 hT86 => ?_)
   refine RG.nil <| MX.sr <| RG.vv (FV.fieldAddr (off := 0) (by kernel_rfl) rfl) rfl <| RG.vv (FV.load1 (by kernel_rfl) rfl ((hS85.memA (.tl (.tl (.tl .hd)))) 0 _ rfl)) rfl <| RG.vv (FV.not rfl) rfl <| RG.new .plain rfl (Does.build (α := UInt64) (xs := ([(1 : UInt64)] : List UInt64)) (vs := [.int .u64 1]) (ds' := [.int .u64 1]) rfl hS85 el121 rfl (evs_cons rfl evs_nil) (by kernel_rfl) rfl) (fun w88 b4 hS89 hT90 => ?_)
   have hc0 := Cells.at_ (cs := [.int .u64 1]) (xs := (([(1 : UInt64)] : List UInt64) : List UInt64)) hS89 L (Cells.cons (cs := [.int .u64 1]) (ds := []) rfl (Cells.nil _ _))
   refine RG.vv (FV.buildV (vs := [.bool (!a1.fBelow), (.slice (some ⟨b4, 0, none⟩) 1 1)]) (u := .agg #[.bool (!a1.fBelow), (.slice (some ⟨b4, 0, none⟩) 1 1)]) (evs_cons rfl (evs_cons rfl evs_nil)) (fun w9 => by kernel_rfl)) rfl <| RG.new .plain rfl (Does.alloc (zs := [.bool false, .slice none 0 0]) hS89 (zB (by kernel_rfl))) (fun w94 b6 hS95 hT96 => ?_)
   refine RG.now .plain (Acts.storeAll (news := [.bool (!a1.fBelow), (.slice (some ⟨b4, 0, none⟩) 1 1)]) hS95 .hd rfl rfl rfl rfl rfl rfl (ones_cons rfl (ones_cons (St.o1 (α := UInt64) hS95 (.tl .hd)) ones_nil))) (fun w98 hS99 hT10 => ?_)
   refine RG.nil <| MX.region <| RG.vv (FV.loadN (by kernel_rfl) rfl (hS99.memA (.tl (.tl (.tl (.tl .hd)))))) rfl <| RG.vv (FV.loadN (by kernel_rfl) rfl (hS99.memA .hd)) rfl ?_
   have hm9 := Cells.mv hc0 (Tr.trans hT96 hT10)
   have hr5 := St.freeze (α := UInt64) hS99 (.tl .hd) hm9 hL
   have hS10 := St.delS hS99 (.tl .hd)
   have hT11 := St.delT hS99 (.tl .hd)
   have hr6 := Rep.at_ (α := UInt64) (v := (.slice (some ⟨b4, 0, none⟩) 1 1)) (xs := ([(1 : UInt64)] : List UInt64)) hS10 L hr5
   obtain ⟨y4, hy4, h⟩ := bind_in h
   have hm10 := Rep.mv hr2 (Tr.trans hT5 (Tr.trans hT6 (Tr.trans hT7 (Tr.trans hT8 (Tr.trans hT73 (Tr.trans hT81 (Tr.trans hT86 (Tr.trans hT90 (Tr.trans hT96 (Tr.trans hT10 hT11))))))))))
   refine RG.call' (fst := []) (cap := []) .plain body133 rfl (evs_cons rfl (evs_cons rfl evs_nil)) (fun w9 hw9 => wide_Long_Plus_c n _ w9 (hS10.hL hL hw9) y1 (Rep.keep0 hm10 hw9) (⟨(!a1.fBelow), ([(1 : UInt64)] : List UInt64)⟩ : TLong) (Rep.keep0 hr6 hw9) hy4) rfl (fun w10 vu4 hag4 ⟨v5, hu_, hr7⟩ => ?_)
   subst hu_
   obtain ⟨hS11, hT12⟩ := hS10.agr hag4
   refine RG.now .plain (Acts.storeAll (news := [.bool y4.fBelow, v5]) hS11 (.tl (.tl (.tl .hd))) rfl rfl rfl rfl rfl rfl (ones_cons rfl (ones_cons (Rep.o1 hr7) ones_nil))) (fun w11 hS12 hT13 => ?_)
   refine RG.nil <| MX.seq <| MX.drawT 2 tb168_8 (by kernel_rfl) (by kernel_rfl) (by kernel_rfl) (fun kt1 kp1 => ?_)
   refine RD.vx 0 1 12 kt1 rfl kp1 (FV.loadN (by kernel_rfl) rfl (hS12.memA (.tl (.tl (.tl .hd))))) rfl <| RD.meet (α := Unit) (fun () => [(4, .pointer (some ⟨b1, 0, none⟩)), (5, .pointer (some ⟨b2, 0, none⟩)), (46, .agg #[.bool y3.fBelow, v4])]) (fun () wx0 => St w wx0 [.cells b2 [.bool y3.fBelow, v4] 123, .cells b1 [.bool y4.fBelow, v5] 123] ∧ Tr w11 [.cells b6 [.bool (!a1.fBelow), (.slice (some ⟨b4, 0, none⟩) 1 1)] 123, .cells b3 [.bool false, v1_1] 123, .cells b2 [.bool y3.fBelow, v4] 123, .cells b1 [.bool y4.fBelow, v5] 123, .cells b0 [.bool a1.fBelow, v1_1] 123, .cells b5 [.bool a0.fBelow, v0_1] 123] wx0 [.cells b2 [.bool y3.fBelow, v4] 123, .cells b1 [.bool y4.fBelow, v5] 123]) 1 7 ?_ ?_
   ·skip
    rintro ⟨⟩ wx0 ⟨hS14, hT15⟩
    try dsimp only
    have hm11 := Rep.mv hr4 (Tr.trans hT86 (Tr.trans hT90 (Tr.trans hT96 (Tr.trans hT10 (Tr.trans hT11 (Tr.trans hT12 (Tr.trans hT13 hT15)))))))
    refine RD.nw 3 15 kt1 rfl rfl .plain (Acts.storeAll (news := [.bool y3.fBelow, v4]) hS14 .hd rfl rfl rfl rfl rfl rfl (ones_cons rfl (ones_cons (Rep.o1 hm11) ones_nil))) (fun w13 hS15 hT16 => ?_)
    refine RD.done (doneD_ok kt1 (by kernel_rfl)) <| MX.ret rfl <| RT.leave hb0 Tryz.func168 rfl (.cons (.many (cs := [.bool y4.fBelow, v5]) (by kernel_rfl) rfl (hS15.memA (.tl .hd))) (.cons (.many (cs := [.bool y3.fBelow, v4]) (by kernel_rfl) rfl (hS15.memA .hd)) .nil)) rfl ?_
    obtain rfl := Option.some.inj h
    have hm12 := Rep.mv hr7 (Tr.trans hT13 (Tr.trans hT15 hT16))
    have hm13 := Rep.mv hr4 (Tr.trans hT86 (Tr.trans hT90 (Tr.trans hT96 (Tr.trans hT10 (Tr.trans hT11 (Tr.trans hT12 (Tr.trans hT13 (Tr.trans hT15 hT16))))))))
    exact ⟨hS15.ag, fun w9 hw9 => ⟨v5, v4, rfl, Rep.keep0 (Rep.dropS hS15 hm12) hw9, Rep.keep0 (Rep.dropS hS15 hm13) hw9⟩⟩
   ·skip
    intro hJ1333
    refine RD.each [1, 2] (readyD_ok kt1 (by kernel_rfl)) ⟨?_, ?_, trivial⟩
    ·skip
     refine RO.val (m' := 3) (stepC_ok kt1 (by kernel_rfl)) rfl .plain rfl (FV.loadN (by kernel_rfl) rfl (hS12.memA (.tl (.tl .hd)))) ?_
     have hm14 := Rep.mv hr7 hT13
     refine RD.nw 2 7 kt1 rfl rfl .plain (Acts.storeAll (news := [.bool y4.fBelow, v5]) hS12 (.tl (.tl (.tl .hd))) rfl rfl rfl rfl rfl rfl (ones_cons rfl (ones_cons (Rep.o1 hm14) ones_nil))) (fun w14 hS16 hT17 => ?_)
     obtain ⟨hS17, hT18⟩ := St.arrB hS16 (.one (.tl (.tl .hd)) (.one (.tl (.tl .hd)) .done))
     exact hJ1333 () _ _ ⟨rfl, rfl, rfl, trivial⟩ ⟨hS17, (Tr.trans hT17 hT18)⟩
    ·skip
     have hm14 := Rep.mv hr7 hT13
     refine RO.now (m' := 5) (stepC_ok kt1 (by kernel_rfl)) rfl rfl .plain (Acts.storeAll (news := [.bool y4.fBelow, v5]) hS12 (.tl (.tl (.tl .hd))) rfl rfl rfl rfl rfl rfl (ones_cons rfl (ones_cons (Rep.o1 hm14) ones_nil))) (fun w14 hS16 hT17 => ?_)
     refine RD.vx 1 7 8 kt1 rfl kp1 (FV.loadN (by kernel_rfl) rfl (hS16.memA (.tl (.tl .hd)))) rfl ?_
     obtain ⟨hS19, hT20⟩ := St.arrB hS16 (.one (.tl (.tl .hd)) (.one (.tl (.tl .hd)) .done))
     exact hJ1333 () _ _ ⟨rfl, rfl, rfl, trivial⟩ ⟨hS19, (Tr.trans hT17 hT20)⟩
  refine MX.skip <| MX.seq <| MX.drawT 2 tb168_8 (by kernel_rfl) (by kernel_rfl) (by kernel_rfl) (fun kt2 kp2 => ?_)
  refine RD.vx 0 1 12 kt2 rfl kp2 (FV.loadN (by kernel_rfl) rfl (hS9.memA (.tl .hd))) rfl <| RD.meet (α := Unit) (fun () => [(4, .pointer (some ⟨b1, 0, none⟩)), (5, .pointer (some ⟨b2, 0, none⟩)), (46, .agg #[.bool y2.fBelow, v3])]) (fun () wx1 => St w wx1 [.cells b2 [.bool y2.fBelow, v3] 123, .cells b1 [.bool y1.fBelow, v2] 123] ∧ Tr w8 [.cells b2 [.bool y2.fBelow, v3] 123, .cells b1 [.bool y1.fBelow, v2] 123, .cells b0 [.bool a1.fBelow, v1_1] 123, .cells b5 [.bool a0.fBelow, v0_1] 123] wx1 [.cells b2 [.bool y2.fBelow, v3] 123, .cells b1 [.bool y1.fBelow, v2] 123]) 1 7 ?_ ?_
  ·skip
   rintro ⟨⟩ wx1 ⟨hS20, hT21⟩
   try dsimp only
   have hm15 := Rep.mv hr3 (Tr.trans hT6 (Tr.trans hT7 hT21))
   refine RD.nw 3 15 kt2 rfl rfl .plain (Acts.storeAll (news := [.bool y2.fBelow, v3]) hS20 .hd rfl rfl rfl rfl rfl rfl (ones_cons rfl (ones_cons (Rep.o1 hm15) ones_nil))) (fun w15 hS21 hT22 => ?_)
   refine RD.done (doneD_ok kt2 (by kernel_rfl)) <| MX.ret rfl <| RT.leave hb0 Tryz.func168 rfl (.cons (.many (cs := [.bool y1.fBelow, v2]) (by kernel_rfl) rfl (hS21.memA (.tl .hd))) (.cons (.many (cs := [.bool y2.fBelow, v3]) (by kernel_rfl) rfl (hS21.memA .hd)) .nil)) rfl ?_
   obtain rfl := Option.some.inj h
   have hm16 := Rep.mv hr2 (Tr.trans hT5 (Tr.trans hT6 (Tr.trans hT7 (Tr.trans hT21 hT22))))
   have hm17 := Rep.mv hr3 (Tr.trans hT6 (Tr.trans hT7 (Tr.trans hT21 hT22)))
   exact ⟨hS21.ag, fun w9 hw9 => ⟨v2, v3, rfl, Rep.keep0 (Rep.dropS hS21 hm16) hw9, Rep.keep0 (Rep.dropS hS21 hm17) hw9⟩⟩
  ·skip
   intro hJ2553
   refine RD.each [1, 2] (readyD_ok kt2 (by kernel_rfl)) ⟨?_, ?_, trivial⟩
   ·skip
    refine RO.val (m' := 3) (stepC_ok kt2 (by kernel_rfl)) rfl .plain rfl (FV.loadN (by kernel_rfl) rfl (hS9.memA .hd)) ?_
    have hm18 := Rep.mv hr2 (Tr.trans hT5 (Tr.trans hT6 hT7))
    refine RD.nw 2 7 kt2 rfl rfl .plain (Acts.storeAll (news := [.bool y1.fBelow, v2]) hS9 (.tl .hd) rfl rfl rfl rfl rfl rfl (ones_cons rfl (ones_cons (Rep.o1 hm18) ones_nil))) (fun w16 hS22 hT23 => ?_)
    obtain ⟨hS23, hT24⟩ := St.arrB hS22 (.one .hd (.one .hd .done))
    exact hJ2553 () _ _ ⟨rfl, rfl, rfl, trivial⟩ ⟨hS23, (Tr.trans hT23 hT24)⟩
   ·skip
    have hm18 := Rep.mv hr2 (Tr.trans hT5 (Tr.trans hT6 hT7))
    refine RO.now (m' := 5) (stepC_ok kt2 (by kernel_rfl)) rfl rfl .plain (Acts.storeAll (news := [.bool y1.fBelow, v2]) hS9 (.tl .hd) rfl rfl rfl rfl rfl rfl (ones_cons rfl (ones_cons (Rep.o1 hm18) ones_nil))) (fun w16 hS22 hT23 => ?_)
    refine RD.vx 1 7 8 kt2 rfl kp2 (FV.loadN (by kernel_rfl) rfl (hS22.memA .hd)) rfl ?_
    obtain ⟨hS24, hT25⟩ := St.arrB hS22 (.one .hd (.one .hd .done))
    exact hJ2553 () _ _ ⟨rfl, rfl, rfl, trivial⟩ ⟨hS24, (Tr.trans hT23 hT25)⟩
def tb131_5 : List (Nat × Nat × Nat) := [(0, 134217728, 64), (1, 268435456, 134217728), (0, 536870912, 256), (6, 1073741824, 536870912), (11, 0, 268435520), (31, 0, 1073742080)]
theorem body168 : bodyB Tryz.prog 168 = true := by kernel_rfl
def share_Lowest_p (n : Nat) (a0 : TLong) (a1 : TLong) : Option TRatio :=
  (wide_Long_Common_p n a0 a1).bind fun y0 => (wide_Long_Parts_p n a0 y0).bind fun y1 => (wide_Long_Parts_p n a1 y0).bind fun y2 => (if y2.1.fBelow = true then (wide_Long_Turned_p n y1.1).bind fun y3 => (wide_Long_Turned_p n y2.1).bind fun y4 => some (⟨y3, y4⟩ : TRatio) else some (⟨y1.1, y2.1⟩ : TRatio))
theorem share_Lowest_c (n : Nat) (L : List Nat) (w : World) (hL : ∀ b ∈ L, b < w.heap.size) (a0 : TLong) {v0_1 : Value} (h0_1 : Rep.R w L [v0_1] a0.fWords) (a1 : TLong) {v1_1 : Value} (h1_1 : Rep.R w L [v1_1] a1.fWords)  {r : TRatio} (h : share_Lowest_p n a0 a1 = some r) :
    Calls Tryz.prog 131 #[.agg #[.bool a0.fBelow, v0_1], .agg #[.bool a1.fBelow, v1_1]] w (Gives w fun w' u => ∃ v0_1 v0_3 : Value, u = .agg #[.bool r.fLong.fBelow, v0_1, .bool r.fUnder.fBelow, v0_3] ∧ Rep.R w' L [v0_1] r.fLong.fWords ∧ Rep.R w' L [v0_3] r.fUnder.fWords) := by
  unfold share_Lowest_p at h
  have hS0 := St.start w
  refine MX.start Tryz.func131 rfl rfl rfl (fun _ cs0 hb0 => ?_)
  refine MX.sr <| RG.new .plain rfl (Does.box (vs := [.bool a0.fBelow, v0_1]) hS0 rfl rfl) (fun w2 b5 hS3 hT4 => ?_)
  refine RG.new .plain rfl (Does.box (vs := [.bool a1.fBelow, v1_1]) hS3 rfl rfl) (fun w7 b0 hS8 hT9 => ?_)
  refine RG.new .plain rfl (Does.alloc (zs := [.bool false, .slice none 0 0, .bool false, .slice none 0 0]) hS8 (zB (by kernel_rfl))) (fun w0 b1 hS1 hT0 => ?_)
  refine RG.nil <| MX.sr <| RG.vv (FV.loadN (by kernel_rfl) rfl (hS1.memA (.tl (.tl .hd)))) rfl <| RG.vv (FV.loadN (by kernel_rfl) rfl (hS1.memA (.tl .hd))) rfl ?_
  obtain ⟨y0, hy0, h⟩ := bind_in h
  have hm0 := Rep.mv h0_1 (Tr.trans hT4 (Tr.trans hT9 hT0))
  have hm1 := Rep.mv h1_1 (Tr.trans hT4 (Tr.trans hT9 hT0))
  refine RG.call' (fst := []) (cap := []) .plain body167 rfl (evs_cons rfl (evs_cons rfl evs_nil)) (fun w9 hw9 => wide_Long_Common_c n _ w9 (hS1.hL hL hw9) a0 (Rep.keep0 hm0 hw9) a1 (Rep.keep0 hm1 hw9) hy0) rfl (fun w1 vu0 hag0 ⟨v0, hu_, hr0⟩ => ?_)
  subst hu_
  obtain ⟨hS2, hT1⟩ := hS1.agr hag0
  refine RG.new .plain rfl (Does.alloc (zs := [.bool false, .slice none 0 0]) hS2 (zB (by kernel_rfl))) (fun w3 b2 hS4 hT2 => ?_)
  have hm2 := Rep.mv hr0 hT2
  refine RG.now .plain (Acts.storeAll (news := [.bool y0.fBelow, v0]) hS4 .hd rfl rfl rfl rfl rfl rfl (ones_cons rfl (ones_cons (Rep.o1 hm2) ones_nil))) (fun w4 hS5 hT3 => ?_)
  refine RG.nil <| MX.sr <| RG.vv (FV.loadN (by kernel_rfl) rfl (hS5.memA (.tl (.tl (.tl .hd))))) rfl <| RG.vv (FV.loadN (by kernel_rfl) rfl (hS5.memA .hd)) rfl ?_
  obtain ⟨y1, hy1, h⟩ := bind_in h
  have hm3 := Rep.mv h0_1 (Tr.trans hT4 (Tr.trans hT9 (Tr.trans hT0 (Tr.trans hT1 (Tr.trans hT2 hT3)))))
  have hm4 := Rep.mv hr0 (Tr.trans hT2 hT3)
  refine RG.call' (fst := []) (cap := []) .plain body168 rfl (evs_cons rfl (evs_cons rfl evs_nil)) (fun w9 hw9 => wide_Long_Parts_c n _ w9 (hS5.hL hL hw9) a0 (Rep.keep0 hm3 hw9) y0 (Rep.keep0 hm4 hw9) hy1) rfl (fun w5 vu1 hag1 ⟨v1, v2, hu_, hr1, hr2⟩ => ?_)
  subst hu_
  obtain ⟨hS6, hT5⟩ := hS5.agr hag1
  refine RG.mv rfl rfl <| RG.vv (FV.extract rfl rfl) rfl <| RG.vv (FV.extract rfl rfl) rfl <| RG.new .plain rfl (Does.alloc (zs := [.bool false, .slice none 0 0]) hS6 (zB (by kernel_rfl))) (fun w6 b3 hS7 hT6 => ?_)
  refine RG.new .plain rfl (Does.alloc (zs := [.bool false, .slice none 0 0]) hS7 (zB (by kernel_rfl))) (fun w8 b4 hS9 hT7 => ?_)
  have hm5 := Rep.mv hr1 (Tr.trans hT6 hT7)
  refine RG.now .plain (Acts.storeAll (news := [.bool y1.1.fBelow, v1]) hS9 (.tl .hd) rfl rfl rfl rfl rfl rfl (ones_cons rfl (ones_cons (Rep.o1 hm5) ones_nil))) (fun w58 hS59 hT8 => ?_)
  have hm6 := Rep.mv hr2 (Tr.trans hT6 (Tr.trans hT7 hT8))
  refine RG.now .plain (Acts.storeAll (news := [.bool y1.2.fBelow, v2]) hS59 .hd rfl rfl rfl rfl rfl rfl (ones_cons rfl (ones_cons (Rep.o1 hm6) ones_nil))) (fun w62 hS63 hT64 => ?_)
  refine RG.nil <| MX.sr <| RG.vv (FV.loadN (by kernel_rfl) rfl (hS63.memA (.tl (.tl (.tl (.tl .hd)))))) rfl <| RG.vv (FV.loadN (by kernel_rfl) rfl (hS63.memA (.tl (.tl .hd)))) rfl ?_
  obtain ⟨y2, hy2, h⟩ := bind_in h
  have hm7 := Rep.mv h1_1 (Tr.trans hT4 (Tr.trans hT9 (Tr.trans hT0 (Tr.trans hT1 (Tr.trans hT2 (Tr.trans hT3 (Tr.trans hT5 (Tr.trans hT6 (Tr.trans hT7 (Tr.trans hT8 hT64))))))))))
  have hm8 := Rep.mv hr0 (Tr.trans hT2 (Tr.trans hT3 (Tr.trans hT5 (Tr.trans hT6 (Tr.trans hT7 (Tr.trans hT8 hT64))))))
  refine RG.call' (fst := []) (cap := []) .plain body168 rfl (evs_cons rfl (evs_cons rfl evs_nil)) (fun w9 hw9 => wide_Long_Parts_c n _ w9 (hS63.hL hL hw9) a1 (Rep.keep0 hm7 hw9) y0 (Rep.keep0 hm8 hw9) hy2) rfl (fun w68 vu2 hag2 ⟨v3, v4, hu_, hr3, hr4⟩ => ?_)
  subst hu_
  obtain ⟨hS71, hT72⟩ := hS63.agr hag2
  refine RG.mv rfl rfl <| RG.vv (FV.extract rfl rfl) rfl <| RG.vv (FV.extract rfl rfl) rfl <| RG.new .plain rfl (Does.alloc (zs := [.bool false, .slice none 0 0]) hS71 (zB (by kernel_rfl))) (fun w78 b6 hS79 hT80 => ?_)
  refine RG.new .plain rfl (Does.alloc (zs := [.bool false, .slice none 0 0]) hS79 (zB (by kernel_rfl))) (fun w83 b7 hS84 hT85 => ?_)
  have hm9 := Rep.mv hr3 (Tr.trans hT80 hT85)
  refine RG.now .plain (Acts.storeAll (news := [.bool y2.1.fBelow, v3]) hS84 (.tl .hd) rfl rfl rfl rfl rfl rfl (ones_cons rfl (ones_cons (Rep.o1 hm9) ones_nil))) (fun w88 hS89 hT90 => ?_)
  have hm91 := Rep.mv hr4 (Tr.trans hT80 (Tr.trans hT85 hT90))
  refine RG.now .plain (Acts.storeAll (news := [.bool y2.2.fBelow, v4]) hS89 .hd rfl rfl rfl rfl rfl rfl (ones_cons rfl (ones_cons (Rep.o1 hm91) ones_nil))) (fun w92 hS93 hT94 => ?_)
  refine RG.nil <| MX.seq <| MX.sr <| RG.vv (FV.fieldAddr (off := 0) (by kernel_rfl) rfl) rfl <| RG.vv (FV.load1 (by kernel_rfl) rfl ((hS93.memA (.tl .hd)) 0 _ rfl)) rfl <| RG.nil ?_
  refine MX.ifb rfl h (fun c0 h => ?_) (fun c0 h => ?_)
  ·skip
   refine MX.drawT 4 tb131_5 (by kernel_rfl) (by kernel_rfl) (by kernel_rfl) (fun kt0 kp0 => ?_)
   refine RD.vx 0 1 58 kt0 rfl kp0 (FV.loadN (by kernel_rfl) rfl (hS93.memA (.tl (.tl (.tl .hd))))) rfl <| RD.vx 2 5 56 kt0 rfl kp0 (FV.loadN (by kernel_rfl) rfl (hS93.memA (.tl .hd))) rfl ?_
   obtain ⟨y3, hy3, h⟩ := bind_in h
   have hm99 := Rep.mv hr1 (Tr.trans hT6 (Tr.trans hT7 (Tr.trans hT8 (Tr.trans hT64 (Tr.trans hT72 (Tr.trans hT80 (Tr.trans hT85 (Tr.trans hT90 hT94))))))))
   refine RD.cl 1 7 kt0 rfl .plain body137 rfl (evs_cons rfl evs_nil) (fun w9 hw9 => wide_Long_Turned_c n _ w9 (hS93.hL hL hw9) y1.1 (Rep.keep0 hm99 hw9) hy3) rfl (fun w10 vu3 hag3 ⟨v5, hu_, hr5⟩ => ?_)
   subst hu_
   obtain ⟨hS10, hT10⟩ := hS93.agr hag3
   obtain ⟨y4, hy4, h⟩ := bind_in h
   have hm10 := Rep.mv hr3 (Tr.trans hT80 (Tr.trans hT85 (Tr.trans hT90 (Tr.trans hT94 hT10))))
   refine RD.cl 3 15 kt0 rfl .plain body137 rfl (evs_cons rfl evs_nil) (fun w9 hw9 => wide_Long_Turned_c n _ w9 (hS10.hL hL hw9) y2.1 (Rep.keep0 hm10 hw9) hy4) rfl (fun w11 vu4 hag4 ⟨v6, hu_, hr6⟩ => ?_)
   subst hu_
   obtain ⟨hS11, hT11⟩ := hS10.agr hag4
   have hm11 := Rep.mv hr5 hT11
   refine RD.nw 4 31 kt0 rfl rfl .plain (Acts.storeAll (news := [.bool y3.fBelow, v5]) hS11 (.tl (.tl (.tl .hd))) rfl rfl rfl rfl rfl rfl (ones_cons rfl (ones_cons (Rep.o1 hm11) ones_nil))) (fun w13 hS12 hT12 => ?_)
   have hm12 := Rep.mv hr6 hT12
   refine RD.nw 5 63 kt0 rfl rfl .plain (Acts.storeAll (news := [.bool y4.fBelow, v6]) hS12 (.tl .hd) rfl rfl rfl rfl rfl rfl (ones_cons rfl (ones_cons (Rep.o1 hm12) ones_nil))) (fun w14 hS14 hT13 => ?_)
   refine RD.done (doneD_ok kt0 (by kernel_rfl)) <| MX.sr <| RG.vv (FV.loadN (by kernel_rfl) rfl (hS14.memA (.tl (.tl (.tl .hd))))) rfl <| RG.vv (FV.loadN (by kernel_rfl) rfl (hS14.memA (.tl .hd))) rfl ?_
   have hm13 := Rep.mv hr5 (Tr.trans hT11 (Tr.trans hT12 hT13))
   obtain ⟨A124, c1, hv126, _⟩ := Rep.sl hm13
   have hm14 := Rep.mv hr6 (Tr.trans hT12 hT13)
   obtain ⟨A128, c2, hv130, _⟩ := Rep.sl hm14
   refine RG.vv (FV.buildV (vs := [.agg #[.bool y3.fBelow, v5], .agg #[.bool y4.fBelow, v6]]) (u := .agg #[.bool y3.fBelow, v5, .bool y4.fBelow, v6]) (evs_cons rfl (evs_cons rfl evs_nil)) (fun w9 => by rw [hv126, hv130]; try kernel_rfl)) rfl <| RG.now .plain (Acts.storeAll (news := [.bool y3.fBelow, v5, .bool y4.fBelow, v6]) hS14 (.tl (.tl (.tl (.tl (.tl .hd))))) rfl rfl rfl rfl rfl rfl (ones_cons rfl (ones_cons (Rep.o1 hm13) (ones_cons rfl (ones_cons (Rep.o1 hm14) ones_nil))))) (fun w15 hS15 hT15 => ?_)
   refine RG.nil <| MX.ret rfl <| RT.leave hb0 Tryz.func131 rfl (.cons (.many (cs := [.bool y3.fBelow, v5, .bool y4.fBelow, v6]) (by kernel_rfl) rfl (hS15.memA (.tl (.tl (.tl (.tl (.tl .hd))))))) .nil) rfl ?_
   obtain rfl := Option.some.inj h
   have hm15 := Rep.mv hr5 (Tr.trans hT11 (Tr.trans hT12 (Tr.trans hT13 hT15)))
   have hm16 := Rep.mv hr6 (Tr.trans hT12 (Tr.trans hT13 hT15))
   exact ⟨hS15.ag, fun w9 hw9 => ⟨v5, v6, rfl, Rep.keep0 (Rep.dropS hS15 hm15) hw9, Rep.keep0 (Rep.dropS hS15 hm16) hw9⟩⟩
  refine MX.skip <| MX.sr <| RG.vv (FV.loadN (by kernel_rfl) rfl (hS93.memA (.tl (.tl (.tl .hd))))) rfl <| RG.vv (FV.loadN (by kernel_rfl) rfl (hS93.memA (.tl .hd))) rfl ?_
  have hm19 := Rep.mv hr1 (Tr.trans hT6 (Tr.trans hT7 (Tr.trans hT8 (Tr.trans hT64 (Tr.trans hT72 (Tr.trans hT80 (Tr.trans hT85 (Tr.trans hT90 hT94))))))))
  obtain ⟨A137, c3, hv139, _⟩ := Rep.sl hm19
  have hm20 := Rep.mv hr3 (Tr.trans hT80 (Tr.trans hT85 (Tr.trans hT90 hT94)))
  obtain ⟨A141, c4, hv143, _⟩ := Rep.sl hm20
  refine RG.vv (FV.buildV (vs := [.agg #[.bool y1.1.fBelow, v1], .agg #[.bool y2.1.fBelow, v3]]) (u := .agg #[.bool y1.1.fBelow, v1, .bool y2.1.fBelow, v3]) (evs_cons rfl (evs_cons rfl evs_nil)) (fun w9 => by rw [hv139, hv143]; try kernel_rfl)) rfl <| RG.now .plain (Acts.storeAll (news := [.bool y1.1.fBelow, v1, .bool y2.1.fBelow, v3]) hS93 (.tl (.tl (.tl (.tl (.tl .hd))))) rfl rfl rfl rfl rfl rfl (ones_cons rfl (ones_cons (Rep.o1 hm19) (ones_cons rfl (ones_cons (Rep.o1 hm20) ones_nil))))) (fun w16 hS16 hT16 => ?_)
  refine RG.nil <| MX.ret rfl <| RT.leave hb0 Tryz.func131 rfl (.cons (.many (cs := [.bool y1.1.fBelow, v1, .bool y2.1.fBelow, v3]) (by kernel_rfl) rfl (hS16.memA (.tl (.tl (.tl (.tl (.tl .hd))))))) .nil) rfl ?_
  obtain rfl := Option.some.inj h
  have hm21 := Rep.mv hr1 (Tr.trans hT6 (Tr.trans hT7 (Tr.trans hT8 (Tr.trans hT64 (Tr.trans hT72 (Tr.trans hT80 (Tr.trans hT85 (Tr.trans hT90 (Tr.trans hT94 hT16)))))))))
  have hm22 := Rep.mv hr3 (Tr.trans hT80 (Tr.trans hT85 (Tr.trans hT90 (Tr.trans hT94 hT16))))
  exact ⟨hS16.ag, fun w9 hw9 => ⟨v1, v3, rfl, Rep.keep0 (Rep.dropS hS16 hm21) hw9, Rep.keep0 (Rep.dropS hS16 hm22) hw9⟩⟩
def math_bits_Mul64_p (_n : Nat) (a0 : UInt64) (a1 : UInt64) : Option (UInt64 × UInt64) :=
  (some (((shrU a0 32) * (a1 &&& (4294967295 : UInt64))) + (shrU ((a0 &&& (4294967295 : UInt64)) * (a1 &&& (4294967295 : UInt64))) 32))).bind fun u1 => (some (shrU ((u1 &&& (4294967295 : UInt64)) + ((a0 &&& (4294967295 : UInt64)) * (shrU a1 32))) 32)).bind fun u2 => some ((((shrU a0 32) * (shrU a1 32)) + (shrU u1 32)) + u2, a0 * a1)
theorem math_bits_Mul64_c (n : Nat) (L : List Nat) (w : World) (_hL : ∀ b ∈ L, b < w.heap.size) (a0 : UInt64) (a1 : UInt64)  {r : UInt64 × UInt64} (h : math_bits_Mul64_p n a0 a1 = some r) :
    Calls Tryz.prog 195 #[.int .u64 (a0.toNat : Int), .int .u64 (a1.toNat : Int)] w (Gives w fun _ u => u = .tuple #[.int .u64 (r.1.toNat : Int), .int .u64 (r.2.toNat : Int)]) := by
  unfold math_bits_Mul64_p at h
  have hS0 := St.start w
  refine MX.start Tryz.func195 rfl rfl rfl (fun _ cs0 hb0 => ?_)
  refine MX.sr <| RG.sg rfl rfl <| RG.sg rfl rfl <| RG.nil <| MX.sr <| RG.mv rfl rfl ?_
  refine RG.vv (FV.andU (a := a0) (b := (4294967295 : UInt64)) rfl rfl) rfl <| RG.sg rfl rfl <| RG.nil <| MX.sr <| RG.mv rfl rfl <| RG.vv (FV.shrU (a := a0) (j := 32) rfl rfl) rfl ?_
  refine RG.sg rfl rfl <| RG.nil <| MX.sr <| RG.mv rfl rfl <| RG.vv (FV.andU (a := a1) (b := (4294967295 : UInt64)) rfl rfl) rfl <| RG.sg rfl rfl ?_
  refine RG.nil <| MX.sr <| RG.mv rfl rfl <| RG.vv (FV.shrU (a := a1) (j := 32) rfl rfl) rfl <| RG.sg rfl rfl <| RG.nil ?_
  refine MX.sr <| RG.mv rfl rfl <| RG.mv rfl rfl <| RG.vv (FV.mulU (a := a0 &&& (4294967295 : UInt64)) (b := a1 &&& (4294967295 : UInt64)) rfl rfl) rfl <| RG.sg rfl rfl <| RG.nil ?_
  refine MX.sr <| RG.mv rfl rfl <| RG.mv rfl rfl <| RG.vv (FV.mulU (a := shrU a0 32) (b := a1 &&& (4294967295 : UInt64)) rfl rfl) rfl <| RG.mv rfl rfl <| RG.vv (FV.shrU (a := (a0 &&& (4294967295 : UInt64)) * (a1 &&& (4294967295 : UInt64))) (j := 32) rfl rfl) rfl ?_
  obtain ⟨u1, hu1, h⟩ := bind_in h
  refine RG.vv (FV.as (FV.addU (a := (shrU a0 32) * (a1 &&& (4294967295 : UInt64))) (b := shrU ((a0 &&& (4294967295 : UInt64)) * (a1 &&& (4294967295 : UInt64))) 32) rfl rfl) (congrArg (fun z : UInt64 => Value.int .u64 (z.toNat : Int)) (Option.some.inj hu1))) rfl <| RG.sg rfl rfl <| RG.nil <| MX.sr <| RG.mv rfl rfl <| RG.vv (FV.andU (a := u1) (b := (4294967295 : UInt64)) rfl rfl) rfl ?_
  refine RG.sg rfl rfl <| RG.nil <| MX.sr <| RG.mv rfl rfl <| RG.vv (FV.shrU (a := u1) (j := 32) rfl rfl) rfl <| RG.sg rfl rfl ?_
  refine RG.nil <| MX.sr <| RG.mv rfl rfl <| RG.mv rfl rfl <| RG.mv rfl rfl <| RG.vv (FV.mulU (a := a0 &&& (4294967295 : UInt64)) (b := shrU a1 32) rfl rfl) rfl ?_
  refine RG.vv (FV.addU (a := u1 &&& (4294967295 : UInt64)) (b := (a0 &&& (4294967295 : UInt64)) * (shrU a1 32)) rfl rfl) rfl <| RG.sg rfl rfl <| RG.nil <| MX.sr <| RG.mv rfl rfl <| RG.mv rfl rfl ?_
  refine RG.vv (FV.mulU (a := shrU a0 32) (b := shrU a1 32) rfl rfl) rfl <| RG.mv rfl rfl <| RG.vv (FV.addU (a := (shrU a0 32) * (shrU a1 32)) (b := shrU u1 32) rfl rfl) rfl <| RG.mv rfl rfl ?_
  obtain ⟨u2, hu2, h⟩ := bind_in h
  refine RG.vv (FV.as (FV.shrU (a := (u1 &&& (4294967295 : UInt64)) + ((a0 &&& (4294967295 : UInt64)) * (shrU a1 32))) (j := 32) rfl rfl) (congrArg (fun z : UInt64 => Value.int .u64 (z.toNat : Int)) (Option.some.inj hu2))) rfl <| RG.vv (FV.addU (a := ((shrU a0 32) * (shrU a1 32)) + (shrU u1 32)) (b := u2) rfl rfl) rfl <| RG.sg rfl rfl <| RG.nil <| MX.sr <| RG.mv rfl rfl ?_
  refine RG.mv rfl rfl <| RG.vv (FV.mulU (a := a0) (b := a1) rfl rfl) rfl <| RG.sg rfl rfl <| RG.nil <| MX.ret rfl <| RT.leave hb0 Tryz.func195 rfl (.cons (.tmp rfl) (.cons (.tmp rfl) .nil)) rfl ?_
  obtain rfl := Option.some.inj h
  exact ⟨hS0.ag, fun w9 hw9 => rfl⟩
theorem body195 : bodyB Tryz.prog 195 = true := by kernel_rfl
def wide_multiplied_l1 (n : Nat) (a1 : List UInt64) (x0 : UInt64) (i0 : Nat) (J0 : UInt64 × Nat × (List UInt64) → Option ((List UInt64) × UInt64)) : UInt64 × Nat × (List UInt64) → Option ((List UInt64) × UInt64)
  | (u0, i1, xs0) => (if i1 < a1.length then (a1[i1]?).bind fun x1 => (math_bits_Mul64_p n x0 x1).bind fun y0 => (xs0[i0 + i1]?).bind fun x2 => (add64 x2 y0.2 (0 : UInt64)).bind fun z0 => (add64 z0.1 u0 (0 : UInt64)).bind fun z1 => (put xs0 ((i0 + i1 : Nat) : Int) z1.1).bind fun xs1 => J0 ((y0.1 + z0.2) + z1.2, i1 + 1, xs1) else some (xs0, u0))
def wide_multiplied_l2 (n : Nat) (a0 : List UInt64) (a1 : List UInt64) (J0 : Nat × (List UInt64) → Option (List UInt64)) : Nat × (List UInt64) → Option (List UInt64)
  | (i0, xs0) => (if i0 < a0.length then (a0[i0]?).bind fun x0 => Option.bind (loopF (wide_multiplied_l1 n a1 x0 i0) n ((0 : UInt64), 0, xs0)) (fun (xs1, u0) => (xs1[i0 + a1.length]?).bind fun x1 => (put xs1 ((i0 + a1.length : Nat) : Int) u0).bind fun xs2 => J0 (i0 + 1, xs2)) else some xs0)
def wide_multiplied_p (n : Nat) (a0 : List UInt64) (a1 : List UInt64) : Option (List UInt64) :=
  (mk ((a0.length + a1.length : Nat) : Int) (0 : UInt64)).bind fun xs4 => Option.bind (loopF (wide_multiplied_l2 n a0 a1) n (0, xs4)) (fun xs0 => some xs0)
theorem wide_multiplied_c (n : Nat) (L : List Nat) (w : World) (hL : ∀ b ∈ L, b < w.heap.size) (a0 : List UInt64) {v0_0 : Value} (h0_0 : Rep.R w L [v0_0] a0) (a1 : List UInt64) {v1_0 : Value} (h1_0 : Rep.R w L [v1_0] a1)  {r : List UInt64} (h : wide_multiplied_p n a0 a1 = some r) :
    Calls Tryz.prog 170 #[v0_0, v1_0] w (Gives w fun w' u => ∃ v0_0 : Value, u = v0_0 ∧ Rep.R w' L [v0_0] r) := by
  unfold wide_multiplied_p at h
  have hS0 := St.start w
  refine MX.start Tryz.func170 rfl rfl rfl (fun _ cs0 hb0 => ?_)
  refine MX.sr <| RG.sg rfl rfl <| RG.nil <| MX.sr <| RG.mv rfl rfl ?_
  have hl1 : a0.length ≤ 281474976710656 := Rep.lenle h0_0
  refine RG.vv (FV.len (xs := a0) Tryz.underlying121 rfl h0_0) rfl <| RG.mv rfl rfl ?_
  have hl2 : a1.length ≤ 281474976710656 := Rep.lenle h1_0
  refine RG.vv (FV.len (xs := a1) Tryz.underlying121 rfl h1_0) rfl <| RG.vv (FV.addN (i := a0.length) (j := a1.length) rfl rfl (by omega)) rfl ?_
  obtain ⟨xs4, hxs4, h⟩ := bind_in h
  refine RG.new .plain rfl (Does.mk (α := UInt64) hxs4 hS0 el121 rfl) (fun w5 b8 hS6 hT7 => ?_)
  have hc9 := Cells.at_ (cs := (List.replicate ((a0.length + a1.length : Nat) : Int).toNat [.int .u64 0]).flatten) (xs := xs4) hS6 L (Cells.mk hxs4 rfl)
  refine RG.sg rfl rfl <| RG.nil <| MX.seq <| MX.sr <| RG.mv rfl rfl ?_
  have hm0 := Rep.mv h0_0 hT7
  refine RG.vv (FV.len (xs := a0) Tryz.underlying121 rfl hm0) rfl <| RG.mv rfl rfl <| RG.nil <| MX.block ?_
  obtain ⟨o0, ho341, hh343⟩ := bind_in2 h
  refine MX.loop (α := Nat × (List UInt64) × (List Value)) (fun ⟨i0, xs0, cs1⟩ => [(1, v1_0), (5, (.slice (some ⟨b8, 0, none⟩) ((a0.length + a1.length : Nat) : Int).toNat ((a0.length + a1.length : Nat) : Int).toNat)), (22, v0_0), (23, .int .i64 ((a0.length : Nat) : Int)), (24, .int .i64 ((i0 : Nat) : Int))]) (fun ⟨i0, xs0, cs1⟩ wx0 => St w wx0 [.row w.heap.size 33 (Rep.size UInt64) (.slice (some ⟨b8, 0, none⟩) ((a0.length + a1.length : Nat) : Int).toNat ((a0.length + a1.length : Nat) : Int).toNat) xs0.length cs1] ∧ Tr w5 [.row w.heap.size 33 (Rep.size UInt64) (.slice (some ⟨b8, 0, none⟩) ((a0.length + a1.length : Nat) : Int).toNat ((a0.length + a1.length : Nat) : Int).toNat) xs4.length ((List.replicate ((a0.length + a1.length : Nat) : Int).toNat [.int .u64 0]).flatten)] wx0 [.row w.heap.size 33 (Rep.size UInt64) (.slice (some ⟨b8, 0, none⟩) ((a0.length + a1.length : Nat) : Int).toNat ((a0.length + a1.length : Nat) : Int).toNat) xs0.length cs1] ∧ Cells wx0 (bl [.row w.heap.size 33 (Rep.size UInt64) (.slice (some ⟨b8, 0, none⟩) ((a0.length + a1.length : Nat) : Int).toNat ((a0.length + a1.length : Nat) : Int).toNat) xs0.length cs1] ++ L) cs1 xs0) (fun ⟨i0, xs0, cs1⟩ => (i0, xs0)) (0, xs4, (List.replicate ((a0.length + a1.length : Nat) : Int).toNat [.int .u64 0]).flatten) ho341 ⟨rfl, rfl, rfl, rfl, rfl, trivial⟩ ⟨hS6, Tr.refl _ _, hc9⟩ ?_
  rintro J0 ⟨i0, xs0, cs1⟩ wx0 hJ345 ⟨hS1, hT0, hc0⟩ h
  unfold wide_multiplied_l2 at h
  try dsimp only at h
  refine MX.sr <| RG.vv (FV.lssN (i := i0) (j := a0.length) rfl rfl) rfl <| RG.nil <| MX.seq <| MX.ifd rfl h (fun c0 h => ?_) (fun c0 h => ?_)
  ·skip
   refine MX.skip <| MX.seq <| MX.block <| MX.sr <| RG.mv rfl rfl ?_
   obtain ⟨x0, hx0, h⟩ := bind_in h
   have hm1 := Rep.mv h0_0 (Tr.trans hT7 hT0)
   obtain ⟨A348, c1, he0, hk0, cs2, hr0, hm2⟩ := Rep.nth hm1 hx0
   have he1 : cs2 = [.int .u64 (x0.toNat : Int)] := hr0; subst he1
   refine RG.vv (FV.idxAddr (m := 1) (i := i0) (by kernel_rfl) rfl he0 rfl rfl hk0) rfl <| RG.vv (FV.load1 (by kernel_rfl) rfl (hm2 0 _ rfl)) rfl <| RG.sg rfl rfl <| RG.sg rfl rfl <| RG.nil <| MX.sr ?_
   refine RG.sg rfl rfl <| RG.nil <| MX.seq <| MX.sr <| RG.mv rfl rfl ?_
   have hm3 := Rep.mv h1_0 (Tr.trans hT7 hT0)
   refine RG.vv (FV.len (xs := a1) Tryz.underlying121 rfl hm3) rfl <| RG.mv rfl rfl <| RG.nil <| MX.block ?_
   obtain ⟨o1, ho445, hh447⟩ := bind_in2 h
   refine MX.loop (α := UInt64 × Nat × (List UInt64) × (List Value)) (fun ⟨u0, i1, xs1, cs3⟩ => [(1, v1_0), (5, (.slice (some ⟨b8, 0, none⟩) ((a0.length + a1.length : Nat) : Int).toNat ((a0.length + a1.length : Nat) : Int).toNat)), (22, v0_0), (23, .int .i64 ((a0.length : Nat) : Int)), (24, .int .i64 ((i0 : Nat) : Int)), (6, .int .i64 ((i0 : Nat) : Int)), (7, .int .u64 (x0.toNat : Int)), (8, .int .u64 (u0.toNat : Int)), (29, v1_0), (30, .int .i64 ((a1.length : Nat) : Int)), (31, .int .i64 ((i1 : Nat) : Int))]) (fun ⟨u0, i1, xs1, cs3⟩ wx1 => St w wx1 [.row w.heap.size 33 (Rep.size UInt64) (.slice (some ⟨b8, 0, none⟩) ((a0.length + a1.length : Nat) : Int).toNat ((a0.length + a1.length : Nat) : Int).toNat) xs1.length cs3] ∧ Tr wx0 [.row w.heap.size 33 (Rep.size UInt64) (.slice (some ⟨b8, 0, none⟩) ((a0.length + a1.length : Nat) : Int).toNat ((a0.length + a1.length : Nat) : Int).toNat) xs0.length cs1] wx1 [.row w.heap.size 33 (Rep.size UInt64) (.slice (some ⟨b8, 0, none⟩) ((a0.length + a1.length : Nat) : Int).toNat ((a0.length + a1.length : Nat) : Int).toNat) xs1.length cs3] ∧ Cells wx1 (bl [.row w.heap.size 33 (Rep.size UInt64) (.slice (some ⟨b8, 0, none⟩) ((a0.length + a1.length : Nat) : Int).toNat ((a0.length + a1.length : Nat) : Int).toNat) xs1.length cs3] ++ L) cs3 xs1) (fun ⟨u0, i1, xs1, cs3⟩ => (u0, i1, xs1)) ((0 : UInt64), 0, xs0, cs1) ho445 ⟨rfl, rfl, rfl, rfl, rfl, rfl, rfl, rfl, rfl, rfl, rfl, trivial⟩ ⟨hS1, Tr.refl _ _, hc0⟩ ?_
   rintro J1 ⟨u0, i1, xs1, cs3⟩ wx1 hJ449 ⟨hS2, hT1, hc1⟩ h
   unfold wide_multiplied_l1 at h
   try dsimp only at h
   refine MX.sr <| RG.vv (FV.lssN (i := i1) (j := a1.length) rfl rfl) rfl <| RG.nil <| MX.seq <| MX.ifd rfl h (fun c2 h => ?_) (fun c2 h => ?_)
   ·skip
    refine MX.skip <| MX.seq <| MX.block <| MX.sr <| RG.mv rfl rfl ?_
    obtain ⟨x1, hx1, h⟩ := bind_in h
    have hm4 := Rep.mv h1_0 (Tr.trans hT7 (Tr.trans hT0 hT1))
    obtain ⟨A452, c3, he2, hk1, cs4, hr1, hm5⟩ := Rep.nth hm4 hx1
    have he3 : cs4 = [.int .u64 (x1.toNat : Int)] := hr1; subst he3
    refine RG.vv (FV.idxAddr (m := 1) (i := i1) (by kernel_rfl) rfl he2 rfl rfl hk1) rfl <| RG.vv (FV.load1 (by kernel_rfl) rfl (hm5 0 _ rfl)) rfl <| RG.sg rfl rfl <| RG.sg rfl rfl <| RG.nil <| MX.sr ?_
    refine RG.mv rfl rfl <| RG.mv rfl rfl ?_
    obtain ⟨y0, hy0, h⟩ := bind_in h
    refine RG.cq (.tuple #[.int .u64 (y0.1.toNat : Int), .int .u64 (y0.2.toNat : Int)]) body195 rfl (evs_cons rfl (evs_cons rfl evs_nil)) (fun w9 hw9 => math_bits_Mul64_c n _ w9 (hS2.hL0 hL hw9) x0 x1 hy0) rfl <| RG.mv rfl rfl <| RG.vv (FV.extract rfl rfl) rfl <| RG.vv (FV.extract rfl rfl) rfl <| RG.sg rfl rfl <| RG.sg rfl rfl ?_
    refine RG.nil <| MX.sr <| RG.mv rfl rfl <| RG.mv rfl rfl <| RG.mv rfl rfl <| RG.vv (FV.addN (i := i0) (j := i1) rfl rfl (by omega)) rfl ?_
    obtain ⟨x2, hx2, h⟩ := bind_in h
    obtain ⟨A463, c4, he4, hk2, cs5, hr2, hm6⟩ := St.nth (α := UInt64) hS2 .hd hc1 hx2
    obtain ⟨b0, c5, he5⟩ := St.nthOwn (α := UInt64) hS2 .hd hk2
    obtain rfl : A463 = ⟨b0, 0, none⟩ := by rw [he5] at he4; cases he4; rfl
    have he6 : cs5 = [.int .u64 (x2.toNat : Int)] := hr2; subst he6
    refine RG.vv (FV.idxAddr (m := 1) (i := i0 + i1) (by kernel_rfl) rfl he4 rfl rfl hk2) rfl <| RG.vv (FV.load1 (by kernel_rfl) rfl (hm6 0 _ rfl)) rfl <| RG.mv rfl rfl ?_
    obtain ⟨z0, hz474, h⟩ := bind_in h
    refine RG.vv (FV.add64 (a := x2) (b := y0.2) (c := (0 : UInt64)) Tryz.func196 rfl (by kernel_rfl) (by kernel_rfl) (by kernel_rfl) rfl rfl rfl hz474) rfl <| RG.mv rfl rfl <| RG.vv (FV.extract rfl rfl) rfl <| RG.vv (FV.extract rfl rfl) rfl <| RG.sg rfl rfl <| RG.sg rfl rfl ?_
    refine RG.nil <| MX.sr <| RG.mv rfl rfl <| RG.mv rfl rfl ?_
    obtain ⟨z1, hz475, h⟩ := bind_in h
    refine RG.vv (FV.add64 (a := z0.1) (b := u0) (c := (0 : UInt64)) Tryz.func196 rfl (by kernel_rfl) (by kernel_rfl) (by kernel_rfl) rfl rfl rfl hz475) rfl <| RG.mv rfl rfl <| RG.vv (FV.extract rfl rfl) rfl <| RG.vv (FV.extract rfl rfl) rfl <| RG.sg rfl rfl <| RG.sg rfl rfl ?_
    refine RG.nil <| MX.region <| RG.mv rfl rfl <| RG.mv rfl rfl <| RG.mv rfl rfl <| RG.vv (FV.addN (i := i0) (j := i1) rfl rfl (by omega)) rfl ?_
    refine RG.mv rfl rfl <| RG.mv rfl rfl <| RG.mv rfl rfl <| RG.vv (FV.addU (a := y0.1) (b := z0.2) rfl rfl) rfl <| RG.mv rfl rfl <| RG.vv (FV.addU (a := y0.1 + z0.2) (b := z1.2) rfl rfl) rfl ?_
    refine RG.vv (FV.idxAddr (m := 1) (i := i0 + i1) (by kernel_rfl) rfl he4 rfl rfl hk2) rfl ?_
    obtain ⟨xs2, hxs476, h⟩ := bind_in h
    refine RG.acts' .plain (Acts.set (α := UInt64) (i := i0 + i1) (F := fun cs' => [.row w.heap.size 33 (Rep.size UInt64) (.slice (some ⟨b8, 0, none⟩) ((a0.length + a1.length : Nat) : Int).toNat ((a0.length + a1.length : Nat) : Int).toNat) xs2.length cs']) hxs476 hS2 he5 (fun _ => .hd) hc1 rfl rfl rfl rfl rfl (by kernel_rfl)) (fun w0 ⟨cs6, hS3, hT2, hc2⟩ => ?_)
    refine RG.sg rfl rfl <| RG.nil <| MX.inBlock <| MX.region <| RG.vv (FV.addN (i := i1) (j := 1) rfl rfl (by omega)) rfl <| RG.mv rfl rfl ?_
    refine RG.nil ?_
    exact hJ449 ((y0.1 + z0.2) + z1.2, i1 + 1, xs2, cs6) _ _ ⟨rfl, rfl, rfl, rfl, rfl, rfl, rfl, rfl, rfl, rfl, rfl, trivial⟩ ⟨hS3, (Tr.trans hT1 hT2), hc2⟩ h
   refine MX.exit rfl ?_
   have h := hh447 _ h
   try dsimp only at h
   refine MX.region <| RG.mv rfl rfl <| RG.mv rfl rfl <| RG.mv rfl rfl ?_
   have hm7 := Rep.mv h1_0 (Tr.trans hT7 (Tr.trans hT0 hT1))
   refine RG.vv (FV.len (xs := a1) Tryz.underlying121 rfl hm7) rfl <| RG.vv (FV.addN (i := i0) (j := a1.length) rfl rfl (by omega)) rfl <| RG.mv rfl rfl ?_
   obtain ⟨x3, hx3, h⟩ := bind_in h
   obtain ⟨A484, c6, he7, hk3, cs7, hr3, hm8⟩ := St.nth (α := UInt64) hS2 .hd hc1 hx3
   obtain ⟨b1, c7, he8⟩ := St.nthOwn (α := UInt64) hS2 .hd hk3
   obtain rfl : A484 = ⟨b1, 0, none⟩ := by rw [he8] at he7; cases he7; rfl
   have he9 : cs7 = [.int .u64 (x3.toNat : Int)] := hr3; subst he9
   refine RG.vv (FV.idxAddr (m := 1) (i := i0 + a1.length) (by kernel_rfl) rfl he7 rfl rfl hk3) rfl ?_
   obtain ⟨xs3, hxs495, h⟩ := bind_in h
   refine RG.acts' .plain (Acts.set (α := UInt64) (i := i0 + a1.length) (F := fun cs' => [.row w.heap.size 33 (Rep.size UInt64) (.slice (some ⟨b8, 0, none⟩) ((a0.length + a1.length : Nat) : Int).toNat ((a0.length + a1.length : Nat) : Int).toNat) xs3.length cs']) hxs495 hS2 he8 (fun _ => .hd) hc1 rfl rfl rfl rfl rfl (by kernel_rfl)) (fun w1 ⟨cs8, hS4, hT3, hc3⟩ => ?_)
   refine RG.nil <| MX.inBlock <| MX.region <| RG.vv (FV.addN (i := i0) (j := 1) rfl rfl (by omega)) rfl <| RG.mv rfl rfl <| RG.nil ?_
   exact hJ345 (i0 + 1, xs3, cs8) _ _ ⟨rfl, rfl, rfl, rfl, rfl, trivial⟩ ⟨hS4, (Tr.trans hT0 (Tr.trans hT1 hT3)), hc3⟩ h
  refine MX.exit rfl ?_
  have h := hh343 _ h
  try dsimp only at h
  refine MX.sr <| RG.mv rfl rfl <| RG.sg rfl rfl <| RG.nil <| MX.ret rfl ?_
  have hr4 := St.freeze (α := UInt64) hS1 .hd hc0 hL
  have hS5 := St.delS hS1 .hd
  have hT4 := St.delT hS1 .hd
  have hr5 := Rep.at_ (α := UInt64) (v := (.slice (some ⟨b8, 0, none⟩) ((a0.length + a1.length : Nat) : Int).toNat ((a0.length + a1.length : Nat) : Int).toNat)) (xs := xs0) hS5 L hr4
  refine RT.leave hb0 Tryz.func170 rfl (.cons (.tmp rfl) .nil) rfl ?_
  obtain rfl := Option.some.inj h
  exact ⟨hS5.ag, fun w9 hw9 => ⟨(.slice (some ⟨b8, 0, none⟩) ((a0.length + a1.length : Nat) : Int).toNat ((a0.length + a1.length : Nat) : Int).toNat), rfl, Rep.keep0 (Rep.dropS hS5 hr5) hw9⟩⟩
def tb132_1 : List (Nat × Nat × Nat) := [(0, 32, 4), (1, 64, 32), (0, 128, 8), (4, 256, 128), (10, 512, 320), (0, 1024, 4), (32, 2048, 1024), (0, 4096, 8), (128, 8192, 4096), (320, 16384, 10240), (528, 32768, 16896), (2047, 0, 32784)]
theorem body170 : bodyB Tryz.prog 170 = true := by kernel_rfl
def wide_Long_Times_p (n : Nat) (a0 : TLong) (a1 : TLong) : Option TLong :=
  (wide_multiplied_p n a0.fWords a1.fWords).bind fun y0 => (wide_trimmed_p n (!(a0.fBelow == a1.fBelow)) y0).bind fun y1 => some y1
theorem wide_Long_Times_c (n : Nat) (L : List Nat) (w : World) (hL : ∀ b ∈ L, b < w.heap.size) (a0 : TLong) {v0_1 : Value} (h0_1 : Rep.R w L [v0_1] a0.fWords) (a1 : TLong) {v1_1 : Value} (h1_1 : Rep.R w L [v1_1] a1.fWords)  {r : TLong} (h : wide_Long_Times_p n a0 a1 = some r) :
    Calls Tryz.prog 132 #[.agg #[.bool a0.fBelow, v0_1], .agg #[.bool a1.fBelow, v1_1]] w (Gives w fun w' u => ∃ v0_1 : Value, u = .agg #[.bool r.fBelow, v0_1] ∧ Rep.R w' L [v0_1] r.fWords) := by
  unfold wide_Long_Times_p at h
  have hS0 := St.start w
  refine MX.start Tryz.func132 rfl rfl rfl (fun _ cs0 hb0 => ?_)
  refine MX.sr <| RG.new .plain rfl (Does.box (vs := [.bool a0.fBelow, v0_1]) hS0 rfl rfl) (fun w2 b5 hS3 hT4 => ?_)
  refine RG.new .plain rfl (Does.box (vs := [.bool a1.fBelow, v1_1]) hS3 rfl rfl) (fun w7 b0 hS8 hT9 => ?_)
  refine RG.new .plain rfl (Does.alloc (zs := [.bool false, .slice none 0 0]) hS8 (zB (by kernel_rfl))) (fun w0 b1 hS1 hT0 => ?_)
  refine RG.nil <| MX.seq <| MX.drawT 11 tb132_1 (by kernel_rfl) (by kernel_rfl) (by kernel_rfl) (fun kt0 kp0 => ?_)
  refine RD.vw 0 1 kt0 rfl kp0 (fun _ => FV.fieldAddr (off := 0) (by kernel_rfl) rfl) rfl <| RD.vx 1 3 3088 kt0 rfl kp0 (FV.load1 (by kernel_rfl) rfl ((hS1.memA (.tl (.tl .hd))) 0 _ rfl)) rfl <| RD.vw 2 7 kt0 rfl kp0 (fun _ => FV.fieldAddr (off := 0) (by kernel_rfl) rfl) rfl <| RD.vx 3 15 3088 kt0 rfl kp0 (FV.load1 (by kernel_rfl) rfl ((hS1.memA (.tl .hd)) 0 _ rfl)) rfl <| RD.vw 4 31 kt0 rfl kp0 (fun _ => FV.neqB (a := a0.fBelow) (b := a1.fBelow) Tryz.underlying4 rfl rfl) rfl <| RD.vw 5 63 kt0 rfl kp0 (fun _ => FV.fieldAddr (off := 1) (by kernel_rfl) rfl) rfl ?_
  refine RD.vx 6 127 3584 kt0 rfl kp0 (FV.load1 (by kernel_rfl) rfl ((hS1.memA (.tl (.tl .hd))) 1 _ rfl)) rfl <| RD.vw 7 255 kt0 rfl kp0 (fun _ => FV.fieldAddr (off := 1) (by kernel_rfl) rfl) rfl <| RD.vx 8 511 3584 kt0 rfl kp0 (FV.load1 (by kernel_rfl) rfl ((hS1.memA (.tl .hd)) 1 _ rfl)) rfl ?_
  obtain ⟨y0, hy0, h⟩ := bind_in h
  have hm0 := Rep.mv h0_1 (Tr.trans hT4 (Tr.trans hT9 hT0))
  have hm1 := Rep.mv h1_1 (Tr.trans hT4 (Tr.trans hT9 hT0))
  refine RD.cl 9 1023 kt0 rfl .plain body170 rfl (evs_cons rfl (evs_cons rfl evs_nil)) (fun w9 hw9 => wide_multiplied_c n _ w9 (hS1.hL hL hw9) a0.fWords (Rep.keep0 hm0 hw9) a1.fWords (Rep.keep0 hm1 hw9) hy0) rfl (fun w1 vu0 hag0 ⟨v0, hu_, hr0⟩ => ?_)
  subst hu_
  obtain ⟨hS2, hT1⟩ := hS1.agr hag0
  obtain ⟨y1, hy1, h⟩ := bind_in h
  refine RD.cl 10 2047 kt0 rfl .plain body169 rfl (evs_cons rfl (evs_cons rfl evs_nil)) (fun w9 hw9 => wide_trimmed_c n _ w9 (hS2.hL hL hw9) (!(a0.fBelow == a1.fBelow)) y0 (Rep.keep0 hr0 hw9) hy1) rfl (fun w3 vu1 hag1 ⟨v1, hu_, hr1⟩ => ?_)
  subst hu_
  obtain ⟨hS4, hT2⟩ := hS2.agr hag1
  refine RD.nw 11 4095 kt0 rfl rfl .plain (Acts.storeAll (news := [.bool y1.fBelow, v1]) hS4 .hd rfl rfl rfl rfl rfl rfl (ones_cons rfl (ones_cons (Rep.o1 hr1) ones_nil))) (fun w4 hS5 hT3 => ?_)
  refine RD.done (doneD_ok kt0 (by kernel_rfl)) <| MX.ret rfl <| RT.leave hb0 Tryz.func132 rfl (.cons (.many (cs := [.bool y1.fBelow, v1]) (by kernel_rfl) rfl (hS5.memA .hd)) .nil) rfl ?_
  obtain rfl := Option.some.inj h
  have hm2 := Rep.mv hr1 hT3
  exact ⟨hS5.ag, fun w9 hw9 => ⟨v1, rfl, Rep.keep0 (Rep.dropS hS5 hm2) hw9⟩⟩
def tb83_1 : List (Nat × Nat × Nat) := [(0, 32, 4), (1, 64, 32), (0, 128, 8), (4, 256, 128), (10, 512, 320), (0, 1024, 8), (32, 2048, 1024), (0, 4096, 4), (128, 8192, 4096), (336, 16384, 10240), (528, 32768, 16896), (0, 65536, 4), (2048, 131072, 65536), (0, 262144, 8), (8192, 524288, 262144), (21504, 1048576, 655360), (33792, 2097152, 1081344), (131071, 0, 2097168)]
theorem body131 : bodyB Tryz.prog 131 = true := by kernel_rfl
theorem body132 : bodyB Tryz.prog 132 = true := by kernel_rfl
def share_Ratio_Plus_p (n : Nat) (a0 : TRatio) (a1 : TRatio) : Option TRatio :=
  (wide_Long_Times_p n a0.fLong a1.fUnder).bind fun y0 => (wide_Long_Times_p n a1.fLong a0.fUnder).bind fun y1 => (wide_Long_Plus_p n y0 y1).bind fun y2 => (wide_Long_Times_p n a0.fUnder a1.fUnder).bind fun y3 => (share_Lowest_p n y2 y3).bind fun y4 => some y4
theorem share_Ratio_Plus_c (n : Nat) (L : List Nat) (w : World) (hL : ∀ b ∈ L, b < w.heap.size) (a0 : TRatio) {v0_1 : Value} (h0_1 : Rep.R w L [v0_1] a0.fLong.fWords) {v0_3 : Value} (h0_3 : Rep.R w L [v0_3] a0.fUnder.fWords) (a1 : TRatio) {v1_1 : Value} (h1_1 : Rep.R w L [v1_1] a1.fLong.fWords) {v1_3 : Value} (h1_3 : Rep.R w L [v1_3] a1.fUnder.fWords)  {r : TRatio} (h : share_Ratio_Plus_p n a0 a1 = some r) :
    Calls Tryz.prog 83 #[.agg #[.bool a0.fLong.fBelow, v0_1, .bool a0.fUnder.fBelow, v0_3], .agg #[.bool a1.fLong.fBelow, v1_1, .bool a1.fUnder.fBelow, v1_3]] w (Gives w fun w' u => ∃ v0_1 v0_3 : Value, u = .agg #[.bool r.fLong.fBelow, v0_1, .bool r.fUnder.fBelow, v0_3] ∧ Rep.R w' L [v0_1] r.fLong.fWords ∧ Rep.R w' L [v0_3] r.fUnder.fWords) := by
  unfold share_Ratio_Plus_p at h
  have hS0 := St.start w
  refine MX.start Tryz.func83 rfl rfl rfl (fun _ cs0 hb0 => ?_)
  refine MX.sr <| RG.new .plain rfl (Does.box (vs := [.bool a0.fLong.fBelow, v0_1, .bool a0.fUnder.fBelow, v0_3]) hS0 rfl rfl) (fun w2 b5 hS3 hT4 => ?_)
  refine RG.new .plain rfl (Does.box (vs := [.bool a1.fLong.fBelow, v1_1, .bool a1.fUnder.fBelow, v1_3]) hS3 rfl rfl) (fun w7 b0 hS8 hT9 => ?_)
  refine RG.new .plain rfl (Does.alloc (zs := [.bool false, .slice none 0 0, .bool false, .slice none 0 0]) hS8 (zB (by kernel_rfl))) (fun w0 b1 hS1 hT0 => ?_)
  refine RG.nil <| MX.seq <| MX.drawT 17 tb83_1 (by kernel_rfl) (by kernel_rfl) (by kernel_rfl) (fun kt0 kp0 => ?_)
  refine RD.vw 0 1 kt0 rfl kp0 (fun _ => FV.fieldAddr (off := 0) (by kernel_rfl) rfl) rfl <| RD.vx 1 3 230928 kt0 rfl kp0 (FV.loadN (cs := [.bool a0.fLong.fBelow, v0_1]) (by kernel_rfl) rfl (mem_part (hS1.memA (.tl (.tl .hd))) 0 2)) rfl <| RD.vw 2 7 kt0 rfl kp0 (fun _ => FV.fieldAddr (off := 2) (by kernel_rfl) rfl) rfl <| RD.vx 3 15 230928 kt0 rfl kp0 (FV.loadN (cs := [.bool a1.fUnder.fBelow, v1_3]) (by kernel_rfl) rfl (mem_part (hS1.memA (.tl .hd)) 2 2)) rfl <| RD.vw 5 47 kt0 rfl kp0 (fun _ => FV.fieldAddr (off := 0) (by kernel_rfl) rfl) rfl <| RD.vx 6 111 230912 kt0 rfl kp0 (FV.loadN (cs := [.bool a1.fLong.fBelow, v1_1]) (by kernel_rfl) rfl (mem_part (hS1.memA (.tl .hd)) 0 2)) rfl ?_
  refine RD.vw 7 239 kt0 rfl kp0 (fun _ => FV.fieldAddr (off := 2) (by kernel_rfl) rfl) rfl <| RD.vx 8 495 230912 kt0 rfl kp0 (FV.loadN (cs := [.bool a0.fUnder.fBelow, v0_3]) (by kernel_rfl) rfl (mem_part (hS1.memA (.tl (.tl .hd))) 2 2)) rfl <| RD.vw 11 2543 kt0 rfl kp0 (fun _ => FV.fieldAddr (off := 2) (by kernel_rfl) rfl) rfl <| RD.vx 12 6639 229376 kt0 rfl kp0 (FV.loadN (cs := [.bool a0.fUnder.fBelow, v0_3]) (by kernel_rfl) rfl (mem_part (hS1.memA (.tl (.tl .hd))) 2 2)) rfl <| RD.vw 13 14831 kt0 rfl kp0 (fun _ => FV.fieldAddr (off := 2) (by kernel_rfl) rfl) rfl <| RD.vx 14 31215 229376 kt0 rfl kp0 (FV.loadN (cs := [.bool a1.fUnder.fBelow, v1_3]) (by kernel_rfl) rfl (mem_part (hS1.memA (.tl .hd)) 2 2)) rfl ?_
  obtain ⟨y0, hy0, h⟩ := bind_in h
  have hm0 := Rep.mv h0_1 (Tr.trans hT4 (Tr.trans hT9 hT0))
  have hm1 := Rep.mv h1_3 (Tr.trans hT4 (Tr.trans hT9 hT0))
  refine RD.cl 4 31231 kt0 rfl .plain body132 rfl (evs_cons rfl (evs_cons rfl evs_nil)) (fun w9 hw9 => wide_Long_Times_c n _ w9 (hS1.hL hL hw9) a0.fLong (Rep.keep0 hm0 hw9) a1.fUnder (Rep.keep0 hm1 hw9) hy0) rfl (fun w1 vu0 hag0 ⟨v0, hu_, hr0⟩ => ?_)
  subst hu_
  obtain ⟨hS2, hT1⟩ := hS1.agr hag0
  obtain ⟨y1, hy1, h⟩ := bind_in h
  have hm2 := Rep.mv h1_1 (Tr.trans hT4 (Tr.trans hT9 (Tr.trans hT0 hT1)))
  have hm3 := Rep.mv h0_3 (Tr.trans hT4 (Tr.trans hT9 (Tr.trans hT0 hT1)))
  refine RD.cl 9 31743 kt0 rfl .plain body132 rfl (evs_cons rfl (evs_cons rfl evs_nil)) (fun w9 hw9 => wide_Long_Times_c n _ w9 (hS2.hL hL hw9) a1.fLong (Rep.keep0 hm2 hw9) a0.fUnder (Rep.keep0 hm3 hw9) hy1) rfl (fun w3 vu1 hag1 ⟨v1, hu_, hr1⟩ => ?_)
  subst hu_
  obtain ⟨hS4, hT2⟩ := hS2.agr hag1
  obtain ⟨y2, hy2, h⟩ := bind_in h
  have hm4 := Rep.mv hr0 hT2
  refine RD.cl 10 32767 kt0 rfl .plain body133 rfl (evs_cons rfl (evs_cons rfl evs_nil)) (fun w9 hw9 => wide_Long_Plus_c n _ w9 (hS4.hL hL hw9) y0 (Rep.keep0 hm4 hw9) y1 (Rep.keep0 hr1 hw9) hy2) rfl (fun w4 vu2 hag2 ⟨v2, hu_, hr2⟩ => ?_)
  subst hu_
  obtain ⟨hS5, hT3⟩ := hS4.agr hag2
  obtain ⟨y3, hy3, h⟩ := bind_in h
  have hm5 := Rep.mv h0_3 (Tr.trans hT4 (Tr.trans hT9 (Tr.trans hT0 (Tr.trans hT1 (Tr.trans hT2 hT3)))))
  have hm6 := Rep.mv h1_3 (Tr.trans hT4 (Tr.trans hT9 (Tr.trans hT0 (Tr.trans hT1 (Tr.trans hT2 hT3)))))
  refine RD.cl 15 65535 kt0 rfl .plain body132 rfl (evs_cons rfl (evs_cons rfl evs_nil)) (fun w9 hw9 => wide_Long_Times_c n _ w9 (hS5.hL hL hw9) a0.fUnder (Rep.keep0 hm5 hw9) a1.fUnder (Rep.keep0 hm6 hw9) hy3) rfl (fun w5 vu3 hag3 ⟨v3, hu_, hr3⟩ => ?_)
  subst hu_
  obtain ⟨hS6, hT5⟩ := hS5.agr hag3
  obtain ⟨y4, hy4, h⟩ := bind_in h
  have hm7 := Rep.mv hr2 hT5
  refine RD.cl 16 131071 kt0 rfl .plain body131 rfl (evs_cons rfl (evs_cons rfl evs_nil)) (fun w9 hw9 => share_Lowest_c n _ w9 (hS6.hL hL hw9) y2 (Rep.keep0 hm7 hw9) y3 (Rep.keep0 hr3 hw9) hy4) rfl (fun w6 vu4 hag4 ⟨v4, v5, hu_, hr4, hr5⟩ => ?_)
  subst hu_
  obtain ⟨hS7, hT6⟩ := hS6.agr hag4
  refine RD.nw 17 262143 kt0 rfl rfl .plain (Acts.storeAll (news := [.bool y4.fLong.fBelow, v4, .bool y4.fUnder.fBelow, v5]) hS7 .hd rfl rfl rfl rfl rfl rfl (ones_cons rfl (ones_cons (Rep.o1 hr4) (ones_cons rfl (ones_cons (Rep.o1 hr5) ones_nil))))) (fun w8 hS9 hT7 => ?_)
  refine RD.done (doneD_ok kt0 (by kernel_rfl)) <| MX.ret rfl <| RT.leave hb0 Tryz.func83 rfl (.cons (.many (cs := [.bool y4.fLong.fBelow, v4, .bool y4.fUnder.fBelow, v5]) (by kernel_rfl) rfl (hS9.memA .hd)) .nil) rfl ?_
  obtain rfl := Option.some.inj h
  have hm8 := Rep.mv hr4 hT7
  have hm9 := Rep.mv hr5 hT7
  exact ⟨hS9.ag, fun w9 hw9 => ⟨v4, v5, rfl, Rep.keep0 (Rep.dropS hS9 hm8) hw9, Rep.keep0 (Rep.dropS hS9 hm9) hw9⟩⟩
def tb96_1 : List (Nat × Nat × Nat) := [(0, 8, 2), (1, 16, 8), (2, 32, 16), (0, 64, 2), (8, 128, 64), (20, 256, 160), (63, 0, 260)]
def share_Ratio_Turned_p (n : Nat) (a0 : TRatio) : Option TRatio :=
  (wide_Long_Turned_p n a0.fLong).bind fun y0 => some (⟨y0, a0.fUnder⟩ : TRatio)
theorem share_Ratio_Turned_c (n : Nat) (L : List Nat) (w : World) (hL : ∀ b ∈ L, b < w.heap.size) (a0 : TRatio) {v0_1 : Value} (h0_1 : Rep.R w L [v0_1] a0.fLong.fWords) {v0_3 : Value} (h0_3 : Rep.R w L [v0_3] a0.fUnder.fWords)  {r : TRatio} (h : share_Ratio_Turned_p n a0 = some r) :
    Calls Tryz.prog 96 #[.agg #[.bool a0.fLong.fBelow, v0_1, .bool a0.fUnder.fBelow, v0_3]] w (Gives w fun w' u => ∃ v0_1 v0_3 : Value, u = .agg #[.bool r.fLong.fBelow, v0_1, .bool r.fUnder.fBelow, v0_3] ∧ Rep.R w' L [v0_1] r.fLong.fWords ∧ Rep.R w' L [v0_3] r.fUnder.fWords) := by
  unfold share_Ratio_Turned_p at h
  have hS0 := St.start w
  refine MX.start Tryz.func96 rfl rfl rfl (fun _ cs0 hb0 => ?_)
  refine MX.sr <| RG.new .plain rfl (Does.box (vs := [.bool a0.fLong.fBelow, v0_1, .bool a0.fUnder.fBelow, v0_3]) hS0 rfl rfl) (fun w2 b5 hS3 hT4 => ?_)
  refine RG.new .plain rfl (Does.alloc (zs := [.bool false, .slice none 0 0, .bool false, .slice none 0 0]) hS3 (zB (by kernel_rfl))) (fun w7 b0 hS8 hT9 => ?_)
  refine RG.nil <| MX.seq <| MX.drawT 6 tb96_1 (by kernel_rfl) (by kernel_rfl) (by kernel_rfl) (fun kt0 kp0 => ?_)
  refine RD.vw 0 1 kt0 rfl kp0 (fun _ => FV.fieldAddr (off := 0) (by kernel_rfl) rfl) rfl <| RD.vx 1 3 100 kt0 rfl kp0 (FV.loadN (cs := [.bool a0.fLong.fBelow, v0_1]) (by kernel_rfl) rfl (mem_part (hS8.memA (.tl .hd)) 0 2)) rfl <| RD.vw 3 11 kt0 rfl kp0 (fun _ => FV.fieldAddr (off := 2) (by kernel_rfl) rfl) rfl <| RD.vx 4 27 96 kt0 rfl kp0 (FV.loadN (cs := [.bool a0.fUnder.fBelow, v0_3]) (by kernel_rfl) rfl (mem_part (hS8.memA (.tl .hd)) 2 2)) rfl ?_
  obtain ⟨y0, hy0, h⟩ := bind_in h
  have hm0 := Rep.mv h0_1 (Tr.trans hT4 hT9)
  refine RD.cl 2 31 kt0 rfl .plain body137 rfl (evs_cons rfl evs_nil) (fun w9 hw9 => wide_Long_Turned_c n _ w9 (hS8.hL hL hw9) a0.fLong (Rep.keep0 hm0 hw9) hy0) rfl (fun w0 vu0 hag0 ⟨v0, hu_, hr0⟩ => ?_)
  subst hu_
  obtain ⟨hS1, hT0⟩ := hS8.agr hag0
  obtain ⟨A22, c0, hv24, _⟩ := Rep.sl hr0
  have hm1 := Rep.mv h0_3 (Tr.trans hT4 (Tr.trans hT9 hT0))
  obtain ⟨A25, c1, hv27, _⟩ := Rep.sl hm1
  refine RD.vw 5 63 kt0 rfl kp0 (fun _ => FV.buildV (vs := [.agg #[.bool y0.fBelow, v0], .agg #[.bool a0.fUnder.fBelow, v0_3]]) (u := .agg #[.bool y0.fBelow, v0, .bool a0.fUnder.fBelow, v0_3]) (evs_cons rfl (evs_cons rfl evs_nil)) (fun w9 => by rw [hv24, hv27]; try kernel_rfl)) rfl <| RD.nw 6 127 kt0 rfl rfl .plain (Acts.storeAll (news := [.bool y0.fBelow, v0, .bool a0.fUnder.fBelow, v0_3]) hS1 .hd rfl rfl rfl rfl rfl rfl (ones_cons rfl (ones_cons (Rep.o1 hr0) (ones_cons rfl (ones_cons (Rep.o1 hm1) ones_nil))))) (fun w1 hS2 hT1 => ?_)
  refine RD.done (doneD_ok kt0 (by kernel_rfl)) <| MX.ret rfl <| RT.leave hb0 Tryz.func96 rfl (.cons (.many (cs := [.bool y0.fBelow, v0, .bool a0.fUnder.fBelow, v0_3]) (by kernel_rfl) rfl (hS2.memA .hd)) .nil) rfl ?_
  obtain rfl := Option.some.inj h
  have hm2 := Rep.mv hr0 hT1
  have hm3 := Rep.mv h0_3 (Tr.trans hT4 (Tr.trans hT9 (Tr.trans hT0 hT1)))
  exact ⟨hS2.ag, fun w9 hw9 => ⟨v0, v0_3, rfl, Rep.keep0 (Rep.dropS hS2 hm2) hw9, Rep.keep0 (Rep.dropS hS2 hm3) hw9⟩⟩
def tb81_1 : List (Nat × Nat × Nat) := [(0, 32, 4), (0, 64, 8), (2, 128, 64), (5, 256, 160), (15, 0, 272)]
theorem body83 : bodyB Tryz.prog 83 = true := by kernel_rfl
theorem body96 : bodyB Tryz.prog 96 = true := by kernel_rfl
def share_Ratio_Minus_p (n : Nat) (a0 : TRatio) (a1 : TRatio) : Option TRatio :=
  (share_Ratio_Turned_p n a1).bind fun y0 => (share_Ratio_Plus_p n a0 y0).bind fun y1 => some y1
theorem share_Ratio_Minus_c (n : Nat) (L : List Nat) (w : World) (hL : ∀ b ∈ L, b < w.heap.size) (a0 : TRatio) {v0_1 : Value} (h0_1 : Rep.R w L [v0_1] a0.fLong.fWords) {v0_3 : Value} (h0_3 : Rep.R w L [v0_3] a0.fUnder.fWords) (a1 : TRatio) {v1_1 : Value} (h1_1 : Rep.R w L [v1_1] a1.fLong.fWords) {v1_3 : Value} (h1_3 : Rep.R w L [v1_3] a1.fUnder.fWords)  {r : TRatio} (h : share_Ratio_Minus_p n a0 a1 = some r) :
    Calls Tryz.prog 81 #[.agg #[.bool a0.fLong.fBelow, v0_1, .bool a0.fUnder.fBelow, v0_3], .agg #[.bool a1.fLong.fBelow, v1_1, .bool a1.fUnder.fBelow, v1_3]] w (Gives w fun w' u => ∃ v0_1 v0_3 : Value, u = .agg #[.bool r.fLong.fBelow, v0_1, .bool r.fUnder.fBelow, v0_3] ∧ Rep.R w' L [v0_1] r.fLong.fWords ∧ Rep.R w' L [v0_3] r.fUnder.fWords) := by
  unfold share_Ratio_Minus_p at h
  have hS0 := St.start w
  refine MX.start Tryz.func81 rfl rfl rfl (fun _ cs0 hb0 => ?_)
  refine MX.sr <| RG.new .plain rfl (Does.box (vs := [.bool a0.fLong.fBelow, v0_1, .bool a0.fUnder.fBelow, v0_3]) hS0 rfl rfl) (fun w2 b5 hS3 hT4 => ?_)
  refine RG.new .plain rfl (Does.box (vs := [.bool a1.fLong.fBelow, v1_1, .bool a1.fUnder.fBelow, v1_3]) hS3 rfl rfl) (fun w7 b0 hS8 hT9 => ?_)
  refine RG.new .plain rfl (Does.alloc (zs := [.bool false, .slice none 0 0, .bool false, .slice none 0 0]) hS8 (zB (by kernel_rfl))) (fun w0 b1 hS1 hT0 => ?_)
  refine RG.nil <| MX.seq <| MX.drawT 4 tb81_1 (by kernel_rfl) (by kernel_rfl) (by kernel_rfl) (fun kt0 kp0 => ?_)
  refine RD.vx 0 1 24 kt0 rfl kp0 (FV.loadN (by kernel_rfl) rfl (hS1.memA (.tl (.tl .hd)))) rfl <| RD.vx 1 3 28 kt0 rfl kp0 (FV.loadN (by kernel_rfl) rfl (hS1.memA (.tl .hd))) rfl ?_
  obtain ⟨y0, hy0, h⟩ := bind_in h
  have hm0 := Rep.mv h1_1 (Tr.trans hT4 (Tr.trans hT9 hT0))
  have hm1 := Rep.mv h1_3 (Tr.trans hT4 (Tr.trans hT9 hT0))
  refine RD.cl 2 7 kt0 rfl .plain body96 rfl (evs_cons rfl evs_nil) (fun w9 hw9 => share_Ratio_Turned_c n _ w9 (hS1.hL hL hw9) a1 (Rep.keep0 hm0 hw9) (Rep.keep0 hm1 hw9) hy0) rfl (fun w1 vu0 hag0 ⟨v0, v1, hu_, hr0, hr1⟩ => ?_)
  subst hu_
  obtain ⟨hS2, hT1⟩ := hS1.agr hag0
  obtain ⟨y1, hy1, h⟩ := bind_in h
  have hm2 := Rep.mv h0_1 (Tr.trans hT4 (Tr.trans hT9 (Tr.trans hT0 hT1)))
  have hm3 := Rep.mv h0_3 (Tr.trans hT4 (Tr.trans hT9 (Tr.trans hT0 hT1)))
  refine RD.cl 3 15 kt0 rfl .plain body83 rfl (evs_cons rfl (evs_cons rfl evs_nil)) (fun w9 hw9 => share_Ratio_Plus_c n _ w9 (hS2.hL hL hw9) a0 (Rep.keep0 hm2 hw9) (Rep.keep0 hm3 hw9) y0 (Rep.keep0 hr0 hw9) (Rep.keep0 hr1 hw9) hy1) rfl (fun w3 vu1 hag1 ⟨v2, v3, hu_, hr2, hr3⟩ => ?_)
  subst hu_
  obtain ⟨hS4, hT2⟩ := hS2.agr hag1
  refine RD.nw 4 31 kt0 rfl rfl .plain (Acts.storeAll (news := [.bool y1.fLong.fBelow, v2, .bool y1.fUnder.fBelow, v3]) hS4 .hd rfl rfl rfl rfl rfl rfl (ones_cons rfl (ones_cons (Rep.o1 hr2) (ones_cons rfl (ones_cons (Rep.o1 hr3) ones_nil))))) (fun w4 hS5 hT3 => ?_)
  refine RD.done (doneD_ok kt0 (by kernel_rfl)) <| MX.ret rfl <| RT.leave hb0 Tryz.func81 rfl (.cons (.many (cs := [.bool y1.fLong.fBelow, v2, .bool y1.fUnder.fBelow, v3]) (by kernel_rfl) rfl (hS5.memA .hd)) .nil) rfl ?_
  obtain rfl := Option.some.inj h
  have hm4 := Rep.mv hr2 hT3
  have hm5 := Rep.mv hr3 hT3
  exact ⟨hS5.ag, fun w9 hw9 => ⟨v2, v3, rfl, Rep.keep0 (Rep.dropS hS5 hm4) hw9, Rep.keep0 (Rep.dropS hS5 hm5) hw9⟩⟩
end Go.Proofs.YtmhgoecnjleagaaGreatDoor
