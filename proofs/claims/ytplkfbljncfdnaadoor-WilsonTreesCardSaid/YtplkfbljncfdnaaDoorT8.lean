/- Functions of the program, and what they give: part 8. -/
import Derived.Test.YtplkfbljncfdnaaDoorT7
namespace Go.Proofs.YtplkfbljncfdnaaDoor
open Go Go.RowKit

def wardmoteref18_Size_l1 (n : Nat) (a0 : UInt64) (J28 : Int × Nat → Option Int) : Int × Nat → Option Int
  | (z19, i20) => (if i20 < 64 then (wardmoteref18_Has_p n a0 ((i20 : Nat) : Int)).bind fun y31 => (if y31 = true then (chk (z19 + 1)).bind fun s33 => J28 (s33, i20 + 1) else J28 (z19, i20 + 1)) else some z19)
def wardmoteref18_Size_p (n : Nat) (a0 : UInt64) : Option Int :=
  Option.bind (loopF (wardmoteref18_Size_l1 n a0) n (0, 0)) (fun z19 => some z19)
set_option maxRecDepth 4000 in
set_option maxHeartbeats 4000000 in
theorem wardmoteref18_Size_c (n : Nat) (L : List Nat) (w : World) (hL : ∀ b ∈ L, b < w.heap.size) (a0 : UInt64)  {r : Int} (h : wardmoteref18_Size_p n a0 = some r) :
    Calls Tryd.prog 49 #[.int .u64 (a0.toNat : Int)] w (Gives w fun w' u => u = .int .i64 r) := by
  unfold wardmoteref18_Size_p at h
  have hS0 := St.start w
  refine MX.start Tryd.func49 rfl rfl rfl (fun _ cs0 hb0 => ?_)
  refine MX.seq ?_
  refine MX.region ?_
  refine RG.val' .plain (FV.assign rfl) rfl ?_
  refine RG.nil ?_
  refine MX.seq ?_
  refine MX.region ?_
  refine RG.val' .plain (FV.assign rfl) rfl ?_
  refine RG.nil ?_
  refine MX.seq ?_
  refine MX.seq ?_
  refine MX.region ?_
  refine RG.val' .plain (FV.assign rfl) rfl ?_
  refine RG.nil ?_
  refine MX.block ?_
  obtain ⟨o26, ho25, hh27⟩ := bind_in2 h
  refine MX.loop (α := Int × Nat) (fun ⟨z19, i20⟩ => [(0, .int .u64 (a0.toNat : Int)), (3, .int .i64 z19), (4, .int .i64 ((i20 : Nat) : Int))]) (fun ⟨z19, i20⟩ wx20 => St w wx20 [] ∧ Tr w [] wx20 []) (fun ⟨z19, i20⟩ => (z19, i20)) (0, 0) ho25 ⟨rfl, rfl, rfl, trivial⟩ ⟨hS0, Tr.refl _ _⟩ ?_
  rintro J28 ⟨z19, i20⟩ wx20 hJ29 ⟨hS21, hT22⟩ h
  unfold wardmoteref18_Size_l1 at h
  try dsimp only at h
  refine MX.seq ?_
  refine MX.seq ?_
  refine MX.region ?_
  refine RG.val' .plain (FV.move rfl) rfl ?_
  refine RG.val' .plain (FV.lssN (i := i20) (j := 64) rfl rfl) rfl ?_
  refine RG.nil ?_
  refine MX.ifd rfl h (fun c30 h => ?_) (fun c30 h => ?_)
  ·skip
   refine MX.skip ?_
   refine MX.seq ?_
   refine MX.block ?_
   refine MX.seq ?_
   refine MX.region ?_
   refine RG.val' .plain (FV.move rfl) rfl ?_
   refine RG.val' .plain (FV.move rfl) rfl ?_
   obtain ⟨y31, hy31, h⟩ := bind_in h
   refine RG.callq' (v := .bool y31) (fst := []) (cap := []) .plain body79 rfl (evs_cons rfl (evs_cons rfl evs_nil)) (fun w9 hw9 => wardmoteref18_Has_c n _ w9 (hS21.hL0 hL hw9) a0 ((i20 : Nat) : Int) hy31) rfl ?_
   refine RG.nil ?_
   refine MX.ifb rfl h (fun c32 h => ?_) (fun c32 h => ?_)
   ·skip
    refine MX.region ?_
    refine RG.val' .plain (FV.move rfl) rfl ?_
    obtain ⟨s33, hs33, h⟩ := bind_in h
    refine RG.val' .plain (FV.addc (i := z19) (j := 1) rfl rfl hs33) rfl ?_
    refine RG.val' .plain (FV.assign rfl) rfl ?_
    refine RG.nil ?_
    refine MX.inBlock ?_
    refine MX.region ?_
    refine RG.val' .plain (FV.move rfl) rfl ?_
    refine RG.val' .plain (FV.addN (i := i20) (j := 1) rfl rfl (by omega)) rfl ?_
    refine RG.val' .plain (FV.assign rfl) rfl ?_
    refine RG.nil ?_
    exact hJ29 (s33, i20 + 1) _ _ ⟨rfl, rfl, rfl, trivial⟩ ⟨hS21, hT22⟩ h
   ·skip
    refine MX.skip ?_
    refine MX.inBlock ?_
    refine MX.region ?_
    refine RG.val' .plain (FV.move rfl) rfl ?_
    refine RG.val' .plain (FV.addN (i := i20) (j := 1) rfl rfl (by omega)) rfl ?_
    refine RG.val' .plain (FV.assign rfl) rfl ?_
    refine RG.nil ?_
    exact hJ29 (z19, i20 + 1) _ _ ⟨rfl, rfl, rfl, trivial⟩ ⟨hS21, hT22⟩ h
  ·skip
   refine MX.exit rfl ?_
   have h := hh27 _ h
   try dsimp only at h
   refine MX.seq ?_
   refine MX.region ?_
   refine RG.val' .plain (FV.move rfl) rfl ?_
   refine RG.val' .plain (FV.assign rfl) rfl ?_
   refine RG.nil ?_
   refine MX.ret rfl ?_
   refine RT.leave (u := .int .i64 z19) hb0 Tryd.func49 rfl (.cons (.tmp rfl) .nil) rfl ?_
   obtain rfl := Option.some.inj h
   exact ⟨hS21.ag, fun w9 hw9 => rfl⟩
def wardmoteref18_One_p (n : Nat) (a0 : Int) : Option UInt64 :=
  some (shlU (1 : UInt64) (u64of a0).toNat)
set_option maxRecDepth 4000 in
set_option maxHeartbeats 4000000 in
theorem wardmoteref18_One_c (n : Nat) (L : List Nat) (w : World) (hL : ∀ b ∈ L, b < w.heap.size) (a0 : Int)  {r : UInt64} (h : wardmoteref18_One_p n a0 = some r) :
    Calls Tryd.prog 80 #[.int .i64 a0] w (Gives w fun w' u => u = .int .u64 (r.toNat : Int)) := by
  unfold wardmoteref18_One_p at h
  have hS0 := St.start w
  refine MX.start Tryd.func80 rfl rfl rfl (fun _ cs0 hb0 => ?_)
  refine MX.seq ?_
  refine MX.region ?_
  refine RG.val' .plain (FV.assign rfl) rfl ?_
  refine RG.nil ?_
  refine MX.seq ?_
  refine MX.region ?_
  refine RG.val' .plain (FV.move rfl) rfl ?_
  refine RG.val' .plain (FV.convU (i := a0) Tryd.underlying3 Tryd.underlying68 rfl) rfl ?_
  refine RG.val' .plain (FV.shlU (a := (1 : UInt64)) (j := (u64of a0).toNat) rfl rfl) rfl ?_
  refine RG.val' .plain (FV.assign rfl) rfl ?_
  refine RG.nil ?_
  refine MX.ret rfl ?_
  refine RT.leave (u := .int .u64 ((shlU (1 : UInt64) (u64of a0).toNat).toNat : Int)) hb0 Tryd.func80 rfl (.cons (.tmp rfl) .nil) rfl ?_
  obtain rfl := Option.some.inj h
  exact ⟨hS0.ag, fun w9 hw9 => rfl⟩
def tb50_8 : List (Nat × Nat × Nat) := [(0, 16777216, 8), (1, 33554432, 16777216), (0, 67108864, 2), (0, 134217728, 512), (12, 268435456, 201326592), (16, 536870912, 268435456), (34, 1073741824, 570425344), (64, 2147483648, 1073741824), (128, 4294967296, 2147483648), (0, 8589934592, 8), (512, 17179869184, 8589934592), (0, 34359738368, 2), (0, 68719476736, 512), (6144, 137438953472, 103079215104), (8192, 274877906944, 137438953472), (17408, 549755813888, 292057776128), (32768, 1099511627776, 549755813888), (65536, 2199023255552, 1099511627776), (511, 1024, 4294967296), (524287, 2048, 2199023255552)]
theorem body80 : bodyB Tryd.prog 80 = true := by kernel_rfl
def wardmoteref30_reached_l1 (n : Nat) (a1 : List Int) (a0 : TGraph) (J181 : UInt64 × Nat → Option UInt64) : UInt64 × Nat → Option UInt64
  | (u172, i173) => (if i173 < a1.length then (a1[i173]?).bind fun x188 => (idx a0.fEdges x188).bind fun x197 => (wardmoteref18_Has_p n u172 x197.1).bind fun y208 => (if y208 = true then (wardmoteref18_One_p n x197.1).bind fun y210 => (wardmoteref18_One_p n x197.2).bind fun y211 => J181 ((u172 ||| y210) ||| y211, i173 + 1) else (wardmoteref18_Has_p n u172 x197.2).bind fun y212 => jn (fun u216 => J181 (u216, i173 + 1)) (fun J220 => (if y212 = true then (wardmoteref18_One_p n x197.1).bind fun y223 => (wardmoteref18_One_p n x197.2).bind fun y224 => J220 ((u172 ||| y223) ||| y224) else J220 u172))) else some u172)
def wardmoteref30_reached_l2 (n : Nat) (a1 : List Int) (a0 : TGraph) (J122 : UInt64 × Nat → Option UInt64) : UInt64 × Nat → Option UInt64
  | (u113, i114) => (if i114 < 64 then Option.bind (loopF (wardmoteref30_reached_l1 n a1 a0) n (u113, 0)) (fun u172 => J122 (u172, i114 + 1)) else some u113)
def wardmoteref30_reached_p (n : Nat) (a0 : TGraph) (a1 : List Int) (a2 : Int) : Option UInt64 :=
  (wardmoteref18_One_p n a2).bind fun y6 => Option.bind (loopF (wardmoteref30_reached_l2 n a1 a0) n (y6, 0)) (fun u113 => some u113)
set_option maxRecDepth 4000 in
set_option maxHeartbeats 4000000 in
theorem wardmoteref30_reached_c (n : Nat) (L : List Nat) (w : World) (hL : ∀ b ∈ L, b < w.heap.size) (a0 : TGraph) {v0_1 : Value} (h0_1 : Rep.R w L [v0_1] a0.fEdges) (a1 : List Int) {v1_0 : Value} (h1_0 : Rep.R w L [v1_0] a1) (a2 : Int)  {r : UInt64} (h : wardmoteref30_reached_p n a0 a1 a2 = some r) :
    Calls Tryd.prog 50 #[.agg #[.int .i64 a0.fN, v0_1], v1_0, .int .i64 a2] w (Gives w fun w' u => u = .int .u64 (r.toNat : Int)) := by
  unfold wardmoteref30_reached_p at h
  have hS0 := St.start w
  refine MX.start Tryd.func50 rfl rfl rfl (fun _ cs0 hb0 => ?_)
  refine MX.seq ?_
  refine MX.region ?_
  refine RG.new .plain rfl (Does.box (vs := [.int .i64 a0.fN, v0_1]) hS0 rfl rfl) (fun w2 b5 hS3 hT4 => ?_)
  refine RG.val' .plain (FV.assign rfl) rfl ?_
  refine RG.nil ?_
  refine MX.seq ?_
  refine MX.region ?_
  refine RG.val' .plain (FV.move rfl) rfl ?_
  obtain ⟨y6, hy6, h⟩ := bind_in h
  refine RG.callq' (v := .int .u64 (y6.toNat : Int)) (fst := []) (cap := []) .plain body80 rfl (evs_cons rfl evs_nil) (fun w9 hw9 => wardmoteref18_One_c n _ w9 (hS3.hL0 hL hw9) a2 hy6) rfl ?_
  refine RG.val' .plain (FV.assign rfl) rfl ?_
  refine RG.nil ?_
  refine MX.seq ?_
  refine MX.seq ?_
  refine MX.region ?_
  refine RG.val' .plain (FV.assign rfl) rfl ?_
  refine RG.nil ?_
  refine MX.block ?_
  obtain ⟨o120, ho119, hh121⟩ := bind_in2 h
  refine MX.loop (α := UInt64 × Nat) (fun ⟨u113, i114⟩ => [(1, v1_0), (3, .pointer (some ⟨b5, 0, none⟩)), (7, .int .u64 (u113.toNat : Int)), (8, .int .i64 ((i114 : Nat) : Int))]) (fun ⟨u113, i114⟩ wx114 => St w wx114 [.cells b5 [.int .i64 a0.fN, v0_1] 40] ∧ Tr w2 [.cells b5 [.int .i64 a0.fN, v0_1] 40] wx114 [.cells b5 [.int .i64 a0.fN, v0_1] 40]) (fun ⟨u113, i114⟩ => (u113, i114)) (y6, 0) ho119 ⟨rfl, rfl, rfl, rfl, trivial⟩ ⟨hS3, Tr.refl _ _⟩ ?_
  rintro J122 ⟨u113, i114⟩ wx114 hJ123 ⟨hS115, hT116⟩ h
  unfold wardmoteref30_reached_l2 at h
  try dsimp only at h
  refine MX.seq ?_
  refine MX.seq ?_
  refine MX.region ?_
  refine RG.val' .plain (FV.move rfl) rfl ?_
  refine RG.val' .plain (FV.lssN (i := i114) (j := 64) rfl rfl) rfl ?_
  refine RG.nil ?_
  refine MX.ifd rfl h (fun c124 h => ?_) (fun c124 h => ?_)
  ·skip
   refine MX.skip ?_
   refine MX.seq ?_
   refine MX.block ?_
   refine MX.seq ?_
   refine MX.region ?_
   refine RG.val' .plain (FV.assign rfl) rfl ?_
   refine RG.nil ?_
   refine MX.block ?_
   obtain ⟨o179, ho178, hh180⟩ := bind_in2 h
   refine MX.loop (α := UInt64 × Nat) (fun ⟨u172, i173⟩ => [(1, v1_0), (3, .pointer (some ⟨b5, 0, none⟩)), (7, .int .u64 (u172.toNat : Int)), (8, .int .i64 ((i114 : Nat) : Int)), (9, .int .i64 ((i173 : Nat) : Int))]) (fun ⟨u172, i173⟩ wx173 => St w wx173 [.cells b5 [.int .i64 a0.fN, v0_1] 40] ∧ Tr wx114 [.cells b5 [.int .i64 a0.fN, v0_1] 40] wx173 [.cells b5 [.int .i64 a0.fN, v0_1] 40]) (fun ⟨u172, i173⟩ => (u172, i173)) (u113, 0) ho178 ⟨rfl, rfl, rfl, rfl, rfl, trivial⟩ ⟨hS115, Tr.refl _ _⟩ ?_
   rintro J181 ⟨u172, i173⟩ wx173 hJ182 ⟨hS174, hT175⟩ h
   unfold wardmoteref30_reached_l1 at h
   try dsimp only at h
   refine MX.seq ?_
   refine MX.seq ?_
   refine MX.region ?_
   refine RG.val' .plain (FV.move rfl) rfl ?_
   refine RG.val' .plain (FV.move rfl) rfl ?_
   have hm184 := Rep.mv h1_0 (Tr.trans hT4 (Tr.trans hT116 hT175))
   have hl183 : a1.length ≤ 281474976710656 := Rep.lenle hm184
   refine RG.val' .plain (FV.len (xs := a1) Tryd.underlying22 rfl hm184) rfl ?_
   refine RG.val' .plain (FV.lssN (i := i173) (j := a1.length) rfl rfl) rfl ?_
   refine RG.nil ?_
   refine MX.ifd rfl h (fun c185 h => ?_) (fun c185 h => ?_)
   ·skip
    refine MX.skip ?_
    refine MX.seq ?_
    refine MX.block ?_
    refine MX.seq ?_
    refine MX.drawT 20 tb50_8 (by kernel_rfl) (by kernel_rfl) (by kernel_rfl) (fun kt186 kp187 => ?_)
    refine RD.vP 0 1 kt186 rfl kp187 .plain (fun _ => FV.fieldAddr (off := 1) (by kernel_rfl) rfl) rfl ?_
    refine RD.val (i := 1) (m' := 3) (W := 786880) (takeC_ok kt186 (by kernel_rfl)) rfl kp187 .plain (FV.load1 (by kernel_rfl) rfl ((hS174.memA .hd) 1 _ rfl)) rfl ?_
    refine RD.vP 2 7 kt186 rfl kp187 .plain (fun _ => FV.move rfl) rfl ?_
    refine RD.vP 3 15 kt186 rfl kp187 .plain (fun _ => FV.move rfl) rfl ?_
    obtain ⟨x188, hx188, h⟩ := bind_in h
    obtain ⟨A189, c190, he191, hk192, cs193, hr194, hm195⟩ := Rep.nth hm184 hx188
    have he196 : cs193 = [.int .i64 x188] := hr194; subst he196
    refine RD.vP 4 31 kt186 rfl kp187 .plain (fun _ => FV.idxAddr (m := 1) (i := i173) (by kernel_rfl) rfl he191 rfl rfl hk192) rfl ?_
    refine RD.val (i := 5) (m' := 63) (W := 786880) (takeC_ok kt186 (by kernel_rfl)) rfl kp187 .plain (FV.load1 (by kernel_rfl) rfl (hm195 0 _ rfl)) rfl ?_
    obtain ⟨x197, hx197, h⟩ := bind_in h
    obtain ⟨hi198, hx199⟩ := idx_in hx197
    have hm207 := Rep.mv h0_1 (Tr.trans hT4 (Tr.trans hT116 hT175))
    obtain ⟨A200, c201, he202, hk203, cs204, hr205, hm206⟩ := Rep.nth hm207 hx199
    obtain rfl := op_A46 hr205
    refine RD.vP 6 127 kt186 rfl kp187 .plain (fun _ => FV.idxAddr (m := 2) (i := x188.toNat) (by kernel_rfl) rfl he202 rfl hi198 hk203) rfl ?_
    refine RD.vP 7 255 kt186 rfl kp187 .plain (fun _ => FV.indexArr (m := 1) (k := 0) (len := 2) (by kernel_rfl) rfl rfl rfl (by omega)) rfl ?_
    refine RD.val (i := 8) (m' := 511) (W := 786432) (takeC_ok kt186 (by kernel_rfl)) rfl kp187 .plain (FV.load1 (by kernel_rfl) rfl (hm206 0 _ rfl)) rfl ?_
    refine RD.vP 9 1023 kt186 rfl kp187 .plain (fun _ => FV.fieldAddr (off := 1) (by kernel_rfl) rfl) rfl ?_
    refine RD.val (i := 10) (m' := 2047) (W := 753664) (takeC_ok kt186 (by kernel_rfl)) rfl kp187 .plain (FV.load1 (by kernel_rfl) rfl ((hS174.memA .hd) 1 _ rfl)) rfl ?_
    refine RD.vP 11 4095 kt186 rfl kp187 .plain (fun _ => FV.move rfl) rfl ?_
    refine RD.vP 12 8191 kt186 rfl kp187 .plain (fun _ => FV.move rfl) rfl ?_
    refine RD.vP 13 16383 kt186 rfl kp187 .plain (fun _ => FV.idxAddr (m := 1) (i := i173) (by kernel_rfl) rfl he191 rfl rfl hk192) rfl ?_
    refine RD.val (i := 14) (m' := 32767) (W := 753664) (takeC_ok kt186 (by kernel_rfl)) rfl kp187 .plain (FV.load1 (by kernel_rfl) rfl (hm195 0 _ rfl)) rfl ?_
    refine RD.vP 15 65535 kt186 rfl kp187 .plain (fun _ => FV.idxAddr (m := 2) (i := x188.toNat) (by kernel_rfl) rfl he202 rfl hi198 hk203) rfl ?_
    refine RD.vP 16 131071 kt186 rfl kp187 .plain (fun _ => FV.indexArr (m := 1) (k := 1) (len := 2) (by kernel_rfl) rfl rfl rfl (by omega)) rfl ?_
    refine RD.val (i := 17) (m' := 262143) (W := 524288) (takeC_ok kt186 (by kernel_rfl)) rfl kp187 .plain (FV.load1 (by kernel_rfl) rfl (hm206 1 _ rfl)) rfl ?_
    refine RD.vP 18 524287 kt186 rfl kp187 .plain (fun _ => FV.assign rfl) rfl ?_
    refine RD.vP 19 1048575 kt186 rfl kp187 .plain (fun _ => FV.assign rfl) rfl ?_
    refine RD.done (doneD_ok kt186 (by kernel_rfl)) ?_
    refine MX.seq ?_
    refine MX.region ?_
    refine RG.val' .plain (FV.move rfl) rfl ?_
    refine RG.val' .plain (FV.move rfl) rfl ?_
    obtain ⟨y208, hy208, h⟩ := bind_in h
    refine RG.callq' (v := .bool y208) (fst := []) (cap := []) .plain body79 rfl (evs_cons rfl (evs_cons rfl evs_nil)) (fun w9 hw9 => wardmoteref18_Has_c n _ w9 (hS174.hL0 hL hw9) u172 x197.1 hy208) rfl ?_
    refine RG.val' .plain (FV.move rfl) rfl ?_
    refine RG.ifb (s := 45) rfl h (fun c209 h => ?_) (fun c209 h => ?_)
    ·skip
     refine RG.off (.no rfl rfl) rfl ?_
     refine RG.off (.no rfl rfl) rfl ?_
     refine RG.off (.no rfl rfl) rfl ?_
     refine RG.val' .plain (FV.pick_t rfl rfl) rfl ?_
     refine RG.nil ?_
     refine MX.cond_t rfl ?_
     refine MX.region ?_
     refine RG.val' .plain (FV.move rfl) rfl ?_
     refine RG.val' .plain (FV.move rfl) rfl ?_
     obtain ⟨y210, hy210, h⟩ := bind_in h
     refine RG.callq' (v := .int .u64 (y210.toNat : Int)) (fst := []) (cap := []) .plain body80 rfl (evs_cons rfl evs_nil) (fun w9 hw9 => wardmoteref18_One_c n _ w9 (hS174.hL0 hL hw9) x197.1 hy210) rfl ?_
     refine RG.val' .plain (FV.orU (a := u172) (b := y210) rfl rfl) rfl ?_
     refine RG.val' .plain (FV.move rfl) rfl ?_
     obtain ⟨y211, hy211, h⟩ := bind_in h
     refine RG.callq' (v := .int .u64 (y211.toNat : Int)) (fst := []) (cap := []) .plain body80 rfl (evs_cons rfl evs_nil) (fun w9 hw9 => wardmoteref18_One_c n _ w9 (hS174.hL0 hL hw9) x197.2 hy211) rfl ?_
     refine RG.val' .plain (FV.orU (a := u172 ||| y210) (b := y211) rfl rfl) rfl ?_
     refine RG.val' .plain (FV.assign rfl) rfl ?_
     refine RG.nil ?_
     refine MX.inBlock ?_
     refine MX.region ?_
     refine RG.val' .plain (FV.move rfl) rfl ?_
     refine RG.val' .plain (FV.addN (i := i173) (j := 1) rfl rfl (by omega)) rfl ?_
     refine RG.val' .plain (FV.assign rfl) rfl ?_
     refine RG.nil ?_
     exact hJ182 ((u172 ||| y210) ||| y211, i173 + 1) _ _ ⟨rfl, rfl, rfl, rfl, rfl, trivial⟩ ⟨hS174, hT175⟩ h
    ·skip
     refine RG.val' (.yes rfl rfl) (FV.move rfl) rfl ?_
     refine RG.val' (.yes rfl rfl) (FV.move rfl) rfl ?_
     obtain ⟨y212, hy212, h⟩ := bind_in h
     refine RG.callq' (v := .bool y212) (fst := []) (cap := []) (.yes rfl rfl) body79 rfl (evs_cons rfl (evs_cons rfl evs_nil)) (fun w9 hw9 => wardmoteref18_Has_c n _ w9 (hS174.hL0 hL hw9) u172 x197.2 hy212) rfl ?_
     refine RG.val' .plain (FV.pick_f rfl rfl) rfl ?_
     refine RG.nil ?_
     refine MX.join (α := UInt64) (fun u216 => [(1, v1_0), (3, .pointer (some ⟨b5, 0, none⟩)), (7, .int .u64 (u216.toNat : Int)), (8, .int .i64 ((i114 : Nat) : Int)), (9, .int .i64 ((i173 : Nat) : Int))]) (fun u216 wx216 => St w wx216 [.cells b5 [.int .i64 a0.fN, v0_1] 40] ∧ Tr wx173 [.cells b5 [.int .i64 a0.fN, v0_1] 40] wx216 [.cells b5 [.int .i64 a0.fN, v0_1] 40]) (fun u216 => u216) h ?_ ?_
     ·skip
      rintro u216 wx216 ⟨hS217, hT218⟩ h
      try dsimp only at h
      refine MX.inBlock ?_
      refine MX.region ?_
      refine RG.val' .plain (FV.move rfl) rfl ?_
      refine RG.val' .plain (FV.addN (i := i173) (j := 1) rfl rfl (by omega)) rfl ?_
      refine RG.val' .plain (FV.assign rfl) rfl ?_
      refine RG.nil ?_
      exact hJ182 (u216, i173 + 1) _ _ ⟨rfl, rfl, rfl, rfl, rfl, trivial⟩ ⟨hS217, (Tr.trans hT175 hT218)⟩ h
     ·skip
      intro J220 hJ221 h
      try dsimp only at h
      refine MX.ifb rfl h (fun c222 h => ?_) (fun c222 h => ?_)
      ·skip
       refine MX.region ?_
       refine RG.val' .plain (FV.move rfl) rfl ?_
       refine RG.val' .plain (FV.move rfl) rfl ?_
       obtain ⟨y223, hy223, h⟩ := bind_in h
       refine RG.callq' (v := .int .u64 (y223.toNat : Int)) (fst := []) (cap := []) .plain body80 rfl (evs_cons rfl evs_nil) (fun w9 hw9 => wardmoteref18_One_c n _ w9 (hS174.hL0 hL hw9) x197.1 hy223) rfl ?_
       refine RG.val' .plain (FV.orU (a := u172) (b := y223) rfl rfl) rfl ?_
       refine RG.val' .plain (FV.move rfl) rfl ?_
       obtain ⟨y224, hy224, h⟩ := bind_in h
       refine RG.callq' (v := .int .u64 (y224.toNat : Int)) (fst := []) (cap := []) .plain body80 rfl (evs_cons rfl evs_nil) (fun w9 hw9 => wardmoteref18_One_c n _ w9 (hS174.hL0 hL hw9) x197.2 hy224) rfl ?_
       refine RG.val' .plain (FV.orU (a := u172 ||| y223) (b := y224) rfl rfl) rfl ?_
       refine RG.val' .plain (FV.assign rfl) rfl ?_
       refine RG.nil ?_
       exact hJ221 ((u172 ||| y223) ||| y224) _ _ ⟨rfl, rfl, rfl, rfl, rfl, trivial⟩ ⟨hS174, Tr.refl _ _⟩ h
      ·skip
       refine MX.skip ?_
       exact hJ221 u172 _ _ ⟨rfl, rfl, rfl, rfl, rfl, trivial⟩ ⟨hS174, Tr.refl _ _⟩ h
   ·skip
    refine MX.exit rfl ?_
    have h := hh180 _ h
    try dsimp only at h
    refine MX.inBlock ?_
    refine MX.region ?_
    refine RG.val' .plain (FV.move rfl) rfl ?_
    refine RG.val' .plain (FV.addN (i := i114) (j := 1) rfl rfl (by omega)) rfl ?_
    refine RG.val' .plain (FV.assign rfl) rfl ?_
    refine RG.nil ?_
    exact hJ123 (u172, i114 + 1) _ _ ⟨rfl, rfl, rfl, rfl, trivial⟩ ⟨hS174, (Tr.trans hT116 hT175)⟩ h
  ·skip
   refine MX.exit rfl ?_
   have h := hh121 _ h
   try dsimp only at h
   refine MX.seq ?_
   refine MX.region ?_
   refine RG.val' .plain (FV.move rfl) rfl ?_
   refine RG.val' .plain (FV.assign rfl) rfl ?_
   refine RG.nil ?_
   refine MX.ret rfl ?_
   refine RT.leave (u := .int .u64 (u113.toNat : Int)) hb0 Tryd.func50 rfl (.cons (.tmp rfl) .nil) rfl ?_
   obtain rfl := Option.some.inj h
   exact ⟨hS115.ag, fun w9 hw9 => rfl⟩
def wardmoteref30_least_l1 (n : Nat) (a0 : UInt64) (J23 : Int → Option Int) : Int → Option Int
  | z15 => (wardmoteref18_Has_p n a0 z15).bind fun y25 => (if y25 = true then some z15 else (chk (z15 + 1)).bind fun s27 => J23 s27)
def wardmoteref30_least_p (n : Nat) (a0 : UInt64) : Option Int :=
  Option.bind (loopF (wardmoteref30_least_l1 n a0) n 0) (fun z15 => some z15)
set_option maxRecDepth 4000 in
set_option maxHeartbeats 4000000 in
theorem wardmoteref30_least_c (n : Nat) (L : List Nat) (w : World) (hL : ∀ b ∈ L, b < w.heap.size) (a0 : UInt64)  {r : Int} (h : wardmoteref30_least_p n a0 = some r) :
    Calls Tryd.prog 51 #[.int .u64 (a0.toNat : Int)] w (Gives w fun w' u => u = .int .i64 r) := by
  unfold wardmoteref30_least_p at h
  have hS0 := St.start w
  refine MX.start Tryd.func51 rfl rfl rfl (fun _ cs0 hb0 => ?_)
  refine MX.seq ?_
  refine MX.region ?_
  refine RG.val' .plain (FV.assign rfl) rfl ?_
  refine RG.nil ?_
  refine MX.seq ?_
  refine MX.region ?_
  refine RG.val' .plain (FV.assign rfl) rfl ?_
  refine RG.nil ?_
  refine MX.seq ?_
  refine MX.block ?_
  obtain ⟨o21, ho20, hh22⟩ := bind_in2 h
  refine MX.loop (α := Int) (fun z15 => [(0, .int .u64 (a0.toNat : Int)), (3, .int .i64 z15)]) (fun z15 wx15 => St w wx15 [] ∧ Tr w [] wx15 []) (fun z15 => z15) 0 ho20 ⟨rfl, rfl, trivial⟩ ⟨hS0, Tr.refl _ _⟩ ?_
  rintro J23 z15 wx15 hJ24 ⟨hS16, hT17⟩ h
  unfold wardmoteref30_least_l1 at h
  try dsimp only at h
  refine MX.seq ?_
  refine MX.seq ?_
  refine MX.region ?_
  refine RG.val' .plain (FV.move rfl) rfl ?_
  refine RG.val' .plain (FV.move rfl) rfl ?_
  obtain ⟨y25, hy25, h⟩ := bind_in h
  refine RG.callq' (v := .bool y25) (fst := []) (cap := []) .plain body79 rfl (evs_cons rfl (evs_cons rfl evs_nil)) (fun w9 hw9 => wardmoteref18_Has_c n _ w9 (hS16.hL0 hL hw9) a0 z15 hy25) rfl ?_
  refine RG.val' .plain (FV.not rfl) rfl ?_
  refine RG.nil ?_
  refine MX.ifnb rfl h (fun c26 h => ?_) (fun c26 h => ?_)
  ·skip
   refine MX.exit rfl ?_
   have h := hh22 _ h
   try dsimp only at h
   refine MX.seq ?_
   refine MX.region ?_
   refine RG.val' .plain (FV.move rfl) rfl ?_
   refine RG.val' .plain (FV.assign rfl) rfl ?_
   refine RG.nil ?_
   refine MX.ret rfl ?_
   refine RT.leave (u := .int .i64 z15) hb0 Tryd.func51 rfl (.cons (.tmp rfl) .nil) rfl ?_
   obtain rfl := Option.some.inj h
   exact ⟨hS16.ag, fun w9 hw9 => rfl⟩
  ·skip
   refine MX.skip ?_
   refine MX.block ?_
   refine MX.region ?_
   refine RG.val' .plain (FV.move rfl) rfl ?_
   obtain ⟨s27, hs27, h⟩ := bind_in h
   refine RG.val' .plain (FV.addc (i := z15) (j := 1) rfl rfl hs27) rfl ?_
   refine RG.val' .plain (FV.assign rfl) rfl ?_
   refine RG.nil ?_
   refine MX.inBlock ?_
   exact hJ24 s27 _ _ ⟨rfl, rfl, trivial⟩ ⟨hS16, hT17⟩ h
def tb27_4 : List (Nat × Nat × Nat) := [(0, 16384, 8), (0, 32768, 2), (0, 65536, 4), (0, 131072, 128), (12, 262144, 196608), (16, 524288, 262144), (35, 1048576, 573440), (64, 2097152, 1048576), (192, 4194304, 2097152), (256, 8388608, 4194432), (768, 16777216, 12582912), (1280, 33554432, 20971520), (2048, 67108864, 33554436), (2048, 134217728, 33554560), (14336, 268435456, 234881024), (18432, 536870912, 301989888), (2048, 1073741824, 33554436), (2048, 2147483648, 33554560), (133120, 4294967296, 2181038080), (329728, 8589934592, 5402263552), (526336, 17179869184, 8623489024), (1083392, 34359738368, 17750294528), (2099456, 68719476736, 34397487104), (4194560, 137438953472, 68723671040)]
def tb27_6 : List (Nat × Nat × Nat) := [(0, 274877906944, 4), (1, 549755813888, 274877906944), (0, 1099511627776, 2), (4, 2199023255552, 1099511627776), (8, 4398046511104, 2199023255552), (18, 8796093022208, 4947802324992), (40, 17592186044416, 8796093022208), (64, 35184372088832, 17592186044424), (64, 70368744177664, 17592186044420), (64, 140737488355328, 17592186044418), (576, 281474976710656, 158329674399744), (1472, 562949953421312, 404620279021568), (64, 1125899906842624, 17592186044418), (6208, 2251799813685248, 1706442046308352), (8256, 4503599627370496, 2269391999729664), (32767, 64, 4503599627370496)]
theorem body48 : bodyB Tryd.prog 48 = true := by kernel_rfl
theorem body49 : bodyB Tryd.prog 49 = true := by kernel_rfl
theorem body50 : bodyB Tryd.prog 50 = true := by kernel_rfl
theorem body51 : bodyB Tryd.prog 51 = true := by kernel_rfl
def wardmoteref30_Right_l1 (n : Nat) (a2 : List Int) (a0 : TGraph) (a1 : UInt64) (J46 : Nat → Option (Bool ⊕ Unit)) : Nat → Option (Bool ⊕ Unit)
  | i38 => (if i38 < a2.length then (a2[i38]?).bind fun x53 => (wardmoteref30_Inner_p n a0 a1 x53).bind fun y62 => (if y62 = true then (if 0 < i38 then (a2[i38 - 1]?).bind fun x66 => (if x53 ≤ x66 then some (.inl false) else J46 (i38 + 1)) else J46 (i38 + 1)) else some (.inl false)) else some (.inr ()))
def wardmoteref30_Right_p (n : Nat) (a0 : TGraph) (a1 : UInt64) (a2 : List Int) : Option Bool :=
  thn (loopF (wardmoteref30_Right_l1 n a2 a0 a1) n 0) (fun _ => (wardmoteref18_Size_p n a1).bind fun y78 => (chk (y78 - 1)).bind fun s79 => (if ((a2.length : Nat) : Int) = s79 then (wardmoteref30_least_p n a1).bind fun y81 => (wardmoteref30_reached_p n a0 a2 y81).bind fun y82 => some (decide (y82 = a1)) else some false))
set_option maxRecDepth 4000 in
set_option maxHeartbeats 4000000 in
theorem wardmoteref30_Right_c (n : Nat) (L : List Nat) (w : World) (hL : ∀ b ∈ L, b < w.heap.size) (a0 : TGraph) {v0_1 : Value} (h0_1 : Rep.R w L [v0_1] a0.fEdges) (a1 : UInt64) (a2 : List Int) {v2_0 : Value} (h2_0 : Rep.R w L [v2_0] a2)  {r : Bool} (h : wardmoteref30_Right_p n a0 a1 a2 = some r) :
    Calls Tryd.prog 27 #[.agg #[.int .i64 a0.fN, v0_1], .int .u64 (a1.toNat : Int), v2_0] w (Gives w fun w' u => u = .bool r) := by
  unfold wardmoteref30_Right_p at h
  have hS0 := St.start w
  refine MX.start Tryd.func27 rfl rfl rfl (fun _ cs0 hb0 => ?_)
  refine MX.seq ?_
  refine MX.region ?_
  refine RG.new .plain rfl (Does.box (vs := [.int .i64 a0.fN, v0_1]) hS0 rfl rfl) (fun w2 b5 hS3 hT4 => ?_)
  refine RG.val' .plain (FV.assign rfl) rfl ?_
  refine RG.nil ?_
  refine MX.seq ?_
  refine MX.seq ?_
  refine MX.region ?_
  refine RG.val' .plain (FV.assign rfl) rfl ?_
  refine RG.nil ?_
  refine MX.block ?_
  obtain ⟨o44, ho43, hh45⟩ := thn_in h
  refine MX.loop (α := Nat) (fun i38 => [(1, .int .u64 (a1.toNat : Int)), (2, v2_0), (3, .pointer (some ⟨b5, 0, none⟩)), (7, .int .i64 ((i38 : Nat) : Int))]) (fun i38 wx38 => St w wx38 [.cells b5 [.int .i64 a0.fN, v0_1] 40] ∧ Tr w2 [.cells b5 [.int .i64 a0.fN, v0_1] 40] wx38 [.cells b5 [.int .i64 a0.fN, v0_1] 40]) (fun i38 => i38) 0 ho43 ⟨rfl, rfl, rfl, rfl, trivial⟩ ⟨hS3, Tr.refl _ _⟩ ?_
  rintro J46 i38 wx38 hJ47 ⟨hS39, hT40⟩ h
  unfold wardmoteref30_Right_l1 at h
  try dsimp only at h
  refine MX.seq ?_
  refine MX.seq ?_
  refine MX.region ?_
  refine RG.val' .plain (FV.move rfl) rfl ?_
  refine RG.val' .plain (FV.move rfl) rfl ?_
  have hm49 := Rep.mv h2_0 (Tr.trans hT4 hT40)
  have hl48 : a2.length ≤ 281474976710656 := Rep.lenle hm49
  refine RG.val' .plain (FV.len (xs := a2) Tryd.underlying22 rfl hm49) rfl ?_
  refine RG.val' .plain (FV.lssN (i := i38) (j := a2.length) rfl rfl) rfl ?_
  refine RG.nil ?_
  refine MX.ifd rfl h (fun c50 h => ?_) (fun c50 h => ?_)
  ·skip
   refine MX.skip ?_
   refine MX.seq ?_
   refine MX.block ?_
   refine MX.seq ?_
   refine MX.drawT 24 tb27_4 (by kernel_rfl) (by kernel_rfl) (by kernel_rfl) (fun kt51 kp52 => ?_)
   refine RD.val (i := 0) (m' := 1) (W := 16777152) (takeC_ok kt51 (by kernel_rfl)) rfl kp52 .plain (FV.loadN (cs := [.int .i64 a0.fN, v0_1]) (by kernel_rfl) rfl (hS39.memA .hd)) rfl ?_
   refine RD.vP 1 3 kt51 rfl kp52 .plain (fun _ => FV.move rfl) rfl ?_
   refine RD.vP 2 7 kt51 rfl kp52 .plain (fun _ => FV.move rfl) rfl ?_
   refine RD.vP 3 15 kt51 rfl kp52 .plain (fun _ => FV.move rfl) rfl ?_
   obtain ⟨x53, hx53, h⟩ := bind_in h
   obtain ⟨A54, c55, he56, hk57, cs58, hr59, hm60⟩ := Rep.nth hm49 hx53
   have he61 : cs58 = [.int .i64 x53] := hr59; subst he61
   refine RD.vP 4 31 kt51 rfl kp52 .plain (fun _ => FV.idxAddr (m := 1) (i := i38) (by kernel_rfl) rfl he56 rfl rfl hk57) rfl ?_
   refine RD.val (i := 5) (m' := 63) (W := 16777152) (takeC_ok kt51 (by kernel_rfl)) rfl kp52 .plain (FV.load1 (by kernel_rfl) rfl (hm60 0 _ rfl)) rfl ?_
   obtain ⟨y62, hy62, h⟩ := bind_in h
   have hm63 := Rep.mv h0_1 (Tr.trans hT4 hT40)
   refine RD.callq (i := 6) (m' := 127) (W := 16777088) (takeC_ok kt51 (by kernel_rfl)) rfl kp52 (v := .bool y62) (fst := []) (cap := []) .plain body48 rfl (evs_cons rfl (evs_cons rfl (evs_cons rfl evs_nil))) (fun w9 hw9 => wardmoteref30_Inner_c n _ w9 (hS39.hL0 hL hw9) a0 (Rep.keep0 (Rep.dropO (O := [.cells b5 [.int .i64 a0.fN, v0_1] 40]) hm63) hw9) a1 x53 hy62) rfl ?_
   refine RD.vP 7 255 kt51 rfl kp52 .plain (fun _ => FV.not rfl) rfl ?_
   refine RD.vP 8 511 kt51 rfl kp52 .plain (fun _ => FV.move rfl) rfl ?_
   refine RD.ifnb (s := 22) rfl h (fun c64 h => ?_) (fun c64 h => ?_)
   ·skip
    refine RD.vP 9 1023 kt51 rfl kp52 (.yes rfl rfl) (fun _ => FV.move rfl) rfl ?_
    refine RD.vP 10 2047 kt51 rfl kp52 (.yes rfl rfl) (fun _ => FV.gtrN (i := i38) (j := 0) rfl rfl) rfl ?_
    refine RD.vP 11 4095 kt51 rfl kp52 (.yes rfl rfl) (fun _ => FV.move rfl) rfl ?_
    refine RD.ifd (s := 25) rfl h (fun c65 h => ?_) (fun c65 h => ?_)
    ·skip
     refine RD.vP 12 8191 kt51 rfl kp52 (.yes rfl rfl) (fun _ => FV.move rfl) rfl ?_
     refine RD.vP 13 16383 kt51 rfl kp52 (.yes rfl rfl) (fun _ => FV.move rfl) rfl ?_
     refine RD.vP 14 32767 kt51 rfl kp52 (.yes rfl rfl) (fun _ => FV.idxAddr (m := 1) (i := i38) (by kernel_rfl) rfl he56 rfl rfl hk57) rfl ?_
     refine RD.val (i := 15) (m' := 65535) (W := 14680064) (takeC_ok kt51 (by kernel_rfl)) rfl kp52 (.yes rfl rfl) (FV.load1 (by kernel_rfl) rfl (hm60 0 _ rfl)) rfl ?_
     refine RD.vP 16 131071 kt51 rfl kp52 (.yes rfl rfl) (fun _ => FV.move rfl) rfl ?_
     refine RD.vP 17 262143 kt51 rfl kp52 (.yes rfl rfl) (fun _ => FV.move rfl) rfl ?_
     refine RD.vP 18 524287 kt51 rfl kp52 (.yes rfl rfl) (fun _ => FV.subN (i := i38) (j := 1) rfl rfl (by omega) (by omega)) rfl ?_
     obtain ⟨x66, hx66, h⟩ := bind_in h
     obtain ⟨A67, c68, he69, hk70, cs71, hr72, hm73⟩ := Rep.nth hm49 hx66
     have he74 : cs71 = [.int .i64 x66] := hr72; subst he74
     refine RD.vP 19 1048575 kt51 rfl kp52 (.yes rfl rfl) (fun _ => FV.idxAddr (m := 1) (i := i38 - 1) (by kernel_rfl) rfl he69 rfl rfl hk70) rfl ?_
     refine RD.val (i := 20) (m' := 2097151) (W := 14680064) (takeC_ok kt51 (by kernel_rfl)) rfl kp52 (.yes rfl rfl) (FV.load1 (by kernel_rfl) rfl (hm73 0 _ rfl)) rfl ?_
     refine RD.vP 21 4194303 kt51 rfl kp52 (.yes rfl rfl) (fun _ => FV.leq (i := x53) (j := x66) rfl rfl) rfl ?_
     refine RD.vP 22 8388607 kt51 rfl kp52 (.yes rfl rfl) (fun _ => FV.pick_t rfl rfl) rfl ?_
     refine RD.vP 23 16777215 kt51 rfl kp52 .plain (fun _ => FV.pick_f rfl rfl) rfl ?_
     refine RD.done (doneD_ok kt51 (by kernel_rfl)) ?_
     refine MX.ifd rfl h (fun c75 h => ?_) (fun c75 h => ?_)
     ·skip
      refine MX.seq ?_
      refine MX.region ?_
      refine RG.val' .plain (FV.assign rfl) rfl ?_
      refine RG.nil ?_
      have h := thn_inl h hh45
      refine MX.ret rfl ?_
      refine RT.leave (u := .bool false) hb0 Tryd.func27 rfl (.cons (.tmp rfl) .nil) rfl ?_
      obtain rfl := Option.some.inj h
      exact ⟨hS39.ag, fun w9 hw9 => rfl⟩
     ·skip
      refine MX.skip ?_
      refine MX.inBlock ?_
      refine MX.region ?_
      refine RG.val' .plain (FV.move rfl) rfl ?_
      refine RG.val' .plain (FV.addN (i := i38) (j := 1) rfl rfl (by omega)) rfl ?_
      refine RG.val' .plain (FV.assign rfl) rfl ?_
      refine RG.nil ?_
      exact hJ47 (i38 + 1) _ _ ⟨rfl, rfl, rfl, rfl, trivial⟩ ⟨hS39, hT40⟩ h
    ·skip
     refine RD.offs 4194303 2 [(12, 26), (13, 27), (14, 28), (15, 29), (16, 30), (17, 31), (18, 32), (19, 33), (20, 34), (21, 35)] (F := [(25, false)]) (U := []) kt51 kp52 (.cons rfl .nil) .nil ?_
     dsimp only [offS, List.map]
     refine RD.vP 22 8388607 kt51 rfl kp52 (.yes rfl rfl) (fun _ => FV.pick_f rfl rfl) rfl ?_
     refine RD.vP 23 16777215 kt51 rfl kp52 .plain (fun _ => FV.pick_f rfl rfl) rfl ?_
     refine RD.done (doneD_ok kt51 (by kernel_rfl)) ?_
     refine MX.cond_f rfl ?_
     refine MX.skip ?_
     refine MX.inBlock ?_
     refine MX.region ?_
     refine RG.val' .plain (FV.move rfl) rfl ?_
     refine RG.val' .plain (FV.addN (i := i38) (j := 1) rfl rfl (by omega)) rfl ?_
     refine RG.val' .plain (FV.assign rfl) rfl ?_
     refine RG.nil ?_
     exact hJ47 (i38 + 1) _ _ ⟨rfl, rfl, rfl, rfl, trivial⟩ ⟨hS39, hT40⟩ h
   ·skip
    refine RD.offs 8388607 1 [(9, 23), (10, 24), (11, 25), (12, 26), (13, 27), (14, 28), (15, 29), (16, 30), (17, 31), (18, 32), (19, 33), (20, 34), (21, 35), (22, 36)] (F := [(22, true)]) (U := []) kt51 kp52 (.cons rfl .nil) .nil ?_
    dsimp only [offS, List.map]
    refine RD.vP 23 16777215 kt51 rfl kp52 .plain (fun _ => FV.pick_t rfl rfl) rfl ?_
    refine RD.done (doneD_ok kt51 (by kernel_rfl)) ?_
    refine MX.cond_t rfl ?_
    refine MX.seq ?_
    refine MX.region ?_
    refine RG.val' .plain (FV.assign rfl) rfl ?_
    refine RG.nil ?_
    have h := thn_inl h hh45
    refine MX.ret rfl ?_
    refine RT.leave (u := .bool false) hb0 Tryd.func27 rfl (.cons (.tmp rfl) .nil) rfl ?_
    obtain rfl := Option.some.inj h
    exact ⟨hS39.ag, fun w9 hw9 => rfl⟩
  ·skip
   refine MX.exit rfl ?_
   have h := thn_inr h hh45
   try dsimp only at h
   refine MX.seq ?_
   refine MX.drawT 16 tb27_6 (by kernel_rfl) (by kernel_rfl) (by kernel_rfl) (fun kt76 kp77 => ?_)
   refine RD.vP 0 1 kt76 rfl kp77 .plain (fun _ => FV.move rfl) rfl ?_
   refine RD.val (i := 1) (m' := 3) (W := 65504) (takeC_ok kt76 (by kernel_rfl)) rfl kp77 .plain (FV.len (xs := a2) Tryd.underlying22 rfl hm49) rfl ?_
   refine RD.vP 2 7 kt76 rfl kp77 .plain (fun _ => FV.move rfl) rfl ?_
   obtain ⟨y78, hy78, h⟩ := bind_in h
   refine RD.callq (i := 3) (m' := 15) (W := 65520) (takeC_ok kt76 (by kernel_rfl)) rfl kp77 (v := .int .i64 y78) (fst := []) (cap := []) .plain body49 rfl (evs_cons rfl evs_nil) (fun w9 hw9 => wardmoteref18_Size_c n _ w9 (hS39.hL0 hL hw9) a1 hy78) rfl ?_
   obtain ⟨s79, hs79, h⟩ := bind_in h
   refine RD.vP 4 31 kt76 rfl kp77 .plain (fun _ => FV.subc (i := y78) (j := 1) rfl rfl hs79) rfl ?_
   refine RD.vP 5 63 kt76 rfl kp77 .plain (fun _ => FV.eql (i := ((a2.length : Nat) : Int)) (j := s79) rfl rfl) rfl ?_
   refine RD.vP 6 127 kt76 rfl kp77 .plain (fun _ => FV.move rfl) rfl ?_
   refine RD.ifd (s := 44) rfl h (fun c80 h => ?_) (fun c80 h => ?_)
   ·skip
    refine RD.val (i := 7) (m' := 255) (W := 59392) (takeC_ok kt76 (by kernel_rfl)) rfl kp77 (.yes rfl rfl) (FV.loadN (cs := [.int .i64 a0.fN, v0_1]) (by kernel_rfl) rfl (hS39.memA .hd)) rfl ?_
    refine RD.vP 8 511 kt76 rfl kp77 (.yes rfl rfl) (fun _ => FV.move rfl) rfl ?_
    refine RD.vP 9 1023 kt76 rfl kp77 (.yes rfl rfl) (fun _ => FV.move rfl) rfl ?_
    obtain ⟨y81, hy81, h⟩ := bind_in h
    refine RD.callq (i := 10) (m' := 2047) (W := 59392) (takeC_ok kt76 (by kernel_rfl)) rfl kp77 (v := .int .i64 y81) (fst := []) (cap := []) (.yes rfl rfl) body51 rfl (evs_cons rfl evs_nil) (fun w9 hw9 => wardmoteref30_least_c n _ w9 (hS39.hL0 hL hw9) a1 hy81) rfl ?_
    obtain ⟨y82, hy82, h⟩ := bind_in h
    have hm83 := Rep.mv h0_1 (Tr.trans hT4 hT40)
    refine RD.callq (i := 11) (m' := 4095) (W := 57344) (takeC_ok kt76 (by kernel_rfl)) rfl kp77 (v := .int .u64 (y82.toNat : Int)) (fst := []) (cap := []) (.yes rfl rfl) body50 rfl (evs_cons rfl (evs_cons rfl (evs_cons rfl evs_nil))) (fun w9 hw9 => wardmoteref30_reached_c n _ w9 (hS39.hL0 hL hw9) a0 (Rep.keep0 (Rep.dropO (O := [.cells b5 [.int .i64 a0.fN, v0_1] 40]) hm83) hw9) a2 (Rep.keep0 (Rep.dropO (O := [.cells b5 [.int .i64 a0.fN, v0_1] 40]) hm49) hw9) y81 hy82) rfl ?_
    refine RD.vP 12 8191 kt76 rfl kp77 (.yes rfl rfl) (fun _ => FV.move rfl) rfl ?_
    refine RD.vP 13 16383 kt76 rfl kp77 (.yes rfl rfl) (fun _ => FV.eqlU (a := y82) (b := a1) rfl rfl) rfl ?_
    refine RD.vP 14 32767 kt76 rfl kp77 .plain (fun _ => FV.pick_t rfl rfl) rfl ?_
    refine RD.vP 15 65535 kt76 rfl kp77 .plain (fun _ => FV.assign rfl) rfl ?_
    refine RD.done (doneD_ok kt76 (by kernel_rfl)) ?_
    refine MX.ret rfl ?_
    refine RT.leave (u := .bool (decide (y82 = a1))) hb0 Tryd.func27 rfl (.cons (.tmp rfl) .nil) rfl ?_
    obtain rfl := Option.some.inj h
    exact ⟨hS39.ag, fun w9 hw9 => rfl⟩
   ·skip
    refine RD.offs 16383 2 [(7, 45), (8, 46), (9, 47), (10, 48), (11, 49), (12, 50), (13, 51)] (F := [(44, false)]) (U := []) kt76 kp77 (.cons rfl .nil) .nil ?_
    dsimp only [offS, List.map]
    refine RD.vP 14 32767 kt76 rfl kp77 .plain (fun _ => FV.pick_f rfl rfl) rfl ?_
    refine RD.vP 15 65535 kt76 rfl kp77 .plain (fun _ => FV.assign rfl) rfl ?_
    refine RD.done (doneD_ok kt76 (by kernel_rfl)) ?_
    refine MX.ret rfl ?_
    refine RT.leave (u := .bool false) hb0 Tryd.func27 rfl (.cons (.tmp rfl) .nil) rfl ?_
    obtain rfl := Option.some.inj h
    exact ⟨hS39.ag, fun w9 hw9 => rfl⟩
def tb52_4 : List (Nat × Nat × Nat) := [(0, 2048, 2), (1, 4096, 2048), (2, 8192, 4096), (4, 16384, 8194), (12, 32768, 24576), (4, 65536, 8196), (36, 131072, 73728), (84, 262144, 172032), (132, 524288, 270336)]
def trees_check_p (n : Nat) (a0 : TGraph) (a1 : UInt64) : Option Int :=
  (graph_Check_p n a0).bind fun y6 => (if y6 = 0 then (if a1 = (0 : UInt64) then some 2 else (math_bits_Len64_p n a1).bind fun y12 => (if a0.fN < y12 then some 2 else some 0)) else some y6)
set_option maxRecDepth 4000 in
set_option maxHeartbeats 4000000 in
theorem trees_check_c (n : Nat) (L : List Nat) (w : World) (hL : ∀ b ∈ L, b < w.heap.size) (a0 : TGraph) {v0_1 : Value} (h0_1 : Rep.R w L [v0_1] a0.fEdges) (a1 : UInt64)  {r : Int} (h : trees_check_p n a0 a1 = some r) :
    Calls Tryd.prog 52 #[.agg #[.int .i64 a0.fN, v0_1], .int .u64 (a1.toNat : Int)] w (Gives w fun w' u => u = .int .i64 r) := by
  unfold trees_check_p at h
  have hS0 := St.start w
  refine MX.start Tryd.func52 rfl rfl rfl (fun _ cs0 hb0 => ?_)
  refine MX.seq ?_
  refine MX.region ?_
  refine RG.new .plain rfl (Does.box (vs := [.int .i64 a0.fN, v0_1]) hS0 rfl rfl) (fun w2 b5 hS3 hT4 => ?_)
  refine RG.val' .plain (FV.assign rfl) rfl ?_
  refine RG.nil ?_
  refine MX.seq ?_
  refine MX.seq ?_
  refine MX.region ?_
  refine RG.val' .plain (FV.loadN (cs := [.int .i64 a0.fN, v0_1]) (by kernel_rfl) rfl (hS3.memA .hd)) rfl ?_
  obtain ⟨y6, hy6, h⟩ := bind_in h
  have hm7 := Rep.mv h0_1 hT4
  refine RG.callq' (v := .int .i64 y6) (fst := []) (cap := []) .plain body32 rfl (evs_cons rfl evs_nil) (fun w9 hw9 => graph_Check_c n _ w9 (hS3.hL0 hL hw9) a0 (Rep.keep0 (Rep.dropO (O := [.cells b5 [.int .i64 a0.fN, v0_1] 40]) hm7) hw9) hy6) rfl ?_
  refine RG.val' .plain (FV.assign rfl) rfl ?_
  refine RG.nil ?_
  refine MX.seq ?_
  refine MX.region ?_
  refine RG.val' .plain (FV.move rfl) rfl ?_
  refine RG.val' .plain (FV.neq (i := y6) (j := 0) rfl rfl) rfl ?_
  refine RG.nil ?_
  refine MX.ifn rfl h (fun c8 h => ?_) (fun c8 h => ?_)
  ·skip
   refine MX.skip ?_
   refine MX.seq ?_
   refine MX.seq ?_
   refine MX.drawT 9 tb52_4 (by kernel_rfl) (by kernel_rfl) (by kernel_rfl) (fun kt9 kp10 => ?_)
   refine RD.vP 0 1 kt9 rfl kp10 .plain (fun _ => FV.move rfl) rfl ?_
   refine RD.vP 1 3 kt9 rfl kp10 .plain (fun _ => FV.eqlU (a := a1) (b := (0 : UInt64)) rfl rfl) rfl ?_
   refine RD.vP 2 7 kt9 rfl kp10 .plain (fun _ => FV.move rfl) rfl ?_
   refine RD.ifd (s := 13) rfl h (fun c11 h => ?_) (fun c11 h => ?_)
   ·skip
    refine RD.offs 255 1 [(3, 14), (4, 15), (5, 16), (6, 17), (7, 18)] (F := [(13, true)]) (U := []) kt9 kp10 (.cons rfl .nil) .nil ?_
    dsimp only [offS, List.map]
    refine RD.vP 8 511 kt9 rfl kp10 .plain (fun _ => FV.pick_t rfl rfl) rfl ?_
    refine RD.done (doneD_ok kt9 (by kernel_rfl)) ?_
    refine MX.cond_t rfl ?_
    refine MX.seq ?_
    refine MX.region ?_
    refine RG.val' .plain (FV.assign rfl) rfl ?_
    refine RG.nil ?_
    refine MX.ret rfl ?_
    refine RT.leave (u := .int .i64 2) hb0 Tryd.func52 rfl (.cons (.tmp rfl) .nil) rfl ?_
    obtain rfl := Option.some.inj h
    exact ⟨hS3.ag, fun w9 hw9 => rfl⟩
   ·skip
    refine RD.vP 3 15 kt9 rfl kp10 (.yes rfl rfl) (fun _ => FV.move rfl) rfl ?_
    obtain ⟨y12, hy12, h⟩ := bind_in h
    refine RD.callq (i := 4) (m' := 31) (W := 384) (takeC_ok kt9 (by kernel_rfl)) rfl kp10 (v := .int .i64 y12) (fst := []) (cap := []) (.yes rfl rfl) body60 rfl (evs_cons rfl evs_nil) (fun w9 hw9 => math_bits_Len64_c n _ w9 (hS3.hL0 hL hw9) a1 hy12) rfl ?_
    refine RD.vP 5 63 kt9 rfl kp10 (.yes rfl rfl) (fun _ => FV.fieldAddr (off := 0) (by kernel_rfl) rfl) rfl ?_
    refine RD.val (i := 6) (m' := 127) (W := 384) (takeC_ok kt9 (by kernel_rfl)) rfl kp10 (.yes rfl rfl) (FV.load1 (by kernel_rfl) rfl ((hS3.memA .hd) 0 _ rfl)) rfl ?_
    refine RD.vP 7 255 kt9 rfl kp10 (.yes rfl rfl) (fun _ => FV.gtr (i := y12) (j := a0.fN) rfl rfl) rfl ?_
    refine RD.vP 8 511 kt9 rfl kp10 .plain (fun _ => FV.pick_f rfl rfl) rfl ?_
    refine RD.done (doneD_ok kt9 (by kernel_rfl)) ?_
    refine MX.ifd rfl h (fun c13 h => ?_) (fun c13 h => ?_)
    ·skip
     refine MX.seq ?_
     refine MX.region ?_
     refine RG.val' .plain (FV.assign rfl) rfl ?_
     refine RG.nil ?_
     refine MX.ret rfl ?_
     refine RT.leave (u := .int .i64 2) hb0 Tryd.func52 rfl (.cons (.tmp rfl) .nil) rfl ?_
     obtain rfl := Option.some.inj h
     exact ⟨hS3.ag, fun w9 hw9 => rfl⟩
    ·skip
     refine MX.skip ?_
     refine MX.seq ?_
     refine MX.region ?_
     refine RG.val' .plain (FV.assign rfl) rfl ?_
     refine RG.nil ?_
     refine MX.ret rfl ?_
     refine RT.leave (u := .int .i64 0) hb0 Tryd.func52 rfl (.cons (.tmp rfl) .nil) rfl ?_
     obtain rfl := Option.some.inj h
     exact ⟨hS3.ag, fun w9 hw9 => rfl⟩
  ·skip
   refine MX.seq ?_
   refine MX.region ?_
   refine RG.val' .plain (FV.move rfl) rfl ?_
   refine RG.val' .plain (FV.assign rfl) rfl ?_
   refine RG.nil ?_
   refine MX.ret rfl ?_
   refine RT.leave (u := .int .i64 y6) hb0 Tryd.func52 rfl (.cons (.tmp rfl) .nil) rfl ?_
   obtain rfl := Option.some.inj h
   exact ⟨hS3.ag, fun w9 hw9 => rfl⟩
def trees_has_p (n : Nat) (a0 : UInt64) (a1 : Int × Int) : Option Bool :=
  (natOf a1.1).bind fun k6 => (if ((shrU a0 k6) &&& (1 : UInt64)) = (1 : UInt64) then (natOf a1.2).bind fun k8 => some (decide (((shrU a0 k8) &&& (1 : UInt64)) = (1 : UInt64))) else some false)
set_option maxRecDepth 4000 in
set_option maxHeartbeats 4000000 in
theorem trees_has_c (n : Nat) (L : List Nat) (w : World) (hL : ∀ b ∈ L, b < w.heap.size) (a0 : UInt64) (a1 : Int × Int)  {r : Bool} (h : trees_has_p n a0 a1 = some r) :
    Calls Tryd.prog 54 #[.int .u64 (a0.toNat : Int), .agg #[.int .i64 a1.1, .int .i64 a1.2]] w (Gives w fun w' u => u = .bool r) := by
  unfold trees_has_p at h
  have hS0 := St.start w
  refine MX.start Tryd.func54 rfl rfl rfl (fun _ cs0 hb0 => ?_)
  refine MX.seq ?_
  refine MX.region ?_
  refine RG.new .plain rfl (Does.box (vs := [.int .i64 a1.1, .int .i64 a1.2]) hS0 rfl rfl) (fun w2 b5 hS3 hT4 => ?_)
  refine RG.val' .plain (FV.assign rfl) rfl ?_
  refine RG.nil ?_
  refine MX.seq ?_
  refine MX.region ?_
  refine RG.val' .plain (FV.move rfl) rfl ?_
  refine RG.val' .plain (FV.indexArr (m := 1) (k := 0) (len := 2) (by kernel_rfl) rfl rfl rfl (by omega)) rfl ?_
  refine RG.val' .plain (FV.load1 (by kernel_rfl) rfl ((hS3.memA .hd) 0 _ rfl)) rfl ?_
  obtain ⟨k6, hk6, h⟩ := bind_in h
  refine RG.val' .plain (FV.shrI (a := a0) (i := a1.1) rfl rfl hk6) rfl ?_
  refine RG.val' .plain (FV.andU (a := shrU a0 k6) (b := (1 : UInt64)) rfl rfl) rfl ?_
  refine RG.val' .plain (FV.eqlU (a := (shrU a0 k6) &&& (1 : UInt64)) (b := (1 : UInt64)) rfl rfl) rfl ?_
  refine RG.val' .plain (FV.move rfl) rfl ?_
  refine RG.ifd (s := 11) rfl h (fun c7 h => ?_) (fun c7 h => ?_)
  ·skip
   refine RG.val' (.yes rfl rfl) (FV.move rfl) rfl ?_
   refine RG.val' (.yes rfl rfl) (FV.indexArr (m := 1) (k := 1) (len := 2) (by kernel_rfl) rfl rfl rfl (by omega)) rfl ?_
   refine RG.val' (.yes rfl rfl) (FV.load1 (by kernel_rfl) rfl ((hS3.memA .hd) 1 _ rfl)) rfl ?_
   obtain ⟨k8, hk8, h⟩ := bind_in h
   refine RG.val' (.yes rfl rfl) (FV.shrI (a := a0) (i := a1.2) rfl rfl hk8) rfl ?_
   refine RG.val' (.yes rfl rfl) (FV.andU (a := shrU a0 k8) (b := (1 : UInt64)) rfl rfl) rfl ?_
   refine RG.val' (.yes rfl rfl) (FV.eqlU (a := (shrU a0 k8) &&& (1 : UInt64)) (b := (1 : UInt64)) rfl rfl) rfl ?_
   refine RG.val' .plain (FV.pick_t rfl rfl) rfl ?_
   refine RG.val' .plain (FV.assign rfl) rfl ?_
   refine RG.nil ?_
   refine MX.ret rfl ?_
   refine RT.leave (u := .bool (decide (((shrU a0 k8) &&& (1 : UInt64)) = (1 : UInt64)))) hb0 Tryd.func54 rfl (.cons (.tmp rfl) .nil) rfl ?_
   obtain rfl := Option.some.inj h
   exact ⟨hS3.ag, fun w9 hw9 => rfl⟩
  ·skip
   refine RG.off (.no rfl rfl) rfl ?_
   refine RG.off (.no rfl rfl) rfl ?_
   refine RG.off (.no rfl rfl) rfl ?_
   refine RG.off (.no rfl rfl) rfl ?_
   refine RG.off (.no rfl rfl) rfl ?_
   refine RG.off (.no rfl rfl) rfl ?_
   refine RG.val' .plain (FV.pick_f rfl rfl) rfl ?_
   refine RG.val' .plain (FV.assign rfl) rfl ?_
   refine RG.nil ?_
   refine MX.ret rfl ?_
   refine RT.leave (u := .bool false) hb0 Tryd.func54 rfl (.cons (.tmp rfl) .nil) rfl ?_
   obtain rfl := Option.some.inj h
   exact ⟨hS3.ag, fun w9 hw9 => rfl⟩
def trees_parents_root_l1 (n : Nat) (a0 : List Int) (J26 : Int → Option Int) : Int → Option Int
  | z18 => (idx a0 z18).bind fun x28 => (if x28 = z18 then some z18 else J26 x28)
def trees_parents_root_p (n : Nat) (a0 : List Int) (a1 : Int) : Option Int :=
  Option.bind (loopF (trees_parents_root_l1 n a0) n a1) (fun z18 => some z18)
set_option maxRecDepth 4000 in
set_option maxHeartbeats 4000000 in
theorem trees_parents_root_c (n : Nat) (L : List Nat) (w : World) (hL : ∀ b ∈ L, b < w.heap.size) (a0 : List Int) {v0_0 : Value} (h0_0 : Rep.R w L [v0_0] a0) (a1 : Int)  {r : Int} (h : trees_parents_root_p n a0 a1 = some r) :
    Calls Tryd.prog 81 #[v0_0, .int .i64 a1] w (Gives w fun w' u => u = .int .i64 r) := by
  unfold trees_parents_root_p at h
  have hS0 := St.start w
  refine MX.start Tryd.func81 rfl rfl rfl (fun _ cs0 hb0 => ?_)
  refine MX.seq ?_
  refine MX.region ?_
  refine RG.val' .plain (FV.assign rfl) rfl ?_
  refine RG.nil ?_
  refine MX.seq ?_
  refine MX.block ?_
  obtain ⟨o24, ho23, hh25⟩ := bind_in2 h
  refine MX.loop (α := Int) (fun z18 => [(0, v0_0), (1, .int .i64 z18)]) (fun z18 wx18 => St w wx18 [] ∧ Tr w [] wx18 []) (fun z18 => z18) a1 ho23 ⟨rfl, rfl, trivial⟩ ⟨hS0, Tr.refl _ _⟩ ?_
  rintro J26 z18 wx18 hJ27 ⟨hS19, hT20⟩ h
  unfold trees_parents_root_l1 at h
  try dsimp only at h
  refine MX.seq ?_
  refine MX.seq ?_
  refine MX.region ?_
  refine RG.val' .plain (FV.move rfl) rfl ?_
  refine RG.val' .plain (FV.move rfl) rfl ?_
  obtain ⟨x28, hx28, h⟩ := bind_in h
  obtain ⟨hi29, hx30⟩ := idx_in hx28
  have hm38 := Rep.mv h0_0 hT20
  obtain ⟨A31, c32, he33, hk34, cs35, hr36, hm37⟩ := Rep.nth hm38 hx30
  have he39 : cs35 = [.int .i64 x28] := hr36; subst he39
  refine RG.val' .plain (FV.idxAddr (m := 1) (i := z18.toNat) (by kernel_rfl) rfl he33 rfl hi29 hk34) rfl ?_
  refine RG.val' .plain (FV.load1 (by kernel_rfl) rfl (hm37 0 _ rfl)) rfl ?_
  refine RG.val' .plain (FV.move rfl) rfl ?_
  refine RG.val' .plain (FV.neq (i := x28) (j := z18) rfl rfl) rfl ?_
  refine RG.nil ?_
  refine MX.ifn rfl h (fun c40 h => ?_) (fun c40 h => ?_)
  ·skip
   refine MX.exit rfl ?_
   have h := hh25 _ h
   try dsimp only at h
   refine MX.seq ?_
   refine MX.region ?_
   refine RG.val' .plain (FV.move rfl) rfl ?_
   refine RG.val' .plain (FV.assign rfl) rfl ?_
   refine RG.nil ?_
   refine MX.ret rfl ?_
   refine RT.leave (u := .int .i64 z18) hb0 Tryd.func81 rfl (.cons (.tmp rfl) .nil) rfl ?_
   obtain rfl := Option.some.inj h
   exact ⟨hS19.ag, fun w9 hw9 => rfl⟩
  ·skip
   refine MX.skip ?_
   refine MX.block ?_
   refine MX.region ?_
   refine RG.val' .plain (FV.move rfl) rfl ?_
   refine RG.val' .plain (FV.move rfl) rfl ?_
   refine RG.val' .plain (FV.idxAddr (m := 1) (i := z18.toNat) (by kernel_rfl) rfl he33 rfl hi29 hk34) rfl ?_
   refine RG.val' .plain (FV.load1 (by kernel_rfl) rfl (hm37 0 _ rfl)) rfl ?_
   refine RG.val' .plain (FV.assign rfl) rfl ?_
   refine RG.nil ?_
   refine MX.inBlock ?_
   exact hJ27 x28 _ _ ⟨rfl, rfl, trivial⟩ ⟨hS19, hT20⟩ h
structure Tforest where
  fparents : List Int
  deriving DecidableEq
instance : Rep Tforest := Rep.via (β := (List Int)) fun x => x.fparents
def tb55_1 : List (Nat × Nat × Nat) := [(0, 128, 4), (1, 256, 128), (0, 512, 8), (4, 1024, 512), (10, 2048, 1280), (0, 4096, 4), (32, 8192, 4096), (0, 16384, 8), (128, 32768, 16384), (336, 65536, 40960), (543, 32, 2048), (2047, 64, 65536)]
theorem body81 : bodyB Tryd.prog 81 = true := by kernel_rfl
def math_bits_OnesCount64_p (n : Nat) (a0 : UInt64) : Option Int :=
  (some (((shrU a0 1) &&& (6148914691236517205 : UInt64)) + (a0 &&& (6148914691236517205 : UInt64)))).bind fun u1 => (some (((shrU u1 2) &&& (3689348814741910323 : UInt64)) + (u1 &&& (3689348814741910323 : UInt64)))).bind fun u2 => (some ((((shrU u2 4) + u2) &&& (1085102592571150095 : UInt64)) + (shrU (((shrU u2 4) + u2) &&& (1085102592571150095 : UInt64)) 8))).bind fun u3 => some (andI (i64of ((u3 + (shrU u3 16)) + (shrU (u3 + (shrU u3 16)) 32))) 127)
set_option maxRecDepth 4000 in
set_option maxHeartbeats 4000000 in
theorem math_bits_OnesCount64_c (n : Nat) (L : List Nat) (w : World) (hL : ∀ b ∈ L, b < w.heap.size) (a0 : UInt64)  {r : Int} (h : math_bits_OnesCount64_p n a0 = some r) :
    Calls Tryd.prog 56 #[.int .u64 (a0.toNat : Int)] w (Gives w fun w' u => u = .int .i64 r) := by
  unfold math_bits_OnesCount64_p at h
  have hS0 := St.start w
  refine MX.start Tryd.func56 rfl rfl rfl (fun _ cs0 hb0 => ?_)
  refine MX.seq ?_
  refine MX.region ?_
  refine RG.val' .plain (FV.assign rfl) rfl ?_
  refine RG.nil ?_
  refine MX.seq ?_
  refine MX.region ?_
  refine RG.val' .plain (FV.move rfl) rfl ?_
  refine RG.val' .plain (FV.shrU (a := a0) (j := 1) rfl rfl) rfl ?_
  refine RG.val' .plain (FV.andU (a := shrU a0 1) (b := (6148914691236517205 : UInt64)) rfl rfl) rfl ?_
  refine RG.val' .plain (FV.move rfl) rfl ?_
  refine RG.val' .plain (FV.andU (a := a0) (b := (6148914691236517205 : UInt64)) rfl rfl) rfl ?_
  obtain ⟨u1, hu1, h⟩ := bind_in h
  refine RG.val' .plain (FV.as (FV.addU (a := (shrU a0 1) &&& (6148914691236517205 : UInt64)) (b := a0 &&& (6148914691236517205 : UInt64)) rfl rfl) (congrArg (fun z : UInt64 => Value.int .u64 (z.toNat : Int)) (Option.some.inj hu1))) rfl ?_
  refine RG.val' .plain (FV.assign rfl) rfl ?_
  refine RG.nil ?_
  refine MX.seq ?_
  refine MX.region ?_
  refine RG.val' .plain (FV.move rfl) rfl ?_
  refine RG.val' .plain (FV.shrU (a := u1) (j := 2) rfl rfl) rfl ?_
  refine RG.val' .plain (FV.andU (a := shrU u1 2) (b := (3689348814741910323 : UInt64)) rfl rfl) rfl ?_
  refine RG.val' .plain (FV.move rfl) rfl ?_
  refine RG.val' .plain (FV.andU (a := u1) (b := (3689348814741910323 : UInt64)) rfl rfl) rfl ?_
  obtain ⟨u2, hu2, h⟩ := bind_in h
  refine RG.val' .plain (FV.as (FV.addU (a := (shrU u1 2) &&& (3689348814741910323 : UInt64)) (b := u1 &&& (3689348814741910323 : UInt64)) rfl rfl) (congrArg (fun z : UInt64 => Value.int .u64 (z.toNat : Int)) (Option.some.inj hu2))) rfl ?_
  refine RG.val' .plain (FV.assign rfl) rfl ?_
  refine RG.nil ?_
  refine MX.seq ?_
  refine MX.region ?_
  refine RG.val' .plain (FV.move rfl) rfl ?_
  refine RG.val' .plain (FV.shrU (a := u2) (j := 4) rfl rfl) rfl ?_
  refine RG.val' .plain (FV.move rfl) rfl ?_
  refine RG.val' .plain (FV.addU (a := shrU u2 4) (b := u2) rfl rfl) rfl ?_
  refine RG.val' .plain (FV.andU (a := (shrU u2 4) + u2) (b := (1085102592571150095 : UInt64)) rfl rfl) rfl ?_
  refine RG.val' .plain (FV.assign rfl) rfl ?_
  refine RG.nil ?_
  refine MX.seq ?_
  refine MX.region ?_
  refine RG.val' .plain (FV.move rfl) rfl ?_
  refine RG.val' .plain (FV.move rfl) rfl ?_
  refine RG.val' .plain (FV.shrU (a := ((shrU u2 4) + u2) &&& (1085102592571150095 : UInt64)) (j := 8) rfl rfl) rfl ?_
  obtain ⟨u3, hu3, h⟩ := bind_in h
  refine RG.val' .plain (FV.as (FV.addU (a := ((shrU u2 4) + u2) &&& (1085102592571150095 : UInt64)) (b := shrU (((shrU u2 4) + u2) &&& (1085102592571150095 : UInt64)) 8) rfl rfl) (congrArg (fun z : UInt64 => Value.int .u64 (z.toNat : Int)) (Option.some.inj hu3))) rfl ?_
  refine RG.val' .plain (FV.assign rfl) rfl ?_
  refine RG.nil ?_
  refine MX.seq ?_
  refine MX.region ?_
  refine RG.val' .plain (FV.move rfl) rfl ?_
  refine RG.val' .plain (FV.move rfl) rfl ?_
  refine RG.val' .plain (FV.shrU (a := u3) (j := 16) rfl rfl) rfl ?_
  refine RG.val' .plain (FV.addU (a := u3) (b := shrU u3 16) rfl rfl) rfl ?_
  refine RG.val' .plain (FV.assign rfl) rfl ?_
  refine RG.nil ?_
  refine MX.seq ?_
  refine MX.region ?_
  refine RG.val' .plain (FV.move rfl) rfl ?_
  refine RG.val' .plain (FV.move rfl) rfl ?_
  refine RG.val' .plain (FV.shrU (a := u3 + (shrU u3 16)) (j := 32) rfl rfl) rfl ?_
  refine RG.val' .plain (FV.addU (a := u3 + (shrU u3 16)) (b := shrU (u3 + (shrU u3 16)) 32) rfl rfl) rfl ?_
  refine RG.val' .plain (FV.assign rfl) rfl ?_
  refine RG.nil ?_
  refine MX.seq ?_
  refine MX.region ?_
  refine RG.val' .plain (FV.move rfl) rfl ?_
  refine RG.val' .plain (FV.convUI (a := (u3 + (shrU u3 16)) + (shrU (u3 + (shrU u3 16)) 32)) Tryd.underlying35 Tryd.underlying3 rfl) rfl ?_
  refine RG.val' .plain (FV.andI (i := i64of ((u3 + (shrU u3 16)) + (shrU (u3 + (shrU u3 16)) 32))) (j := 127) rfl rfl) rfl ?_
  refine RG.val' .plain (FV.assign rfl) rfl ?_
  refine RG.nil ?_
  refine MX.ret rfl ?_
  refine RT.leave (u := .int .i64 (andI (i64of ((u3 + (shrU u3 16)) + (shrU (u3 + (shrU u3 16)) 32))) 127)) hb0 Tryd.func56 rfl (.cons (.tmp rfl) .nil) rfl ?_
  obtain rfl := Option.some.inj h
  exact ⟨hS0.ag, fun w9 hw9 => rfl⟩
def tb28_9 : List (Nat × Nat × Nat) := [(0, 33554432, 2048), (0, 67108864, 512), (3, 134217728, 100663296), (4, 268435456, 134217728), (8, 536870912, 268437504), (8, 1073741824, 268435464), (40, 2147483648, 1342177280), (72, 4294967296, 2415919104), (152, 8589934592, 5100273664), (264, 17179869184, 8858370048), (520, 34359738368, 17179869184), (1024, 68719476736, 34359738370), (1024, 137438953472, 34359738376), (5120, 274877906944, 171798691840), (1024, 549755813888, 34359740416), (25600, 1099511627776, 858993459200), (33792, 2199023255552, 1133871366144), (68608, 4398046511104, 2302102470656), (132096, 8796093022208, 4432406249472), (263168, 17592186044416, 8830452760576), (655360, 35184372088832, 17592186044416), (1048576, 70368744177664, 35184372089088), (1048576, 140737488355328, 35184372088840), (5242880, 281474976710656, 175921860444160), (1048576, 562949953421312, 35184372090880), (26214400, 1125899906842624, 879609302220800), (34603008, 2251799813685248, 1161084278931456), (70254592, 4503599627370496, 2357352929951744), (135266304, 9007199254740992, 4538783999459328), (269484032, 18014398509481984, 9042383626829824)]
theorem el91 : ElT Tryd.prog 91 3 (Rep.size Int) 8 (.int .i64 0) [.int .i64 0] := ⟨Tryd.underlying91, by kernel_rfl, rfl, rfl, rfl, rfl⟩
theorem body52 : bodyB Tryd.prog 52 = true := by kernel_rfl
theorem body53 : bodyB Tryd.prog 53 = true := by kernel_rfl
theorem body54 : bodyB Tryd.prog 54 = true := by kernel_rfl
theorem body55 : bodyB Tryd.prog 55 = true := by kernel_rfl
theorem body56 : bodyB Tryd.prog 56 = true := by kernel_rfl
def trees_Check_l1 (n : Nat) (a2 : List Int) (a0 : TGraph) (a1 : UInt64) (J288 : Int × Nat × (List Int) → Option (Int ⊕ Unit)) : Int × Nat × (List Int) → Option (Int ⊕ Unit)
  | (z276, i277, xs278) => (if i277 < a2.length then (a2[i277]?).bind fun x291 => (if x291 ≤ z276 then some (.inl 300) else (if ((a0.fEdges.length : Nat) : Int) ≤ x291 then some (.inl 300) else (idx a0.fEdges x291).bind fun x307 => (trees_has_p n a1 x307).bind fun y317 => (if y317 = true then (trees_parents_root_p n xs278 x307.1).bind fun y333 => (trees_parents_root_p n xs278 x307.2).bind fun y335 => (idx xs278 (max y333 y335)).bind fun x336 => (put xs278 (((max y333 y335).toNat : Nat) : Int) (min y333 y335)).bind fun xs350 => (if y333 = y335 then some (.inl 300) else J288 (x291, i277 + 1, xs350)) else some (.inl 300)))) else some (.inr ()))
def trees_Check_l2 (n : Nat) (xs17 : List Int) (J89 : Nat × (List Int) → Option (List Int)) : Nat × (List Int) → Option (List Int)
  | (i78, xs79) => (if i78 < xs17.length then (xs79[i78]?).bind fun x92 => (put xs79 ((i78 : Nat) : Int) ((i78 : Nat) : Int)).bind fun xs104 => J89 (i78 + 1, xs104) else some xs79)
def trees_Check_p (n : Nat) (a0 : TGraph) (a1 : UInt64) (a2 : List Int) : Option Int :=
  (trees_check_p n a0 a1).bind fun y6 => (if y6 = 0 then (mk 64 (0 : Int)).bind fun xs17 => Option.bind (loopF (trees_Check_l2 n xs17) n (0, xs17)) (fun xs79 => thn (loopF (trees_Check_l1 n a2 a0 a1) n ((-1), 0, xs79)) (fun _ => (math_bits_OnesCount64_p n a1).bind fun y361 => (chk (y361 - 1)).bind fun s362 => (if ((a2.length : Nat) : Int) = s362 then some 0 else some 300))) else some y6)
set_option maxRecDepth 4000 in
set_option maxHeartbeats 4000000 in
theorem trees_Check_c (n : Nat) (L : List Nat) (w : World) (hL : ∀ b ∈ L, b < w.heap.size) (a0 : TGraph) {v0_1 : Value} (h0_1 : Rep.R w L [v0_1] a0.fEdges) (a1 : UInt64) (a2 : List Int) {v2_0 : Value} (h2_0 : Rep.R w L [v2_0] a2)  {r : Int} (h : trees_Check_p n a0 a1 a2 = some r) :
    Calls Tryd.prog 28 #[.agg #[.int .i64 a0.fN, v0_1], .int .u64 (a1.toNat : Int), v2_0] w (Gives w fun w' u => u = .int .i64 r) := by
  unfold trees_Check_p at h
  have hS0 := St.start w
  refine MX.start Tryd.func28 rfl rfl rfl (fun _ cs0 hb0 => ?_)
  refine MX.seq ?_
  refine MX.region ?_
  refine RG.new .plain rfl (Does.box (vs := [.int .i64 a0.fN, v0_1]) hS0 rfl rfl) (fun w2 b5 hS3 hT4 => ?_)
  refine RG.val' .plain (FV.assign rfl) rfl ?_
  refine RG.nil ?_
  refine MX.seq ?_
  refine MX.seq ?_
  refine MX.region ?_
  refine RG.val' .plain (FV.loadN (cs := [.int .i64 a0.fN, v0_1]) (by kernel_rfl) rfl (hS3.memA .hd)) rfl ?_
  refine RG.val' .plain (FV.move rfl) rfl ?_
  obtain ⟨y6, hy6, h⟩ := bind_in h
  have hm7 := Rep.mv h0_1 hT4
  refine RG.callq' (v := .int .i64 y6) (fst := []) (cap := []) .plain body52 rfl (evs_cons rfl (evs_cons rfl evs_nil)) (fun w9 hw9 => trees_check_c n _ w9 (hS3.hL0 hL hw9) a0 (Rep.keep0 (Rep.dropO (O := [.cells b5 [.int .i64 a0.fN, v0_1] 40]) hm7) hw9) a1 hy6) rfl ?_
  refine RG.val' .plain (FV.assign rfl) rfl ?_
  refine RG.nil ?_
  refine MX.seq ?_
  refine MX.region ?_
  refine RG.val' .plain (FV.move rfl) rfl ?_
  refine RG.val' .plain (FV.neq (i := y6) (j := 0) rfl rfl) rfl ?_
  refine RG.nil ?_
  refine MX.ifn rfl h (fun c8 h => ?_) (fun c8 h => ?_)
  ·skip
   refine MX.skip ?_
   refine MX.seq ?_
   refine MX.region ?_
   refine RG.enter (fst := []) (cap := []) (vs := []) .plain body53 Tryd.func53 rfl rfl rfl rfl evs_nil rfl (fun cs10 hb9 => ?_)
   refine MX.seq ?_
   refine MX.region ?_
   refine RG.new .plain rfl (Does.alloc (zs := [.slice none 0 0]) hS3 (zB (by kernel_rfl))) (fun w12 b15 hS13 hT14 => ?_)
   refine RG.nil ?_
   refine MX.seq ?_
   refine MX.region ?_
   obtain ⟨xs17, hxs17, h⟩ := bind_in h
   refine RG.doesH .plain rfl (Does.mkH (α := Int) (L := L) hxs17 hS13 el91 rfl (fun _ _ => rfl)) (fun v21 w18 ⟨cs22, hS19, hT20, hc23⟩ => ?_)
   refine RG.val' .plain (FV.assign rfl) rfl ?_
   refine RG.nil ?_
   refine MX.seq ?_
   refine MX.seq ?_
   refine MX.region ?_
   refine RG.val' .plain (FV.move rfl) rfl ?_
   have hl24 : xs17.length ≤ 4294967296 := St.rowLe (α := Int) hS19 .hd
   obtain ⟨A25, c26, he27⟩ := St.rowV (α := Int) hS19 .hd
   refine RG.val' .plain (FV.lenV Tryd.underlying91 rfl he27) rfl ?_
   refine RG.val' .plain (FV.move rfl) rfl ?_
   refine RG.nil ?_
   refine MX.block ?_
   obtain ⟨o87, ho86, hh88⟩ := bind_in2 h
   refine MX.loop (α := Nat × (List Int) × (List Value)) (fun ⟨i78, xs79, cs80⟩ => [(0, .pointer (some ⟨b15, 0, none⟩)), (1, v21), (5, .int .i64 ((xs17.length : Nat) : Int)), (6, .int .i64 ((i78 : Nat) : Int))]) (fun ⟨i78, xs79, cs80⟩ wx81 => St w wx81 [.row w.heap.size 3 (Rep.size Int) v21 xs79.length cs80, .cells b15 [.slice none 0 0] 93, .cells b5 [.int .i64 a0.fN, v0_1] 40] ∧ Tr w18 [.row w.heap.size 3 (Rep.size Int) v21 xs17.length cs22, .cells b15 [.slice none 0 0] 93, .cells b5 [.int .i64 a0.fN, v0_1] 40] wx81 [.row w.heap.size 3 (Rep.size Int) v21 xs79.length cs80, .cells b15 [.slice none 0 0] 93, .cells b5 [.int .i64 a0.fN, v0_1] 40] ∧ Cells wx81 (bl [.row w.heap.size 3 (Rep.size Int) v21 xs79.length cs80, .cells b15 [.slice none 0 0] 93, .cells b5 [.int .i64 a0.fN, v0_1] 40] ++ L) cs80 xs79) (fun ⟨i78, xs79, cs80⟩ => (i78, xs79)) (0, xs17, cs22) ho86 ⟨rfl, rfl, rfl, rfl, trivial⟩ ⟨hS19, Tr.refl _ _, hc23⟩ ?_
   rintro J89 ⟨i78, xs79, cs80⟩ wx81 hJ90 ⟨hS82, hT83, hc81⟩ h
   unfold trees_Check_l2 at h
   try dsimp only at h
   refine MX.seq ?_
   refine MX.region ?_
   refine RG.val' .plain (FV.lssN (i := i78) (j := xs17.length) rfl rfl) rfl ?_
   refine RG.nil ?_
   refine MX.seq ?_
   refine MX.ifd rfl h (fun c91 h => ?_) (fun c91 h => ?_)
   ·skip
    refine MX.skip ?_
    refine MX.seq ?_
    refine MX.block ?_
    refine MX.seq ?_
    refine MX.region ?_
    refine RG.val' .plain (FV.move rfl) rfl ?_
    refine RG.val' .plain (FV.assign rfl) rfl ?_
    refine RG.nil ?_
    refine MX.region ?_
    refine RG.val' .plain (FV.move rfl) rfl ?_
    refine RG.val' .plain (FV.move rfl) rfl ?_
    refine RG.val' .plain (FV.move rfl) rfl ?_
    obtain ⟨x92, hx92, h⟩ := bind_in h
    obtain ⟨A93, c94, he95, hk96, cs97, hr98, hm99⟩ := St.nth (α := Int) hS82 .hd hc81 hx92
    obtain ⟨b100, c101, he102⟩ := St.nthOwn (α := Int) hS82 .hd hk96
    obtain rfl : A93 = ⟨b100, 0, none⟩ := by rw [he102] at he95; cases he95; rfl
    have he103 : cs97 = [.int .i64 x92] := hr98; subst he103
    refine RG.val' .plain (FV.idxAddr (m := 1) (i := i78) (by kernel_rfl) rfl he95 rfl rfl hk96) rfl ?_
    obtain ⟨xs104, hxs104, h⟩ := bind_in h
    refine RG.acts' .plain (Acts.set (α := Int) (i := i78) (F := fun cs' => [.row w.heap.size 3 (Rep.size Int) v21 xs104.length cs', .cells b15 [.slice none 0 0] 93, .cells b5 [.int .i64 a0.fN, v0_1] 40]) hxs104 hS82 he102 (fun _ => .hd) hc81 rfl rfl rfl rfl rfl (by kernel_rfl)) (fun w105 ⟨cs109, hS106, hT107, hc108⟩ => ?_)
    refine RG.nil ?_
    refine MX.inBlock ?_
    refine MX.region ?_
    refine RG.val' .plain (FV.addN (i := i78) (j := 1) rfl rfl (by omega)) rfl ?_
    refine RG.val' .plain (FV.move rfl) rfl ?_
    refine RG.nil ?_
    exact hJ90 (i78 + 1, xs104, cs109) _ _ ⟨rfl, rfl, rfl, rfl, trivial⟩ ⟨hS106, (Tr.trans hT83 hT107), hc108⟩ h
   ·skip
    refine MX.exit rfl ?_
    have h := hh88 _ h
    try dsimp only at h
    refine MX.seq ?_
    refine MX.region ?_
    refine RG.val' .plain (FV.move rfl) rfl ?_
    obtain ⟨A110, c111, he112⟩ := St.rowV (α := Int) hS82 .hd
    refine RG.val' .plain (FV.buildV (vs := [v21]) (u := .agg #[v21]) (evs_cons rfl evs_nil) (fun w9 => by rw [he112]; try kernel_rfl)) rfl ?_
    refine RG.now .plain (Acts.store (j := 0) (old := [.slice none 0 0]) (news := [v21]) (new' := [v21]) hS82 (.tl .hd) rfl rfl rfl rfl rfl rfl (ones_cons (St.o1 (α := Int) hS82 .hd) ones_nil) rfl) (fun w113 hS114 hT115 => ?_)
    refine RG.nil ?_
    refine MX.ret rfl ?_
    refine RT.leave (u := .agg #[v21]) hb9 Tryd.func53 rfl (.cons (.many (cs := [v21]) (by kernel_rfl) rfl (hS114.memA (.tl .hd))) .nil) rfl ?_
    refine RG.new .plain rfl (Does.alloc (zs := [.slice none 0 0]) hS114 (zB (by kernel_rfl))) (fun w117 b120 hS118 hT119 => ?_)
    refine RG.now .plain (Acts.store (j := 0) (old := [.slice none 0 0]) (news := [v21]) (new' := [v21]) hS118 .hd rfl rfl rfl rfl rfl rfl (ones_cons (St.o1 (α := Int) hS118 (.tl .hd)) ones_nil) rfl) (fun w121 hS122 hT123 => ?_)
    refine RG.nil ?_
    refine MX.seq ?_
    refine MX.region ?_
    refine RG.val' .plain (FV.assign rfl) rfl ?_
    refine RG.nil ?_
    refine MX.seq ?_
    refine MX.seq ?_
    refine MX.region ?_
    refine RG.val' .plain (FV.move rfl) rfl ?_
    have hm125 := Rep.mv h2_0 (Tr.trans hT4 (Tr.trans hT14 (Tr.trans hT20 (Tr.trans hT83 (Tr.trans hT115 (Tr.trans hT119 hT123))))))
    have hl124 : a2.length ≤ 281474976710656 := Rep.lenle hm125
    refine RG.val' .plain (FV.len (xs := a2) Tryd.underlying22 rfl hm125) rfl ?_
    refine RG.val' .plain (FV.move rfl) rfl ?_
    refine RG.nil ?_
    refine MX.block ?_
    have hS273 : St _ _ [.cells b120 [v21] 93, .row w.heap.size 3 (Rep.size Int) v21 xs79.length cs80, .cells b5 [.int .i64 a0.fN, v0_1] 40] := hS122.arr (.one .hd (.one .hd (.one (.tl .hd) .done)))
    have hT274 : Tr w121 _ w121 [.cells b120 [v21] 93, .row w.heap.size 3 (Rep.size Int) v21 xs79.length cs80, .cells b5 [.int .i64 a0.fN, v0_1] 40] := Tr.arr (St.arrOf hS122 (.one .hd (.one .hd (.one (.tl .hd) .done))))
    have hm275 := Cells.mv hc81 (Tr.trans hT115 (Tr.trans hT119 (Tr.trans hT123 hT274)))
    obtain ⟨o286, ho285, hh287⟩ := thn_in h
    refine MX.loop (α := Int × Nat × (List Int) × (List Value)) (fun ⟨z276, i277, xs278, cs279⟩ => [(1, .int .u64 (a1.toNat : Int)), (2, v2_0), (3, .pointer (some ⟨b5, 0, none⟩)), (8, .pointer (some ⟨b120, 0, none⟩)), (9, .int .i64 z276), (19, v2_0), (20, .int .i64 ((a2.length : Nat) : Int)), (21, .int .i64 ((i277 : Nat) : Int))]) (fun ⟨z276, i277, xs278, cs279⟩ wx280 => St w wx280 [.cells b120 [v21] 93, .row w.heap.size 3 (Rep.size Int) v21 xs278.length cs279, .cells b5 [.int .i64 a0.fN, v0_1] 40] ∧ Tr w121 [.cells b120 [v21] 93, .row w.heap.size 3 (Rep.size Int) v21 xs79.length cs80, .cells b5 [.int .i64 a0.fN, v0_1] 40] wx280 [.cells b120 [v21] 93, .row w.heap.size 3 (Rep.size Int) v21 xs278.length cs279, .cells b5 [.int .i64 a0.fN, v0_1] 40] ∧ Cells wx280 (bl [.cells b120 [v21] 93, .row w.heap.size 3 (Rep.size Int) v21 xs278.length cs279, .cells b5 [.int .i64 a0.fN, v0_1] 40] ++ L) cs279 xs278) (fun ⟨z276, i277, xs278, cs279⟩ => (z276, i277, xs278)) ((-1), 0, xs79, cs80) ho285 ⟨rfl, rfl, rfl, rfl, rfl, rfl, rfl, rfl, trivial⟩ ⟨hS273, Tr.refl _ _, hm275⟩ ?_
    rintro J288 ⟨z276, i277, xs278, cs279⟩ wx280 hJ289 ⟨hS281, hT282, hc280⟩ h
    unfold trees_Check_l1 at h
    try dsimp only at h
    refine MX.seq ?_
    refine MX.region ?_
    refine RG.val' .plain (FV.lssN (i := i277) (j := a2.length) rfl rfl) rfl ?_
    refine RG.nil ?_
    refine MX.seq ?_
    refine MX.ifd rfl h (fun c290 h => ?_) (fun c290 h => ?_)
    ·skip
     refine MX.skip ?_
     refine MX.seq ?_
     refine MX.block ?_
     refine MX.seq ?_
     refine MX.region ?_
     obtain ⟨x291, hx291, h⟩ := bind_in h
     have hm299 := Rep.mv h2_0 (Tr.trans hT4 (Tr.trans hT14 (Tr.trans hT20 (Tr.trans hT83 (Tr.trans hT115 (Tr.trans hT119 (Tr.trans hT123 (Tr.trans hT274 hT282))))))))
     obtain ⟨A292, c293, he294, hk295, cs296, hr297, hm298⟩ := Rep.nth hm299 hx291
     have he300 : cs296 = [.int .i64 x291] := hr297; subst he300
     refine RG.val' .plain (FV.idxAddr (m := 1) (i := i277) (by kernel_rfl) rfl he294 rfl rfl hk295) rfl ?_
     refine RG.val' .plain (FV.load1 (by kernel_rfl) rfl (hm298 0 _ rfl)) rfl ?_
     refine RG.val' .plain (FV.assign rfl) rfl ?_
     refine RG.nil ?_
     refine MX.seq ?_
     refine MX.seq ?_
     refine MX.drawT 27 tb28_9 (by kernel_rfl) (by kernel_rfl) (by kernel_rfl) (fun kt301 kp302 => ?_)
     refine RD.vP 0 1 kt301 rfl kp302 .plain (fun _ => FV.move rfl) rfl ?_
     refine RD.vP 1 3 kt301 rfl kp302 .plain (fun _ => FV.move rfl) rfl ?_
     refine RD.vP 2 7 kt301 rfl kp302 .plain (fun _ => FV.leq (i := x291) (j := z276) rfl rfl) rfl ?_
     refine RD.vP 3 15 kt301 rfl kp302 .plain (fun _ => FV.move rfl) rfl ?_
     refine RD.ifd (s := 28) rfl h (fun c303 h => ?_) (fun c303 h => ?_)
     ·skip
      refine RD.offs 511 21 [(4, 29), (5, 30), (6, 31), (7, 32), (8, 33)] (F := [(28, true)]) (U := []) kt301 kp302 (.cons rfl .nil) .nil ?_
      dsimp only [offS, List.map]
      refine RD.vP 9 1023 kt301 rfl kp302 .plain (fun _ => FV.pick_t rfl rfl) rfl ?_
      refine RD.vP 10 2047 kt301 rfl kp302 .plain (fun _ => FV.move rfl) rfl ?_
      refine RD.offs 524287 11 [(11, 36), (12, 37), (13, 38), (14, 39), (15, 40), (16, 41), (17, 42), (18, 43)] (F := [(35, true)]) (U := []) kt301 kp302 (.cons rfl .nil) .nil ?_
      dsimp only [offS, List.map]
      refine RD.vP 19 1048575 kt301 rfl kp302 .plain (fun _ => FV.pick_t rfl rfl) rfl ?_
      refine RD.vP 20 2097151 kt301 rfl kp302 .plain (fun _ => FV.move rfl) rfl ?_
      refine RD.offs 134217727 3 [(21, 46), (22, 47), (23, 48), (24, 49), (25, 50), (26, 51)] (F := [(45, true)]) (U := []) kt301 kp302 (.cons rfl .nil) .nil ?_
      dsimp only [offS, List.map]
      refine RD.one (i := 27) (readyD_ok kt301 (by kernel_rfl)) (RO.off (m' := 268435455) (stepC_ok kt301 (by kernel_rfl)) rfl (.no rfl rfl) rfl ?_)
      refine RD.one (i := 28) (readyD_ok kt301 (by kernel_rfl)) (RO.off (m' := 536870911) (stepC_ok kt301 (by kernel_rfl)) rfl (.no rfl rfl) rfl ?_)
      refine RD.one (i := 29) (readyD_ok kt301 (by kernel_rfl)) (RO.val (m' := 1073741823) (stepC_ok kt301 (by kernel_rfl)) rfl .plain rfl (FV.pick_t rfl rfl) ?_)
      refine RD.done (doneD_ok kt301 (by kernel_rfl)) ?_
      refine MX.cond_t rfl ?_
      refine MX.seq ?_
      refine MX.region ?_
      refine RG.val' .plain (FV.assign rfl) rfl ?_
      refine RG.nil ?_
      have h := thn_inl h hh287
      refine MX.ret rfl ?_
      refine RT.leave (u := .int .i64 300) hb0 Tryd.func28 rfl (.cons (.tmp rfl) .nil) rfl ?_
      obtain rfl := Option.some.inj h
      exact ⟨hS281.ag, fun w9 hw9 => rfl⟩
     ·skip
      refine RD.vP 4 31 kt301 rfl kp302 (.yes rfl rfl) (fun _ => FV.move rfl) rfl ?_
      refine RD.vP 5 63 kt301 rfl kp302 (.yes rfl rfl) (fun _ => FV.fieldAddr (off := 1) (by kernel_rfl) rfl) rfl ?_
      refine RD.val (i := 6) (m' := 127) (W := 1073741696) (takeC_ok kt301 (by kernel_rfl)) rfl kp302 (.yes rfl rfl) (FV.load1 (by kernel_rfl) rfl ((hS281.memA (.tl (.tl .hd))) 1 _ rfl)) rfl ?_
      have hm305 := Rep.mv h0_1 (Tr.trans hT4 (Tr.trans hT14 (Tr.trans hT20 (Tr.trans hT83 (Tr.trans hT115 (Tr.trans hT119 (Tr.trans hT123 (Tr.trans hT274 hT282))))))))
      have hl304 : a0.fEdges.length ≤ 281474976710656 := Rep.lenle hm305
      refine RD.val (i := 7) (m' := 255) (W := 1073741568) (takeC_ok kt301 (by kernel_rfl)) rfl kp302 (.yes rfl rfl) (FV.len (xs := a0.fEdges) Tryd.underlying38 rfl hm305) rfl ?_
      refine RD.vP 8 511 kt301 rfl kp302 (.yes rfl rfl) (fun _ => FV.geq (i := x291) (j := ((a0.fEdges.length : Nat) : Int)) rfl rfl) rfl ?_
      refine RD.vP 9 1023 kt301 rfl kp302 .plain (fun _ => FV.pick_f rfl rfl) rfl ?_
      refine RD.vP 10 2047 kt301 rfl kp302 .plain (fun _ => FV.move rfl) rfl ?_
      refine RD.ifd (s := 35) rfl h (fun c306 h => ?_) (fun c306 h => ?_)
      ·skip
       refine RD.offs 524287 11 [(11, 36), (12, 37), (13, 38), (14, 39), (15, 40), (16, 41), (17, 42), (18, 43)] (F := [(35, true)]) (U := []) kt301 kp302 (.cons rfl .nil) .nil ?_
       dsimp only [offS, List.map]
       refine RD.vP 19 1048575 kt301 rfl kp302 .plain (fun _ => FV.pick_t rfl rfl) rfl ?_
       refine RD.vP 20 2097151 kt301 rfl kp302 .plain (fun _ => FV.move rfl) rfl ?_
       refine RD.offs 134217727 3 [(21, 46), (22, 47), (23, 48), (24, 49), (25, 50), (26, 51)] (F := [(45, true)]) (U := []) kt301 kp302 (.cons rfl .nil) .nil ?_
       dsimp only [offS, List.map]
       refine RD.one (i := 27) (readyD_ok kt301 (by kernel_rfl)) (RO.off (m' := 268435455) (stepC_ok kt301 (by kernel_rfl)) rfl (.no rfl rfl) rfl ?_)
       refine RD.one (i := 28) (readyD_ok kt301 (by kernel_rfl)) (RO.off (m' := 536870911) (stepC_ok kt301 (by kernel_rfl)) rfl (.no rfl rfl) rfl ?_)
       refine RD.one (i := 29) (readyD_ok kt301 (by kernel_rfl)) (RO.val (m' := 1073741823) (stepC_ok kt301 (by kernel_rfl)) rfl .plain rfl (FV.pick_t rfl rfl) ?_)
       refine RD.done (doneD_ok kt301 (by kernel_rfl)) ?_
       refine MX.cond_t rfl ?_
       refine MX.seq ?_
       refine MX.region ?_
       refine RG.val' .plain (FV.assign rfl) rfl ?_
       refine RG.nil ?_
       have h := thn_inl h hh287
       refine MX.ret rfl ?_
       refine RT.leave (u := .int .i64 300) hb0 Tryd.func28 rfl (.cons (.tmp rfl) .nil) rfl ?_
       obtain rfl := Option.some.inj h
       exact ⟨hS281.ag, fun w9 hw9 => rfl⟩
      ·skip
       refine RD.vP 11 4095 kt301 rfl kp302 (.yes rfl rfl) (fun _ => FV.move rfl) rfl ?_
       refine RD.vP 12 8191 kt301 rfl kp302 (.yes rfl rfl) (fun _ => FV.fieldAddr (off := 1) (by kernel_rfl) rfl) rfl ?_
       refine RD.val (i := 13) (m' := 16383) (W := 1073709056) (takeC_ok kt301 (by kernel_rfl)) rfl kp302 (.yes rfl rfl) (FV.load1 (by kernel_rfl) rfl ((hS281.memA (.tl (.tl .hd))) 1 _ rfl)) rfl ?_
       refine RD.vP 14 32767 kt301 rfl kp302 (.yes rfl rfl) (fun _ => FV.move rfl) rfl ?_
       obtain ⟨x307, hx307, h⟩ := bind_in h
       obtain ⟨hi308, hx309⟩ := idx_in hx307
       obtain ⟨A310, c311, he312, hk313, cs314, hr315, hm316⟩ := Rep.nth hm305 hx309
       obtain rfl := op_A46 hr315
       refine RD.vP 15 65535 kt301 rfl kp302 (.yes rfl rfl) (fun _ => FV.idxAddr (m := 2) (i := x291.toNat) (by kernel_rfl) rfl he312 rfl hi308 hk313) rfl ?_
       refine RD.val (i := 16) (m' := 131071) (W := 1073610752) (takeC_ok kt301 (by kernel_rfl)) rfl kp302 (.yes rfl rfl) (FV.loadN (cs := [.int .i64 x307.1, .int .i64 x307.2]) (by kernel_rfl) rfl hm316) rfl ?_
       obtain ⟨y317, hy317, h⟩ := bind_in h
       refine RD.callq (i := 17) (m' := 262143) (W := 1073479680) (takeC_ok kt301 (by kernel_rfl)) rfl kp302 (v := .bool y317) (fst := []) (cap := []) (.yes rfl rfl) body54 rfl (evs_cons rfl (evs_cons rfl evs_nil)) (fun w9 hw9 => trees_has_c n _ w9 (hS281.hL0 hL hw9) a1 x307 hy317) rfl ?_
       refine RD.vP 18 524287 kt301 rfl kp302 (.yes rfl rfl) (fun _ => FV.not rfl) rfl ?_
       refine RD.vP 19 1048575 kt301 rfl kp302 .plain (fun _ => FV.pick_f rfl rfl) rfl ?_
       refine RD.vP 20 2097151 kt301 rfl kp302 .plain (fun _ => FV.move rfl) rfl ?_
       refine RD.ifnb (s := 45) rfl h (fun c318 h => ?_) (fun c318 h => ?_)
       ·skip
        refine RD.val (i := 21) (m' := 4194303) (W := 939524096) (takeC_ok kt301 (by kernel_rfl)) rfl kp302 (.yes rfl rfl) (FV.loadN (cs := [v21]) (by kernel_rfl) rfl (hS281.memA .hd)) rfl ?_
        refine RD.vP 22 8388607 kt301 rfl kp302 (.yes rfl rfl) (fun _ => FV.fieldAddr (off := 1) (by kernel_rfl) rfl) rfl ?_
        refine RD.val (i := 23) (m' := 16777215) (W := 1040187392) (takeC_ok kt301 (by kernel_rfl)) rfl kp302 (.yes rfl rfl) (FV.load1 (by kernel_rfl) rfl ((hS281.memA (.tl (.tl .hd))) 1 _ rfl)) rfl ?_
        refine RD.vP 24 33554431 kt301 rfl kp302 (.yes rfl rfl) (fun _ => FV.move rfl) rfl ?_
        refine RD.vP 25 67108863 kt301 rfl kp302 (.yes rfl rfl) (fun _ => FV.idxAddr (m := 2) (i := x291.toNat) (by kernel_rfl) rfl he312 rfl hi308 hk313) rfl ?_
        refine RD.val (i := 26) (m' := 134217727) (W := 939524096) (takeC_ok kt301 (by kernel_rfl)) rfl kp302 (.yes rfl rfl) (FV.loadN (cs := [.int .i64 x307.1, .int .i64 x307.2]) (by kernel_rfl) rfl hm316) rfl ?_
        refine RD.one (i := 27) (readyD_ok kt301 (by kernel_rfl)) (RO.enterT (m' := 268435455) (fst := []) (cap := []) (vs := [.agg #[v21], .agg #[.int .i64 x307.1, .int .i64 x307.2]]) (stepC_ok kt301 (by kernel_rfl)) rfl rfl (.yes rfl rfl) body55 Tryd.func55 rfl rfl rfl rfl (evs_cons rfl (evs_cons rfl evs_nil)) rfl (fun _ cs320 hb319 => ?_))
        refine MX.seq ?_
        refine MX.region ?_
        refine RG.new .plain rfl (Does.box (vs := [v21]) hS281 rfl rfl) (fun w322 b325 hS323 hT324 => ?_)
        refine RG.new .plain rfl (Does.box (vs := [.int .i64 x307.1, .int .i64 x307.2]) hS323 rfl rfl) (fun w327 b330 hS328 hT329 => ?_)
        refine RG.val' .plain (FV.assign rfl) rfl ?_
        refine RG.nil ?_
        refine MX.seq ?_
        refine MX.drawT 12 tb55_1 (by kernel_rfl) (by kernel_rfl) (by kernel_rfl) (fun kt331 kp332 => ?_)
        refine RD.vP 0 1 kt331 rfl kp332 .plain (fun _ => FV.fieldAddr (off := 0) (by kernel_rfl) rfl) rfl ?_
        refine RD.val (i := 1) (m' := 3) (W := 3600) (takeC_ok kt331 (by kernel_rfl)) rfl kp332 .plain (FV.load1 (by kernel_rfl) rfl ((hS328.memA (.tl .hd)) 0 _ rfl)) rfl ?_
        refine RD.vP 2 7 kt331 rfl kp332 .plain (fun _ => FV.indexArr (m := 1) (k := 0) (len := 2) (by kernel_rfl) rfl rfl rfl (by omega)) rfl ?_
        refine RD.val (i := 3) (m' := 15) (W := 3600) (takeC_ok kt331 (by kernel_rfl)) rfl kp332 .plain (FV.load1 (by kernel_rfl) rfl ((hS328.memA .hd) 0 _ rfl)) rfl ?_
        obtain ⟨y333, hy333, h⟩ := bind_in h
        have hm334 := Cells.mv hc280 (Tr.trans hT324 hT329)
        refine RD.callq (i := 4) (m' := 31) (W := 3584) (takeC_ok kt331 (by kernel_rfl)) rfl kp332 (v := .int .i64 y333) (fst := []) (cap := []) .plain body81 rfl (evs_cons rfl (evs_cons rfl evs_nil)) (fun w9 hw9 => trees_parents_root_c n _ w9 (hS328.hL0 hL hw9) xs278 (Rep.keep0 (St.lend (α := Int) (L := L) hS328 (.tl (.tl (.tl .hd))) hm334 hL) hw9) x307.1 hy333) rfl ?_
        refine RD.vP 5 63 kt331 rfl kp332 .plain (fun _ => FV.fieldAddr (off := 0) (by kernel_rfl) rfl) rfl ?_
        refine RD.val (i := 6) (m' := 127) (W := 3584) (takeC_ok kt331 (by kernel_rfl)) rfl kp332 .plain (FV.load1 (by kernel_rfl) rfl ((hS328.memA (.tl .hd)) 0 _ rfl)) rfl ?_
        refine RD.vP 7 255 kt331 rfl kp332 .plain (fun _ => FV.indexArr (m := 1) (k := 1) (len := 2) (by kernel_rfl) rfl rfl rfl (by omega)) rfl ?_
        refine RD.val (i := 8) (m' := 511) (W := 3584) (takeC_ok kt331 (by kernel_rfl)) rfl kp332 .plain (FV.load1 (by kernel_rfl) rfl ((hS328.memA .hd) 1 _ rfl)) rfl ?_
        obtain ⟨y335, hy335, h⟩ := bind_in h
        refine RD.callq (i := 9) (m' := 1023) (W := 3072) (takeC_ok kt331 (by kernel_rfl)) rfl kp332 (v := .int .i64 y335) (fst := []) (cap := []) .plain body81 rfl (evs_cons rfl (evs_cons rfl evs_nil)) (fun w9 hw9 => trees_parents_root_c n _ w9 (hS328.hL0 hL hw9) xs278 (Rep.keep0 (St.lend (α := Int) (L := L) hS328 (.tl (.tl (.tl .hd))) hm334 hL) hw9) x307.2 hy335) rfl ?_
        refine RD.vP 10 2047 kt331 rfl kp332 .plain (fun _ => FV.assign rfl) rfl ?_
        refine RD.vP 11 4095 kt331 rfl kp332 .plain (fun _ => FV.assign rfl) rfl ?_
        refine RD.done (doneD_ok kt331 (by kernel_rfl)) ?_
        refine MX.seq ?_
        refine MX.region ?_
        refine RG.val' .plain (FV.fieldAddr (off := 0) (by kernel_rfl) rfl) rfl ?_
        refine RG.val' .plain (FV.load1 (by kernel_rfl) rfl ((hS328.memA (.tl .hd)) 0 _ rfl)) rfl ?_
        refine RG.val' .plain (FV.move rfl) rfl ?_
        refine RG.val' .plain (FV.move rfl) rfl ?_
        refine RG.val' .plain (FV.max2 (i := y333) (j := y335) rfl rfl) rfl ?_
        refine RG.val' .plain (FV.move rfl) rfl ?_
        refine RG.val' .plain (FV.move rfl) rfl ?_
        refine RG.val' .plain (FV.min2 (i := y333) (j := y335) rfl rfl) rfl ?_
        obtain ⟨x336, hx336, h⟩ := bind_in h
        obtain ⟨hi337, hx338⟩ := idx_in hx336
        obtain ⟨A339, c340, he341, hk342, cs343, hr344, hm345⟩ := St.nth (α := Int) hS328 (.tl (.tl (.tl .hd))) hm334 hx338
        obtain ⟨b346, c347, he348⟩ := St.nthOwn (α := Int) hS328 (.tl (.tl (.tl .hd))) hk342
        obtain rfl : A339 = ⟨b346, 0, none⟩ := by rw [he348] at he341; cases he341; rfl
        have he349 : cs343 = [.int .i64 x336] := hr344; subst he349
        refine RG.val' .plain (FV.idxAddr (m := 1) (i := (max y333 y335).toNat) (by kernel_rfl) rfl he341 rfl hi337 hk342) rfl ?_
        obtain ⟨xs350, hxs350, h⟩ := bind_in h
        refine RG.acts' .plain (Acts.set (α := Int) (i := (max y333 y335).toNat) (F := fun cs' => [.cells b330 [.int .i64 x307.1, .int .i64 x307.2] 46, .cells b325 [v21] 93, .cells b120 [v21] 93, .row w.heap.size 3 (Rep.size Int) v21 xs350.length cs', .cells b5 [.int .i64 a0.fN, v0_1] 40]) hxs350 hS328 he348 (fun _ => (.tl (.tl (.tl .hd)))) hm334 rfl rfl rfl rfl rfl (by kernel_rfl)) (fun w351 ⟨cs355, hS352, hT353, hc354⟩ => ?_)
        refine RG.nil ?_
        refine MX.seq ?_
        refine MX.region ?_
        refine RG.val' .plain (FV.move rfl) rfl ?_
        refine RG.val' .plain (FV.move rfl) rfl ?_
        refine RG.val' .plain (FV.neq (i := y333) (j := y335) rfl rfl) rfl ?_
        refine RG.val' .plain (FV.assign rfl) rfl ?_
        refine RG.nil ?_
        refine MX.ret rfl ?_
        refine RT.leave (u := .bool (!(decide (y333 = y335)))) hb319 Tryd.func55 rfl (.cons (.tmp rfl) .nil) rfl ?_
        refine RD.one (i := 28) (readyD_ok kt301 (by kernel_rfl)) (RO.val (m' := 536870911) (stepC_ok kt301 (by kernel_rfl)) rfl (.yes rfl rfl) rfl (FV.as (FV.not rfl) (congrArg Value.bool (Bool.not_not _))) ?_)
        refine RD.one (i := 29) (readyD_ok kt301 (by kernel_rfl)) (RO.val (m' := 1073741823) (stepC_ok kt301 (by kernel_rfl)) rfl .plain rfl (FV.pick_f rfl rfl) ?_)
        refine RD.done (doneD_ok kt301 (by kernel_rfl)) ?_
        refine MX.ifd rfl h (fun c356 h => ?_) (fun c356 h => ?_)
        ·skip
         refine MX.seq ?_
         refine MX.region ?_
         refine RG.val' .plain (FV.assign rfl) rfl ?_
         refine RG.nil ?_
         have h := thn_inl h hh287
         refine MX.ret rfl ?_
         refine RT.leave (u := .int .i64 300) hb0 Tryd.func28 rfl (.cons (.tmp rfl) .nil) rfl ?_
         obtain rfl := Option.some.inj h
         exact ⟨hS352.ag, fun w9 hw9 => rfl⟩
        ·skip
         refine MX.skip ?_
         refine MX.region ?_
         refine RG.val' .plain (FV.move rfl) rfl ?_
         refine RG.val' .plain (FV.assign rfl) rfl ?_
         refine RG.nil ?_
         refine MX.inBlock ?_
         refine MX.region ?_
         refine RG.val' .plain (FV.addN (i := i277) (j := 1) rfl rfl (by omega)) rfl ?_
         refine RG.val' .plain (FV.move rfl) rfl ?_
         refine RG.nil ?_
         have hS357 : St _ _ [.cells b120 [v21] 93, .row w.heap.size 3 (Rep.size Int) v21 xs350.length cs355, .cells b5 [.int .i64 a0.fN, v0_1] 40] := hS352.arr (.one (.tl (.tl .hd)) (.one (.tl (.tl .hd)) (.one (.tl (.tl .hd)) .done)))
         have hT358 : Tr w351 _ w351 [.cells b120 [v21] 93, .row w.heap.size 3 (Rep.size Int) v21 xs350.length cs355, .cells b5 [.int .i64 a0.fN, v0_1] 40] := Tr.arr (St.arrOf hS352 (.one (.tl (.tl .hd)) (.one (.tl (.tl .hd)) (.one (.tl (.tl .hd)) .done))))
         have hm359 := Cells.mv hc354 hT358
         exact hJ289 (x291, i277 + 1, xs350, cs355) _ _ ⟨rfl, rfl, rfl, rfl, rfl, rfl, rfl, rfl, trivial⟩ ⟨hS357, (Tr.trans hT282 (Tr.trans hT324 (Tr.trans hT329 (Tr.trans hT353 hT358)))), hm359⟩ h
       ·skip
        refine RD.offs 134217727 3 [(21, 46), (22, 47), (23, 48), (24, 49), (25, 50), (26, 51)] (F := [(45, true)]) (U := []) kt301 kp302 (.cons rfl .nil) .nil ?_
        dsimp only [offS, List.map]
        refine RD.one (i := 27) (readyD_ok kt301 (by kernel_rfl)) (RO.off (m' := 268435455) (stepC_ok kt301 (by kernel_rfl)) rfl (.no rfl rfl) rfl ?_)
        refine RD.one (i := 28) (readyD_ok kt301 (by kernel_rfl)) (RO.off (m' := 536870911) (stepC_ok kt301 (by kernel_rfl)) rfl (.no rfl rfl) rfl ?_)
        refine RD.one (i := 29) (readyD_ok kt301 (by kernel_rfl)) (RO.val (m' := 1073741823) (stepC_ok kt301 (by kernel_rfl)) rfl .plain rfl (FV.pick_t rfl rfl) ?_)
        refine RD.done (doneD_ok kt301 (by kernel_rfl)) ?_
        refine MX.cond_t rfl ?_
        refine MX.seq ?_
        refine MX.region ?_
        refine RG.val' .plain (FV.assign rfl) rfl ?_
        refine RG.nil ?_
        have h := thn_inl h hh287
        refine MX.ret rfl ?_
        refine RT.leave (u := .int .i64 300) hb0 Tryd.func28 rfl (.cons (.tmp rfl) .nil) rfl ?_
        obtain rfl := Option.some.inj h
        exact ⟨hS281.ag, fun w9 hw9 => rfl⟩
    ·skip
     refine MX.exit rfl ?_
     have h := thn_inr h hh287
     try dsimp only at h
     refine MX.seq ?_
     refine MX.seq ?_
     refine MX.region ?_
     refine RG.val' .plain (FV.move rfl) rfl ?_
     have hm360 := Rep.mv h2_0 (Tr.trans hT4 (Tr.trans hT14 (Tr.trans hT20 (Tr.trans hT83 (Tr.trans hT115 (Tr.trans hT119 (Tr.trans hT123 (Tr.trans hT274 hT282))))))))
     refine RG.val' .plain (FV.len (xs := a2) Tryd.underlying22 rfl hm360) rfl ?_
     refine RG.val' .plain (FV.move rfl) rfl ?_
     obtain ⟨y361, hy361, h⟩ := bind_in h
     refine RG.callq' (v := .int .i64 y361) (fst := []) (cap := []) .plain body56 rfl (evs_cons rfl evs_nil) (fun w9 hw9 => math_bits_OnesCount64_c n _ w9 (hS281.hL0 hL hw9) a1 hy361) rfl ?_
     obtain ⟨s362, hs362, h⟩ := bind_in h
     refine RG.val' .plain (FV.subc (i := y361) (j := 1) rfl rfl hs362) rfl ?_
     refine RG.val' .plain (FV.neq (i := ((a2.length : Nat) : Int)) (j := s362) rfl rfl) rfl ?_
     refine RG.nil ?_
     refine MX.ifn rfl h (fun c363 h => ?_) (fun c363 h => ?_)
     ·skip
      refine MX.skip ?_
      refine MX.seq ?_
      refine MX.region ?_
      refine RG.val' .plain (FV.assign rfl) rfl ?_
      refine RG.nil ?_
      refine MX.ret rfl ?_
      refine RT.leave (u := .int .i64 0) hb0 Tryd.func28 rfl (.cons (.tmp rfl) .nil) rfl ?_
      obtain rfl := Option.some.inj h
      exact ⟨hS281.ag, fun w9 hw9 => rfl⟩
     ·skip
      refine MX.seq ?_
      refine MX.region ?_
      refine RG.val' .plain (FV.assign rfl) rfl ?_
      refine RG.nil ?_
      refine MX.ret rfl ?_
      refine RT.leave (u := .int .i64 300) hb0 Tryd.func28 rfl (.cons (.tmp rfl) .nil) rfl ?_
      obtain rfl := Option.some.inj h
      exact ⟨hS281.ag, fun w9 hw9 => rfl⟩
  ·skip
   refine MX.seq ?_
   refine MX.region ?_
   refine RG.val' .plain (FV.move rfl) rfl ?_
   refine RG.val' .plain (FV.assign rfl) rfl ?_
   refine RG.nil ?_
   refine MX.ret rfl ?_
   refine RT.leave (u := .int .i64 y6) hb0 Tryd.func28 rfl (.cons (.tmp rfl) .nil) rfl ?_
   obtain rfl := Option.some.inj h
   exact ⟨hS3.ag, fun w9 hw9 => rfl⟩
def tb8_10 : List (Nat × Nat × Nat) := [(0, 36893488147419103232, 0), (0, 73786976294838206464, 256), (0, 147573952589676412928, 512), (0, 295147905179352825856, 1024), (15, 590295810358705651712, 553402322211286548480), (31, 64, 590295810358705651712)]
def tb8_22 : List (Nat × Nat × Nat) := [(0, 332306998946228968225951765070086144, 32768), (1, 664613997892457936451903530140172288, 332306998946228968225951765070086144), (0, 1329227995784915872903807060280344576, 128), (4, 2658455991569831745807614120560689152, 1329227995784915872903807060280344576), (0, 5316911983139663491615228241121378304, 131072), (24, 10633823966279326983230456482242756608, 7975367974709495237422842361682067456), (32, 21267647932558653966460912964485513216, 10633823966279326983230456482242756608), (64, 42535295865117307932921825928971026432, 21267647932558653966460912964485513216), (130, 85070591730234615865843651857942052864, 43199909863009765869373729459111198720), (511, 170141183460469231731687303715884105728, 32768), (1023, 0, 255211775190703847597530955573826158592)]
def tb8_13 : List (Nat × Nat × Nat) := [(0, 4835703278458516698824704, 8192), (1, 9671406556917033397649408, 4835703278458516698824704), (2, 19342813113834066795298816, 9671406556917033397649408), (4, 38685626227668133590597632, 19342813113834066795298816), (4, 77371252455336267181195264, 19342813113834066795299072), (4, 154742504910672534362390528, 19342813113834066795299328), (4, 309485009821345068724781056, 19342813113834066795299840), (124, 618970019642690137449562112, 599627206528856070654263296), (132, 1237940039285380274899124224, 638312832756524204244860928), (511, 64, 1237940039285380274899124224)]
theorem body9 : bodyB Tryd.prog 9 = true := by kernel_rfl
theorem body13 : bodyB Tryd.prog 13 = true := by kernel_rfl
theorem body27 : bodyB Tryd.prog 27 = true := by kernel_rfl
theorem body28 : bodyB Tryd.prog 28 = true := by kernel_rfl
def wardmotelaw31_WilsonTrees_l1 (n : Nat) (y268 : (List Int) × TChance × Int) (J320 : Nat → Option (Bool ⊕ Unit)) : Nat → Option (Bool ⊕ Unit)
  | i312 => (if i312 < y268.1.length then (y268.1[i312]?).bind fun x323 => (if x323 = ((i312 : Nat) : Int) then J320 (i312 + 1) else some (.inl false)) else some (.inr ()))
def wardmotelaw31_WilsonTrees_l2 (n : Nat) (y32 : (List Int) × TChance × Int) (y13 : TGraph) (J221 : Nat × (List (Int × Int)) → Option (List (Int × Int))) : Nat × (List (Int × Int)) → Option (List (Int × Int))
  | (i209, xs210) => (if i209 < y32.1.length then (y32.1[i209]?).bind fun x224 => (idx y13.fEdges x224).bind fun x236 => (app xs210 ([x236] : List (Int × Int))).bind fun xs253 => J221 (i209 + 1, xs253) else some xs210)
def wardmotelaw31_WilsonTrees_p (n : Nat) (a0 : TDraft) (a1 : UInt64) (a2 : TChance) : Option Bool :=
  (wardmotelaw31_works_p n).bind fun y11 => (if y11 = true then (wardmoteref18_Draft_Graph_p n a0).bind fun y13 => (natOf y13.fN).bind fun k31 => (wilson_Draw_p n y13 (a1 &&& ((shlU (1 : UInt64) k31) - (1 : UInt64))) a2).bind fun y32 => (wilson_Draw_p n y13 (a1 &&& ((shlU (1 : UInt64) k31) - (1 : UInt64))) a2).bind fun y49 => (if y32.2.2 = y49.2.2 then (slices_Equal_int_int_p n y32.1 y49.1).bind fun y67 => (if y67 = true then (if y32.2.1.fState = y49.2.1.fState then (if (a1 &&& ((shlU (1 : UInt64) k31) - (1 : UInt64))) = (0 : UInt64) then (wardmotelaw31_stops_1_p n y32.1 y32.2.1 y32.2.2 2).bind fun y84 => some y84 else (graph_Connected_p n y13 (a1 &&& ((shlU (1 : UInt64) k31) - (1 : UInt64)))).bind fun y86 => (if y86.2 = 0 then (if y86.1 = true then (if y32.2.2 = 9 then some true else (if y32.2.2 = 0 then (wardmoteref30_Right_p n y13 (a1 &&& ((shlU (1 : UInt64) k31) - (1 : UInt64))) y32.1).bind fun y92 => (if y92 = true then (trees_Check_p n y13 (a1 &&& ((shlU (1 : UInt64) k31) - (1 : UInt64))) y32.1).bind fun y94 => (if y94 = 0 then Option.bind (loopF (wardmotelaw31_WilsonTrees_l2 n y32 y13) n (0, ([] : List (Int × Int)))) (fun xs210 => (wilson_Draw_p n (⟨y13.fN, xs210⟩ : TGraph) (a1 &&& ((shlU (1 : UInt64) k31) - (1 : UInt64))) a2).bind fun y268 => (if y268.2.2 = 9 then some true else (if y268.2.2 = 0 then (if y268.1.length = y32.1.length then thn (loopF (wardmotelaw31_WilsonTrees_l1 n y268) n 0) (fun _ => some true) else some false) else some false))) else some false) else some false) else some false)) else (wardmotelaw31_stops_1_p n y32.1 y32.2.1 y32.2.2 4).bind fun y345 => some y345) else some false)) else some false) else some false) else some false) else some false)
set_option maxRecDepth 4000 in
set_option maxHeartbeats 4000000 in
theorem wardmotelaw31_WilsonTrees_c (n : Nat) (L : List Nat) (w : World) (hL : ∀ b ∈ L, b < w.heap.size) (a0 : TDraft) {v0_3 : Value} (h0_3 : Rep.R w L [v0_3] a0.fMore) (a1 : UInt64) (a2 : TChance) (hG0 : Glob 0 tab0 w)  {r : Bool} (h : wardmotelaw31_WilsonTrees_p n a0 a1 a2 = some r) :
    Calls Tryd.prog 8 #[.agg #[.int .u8 (a0.fWide.toNat : Int), .int .u8 (a0.fHigh.toNat : Int), .int .u16 (a0.fLess.toNat : Int), v0_3], .int .u64 (a1.toNat : Int), .agg #[.int .u64 (a2.fState.toNat : Int)]] w (Gives w fun w' u => u = .bool r) := by
  unfold wardmotelaw31_WilsonTrees_p at h
  have hS0 := St.start w
  refine MX.start Tryd.func8 rfl rfl rfl (fun _ cs0 hb0 => ?_)
  refine MX.seq ?_
  refine MX.region ?_
  refine RG.new .plain rfl (Does.box (vs := [.int .u8 (a0.fWide.toNat : Int), .int .u8 (a0.fHigh.toNat : Int), .int .u16 (a0.fLess.toNat : Int), v0_3]) hS0 rfl rfl) (fun w2 b5 hS3 hT4 => ?_)
  refine RG.new .plain rfl (Does.box (vs := [.int .u64 (a2.fState.toNat : Int)]) hS3 rfl rfl) (fun w7 b10 hS8 hT9 => ?_)
  refine RG.val' .plain (FV.assign rfl) rfl ?_
  refine RG.nil ?_
  refine MX.seq ?_
  refine MX.seq ?_
  refine MX.region ?_
  obtain ⟨y11, hy11, h⟩ := bind_in h
  refine RG.callq' (v := .bool y11) (fst := []) (cap := []) .plain body9 rfl evs_nil (fun w9 hw9 => wardmotelaw31_works_c n _ w9 (hS8.hL0 hL hw9) (hG0.keep (hS8.ag.trans hw9)) hy11) rfl ?_
  refine RG.val' .plain (FV.not rfl) rfl ?_
  refine RG.nil ?_
  refine MX.ifnb rfl h (fun c12 h => ?_) (fun c12 h => ?_)
  ·skip
   refine MX.skip ?_
   refine MX.seq ?_
   refine MX.region ?_
   refine RG.val' .plain (FV.loadN (cs := [.int .u8 (a0.fWide.toNat : Int), .int .u8 (a0.fHigh.toNat : Int), .int .u16 (a0.fLess.toNat : Int), v0_3]) (by kernel_rfl) rfl (hS8.memA (.tl .hd))) rfl ?_
   obtain ⟨y13, hy13, h⟩ := bind_in h
   have hm14 := Rep.mv h0_3 (Tr.trans hT4 hT9)
   refine RG.call' (fst := []) (cap := []) .plain body13 rfl (evs_cons rfl evs_nil) (fun w9 hw9 => wardmoteref18_Draft_Graph_c n _ w9 (hS8.hL hL hw9) a0 (Rep.keep0 hm14 hw9) hy13) rfl (fun w15 vu16 hag17 ⟨v20, hu_, hr21⟩ => ?_)
   subst hu_
   have hS18 := hS8.agree hag17
   have hT19 := Tr.agree (O := [.cells b10 [.int .u64 (a2.fState.toNat : Int)] 37, .cells b5 [.int .u8 (a0.fWide.toNat : Int), .int .u8 (a0.fHigh.toNat : Int), .int .u16 (a0.fLess.toNat : Int), v0_3] 34]) hag17
   refine RG.new .plain rfl (Does.alloc (zs := [.int .i64 0, .slice none 0 0]) hS18 (zB (by kernel_rfl))) (fun w23 b26 hS24 hT25 => ?_)
   have hm27 := Rep.mv hr21 hT25
   refine RG.now .plain (Acts.store (j := 0) (old := [.int .i64 0, .slice none 0 0]) (news := [.int .i64 y13.fN, v20]) (new' := [.int .i64 y13.fN, v20]) hS24 .hd rfl rfl rfl rfl rfl rfl (ones_cons rfl (ones_cons (Rep.o1 hm27) ones_nil)) rfl) (fun w28 hS29 hT30 => ?_)
   refine RG.nil ?_
   refine MX.seq ?_
   refine MX.region ?_
   refine RG.val' .plain (FV.move rfl) rfl ?_
   refine RG.val' .plain (FV.fieldAddr (off := 0) (by kernel_rfl) rfl) rfl ?_
   refine RG.val' .plain (FV.load1 (by kernel_rfl) rfl ((hS29.memA .hd) 0 _ rfl)) rfl ?_
   obtain ⟨k31, hk31, h⟩ := bind_in h
   refine RG.val' .plain (FV.shlI (a := (1 : UInt64)) (i := y13.fN) rfl rfl hk31) rfl ?_
   refine RG.val' .plain (FV.subU (a := shlU (1 : UInt64) k31) (b := (1 : UInt64)) rfl rfl) rfl ?_
   refine RG.val' .plain (FV.andU (a := a1) (b := (shlU (1 : UInt64) k31) - (1 : UInt64)) rfl rfl) rfl ?_
   refine RG.val' .plain (FV.assign rfl) rfl ?_
   refine RG.nil ?_
   refine MX.seq ?_
   refine MX.region ?_
   refine RG.val' .plain (FV.loadN (cs := [.int .i64 y13.fN, v20]) (by kernel_rfl) rfl (hS29.memA .hd)) rfl ?_
   refine RG.val' .plain (FV.move rfl) rfl ?_
   refine RG.val' .plain (FV.loadN (cs := [.int .u64 (a2.fState.toNat : Int)]) (by kernel_rfl) rfl (hS29.memA (.tl .hd))) rfl ?_
   obtain ⟨y32, hy32, h⟩ := bind_in h
   have hm33 := Rep.mv hr21 (Tr.trans hT25 hT30)
   refine RG.call' (fst := []) (cap := []) .plain body14 rfl (evs_cons rfl (evs_cons rfl (evs_cons rfl evs_nil))) (fun w9 hw9 => wilson_Draw_c n _ w9 (hS29.hL hL hw9) y13 (Rep.keep0 hm33 hw9) (a1 &&& ((shlU (1 : UInt64) k31) - (1 : UInt64))) a2 (hG0.keep (hS29.ag.trans hw9)) hy32) rfl (fun w34 vu35 hag36 ⟨v39, hu_, hr40⟩ => ?_)
   subst hu_
   have hS37 := hS29.agree hag36
   have hT38 := Tr.agree (O := [.cells b26 [.int .i64 y13.fN, v20] 40, .cells b10 [.int .u64 (a2.fState.toNat : Int)] 37, .cells b5 [.int .u8 (a0.fWide.toNat : Int), .int .u8 (a0.fHigh.toNat : Int), .int .u16 (a0.fLess.toNat : Int), v0_3] 34]) hag36
   refine RG.val' .plain (FV.move rfl) rfl ?_
   refine RG.val' .plain (FV.extract rfl rfl) rfl ?_
   refine RG.val' .plain (FV.extract rfl rfl) rfl ?_
   refine RG.val' .plain (FV.extract rfl rfl) rfl ?_
   refine RG.new .plain rfl (Does.alloc (zs := [.int .u64 0]) hS37 (zB (by kernel_rfl))) (fun w42 b45 hS43 hT44 => ?_)
   refine RG.val' .plain (FV.assign rfl) rfl ?_
   refine RG.now .plain (Acts.store (j := 0) (old := [.int .u64 0]) (news := [.int .u64 (y32.2.1.fState.toNat : Int)]) (new' := [.int .u64 (y32.2.1.fState.toNat : Int)]) hS43 .hd rfl rfl rfl rfl rfl rfl (ones_cons rfl ones_nil) rfl) (fun w46 hS47 hT48 => ?_)
   refine RG.val' .plain (FV.assign rfl) rfl ?_
   refine RG.nil ?_
   refine MX.seq ?_
   refine MX.region ?_
   refine RG.val' .plain (FV.loadN (cs := [.int .i64 y13.fN, v20]) (by kernel_rfl) rfl (hS47.memA (.tl .hd))) rfl ?_
   refine RG.val' .plain (FV.move rfl) rfl ?_
   refine RG.val' .plain (FV.loadN (cs := [.int .u64 (a2.fState.toNat : Int)]) (by kernel_rfl) rfl (hS47.memA (.tl (.tl .hd)))) rfl ?_
   obtain ⟨y49, hy49, h⟩ := bind_in h
   have hm50 := Rep.mv hr21 (Tr.trans hT25 (Tr.trans hT30 (Tr.trans hT38 (Tr.trans hT44 hT48))))
   refine RG.call' (fst := []) (cap := []) .plain body14 rfl (evs_cons rfl (evs_cons rfl (evs_cons rfl evs_nil))) (fun w9 hw9 => wilson_Draw_c n _ w9 (hS47.hL hL hw9) y13 (Rep.keep0 hm50 hw9) (a1 &&& ((shlU (1 : UInt64) k31) - (1 : UInt64))) a2 (hG0.keep (hS47.ag.trans hw9)) hy49) rfl (fun w51 vu52 hag53 ⟨v56, hu_, hr57⟩ => ?_)
   subst hu_
   have hS54 := hS47.agree hag53
   have hT55 := Tr.agree (O := [.cells b45 [.int .u64 (y32.2.1.fState.toNat : Int)] 37, .cells b26 [.int .i64 y13.fN, v20] 40, .cells b10 [.int .u64 (a2.fState.toNat : Int)] 37, .cells b5 [.int .u8 (a0.fWide.toNat : Int), .int .u8 (a0.fHigh.toNat : Int), .int .u16 (a0.fLess.toNat : Int), v0_3] 34]) hag53
   refine RG.val' .plain (FV.move rfl) rfl ?_
   refine RG.val' .plain (FV.extract rfl rfl) rfl ?_
   refine RG.val' .plain (FV.extract rfl rfl) rfl ?_
   refine RG.val' .plain (FV.extract rfl rfl) rfl ?_
   refine RG.new .plain rfl (Does.alloc (zs := [.int .u64 0]) hS54 (zB (by kernel_rfl))) (fun w59 b62 hS60 hT61 => ?_)
   refine RG.val' .plain (FV.assign rfl) rfl ?_
   refine RG.now .plain (Acts.store (j := 0) (old := [.int .u64 0]) (news := [.int .u64 (y49.2.1.fState.toNat : Int)]) (new' := [.int .u64 (y49.2.1.fState.toNat : Int)]) hS60 .hd rfl rfl rfl rfl rfl rfl (ones_cons rfl ones_nil) rfl) (fun w63 hS64 hT65 => ?_)
   refine RG.val' .plain (FV.assign rfl) rfl ?_
   refine RG.nil ?_
   refine MX.seq ?_
   refine MX.seq ?_
   refine MX.region ?_
   refine RG.val' .plain (FV.move rfl) rfl ?_
   refine RG.val' .plain (FV.move rfl) rfl ?_
   refine RG.val' .plain (FV.neq (i := y32.2.2) (j := y49.2.2) rfl rfl) rfl ?_
   refine RG.val' .plain (FV.move rfl) rfl ?_
   refine RG.ifn (s := 52) rfl h (fun c66 h => ?_) (fun c66 h => ?_)
   ·skip
    refine RG.val' (.yes rfl rfl) (FV.move rfl) rfl ?_
    refine RG.val' (.yes rfl rfl) (FV.move rfl) rfl ?_
    obtain ⟨y67, hy67, h⟩ := bind_in h
    have hm68 := Rep.mv hr40 (Tr.trans hT44 (Tr.trans hT48 (Tr.trans hT55 (Tr.trans hT61 hT65))))
    have hm69 := Rep.mv hr57 (Tr.trans hT61 hT65)
    refine RG.callq' (v := .bool y67) (fst := []) (cap := []) (.yes rfl rfl) body12 rfl (evs_cons rfl (evs_cons rfl evs_nil)) (fun w9 hw9 => slices_Equal_int_int_c n _ w9 (hS64.hL0 hL hw9) y32.1 (Rep.keep0 (Rep.dropO (O := [.cells b62 [.int .u64 (y49.2.1.fState.toNat : Int)] 37, .cells b45 [.int .u64 (y32.2.1.fState.toNat : Int)] 37, .cells b26 [.int .i64 y13.fN, v20] 40, .cells b10 [.int .u64 (a2.fState.toNat : Int)] 37, .cells b5 [.int .u8 (a0.fWide.toNat : Int), .int .u8 (a0.fHigh.toNat : Int), .int .u16 (a0.fLess.toNat : Int), v0_3] 34]) hm68) hw9) y49.1 (Rep.keep0 (Rep.dropO (O := [.cells b62 [.int .u64 (y49.2.1.fState.toNat : Int)] 37, .cells b45 [.int .u64 (y32.2.1.fState.toNat : Int)] 37, .cells b26 [.int .i64 y13.fN, v20] 40, .cells b10 [.int .u64 (a2.fState.toNat : Int)] 37, .cells b5 [.int .u8 (a0.fWide.toNat : Int), .int .u8 (a0.fHigh.toNat : Int), .int .u16 (a0.fLess.toNat : Int), v0_3] 34]) hm69) hw9) hy67) rfl ?_
    refine RG.val' (.yes rfl rfl) (FV.not rfl) rfl ?_
    refine RG.val' .plain (FV.pick_f rfl rfl) rfl ?_
    refine RG.val' .plain (FV.move rfl) rfl ?_
    refine RG.ifnb (s := 58) rfl h (fun c70 h => ?_) (fun c70 h => ?_)
    ·skip
     refine RG.val' (.yes rfl rfl) (FV.loadN (cs := [.int .u64 (y32.2.1.fState.toNat : Int)]) (by kernel_rfl) rfl (hS64.memA (.tl .hd))) rfl ?_
     refine RG.val' (.yes rfl rfl) (FV.loadN (cs := [.int .u64 (y49.2.1.fState.toNat : Int)]) (by kernel_rfl) rfl (hS64.memA .hd)) rfl ?_
     refine RG.val' (.yes rfl rfl) (FV.neqV (xs := #[.int .u64 (y32.2.1.fState.toNat : Int)]) (ys := #[.int .u64 (y49.2.1.fState.toNat : Int)]) rfl rfl (by kernel_rfl) (eql1U_37 y32.2.1.fState y49.2.1.fState)) rfl ?_
     refine RG.val' .plain (FV.pick_f rfl rfl) rfl ?_
     refine RG.nil ?_
     refine MX.ifn rfl h (fun c71 h => ?_) (fun c71 h => ?_)
     ·skip
      refine MX.skip ?_
      refine MX.seq ?_
      refine MX.seq ?_
      refine MX.region ?_
      refine RG.val' .plain (FV.move rfl) rfl ?_
      refine RG.val' .plain (FV.eqlU (a := a1 &&& ((shlU (1 : UInt64) k31) - (1 : UInt64))) (b := (0 : UInt64)) rfl rfl) rfl ?_
      refine RG.nil ?_
      refine MX.ifd rfl h (fun c72 h => ?_) (fun c72 h => ?_)
      ·skip
       refine MX.seq ?_
       refine MX.drawT 6 tb8_10 (by kernel_rfl) (by kernel_rfl) (by kernel_rfl) (fun kt73 kp74 => ?_)
       refine RD.vP 1 2 kt73 rfl kp74 .plain (fun _ => FV.move rfl) rfl ?_
       refine RD.val (i := 2) (m' := 6) (W := 48) (takeC_ok kt73 (by kernel_rfl)) rfl kp74 .plain (FV.loadN (cs := [.int .u64 (y32.2.1.fState.toNat : Int)]) (by kernel_rfl) rfl (hS64.memA (.tl .hd))) rfl ?_
       refine RD.vP 3 14 kt73 rfl kp74 .plain (fun _ => FV.move rfl) rfl ?_
       refine RD.one (i := 0) (readyD_ok kt73 (by kernel_rfl)) (RO.call (m' := 15) (fst := []) (cap := []) (stepC_ok kt73 (by kernel_rfl)) rfl .plain body21 rfl (evs_cons rfl evs_nil) (fun w9 hw9 => Calls.gives (wardmotelaw31_stops_c n _ w9 (hS64.hL hL hw9) 2) fun (w8 : World) (u8 : Value) ⟨b0_, hu_, s_⟩ => (⟨b0_, hu_, s_.from hw9⟩ : ∃ b76 : Nat, u8 = Value.func (.func 39) #[] #[.pointer (some ⟨b76, 0, none⟩)] ∧ St w63 w8 [.cells b76 [.int .i64 2] 27])) rfl (fun w77 vu78 hag79 ⟨b76, hu81, s80⟩ => ?_))
       subst hu81
       have hS82 : St w w77 [.cells b76 [.int .i64 2] 27, .cells b62 [.int .u64 (y49.2.1.fState.toNat : Int)] 37, .cells b45 [.int .u64 (y32.2.1.fState.toNat : Int)] 37, .cells b26 [.int .i64 y13.fN, v20] 40, .cells b10 [.int .u64 (a2.fState.toNat : Int)] 37, .cells b5 [.int .u8 (a0.fWide.toNat : Int), .int .u8 (a0.fHigh.toNat : Int), .int .u16 (a0.fLess.toNat : Int), v0_3] 34] := St.merge hS64 s80
       have hT83 : Tr w63 [.cells b62 [.int .u64 (y49.2.1.fState.toNat : Int)] 37, .cells b45 [.int .u64 (y32.2.1.fState.toNat : Int)] 37, .cells b26 [.int .i64 y13.fN, v20] 40, .cells b10 [.int .u64 (a2.fState.toNat : Int)] 37, .cells b5 [.int .u8 (a0.fWide.toNat : Int), .int .u8 (a0.fHigh.toNat : Int), .int .u16 (a0.fLess.toNat : Int), v0_3] 34] w77 [.cells b76 [.int .i64 2] 27, .cells b62 [.int .u64 (y49.2.1.fState.toNat : Int)] 37, .cells b45 [.int .u64 (y32.2.1.fState.toNat : Int)] 37, .cells b26 [.int .i64 y13.fN, v20] 40, .cells b10 [.int .u64 (a2.fState.toNat : Int)] 37, .cells b5 [.int .u8 (a0.fWide.toNat : Int), .int .u8 (a0.fHigh.toNat : Int), .int .u16 (a0.fLess.toNat : Int), v0_3] 34] := Tr.merge hS64 s80
       obtain ⟨y84, hy84, h⟩ := bind_in h
       have hm85 := Rep.mv hr40 (Tr.trans hT44 (Tr.trans hT48 (Tr.trans hT55 (Tr.trans hT61 (Tr.trans hT65 hT83)))))
       refine RD.callq (i := 4) (m' := 31) (W := 32) (takeC_ok kt73 (by kernel_rfl)) rfl kp74 (v := .bool y84) (fst := []) (cap := [.pointer (some ⟨b76, 0, none⟩)]) .plain body39 rfl (evs_cons rfl (evs_cons rfl (evs_cons rfl evs_nil))) (fun w9 hw9 => wardmotelaw31_stops_1_c n _ w9 (hS82.hL0 hL hw9) y32.1 (Rep.keep0 (Rep.dropO (O := [.cells b76 [.int .i64 2] 27, .cells b62 [.int .u64 (y49.2.1.fState.toNat : Int)] 37, .cells b45 [.int .u64 (y32.2.1.fState.toNat : Int)] 37, .cells b26 [.int .i64 y13.fN, v20] 40, .cells b10 [.int .u64 (a2.fState.toNat : Int)] 37, .cells b5 [.int .u8 (a0.fWide.toNat : Int), .int .u8 (a0.fHigh.toNat : Int), .int .u16 (a0.fLess.toNat : Int), v0_3] 34]) hm85) hw9) y32.2.1 y32.2.2 2 (fun j9 v9 h9 => hw9.cell0 ((hS82.memA .hd) j9 v9 h9)) hy84) rfl ?_
       refine RD.vP 5 63 kt73 rfl kp74 .plain (fun _ => FV.assign rfl) rfl ?_
       refine RD.done (doneD_ok kt73 (by kernel_rfl)) ?_
       refine MX.ret rfl ?_
       refine RT.leave (u := .bool y84) hb0 Tryd.func8 rfl (.cons (.tmp rfl) .nil) rfl ?_
       obtain rfl := Option.some.inj h
       exact ⟨hS82.ag, fun w9 hw9 => rfl⟩
      ·skip
       refine MX.skip ?_
       refine MX.seq ?_
       refine MX.region ?_
       refine RG.val' .plain (FV.loadN (cs := [.int .i64 y13.fN, v20]) (by kernel_rfl) rfl (hS64.memA (.tl (.tl .hd)))) rfl ?_
       refine RG.val' .plain (FV.move rfl) rfl ?_
       obtain ⟨y86, hy86, h⟩ := bind_in h
       have hm87 := Rep.mv hr21 (Tr.trans hT25 (Tr.trans hT30 (Tr.trans hT38 (Tr.trans hT44 (Tr.trans hT48 (Tr.trans hT55 (Tr.trans hT61 hT65)))))))
       refine RG.callq' (v := .tuple #[.bool y86.1, .int .i64 y86.2]) (fst := []) (cap := []) .plain body26 rfl (evs_cons rfl (evs_cons rfl evs_nil)) (fun w9 hw9 => graph_Connected_c n _ w9 (hS64.hL0 hL hw9) y13 (Rep.keep0 (Rep.dropO (O := [.cells b62 [.int .u64 (y49.2.1.fState.toNat : Int)] 37, .cells b45 [.int .u64 (y32.2.1.fState.toNat : Int)] 37, .cells b26 [.int .i64 y13.fN, v20] 40, .cells b10 [.int .u64 (a2.fState.toNat : Int)] 37, .cells b5 [.int .u8 (a0.fWide.toNat : Int), .int .u8 (a0.fHigh.toNat : Int), .int .u16 (a0.fLess.toNat : Int), v0_3] 34]) hm87) hw9) (a1 &&& ((shlU (1 : UInt64) k31) - (1 : UInt64))) (hG0.keep (hS64.ag.trans hw9)) hy86) rfl ?_
       refine RG.val' .plain (FV.move rfl) rfl ?_
       refine RG.val' .plain (FV.extract rfl rfl) rfl ?_
       refine RG.val' .plain (FV.extract rfl rfl) rfl ?_
       refine RG.val' .plain (FV.assign rfl) rfl ?_
       refine RG.val' .plain (FV.assign rfl) rfl ?_
       refine RG.nil ?_
       refine MX.seq ?_
       refine MX.seq ?_
       refine MX.region ?_
       refine RG.val' .plain (FV.move rfl) rfl ?_
       refine RG.val' .plain (FV.neq (i := y86.2) (j := 0) rfl rfl) rfl ?_
       refine RG.val' .plain (FV.move rfl) rfl ?_
       refine RG.ifn (s := 78) rfl h (fun c88 h => ?_) (fun c88 h => ?_)
       ·skip
        refine RG.val' (.yes rfl rfl) (FV.move rfl) rfl ?_
        refine RG.val' (.yes rfl rfl) (FV.not rfl) rfl ?_
        refine RG.val' .plain (FV.pick_f rfl rfl) rfl ?_
        refine RG.nil ?_
        refine MX.ifnb rfl h (fun c89 h => ?_) (fun c89 h => ?_)
        ·skip
         refine MX.skip ?_
         refine MX.seq ?_
         refine MX.seq ?_
         refine MX.region ?_
         refine RG.val' .plain (FV.move rfl) rfl ?_
         refine RG.val' .plain (FV.eql (i := y32.2.2) (j := 9) rfl rfl) rfl ?_
         refine RG.nil ?_
         refine MX.ifd rfl h (fun c90 h => ?_) (fun c90 h => ?_)
         ·skip
          refine MX.seq ?_
          refine MX.region ?_
          refine RG.val' .plain (FV.assign rfl) rfl ?_
          refine RG.nil ?_
          refine MX.ret rfl ?_
          refine RT.leave (u := .bool true) hb0 Tryd.func8 rfl (.cons (.tmp rfl) .nil) rfl ?_
          obtain rfl := Option.some.inj h
          exact ⟨hS64.ag, fun w9 hw9 => rfl⟩
         ·skip
          refine MX.skip ?_
          refine MX.seq ?_
          refine MX.seq ?_
          refine MX.region ?_
          refine RG.val' .plain (FV.move rfl) rfl ?_
          refine RG.val' .plain (FV.neq (i := y32.2.2) (j := 0) rfl rfl) rfl ?_
          refine RG.val' .plain (FV.move rfl) rfl ?_
          refine RG.ifn (s := 95) rfl h (fun c91 h => ?_) (fun c91 h => ?_)
          ·skip
           refine RG.val' (.yes rfl rfl) (FV.loadN (cs := [.int .i64 y13.fN, v20]) (by kernel_rfl) rfl (hS64.memA (.tl (.tl .hd)))) rfl ?_
           refine RG.val' (.yes rfl rfl) (FV.move rfl) rfl ?_
           refine RG.val' (.yes rfl rfl) (FV.move rfl) rfl ?_
           obtain ⟨y92, hy92, h⟩ := bind_in h
           refine RG.callq' (v := .bool y92) (fst := []) (cap := []) (.yes rfl rfl) body27 rfl (evs_cons rfl (evs_cons rfl (evs_cons rfl evs_nil))) (fun w9 hw9 => wardmoteref30_Right_c n _ w9 (hS64.hL0 hL hw9) y13 (Rep.keep0 (Rep.dropO (O := [.cells b62 [.int .u64 (y49.2.1.fState.toNat : Int)] 37, .cells b45 [.int .u64 (y32.2.1.fState.toNat : Int)] 37, .cells b26 [.int .i64 y13.fN, v20] 40, .cells b10 [.int .u64 (a2.fState.toNat : Int)] 37, .cells b5 [.int .u8 (a0.fWide.toNat : Int), .int .u8 (a0.fHigh.toNat : Int), .int .u16 (a0.fLess.toNat : Int), v0_3] 34]) hm87) hw9) (a1 &&& ((shlU (1 : UInt64) k31) - (1 : UInt64))) y32.1 (Rep.keep0 (Rep.dropO (O := [.cells b62 [.int .u64 (y49.2.1.fState.toNat : Int)] 37, .cells b45 [.int .u64 (y32.2.1.fState.toNat : Int)] 37, .cells b26 [.int .i64 y13.fN, v20] 40, .cells b10 [.int .u64 (a2.fState.toNat : Int)] 37, .cells b5 [.int .u8 (a0.fWide.toNat : Int), .int .u8 (a0.fHigh.toNat : Int), .int .u16 (a0.fLess.toNat : Int), v0_3] 34]) hm68) hw9) hy92) rfl ?_
           refine RG.val' (.yes rfl rfl) (FV.not rfl) rfl ?_
           refine RG.val' .plain (FV.pick_f rfl rfl) rfl ?_
           refine RG.val' .plain (FV.move rfl) rfl ?_
           refine RG.ifnb (s := 102) rfl h (fun c93 h => ?_) (fun c93 h => ?_)
           ·skip
            refine RG.val' (.yes rfl rfl) (FV.loadN (cs := [.int .i64 y13.fN, v20]) (by kernel_rfl) rfl (hS64.memA (.tl (.tl .hd)))) rfl ?_
            refine RG.val' (.yes rfl rfl) (FV.move rfl) rfl ?_
            refine RG.val' (.yes rfl rfl) (FV.move rfl) rfl ?_
            obtain ⟨y94, hy94, h⟩ := bind_in h
            refine RG.callq' (v := .int .i64 y94) (fst := []) (cap := []) (.yes rfl rfl) body28 rfl (evs_cons rfl (evs_cons rfl (evs_cons rfl evs_nil))) (fun w9 hw9 => trees_Check_c n _ w9 (hS64.hL0 hL hw9) y13 (Rep.keep0 (Rep.dropO (O := [.cells b62 [.int .u64 (y49.2.1.fState.toNat : Int)] 37, .cells b45 [.int .u64 (y32.2.1.fState.toNat : Int)] 37, .cells b26 [.int .i64 y13.fN, v20] 40, .cells b10 [.int .u64 (a2.fState.toNat : Int)] 37, .cells b5 [.int .u8 (a0.fWide.toNat : Int), .int .u8 (a0.fHigh.toNat : Int), .int .u16 (a0.fLess.toNat : Int), v0_3] 34]) hm87) hw9) (a1 &&& ((shlU (1 : UInt64) k31) - (1 : UInt64))) y32.1 (Rep.keep0 (Rep.dropO (O := [.cells b62 [.int .u64 (y49.2.1.fState.toNat : Int)] 37, .cells b45 [.int .u64 (y32.2.1.fState.toNat : Int)] 37, .cells b26 [.int .i64 y13.fN, v20] 40, .cells b10 [.int .u64 (a2.fState.toNat : Int)] 37, .cells b5 [.int .u8 (a0.fWide.toNat : Int), .int .u8 (a0.fHigh.toNat : Int), .int .u16 (a0.fLess.toNat : Int), v0_3] 34]) hm68) hw9) hy94) rfl ?_
            refine RG.val' (.yes rfl rfl) (FV.neq (i := y94) (j := 0) rfl rfl) rfl ?_
            refine RG.val' .plain (FV.pick_f rfl rfl) rfl ?_
            refine RG.nil ?_
            refine MX.ifn rfl h (fun c95 h => ?_) (fun c95 h => ?_)
            ·skip
             refine MX.skip ?_
             refine MX.seq ?_
             refine MX.region ?_
             refine RG.val' .plain (FV.fieldAddr (off := 0) (by kernel_rfl) rfl) rfl ?_
             refine RG.val' .plain (FV.load1 (by kernel_rfl) rfl ((hS64.memA (.tl (.tl .hd))) 0 _ rfl)) rfl ?_
             refine RG.val' .plain (FV.buildV (vs := [.int .i64 y13.fN]) (u := .agg #[.int .i64 y13.fN, .slice none 0 0]) (evs_cons rfl evs_nil) (fun w9 => by kernel_rfl)) rfl ?_
             refine RG.new .plain rfl (Does.alloc (zs := [.int .i64 0, .slice none 0 0]) hS64 (zB (by kernel_rfl))) (fun w97 b100 hS98 hT99 => ?_)
             refine RG.now .plain (Acts.store (j := 0) (old := [.int .i64 0, .slice none 0 0]) (news := [.int .i64 y13.fN, .slice none 0 0]) (new' := [.int .i64 y13.fN, .slice none 0 0]) hS98 .hd rfl rfl rfl rfl rfl rfl (ones_cons rfl (ones_cons rfl ones_nil)) rfl) (fun w101 hS102 hT103 => ?_)
             refine RG.nil ?_
             refine MX.seq ?_
             refine MX.seq ?_
             refine MX.region ?_
             refine RG.val' .plain (FV.move rfl) rfl ?_
             have hm105 := Rep.mv hr40 (Tr.trans hT44 (Tr.trans hT48 (Tr.trans hT55 (Tr.trans hT61 (Tr.trans hT65 (Tr.trans hT99 hT103))))))
             have hl104 : y32.1.length ≤ 281474976710656 := Rep.lenle hm105
             refine RG.val' .plain (FV.len (xs := y32.1) Tryd.underlying22 rfl hm105) rfl ?_
             refine RG.val' .plain (FV.move rfl) rfl ?_
             refine RG.nil ?_
             refine MX.block ?_
             have hS107 := hS102.nilRow 46 (Rep.size (Int × Int))
             have hT108 := Tr.nilRow (w := w101) (O := [.cells b100 [.int .i64 y13.fN, .slice none 0 0] 40, .cells b62 [.int .u64 (y49.2.1.fState.toNat : Int)] 37, .cells b45 [.int .u64 (y32.2.1.fState.toNat : Int)] 37, .cells b26 [.int .i64 y13.fN, v20] 40, .cells b10 [.int .u64 (a2.fState.toNat : Int)] 37, .cells b5 [.int .u8 (a0.fWide.toNat : Int), .int .u8 (a0.fHigh.toNat : Int), .int .u16 (a0.fLess.toNat : Int), v0_3] 34]) w.heap.size 46 (Rep.size (Int × Int))
             have hc109 : Cells w101 (bl [.row w.heap.size 46 (Rep.size (Int × Int)) (.slice none 0 0) (([] : List (Int × Int)).length) [], .cells b100 [.int .i64 y13.fN, .slice none 0 0] 40, .cells b62 [.int .u64 (y49.2.1.fState.toNat : Int)] 37, .cells b45 [.int .u64 (y32.2.1.fState.toNat : Int)] 37, .cells b26 [.int .i64 y13.fN, v20] 40, .cells b10 [.int .u64 (a2.fState.toNat : Int)] 37, .cells b5 [.int .u8 (a0.fWide.toNat : Int), .int .u8 (a0.fHigh.toNat : Int), .int .u16 (a0.fLess.toNat : Int), v0_3] 34] ++ L) [] ([] : List (Int × Int)) := Cells.nil _ _
             have hS206 : St _ _ [.row w.heap.size 46 (Rep.size (Int × Int)) (.slice none 0 0) (([] : List (Int × Int)).length) [], .cells b100 [.int .i64 y13.fN, (.slice none 0 0)] 40, .cells b26 [.int .i64 y13.fN, v20] 40, .cells b10 [.int .u64 (a2.fState.toNat : Int)] 37] := hS107.arr (.one .hd (.one .hd (.one (.tl (.tl .hd)) (.one (.tl (.tl .hd)) .done))))
             have hT207 : Tr w101 _ w101 [.row w.heap.size 46 (Rep.size (Int × Int)) (.slice none 0 0) (([] : List (Int × Int)).length) [], .cells b100 [.int .i64 y13.fN, (.slice none 0 0)] 40, .cells b26 [.int .i64 y13.fN, v20] 40, .cells b10 [.int .u64 (a2.fState.toNat : Int)] 37] := Tr.arr (St.arrOf hS107 (.one .hd (.one .hd (.one (.tl (.tl .hd)) (.one (.tl (.tl .hd)) .done)))))
             have hm208 := Cells.mv hc109 hT207
             obtain ⟨o219, ho218, hh220⟩ := bind_in2 h
             refine MX.loop (α := Nat × (List (Int × Int)) × Value × (List Value)) (fun ⟨i209, xs210, v213, cs211⟩ => [(1, .int .u64 ((a1 &&& ((shlU (1 : UInt64) k31) - (1 : UInt64))).toNat : Int)), (5, .pointer (some ⟨b10, 0, none⟩)), (7, .pointer (some ⟨b26, 0, none⟩)), (8, v39), (15, .pointer (some ⟨b100, 0, none⟩)), (112, v39), (113, .int .i64 ((y32.1.length : Nat) : Int)), (114, .int .i64 ((i209 : Nat) : Int))]) (fun ⟨i209, xs210, v213, cs211⟩ wx213 => St w wx213 [.row w.heap.size 46 (Rep.size (Int × Int)) v213 xs210.length cs211, .cells b100 [.int .i64 y13.fN, v213] 40, .cells b26 [.int .i64 y13.fN, v20] 40, .cells b10 [.int .u64 (a2.fState.toNat : Int)] 37] ∧ Tr w101 [.row w.heap.size 46 (Rep.size (Int × Int)) (.slice none 0 0) (([] : List (Int × Int)).length) [], .cells b100 [.int .i64 y13.fN, (.slice none 0 0)] 40, .cells b26 [.int .i64 y13.fN, v20] 40, .cells b10 [.int .u64 (a2.fState.toNat : Int)] 37] wx213 [.row w.heap.size 46 (Rep.size (Int × Int)) v213 xs210.length cs211, .cells b100 [.int .i64 y13.fN, v213] 40, .cells b26 [.int .i64 y13.fN, v20] 40, .cells b10 [.int .u64 (a2.fState.toNat : Int)] 37] ∧ Cells wx213 (bl [.row w.heap.size 46 (Rep.size (Int × Int)) v213 xs210.length cs211, .cells b100 [.int .i64 y13.fN, v213] 40, .cells b26 [.int .i64 y13.fN, v20] 40, .cells b10 [.int .u64 (a2.fState.toNat : Int)] 37] ++ L) cs211 xs210) (fun ⟨i209, xs210, v213, cs211⟩ => (i209, xs210)) (0, ([] : List (Int × Int)), (.slice none 0 0), []) ho218 ⟨rfl, rfl, rfl, rfl, rfl, rfl, rfl, rfl, trivial⟩ ⟨hS206, Tr.refl _ _, hm208⟩ ?_
             rintro J221 ⟨i209, xs210, v213, cs211⟩ wx213 hJ222 ⟨hS214, hT215, hc212⟩ h
             unfold wardmotelaw31_WilsonTrees_l2 at h
             try dsimp only at h
             refine MX.seq ?_
             refine MX.region ?_
             refine RG.val' .plain (FV.lssN (i := i209) (j := y32.1.length) rfl rfl) rfl ?_
             refine RG.nil ?_
             refine MX.seq ?_
             refine MX.ifd rfl h (fun c223 h => ?_) (fun c223 h => ?_)
             ·skip
              refine MX.skip ?_
              refine MX.seq ?_
              refine MX.block ?_
              refine MX.seq ?_
              refine MX.region ?_
              obtain ⟨x224, hx224, h⟩ := bind_in h
              have hm232 := Rep.mv hr40 (Tr.trans hT44 (Tr.trans hT48 (Tr.trans hT55 (Tr.trans hT61 (Tr.trans hT65 (Tr.trans hT99 (Tr.trans hT103 (Tr.trans hT108 (Tr.trans hT207 hT215)))))))))
              obtain ⟨A225, c226, he227, hk228, cs229, hr230, hm231⟩ := Rep.nth hm232 hx224
              have he233 : cs229 = [.int .i64 x224] := hr230; subst he233
              refine RG.val' .plain (FV.idxAddr (m := 1) (i := i209) (by kernel_rfl) rfl he227 rfl rfl hk228) rfl ?_
              refine RG.val' .plain (FV.load1 (by kernel_rfl) rfl (hm231 0 _ rfl)) rfl ?_
              refine RG.val' .plain (FV.assign rfl) rfl ?_
              refine RG.nil ?_
              refine MX.drawT 8 tb8_22 (by kernel_rfl) (by kernel_rfl) (by kernel_rfl) (fun kt234 kp235 => ?_)
              refine RD.vP 0 1 kt234 rfl kp235 .plain (fun _ => FV.fieldAddr (off := 1) (by kernel_rfl) rfl) rfl ?_
              refine RD.val (i := 1) (m' := 3) (W := 1792) (takeC_ok kt234 (by kernel_rfl)) rfl kp235 .plain (FV.load1 (by kernel_rfl) rfl ((hS214.memA (.tl .hd)) 1 _ rfl)) rfl ?_
              refine RD.vP 2 7 kt234 rfl kp235 .plain (fun _ => FV.fieldAddr (off := 1) (by kernel_rfl) rfl) rfl ?_
              refine RD.val (i := 3) (m' := 15) (W := 2016) (takeC_ok kt234 (by kernel_rfl)) rfl kp235 .plain (FV.load1 (by kernel_rfl) rfl ((hS214.memA (.tl (.tl .hd))) 1 _ rfl)) rfl ?_
              refine RD.vP 4 31 kt234 rfl kp235 .plain (fun _ => FV.move rfl) rfl ?_
              obtain ⟨x236, hx236, h⟩ := bind_in h
              obtain ⟨hi237, hx238⟩ := idx_in hx236
              have hm246 := Rep.mv hr21 (Tr.trans hT25 (Tr.trans hT30 (Tr.trans hT38 (Tr.trans hT44 (Tr.trans hT48 (Tr.trans hT55 (Tr.trans hT61 (Tr.trans hT65 (Tr.trans hT99 (Tr.trans hT103 (Tr.trans hT108 (Tr.trans hT207 hT215))))))))))))
              obtain ⟨A239, c240, he241, hk242, cs243, hr244, hm245⟩ := Rep.nth hm246 hx238
              obtain rfl := op_A46 hr244
              refine RD.vP 5 63 kt234 rfl kp235 .plain (fun _ => FV.idxAddr (m := 2) (i := x224.toNat) (by kernel_rfl) rfl he241 rfl hi237 hk242) rfl ?_
              refine RD.val (i := 6) (m' := 127) (W := 1920) (takeC_ok kt234 (by kernel_rfl)) rfl kp235 .plain (FV.loadN (cs := [.int .i64 x236.1, .int .i64 x236.2]) (by kernel_rfl) rfl hm245) rfl ?_
              refine RD.one (i := 7) (readyD_ok kt234 (by kernel_rfl)) (RO.new (m' := 255) (stepC_ok kt234 (by kernel_rfl)) rfl .plain rfl (Does.build (α := Int × Int) (xs := ([x236] : List (Int × Int))) (vs := [.agg #[.int .i64 x236.1, .int .i64 x236.2]]) (ds' := [.int .i64 x236.1, .int .i64 x236.2]) rfl hS214 el38 rfl (evs_cons rfl evs_nil) (by kernel_rfl) rfl) (fun w248 b251 hS249 hT250 => ?_))
              have hc252 : Cells w248 (bl [.row w.heap.size 46 (Rep.size (Int × Int)) (.slice (some ⟨b251, 0, none⟩) 1 1) (([x236] : List (Int × Int)).length) [.int .i64 x236.1, .int .i64 x236.2], .row w.heap.size 46 (Rep.size (Int × Int)) v213 xs210.length cs211, .cells b100 [.int .i64 y13.fN, v213] 40, .cells b26 [.int .i64 y13.fN, v20] 40, .cells b10 [.int .u64 (a2.fState.toNat : Int)] 37] ++ L) [.int .i64 x236.1, .int .i64 x236.2] (([x236] : List (Int × Int)) : List (Int × Int)) := Cells.cons (cs := [.int .i64 x236.1, .int .i64 x236.2]) (ds := []) (mk_A46 x236.1 x236.2) (Cells.nil _ _)
              obtain ⟨xs253, hxs253, h⟩ := bind_in h
              have hm254 := Cells.mv hc212 hT250
              refine RD.one (i := 8) (readyD_ok kt234 (by kernel_rfl)) (RO.doesL (m' := 511) (stepC_ok kt234 (by kernel_rfl)) rfl rfl .plain rfl (DoesL.app (α := Int × Int) (ys := ([x236] : List (Int × Int))) (F := fun v' cs' => [.row w.heap.size 46 (Rep.size (Int × Int)) (.slice (some ⟨b251, 0, none⟩) 1 1) (([x236] : List (Int × Int)).length) [.int .i64 x236.1, .int .i64 x236.2], .row w.heap.size 46 (Rep.size (Int × Int)) v' xs253.length cs', .cells b100 [.int .i64 y13.fN, v213] 40, .cells b26 [.int .i64 y13.fN, v20] 40, .cells b10 [.int .u64 (a2.fState.toNat : Int)] 37]) hxs253 hS249 (fun _ _ => (.tl .hd)) el38 rfl rfl hm254 (Src.row (α := Int × Int) hS249 .hd hc252)) (fun v260 w255 ⟨cs259, hS256, hT257, hc258⟩ => ?_))
              refine RD.one (i := 9) (readyD_ok kt234 (by kernel_rfl)) (RO.val (m' := 1023) (stepC_ok kt234 (by kernel_rfl)) rfl .plain rfl (FV.fieldAddr (off := 1) (by kernel_rfl) rfl) ?_)
              refine RD.one (i := 10) (readyD_ok kt234 (by kernel_rfl)) (RO.now (m' := 2047) (stepC_ok kt234 (by kernel_rfl)) rfl rfl .plain (Acts.store (j := 1) (old := [.int .i64 y13.fN, v213]) (news := [v260]) (new' := [.int .i64 y13.fN, v260]) hS256 (.tl (.tl .hd)) rfl rfl rfl (St.c1 (α := Int × Int) hS256 (.tl .hd)) rfl rfl (ones_cons (St.o1 (α := Int × Int) hS256 (.tl .hd)) ones_nil) rfl) (fun w262 hS263 hT264 => ?_))
              refine RD.done (doneD_ok kt234 (by kernel_rfl)) ?_
              refine MX.inBlock ?_
              refine MX.region ?_
              refine RG.val' .plain (FV.addN (i := i209) (j := 1) rfl rfl (by omega)) rfl ?_
              refine RG.val' .plain (FV.move rfl) rfl ?_
              refine RG.nil ?_
              have hS265 : St _ _ [.row w.heap.size 46 (Rep.size (Int × Int)) v260 xs253.length cs259, .cells b100 [.int .i64 y13.fN, v260] 40, .cells b26 [.int .i64 y13.fN, v20] 40, .cells b10 [.int .u64 (a2.fState.toNat : Int)] 37] := hS263.arr (.one (.tl .hd) (.one (.tl .hd) (.one (.tl .hd) (.one (.tl .hd) .done))))
              have hT266 : Tr w262 _ w262 [.row w.heap.size 46 (Rep.size (Int × Int)) v260 xs253.length cs259, .cells b100 [.int .i64 y13.fN, v260] 40, .cells b26 [.int .i64 y13.fN, v20] 40, .cells b10 [.int .u64 (a2.fState.toNat : Int)] 37] := Tr.arr (St.arrOf hS263 (.one (.tl .hd) (.one (.tl .hd) (.one (.tl .hd) (.one (.tl .hd) .done)))))
              have hm267 := Cells.mv hc258 (Tr.trans hT264 hT266)
              exact hJ222 (i209 + 1, xs253, v260, cs259) _ _ ⟨rfl, rfl, rfl, rfl, rfl, rfl, rfl, rfl, trivial⟩ ⟨hS265, (Tr.trans hT215 (Tr.trans hT250 (Tr.trans hT257 (Tr.trans hT264 hT266)))), hm267⟩ h
             ·skip
              refine MX.exit rfl ?_
              have h := hh220 _ h
              try dsimp only at h
              refine MX.seq ?_
              refine MX.region ?_
              refine RG.val' .plain (FV.loadN (cs := [.int .i64 y13.fN, v213]) (by kernel_rfl) rfl (hS214.memA (.tl .hd))) rfl ?_
              refine RG.val' .plain (FV.move rfl) rfl ?_
              refine RG.val' .plain (FV.loadN (cs := [.int .u64 (a2.fState.toNat : Int)]) (by kernel_rfl) rfl (hS214.memA (.tl (.tl (.tl .hd))))) rfl ?_
              have hr269 := St.freeze (α := Int × Int) hS214 .hd hc212 hL
              have hS270 := hS214.del (.hd : Out _ _ _).del
              have hT271 := Tr.del (w := wx213) (.hd : Out [.row w.heap.size 46 (Rep.size (Int × Int)) v213 xs210.length cs211, .cells b100 [.int .i64 y13.fN, v213] 40, .cells b26 [.int .i64 y13.fN, v20] 40, .cells b10 [.int .u64 (a2.fState.toNat : Int)] 37] _ _).del
              have hr272 : Rep.R wx213 (bl [.cells b100 [.int .i64 y13.fN, v213] 40, .cells b26 [.int .i64 y13.fN, v20] 40, .cells b10 [.int .u64 (a2.fState.toNat : Int)] 37] ++ L) [v213] xs210 := hr269
              obtain ⟨y268, hy268, h⟩ := bind_in h
              refine RG.call' (fst := []) (cap := []) .plain body14 rfl (evs_cons rfl (evs_cons rfl (evs_cons rfl evs_nil))) (fun w9 hw9 => wilson_Draw_c n _ w9 (hS270.hL hL hw9) (⟨y13.fN, xs210⟩ : TGraph) (Rep.keep0 hr272 hw9) (a1 &&& ((shlU (1 : UInt64) k31) - (1 : UInt64))) a2 (hG0.keep (hS270.ag.trans hw9)) hy268) rfl (fun w273 vu274 hag275 ⟨v278, hu_, hr279⟩ => ?_)
              subst hu_
              have hS276 := hS270.agree hag275
              have hT277 := Tr.agree (O := [.cells b100 [.int .i64 y13.fN, v213] 40, .cells b26 [.int .i64 y13.fN, v20] 40, .cells b10 [.int .u64 (a2.fState.toNat : Int)] 37]) hag275
              refine RG.val' .plain (FV.move rfl) rfl ?_
              refine RG.val' .plain (FV.extract rfl rfl) rfl ?_
              refine RG.val' .plain (FV.extract rfl rfl) rfl ?_
              refine RG.val' .plain (FV.extract rfl rfl) rfl ?_
              refine RG.new .plain rfl (Does.alloc (zs := [.int .u64 0]) hS276 (zB (by kernel_rfl))) (fun w281 b284 hS282 hT283 => ?_)
              refine RG.val' .plain (FV.assign rfl) rfl ?_
              refine RG.now .plain (Acts.store (j := 0) (old := [.int .u64 0]) (news := [.int .u64 (y268.2.1.fState.toNat : Int)]) (new' := [.int .u64 (y268.2.1.fState.toNat : Int)]) hS282 .hd rfl rfl rfl rfl rfl rfl (ones_cons rfl ones_nil) rfl) (fun w285 hS286 hT287 => ?_)
              refine RG.val' .plain (FV.assign rfl) rfl ?_
              refine RG.nil ?_
              refine MX.seq ?_
              refine MX.seq ?_
              refine MX.region ?_
              refine RG.val' .plain (FV.move rfl) rfl ?_
              refine RG.val' .plain (FV.eql (i := y268.2.2) (j := 9) rfl rfl) rfl ?_
              refine RG.nil ?_
              refine MX.ifd rfl h (fun c288 h => ?_) (fun c288 h => ?_)
              ·skip
               refine MX.seq ?_
               refine MX.region ?_
               refine RG.val' .plain (FV.assign rfl) rfl ?_
               refine RG.nil ?_
               refine MX.ret rfl ?_
               refine RT.leave (u := .bool true) hb0 Tryd.func8 rfl (.cons (.tmp rfl) .nil) rfl ?_
               obtain rfl := Option.some.inj h
               exact ⟨hS286.ag, fun w9 hw9 => rfl⟩
              ·skip
               refine MX.skip ?_
               refine MX.seq ?_
               refine MX.seq ?_
               refine MX.region ?_
               refine RG.val' .plain (FV.move rfl) rfl ?_
               refine RG.val' .plain (FV.neq (i := y268.2.2) (j := 0) rfl rfl) rfl ?_
               refine RG.val' .plain (FV.move rfl) rfl ?_
               refine RG.ifn (s := 141) rfl h (fun c289 h => ?_) (fun c289 h => ?_)
               ·skip
                refine RG.val' (.yes rfl rfl) (FV.move rfl) rfl ?_
                have hm291 := Rep.mv hr279 (Tr.trans hT283 hT287)
                have hl290 : y268.1.length ≤ 281474976710656 := Rep.lenle hm291
                refine RG.val' (.yes rfl rfl) (FV.len (xs := y268.1) Tryd.underlying22 rfl hm291) rfl ?_
                refine RG.val' (.yes rfl rfl) (FV.move rfl) rfl ?_
                have hm292 := Rep.mv hr40 (Tr.trans hT44 (Tr.trans hT48 (Tr.trans hT55 (Tr.trans hT61 (Tr.trans hT65 (Tr.trans hT99 (Tr.trans hT103 (Tr.trans hT108 (Tr.trans hT207 (Tr.trans hT215 (Tr.trans hT271 (Tr.trans hT277 (Tr.trans hT283 hT287)))))))))))))
                refine RG.val' (.yes rfl rfl) (FV.len (xs := y32.1) Tryd.underlying22 rfl hm292) rfl ?_
                refine RG.val' (.yes rfl rfl) (FV.neqN (i := y268.1.length) (j := y32.1.length) rfl rfl) rfl ?_
                refine RG.val' .plain (FV.pick_f rfl rfl) rfl ?_
                refine RG.nil ?_
                refine MX.ifn rfl h (fun c293 h => ?_) (fun c293 h => ?_)
                ·skip
                 refine MX.skip ?_
                 refine MX.seq ?_
                 refine MX.seq ?_
                 refine MX.region ?_
                 refine RG.val' .plain (FV.move rfl) rfl ?_
                 refine RG.val' .plain (FV.len (xs := y268.1) Tryd.underlying22 rfl hm291) rfl ?_
                 refine RG.val' .plain (FV.move rfl) rfl ?_
                 refine RG.nil ?_
                 refine MX.block ?_
                 have hS310 : St _ _ [] := hS286.arr .done
                 have hT311 : Tr w285 _ w285 [] := Tr.arr (St.arrOf hS286 .done)
                 obtain ⟨o318, ho317, hh319⟩ := thn_in h
                 refine MX.loop (α := Nat) (fun i312 => [(148, v278), (149, .int .i64 ((y268.1.length : Nat) : Int)), (150, .int .i64 ((i312 : Nat) : Int))]) (fun i312 wx312 => St w wx312 [] ∧ Tr w285 [] wx312 []) (fun i312 => i312) 0 ho317 ⟨rfl, rfl, rfl, trivial⟩ ⟨hS310, Tr.refl _ _⟩ ?_
                 rintro J320 i312 wx312 hJ321 ⟨hS313, hT314⟩ h
                 unfold wardmotelaw31_WilsonTrees_l1 at h
                 try dsimp only at h
                 refine MX.seq ?_
                 refine MX.region ?_
                 refine RG.val' .plain (FV.lssN (i := i312) (j := y268.1.length) rfl rfl) rfl ?_
                 refine RG.nil ?_
                 refine MX.seq ?_
                 refine MX.ifd rfl h (fun c322 h => ?_) (fun c322 h => ?_)
                 ·skip
                  refine MX.skip ?_
                  refine MX.seq ?_
                  refine MX.block ?_
                  refine MX.seq ?_
                  refine MX.region ?_
                  refine RG.val' .plain (FV.move rfl) rfl ?_
                  obtain ⟨x323, hx323, h⟩ := bind_in h
                  have hm331 := Rep.mv hr279 (Tr.trans hT283 (Tr.trans hT287 (Tr.trans hT311 hT314)))
                  obtain ⟨A324, c325, he326, hk327, cs328, hr329, hm330⟩ := Rep.nth hm331 hx323
                  have he332 : cs328 = [.int .i64 x323] := hr329; subst he332
                  refine RG.val' .plain (FV.idxAddr (m := 1) (i := i312) (by kernel_rfl) rfl he326 rfl rfl hk327) rfl ?_
                  refine RG.val' .plain (FV.load1 (by kernel_rfl) rfl (hm330 0 _ rfl)) rfl ?_
                  refine RG.val' .plain (FV.assign rfl) rfl ?_
                  refine RG.val' .plain (FV.assign rfl) rfl ?_
                  refine RG.nil ?_
                  refine MX.seq ?_
                  refine MX.region ?_
                  refine RG.val' .plain (FV.move rfl) rfl ?_
                  refine RG.val' .plain (FV.move rfl) rfl ?_
                  refine RG.val' .plain (FV.neq (i := x323) (j := ((i312 : Nat) : Int)) rfl rfl) rfl ?_
                  refine RG.nil ?_
                  refine MX.ifn rfl h (fun c333 h => ?_) (fun c333 h => ?_)
                  ·skip
                   refine MX.skip ?_
                   refine MX.inBlock ?_
                   refine MX.region ?_
                   refine RG.val' .plain (FV.addN (i := i312) (j := 1) rfl rfl (by omega)) rfl ?_
                   refine RG.val' .plain (FV.move rfl) rfl ?_
                   refine RG.nil ?_
                   exact hJ321 (i312 + 1) _ _ ⟨rfl, rfl, rfl, trivial⟩ ⟨hS313, hT314⟩ h
                  ·skip
                   refine MX.seq ?_
                   refine MX.region ?_
                   refine RG.val' .plain (FV.assign rfl) rfl ?_
                   refine RG.nil ?_
                   have h := thn_inl h hh319
                   refine MX.ret rfl ?_
                   refine RT.leave (u := .bool false) hb0 Tryd.func8 rfl (.cons (.tmp rfl) .nil) rfl ?_
                   obtain rfl := Option.some.inj h
                   exact ⟨hS313.ag, fun w9 hw9 => rfl⟩
                 ·skip
                  refine MX.exit rfl ?_
                  have h := thn_inr h hh319
                  try dsimp only at h
                  refine MX.seq ?_
                  refine MX.region ?_
                  refine RG.val' .plain (FV.assign rfl) rfl ?_
                  refine RG.nil ?_
                  refine MX.ret rfl ?_
                  refine RT.leave (u := .bool true) hb0 Tryd.func8 rfl (.cons (.tmp rfl) .nil) rfl ?_
                  obtain rfl := Option.some.inj h
                  exact ⟨hS313.ag, fun w9 hw9 => rfl⟩
                ·skip
                 refine MX.seq ?_
                 refine MX.region ?_
                 refine RG.val' .plain (FV.assign rfl) rfl ?_
                 refine RG.nil ?_
                 refine MX.ret rfl ?_
                 refine RT.leave (u := .bool false) hb0 Tryd.func8 rfl (.cons (.tmp rfl) .nil) rfl ?_
                 obtain rfl := Option.some.inj h
                 exact ⟨hS286.ag, fun w9 hw9 => rfl⟩
               ·skip
                refine RG.off (.no rfl rfl) rfl ?_
                refine RG.off (.no rfl rfl) rfl ?_
                refine RG.off (.no rfl rfl) rfl ?_
                refine RG.off (.no rfl rfl) rfl ?_
                refine RG.off (.no rfl rfl) rfl ?_
                refine RG.val' .plain (FV.pick_t rfl rfl) rfl ?_
                refine RG.nil ?_
                refine MX.cond_t rfl ?_
                refine MX.seq ?_
                refine MX.region ?_
                refine RG.val' .plain (FV.assign rfl) rfl ?_
                refine RG.nil ?_
                refine MX.ret rfl ?_
                refine RT.leave (u := .bool false) hb0 Tryd.func8 rfl (.cons (.tmp rfl) .nil) rfl ?_
                obtain rfl := Option.some.inj h
                exact ⟨hS286.ag, fun w9 hw9 => rfl⟩
            ·skip
             refine MX.seq ?_
             refine MX.region ?_
             refine RG.val' .plain (FV.assign rfl) rfl ?_
             refine RG.nil ?_
             refine MX.ret rfl ?_
             refine RT.leave (u := .bool false) hb0 Tryd.func8 rfl (.cons (.tmp rfl) .nil) rfl ?_
             obtain rfl := Option.some.inj h
             exact ⟨hS64.ag, fun w9 hw9 => rfl⟩
           ·skip
            refine RG.off (.no rfl rfl) rfl ?_
            refine RG.off (.no rfl rfl) rfl ?_
            refine RG.off (.no rfl rfl) rfl ?_
            refine RG.off (.no rfl rfl) rfl ?_
            refine RG.off (.no rfl rfl) rfl ?_
            refine RG.val' .plain (FV.pick_t rfl rfl) rfl ?_
            refine RG.nil ?_
            refine MX.cond_t rfl ?_
            refine MX.seq ?_
            refine MX.region ?_
            refine RG.val' .plain (FV.assign rfl) rfl ?_
            refine RG.nil ?_
            refine MX.ret rfl ?_
            refine RT.leave (u := .bool false) hb0 Tryd.func8 rfl (.cons (.tmp rfl) .nil) rfl ?_
            obtain rfl := Option.some.inj h
            exact ⟨hS64.ag, fun w9 hw9 => rfl⟩
          ·skip
           refine RG.off (.no rfl rfl) rfl ?_
           refine RG.off (.no rfl rfl) rfl ?_
           refine RG.off (.no rfl rfl) rfl ?_
           refine RG.off (.no rfl rfl) rfl ?_
           refine RG.off (.no rfl rfl) rfl ?_
           refine RG.val' .plain (FV.pick_t rfl rfl) rfl ?_
           refine RG.val' .plain (FV.move rfl) rfl ?_
           refine RG.off (.no rfl rfl) rfl ?_
           refine RG.off (.no rfl rfl) rfl ?_
           refine RG.off (.no rfl rfl) rfl ?_
           refine RG.off (.no rfl rfl) rfl ?_
           refine RG.off (.no rfl rfl) rfl ?_
           refine RG.val' .plain (FV.pick_t rfl rfl) rfl ?_
           refine RG.nil ?_
           refine MX.cond_t rfl ?_
           refine MX.seq ?_
           refine MX.region ?_
           refine RG.val' .plain (FV.assign rfl) rfl ?_
           refine RG.nil ?_
           refine MX.ret rfl ?_
           refine RT.leave (u := .bool false) hb0 Tryd.func8 rfl (.cons (.tmp rfl) .nil) rfl ?_
           obtain rfl := Option.some.inj h
           exact ⟨hS64.ag, fun w9 hw9 => rfl⟩
        ·skip
         refine MX.seq ?_
         refine MX.drawT 10 tb8_13 (by kernel_rfl) (by kernel_rfl) (by kernel_rfl) (fun kt334 kp335 => ?_)
         refine RD.vP 0 1 kt334 rfl kp335 .plain (fun _ => FV.move rfl) rfl ?_
         refine RD.vP 1 3 kt334 rfl kp335 .plain (fun _ => FV.eql (i := y86.2) (j := 0) rfl rfl) rfl ?_
         refine RD.vP 2 7 kt334 rfl kp335 .plain (fun _ => FV.move rfl) rfl ?_
         refine RD.known (s := 84) rfl (decide_eq_true c88) ?_
         refine RD.vP 4 23 kt334 rfl kp335 (.yes rfl rfl) (fun _ => FV.move rfl) rfl ?_
         refine RD.val (i := 5) (m' := 55) (W := 896) (takeC_ok kt334 (by kernel_rfl)) rfl kp335 (.yes rfl rfl) (FV.loadN (cs := [.int .u64 (y32.2.1.fState.toNat : Int)]) (by kernel_rfl) rfl (hS64.memA (.tl .hd))) rfl ?_
         refine RD.vP 6 119 kt334 rfl kp335 (.yes rfl rfl) (fun _ => FV.move rfl) rfl ?_
         refine RD.one (i := 3) (readyD_ok kt334 (by kernel_rfl)) (RO.call (m' := 127) (fst := []) (cap := []) (stepC_ok kt334 (by kernel_rfl)) rfl (.yes rfl rfl) body21 rfl (evs_cons rfl evs_nil) (fun w9 hw9 => Calls.gives (wardmotelaw31_stops_c n _ w9 (hS64.hL hL hw9) 4) fun (w8 : World) (u8 : Value) ⟨b0_, hu_, s_⟩ => (⟨b0_, hu_, s_.from hw9⟩ : ∃ b337 : Nat, u8 = Value.func (.func 39) #[] #[.pointer (some ⟨b337, 0, none⟩)] ∧ St w63 w8 [.cells b337 [.int .i64 4] 27])) rfl (fun w338 vu339 hag340 ⟨b337, hu342, s341⟩ => ?_))
         subst hu342
         have hS343 : St w w338 [.cells b337 [.int .i64 4] 27, .cells b62 [.int .u64 (y49.2.1.fState.toNat : Int)] 37, .cells b45 [.int .u64 (y32.2.1.fState.toNat : Int)] 37, .cells b26 [.int .i64 y13.fN, v20] 40, .cells b10 [.int .u64 (a2.fState.toNat : Int)] 37, .cells b5 [.int .u8 (a0.fWide.toNat : Int), .int .u8 (a0.fHigh.toNat : Int), .int .u16 (a0.fLess.toNat : Int), v0_3] 34] := St.merge hS64 s341
         have hT344 : Tr w63 [.cells b62 [.int .u64 (y49.2.1.fState.toNat : Int)] 37, .cells b45 [.int .u64 (y32.2.1.fState.toNat : Int)] 37, .cells b26 [.int .i64 y13.fN, v20] 40, .cells b10 [.int .u64 (a2.fState.toNat : Int)] 37, .cells b5 [.int .u8 (a0.fWide.toNat : Int), .int .u8 (a0.fHigh.toNat : Int), .int .u16 (a0.fLess.toNat : Int), v0_3] 34] w338 [.cells b337 [.int .i64 4] 27, .cells b62 [.int .u64 (y49.2.1.fState.toNat : Int)] 37, .cells b45 [.int .u64 (y32.2.1.fState.toNat : Int)] 37, .cells b26 [.int .i64 y13.fN, v20] 40, .cells b10 [.int .u64 (a2.fState.toNat : Int)] 37, .cells b5 [.int .u8 (a0.fWide.toNat : Int), .int .u8 (a0.fHigh.toNat : Int), .int .u16 (a0.fLess.toNat : Int), v0_3] 34] := Tr.merge hS64 s341
         obtain ⟨y345, hy345, h⟩ := bind_in h
         have hm346 := Rep.mv hr40 (Tr.trans hT44 (Tr.trans hT48 (Tr.trans hT55 (Tr.trans hT61 (Tr.trans hT65 hT344)))))
         refine RD.callq (i := 7) (m' := 255) (W := 768) (takeC_ok kt334 (by kernel_rfl)) rfl kp335 (v := .bool y345) (fst := []) (cap := [.pointer (some ⟨b337, 0, none⟩)]) (.yes rfl rfl) body39 rfl (evs_cons rfl (evs_cons rfl (evs_cons rfl evs_nil))) (fun w9 hw9 => wardmotelaw31_stops_1_c n _ w9 (hS343.hL0 hL hw9) y32.1 (Rep.keep0 (Rep.dropO (O := [.cells b337 [.int .i64 4] 27, .cells b62 [.int .u64 (y49.2.1.fState.toNat : Int)] 37, .cells b45 [.int .u64 (y32.2.1.fState.toNat : Int)] 37, .cells b26 [.int .i64 y13.fN, v20] 40, .cells b10 [.int .u64 (a2.fState.toNat : Int)] 37, .cells b5 [.int .u8 (a0.fWide.toNat : Int), .int .u8 (a0.fHigh.toNat : Int), .int .u16 (a0.fLess.toNat : Int), v0_3] 34]) hm346) hw9) y32.2.1 y32.2.2 4 (fun j9 v9 h9 => hw9.cell0 ((hS343.memA .hd) j9 v9 h9)) hy345) rfl ?_
         refine RD.vP 8 511 kt334 rfl kp335 .plain (fun _ => FV.pick_t rfl rfl) rfl ?_
         refine RD.vP 9 1023 kt334 rfl kp335 .plain (fun _ => FV.assign rfl) rfl ?_
         refine RD.done (doneD_ok kt334 (by kernel_rfl)) ?_
         refine MX.ret rfl ?_
         refine RT.leave (u := .bool y345) hb0 Tryd.func8 rfl (.cons (.tmp rfl) .nil) rfl ?_
         obtain rfl := Option.some.inj h
         exact ⟨hS343.ag, fun w9 hw9 => rfl⟩
       ·skip
        refine RG.off (.no rfl rfl) rfl ?_
        refine RG.off (.no rfl rfl) rfl ?_
        refine RG.val' .plain (FV.pick_t rfl rfl) rfl ?_
        refine RG.nil ?_
        refine MX.cond_t rfl ?_
        refine MX.seq ?_
        refine MX.drawT 10 tb8_13 (by kernel_rfl) (by kernel_rfl) (by kernel_rfl) (fun kt347 kp348 => ?_)
        refine RD.vP 0 1 kt347 rfl kp348 .plain (fun _ => FV.move rfl) rfl ?_
        refine RD.vP 1 3 kt347 rfl kp348 .plain (fun _ => FV.eql (i := y86.2) (j := 0) rfl rfl) rfl ?_
        refine RD.vP 2 7 kt347 rfl kp348 .plain (fun _ => FV.move rfl) rfl ?_
        refine RD.known (s := 84) rfl (decide_eq_false c88) ?_
        refine RD.offC 3 15 kt347 rfl kp348 (.no rfl rfl) ?_
        refine RD.offs 255 2 [(4, 86), (5, 87), (6, 88), (7, 89)] (F := [(84, false)]) (U := []) kt347 kp348 (.cons rfl .nil) .nil ?_
        dsimp only [offS, List.map]
        refine RD.vP 8 511 kt347 rfl kp348 .plain (fun _ => FV.pick_f rfl rfl) rfl ?_
        refine RD.vP 9 1023 kt347 rfl kp348 .plain (fun _ => FV.assign rfl) rfl ?_
        refine RD.done (doneD_ok kt347 (by kernel_rfl)) ?_
        refine MX.ret rfl ?_
        refine RT.leave (u := .bool false) hb0 Tryd.func8 rfl (.cons (.tmp rfl) .nil) rfl ?_
        obtain rfl := Option.some.inj h
        exact ⟨hS64.ag, fun w9 hw9 => rfl⟩
     ·skip
      refine MX.seq ?_
      refine MX.region ?_
      refine RG.val' .plain (FV.assign rfl) rfl ?_
      refine RG.nil ?_
      refine MX.ret rfl ?_
      refine RT.leave (u := .bool false) hb0 Tryd.func8 rfl (.cons (.tmp rfl) .nil) rfl ?_
      obtain rfl := Option.some.inj h
      exact ⟨hS64.ag, fun w9 hw9 => rfl⟩
    ·skip
     refine RG.off (.no rfl rfl) rfl ?_
     refine RG.off (.no rfl rfl) rfl ?_
     refine RG.off (.no rfl rfl) rfl ?_
     refine RG.val' .plain (FV.pick_t rfl rfl) rfl ?_
     refine RG.nil ?_
     refine MX.cond_t rfl ?_
     refine MX.seq ?_
     refine MX.region ?_
     refine RG.val' .plain (FV.assign rfl) rfl ?_
     refine RG.nil ?_
     refine MX.ret rfl ?_
     refine RT.leave (u := .bool false) hb0 Tryd.func8 rfl (.cons (.tmp rfl) .nil) rfl ?_
     obtain rfl := Option.some.inj h
     exact ⟨hS64.ag, fun w9 hw9 => rfl⟩
   ·skip
    refine RG.off (.no rfl rfl) rfl ?_
    refine RG.off (.no rfl rfl) rfl ?_
    refine RG.off (.no rfl rfl) rfl ?_
    refine RG.off (.no rfl rfl) rfl ?_
    refine RG.val' .plain (FV.pick_t rfl rfl) rfl ?_
    refine RG.val' .plain (FV.move rfl) rfl ?_
    refine RG.off (.no rfl rfl) rfl ?_
    refine RG.off (.no rfl rfl) rfl ?_
    refine RG.off (.no rfl rfl) rfl ?_
    refine RG.val' .plain (FV.pick_t rfl rfl) rfl ?_
    refine RG.nil ?_
    refine MX.cond_t rfl ?_
    refine MX.seq ?_
    refine MX.region ?_
    refine RG.val' .plain (FV.assign rfl) rfl ?_
    refine RG.nil ?_
    refine MX.ret rfl ?_
    refine RT.leave (u := .bool false) hb0 Tryd.func8 rfl (.cons (.tmp rfl) .nil) rfl ?_
    obtain rfl := Option.some.inj h
    exact ⟨hS64.ag, fun w9 hw9 => rfl⟩
  ·skip
   refine MX.seq ?_
   refine MX.region ?_
   refine RG.val' .plain (FV.assign rfl) rfl ?_
   refine RG.nil ?_
   refine MX.ret rfl ?_
   refine RT.leave (u := .bool false) hb0 Tryd.func8 rfl (.cons (.tmp rfl) .nil) rfl ?_
   obtain rfl := Option.some.inj h
   exact ⟨hS8.ag, fun w9 hw9 => rfl⟩
end Go.Proofs.YtplkfbljncfdnaaDoor
