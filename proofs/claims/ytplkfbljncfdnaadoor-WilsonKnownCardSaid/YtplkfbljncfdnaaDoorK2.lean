/- Functions of the program, and what they give: part 2. -/
import Derived.Test.YtplkfbljncfdnaaDoorK1
namespace Go.Proofs.YtplkfbljncfdnaaDoor
open Go Go.RowKit

theorem body42 : bodyB Tryd.prog 42 = true := by kernel_rfl
theorem body47 : bodyB Tryd.prog 47 = true := by kernel_rfl
def graph_Connected_p (n : Nat) (a0 : TGraph) (a1 : UInt64) : Option (Bool × Int) :=
  (graph_check_p n a0 a1).bind fun y6 => (if y6 = 0 then (graph_components_p n a0 a1).bind fun y9 => some ((decide (y9.length = 1)), 0) else some (false, y6))
set_option maxRecDepth 4000 in
set_option maxHeartbeats 4000000 in
theorem graph_Connected_c (n : Nat) (L : List Nat) (w : World) (hL : ∀ b ∈ L, b < w.heap.size) (a0 : TGraph) {v0_1 : Value} (h0_1 : Rep.R w L [v0_1] a0.fEdges) (a1 : UInt64) (hG0 : Glob 0 tab0 w)  {r : Bool × Int} (h : graph_Connected_p n a0 a1 = some r) :
    Calls Tryd.prog 26 #[.agg #[.int .i64 a0.fN, v0_1], .int .u64 (a1.toNat : Int)] w (Gives w fun _ u => u = .tuple #[.bool r.1, .int .i64 r.2]) := by
  unfold graph_Connected_p at h
  have hS0 := St.start w
  refine MX.start Tryd.func26 rfl rfl rfl (fun _ cs0 hb0 => ?_)
  refine MX.seq ?_
  refine MX.region ?_
  refine RG.new .plain rfl (Does.box (vs := [.int .i64 a0.fN, v0_1]) hS0 rfl rfl) (fun w2 b5 hS3 hT4 => ?_)
  refine RG.val' .plain (FV.assign rfl) rfl ?_
  refine RG.val' .plain (FV.assign rfl) rfl ?_
  refine RG.nil ?_
  refine MX.seq ?_
  refine MX.seq ?_
  refine MX.region ?_
  refine RG.val' .plain (FV.loadN (cs := [.int .i64 a0.fN, v0_1]) (by kernel_rfl) rfl (hS3.memA .hd)) rfl ?_
  refine RG.val' .plain (FV.move rfl) rfl ?_
  obtain ⟨y6, hy6, h⟩ := bind_in h
  have hm7 := Rep.mv h0_1 hT4
  refine RG.callq' (v := .int .i64 y6) (fst := []) (cap := []) .plain body42 rfl (evs_cons rfl (evs_cons rfl evs_nil)) (fun w9 hw9 => graph_check_c n _ w9 (hS3.hL0 hL hw9) a0 (Rep.keep0 (Rep.dropO (O := [.cells b5 [.int .i64 a0.fN, v0_1] 40]) hm7) hw9) a1 hy6) rfl ?_
  refine RG.val' .plain (FV.assign rfl) rfl ?_
  refine RG.nil ?_
  refine MX.seq ?_
  refine MX.region ?_
  refine RG.val' .plain (FV.move rfl) rfl ?_
  refine RG.val' .plain (FV.neq (i := y6) (j := 0) rfl rfl) rfl ?_
  refine RG.nil ?_
  refine MX.ifn rfl h (fun c8 h => ?_) (fun c8 h => ?_)
  ·skip
   refine MX.skip ?_
   refine MX.seq ?_
   refine MX.region ?_
   refine RG.val' .plain (FV.loadN (cs := [.int .i64 a0.fN, v0_1]) (by kernel_rfl) rfl (hS3.memA .hd)) rfl ?_
   refine RG.val' .plain (FV.move rfl) rfl ?_
   obtain ⟨y9, hy9, h⟩ := bind_in h
   refine RG.call' (fst := []) (cap := []) .plain body47 rfl (evs_cons rfl (evs_cons rfl evs_nil)) (fun w9 hw9 => graph_components_c n _ w9 (hS3.hL hL hw9) a0 (Rep.keep0 hm7 hw9) a1 (hG0.keep (hS3.ag.trans hw9)) hy9) rfl (fun w10 vu11 hag12 ⟨v15, hu_, hr16⟩ => ?_)
   subst hu_
   have hS13 := hS3.agree hag12
   have hT14 := Tr.agree (O := [.cells b5 [.int .i64 a0.fN, v0_1] 40]) hag12
   have hl17 : y9.length ≤ 281474976710656 := Rep.lenle hr16
   refine RG.val' .plain (FV.len (xs := y9) Tryd.underlying86 rfl hr16) rfl ?_
   refine RG.val' .plain (FV.eqlN (i := y9.length) (j := 1) rfl rfl) rfl ?_
   refine RG.val' .plain (FV.assign rfl) rfl ?_
   refine RG.val' .plain (FV.assign rfl) rfl ?_
   refine RG.nil ?_
   refine MX.ret rfl ?_
   refine RT.leave (u := .tuple #[.bool (decide (y9.length = 1)), .int .i64 0]) hb0 Tryd.func26 rfl (.cons (.tmp rfl) (.cons (.tmp rfl) .nil)) rfl ?_
   obtain rfl := Option.some.inj h
   exact ⟨hS13.ag, fun w9 hw9 => rfl⟩
  ·skip
   refine MX.seq ?_
   refine MX.region ?_
   refine RG.val' .plain (FV.move rfl) rfl ?_
   refine RG.val' .plain (FV.assign rfl) rfl ?_
   refine RG.val' .plain (FV.assign rfl) rfl ?_
   refine RG.nil ?_
   refine MX.ret rfl ?_
   refine RT.leave (u := .tuple #[.bool false, .int .i64 y6]) hb0 Tryd.func26 rfl (.cons (.tmp rfl) (.cons (.tmp rfl) .nil)) rfl ?_
   obtain rfl := Option.some.inj h
   exact ⟨hS3.ag, fun w9 hw9 => rfl⟩
def tb33_1 : List (Nat × Nat × Nat) := [(0, 32, 2), (1, 64, 32), (0, 128, 4), (4, 256, 128), (10, 512, 320), (31, 16, 512)]
def wilson_fits_p (n : Nat) (a0 : TGraph) (a1 : UInt64) : Option Bool :=
  (math_bits_Len64_p n a1).bind fun y8 => some (decide (y8 ≤ a0.fN))
set_option maxRecDepth 4000 in
set_option maxHeartbeats 4000000 in
theorem wilson_fits_c (n : Nat) (L : List Nat) (w : World) (hL : ∀ b ∈ L, b < w.heap.size) (a0 : TGraph) {v0_1 : Value} (h0_1 : Rep.R w L [v0_1] a0.fEdges) (a1 : UInt64)  {r : Bool} (h : wilson_fits_p n a0 a1 = some r) :
    Calls Tryd.prog 33 #[.agg #[.int .i64 a0.fN, v0_1], .int .u64 (a1.toNat : Int)] w (Gives w fun _ u => u = .bool r) := by
  unfold wilson_fits_p at h
  have hS0 := St.start w
  refine MX.start Tryd.func33 rfl rfl rfl (fun _ cs0 hb0 => ?_)
  refine MX.seq ?_
  refine MX.region ?_
  refine RG.new .plain rfl (Does.box (vs := [.int .i64 a0.fN, v0_1]) hS0 rfl rfl) (fun w2 b5 hS3 hT4 => ?_)
  refine RG.val' .plain (FV.assign rfl) rfl ?_
  refine RG.nil ?_
  refine MX.seq ?_
  refine MX.drawT 6 tb33_1 (by kernel_rfl) (by kernel_rfl) (by kernel_rfl) (fun kt6 kp7 => ?_)
  refine RD.vP 0 1 kt6 rfl kp7 .plain (fun _ => FV.move rfl) rfl ?_
  obtain ⟨y8, hy8, h⟩ := bind_in h
  refine RD.callq (i := 1) (m' := 3) (W := 48) (takeC_ok kt6 (by kernel_rfl)) rfl kp7 (v := .int .i64 y8) (fst := []) (cap := []) .plain body60 rfl (evs_cons rfl evs_nil) (fun w9 hw9 => math_bits_Len64_c n _ w9 (hS3.hL0 hL hw9) a1 hy8) rfl ?_
  refine RD.vP 2 7 kt6 rfl kp7 .plain (fun _ => FV.fieldAddr (off := 0) (by kernel_rfl) rfl) rfl ?_
  refine RD.val (i := 3) (m' := 15) (W := 48) (takeC_ok kt6 (by kernel_rfl)) rfl kp7 .plain (FV.load1 (by kernel_rfl) rfl ((hS3.memA .hd) 0 _ rfl)) rfl ?_
  refine RD.vP 4 31 kt6 rfl kp7 .plain (fun _ => FV.leq (i := y8) (j := a0.fN) rfl rfl) rfl ?_
  refine RD.vP 5 63 kt6 rfl kp7 .plain (fun _ => FV.assign rfl) rfl ?_
  refine RD.done (doneD_ok kt6 (by kernel_rfl)) ?_
  refine MX.ret rfl ?_
  refine RT.leave (u := .bool (decide (y8 ≤ a0.fN))) hb0 Tryd.func33 rfl (.cons (.tmp rfl) .nil) rfl ?_
  obtain rfl := Option.some.inj h
  exact ⟨hS3.ag, fun w9 hw9 => rfl⟩
structure TChance where
  fState : UInt64
  deriving DecidableEq
instance : Rep TChance := Rep.via (β := UInt64) fun x => x.fState
structure Tstate where
  fChance : TChance
  deriving DecidableEq
instance : Rep Tstate := Rep.via (β := TChance) fun x => x.fChance
structure Tsource where
  fstate : Tstate
  deriving DecidableEq
instance : Rep Tsource := Rep.via (β := Tstate) fun x => x.fstate
def tb29_7 : List (Nat × Nat × Nat) := [(0, 67108864, 256), (1, 134217728, 67108864), (0, 268435456, 128), (4, 536870912, 268435456), (8, 1073741824, 536870912), (16, 2147483648, 1073741824), (32, 4294967296, 2147483648), (3, 16, 134217728), (255, 0, 4294967328), (511, 64, 0)]
theorem body57 : bodyB Tryd.prog 57 = true := by kernel_rfl
theorem body58 : bodyB Tryd.prog 58 = true := by kernel_rfl
theorem body82 : bodyB Tryd.prog 82 = true := by kernel_rfl
theorem body83 : bodyB Tryd.prog 83 = true := by kernel_rfl
theorem body95 : bodyB Tryd.prog 95 = true := by kernel_rfl
def chance_Below_l1 (_n : Nat) (s44 : UInt64) (a1 : Int) (J169 : Nat × UInt64 → Option ((Int × TChance × Int) ⊕ Unit)) : Nat × UInt64 → Option ((Int × TChance × Int) ⊕ Unit)
  | (i160, u161) => (if i160 < 200 then (some ((u161 + (11400714819323198485 : UInt64)) ^^^ (shrU (u161 + (11400714819323198485 : UInt64)) 30))).bind fun u177 => (some ((u177 * (13787848793156543929 : UInt64)) ^^^ (shrU (u177 * (13787848793156543929 : UInt64)) 27))).bind fun u178 => (some ((u178 * (10723151780598845931 : UInt64)) ^^^ (shrU (u178 * (10723151780598845931 : UInt64)) 31))).bind fun u179 => (if u179 ≤ ((-s44) - (1 : UInt64)) then (remW u179 (u64of a1)).bind fun s186 => some (.inl (i64of s186, (⟨u161 + (11400714819323198485 : UInt64)⟩ : TChance), 0)) else (if s44 = (0 : UInt64) then (remW u179 (u64of a1)).bind fun s212 => some (.inl (i64of s212, (⟨u161 + (11400714819323198485 : UInt64)⟩ : TChance), 0)) else J169 (i160 + 1, u161 + (11400714819323198485 : UInt64)))) else some (.inr ()))
def chance_Below_p (n : Nat) (a0 : TChance) (a1 : Int) : Option (Int × TChance × Int) :=
  (if a1 < 1 then some (0, (⟨(0 : UInt64)⟩ : TChance), 2) else (remW (-(u64of a1)) (u64of a1)).bind fun s44 => thn (loopF (chance_Below_l1 n s44 a1) n (0, a0.fState)) (fun _ => some (0, (⟨(0 : UInt64)⟩ : TChance), 9)))
set_option maxRecDepth 4000 in
set_option maxHeartbeats 4000000 in
theorem chance_Below_c (n : Nat) (L : List Nat) (w : World) (hL : ∀ b ∈ L, b < w.heap.size) (a0 : TChance) (a1 : Int)  {r : Int × TChance × Int} (h : chance_Below_p n a0 a1 = some r) :
    Calls Tryd.prog 29 #[.agg #[.int .u64 (a0.fState.toNat : Int)], .int .i64 a1] w (Gives w fun _ u => u = .tuple #[.int .i64 r.1, .agg #[.int .u64 (r.2.1.fState.toNat : Int)], .int .i64 r.2.2]) := by
  unfold chance_Below_p at h
  have hS0 := St.start w
  refine MX.start Tryd.func29 rfl rfl rfl (fun _ cs0 hb0 => ?_)
  refine MX.seq ?_
  refine MX.region ?_
  refine RG.new .plain rfl (Does.box (vs := [.int .u64 (a0.fState.toNat : Int)]) hS0 rfl rfl) (fun w2 b5 hS3 hT4 => ?_)
  refine RG.val' .plain (FV.assign rfl) rfl ?_
  refine RG.new .plain rfl (Does.alloc (zs := [.int .u64 0]) hS3 (zB (by kernel_rfl))) (fun w7 b10 hS8 hT9 => ?_)
  refine RG.val' .plain (FV.assign rfl) rfl ?_
  refine RG.nil ?_
  refine MX.seq ?_
  refine MX.seq ?_
  refine MX.region ?_
  refine RG.val' .plain (FV.move rfl) rfl ?_
  refine RG.val' .plain (FV.lss (i := a1) (j := 1) rfl rfl) rfl ?_
  refine RG.nil ?_
  refine MX.ifd rfl h (fun c11 h => ?_) (fun c11 h => ?_)
  ·skip
   refine MX.seq ?_
   refine MX.region ?_
   refine RG.val' .plain (FV.buildV (vs := []) (u := .agg #[.int .u64 0]) evs_nil (fun w9 => by kernel_rfl)) rfl ?_
   refine RG.val' .plain (FV.assign rfl) rfl ?_
   refine RG.now .plain (Acts.store (j := 0) (old := [.int .u64 0]) (news := [.int .u64 0]) (new' := [.int .u64 0]) hS8 .hd rfl rfl rfl rfl rfl rfl (ones_cons rfl ones_nil) rfl) (fun w12 hS13 hT14 => ?_)
   refine RG.val' .plain (FV.assign rfl) rfl ?_
   refine RG.nil ?_
   refine MX.ret rfl ?_
   refine RT.leave (u := .tuple #[.int .i64 0, .agg #[.int .u64 0], .int .i64 2]) hb0 Tryd.func29 rfl (.cons (.tmp rfl) (.cons (.many (cs := [.int .u64 0]) (by kernel_rfl) rfl (hS13.memA .hd)) (.cons (.tmp rfl) .nil))) rfl ?_
   obtain rfl := Option.some.inj h
   exact ⟨hS13.ag, fun w9 hw9 => rfl⟩
  ·skip
   refine MX.skip ?_
   refine MX.seq ?_
   refine MX.region ?_
   refine RG.val' .plain (FV.loadN (cs := [.int .u64 (a0.fState.toNat : Int)]) (by kernel_rfl) rfl (hS8.memA (.tl .hd))) rfl ?_
   refine RG.enter (fst := []) (cap := []) (vs := [.agg #[.int .u64 (a0.fState.toNat : Int)]]) .plain body57 Tryd.func57 rfl rfl rfl rfl (evs_cons rfl evs_nil) rfl (fun cs16 hb15 => ?_)
   refine MX.seq ?_
   refine MX.region ?_
   refine RG.new .plain rfl (Does.box (vs := [.int .u64 (a0.fState.toNat : Int)]) hS8 rfl rfl) (fun w18 b21 hS19 hT20 => ?_)
   refine RG.val' .plain (FV.assign rfl) rfl ?_
   refine RG.nil ?_
   refine MX.seq ?_
   refine MX.region ?_
   refine RG.val' .plain (FV.loadN (cs := [.int .u64 (a0.fState.toNat : Int)]) (by kernel_rfl) rfl (hS19.memA .hd)) rfl ?_
   refine RG.val' .plain (FV.buildV (vs := [.agg #[.int .u64 (a0.fState.toNat : Int)]]) (u := .agg #[.int .u64 (a0.fState.toNat : Int)]) (evs_cons rfl evs_nil) (fun w9 => by kernel_rfl)) rfl ?_
   refine RG.val' .plain (FV.buildV (vs := [.agg #[.int .u64 (a0.fState.toNat : Int)]]) (u := .agg #[.int .u64 (a0.fState.toNat : Int)]) (evs_cons rfl evs_nil) (fun w9 => by kernel_rfl)) rfl ?_
   refine RG.new .plain rfl (Does.box (vs := [.int .u64 (a0.fState.toNat : Int)]) hS19 rfl rfl) (fun w23 b26 hS24 hT25 => ?_)
   refine RG.val' .plain (FV.assign rfl) rfl ?_
   refine RG.nil ?_
   refine MX.ret rfl ?_
   refine RT.leave (u := .pointer (some ⟨b26, 0, none⟩)) hb15 Tryd.func57 rfl (.cons (.tmp rfl) .nil) rfl ?_
   refine RG.val' .plain (FV.assign rfl) rfl ?_
   refine RG.nil ?_
   refine MX.seq ?_
   refine MX.region ?_
   refine RG.val' .plain (FV.move rfl) rfl ?_
   refine RG.val' .plain (FV.move rfl) rfl ?_
   refine RG.val' .plain (FV.convU (i := a1) Tryd.underlying3 Tryd.underlying35 rfl) rfl ?_
   refine RG.enter (fst := []) (cap := []) (vs := [.pointer (some ⟨b26, 0, none⟩), .int .u64 ((u64of a1).toNat : Int)]) .plain body58 Tryd.func58 rfl rfl rfl rfl (evs_cons rfl (evs_cons rfl evs_nil)) rfl (fun cs28 hb27 => ?_)
   refine MX.seq ?_
   refine MX.region ?_
   refine RG.new .plain rfl (Does.box (vs := [.int .u64 ((u64of a1).toNat : Int)]) hS24 rfl rfl) (fun w30 b33 hS31 hT32 => ?_)
   refine RG.new .plain rfl (Does.alloc (zs := [.int .u64 0]) hS31 (zB (by kernel_rfl))) (fun w35 b38 hS36 hT37 => ?_)
   refine RG.new .plain rfl (Does.alloc (zs := [.int .i64 0]) hS36 (zB (by kernel_rfl))) (fun w40 b43 hS41 hT42 => ?_)
   refine RG.nil ?_
   refine MX.seq ?_
   refine MX.region ?_
   refine RG.val' .plain (FV.move rfl) rfl ?_
   refine RG.val' .plain (FV.nilCheck rfl) rfl ?_
   refine RG.val' .plain (FV.fieldAddr (off := 0) (by kernel_rfl) rfl) rfl ?_
   refine RG.val' .plain (FV.makeFunc (vs := [.pointer (some (Addr.add ⟨b26, 0, none⟩ 0))]) (us := []) (evs_cons rfl evs_nil) evs_nil) rfl ?_
   refine RG.val' .plain (FV.assign rfl) rfl ?_
   refine RG.nil ?_
   refine MX.seq ?_
   refine MX.region ?_
   refine RG.val' .plain (FV.load1 (by kernel_rfl) rfl ((hS41.memA (.tl (.tl .hd))) 0 _ rfl)) rfl ?_
   refine RG.val' .plain (FV.negU (a := u64of a1) rfl) rfl ?_
   refine RG.val' .plain (FV.load1 (by kernel_rfl) rfl ((hS41.memA (.tl (.tl .hd))) 0 _ rfl)) rfl ?_
   obtain ⟨s44, hs44, h⟩ := bind_in h
   refine RG.val' .plain (FV.remV (a := -(u64of a1)) (b := u64of a1) rfl rfl hs44) rfl ?_
   refine RG.new .plain rfl (Does.alloc (zs := [.int .u64 0]) hS41 (zB (by kernel_rfl))) (fun w46 b49 hS47 hT48 => ?_)
   refine RG.now .plain (Acts.store (j := 0) (old := [.int .u64 0]) (news := [.int .u64 (s44.toNat : Int)]) (new' := [.int .u64 (s44.toNat : Int)]) hS47 .hd rfl rfl rfl rfl rfl rfl (ones_cons rfl ones_nil) rfl) (fun w50 hS51 hT52 => ?_)
   refine RG.nil ?_
   refine MX.seq ?_
   refine MX.seq ?_
   refine MX.region ?_
   refine RG.val' .plain (FV.move rfl) rfl ?_
   refine RG.enter (fst := []) (cap := []) (vs := [.func (.func 82) #[.pointer (some (Addr.add ⟨b26, 0, none⟩ 0))] #[]]) .plain body83 Tryd.func83 rfl rfl rfl rfl (evs_cons rfl evs_nil) rfl (fun cs54 hb53 => ?_)
   refine MX.seq ?_
   refine MX.region ?_
   refine RG.new .plain rfl (Does.box (vs := [.func (.func 82) #[.pointer (some (Addr.add ⟨b26, 0, none⟩ 0))] #[]]) hS51 rfl rfl) (fun w56 b59 hS57 hT58 => ?_)
   refine RG.val' .plain (FV.assign rfl) rfl ?_
   refine RG.nil ?_
   refine MX.seq ?_
   refine MX.region ?_
   refine RG.val' .plain (FV.makeFunc (vs := []) (us := [.pointer (some ⟨b59, 0, none⟩)]) evs_nil (evs_cons rfl evs_nil)) rfl ?_
   refine RG.val' .plain (FV.assign rfl) rfl ?_
   refine RG.nil ?_
   refine MX.ret rfl ?_
   refine RT.leave (u := .func (.func 95) #[] #[.pointer (some ⟨b59, 0, none⟩)]) hb53 Tryd.func83 rfl (.cons (.tmp rfl) .nil) rfl ?_
   refine RG.nil ?_
   refine MX.block ?_
   refine MX.range (lb := [.pointer (some ⟨b59, 0, none⟩)]) rfl hS57 rfl body95 Tryd.func95 rfl rfl rfl (fun w60 lk63 D64 r65 cs68 hS61 hT62 rec66 hb67 => ?_)
   refine MX.seq ?_
   refine MX.region ?_
   refine RG.val' .plain (FV.move rfl) rfl ?_
   refine RG.nil ?_
   refine MX.block ?_
   have hS158 : St _ _ [.obj lk63 (lpO r65 .ready none), .obj D64 (.deferred (some [])), .cells b59 [.func (.func 82) #[.pointer (some (Addr.add ⟨b26, 0, none⟩ 0))] #[]] 129, .cells b49 [.int .u64 (s44.toNat : Int)] 35, .cells b43 [.int .i64 0] 27, .cells b38 [.int .u64 0] 35, .cells b33 [.int .u64 ((u64of a1).toNat : Int)] 35, .cells b26 [.int .u64 (a0.fState.toNat : Int)] 104, .cells b10 [.int .u64 0] 37, .cells b5 [.int .u64 (a0.fState.toNat : Int)] 37] := hS61.arr (.one .hd (.one .hd (.one .hd (.one .hd (.one .hd (.one .hd (.one .hd (.one .hd (.one (.tl .hd) (.one (.tl .hd) .done))))))))))
   have hT159 : Tr w60 _ w60 [.obj lk63 (lpO r65 .ready none), .obj D64 (.deferred (some [])), .cells b59 [.func (.func 82) #[.pointer (some (Addr.add ⟨b26, 0, none⟩ 0))] #[]] 129, .cells b49 [.int .u64 (s44.toNat : Int)] 35, .cells b43 [.int .i64 0] 27, .cells b38 [.int .u64 0] 35, .cells b33 [.int .u64 ((u64of a1).toNat : Int)] 35, .cells b26 [.int .u64 (a0.fState.toNat : Int)] 104, .cells b10 [.int .u64 0] 37, .cells b5 [.int .u64 (a0.fState.toNat : Int)] 37] := Tr.arr (St.arrOf hS61 (.one .hd (.one .hd (.one .hd (.one .hd (.one .hd (.one .hd (.one .hd (.one .hd (.one (.tl .hd) (.one (.tl .hd) .done)))))))))))
   obtain ⟨o167, ho166, hh168⟩ := thn_in h
   refine MX.loop (α := Nat × UInt64) (fun ⟨i160, u161⟩ => [(0, .func (.yield lk63) #[] #[]), (1, .pointer (some ⟨b59, 0, none⟩)), (3, .int .i64 ((i160 : Nat) : Int))]) (fun ⟨i160, u161⟩ wx161 => St w wx161 [.obj lk63 (lpO r65 .ready none), .obj D64 (.deferred (some [])), .cells b59 [.func (.func 82) #[.pointer (some (Addr.add ⟨b26, 0, none⟩ 0))] #[]] 129, .cells b49 [.int .u64 (s44.toNat : Int)] 35, .cells b43 [.int .i64 0] 27, .cells b38 [.int .u64 0] 35, .cells b33 [.int .u64 ((u64of a1).toNat : Int)] 35, .cells b26 [.int .u64 (u161.toNat : Int)] 104, .cells b10 [.int .u64 0] 37, .cells b5 [.int .u64 (a0.fState.toNat : Int)] 37] ∧ Tr w60 [.obj lk63 (lpO r65 .ready none), .obj D64 (.deferred (some [])), .cells b59 [.func (.func 82) #[.pointer (some (Addr.add ⟨b26, 0, none⟩ 0))] #[]] 129, .cells b49 [.int .u64 (s44.toNat : Int)] 35, .cells b43 [.int .i64 0] 27, .cells b38 [.int .u64 0] 35, .cells b33 [.int .u64 ((u64of a1).toNat : Int)] 35, .cells b26 [.int .u64 (a0.fState.toNat : Int)] 104, .cells b10 [.int .u64 0] 37, .cells b5 [.int .u64 (a0.fState.toNat : Int)] 37] wx161 [.obj lk63 (lpO r65 .ready none), .obj D64 (.deferred (some [])), .cells b59 [.func (.func 82) #[.pointer (some (Addr.add ⟨b26, 0, none⟩ 0))] #[]] 129, .cells b49 [.int .u64 (s44.toNat : Int)] 35, .cells b43 [.int .i64 0] 27, .cells b38 [.int .u64 0] 35, .cells b33 [.int .u64 ((u64of a1).toNat : Int)] 35, .cells b26 [.int .u64 (u161.toNat : Int)] 104, .cells b10 [.int .u64 0] 37, .cells b5 [.int .u64 (a0.fState.toNat : Int)] 37]) (fun ⟨i160, u161⟩ => (i160, u161)) (0, a0.fState) ho166 ⟨rfl, rfl, rfl, trivial⟩ ⟨hS158, Tr.refl _ _⟩ ?_
   rintro J169 ⟨i160, u161⟩ wx161 hJ170 ⟨hS162, hT163⟩ h
   unfold chance_Below_l1 at h
   try dsimp only at h
   refine MX.seq ?_
   refine MX.region ?_
   refine RG.val' .plain (FV.lssN (i := i160) (j := 200) rfl rfl) rfl ?_
   refine RG.nil ?_
   refine MX.seq ?_
   refine MX.ifd rfl h (fun c171 h => ?_) (fun c171 h => ?_)
   ·skip
    refine MX.skip ?_
    refine MX.seq ?_
    refine MX.block ?_
    refine MX.seq ?_
    refine MX.region ?_
    refine RG.val' .plain (FV.move rfl) rfl ?_
    refine RG.val' .plain (FV.load1 (by kernel_rfl) rfl ((hS162.memA (.tl (.tl .hd))) 0 _ rfl)) rfl ?_
    refine RG.enter (fst := [.pointer (some (Addr.add ⟨b26, 0, none⟩ 0))]) (cap := []) (vs := []) .plain body82 Tryd.func82 rfl rfl rfl rfl evs_nil rfl (fun cs173 hb172 => ?_)
    refine MX.seq ?_
    refine MX.region ?_
    refine RG.val' .plain (FV.assign rfl) rfl ?_
    refine RG.nil ?_
    refine MX.seq ?_
    refine MX.region ?_
    refine RG.val' .plain (FV.move rfl) rfl ?_
    refine RG.val' .plain (FV.nilCheck rfl) rfl ?_
    refine RG.val' .plain (FV.fieldAddr (off := 0) (by kernel_rfl) rfl) rfl ?_
    refine RG.val' .plain (FV.fieldAddr (off := 0) (by kernel_rfl) rfl) rfl ?_
    refine RG.val' .plain (FV.load1 (by kernel_rfl) rfl ((mem_from (mem_from (hS162.memA (.tl (.tl (.tl (.tl (.tl (.tl (.tl .hd)))))))) 0) 0) 0 _ rfl)) rfl ?_
    refine RG.val' .plain (FV.addU (a := u161) (b := (11400714819323198485 : UInt64)) rfl rfl) rfl ?_
    refine RG.val' .plain (FV.nilCheck rfl) rfl ?_
    refine RG.val' .plain (FV.fieldAddr (off := 0) (by kernel_rfl) rfl) rfl ?_
    refine RG.val' .plain (FV.fieldAddr (off := 0) (by kernel_rfl) rfl) rfl ?_
    refine RG.now .plain (Acts.store (j := 0) (old := [.int .u64 (u161.toNat : Int)]) (news := [.int .u64 ((u161 + (11400714819323198485 : UInt64)).toNat : Int)]) (new' := [.int .u64 ((u161 + (11400714819323198485 : UInt64)).toNat : Int)]) hS162 (.tl (.tl (.tl (.tl (.tl (.tl (.tl .hd))))))) rfl rfl rfl rfl rfl rfl (ones_cons rfl ones_nil) rfl) (fun w174 hS175 hT176 => ?_)
    refine RG.nil ?_
    refine MX.seq ?_
    refine MX.region ?_
    refine RG.val' .plain (FV.move rfl) rfl ?_
    refine RG.val' .plain (FV.nilCheck rfl) rfl ?_
    refine RG.val' .plain (FV.fieldAddr (off := 0) (by kernel_rfl) rfl) rfl ?_
    refine RG.val' .plain (FV.fieldAddr (off := 0) (by kernel_rfl) rfl) rfl ?_
    refine RG.val' .plain (FV.load1 (by kernel_rfl) rfl ((mem_from (mem_from (hS175.memA (.tl (.tl (.tl (.tl (.tl (.tl (.tl .hd)))))))) 0) 0) 0 _ rfl)) rfl ?_
    refine RG.val' .plain (FV.assign rfl) rfl ?_
    refine RG.nil ?_
    refine MX.seq ?_
    refine MX.region ?_
    refine RG.val' .plain (FV.move rfl) rfl ?_
    refine RG.val' .plain (FV.move rfl) rfl ?_
    refine RG.val' .plain (FV.shrU (a := u161 + (11400714819323198485 : UInt64)) (j := 30) rfl rfl) rfl ?_
    obtain ⟨u177, hu177, h⟩ := bind_in h
    refine RG.val' .plain (FV.as (FV.xorU (a := u161 + (11400714819323198485 : UInt64)) (b := shrU (u161 + (11400714819323198485 : UInt64)) 30) rfl rfl) (congrArg (fun z : UInt64 => Value.int .u64 (z.toNat : Int)) (Option.some.inj hu177))) rfl ?_
    refine RG.val' .plain (FV.mulU (a := u177) (b := (13787848793156543929 : UInt64)) rfl rfl) rfl ?_
    refine RG.val' .plain (FV.assign rfl) rfl ?_
    refine RG.nil ?_
    refine MX.seq ?_
    refine MX.region ?_
    refine RG.val' .plain (FV.move rfl) rfl ?_
    refine RG.val' .plain (FV.move rfl) rfl ?_
    refine RG.val' .plain (FV.shrU (a := u177 * (13787848793156543929 : UInt64)) (j := 27) rfl rfl) rfl ?_
    obtain ⟨u178, hu178, h⟩ := bind_in h
    refine RG.val' .plain (FV.as (FV.xorU (a := u177 * (13787848793156543929 : UInt64)) (b := shrU (u177 * (13787848793156543929 : UInt64)) 27) rfl rfl) (congrArg (fun z : UInt64 => Value.int .u64 (z.toNat : Int)) (Option.some.inj hu178))) rfl ?_
    refine RG.val' .plain (FV.mulU (a := u178) (b := (10723151780598845931 : UInt64)) rfl rfl) rfl ?_
    refine RG.val' .plain (FV.assign rfl) rfl ?_
    refine RG.nil ?_
    refine MX.seq ?_
    refine MX.region ?_
    refine RG.val' .plain (FV.move rfl) rfl ?_
    refine RG.val' .plain (FV.move rfl) rfl ?_
    refine RG.val' .plain (FV.shrU (a := u178 * (10723151780598845931 : UInt64)) (j := 31) rfl rfl) rfl ?_
    obtain ⟨u179, hu179, h⟩ := bind_in h
    refine RG.val' .plain (FV.as (FV.xorU (a := u178 * (10723151780598845931 : UInt64)) (b := shrU (u178 * (10723151780598845931 : UInt64)) 31) rfl rfl) (congrArg (fun z : UInt64 => Value.int .u64 (z.toNat : Int)) (Option.some.inj hu179))) rfl ?_
    refine RG.val' .plain (FV.assign rfl) rfl ?_
    refine RG.nil ?_
    refine MX.ret rfl ?_
    refine RT.leave (u := .int .u64 (u179.toNat : Int)) hb172 Tryd.func82 rfl (.cons (.tmp rfl) .nil) rfl ?_
    refine RG.yield (vs := [.int .u64 (u179.toNat : Int)]) .plain rfl (evs_cons rfl evs_nil) hS175 .hd rec66 rfl rfl rfl (fun cs181 hb180 => ?_)
    refine MX.region ?_
    refine RG.val' .plain (FV.assign rfl) rfl ?_
    refine RG.nil ?_
    refine MX.begin hS175 .hd (fun w182 hS183 hT184 => ?_)
    refine MX.block ?_
    refine MX.seq ?_
    refine MX.region ?_
    refine RG.val' .plain (FV.move rfl) rfl ?_
    refine RG.val' .plain (FV.load1 (by kernel_rfl) rfl ((hS183.memA (.tl (.tl (.tl .hd)))) 0 _ rfl)) rfl ?_
    refine RG.val' .plain (FV.negU (a := s44) rfl) rfl ?_
    refine RG.val' .plain (FV.subU (a := -s44) (b := (1 : UInt64)) rfl rfl) rfl ?_
    refine RG.val' .plain (FV.leqU (a := u179) (b := (-s44) - (1 : UInt64)) rfl rfl) rfl ?_
    refine RG.val' .plain (FV.move rfl) rfl ?_
    refine RG.ifd (s := 25) rfl h (fun c185 h => ?_) (fun c185 h => ?_)
    ·skip
     refine RG.off (.no rfl rfl) rfl ?_
     refine RG.off (.no rfl rfl) rfl ?_
     refine RG.val' .plain (FV.pick_t rfl rfl) rfl ?_
     refine RG.nil ?_
     refine MX.cond_t rfl ?_
     refine MX.seq ?_
     refine MX.region ?_
     refine RG.val' .plain (FV.move rfl) rfl ?_
     refine RG.val' .plain (FV.load1 (by kernel_rfl) rfl ((hS183.memA (.tl (.tl (.tl (.tl (.tl (.tl .hd))))))) 0 _ rfl)) rfl ?_
     obtain ⟨s186, hs186, h⟩ := bind_in h
     refine RG.val' .plain (FV.remV (a := u179) (b := u64of a1) rfl rfl hs186) rfl ?_
     refine RG.now .plain (Acts.store (j := 0) (old := [.int .u64 0]) (news := [.int .u64 (s186.toNat : Int)]) (new' := [.int .u64 (s186.toNat : Int)]) hS183 (.tl (.tl (.tl (.tl (.tl .hd))))) rfl rfl rfl rfl rfl rfl (ones_cons rfl ones_nil) rfl) (fun w187 hS188 hT189 => ?_)
     refine RG.now .plain (Acts.store (j := 0) (old := [.int .i64 0]) (news := [.int .i64 0]) (new' := [.int .i64 0]) hS188 (.tl (.tl (.tl (.tl .hd)))) rfl rfl rfl rfl rfl rfl (ones_cons rfl ones_nil) rfl) (fun w190 hS191 hT192 => ?_)
     refine RG.nil ?_
     refine MX.roundRet hb180 hS191 .hd (fun w193 hS194 hT195 => ?_)
     refine RG.val' .plain (FV.not rfl) rfl ?_
     refine RG.nil ?_
     refine MX.cond_t rfl ?_
     have h := thn_inl h hh168
     refine MX.ret rfl ?_
     refine RT.leave (u := .tuple #[]) hb67 Tryd.func95 rfl .nil rfl ?_
     refine MX.endRange1 hS194 .hd (by intro h9; cases h9) (fun w196 hS197 hT198 => ?_)
     have hS199 : St _ _ [.obj D64 (.deferred (some [])), .cells b59 [.func (.func 82) #[.pointer (some (Addr.add ⟨b26, 0, none⟩ 0))] #[]] 129, .cells b49 [.int .u64 (s44.toNat : Int)] 35, .cells b43 [.int .i64 0] 27, .cells b38 [.int .u64 (s186.toNat : Int)] 35, .cells b33 [.int .u64 ((u64of a1).toNat : Int)] 35, .cells b26 [.int .u64 ((u161 + (11400714819323198485 : UInt64)).toNat : Int)] 104, .cells b10 [.int .u64 0] 37, .cells b5 [.int .u64 (a0.fState.toNat : Int)] 37] := hS197.arr (.one (.tl .hd) (.one (.tl .hd) (.one (.tl .hd) (.one (.tl .hd) (.one (.tl .hd) (.one (.tl .hd) (.one (.tl .hd) (.one (.tl .hd) (.one (.tl .hd) .done)))))))))
     have hT200 : Tr w196 _ w196 [.obj D64 (.deferred (some [])), .cells b59 [.func (.func 82) #[.pointer (some (Addr.add ⟨b26, 0, none⟩ 0))] #[]] 129, .cells b49 [.int .u64 (s44.toNat : Int)] 35, .cells b43 [.int .i64 0] 27, .cells b38 [.int .u64 (s186.toNat : Int)] 35, .cells b33 [.int .u64 ((u64of a1).toNat : Int)] 35, .cells b26 [.int .u64 ((u161 + (11400714819323198485 : UInt64)).toNat : Int)] 104, .cells b10 [.int .u64 0] 37, .cells b5 [.int .u64 (a0.fState.toNat : Int)] 37] := Tr.arr (St.arrOf hS197 (.one (.tl .hd) (.one (.tl .hd) (.one (.tl .hd) (.one (.tl .hd) (.one (.tl .hd) (.one (.tl .hd) (.one (.tl .hd) (.one (.tl .hd) (.one (.tl .hd) .done))))))))))
     refine MX.ret rfl ?_
     refine RT.take hS199 .hd (fun w201 hS202 hT203 => ?_)
     have hS204 : St _ _ [.cells b59 [.func (.func 82) #[.pointer (some (Addr.add ⟨b26, 0, none⟩ 0))] #[]] 129, .cells b49 [.int .u64 (s44.toNat : Int)] 35, .cells b43 [.int .i64 0] 27, .cells b38 [.int .u64 (s186.toNat : Int)] 35, .cells b33 [.int .u64 ((u64of a1).toNat : Int)] 35, .cells b26 [.int .u64 ((u161 + (11400714819323198485 : UInt64)).toNat : Int)] 104, .cells b10 [.int .u64 0] 37, .cells b5 [.int .u64 (a0.fState.toNat : Int)] 37] := hS202.arr (.one (.tl .hd) (.one (.tl .hd) (.one (.tl .hd) (.one (.tl .hd) (.one (.tl .hd) (.one (.tl .hd) (.one (.tl .hd) (.one (.tl .hd) .done))))))))
     have hT205 : Tr w201 _ w201 [.cells b59 [.func (.func 82) #[.pointer (some (Addr.add ⟨b26, 0, none⟩ 0))] #[]] 129, .cells b49 [.int .u64 (s44.toNat : Int)] 35, .cells b43 [.int .i64 0] 27, .cells b38 [.int .u64 (s186.toNat : Int)] 35, .cells b33 [.int .u64 ((u64of a1).toNat : Int)] 35, .cells b26 [.int .u64 ((u161 + (11400714819323198485 : UInt64)).toNat : Int)] 104, .cells b10 [.int .u64 0] 37, .cells b5 [.int .u64 (a0.fState.toNat : Int)] 37] := Tr.arr (St.arrOf hS202 (.one (.tl .hd) (.one (.tl .hd) (.one (.tl .hd) (.one (.tl .hd) (.one (.tl .hd) (.one (.tl .hd) (.one (.tl .hd) (.one (.tl .hd) .done)))))))))
     refine RT.leave (u := .tuple #[.int .u64 (s186.toNat : Int), .int .i64 0]) hb27 Tryd.func58 rfl (.cons (.one (by kernel_rfl) rfl ((hS204.memA (.tl (.tl (.tl .hd)))) 0 _ rfl)) (.cons (.one (by kernel_rfl) rfl ((hS204.memA (.tl (.tl .hd))) 0 _ rfl)) .nil)) rfl ?_
     refine RG.val' .plain (FV.move rfl) rfl ?_
     refine RG.val' .plain (FV.extract rfl rfl) rfl ?_
     refine RG.val' .plain (FV.extract rfl rfl) rfl ?_
     refine RG.val' .plain (FV.assign rfl) rfl ?_
     refine RG.val' .plain (FV.assign rfl) rfl ?_
     refine RG.nil ?_
     refine MX.seq ?_
     refine MX.seq ?_
     refine MX.region ?_
     refine RG.val' .plain (FV.move rfl) rfl ?_
     refine RG.val' .plain (FV.neqN (i := 0) (j := 0) rfl rfl) rfl ?_
     refine RG.nil ?_
     refine MX.cond_f rfl ?_
     refine MX.skip ?_
     refine MX.seq ?_
     refine MX.drawT 8 tb29_7 (by kernel_rfl) (by kernel_rfl) (by kernel_rfl) (fun kt206 kp207 => ?_)
     refine RD.vP 0 1 kt206 rfl kp207 .plain (fun _ => FV.move rfl) rfl ?_
     refine RD.vP 1 3 kt206 rfl kp207 .plain (fun _ => FV.convUI (a := s186) Tryd.underlying35 Tryd.underlying3 rfl) rfl ?_
     refine RD.vP 2 7 kt206 rfl kp207 .plain (fun _ => FV.move rfl) rfl ?_
     refine RD.vP 3 15 kt206 rfl kp207 .plain (fun _ => FV.nilCheck rfl) rfl ?_
     refine RD.vP 4 31 kt206 rfl kp207 .plain (fun _ => FV.fieldAddr (off := 0) (by kernel_rfl) rfl) rfl ?_
     refine RD.vP 5 63 kt206 rfl kp207 .plain (fun _ => FV.fieldAddr (off := 0) (by kernel_rfl) rfl) rfl ?_
     refine RD.val (i := 6) (m' := 127) (W := 768) (takeC_ok kt206 (by kernel_rfl)) rfl kp207 .plain (FV.loadN (cs := [.int .u64 ((u161 + (11400714819323198485 : UInt64)).toNat : Int)]) (by kernel_rfl) rfl (mem_from (mem_from (hS204.memA (.tl (.tl (.tl (.tl (.tl .hd)))))) 0) 0)) rfl ?_
     refine RD.vP 7 255 kt206 rfl kp207 .plain (fun _ => FV.assign rfl) rfl ?_
     refine RD.one (i := 8) (readyD_ok kt206 (by kernel_rfl)) (RO.now (m' := 511) (stepC_ok kt206 (by kernel_rfl)) rfl rfl .plain (Acts.store (j := 0) (old := [.int .u64 0]) (news := [.int .u64 ((u161 + (11400714819323198485 : UInt64)).toNat : Int)]) (new' := [.int .u64 ((u161 + (11400714819323198485 : UInt64)).toNat : Int)]) hS204 (.tl (.tl (.tl (.tl (.tl (.tl .hd)))))) rfl rfl rfl rfl rfl rfl (ones_cons rfl ones_nil) rfl) (fun w208 hS209 hT210 => ?_))
     refine RD.one (i := 9) (readyD_ok kt206 (by kernel_rfl)) (RO.val (m' := 1023) (stepC_ok kt206 (by kernel_rfl)) rfl .plain rfl (FV.assign rfl) ?_)
     refine RD.done (doneD_ok kt206 (by kernel_rfl)) ?_
     refine MX.ret rfl ?_
     refine RT.leave (u := .tuple #[.int .i64 (i64of s186), .agg #[.int .u64 ((u161 + (11400714819323198485 : UInt64)).toNat : Int)], .int .i64 0]) hb0 Tryd.func29 rfl (.cons (.tmp rfl) (.cons (.many (cs := [.int .u64 ((u161 + (11400714819323198485 : UInt64)).toNat : Int)]) (by kernel_rfl) rfl (hS209.memA (.tl (.tl (.tl (.tl (.tl (.tl .hd)))))))) (.cons (.tmp rfl) .nil))) rfl ?_
     obtain rfl := Option.some.inj h
     exact ⟨hS209.ag, fun w9 hw9 => rfl⟩
    ·skip
     refine RG.val' (.yes rfl rfl) (FV.load1 (by kernel_rfl) rfl ((hS183.memA (.tl (.tl (.tl .hd)))) 0 _ rfl)) rfl ?_
     refine RG.val' (.yes rfl rfl) (FV.eqlU (a := s44) (b := (0 : UInt64)) rfl rfl) rfl ?_
     refine RG.val' .plain (FV.pick_f rfl rfl) rfl ?_
     refine RG.nil ?_
     refine MX.ifd rfl h (fun c211 h => ?_) (fun c211 h => ?_)
     ·skip
      refine MX.seq ?_
      refine MX.region ?_
      refine RG.val' .plain (FV.move rfl) rfl ?_
      refine RG.val' .plain (FV.load1 (by kernel_rfl) rfl ((hS183.memA (.tl (.tl (.tl (.tl (.tl (.tl .hd))))))) 0 _ rfl)) rfl ?_
      obtain ⟨s212, hs212, h⟩ := bind_in h
      refine RG.val' .plain (FV.remV (a := u179) (b := u64of a1) rfl rfl hs212) rfl ?_
      refine RG.now .plain (Acts.store (j := 0) (old := [.int .u64 0]) (news := [.int .u64 (s212.toNat : Int)]) (new' := [.int .u64 (s212.toNat : Int)]) hS183 (.tl (.tl (.tl (.tl (.tl .hd))))) rfl rfl rfl rfl rfl rfl (ones_cons rfl ones_nil) rfl) (fun w213 hS214 hT215 => ?_)
      refine RG.now .plain (Acts.store (j := 0) (old := [.int .i64 0]) (news := [.int .i64 0]) (new' := [.int .i64 0]) hS214 (.tl (.tl (.tl (.tl .hd)))) rfl rfl rfl rfl rfl rfl (ones_cons rfl ones_nil) rfl) (fun w216 hS217 hT218 => ?_)
      refine RG.nil ?_
      refine MX.roundRet hb180 hS217 .hd (fun w219 hS220 hT221 => ?_)
      refine RG.val' .plain (FV.not rfl) rfl ?_
      refine RG.nil ?_
      refine MX.cond_t rfl ?_
      have h := thn_inl h hh168
      refine MX.ret rfl ?_
      refine RT.leave (u := .tuple #[]) hb67 Tryd.func95 rfl .nil rfl ?_
      refine MX.endRange1 hS220 .hd (by intro h9; cases h9) (fun w222 hS223 hT224 => ?_)
      have hS225 : St _ _ [.obj D64 (.deferred (some [])), .cells b59 [.func (.func 82) #[.pointer (some (Addr.add ⟨b26, 0, none⟩ 0))] #[]] 129, .cells b49 [.int .u64 (s44.toNat : Int)] 35, .cells b43 [.int .i64 0] 27, .cells b38 [.int .u64 (s212.toNat : Int)] 35, .cells b33 [.int .u64 ((u64of a1).toNat : Int)] 35, .cells b26 [.int .u64 ((u161 + (11400714819323198485 : UInt64)).toNat : Int)] 104, .cells b10 [.int .u64 0] 37, .cells b5 [.int .u64 (a0.fState.toNat : Int)] 37] := hS223.arr (.one (.tl .hd) (.one (.tl .hd) (.one (.tl .hd) (.one (.tl .hd) (.one (.tl .hd) (.one (.tl .hd) (.one (.tl .hd) (.one (.tl .hd) (.one (.tl .hd) .done)))))))))
      have hT226 : Tr w222 _ w222 [.obj D64 (.deferred (some [])), .cells b59 [.func (.func 82) #[.pointer (some (Addr.add ⟨b26, 0, none⟩ 0))] #[]] 129, .cells b49 [.int .u64 (s44.toNat : Int)] 35, .cells b43 [.int .i64 0] 27, .cells b38 [.int .u64 (s212.toNat : Int)] 35, .cells b33 [.int .u64 ((u64of a1).toNat : Int)] 35, .cells b26 [.int .u64 ((u161 + (11400714819323198485 : UInt64)).toNat : Int)] 104, .cells b10 [.int .u64 0] 37, .cells b5 [.int .u64 (a0.fState.toNat : Int)] 37] := Tr.arr (St.arrOf hS223 (.one (.tl .hd) (.one (.tl .hd) (.one (.tl .hd) (.one (.tl .hd) (.one (.tl .hd) (.one (.tl .hd) (.one (.tl .hd) (.one (.tl .hd) (.one (.tl .hd) .done))))))))))
      refine MX.ret rfl ?_
      refine RT.take hS225 .hd (fun w227 hS228 hT229 => ?_)
      have hS230 : St _ _ [.cells b59 [.func (.func 82) #[.pointer (some (Addr.add ⟨b26, 0, none⟩ 0))] #[]] 129, .cells b49 [.int .u64 (s44.toNat : Int)] 35, .cells b43 [.int .i64 0] 27, .cells b38 [.int .u64 (s212.toNat : Int)] 35, .cells b33 [.int .u64 ((u64of a1).toNat : Int)] 35, .cells b26 [.int .u64 ((u161 + (11400714819323198485 : UInt64)).toNat : Int)] 104, .cells b10 [.int .u64 0] 37, .cells b5 [.int .u64 (a0.fState.toNat : Int)] 37] := hS228.arr (.one (.tl .hd) (.one (.tl .hd) (.one (.tl .hd) (.one (.tl .hd) (.one (.tl .hd) (.one (.tl .hd) (.one (.tl .hd) (.one (.tl .hd) .done))))))))
      have hT231 : Tr w227 _ w227 [.cells b59 [.func (.func 82) #[.pointer (some (Addr.add ⟨b26, 0, none⟩ 0))] #[]] 129, .cells b49 [.int .u64 (s44.toNat : Int)] 35, .cells b43 [.int .i64 0] 27, .cells b38 [.int .u64 (s212.toNat : Int)] 35, .cells b33 [.int .u64 ((u64of a1).toNat : Int)] 35, .cells b26 [.int .u64 ((u161 + (11400714819323198485 : UInt64)).toNat : Int)] 104, .cells b10 [.int .u64 0] 37, .cells b5 [.int .u64 (a0.fState.toNat : Int)] 37] := Tr.arr (St.arrOf hS228 (.one (.tl .hd) (.one (.tl .hd) (.one (.tl .hd) (.one (.tl .hd) (.one (.tl .hd) (.one (.tl .hd) (.one (.tl .hd) (.one (.tl .hd) .done)))))))))
      refine RT.leave (u := .tuple #[.int .u64 (s212.toNat : Int), .int .i64 0]) hb27 Tryd.func58 rfl (.cons (.one (by kernel_rfl) rfl ((hS230.memA (.tl (.tl (.tl .hd)))) 0 _ rfl)) (.cons (.one (by kernel_rfl) rfl ((hS230.memA (.tl (.tl .hd))) 0 _ rfl)) .nil)) rfl ?_
      refine RG.val' .plain (FV.move rfl) rfl ?_
      refine RG.val' .plain (FV.extract rfl rfl) rfl ?_
      refine RG.val' .plain (FV.extract rfl rfl) rfl ?_
      refine RG.val' .plain (FV.assign rfl) rfl ?_
      refine RG.val' .plain (FV.assign rfl) rfl ?_
      refine RG.nil ?_
      refine MX.seq ?_
      refine MX.seq ?_
      refine MX.region ?_
      refine RG.val' .plain (FV.move rfl) rfl ?_
      refine RG.val' .plain (FV.neqN (i := 0) (j := 0) rfl rfl) rfl ?_
      refine RG.nil ?_
      refine MX.cond_f rfl ?_
      refine MX.skip ?_
      refine MX.seq ?_
      refine MX.drawT 8 tb29_7 (by kernel_rfl) (by kernel_rfl) (by kernel_rfl) (fun kt232 kp233 => ?_)
      refine RD.vP 0 1 kt232 rfl kp233 .plain (fun _ => FV.move rfl) rfl ?_
      refine RD.vP 1 3 kt232 rfl kp233 .plain (fun _ => FV.convUI (a := s212) Tryd.underlying35 Tryd.underlying3 rfl) rfl ?_
      refine RD.vP 2 7 kt232 rfl kp233 .plain (fun _ => FV.move rfl) rfl ?_
      refine RD.vP 3 15 kt232 rfl kp233 .plain (fun _ => FV.nilCheck rfl) rfl ?_
      refine RD.vP 4 31 kt232 rfl kp233 .plain (fun _ => FV.fieldAddr (off := 0) (by kernel_rfl) rfl) rfl ?_
      refine RD.vP 5 63 kt232 rfl kp233 .plain (fun _ => FV.fieldAddr (off := 0) (by kernel_rfl) rfl) rfl ?_
      refine RD.val (i := 6) (m' := 127) (W := 768) (takeC_ok kt232 (by kernel_rfl)) rfl kp233 .plain (FV.loadN (cs := [.int .u64 ((u161 + (11400714819323198485 : UInt64)).toNat : Int)]) (by kernel_rfl) rfl (mem_from (mem_from (hS230.memA (.tl (.tl (.tl (.tl (.tl .hd)))))) 0) 0)) rfl ?_
      refine RD.vP 7 255 kt232 rfl kp233 .plain (fun _ => FV.assign rfl) rfl ?_
      refine RD.one (i := 8) (readyD_ok kt232 (by kernel_rfl)) (RO.now (m' := 511) (stepC_ok kt232 (by kernel_rfl)) rfl rfl .plain (Acts.store (j := 0) (old := [.int .u64 0]) (news := [.int .u64 ((u161 + (11400714819323198485 : UInt64)).toNat : Int)]) (new' := [.int .u64 ((u161 + (11400714819323198485 : UInt64)).toNat : Int)]) hS230 (.tl (.tl (.tl (.tl (.tl (.tl .hd)))))) rfl rfl rfl rfl rfl rfl (ones_cons rfl ones_nil) rfl) (fun w234 hS235 hT236 => ?_))
      refine RD.one (i := 9) (readyD_ok kt232 (by kernel_rfl)) (RO.val (m' := 1023) (stepC_ok kt232 (by kernel_rfl)) rfl .plain rfl (FV.assign rfl) ?_)
      refine RD.done (doneD_ok kt232 (by kernel_rfl)) ?_
      refine MX.ret rfl ?_
      refine RT.leave (u := .tuple #[.int .i64 (i64of s212), .agg #[.int .u64 ((u161 + (11400714819323198485 : UInt64)).toNat : Int)], .int .i64 0]) hb0 Tryd.func29 rfl (.cons (.tmp rfl) (.cons (.many (cs := [.int .u64 ((u161 + (11400714819323198485 : UInt64)).toNat : Int)]) (by kernel_rfl) rfl (hS235.memA (.tl (.tl (.tl (.tl (.tl (.tl .hd)))))))) (.cons (.tmp rfl) .nil))) rfl ?_
      obtain rfl := Option.some.inj h
      exact ⟨hS235.ag, fun w9 hw9 => rfl⟩
     ·skip
      refine MX.skip ?_
      refine MX.inBlock ?_
      refine MX.roundEnd hb180 hS183 .hd (fun w237 hS238 hT239 => ?_)
      refine RG.val' .plain (FV.not rfl) rfl ?_
      refine RG.nil ?_
      refine MX.cond_f rfl ?_
      refine MX.skip ?_
      refine MX.inBlock ?_
      refine MX.region ?_
      refine RG.val' .plain (FV.addN (i := i160) (j := 1) rfl rfl (by omega)) rfl ?_
      refine RG.val' .plain (FV.move rfl) rfl ?_
      refine RG.nil ?_
      exact hJ170 (i160 + 1, u161 + (11400714819323198485 : UInt64)) _ _ ⟨rfl, rfl, rfl, trivial⟩ ⟨hS238, (Tr.trans hT163 (Tr.trans hT176 (Tr.trans hT184 hT239)))⟩ h
   ·skip
    refine MX.exit rfl ?_
    have h := thn_inr h hh168
    try dsimp only at h
    refine MX.fin rfl ?_
    refine RT.leave (u := .tuple #[]) hb67 Tryd.func95 rfl .nil rfl ?_
    refine MX.endRange0 hS162 .hd (by intro h9; cases h9) (fun w240 hS241 hT242 => ?_)
    have hS243 : St _ _ [.obj D64 (.deferred (some [])), .cells b59 [.func (.func 82) #[.pointer (some (Addr.add ⟨b26, 0, none⟩ 0))] #[]] 129, .cells b49 [.int .u64 (s44.toNat : Int)] 35, .cells b43 [.int .i64 0] 27, .cells b38 [.int .u64 0] 35, .cells b33 [.int .u64 ((u64of a1).toNat : Int)] 35, .cells b26 [.int .u64 (u161.toNat : Int)] 104, .cells b10 [.int .u64 0] 37, .cells b5 [.int .u64 (a0.fState.toNat : Int)] 37] := hS241.arr (.one (.tl .hd) (.one (.tl .hd) (.one (.tl .hd) (.one (.tl .hd) (.one (.tl .hd) (.one (.tl .hd) (.one (.tl .hd) (.one (.tl .hd) (.one (.tl .hd) .done)))))))))
    have hT244 : Tr w240 _ w240 [.obj D64 (.deferred (some [])), .cells b59 [.func (.func 82) #[.pointer (some (Addr.add ⟨b26, 0, none⟩ 0))] #[]] 129, .cells b49 [.int .u64 (s44.toNat : Int)] 35, .cells b43 [.int .i64 0] 27, .cells b38 [.int .u64 0] 35, .cells b33 [.int .u64 ((u64of a1).toNat : Int)] 35, .cells b26 [.int .u64 (u161.toNat : Int)] 104, .cells b10 [.int .u64 0] 37, .cells b5 [.int .u64 (a0.fState.toNat : Int)] 37] := Tr.arr (St.arrOf hS241 (.one (.tl .hd) (.one (.tl .hd) (.one (.tl .hd) (.one (.tl .hd) (.one (.tl .hd) (.one (.tl .hd) (.one (.tl .hd) (.one (.tl .hd) (.one (.tl .hd) .done))))))))))
    refine MX.inBlock ?_
    refine MX.seq ?_
    refine MX.region ?_
    refine RG.now .plain (Acts.store (j := 0) (old := [.int .u64 0]) (news := [.int .u64 0]) (new' := [.int .u64 0]) hS243 (.tl (.tl (.tl (.tl .hd)))) rfl rfl rfl rfl rfl rfl (ones_cons rfl ones_nil) rfl) (fun w245 hS246 hT247 => ?_)
    refine RG.now .plain (Acts.store (j := 0) (old := [.int .i64 0]) (news := [.int .i64 9]) (new' := [.int .i64 9]) hS246 (.tl (.tl (.tl .hd))) rfl rfl rfl rfl rfl rfl (ones_cons rfl ones_nil) rfl) (fun w248 hS249 hT250 => ?_)
    refine RG.nil ?_
    refine MX.ret rfl ?_
    refine RT.take hS249 .hd (fun w251 hS252 hT253 => ?_)
    have hS254 : St _ _ [.cells b59 [.func (.func 82) #[.pointer (some (Addr.add ⟨b26, 0, none⟩ 0))] #[]] 129, .cells b49 [.int .u64 (s44.toNat : Int)] 35, .cells b43 [.int .i64 9] 27, .cells b38 [.int .u64 0] 35, .cells b33 [.int .u64 ((u64of a1).toNat : Int)] 35, .cells b26 [.int .u64 (u161.toNat : Int)] 104, .cells b10 [.int .u64 0] 37, .cells b5 [.int .u64 (a0.fState.toNat : Int)] 37] := hS252.arr (.one (.tl .hd) (.one (.tl .hd) (.one (.tl .hd) (.one (.tl .hd) (.one (.tl .hd) (.one (.tl .hd) (.one (.tl .hd) (.one (.tl .hd) .done))))))))
    have hT255 : Tr w251 _ w251 [.cells b59 [.func (.func 82) #[.pointer (some (Addr.add ⟨b26, 0, none⟩ 0))] #[]] 129, .cells b49 [.int .u64 (s44.toNat : Int)] 35, .cells b43 [.int .i64 9] 27, .cells b38 [.int .u64 0] 35, .cells b33 [.int .u64 ((u64of a1).toNat : Int)] 35, .cells b26 [.int .u64 (u161.toNat : Int)] 104, .cells b10 [.int .u64 0] 37, .cells b5 [.int .u64 (a0.fState.toNat : Int)] 37] := Tr.arr (St.arrOf hS252 (.one (.tl .hd) (.one (.tl .hd) (.one (.tl .hd) (.one (.tl .hd) (.one (.tl .hd) (.one (.tl .hd) (.one (.tl .hd) (.one (.tl .hd) .done)))))))))
    refine RT.leave (u := .tuple #[.int .u64 0, .int .i64 9]) hb27 Tryd.func58 rfl (.cons (.one (by kernel_rfl) rfl ((hS254.memA (.tl (.tl (.tl .hd)))) 0 _ rfl)) (.cons (.one (by kernel_rfl) rfl ((hS254.memA (.tl (.tl .hd))) 0 _ rfl)) .nil)) rfl ?_
    refine RG.val' .plain (FV.move rfl) rfl ?_
    refine RG.val' .plain (FV.extract rfl rfl) rfl ?_
    refine RG.val' .plain (FV.extract rfl rfl) rfl ?_
    refine RG.val' .plain (FV.assign rfl) rfl ?_
    refine RG.val' .plain (FV.assign rfl) rfl ?_
    refine RG.nil ?_
    refine MX.seq ?_
    refine MX.seq ?_
    refine MX.region ?_
    refine RG.val' .plain (FV.move rfl) rfl ?_
    refine RG.val' .plain (FV.neqN (i := 9) (j := 0) rfl rfl) rfl ?_
    refine RG.nil ?_
    refine MX.cond_t rfl ?_
    refine MX.seq ?_
    refine MX.region ?_
    refine RG.val' .plain (FV.buildV (vs := []) (u := .agg #[.int .u64 0]) evs_nil (fun w9 => by kernel_rfl)) rfl ?_
    refine RG.val' .plain (FV.move rfl) rfl ?_
    refine RG.val' .plain (FV.assign rfl) rfl ?_
    refine RG.now .plain (Acts.store (j := 0) (old := [.int .u64 0]) (news := [.int .u64 0]) (new' := [.int .u64 0]) hS254 (.tl (.tl (.tl (.tl (.tl (.tl .hd)))))) rfl rfl rfl rfl rfl rfl (ones_cons rfl ones_nil) rfl) (fun w256 hS257 hT258 => ?_)
    refine RG.val' .plain (FV.assign rfl) rfl ?_
    refine RG.nil ?_
    refine MX.ret rfl ?_
    refine RT.leave (u := .tuple #[.int .i64 0, .agg #[.int .u64 0], .int .i64 9]) hb0 Tryd.func29 rfl (.cons (.tmp rfl) (.cons (.many (cs := [.int .u64 0]) (by kernel_rfl) rfl (hS257.memA (.tl (.tl (.tl (.tl (.tl (.tl .hd)))))))) (.cons (.tmp rfl) .nil))) rfl ?_
    obtain rfl := Option.some.inj h
    exact ⟨hS257.ag, fun w9 hw9 => rfl⟩
end Go.Proofs.YtplkfbljncfdnaaDoor
