/- Functions of the program, and what they give: part 4. -/
import Derived.Test.YtplkfbljncfdnaaDoorK3
namespace Go.Proofs.YtplkfbljncfdnaaDoor
open Go Go.RowKit

def graph_has_p (_n : Nat) (a0 : UInt64) (a1 : Int) : Option Bool :=
  (natOf a1).bind fun k1 => some (decide (((shrU a0 k1) &&& (1 : UInt64)) = (1 : UInt64)))
set_option maxRecDepth 4000 in
set_option maxHeartbeats 4000000 in
theorem graph_has_c (n : Nat) (L : List Nat) (w : World) (hL : ∀ b ∈ L, b < w.heap.size) (a0 : UInt64) (a1 : Int)  {r : Bool} (h : graph_has_p n a0 a1 = some r) :
    Calls Tryd.prog 43 #[.int .u64 (a0.toNat : Int), .int .i64 a1] w (Gives w fun _ u => u = .bool r) := by
  unfold graph_has_p at h
  have hS0 := St.start w
  refine MX.start Tryd.func43 rfl rfl rfl (fun _ cs0 hb0 => ?_)
  refine MX.seq ?_
  refine MX.region ?_
  refine RG.val' .plain (FV.assign rfl) rfl ?_
  refine RG.nil ?_
  refine MX.seq ?_
  refine MX.region ?_
  refine RG.val' .plain (FV.move rfl) rfl ?_
  refine RG.val' .plain (FV.move rfl) rfl ?_
  obtain ⟨k1, hk1, h⟩ := bind_in h
  refine RG.val' .plain (FV.shrI (a := a0) (i := a1) rfl rfl hk1) rfl ?_
  refine RG.val' .plain (FV.andU (a := shrU a0 k1) (b := (1 : UInt64)) rfl rfl) rfl ?_
  refine RG.val' .plain (FV.eqlU (a := (shrU a0 k1) &&& (1 : UInt64)) (b := (1 : UInt64)) rfl rfl) rfl ?_
  refine RG.val' .plain (FV.assign rfl) rfl ?_
  refine RG.nil ?_
  refine MX.ret rfl ?_
  refine RT.leave (u := .bool (decide (((shrU a0 k1) &&& (1 : UInt64)) = (1 : UInt64)))) hb0 Tryd.func43 rfl (.cons (.tmp rfl) .nil) rfl ?_
  obtain rfl := Option.some.inj h
  exact ⟨hS0.ag, fun w9 hw9 => rfl⟩
def math_bits_Mul64_p (_n : Nat) (a0 : UInt64) (a1 : UInt64) : Option (UInt64 × UInt64) :=
  (some (((shrU a0 32) * (a1 &&& (4294967295 : UInt64))) + (shrU ((a0 &&& (4294967295 : UInt64)) * (a1 &&& (4294967295 : UInt64))) 32))).bind fun u1 => (some (shrU ((u1 &&& (4294967295 : UInt64)) + ((a0 &&& (4294967295 : UInt64)) * (shrU a1 32))) 32)).bind fun u2 => some ((((shrU a0 32) * (shrU a1 32)) + (shrU u1 32)) + u2, a0 * a1)
set_option maxRecDepth 4000 in
set_option maxHeartbeats 4000000 in
theorem math_bits_Mul64_c (n : Nat) (L : List Nat) (w : World) (hL : ∀ b ∈ L, b < w.heap.size) (a0 : UInt64) (a1 : UInt64)  {r : UInt64 × UInt64} (h : math_bits_Mul64_p n a0 a1 = some r) :
    Calls Tryd.prog 94 #[.int .u64 (a0.toNat : Int), .int .u64 (a1.toNat : Int)] w (Gives w fun _ u => u = .tuple #[.int .u64 (r.1.toNat : Int), .int .u64 (r.2.toNat : Int)]) := by
  unfold math_bits_Mul64_p at h
  have hS0 := St.start w
  refine MX.start Tryd.func94 rfl rfl rfl (fun _ cs0 hb0 => ?_)
  refine MX.seq ?_
  refine MX.region ?_
  refine RG.val' .plain (FV.assign rfl) rfl ?_
  refine RG.val' .plain (FV.assign rfl) rfl ?_
  refine RG.nil ?_
  refine MX.seq ?_
  refine MX.region ?_
  refine RG.val' .plain (FV.move rfl) rfl ?_
  refine RG.val' .plain (FV.andU (a := a0) (b := (4294967295 : UInt64)) rfl rfl) rfl ?_
  refine RG.val' .plain (FV.assign rfl) rfl ?_
  refine RG.nil ?_
  refine MX.seq ?_
  refine MX.region ?_
  refine RG.val' .plain (FV.move rfl) rfl ?_
  refine RG.val' .plain (FV.shrU (a := a0) (j := 32) rfl rfl) rfl ?_
  refine RG.val' .plain (FV.assign rfl) rfl ?_
  refine RG.nil ?_
  refine MX.seq ?_
  refine MX.region ?_
  refine RG.val' .plain (FV.move rfl) rfl ?_
  refine RG.val' .plain (FV.andU (a := a1) (b := (4294967295 : UInt64)) rfl rfl) rfl ?_
  refine RG.val' .plain (FV.assign rfl) rfl ?_
  refine RG.nil ?_
  refine MX.seq ?_
  refine MX.region ?_
  refine RG.val' .plain (FV.move rfl) rfl ?_
  refine RG.val' .plain (FV.shrU (a := a1) (j := 32) rfl rfl) rfl ?_
  refine RG.val' .plain (FV.assign rfl) rfl ?_
  refine RG.nil ?_
  refine MX.seq ?_
  refine MX.region ?_
  refine RG.val' .plain (FV.move rfl) rfl ?_
  refine RG.val' .plain (FV.move rfl) rfl ?_
  refine RG.val' .plain (FV.mulU (a := a0 &&& (4294967295 : UInt64)) (b := a1 &&& (4294967295 : UInt64)) rfl rfl) rfl ?_
  refine RG.val' .plain (FV.assign rfl) rfl ?_
  refine RG.nil ?_
  refine MX.seq ?_
  refine MX.region ?_
  refine RG.val' .plain (FV.move rfl) rfl ?_
  refine RG.val' .plain (FV.move rfl) rfl ?_
  refine RG.val' .plain (FV.mulU (a := shrU a0 32) (b := a1 &&& (4294967295 : UInt64)) rfl rfl) rfl ?_
  refine RG.val' .plain (FV.move rfl) rfl ?_
  refine RG.val' .plain (FV.shrU (a := (a0 &&& (4294967295 : UInt64)) * (a1 &&& (4294967295 : UInt64))) (j := 32) rfl rfl) rfl ?_
  obtain ⟨u1, hu1, h⟩ := bind_in h
  refine RG.val' .plain (FV.as (FV.addU (a := (shrU a0 32) * (a1 &&& (4294967295 : UInt64))) (b := shrU ((a0 &&& (4294967295 : UInt64)) * (a1 &&& (4294967295 : UInt64))) 32) rfl rfl) (congrArg (fun z : UInt64 => Value.int .u64 (z.toNat : Int)) (Option.some.inj hu1))) rfl ?_
  refine RG.val' .plain (FV.assign rfl) rfl ?_
  refine RG.nil ?_
  refine MX.seq ?_
  refine MX.region ?_
  refine RG.val' .plain (FV.move rfl) rfl ?_
  refine RG.val' .plain (FV.andU (a := u1) (b := (4294967295 : UInt64)) rfl rfl) rfl ?_
  refine RG.val' .plain (FV.assign rfl) rfl ?_
  refine RG.nil ?_
  refine MX.seq ?_
  refine MX.region ?_
  refine RG.val' .plain (FV.move rfl) rfl ?_
  refine RG.val' .plain (FV.shrU (a := u1) (j := 32) rfl rfl) rfl ?_
  refine RG.val' .plain (FV.assign rfl) rfl ?_
  refine RG.nil ?_
  refine MX.seq ?_
  refine MX.region ?_
  refine RG.val' .plain (FV.move rfl) rfl ?_
  refine RG.val' .plain (FV.move rfl) rfl ?_
  refine RG.val' .plain (FV.move rfl) rfl ?_
  refine RG.val' .plain (FV.mulU (a := a0 &&& (4294967295 : UInt64)) (b := shrU a1 32) rfl rfl) rfl ?_
  refine RG.val' .plain (FV.addU (a := u1 &&& (4294967295 : UInt64)) (b := (a0 &&& (4294967295 : UInt64)) * (shrU a1 32)) rfl rfl) rfl ?_
  refine RG.val' .plain (FV.assign rfl) rfl ?_
  refine RG.nil ?_
  refine MX.seq ?_
  refine MX.region ?_
  refine RG.val' .plain (FV.move rfl) rfl ?_
  refine RG.val' .plain (FV.move rfl) rfl ?_
  refine RG.val' .plain (FV.mulU (a := shrU a0 32) (b := shrU a1 32) rfl rfl) rfl ?_
  refine RG.val' .plain (FV.move rfl) rfl ?_
  refine RG.val' .plain (FV.addU (a := (shrU a0 32) * (shrU a1 32)) (b := shrU u1 32) rfl rfl) rfl ?_
  refine RG.val' .plain (FV.move rfl) rfl ?_
  obtain ⟨u2, hu2, h⟩ := bind_in h
  refine RG.val' .plain (FV.as (FV.shrU (a := (u1 &&& (4294967295 : UInt64)) + ((a0 &&& (4294967295 : UInt64)) * (shrU a1 32))) (j := 32) rfl rfl) (congrArg (fun z : UInt64 => Value.int .u64 (z.toNat : Int)) (Option.some.inj hu2))) rfl ?_
  refine RG.val' .plain (FV.addU (a := ((shrU a0 32) * (shrU a1 32)) + (shrU u1 32)) (b := u2) rfl rfl) rfl ?_
  refine RG.val' .plain (FV.assign rfl) rfl ?_
  refine RG.nil ?_
  refine MX.seq ?_
  refine MX.region ?_
  refine RG.val' .plain (FV.move rfl) rfl ?_
  refine RG.val' .plain (FV.move rfl) rfl ?_
  refine RG.val' .plain (FV.mulU (a := a0) (b := a1) rfl rfl) rfl ?_
  refine RG.val' .plain (FV.assign rfl) rfl ?_
  refine RG.nil ?_
  refine MX.ret rfl ?_
  refine RT.leave (u := .tuple #[.int .u64 (((((shrU a0 32) * (shrU a1 32)) + (shrU u1 32)) + u2).toNat : Int), .int .u64 ((a0 * a1).toNat : Int)]) hb0 Tryd.func94 rfl (.cons (.tmp rfl) (.cons (.tmp rfl) .nil)) rfl ?_
  obtain rfl := Option.some.inj h
  exact ⟨hS0.ag, fun w9 hw9 => rfl⟩
theorem body94 : bodyB Tryd.prog 94 = true := by kernel_rfl
def math_bits_Mul_p (n : Nat) (a0 : UInt64) (a1 : UInt64) : Option (UInt64 × UInt64) :=
  (math_bits_Mul64_p n a0 a1).bind fun y1 => some (y1.1, y1.2)
set_option maxRecDepth 4000 in
set_option maxHeartbeats 4000000 in
theorem math_bits_Mul_c (n : Nat) (L : List Nat) (w : World) (hL : ∀ b ∈ L, b < w.heap.size) (a0 : UInt64) (a1 : UInt64)  {r : UInt64 × UInt64} (h : math_bits_Mul_p n a0 a1 = some r) :
    Calls Tryd.prog 75 #[.int .u64 (a0.toNat : Int), .int .u64 (a1.toNat : Int)] w (Gives w fun _ u => u = .tuple #[.int .u64 (r.1.toNat : Int), .int .u64 (r.2.toNat : Int)]) := by
  unfold math_bits_Mul_p at h
  have hS0 := St.start w
  refine MX.start Tryd.func75 rfl rfl rfl (fun _ cs0 hb0 => ?_)
  refine MX.seq ?_
  refine MX.region ?_
  refine RG.val' .plain (FV.assign rfl) rfl ?_
  refine RG.val' .plain (FV.assign rfl) rfl ?_
  refine RG.nil ?_
  refine MX.seq ?_
  refine MX.cond_f rfl ?_
  refine MX.skip ?_
  refine MX.seq ?_
  refine MX.region ?_
  refine RG.val' .plain (FV.move rfl) rfl ?_
  refine RG.val' .plain (FV.move rfl) rfl ?_
  obtain ⟨y1, hy1, h⟩ := bind_in h
  refine RG.callq' (v := .tuple #[.int .u64 (y1.1.toNat : Int), .int .u64 (y1.2.toNat : Int)]) (fst := []) (cap := []) .plain body94 rfl (evs_cons rfl (evs_cons rfl evs_nil)) (fun w9 hw9 => math_bits_Mul64_c n _ w9 (hS0.hL0 hL hw9) a0 a1 hy1) rfl ?_
  refine RG.val' .plain (FV.move rfl) rfl ?_
  refine RG.val' .plain (FV.extract rfl rfl) rfl ?_
  refine RG.val' .plain (FV.extract rfl rfl) rfl ?_
  refine RG.val' .plain (FV.assign rfl) rfl ?_
  refine RG.val' .plain (FV.assign rfl) rfl ?_
  refine RG.nil ?_
  refine MX.seq ?_
  refine MX.region ?_
  refine RG.val' .plain (FV.move rfl) rfl ?_
  refine RG.val' .plain (FV.move rfl) rfl ?_
  refine RG.val' .plain (FV.assign rfl) rfl ?_
  refine RG.val' .plain (FV.assign rfl) rfl ?_
  refine RG.nil ?_
  refine MX.ret rfl ?_
  refine RT.leave (u := .tuple #[.int .u64 (y1.1.toNat : Int), .int .u64 (y1.2.toNat : Int)]) hb0 Tryd.func75 rfl (.cons (.tmp rfl) (.cons (.tmp rfl) .nil)) rfl ?_
  obtain rfl := Option.some.inj h
  exact ⟨hS0.ag, fun w9 hw9 => rfl⟩
def tb46_5 : List (Nat × Nat × Nat) := [(0, 8192, 64), (0, 16384, 32), (0, 32768, 128), (6, 65536, 49152), (8, 131072, 65536), (17, 262144, 139264), (63, 0, 262208)]
def graph_near_l1 (n : Nat) (y6 : List UInt64) (J126 : UInt64 × UInt64 → Option UInt64) : UInt64 × UInt64 → Option UInt64
  | (u117, u118) => (if u117 = (0 : UInt64) then some u118 else (math_bits_TrailingZeros64_p n u117).bind fun y139 => (idx y6 y139).bind fun x147 => J126 (u117 &&& (u117 - (1 : UInt64)), u118 ||| x147))
def graph_near_p (n : Nat) (a0 : TGraph) (a1 : UInt64) : Option UInt64 :=
  (graph_around_p n a0).bind fun y6 => Option.bind (loopF (graph_near_l1 n y6) n (a1, (0 : UInt64))) (fun u118 => some (u118 &&& ~~~a1))
set_option maxRecDepth 4000 in
set_option maxHeartbeats 4000000 in
theorem graph_near_c (n : Nat) (L : List Nat) (w : World) (hL : ∀ b ∈ L, b < w.heap.size) (a0 : TGraph) {v0_1 : Value} (h0_1 : Rep.R w L [v0_1] a0.fEdges) (a1 : UInt64) (hG0 : Glob 0 tab0 w)  {r : UInt64} (h : graph_near_p n a0 a1 = some r) :
    Calls Tryd.prog 46 #[.agg #[.int .i64 a0.fN, v0_1], .int .u64 (a1.toNat : Int)] w (Gives w fun _ u => u = .int .u64 (r.toNat : Int)) := by
  unfold graph_near_p at h
  have hS0 := St.start w
  refine MX.start Tryd.func46 rfl rfl rfl (fun _ cs0 hb0 => ?_)
  refine MX.seq ?_
  refine MX.region ?_
  refine RG.new .plain rfl (Does.box (vs := [.int .i64 a0.fN, v0_1]) hS0 rfl rfl) (fun w2 b5 hS3 hT4 => ?_)
  refine RG.val' .plain (FV.assign rfl) rfl ?_
  refine RG.nil ?_
  refine MX.seq ?_
  refine MX.region ?_
  refine RG.val' .plain (FV.loadN (cs := [.int .i64 a0.fN, v0_1]) (by kernel_rfl) rfl (hS3.memA .hd)) rfl ?_
  obtain ⟨y6, hy6, h⟩ := bind_in h
  have hm7 := Rep.mv h0_1 hT4
  refine RG.call' (fst := []) (cap := []) .plain body78 rfl (evs_cons rfl evs_nil) (fun w9 hw9 => graph_around_c n _ w9 (hS3.hL hL hw9) a0 (Rep.keep0 hm7 hw9) hy6) rfl (fun w8 vu9 hag10 ⟨v13, hu_, hr14⟩ => ?_)
  subst hu_
  have hS11 := hS3.agree hag10
  have hT12 := Tr.agree (O := [.cells b5 [.int .i64 a0.fN, v0_1] 40]) hag10
  refine RG.new .plain rfl (Does.alloc (zs := [.slice none 0 0]) hS11 (zB (by kernel_rfl))) (fun w16 b19 hS17 hT18 => ?_)
  have hm20 := Rep.mv hr14 hT18
  refine RG.now .plain (Acts.store (j := 0) (old := [.slice none 0 0]) (news := [vu9]) (new' := [vu9]) hS17 .hd rfl rfl rfl (Rep.c1 hm20) rfl rfl (ones_cons (Rep.o1 hm20) ones_nil) rfl) (fun w21 hS22 hT23 => ?_)
  refine RG.nil ?_
  refine MX.seq ?_
  refine MX.region ?_
  refine RG.new .plain rfl (Does.alloc (zs := [.int .u64 0]) hS22 (zB (by kernel_rfl))) (fun w25 b28 hS26 hT27 => ?_)
  refine RG.nil ?_
  refine MX.seq ?_
  refine MX.seq ?_
  refine MX.region ?_
  refine RG.val' .plain (FV.move rfl) rfl ?_
  refine RG.call' (fst := []) (cap := []) .plain body45 rfl (evs_cons rfl evs_nil) (fun w9 hw9 => Calls.gives (graph_nodes_c n _ w9 (hS26.hL hL hw9) a1) fun (w8 : World) (u8 : Value) ⟨b0_, hu_, s_⟩ => (⟨b0_, hu_, s_.from hw9⟩ : ∃ b30 : Nat, u8 = Value.func (.func 76) #[] #[.pointer (some ⟨b30, 0, none⟩)] ∧ St w25 w8 [.cells b30 [.int .u64 (a1.toNat : Int)] 35])) rfl (fun w31 vu32 hag33 ⟨b30, hu35, s34⟩ => ?_)
  subst hu35
  have hS36 : St w w31 [.cells b30 [.int .u64 (a1.toNat : Int)] 35, .cells b28 [.int .u64 0] 35, .cells b19 [vu9] 86, .cells b5 [.int .i64 a0.fN, v0_1] 40] := St.merge hS26 s34
  have hT37 : Tr w25 [.cells b28 [.int .u64 0] 35, .cells b19 [vu9] 86, .cells b5 [.int .i64 a0.fN, v0_1] 40] w31 [.cells b30 [.int .u64 (a1.toNat : Int)] 35, .cells b28 [.int .u64 0] 35, .cells b19 [vu9] 86, .cells b5 [.int .i64 a0.fN, v0_1] 40] := Tr.merge hS26 s34
  refine RG.nil ?_
  refine MX.block ?_
  refine MX.range (lb := [.pointer (some ⟨b30, 0, none⟩)]) rfl hS36 rfl body76 Tryd.func76 rfl rfl rfl (fun w38 lk41 D42 r43 cs46 hS39 hT40 rec44 hb45 => ?_)
  refine MX.block ?_
  obtain ⟨o124, ho123, hh125⟩ := bind_in2 h
  refine MX.loop (α := UInt64 × UInt64) (fun ⟨u117, u118⟩ => [(0, .func (.yield lk41) #[] #[]), (1, .pointer (some ⟨b30, 0, none⟩))]) (fun ⟨u117, u118⟩ wx118 => St w wx118 [.obj lk41 (lpO r43 .ready none), .obj D42 (.deferred (some [])), .cells b30 [.int .u64 (u117.toNat : Int)] 35, .cells b28 [.int .u64 (u118.toNat : Int)] 35, .cells b19 [vu9] 86, .cells b5 [.int .i64 a0.fN, v0_1] 40] ∧ Tr w38 [.obj lk41 (lpO r43 .ready none), .obj D42 (.deferred (some [])), .cells b30 [.int .u64 (a1.toNat : Int)] 35, .cells b28 [.int .u64 0] 35, .cells b19 [vu9] 86, .cells b5 [.int .i64 a0.fN, v0_1] 40] wx118 [.obj lk41 (lpO r43 .ready none), .obj D42 (.deferred (some [])), .cells b30 [.int .u64 (u117.toNat : Int)] 35, .cells b28 [.int .u64 (u118.toNat : Int)] 35, .cells b19 [vu9] 86, .cells b5 [.int .i64 a0.fN, v0_1] 40]) (fun ⟨u117, u118⟩ => (u117, u118)) (a1, (0 : UInt64)) ho123 ⟨rfl, rfl, trivial⟩ ⟨hS39, Tr.refl _ _⟩ ?_
  rintro J126 ⟨u117, u118⟩ wx118 hJ127 ⟨hS119, hT120⟩ h
  unfold graph_near_l1 at h
  try dsimp only at h
  refine MX.seq ?_
  refine MX.seq ?_
  refine MX.region ?_
  refine RG.val' .plain (FV.load1 (by kernel_rfl) rfl ((hS119.memA (.tl (.tl .hd))) 0 _ rfl)) rfl ?_
  refine RG.val' .plain (FV.neqU (a := u117) (b := (0 : UInt64)) rfl rfl) rfl ?_
  refine RG.nil ?_
  refine MX.ifn rfl h (fun c128 h => ?_) (fun c128 h => ?_)
  ·skip
   refine MX.exit rfl ?_
   have h := hh125 _ h
   try dsimp only at h
   refine MX.fin rfl ?_
   refine RT.leave (u := .tuple #[]) hb45 Tryd.func76 rfl .nil rfl ?_
   refine MX.endRange0 hS119 .hd (by intro h9; cases h9) (fun w129 hS130 hT131 => ?_)
   have hS132 : St _ _ [.obj D42 (.deferred (some [])), .cells b30 [.int .u64 (u117.toNat : Int)] 35, .cells b28 [.int .u64 (u118.toNat : Int)] 35, .cells b19 [vu9] 86, .cells b5 [.int .i64 a0.fN, v0_1] 40] := hS130.arr (.one (.tl .hd) (.one (.tl .hd) (.one (.tl .hd) (.one (.tl .hd) (.one (.tl .hd) .done)))))
   have hT133 : Tr w129 _ w129 [.obj D42 (.deferred (some [])), .cells b30 [.int .u64 (u117.toNat : Int)] 35, .cells b28 [.int .u64 (u118.toNat : Int)] 35, .cells b19 [vu9] 86, .cells b5 [.int .i64 a0.fN, v0_1] 40] := Tr.arr (St.arrOf hS130 (.one (.tl .hd) (.one (.tl .hd) (.one (.tl .hd) (.one (.tl .hd) (.one (.tl .hd) .done))))))
   refine MX.inBlock ?_
   refine MX.seq ?_
   refine MX.region ?_
   refine RG.val' .plain (FV.load1 (by kernel_rfl) rfl ((hS132.memA (.tl (.tl .hd))) 0 _ rfl)) rfl ?_
   refine RG.val' .plain (FV.move rfl) rfl ?_
   refine RG.val' .plain (FV.andNotU (a := u118) (b := a1) rfl rfl) rfl ?_
   refine RG.val' .plain (FV.assign rfl) rfl ?_
   refine RG.nil ?_
   refine MX.ret rfl ?_
   refine RT.take hS132 .hd (fun w134 hS135 hT136 => ?_)
   have hS137 : St _ _ [.cells b30 [.int .u64 (u117.toNat : Int)] 35, .cells b28 [.int .u64 (u118.toNat : Int)] 35, .cells b19 [vu9] 86, .cells b5 [.int .i64 a0.fN, v0_1] 40] := hS135.arr (.one (.tl .hd) (.one (.tl .hd) (.one (.tl .hd) (.one (.tl .hd) .done))))
   have hT138 : Tr w134 _ w134 [.cells b30 [.int .u64 (u117.toNat : Int)] 35, .cells b28 [.int .u64 (u118.toNat : Int)] 35, .cells b19 [vu9] 86, .cells b5 [.int .i64 a0.fN, v0_1] 40] := Tr.arr (St.arrOf hS135 (.one (.tl .hd) (.one (.tl .hd) (.one (.tl .hd) (.one (.tl .hd) .done)))))
   refine RT.leave (u := .int .u64 ((u118 &&& ~~~a1).toNat : Int)) hb0 Tryd.func46 rfl (.cons (.tmp rfl) .nil) rfl ?_
   obtain rfl := Option.some.inj h
   exact ⟨hS137.ag, fun w9 hw9 => rfl⟩
  ·skip
   refine MX.skip ?_
   refine MX.seq ?_
   refine MX.block ?_
   refine MX.seq ?_
   refine MX.region ?_
   refine RG.val' .plain (FV.move rfl) rfl ?_
   refine RG.val' .plain (FV.load1 (by kernel_rfl) rfl ((hS119.memA (.tl (.tl .hd))) 0 _ rfl)) rfl ?_
   obtain ⟨y139, hy139, h⟩ := bind_in h
   refine RG.callq' (v := .int .i64 y139) (fst := []) (cap := []) .plain body77 rfl (evs_cons rfl evs_nil) (fun w9 hw9 => math_bits_TrailingZeros64_c n _ w9 (hS119.hL0 hL hw9) u117 (hG0.keep (hS119.ag.trans hw9)) hy139) rfl ?_
   refine RG.yield (vs := [.int .i64 y139]) .plain rfl (evs_cons rfl evs_nil) hS119 .hd rec44 rfl rfl rfl (fun cs141 hb140 => ?_)
   refine MX.region ?_
   refine RG.val' .plain (FV.assign rfl) rfl ?_
   refine RG.nil ?_
   refine MX.begin hS119 .hd (fun w142 hS143 hT144 => ?_)
   refine MX.block ?_
   refine MX.drawT 6 tb46_5 (by kernel_rfl) (by kernel_rfl) (by kernel_rfl) (fun kt145 kp146 => ?_)
   refine RD.val (i := 0) (m' := 1) (W := 96) (takeC_ok kt145 (by kernel_rfl)) rfl kp146 .plain (FV.load1 (by kernel_rfl) rfl ((hS143.memA (.tl (.tl (.tl .hd)))) 0 _ rfl)) rfl ?_
   refine RD.val (i := 1) (m' := 3) (W := 120) (takeC_ok kt145 (by kernel_rfl)) rfl kp146 .plain (FV.load1 (by kernel_rfl) rfl ((hS143.memA (.tl (.tl (.tl (.tl .hd))))) 0 _ rfl)) rfl ?_
   refine RD.vP 2 7 kt145 rfl kp146 .plain (fun _ => FV.move rfl) rfl ?_
   obtain ⟨x147, hx147, h⟩ := bind_in h
   obtain ⟨hi148, hx149⟩ := idx_in hx147
   have hm157 := Rep.mv hr14 (Tr.trans hT18 (Tr.trans hT23 (Tr.trans hT27 (Tr.trans hT37 (Tr.trans hT40 (Tr.trans hT120 hT144))))))
   obtain ⟨A150, c151, he152, hk153, cs154, hr155, hm156⟩ := Rep.nth hm157 hx149
   have he158 : cs154 = [.int .u64 (x147.toNat : Int)] := hr155; subst he158
   refine RD.vP 3 15 kt145 rfl kp146 .plain (fun _ => FV.idxAddr (m := 1) (i := y139.toNat) (by kernel_rfl) rfl he152 rfl hi148 hk153) rfl ?_
   refine RD.val (i := 4) (m' := 31) (W := 96) (takeC_ok kt145 (by kernel_rfl)) rfl kp146 .plain (FV.load1 (by kernel_rfl) rfl (hm156 0 _ rfl)) rfl ?_
   refine RD.vP 5 63 kt145 rfl kp146 .plain (fun _ => FV.orU (a := u118) (b := x147) rfl rfl) rfl ?_
   refine RD.one (i := 6) (readyD_ok kt145 (by kernel_rfl)) (RO.now (m' := 127) (stepC_ok kt145 (by kernel_rfl)) rfl rfl .plain (Acts.store (j := 0) (old := [.int .u64 (u118.toNat : Int)]) (news := [.int .u64 ((u118 ||| x147).toNat : Int)]) (new' := [.int .u64 ((u118 ||| x147).toNat : Int)]) hS143 (.tl (.tl (.tl .hd))) rfl rfl rfl rfl rfl rfl (ones_cons rfl ones_nil) rfl) (fun w159 hS160 hT161 => ?_))
   refine RD.done (doneD_ok kt145 (by kernel_rfl)) ?_
   refine MX.inBlock ?_
   refine MX.roundEnd hb140 hS160 .hd (fun w162 hS163 hT164 => ?_)
   refine RG.val' .plain (FV.not rfl) rfl ?_
   refine RG.nil ?_
   refine MX.cond_f rfl ?_
   refine MX.skip ?_
   refine MX.inBlock ?_
   refine MX.region ?_
   refine RG.val' .plain (FV.load1 (by kernel_rfl) rfl ((hS163.memA (.tl (.tl .hd))) 0 _ rfl)) rfl ?_
   refine RG.val' .plain (FV.load1 (by kernel_rfl) rfl ((hS163.memA (.tl (.tl .hd))) 0 _ rfl)) rfl ?_
   refine RG.val' .plain (FV.subU (a := u117) (b := (1 : UInt64)) rfl rfl) rfl ?_
   refine RG.val' .plain (FV.andU (a := u117) (b := u117 - (1 : UInt64)) rfl rfl) rfl ?_
   refine RG.now .plain (Acts.store (j := 0) (old := [.int .u64 (u117.toNat : Int)]) (news := [.int .u64 ((u117 &&& (u117 - (1 : UInt64))).toNat : Int)]) (new' := [.int .u64 ((u117 &&& (u117 - (1 : UInt64))).toNat : Int)]) hS163 (.tl (.tl .hd)) rfl rfl rfl rfl rfl rfl (ones_cons rfl ones_nil) rfl) (fun w165 hS166 hT167 => ?_)
   refine RG.nil ?_
   exact hJ127 (u117 &&& (u117 - (1 : UInt64)), u118 ||| x147) _ _ ⟨rfl, rfl, trivial⟩ ⟨hS166, (Tr.trans hT120 (Tr.trans hT144 (Tr.trans hT161 (Tr.trans hT164 hT167))))⟩ h
def tb44_9 : List (Nat × Nat × Nat) := [(0, 274877906944, 256), (0, 549755813888, 128), (0, 1099511627776, 256), (6, 2199023255552, 1649267441664), (0, 4398046511104, 128), (0, 8796093022208, 256), (48, 17592186044416, 13194139533312), (72, 35184372088832, 19791209299968), (129, 70368744177664, 35459249995776), (511, 256, 70368744177664)]
theorem body43 : bodyB Tryd.prog 43 = true := by kernel_rfl
theorem body44 : bodyB Tryd.prog 44 = true := by kernel_rfl
theorem body46 : bodyB Tryd.prog 46 = true := by kernel_rfl
theorem body75 : bodyB Tryd.prog 75 = true := by kernel_rfl
def graph_Distances_l1 (n : Nat) (z504 : Int) (J638 : UInt64 × (List Int) → Option (List Int)) : UInt64 × (List Int) → Option (List Int)
  | (u627, xs628) => (if u627 = (0 : UInt64) then some xs628 else (math_bits_TrailingZeros64_p n u627).bind fun y663 => (idx xs628 y663).bind fun x669 => (put xs628 ((y663.toNat : Nat) : Int) z504).bind fun xs684 => J638 (u627 &&& (u627 - (1 : UInt64)), xs684))
def graph_Distances_l2 (n : Nat) (a0 : TGraph) (a1 : UInt64) (J516 : UInt64 × UInt64 × Int × (List Int) → Option (List Int)) : UInt64 × UInt64 × Int × (List Int) → Option (List Int)
  | (u502, u503, z504, xs506) => (if u503 = (0 : UInt64) then some xs506 else Option.bind (loopF (graph_Distances_l1 n z504) n (u503, xs506)) (fun xs628 => (graph_near_p n a0 u502).bind fun y646 => (chk (z504 + 1)).bind fun s656 => J516 (u502 ||| (y646 &&& a1), y646 &&& a1, s656, xs628)))
def graph_Distances_l3 (_n : Nat) (J112 : Nat × (List Int) → Option (List Int)) : Nat × (List Int) → Option (List Int)
  | (i101, xs102) => (if i101 < xs102.length then (cut xs102 ((i101 : Nat) : Int) (xs102.length : Int)).bind fun xs121 => (cut xs102 0 ((i101 : Nat) : Int)).bind fun xs124 => J112 (i101 + (min xs124.length xs121.length), cpy xs102 (((i101 : Nat) : Int).toNat) xs121.length xs124) else some xs102)
def graph_Distances_p (n : Nat) (a0 : TGraph) (a1 : UInt64) (a2 : Int) : Option ((List Int) × Int) :=
  (graph_check_p n a0 a1).bind fun y6 => (if y6 = 0 then (if a2 < 0 then some (([] : List Int), 2) else (if a0.fN ≤ a2 then some (([] : List Int), 2) else (graph_has_p n a1 a2).bind fun y15 => (if y15 = true then (if a0.fN < 0 then none else (math_bits_Mul_p n (u64of ((([(-1)] : List Int).length : Nat) : Int)) (u64of a0.fN)).bind fun y30 => (if (0 : UInt64) < y30.1 then none else (if (9223372036854775807 : UInt64) < y30.2 then none else (mk (i64of y30.2) (0 : Int)).bind fun xs34 => Option.bind (loopF (graph_Distances_l3 n) n (min (([(-1)] : List Int).length) xs34.length, cpy xs34 0 xs34.length ([(-1)] : List Int))) (fun xs102 => (natOf a2).bind fun k142 => Option.bind (loopF (graph_Distances_l2 n a0 a1) n (shlU (1 : UInt64) k142, shlU (1 : UInt64) k142, 0, xs102)) (fun xs506 => some (xs506, 0)))))) else some (([] : List Int), 2)))) else some (([] : List Int), y6))
set_option maxRecDepth 4000 in
set_option maxHeartbeats 4000000 in
theorem graph_Distances_c (n : Nat) (L : List Nat) (w : World) (hL : ∀ b ∈ L, b < w.heap.size) (a0 : TGraph) {v0_1 : Value} (h0_1 : Rep.R w L [v0_1] a0.fEdges) (a1 : UInt64) (a2 : Int) (hG0 : Glob 0 tab0 w)  {r : (List Int) × Int} (h : graph_Distances_p n a0 a1 a2 = some r) :
    Calls Tryd.prog 24 #[.agg #[.int .i64 a0.fN, v0_1], .int .u64 (a1.toNat : Int), .int .i64 a2] w (Gives w fun w' u => ∃ v0_0 : Value, u = .tuple #[v0_0, .int .i64 r.2] ∧ Rep.R w' L [v0_0] r.1) := by
  unfold graph_Distances_p at h
  have hS0 := St.start w
  refine MX.start Tryd.func24 rfl rfl rfl (fun _ cs0 hb0 => ?_)
  refine MX.seq ?_
  refine MX.region ?_
  refine RG.new .plain rfl (Does.box (vs := [.int .i64 a0.fN, v0_1]) hS0 rfl rfl) (fun w2 b5 hS3 hT4 => ?_)
  refine RG.val' .plain (FV.assign rfl) rfl ?_
  refine RG.val' .plain (FV.assign rfl) rfl ?_
  refine RG.nil ?_
  refine MX.seq ?_
  refine MX.seq ?_
  refine MX.region ?_
  refine RG.val' .plain (FV.loadN (cs := [.int .i64 a0.fN, v0_1]) (by kernel_rfl) rfl (hS3.memA .hd)) rfl ?_
  refine RG.val' .plain (FV.move rfl) rfl ?_
  obtain ⟨y6, hy6, h⟩ := bind_in h
  have hm7 := Rep.mv h0_1 hT4
  refine RG.callq' (v := .int .i64 y6) (fst := []) (cap := []) .plain body42 rfl (evs_cons rfl (evs_cons rfl evs_nil)) (fun w9 hw9 => graph_check_c n _ w9 (hS3.hL0 hL hw9) a0 (Rep.keep0 (Rep.dropO (O := [.cells b5 [.int .i64 a0.fN, v0_1] 40]) hm7) hw9) a1 hy6) rfl ?_
  refine RG.val' .plain (FV.assign rfl) rfl ?_
  refine RG.nil ?_
  refine MX.seq ?_
  refine MX.region ?_
  refine RG.val' .plain (FV.move rfl) rfl ?_
  refine RG.val' .plain (FV.neq (i := y6) (j := 0) rfl rfl) rfl ?_
  refine RG.nil ?_
  refine MX.ifn rfl h (fun c8 h => ?_) (fun c8 h => ?_)
  ·skip
   refine MX.skip ?_
   refine MX.seq ?_
   refine MX.seq ?_
   refine MX.region ?_
   refine RG.val' .plain (FV.move rfl) rfl ?_
   refine RG.val' .plain (FV.lss (i := a2) (j := 0) rfl rfl) rfl ?_
   refine RG.val' .plain (FV.move rfl) rfl ?_
   refine RG.ifd (s := 22) rfl h (fun c9 h => ?_) (fun c9 h => ?_)
   ·skip
    refine RG.off (.no rfl rfl) rfl ?_
    refine RG.off (.no rfl rfl) rfl ?_
    refine RG.off (.no rfl rfl) rfl ?_
    refine RG.off (.no rfl rfl) rfl ?_
    refine RG.val' .plain (FV.pick_t rfl rfl) rfl ?_
    refine RG.val' .plain (FV.move rfl) rfl ?_
    refine RG.off (.no rfl rfl) rfl ?_
    refine RG.off (.no rfl rfl) rfl ?_
    refine RG.off (.no rfl rfl) rfl ?_
    refine RG.off (.no rfl rfl) rfl ?_
    refine RG.val' .plain (FV.pick_t rfl rfl) rfl ?_
    refine RG.nil ?_
    refine MX.cond_t rfl ?_
    refine MX.seq ?_
    refine MX.region ?_
    refine RG.val' .plain (FV.assign rfl) rfl ?_
    refine RG.val' .plain (FV.assign rfl) rfl ?_
    refine RG.nil ?_
    refine MX.ret rfl ?_
    have hr10 : Rep.R w2 (bl [.cells b5 [.int .i64 a0.fN, v0_1] 40] ++ L) [.slice none 0 0] ([] : List Int) := Rep.nilSlice _ _
    refine RT.leave (u := .tuple #[.slice none 0 0, .int .i64 2]) hb0 Tryd.func24 rfl (.cons (.tmp rfl) (.cons (.tmp rfl) .nil)) rfl ?_
    obtain rfl := Option.some.inj h
    have hr11 : Rep.R w2 (bl [.cells b5 [.int .i64 a0.fN, v0_1] 40] ++ L) [.slice none 0 0] ([] : List Int) := Rep.nilSlice _ _
    exact ⟨hS3.ag, fun w9 hw9 => ⟨(.slice none 0 0), rfl, Rep.keep0 (Rep.dropO (O := [.cells b5 [.int .i64 a0.fN, v0_1] 40]) hr11) hw9⟩⟩
   ·skip
    refine RG.val' (.yes rfl rfl) (FV.move rfl) rfl ?_
    refine RG.val' (.yes rfl rfl) (FV.fieldAddr (off := 0) (by kernel_rfl) rfl) rfl ?_
    refine RG.val' (.yes rfl rfl) (FV.load1 (by kernel_rfl) rfl ((hS3.memA .hd) 0 _ rfl)) rfl ?_
    refine RG.val' (.yes rfl rfl) (FV.geq (i := a2) (j := a0.fN) rfl rfl) rfl ?_
    refine RG.val' .plain (FV.pick_f rfl rfl) rfl ?_
    refine RG.val' .plain (FV.move rfl) rfl ?_
    refine RG.ifd (s := 28) rfl h (fun c12 h => ?_) (fun c12 h => ?_)
    ·skip
     refine RG.off (.no rfl rfl) rfl ?_
     refine RG.off (.no rfl rfl) rfl ?_
     refine RG.off (.no rfl rfl) rfl ?_
     refine RG.off (.no rfl rfl) rfl ?_
     refine RG.val' .plain (FV.pick_t rfl rfl) rfl ?_
     refine RG.nil ?_
     refine MX.cond_t rfl ?_
     refine MX.seq ?_
     refine MX.region ?_
     refine RG.val' .plain (FV.assign rfl) rfl ?_
     refine RG.val' .plain (FV.assign rfl) rfl ?_
     refine RG.nil ?_
     refine MX.ret rfl ?_
     have hr13 : Rep.R w2 (bl [.cells b5 [.int .i64 a0.fN, v0_1] 40] ++ L) [.slice none 0 0] ([] : List Int) := Rep.nilSlice _ _
     refine RT.leave (u := .tuple #[.slice none 0 0, .int .i64 2]) hb0 Tryd.func24 rfl (.cons (.tmp rfl) (.cons (.tmp rfl) .nil)) rfl ?_
     obtain rfl := Option.some.inj h
     have hr14 : Rep.R w2 (bl [.cells b5 [.int .i64 a0.fN, v0_1] 40] ++ L) [.slice none 0 0] ([] : List Int) := Rep.nilSlice _ _
     exact ⟨hS3.ag, fun w9 hw9 => ⟨(.slice none 0 0), rfl, Rep.keep0 (Rep.dropO (O := [.cells b5 [.int .i64 a0.fN, v0_1] 40]) hr14) hw9⟩⟩
    ·skip
     refine RG.val' (.yes rfl rfl) (FV.move rfl) rfl ?_
     refine RG.val' (.yes rfl rfl) (FV.move rfl) rfl ?_
     obtain ⟨y15, hy15, h⟩ := bind_in h
     refine RG.callq' (v := .bool y15) (fst := []) (cap := []) (.yes rfl rfl) body43 rfl (evs_cons rfl (evs_cons rfl evs_nil)) (fun w9 hw9 => graph_has_c n _ w9 (hS3.hL0 hL hw9) a1 a2 hy15) rfl ?_
     refine RG.val' (.yes rfl rfl) (FV.not rfl) rfl ?_
     refine RG.val' .plain (FV.pick_f rfl rfl) rfl ?_
     refine RG.nil ?_
     refine MX.ifnb rfl h (fun c16 h => ?_) (fun c16 h => ?_)
     ·skip
      refine MX.skip ?_
      refine MX.seq ?_
      refine MX.region ?_
      refine RG.new .plain rfl (Does.build (α := Int) (xs := ([(-1)] : List Int)) (vs := [.int .i64 (-1)]) (ds' := [.int .i64 (-1)]) rfl hS3 el22 rfl (evs_cons rfl evs_nil) (by kernel_rfl) rfl) (fun w18 b21 hS19 hT20 => ?_)
      have hc22 : Cells w18 (bl [.row w.heap.size 3 (Rep.size Int) (.slice (some ⟨b21, 0, none⟩) 1 1) (([(-1)] : List Int).length) [.int .i64 (-1)], .cells b5 [.int .i64 a0.fN, v0_1] 40] ++ L) [.int .i64 (-1)] (([(-1)] : List Int) : List Int) := Cells.cons (cs := [.int .i64 (-1)]) (ds := []) rfl (Cells.nil _ _)
      refine RG.val' .plain (FV.fieldAddr (off := 0) (by kernel_rfl) rfl) rfl ?_
      refine RG.val' .plain (FV.load1 (by kernel_rfl) rfl ((hS19.memA (.tl .hd)) 0 _ rfl)) rfl ?_
      refine RG.enter (fst := []) (cap := []) (vs := [(.slice (some ⟨b21, 0, none⟩) 1 1), .int .i64 a0.fN]) .plain body44 Tryd.func44 rfl rfl rfl rfl (evs_cons rfl (evs_cons rfl evs_nil)) rfl (fun cs24 hb23 => ?_)
      refine MX.seq ?_
      refine MX.region ?_
      refine RG.val' .plain (FV.assign rfl) rfl ?_
      refine RG.nil ?_
      refine MX.seq ?_
      refine MX.seq ?_
      refine MX.region ?_
      refine RG.val' .plain (FV.move rfl) rfl ?_
      refine RG.val' .plain (FV.lss (i := a0.fN) (j := 0) rfl rfl) rfl ?_
      refine RG.nil ?_
      refine MX.ifd rfl h (fun c25 h => ?_) (fun c25 h => ?_)
      ·skip
       refine MX.region ?_
       cases h
      ·skip
       refine MX.skip ?_
       refine MX.seq ?_
       refine MX.region ?_
       refine RG.val' .plain (FV.move rfl) rfl ?_
       have hl26 : ([(-1)] : List Int).length ≤ 4294967296 := St.rowLe (α := Int) hS19 .hd
       obtain ⟨A27, c28, he29⟩ := St.rowV (α := Int) hS19 .hd
       refine RG.val' .plain (FV.lenV Tryd.underlying22 rfl he29) rfl ?_
       refine RG.val' .plain (FV.convU (i := ((([(-1)] : List Int).length : Nat) : Int)) Tryd.underlying3 Tryd.underlying68 rfl) rfl ?_
       refine RG.val' .plain (FV.move rfl) rfl ?_
       refine RG.val' .plain (FV.convU (i := a0.fN) Tryd.underlying3 Tryd.underlying68 rfl) rfl ?_
       obtain ⟨y30, hy30, h⟩ := bind_in h
       refine RG.callq' (v := .tuple #[.int .u64 (y30.1.toNat : Int), .int .u64 (y30.2.toNat : Int)]) (fst := []) (cap := []) .plain body75 rfl (evs_cons rfl (evs_cons rfl evs_nil)) (fun w9 hw9 => math_bits_Mul_c n _ w9 (hS19.hL0 hL hw9) (u64of ((([(-1)] : List Int).length : Nat) : Int)) (u64of a0.fN) hy30) rfl ?_
       refine RG.val' .plain (FV.move rfl) rfl ?_
       refine RG.val' .plain (FV.extract rfl rfl) rfl ?_
       refine RG.val' .plain (FV.extract rfl rfl) rfl ?_
       refine RG.val' .plain (FV.assign rfl) rfl ?_
       refine RG.val' .plain (FV.assign rfl) rfl ?_
       refine RG.nil ?_
       refine MX.seq ?_
       refine MX.seq ?_
       refine MX.region ?_
       refine RG.val' .plain (FV.move rfl) rfl ?_
       refine RG.val' .plain (FV.gtrU (a := y30.1) (b := (0 : UInt64)) rfl rfl) rfl ?_
       refine RG.val' .plain (FV.move rfl) rfl ?_
       refine RG.ifd (s := 23) rfl h (fun c31 h => ?_) (fun c31 h => ?_)
       ·skip
        refine RG.off (.no rfl rfl) rfl ?_
        refine RG.off (.no rfl rfl) rfl ?_
        refine RG.val' .plain (FV.pick_t rfl rfl) rfl ?_
        refine RG.nil ?_
        refine MX.cond_t rfl ?_
        refine MX.region ?_
        cases h
       ·skip
        refine RG.val' (.yes rfl rfl) (FV.move rfl) rfl ?_
        refine RG.val' (.yes rfl rfl) (FV.gtrU (a := y30.2) (b := (9223372036854775807 : UInt64)) rfl rfl) rfl ?_
        refine RG.val' .plain (FV.pick_f rfl rfl) rfl ?_
        refine RG.nil ?_
        refine MX.ifd rfl h (fun c32 h => ?_) (fun c32 h => ?_)
        ·skip
         refine MX.region ?_
         cases h
        ·skip
         refine MX.skip ?_
         refine MX.seq ?_
         refine MX.region ?_
         refine RG.val' .plain (FV.move rfl) rfl ?_
         refine RG.val' .plain (FV.convUI (a := y30.2) Tryd.underlying68 Tryd.underlying3 rfl) rfl ?_
         obtain ⟨xs34, hxs34, h⟩ := bind_in h
         refine RG.new .plain rfl (Does.mk (α := Int) hxs34 hS19 el22 rfl) (fun w35 b38 hS36 hT37 => ?_)
         have hc39 : Cells w35 (bl [.row w.heap.size 3 (Rep.size Int) (.slice (some ⟨b38, 0, none⟩) (i64of y30.2).toNat (i64of y30.2).toNat) xs34.length ((List.replicate (i64of y30.2).toNat [.int .i64 0]).flatten), .row w.heap.size 3 (Rep.size Int) (.slice (some ⟨b21, 0, none⟩) 1 1) (([(-1)] : List Int).length) [.int .i64 (-1)], .cells b5 [.int .i64 a0.fN, v0_1] 40] ++ L) (List.replicate (i64of y30.2).toNat [.int .i64 0]).flatten xs34 := Cells.mk hxs34 rfl
         refine RG.val' .plain (FV.assign rfl) rfl ?_
         refine RG.nil ?_
         refine MX.seq ?_
         refine MX.region ?_
         refine RG.val' .plain (FV.move rfl) rfl ?_
         refine RG.val' .plain (FV.move rfl) rfl ?_
         have hl40 : xs34.length ≤ 4294967296 := St.rowLe (α := Int) hS36 .hd
         have hm41 := Cells.mv hc22 hT37
         refine RG.doesL .plain rfl (DoesL.copy (α := Int) (ys := ([(-1)] : List Int)) (m := xs34.length) (lo := 0) (F := fun cs' => [.row w.heap.size 3 (Rep.size Int) (.slice (some ⟨b38, 0, none⟩) (i64of y30.2).toNat (i64of y30.2).toNat) (cpy xs34 0 xs34.length ([(-1)] : List Int)).length cs', .row w.heap.size 3 (Rep.size Int) (.slice (some ⟨b21, 0, none⟩) 1 1) (([(-1)] : List Int).length) [.int .i64 (-1)], .cells b5 [.int .i64 a0.fN, v0_1] 40]) rfl hS36 (SubV.whole (α := Int) hS36 .hd) (fun _ => .hd) (by kernel_rfl) rfl rfl hc39 (Src.row (α := Int) hS36 (.tl .hd) hm41)) (fun u47 w42 ⟨hu48, cs46, hS43, hT44, hc45⟩ => ?_)
         subst hu48
         refine RG.val' .plain (FV.assign rfl) rfl ?_
         refine RG.nil ?_
         refine MX.seq ?_
         refine MX.block ?_
         obtain ⟨o110, ho109, hh111⟩ := bind_in2 h
         refine MX.loop (α := Nat × (List Int) × (List Value)) (fun ⟨i101, xs102, cs103⟩ => [(7, (.slice (some ⟨b38, 0, none⟩) (i64of y30.2).toNat (i64of y30.2).toNat)), (8, .int .i64 ((i101 : Nat) : Int))]) (fun ⟨i101, xs102, cs103⟩ wx104 => St w wx104 [.row w.heap.size 3 (Rep.size Int) (.slice (some ⟨b38, 0, none⟩) (i64of y30.2).toNat (i64of y30.2).toNat) xs102.length cs103, .row w.heap.size 3 (Rep.size Int) (.slice (some ⟨b21, 0, none⟩) 1 1) (([(-1)] : List Int).length) [.int .i64 (-1)], .cells b5 [.int .i64 a0.fN, v0_1] 40] ∧ Tr w42 [.row w.heap.size 3 (Rep.size Int) (.slice (some ⟨b38, 0, none⟩) (i64of y30.2).toNat (i64of y30.2).toNat) ((cpy xs34 0 xs34.length ([(-1)] : List Int)).length) cs46, .row w.heap.size 3 (Rep.size Int) (.slice (some ⟨b21, 0, none⟩) 1 1) (([(-1)] : List Int).length) [.int .i64 (-1)], .cells b5 [.int .i64 a0.fN, v0_1] 40] wx104 [.row w.heap.size 3 (Rep.size Int) (.slice (some ⟨b38, 0, none⟩) (i64of y30.2).toNat (i64of y30.2).toNat) xs102.length cs103, .row w.heap.size 3 (Rep.size Int) (.slice (some ⟨b21, 0, none⟩) 1 1) (([(-1)] : List Int).length) [.int .i64 (-1)], .cells b5 [.int .i64 a0.fN, v0_1] 40] ∧ Cells wx104 (bl [.row w.heap.size 3 (Rep.size Int) (.slice (some ⟨b38, 0, none⟩) (i64of y30.2).toNat (i64of y30.2).toNat) xs102.length cs103, .row w.heap.size 3 (Rep.size Int) (.slice (some ⟨b21, 0, none⟩) 1 1) (([(-1)] : List Int).length) [.int .i64 (-1)], .cells b5 [.int .i64 a0.fN, v0_1] 40] ++ L) cs103 xs102) (fun ⟨i101, xs102, cs103⟩ => (i101, xs102)) (min (([(-1)] : List Int).length) xs34.length, cpy xs34 0 xs34.length ([(-1)] : List Int), cs46) ho109 ⟨rfl, rfl, trivial⟩ ⟨hS43, Tr.refl _ _, hc45⟩ ?_
         rintro J112 ⟨i101, xs102, cs103⟩ wx104 hJ113 ⟨hS105, hT106, hc104⟩ h
         unfold graph_Distances_l3 at h
         try dsimp only at h
         refine MX.seq ?_
         refine MX.seq ?_
         refine MX.region ?_
         refine RG.val' .plain (FV.move rfl) rfl ?_
         refine RG.val' .plain (FV.move rfl) rfl ?_
         have hl114 : xs102.length ≤ 4294967296 := St.rowLe (α := Int) hS105 .hd
         obtain ⟨A115, c116, he117⟩ := St.rowV (α := Int) hS105 .hd
         refine RG.val' .plain (FV.lenV Tryd.underlying22 rfl he117) rfl ?_
         refine RG.val' .plain (FV.lssN (i := i101) (j := xs102.length) rfl rfl) rfl ?_
         refine RG.nil ?_
         refine MX.ifd rfl h (fun c118 h => ?_) (fun c118 h => ?_)
         ·skip
          refine MX.skip ?_
          refine MX.block ?_
          refine MX.drawT 7 tb44_9 (by kernel_rfl) (by kernel_rfl) (by kernel_rfl) (fun kt119 kp120 => ?_)
          refine RD.vP 0 1 kt119 rfl kp120 .plain (fun _ => FV.move rfl) rfl ?_
          refine RD.vP 1 3 kt119 rfl kp120 .plain (fun _ => FV.move rfl) rfl ?_
          refine RD.vP 2 7 kt119 rfl kp120 .plain (fun _ => FV.move rfl) rfl ?_
          obtain ⟨xs121, hxs121, h⟩ := bind_in h
          refine RD.valE (i := 3) (m' := 15) (W := 896) (takeC_ok kt119 (by kernel_rfl)) rfl kp120 .plain rfl (FV.cutRow (α := Int) hxs121 hS105 .hd (by kernel_rfl) rfl ⟨_, rfl⟩ rfl) (fun v122 hr123 => ?_)
          refine RD.vP 4 31 kt119 rfl kp120 .plain (fun _ => FV.move rfl) rfl ?_
          refine RD.vP 5 63 kt119 rfl kp120 .plain (fun _ => FV.move rfl) rfl ?_
          obtain ⟨xs124, hxs124, h⟩ := bind_in h
          refine RD.valE (i := 6) (m' := 127) (W := 896) (takeC_ok kt119 (by kernel_rfl)) rfl kp120 .plain rfl (FV.cutRow (α := Int) hxs124 hS105 .hd (by kernel_rfl) rfl rfl ⟨_, rfl⟩) (fun v125 hr126 => ?_)
          refine RD.one (i := 7) (readyD_ok kt119 (by kernel_rfl)) (RO.doesL (m' := 255) (stepC_ok kt119 (by kernel_rfl)) rfl rfl .plain rfl (DoesL.copy (α := Int) (ys := xs124) (m := xs121.length) (lo := ((i101 : Nat) : Int).toNat) (F := fun cs' => [.row w.heap.size 3 (Rep.size Int) (.slice (some ⟨b38, 0, none⟩) (i64of y30.2).toNat (i64of y30.2).toNat) (cpy xs102 (((i101 : Nat) : Int).toNat) xs121.length xs124).length cs', .row w.heap.size 3 (Rep.size Int) (.slice (some ⟨b21, 0, none⟩) 1 1) (([(-1)] : List Int).length) [.int .i64 (-1)], .cells b5 [.int .i64 a0.fN, v0_1] 40]) rfl hS105 hr123 (fun _ => .hd) (by kernel_rfl) rfl rfl hc104 (Src.sub (α := Int) hS105 .hd hc104 hxs124 hr126)) (fun u132 w127 ⟨hu133, cs131, hS128, hT129, hc130⟩ => ?_))
          subst hu133
          have := hr123.le
          refine RD.one (i := 8) (readyD_ok kt119 (by kernel_rfl)) (RO.val (m' := 511) (stepC_ok kt119 (by kernel_rfl)) rfl .plain rfl (FV.addN (i := i101) (j := min xs124.length xs121.length) rfl rfl (by omega)) ?_)
          refine RD.one (i := 9) (readyD_ok kt119 (by kernel_rfl)) (RO.val (m' := 1023) (stepC_ok kt119 (by kernel_rfl)) rfl .plain rfl (FV.assign rfl) ?_)
          refine RD.done (doneD_ok kt119 (by kernel_rfl)) ?_
          refine MX.inBlock ?_
          exact hJ113 (i101 + (min xs124.length xs121.length), cpy xs102 (((i101 : Nat) : Int).toNat) xs121.length xs124, cs131) _ _ ⟨rfl, rfl, trivial⟩ ⟨hS128, (Tr.trans hT106 hT129), hc130⟩ h
         ·skip
          refine MX.exit rfl ?_
          have h := hh111 _ h
          try dsimp only at h
          refine MX.seq ?_
          refine MX.region ?_
          refine RG.val' .plain (FV.move rfl) rfl ?_
          refine RG.val' .plain (FV.assign rfl) rfl ?_
          refine RG.nil ?_
          refine MX.ret rfl ?_
          refine RT.leave (u := (.slice (some ⟨b38, 0, none⟩) (i64of y30.2).toNat (i64of y30.2).toNat)) hb23 Tryd.func44 rfl (.cons (.tmp rfl) .nil) rfl ?_
          refine RG.new .plain rfl (Does.alloc (zs := [.slice none 0 0]) hS105 (zB (by kernel_rfl))) (fun w135 b138 hS136 hT137 => ?_)
          refine RG.now .plain (Acts.store (j := 0) (old := [.slice none 0 0]) (news := [(.slice (some ⟨b38, 0, none⟩) (i64of y30.2).toNat (i64of y30.2).toNat)]) (new' := [(.slice (some ⟨b38, 0, none⟩) (i64of y30.2).toNat (i64of y30.2).toNat)]) hS136 .hd rfl rfl rfl (St.c1 (α := Int) hS136 (.tl .hd)) rfl rfl (ones_cons (St.o1 (α := Int) hS136 (.tl .hd)) ones_nil) rfl) (fun w139 hS140 hT141 => ?_)
          refine RG.nil ?_
          refine MX.seq ?_
          refine MX.region ?_
          refine RG.val' .plain (FV.move rfl) rfl ?_
          obtain ⟨k142, hk142, h⟩ := bind_in h
          refine RG.val' .plain (FV.shlI (a := (1 : UInt64)) (i := a2) rfl rfl hk142) rfl ?_
          refine RG.val' .plain (FV.assign rfl) rfl ?_
          refine RG.nil ?_
          refine MX.seq ?_
          refine MX.seq ?_
          refine MX.region ?_
          refine RG.val' .plain (FV.move rfl) rfl ?_
          refine RG.new .plain rfl (Does.alloc (zs := [.int .i64 0]) hS140 (zB (by kernel_rfl))) (fun w144 b147 hS145 hT146 => ?_)
          refine RG.now .plain (Acts.store (j := 0) (old := [.int .i64 0]) (news := [.int .i64 0]) (new' := [.int .i64 0]) hS145 .hd rfl rfl rfl rfl rfl rfl (ones_cons rfl ones_nil) rfl) (fun w148 hS149 hT150 => ?_)
          refine RG.val' .plain (FV.assign rfl) rfl ?_
          refine RG.nil ?_
          refine MX.block ?_
          have hS498 : St _ _ [.cells b147 [.int .i64 0] 3, .cells b138 [(.slice (some ⟨b38, 0, none⟩) (i64of y30.2).toNat (i64of y30.2).toNat)] 22, .row w.heap.size 3 (Rep.size Int) (.slice (some ⟨b38, 0, none⟩) (i64of y30.2).toNat (i64of y30.2).toNat) xs102.length cs103, .cells b5 [.int .i64 a0.fN, v0_1] 40] := hS149.arr (.one .hd (.one .hd (.one .hd (.one (.tl .hd) .done))))
          have hT499 : Tr w148 _ w148 [.cells b147 [.int .i64 0] 3, .cells b138 [(.slice (some ⟨b38, 0, none⟩) (i64of y30.2).toNat (i64of y30.2).toNat)] 22, .row w.heap.size 3 (Rep.size Int) (.slice (some ⟨b38, 0, none⟩) (i64of y30.2).toNat (i64of y30.2).toNat) xs102.length cs103, .cells b5 [.int .i64 a0.fN, v0_1] 40] := Tr.arr (St.arrOf hS149 (.one .hd (.one .hd (.one .hd (.one (.tl .hd) .done)))))
          have hm500 := Cells.mv hc104 (Tr.trans hT137 (Tr.trans hT141 (Tr.trans hT146 (Tr.trans hT150 hT499))))
          obtain ⟨o514, ho513, hh515⟩ := bind_in2 h
          refine MX.loopD (α := UInt64 × UInt64 × Int × (List Int) × (List Nat) × Nat × (List Value)) (fun ⟨u502, u503, z504, xs506, Ds501, b505, cs507⟩ => [(1, .int .u64 (a1.toNat : Int)), (3, .pointer (some ⟨b5, 0, none⟩)), (9, .pointer (some ⟨b138, 0, none⟩)), (10, .int .u64 (u502.toNat : Int)), (11, .pointer (some ⟨b505, 0, none⟩)), (12, .int .u64 (u503.toNat : Int))]) (fun ⟨u502, u503, z504, xs506, Ds501, b505, cs507⟩ wx508 => St w wx508 (.cells b505 [.int .i64 z504] 3 :: .cells b138 [(.slice (some ⟨b38, 0, none⟩) (i64of y30.2).toNat (i64of y30.2).toNat)] 22 :: .row w.heap.size 3 (Rep.size Int) (.slice (some ⟨b38, 0, none⟩) (i64of y30.2).toNat (i64of y30.2).toNat) xs506.length cs507 :: .cells b5 [.int .i64 a0.fN, v0_1] 40 :: (defs Ds501 ++ [])) ∧ Tr w148 [.cells b147 [.int .i64 0] 3, .cells b138 [(.slice (some ⟨b38, 0, none⟩) (i64of y30.2).toNat (i64of y30.2).toNat)] 22, .row w.heap.size 3 (Rep.size Int) (.slice (some ⟨b38, 0, none⟩) (i64of y30.2).toNat (i64of y30.2).toNat) xs102.length cs103, .cells b5 [.int .i64 a0.fN, v0_1] 40] wx508 (.cells b505 [.int .i64 z504] 3 :: .cells b138 [(.slice (some ⟨b38, 0, none⟩) (i64of y30.2).toNat (i64of y30.2).toNat)] 22 :: .row w.heap.size 3 (Rep.size Int) (.slice (some ⟨b38, 0, none⟩) (i64of y30.2).toNat (i64of y30.2).toNat) xs506.length cs507 :: .cells b5 [.int .i64 a0.fN, v0_1] 40 :: (defs Ds501 ++ [])) ∧ Cells wx508 (bl (.cells b505 [.int .i64 z504] 3 :: .cells b138 [(.slice (some ⟨b38, 0, none⟩) (i64of y30.2).toNat (i64of y30.2).toNat)] 22 :: .row w.heap.size 3 (Rep.size Int) (.slice (some ⟨b38, 0, none⟩) (i64of y30.2).toNat (i64of y30.2).toNat) xs506.length cs507 :: .cells b5 [.int .i64 a0.fN, v0_1] 40 :: (defs Ds501 ++ [])) ++ L) cs507 xs506) (fun ⟨u502, u503, z504, xs506, Ds501, b505, cs507⟩ => (u502, u503, z504, xs506)) (fun ⟨u502, u503, z504, xs506, Ds501, b505, cs507⟩ => cols Ds501) (shlU (1 : UInt64) k142, shlU (1 : UInt64) k142, 0, xs102, (([] : List Nat)), b147, cs103) rfl ho513 ⟨rfl, rfl, rfl, rfl, rfl, rfl, trivial⟩ ⟨hS498, Tr.refl _ _, hm500⟩ ?_
          rintro J516 ⟨u502, u503, z504, xs506, Ds501, b505, cs507⟩ wx508 hJ517 ⟨hS509, hT510, hc508⟩ h
          unfold graph_Distances_l2 at h
          try dsimp only at h
          refine MX.seq ?_
          refine MX.seq ?_
          refine MX.region ?_
          refine RG.val' .plain (FV.move rfl) rfl ?_
          refine RG.val' .plain (FV.neqU (a := u503) (b := (0 : UInt64)) rfl rfl) rfl ?_
          refine RG.nil ?_
          refine MX.ifn rfl h (fun c518 h => ?_) (fun c518 h => ?_)
          ·skip
           refine MX.exit rfl ?_
           have h := hh515 _ h
           try dsimp only at h
           refine MX.seq ?_
           refine MX.region ?_
           refine RG.val' .plain (FV.load1 (by kernel_rfl) rfl ((hS509.memA (.tl .hd)) 0 _ rfl)) rfl ?_
           refine RG.val' .plain (FV.assign rfl) rfl ?_
           refine RG.val' .plain (FV.assign rfl) rfl ?_
           refine RG.nil ?_
           refine MX.ret rfl ?_
           refine RT.takes (O1 := [.cells b505 [.int .i64 z504] 3, .cells b138 [(.slice (some ⟨b38, 0, none⟩) (i64of y30.2).toNat (i64of y30.2).toNat)] 22, .row w.heap.size 3 (Rep.size Int) (.slice (some ⟨b38, 0, none⟩) (i64of y30.2).toNat (i64of y30.2).toNat) xs506.length cs507, .cells b5 [.int .i64 a0.fN, v0_1] 40]) (O2 := []) (Ds := Ds501) hS509 (fun w519 hS520 hT521 => ?_)
           have hS522 : St _ w519 [.cells b505 [.int .i64 z504] 3, .cells b138 [(.slice (some ⟨b38, 0, none⟩) (i64of y30.2).toNat (i64of y30.2).toNat)] 22, .row w.heap.size 3 (Rep.size Int) (.slice (some ⟨b38, 0, none⟩) (i64of y30.2).toNat (i64of y30.2).toNat) xs506.length cs507, .cells b5 [.int .i64 a0.fN, v0_1] 40] := hS520
           have hT523 : Tr wx508 (.cells b505 [.int .i64 z504] 3 :: .cells b138 [(.slice (some ⟨b38, 0, none⟩) (i64of y30.2).toNat (i64of y30.2).toNat)] 22 :: .row w.heap.size 3 (Rep.size Int) (.slice (some ⟨b38, 0, none⟩) (i64of y30.2).toNat (i64of y30.2).toNat) xs506.length cs507 :: .cells b5 [.int .i64 a0.fN, v0_1] 40 :: (defs Ds501 ++ [])) w519 [.cells b505 [.int .i64 z504] 3, .cells b138 [(.slice (some ⟨b38, 0, none⟩) (i64of y30.2).toNat (i64of y30.2).toNat)] 22, .row w.heap.size 3 (Rep.size Int) (.slice (some ⟨b38, 0, none⟩) (i64of y30.2).toNat (i64of y30.2).toNat) xs506.length cs507, .cells b5 [.int .i64 a0.fN, v0_1] 40] := hT521
           have hm527 := Cells.mv hc508 hT523
           have hr524 := St.freeze (α := Int) hS522 (.tl (.tl .hd)) hm527 hL
           have hS525 := hS522.del ((.tl (.tl .hd)) : Out _ _ _).del
           have hT526 := Tr.del (w := w519) ((.tl (.tl .hd)) : Out [.cells b505 [.int .i64 z504] 3, .cells b138 [(.slice (some ⟨b38, 0, none⟩) (i64of y30.2).toNat (i64of y30.2).toNat)] 22, .row w.heap.size 3 (Rep.size Int) (.slice (some ⟨b38, 0, none⟩) (i64of y30.2).toNat (i64of y30.2).toNat) xs506.length cs507, .cells b5 [.int .i64 a0.fN, v0_1] 40] _ _).del
           have hr528 : Rep.R w519 (bl [.cells b505 [.int .i64 z504] 3, .cells b138 [(.slice (some ⟨b38, 0, none⟩) (i64of y30.2).toNat (i64of y30.2).toNat)] 22, .cells b5 [.int .i64 a0.fN, v0_1] 40] ++ L) [(.slice (some ⟨b38, 0, none⟩) (i64of y30.2).toNat (i64of y30.2).toNat)] xs506 := hr524
           refine RT.leave (u := .tuple #[(.slice (some ⟨b38, 0, none⟩) (i64of y30.2).toNat (i64of y30.2).toNat), .int .i64 0]) hb0 Tryd.func24 rfl (.cons (.tmp rfl) (.cons (.tmp rfl) .nil)) rfl ?_
           obtain rfl := Option.some.inj h
           exact ⟨hS525.ag, fun w9 hw9 => ⟨(.slice (some ⟨b38, 0, none⟩) (i64of y30.2).toNat (i64of y30.2).toNat), rfl, Rep.keep0 (Rep.dropO (O := [.cells b505 [.int .i64 z504] 3, .cells b138 [(.slice (some ⟨b38, 0, none⟩) (i64of y30.2).toNat (i64of y30.2).toNat)] 22, .cells b5 [.int .i64 a0.fN, v0_1] 40]) hr528) hw9⟩⟩
          ·skip
           refine MX.skip ?_
           refine MX.seq ?_
           refine MX.block ?_
           refine MX.seq ?_
           refine MX.seq ?_
           refine MX.region ?_
           refine RG.val' .plain (FV.move rfl) rfl ?_
           refine RG.call' (fst := []) (cap := []) .plain body45 rfl (evs_cons rfl evs_nil) (fun w9 hw9 => Calls.gives (graph_nodes_c n _ w9 (hS509.hL hL hw9) u503) fun (w8 : World) (u8 : Value) ⟨b0_, hu_, s_⟩ => (⟨b0_, hu_, s_.from hw9⟩ : ∃ b530 : Nat, u8 = Value.func (.func 76) #[] #[.pointer (some ⟨b530, 0, none⟩)] ∧ St wx508 w8 [.cells b530 [.int .u64 (u503.toNat : Int)] 35])) rfl (fun w531 vu532 hag533 ⟨b530, hu535, s534⟩ => ?_)
           subst hu535
           have hS536 : St w w531 (.cells b530 [.int .u64 (u503.toNat : Int)] 35 :: .cells b505 [.int .i64 z504] 3 :: .cells b138 [(.slice (some ⟨b38, 0, none⟩) (i64of y30.2).toNat (i64of y30.2).toNat)] 22 :: .row w.heap.size 3 (Rep.size Int) (.slice (some ⟨b38, 0, none⟩) (i64of y30.2).toNat (i64of y30.2).toNat) xs506.length cs507 :: .cells b5 [.int .i64 a0.fN, v0_1] 40 :: (defs Ds501 ++ [])) := St.merge hS509 s534
           have hT537 : Tr wx508 (.cells b505 [.int .i64 z504] 3 :: .cells b138 [(.slice (some ⟨b38, 0, none⟩) (i64of y30.2).toNat (i64of y30.2).toNat)] 22 :: .row w.heap.size 3 (Rep.size Int) (.slice (some ⟨b38, 0, none⟩) (i64of y30.2).toNat (i64of y30.2).toNat) xs506.length cs507 :: .cells b5 [.int .i64 a0.fN, v0_1] 40 :: (defs Ds501 ++ [])) w531 (.cells b530 [.int .u64 (u503.toNat : Int)] 35 :: .cells b505 [.int .i64 z504] 3 :: .cells b138 [(.slice (some ⟨b38, 0, none⟩) (i64of y30.2).toNat (i64of y30.2).toNat)] 22 :: .row w.heap.size 3 (Rep.size Int) (.slice (some ⟨b38, 0, none⟩) (i64of y30.2).toNat (i64of y30.2).toNat) xs506.length cs507 :: .cells b5 [.int .i64 a0.fN, v0_1] 40 :: (defs Ds501 ++ [])) := Tr.merge hS509 s534
           refine RG.nil ?_
           refine MX.block ?_
           refine MX.range (lb := [.pointer (some ⟨b530, 0, none⟩)]) rfl hS536 rfl body76 Tryd.func76 rfl rfl rfl (fun w538 lk541 D542 r543 cs546 hS539 hT540 rec544 hb545 => ?_)
           refine MX.block ?_
           have hm626 := Cells.mv hc508 (Tr.trans hT537 hT540)
           obtain ⟨o636, ho635, hh637⟩ := bind_in2 h
           refine MX.loop (α := UInt64 × (List Int) × (List Value)) (fun ⟨u627, xs628, cs629⟩ => [(0, .func (.yield lk541) #[] #[]), (1, .pointer (some ⟨b530, 0, none⟩))]) (fun ⟨u627, xs628, cs629⟩ wx630 => St w wx630 (.obj lk541 (lpO r543 .ready none) :: .obj D542 (.deferred (some [])) :: .cells b530 [.int .u64 (u627.toNat : Int)] 35 :: .cells b505 [.int .i64 z504] 3 :: .cells b138 [(.slice (some ⟨b38, 0, none⟩) (i64of y30.2).toNat (i64of y30.2).toNat)] 22 :: .row w.heap.size 3 (Rep.size Int) (.slice (some ⟨b38, 0, none⟩) (i64of y30.2).toNat (i64of y30.2).toNat) xs628.length cs629 :: .cells b5 [.int .i64 a0.fN, v0_1] 40 :: (defs Ds501 ++ [])) ∧ Tr w538 (.obj lk541 (lpO r543 .ready none) :: .obj D542 (.deferred (some [])) :: .cells b530 [.int .u64 (u503.toNat : Int)] 35 :: .cells b505 [.int .i64 z504] 3 :: .cells b138 [(.slice (some ⟨b38, 0, none⟩) (i64of y30.2).toNat (i64of y30.2).toNat)] 22 :: .row w.heap.size 3 (Rep.size Int) (.slice (some ⟨b38, 0, none⟩) (i64of y30.2).toNat (i64of y30.2).toNat) xs506.length cs507 :: .cells b5 [.int .i64 a0.fN, v0_1] 40 :: (defs Ds501 ++ [])) wx630 (.obj lk541 (lpO r543 .ready none) :: .obj D542 (.deferred (some [])) :: .cells b530 [.int .u64 (u627.toNat : Int)] 35 :: .cells b505 [.int .i64 z504] 3 :: .cells b138 [(.slice (some ⟨b38, 0, none⟩) (i64of y30.2).toNat (i64of y30.2).toNat)] 22 :: .row w.heap.size 3 (Rep.size Int) (.slice (some ⟨b38, 0, none⟩) (i64of y30.2).toNat (i64of y30.2).toNat) xs628.length cs629 :: .cells b5 [.int .i64 a0.fN, v0_1] 40 :: (defs Ds501 ++ [])) ∧ Cells wx630 (bl (.obj lk541 (lpO r543 .ready none) :: .obj D542 (.deferred (some [])) :: .cells b530 [.int .u64 (u627.toNat : Int)] 35 :: .cells b505 [.int .i64 z504] 3 :: .cells b138 [(.slice (some ⟨b38, 0, none⟩) (i64of y30.2).toNat (i64of y30.2).toNat)] 22 :: .row w.heap.size 3 (Rep.size Int) (.slice (some ⟨b38, 0, none⟩) (i64of y30.2).toNat (i64of y30.2).toNat) xs628.length cs629 :: .cells b5 [.int .i64 a0.fN, v0_1] 40 :: (defs Ds501 ++ [])) ++ L) cs629 xs628) (fun ⟨u627, xs628, cs629⟩ => (u627, xs628)) (u503, xs506, cs507) ho635 ⟨rfl, rfl, trivial⟩ ⟨hS539, Tr.refl _ _, hm626⟩ ?_
           rintro J638 ⟨u627, xs628, cs629⟩ wx630 hJ639 ⟨hS631, hT632, hc630⟩ h
           unfold graph_Distances_l1 at h
           try dsimp only at h
           refine MX.seq ?_
           refine MX.seq ?_
           refine MX.region ?_
           refine RG.val' .plain (FV.load1 (by kernel_rfl) rfl ((hS631.memA (.tl (.tl .hd))) 0 _ rfl)) rfl ?_
           refine RG.val' .plain (FV.neqU (a := u627) (b := (0 : UInt64)) rfl rfl) rfl ?_
           refine RG.nil ?_
           refine MX.ifn rfl h (fun c640 h => ?_) (fun c640 h => ?_)
           ·skip
            refine MX.exit rfl ?_
            have h := hh637 _ h
            try dsimp only at h
            refine MX.fin rfl ?_
            refine RT.leave (u := .tuple #[]) hb545 Tryd.func76 rfl .nil rfl ?_
            refine MX.endRange0 hS631 .hd (by intro h9; cases h9) (fun w641 hS642 hT643 => ?_)
            have hS644 : St _ _ (.obj D542 (.deferred (some [])) :: .cells b530 [.int .u64 (u627.toNat : Int)] 35 :: .cells b505 [.int .i64 z504] 3 :: .cells b138 [(.slice (some ⟨b38, 0, none⟩) (i64of y30.2).toNat (i64of y30.2).toNat)] 22 :: .row w.heap.size 3 (Rep.size Int) (.slice (some ⟨b38, 0, none⟩) (i64of y30.2).toNat (i64of y30.2).toNat) xs628.length cs629 :: .cells b5 [.int .i64 a0.fN, v0_1] 40 :: (defs Ds501 ++ [])) := hS642.arr2 (.one (.tl .hd) (.one (.tl .hd) (.one (.tl .hd) (.one (.tl .hd) (.one (.tl .hd) (.one (.tl .hd) (.drop .hd .rest)))))))
            have hT645 : Tr w641 _ w641 (.obj D542 (.deferred (some [])) :: .cells b530 [.int .u64 (u627.toNat : Int)] 35 :: .cells b505 [.int .i64 z504] 3 :: .cells b138 [(.slice (some ⟨b38, 0, none⟩) (i64of y30.2).toNat (i64of y30.2).toNat)] 22 :: .row w.heap.size 3 (Rep.size Int) (.slice (some ⟨b38, 0, none⟩) (i64of y30.2).toNat (i64of y30.2).toNat) xs628.length cs629 :: .cells b5 [.int .i64 a0.fN, v0_1] 40 :: (defs Ds501 ++ [])) := Tr.arr2 (St.arr2Of hS642 (.one (.tl .hd) (.one (.tl .hd) (.one (.tl .hd) (.one (.tl .hd) (.one (.tl .hd) (.one (.tl .hd) (.drop .hd .rest))))))))
            refine MX.inBlock ?_
            refine MX.seq ?_
            refine MX.region ?_
            refine RG.val' .plain (FV.loadN (cs := [.int .i64 a0.fN, v0_1]) (by kernel_rfl) rfl (hS644.memA (.tl (.tl (.tl (.tl (.tl .hd))))))) rfl ?_
            refine RG.val' .plain (FV.move rfl) rfl ?_
            obtain ⟨y646, hy646, h⟩ := bind_in h
            have hm647 := Rep.mv h0_1 (Tr.trans hT4 (Tr.trans hT20 (Tr.trans hT37 (Tr.trans hT44 (Tr.trans hT106 (Tr.trans hT137 (Tr.trans hT141 (Tr.trans hT146 (Tr.trans hT150 (Tr.trans hT499 (Tr.trans hT510 (Tr.trans hT537 (Tr.trans hT540 (Tr.trans hT632 (Tr.trans hT643 hT645)))))))))))))))
            refine RG.callq' (v := .int .u64 (y646.toNat : Int)) (fst := []) (cap := []) .plain body46 rfl (evs_cons rfl (evs_cons rfl evs_nil)) (fun w9 hw9 => graph_near_c n _ w9 (hS644.hL0 hL hw9) a0 (Rep.keep0 (Rep.dropO (O := (.obj D542 (.deferred (some [])) :: .cells b530 [.int .u64 (u627.toNat : Int)] 35 :: .cells b505 [.int .i64 z504] 3 :: .cells b138 [(.slice (some ⟨b38, 0, none⟩) (i64of y30.2).toNat (i64of y30.2).toNat)] 22 :: .row w.heap.size 3 (Rep.size Int) (.slice (some ⟨b38, 0, none⟩) (i64of y30.2).toNat (i64of y30.2).toNat) xs628.length cs629 :: .cells b5 [.int .i64 a0.fN, v0_1] 40 :: (defs Ds501 ++ []))) hm647) hw9) u502 (hG0.keep (hS644.ag.trans hw9)) hy646) rfl ?_
            refine RG.val' .plain (FV.move rfl) rfl ?_
            refine RG.val' .plain (FV.andU (a := y646) (b := a1) rfl rfl) rfl ?_
            refine RG.val' .plain (FV.assign rfl) rfl ?_
            refine RG.nil ?_
            refine MX.region ?_
            refine RG.val' .plain (FV.move rfl) rfl ?_
            refine RG.val' .plain (FV.move rfl) rfl ?_
            refine RG.val' .plain (FV.orU (a := u502) (b := y646 &&& a1) rfl rfl) rfl ?_
            refine RG.val' .plain (FV.assign rfl) rfl ?_
            refine RG.nil ?_
            refine MX.inBlock ?_
            refine MX.seq ?_
            refine MX.seq ?_
            refine MX.region ?_
            refine RG.val' .plain (FV.load1 (by kernel_rfl) rfl ((hS644.memA (.tl (.tl .hd))) 0 _ rfl)) rfl ?_
            refine RG.nil ?_
            refine MX.region ?_
            refine RG.new .plain rfl (Does.alloc (zs := [.int .i64 0]) hS644 (zB (by kernel_rfl))) (fun w649 b652 hS650 hT651 => ?_)
            refine RG.now .plain (Acts.store (j := 0) (old := [.int .i64 0]) (news := [.int .i64 z504]) (new' := [.int .i64 z504]) hS650 .hd rfl rfl rfl rfl rfl rfl (ones_cons rfl ones_nil) rfl) (fun w653 hS654 hT655 => ?_)
            refine RG.nil ?_
            refine MX.region ?_
            refine RG.val' .plain (FV.load1 (by kernel_rfl) rfl ((hS654.memA .hd) 0 _ rfl)) rfl ?_
            obtain ⟨s656, hs656, h⟩ := bind_in h
            refine RG.val' .plain (FV.addc (i := z504) (j := 1) rfl rfl hs656) rfl ?_
            refine RG.now .plain (Acts.store (j := 0) (old := [.int .i64 z504]) (news := [.int .i64 s656]) (new' := [.int .i64 s656]) hS654 .hd rfl rfl rfl rfl rfl rfl (ones_cons rfl ones_nil) rfl) (fun w657 hS658 hT659 => ?_)
            refine RG.nil ?_
            have hS660 : St _ _ (.cells b652 [.int .i64 s656] 3 :: .cells b138 [(.slice (some ⟨b38, 0, none⟩) (i64of y30.2).toNat (i64of y30.2).toNat)] 22 :: .row w.heap.size 3 (Rep.size Int) (.slice (some ⟨b38, 0, none⟩) (i64of y30.2).toNat (i64of y30.2).toNat) xs628.length cs629 :: .cells b5 [.int .i64 a0.fN, v0_1] 40 :: .obj D542 (.deferred (some [])) :: (defs Ds501 ++ [])) := hS658.arr2 (.one .hd (.one (.tl (.tl (.tl .hd))) (.one (.tl (.tl (.tl .hd))) (.one (.tl (.tl (.tl .hd))) (.one .hd (.drop .hd (.drop .hd .rest)))))))
            have hT661 : Tr w657 _ w657 (.cells b652 [.int .i64 s656] 3 :: .cells b138 [(.slice (some ⟨b38, 0, none⟩) (i64of y30.2).toNat (i64of y30.2).toNat)] 22 :: .row w.heap.size 3 (Rep.size Int) (.slice (some ⟨b38, 0, none⟩) (i64of y30.2).toNat (i64of y30.2).toNat) xs628.length cs629 :: .cells b5 [.int .i64 a0.fN, v0_1] 40 :: .obj D542 (.deferred (some [])) :: (defs Ds501 ++ [])) := Tr.arr2 (St.arr2Of hS658 (.one .hd (.one (.tl (.tl (.tl .hd))) (.one (.tl (.tl (.tl .hd))) (.one (.tl (.tl (.tl .hd))) (.one .hd (.drop .hd (.drop .hd .rest))))))))
            have hm662 := Cells.mv hc630 (Tr.trans hT643 (Tr.trans hT645 (Tr.trans hT651 (Tr.trans hT655 (Tr.trans hT659 hT661)))))
            exact hJ517 (u502 ||| (y646 &&& a1), y646 &&& a1, s656, xs628, (D542 :: Ds501), b652, cs629) _ _ _ ⟨rfl, rfl, rfl, rfl, rfl, rfl, trivial⟩ rfl ⟨hS660, (Tr.trans hT510 (Tr.trans hT537 (Tr.trans hT540 (Tr.trans hT632 (Tr.trans hT643 (Tr.trans hT645 (Tr.trans hT651 (Tr.trans hT655 (Tr.trans hT659 hT661))))))))), hm662⟩ h
           ·skip
            refine MX.skip ?_
            refine MX.seq ?_
            refine MX.block ?_
            refine MX.seq ?_
            refine MX.region ?_
            refine RG.val' .plain (FV.move rfl) rfl ?_
            refine RG.val' .plain (FV.load1 (by kernel_rfl) rfl ((hS631.memA (.tl (.tl .hd))) 0 _ rfl)) rfl ?_
            obtain ⟨y663, hy663, h⟩ := bind_in h
            refine RG.callq' (v := .int .i64 y663) (fst := []) (cap := []) .plain body77 rfl (evs_cons rfl evs_nil) (fun w9 hw9 => math_bits_TrailingZeros64_c n _ w9 (hS631.hL0 hL hw9) u627 (hG0.keep (hS631.ag.trans hw9)) hy663) rfl ?_
            refine RG.yield (vs := [.int .i64 y663]) .plain rfl (evs_cons rfl evs_nil) hS631 .hd rec544 rfl rfl rfl (fun cs665 hb664 => ?_)
            refine MX.region ?_
            refine RG.val' .plain (FV.assign rfl) rfl ?_
            refine RG.nil ?_
            refine MX.begin hS631 .hd (fun w666 hS667 hT668 => ?_)
            refine MX.block ?_
            refine MX.region ?_
            refine RG.val' .plain (FV.load1 (by kernel_rfl) rfl ((hS667.memA (.tl (.tl (.tl (.tl .hd))))) 0 _ rfl)) rfl ?_
            refine RG.val' .plain (FV.move rfl) rfl ?_
            refine RG.val' .plain (FV.load1 (by kernel_rfl) rfl ((hS667.memA (.tl (.tl (.tl .hd)))) 0 _ rfl)) rfl ?_
            obtain ⟨x669, hx669, h⟩ := bind_in h
            obtain ⟨hi670, hx671⟩ := idx_in hx669
            have hm679 := Cells.mv hc630 hT668
            obtain ⟨A672, c673, he674, hk675, cs676, hr677, hm678⟩ := St.nth (α := Int) hS667 (.tl (.tl (.tl (.tl (.tl .hd))))) hm679 hx671
            obtain ⟨b680, c681, he682⟩ := St.nthOwn (α := Int) hS667 (.tl (.tl (.tl (.tl (.tl .hd))))) hk675
            obtain rfl : A672 = ⟨b680, 0, none⟩ := by rw [he682] at he674; cases he674; rfl
            have he683 : cs676 = [.int .i64 x669] := hr677; subst he683
            refine RG.val' .plain (FV.idxAddr (m := 1) (i := y663.toNat) (by kernel_rfl) rfl he674 rfl hi670 hk675) rfl ?_
            obtain ⟨xs684, hxs684, h⟩ := bind_in h
            refine RG.acts' .plain (Acts.set (α := Int) (i := y663.toNat) (F := fun cs' => (.obj lk541 (lpO r543 .busy none) :: .obj D542 (.deferred (some [])) :: .cells b530 [.int .u64 (u627.toNat : Int)] 35 :: .cells b505 [.int .i64 z504] 3 :: .cells b138 [(.slice (some ⟨b38, 0, none⟩) (i64of y30.2).toNat (i64of y30.2).toNat)] 22 :: .row w.heap.size 3 (Rep.size Int) (.slice (some ⟨b38, 0, none⟩) (i64of y30.2).toNat (i64of y30.2).toNat) xs684.length cs' :: .cells b5 [.int .i64 a0.fN, v0_1] 40 :: (defs Ds501 ++ []))) hxs684 hS667 he682 (fun _ => (.tl (.tl (.tl (.tl (.tl .hd)))))) hm679 rfl rfl rfl rfl rfl (by kernel_rfl)) (fun w685 ⟨cs689, hS686, hT687, hc688⟩ => ?_)
            refine RG.nil ?_
            refine MX.inBlock ?_
            refine MX.roundEnd hb664 hS686 .hd (fun w690 hS691 hT692 => ?_)
            refine RG.val' .plain (FV.not rfl) rfl ?_
            refine RG.nil ?_
            refine MX.cond_f rfl ?_
            refine MX.skip ?_
            refine MX.inBlock ?_
            refine MX.region ?_
            refine RG.val' .plain (FV.load1 (by kernel_rfl) rfl ((hS691.memA (.tl (.tl .hd))) 0 _ rfl)) rfl ?_
            refine RG.val' .plain (FV.load1 (by kernel_rfl) rfl ((hS691.memA (.tl (.tl .hd))) 0 _ rfl)) rfl ?_
            refine RG.val' .plain (FV.subU (a := u627) (b := (1 : UInt64)) rfl rfl) rfl ?_
            refine RG.val' .plain (FV.andU (a := u627) (b := u627 - (1 : UInt64)) rfl rfl) rfl ?_
            refine RG.now .plain (Acts.store (j := 0) (old := [.int .u64 (u627.toNat : Int)]) (news := [.int .u64 ((u627 &&& (u627 - (1 : UInt64))).toNat : Int)]) (new' := [.int .u64 ((u627 &&& (u627 - (1 : UInt64))).toNat : Int)]) hS691 (.tl (.tl .hd)) rfl rfl rfl rfl rfl rfl (ones_cons rfl ones_nil) rfl) (fun w693 hS694 hT695 => ?_)
            refine RG.nil ?_
            have hm696 := Cells.mv hc688 (Tr.trans hT692 hT695)
            exact hJ639 (u627 &&& (u627 - (1 : UInt64)), xs684, cs689) _ _ ⟨rfl, rfl, trivial⟩ ⟨hS694, (Tr.trans hT632 (Tr.trans hT668 (Tr.trans hT687 (Tr.trans hT692 hT695)))), hm696⟩ h
     ·skip
      refine MX.seq ?_
      refine MX.region ?_
      refine RG.val' .plain (FV.assign rfl) rfl ?_
      refine RG.val' .plain (FV.assign rfl) rfl ?_
      refine RG.nil ?_
      refine MX.ret rfl ?_
      have hr697 : Rep.R w2 (bl [.cells b5 [.int .i64 a0.fN, v0_1] 40] ++ L) [.slice none 0 0] ([] : List Int) := Rep.nilSlice _ _
      refine RT.leave (u := .tuple #[.slice none 0 0, .int .i64 2]) hb0 Tryd.func24 rfl (.cons (.tmp rfl) (.cons (.tmp rfl) .nil)) rfl ?_
      obtain rfl := Option.some.inj h
      have hr698 : Rep.R w2 (bl [.cells b5 [.int .i64 a0.fN, v0_1] 40] ++ L) [.slice none 0 0] ([] : List Int) := Rep.nilSlice _ _
      exact ⟨hS3.ag, fun w9 hw9 => ⟨(.slice none 0 0), rfl, Rep.keep0 (Rep.dropO (O := [.cells b5 [.int .i64 a0.fN, v0_1] 40]) hr698) hw9⟩⟩
  ·skip
   refine MX.seq ?_
   refine MX.region ?_
   refine RG.val' .plain (FV.move rfl) rfl ?_
   refine RG.val' .plain (FV.assign rfl) rfl ?_
   refine RG.val' .plain (FV.assign rfl) rfl ?_
   refine RG.nil ?_
   refine MX.ret rfl ?_
   have hr699 : Rep.R w2 (bl [.cells b5 [.int .i64 a0.fN, v0_1] 40] ++ L) [.slice none 0 0] ([] : List Int) := Rep.nilSlice _ _
   refine RT.leave (u := .tuple #[.slice none 0 0, .int .i64 y6]) hb0 Tryd.func24 rfl (.cons (.tmp rfl) (.cons (.tmp rfl) .nil)) rfl ?_
   obtain rfl := Option.some.inj h
   have hr700 : Rep.R w2 (bl [.cells b5 [.int .i64 a0.fN, v0_1] 40] ++ L) [.slice none 0 0] ([] : List Int) := Rep.nilSlice _ _
   exact ⟨hS3.ag, fun w9 hw9 => ⟨(.slice none 0 0), rfl, Rep.keep0 (Rep.dropO (O := [.cells b5 [.int .i64 a0.fN, v0_1] 40]) hr700) hw9⟩⟩
end Go.Proofs.YtplkfbljncfdnaaDoor
