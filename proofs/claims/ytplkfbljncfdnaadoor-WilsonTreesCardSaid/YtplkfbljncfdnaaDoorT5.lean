/- Functions of the program, and what they give: part 5. -/
import Derived.Test.YtplkfbljncfdnaaDoorT4
namespace Go.Proofs.YtplkfbljncfdnaaDoor
open Go Go.RowKit

theorem el38 : ElT Tryd.prog 38 46 (Rep.size (Int × Int)) 16 (.agg #[.int .i64 0, .int .i64 0]) [.int .i64 0, .int .i64 0] := ⟨Tryd.underlying38, by kernel_rfl, rfl, rfl, rfl, rfl⟩
def wardmotelaw31_ring_p (n : Nat) : Option TGraph :=
  some (⟨4, ([(0, 1), (0, 3), (1, 2), (2, 3)] : List (Int × Int))⟩ : TGraph)
set_option maxRecDepth 4000 in
set_option maxHeartbeats 4000000 in
theorem wardmotelaw31_ring_c (n : Nat) (L : List Nat) (w : World) (hL : ∀ b ∈ L, b < w.heap.size)  {r : TGraph} (h : wardmotelaw31_ring_p n = some r) :
    Calls Tryd.prog 18 #[] w (Gives w fun w' u => ∃ v0_1 : Value, u = .agg #[.int .i64 r.fN, v0_1] ∧ Rep.R w' L [v0_1] r.fEdges) := by
  unfold wardmotelaw31_ring_p at h
  have hS0 := St.start w
  refine MX.start Tryd.func18 rfl rfl rfl (fun _ cs0 hb0 => ?_)
  refine MX.seq ?_
  refine MX.region ?_
  refine RG.new .plain rfl (Does.alloc (zs := [.int .i64 0, .slice none 0 0]) hS0 (zB (by kernel_rfl))) (fun w2 b5 hS3 hT4 => ?_)
  refine RG.nil ?_
  refine MX.seq ?_
  refine MX.region ?_
  refine RG.val' .plain (FV.buildV (vs := [.int .i64 0, .int .i64 1]) (u := .agg #[.int .i64 0, .int .i64 1]) (evs_cons rfl (evs_cons rfl evs_nil)) (fun w9 => by kernel_rfl)) rfl ?_
  refine RG.val' .plain (FV.buildV (vs := [.int .i64 0, .int .i64 3]) (u := .agg #[.int .i64 0, .int .i64 3]) (evs_cons rfl (evs_cons rfl evs_nil)) (fun w9 => by kernel_rfl)) rfl ?_
  refine RG.val' .plain (FV.buildV (vs := [.int .i64 1, .int .i64 2]) (u := .agg #[.int .i64 1, .int .i64 2]) (evs_cons rfl (evs_cons rfl evs_nil)) (fun w9 => by kernel_rfl)) rfl ?_
  refine RG.val' .plain (FV.buildV (vs := [.int .i64 2, .int .i64 3]) (u := .agg #[.int .i64 2, .int .i64 3]) (evs_cons rfl (evs_cons rfl evs_nil)) (fun w9 => by kernel_rfl)) rfl ?_
  refine RG.new .plain rfl (Does.build (α := Int × Int) (xs := ([(0, 1), (0, 3), (1, 2), (2, 3)] : List (Int × Int))) (vs := [.agg #[.int .i64 0, .int .i64 1], .agg #[.int .i64 0, .int .i64 3], .agg #[.int .i64 1, .int .i64 2], .agg #[.int .i64 2, .int .i64 3]]) (ds' := [.int .i64 0, .int .i64 1, .int .i64 0, .int .i64 3, .int .i64 1, .int .i64 2, .int .i64 2, .int .i64 3]) rfl hS3 el38 rfl (evs_cons rfl (evs_cons rfl (evs_cons rfl (evs_cons rfl evs_nil)))) (by kernel_rfl) rfl) (fun w7 b10 hS8 hT9 => ?_)
  have hc11 : Cells w7 (bl [.row w.heap.size 46 (Rep.size (Int × Int)) (.slice (some ⟨b10, 0, none⟩) 4 4) (([(0, 1), (0, 3), (1, 2), (2, 3)] : List (Int × Int)).length) [.int .i64 0, .int .i64 1, .int .i64 0, .int .i64 3, .int .i64 1, .int .i64 2, .int .i64 2, .int .i64 3], .cells b5 [.int .i64 0, .slice none 0 0] 40] ++ L) [.int .i64 0, .int .i64 1, .int .i64 0, .int .i64 3, .int .i64 1, .int .i64 2, .int .i64 2, .int .i64 3] (([(0, 1), (0, 3), (1, 2), (2, 3)] : List (Int × Int)) : List (Int × Int)) := Cells.cons (cs := [.int .i64 0, .int .i64 1]) (ds := [.int .i64 0, .int .i64 3, .int .i64 1, .int .i64 2, .int .i64 2, .int .i64 3]) (mk_A46 0 1) (Cells.cons (cs := [.int .i64 0, .int .i64 3]) (ds := [.int .i64 1, .int .i64 2, .int .i64 2, .int .i64 3]) (mk_A46 0 3) (Cells.cons (cs := [.int .i64 1, .int .i64 2]) (ds := [.int .i64 2, .int .i64 3]) (mk_A46 1 2) (Cells.cons (cs := [.int .i64 2, .int .i64 3]) (ds := []) (mk_A46 2 3) (Cells.nil _ _))))
  refine RG.val' .plain (FV.buildV (vs := [.int .i64 4, (.slice (some ⟨b10, 0, none⟩) 4 4)]) (u := .agg #[.int .i64 4, (.slice (some ⟨b10, 0, none⟩) 4 4)]) (evs_cons rfl (evs_cons rfl evs_nil)) (fun w9 => by kernel_rfl)) rfl ?_
  refine RG.now .plain (Acts.store (j := 0) (old := [.int .i64 0, .slice none 0 0]) (news := [.int .i64 4, (.slice (some ⟨b10, 0, none⟩) 4 4)]) (new' := [.int .i64 4, (.slice (some ⟨b10, 0, none⟩) 4 4)]) hS8 (.tl .hd) rfl rfl rfl rfl rfl rfl (ones_cons rfl (ones_cons (St.o1 (α := Int × Int) hS8 .hd) ones_nil)) rfl) (fun w12 hS13 hT14 => ?_)
  refine RG.nil ?_
  refine MX.ret rfl ?_
  have hm18 := Cells.mv hc11 hT14
  have hr15 := St.freeze (α := Int × Int) hS13 .hd hm18 hL
  have hS16 := hS13.del (.hd : Out _ _ _).del
  have hT17 := Tr.del (w := w12) (.hd : Out [.row w.heap.size 46 (Rep.size (Int × Int)) (.slice (some ⟨b10, 0, none⟩) 4 4) (([(0, 1), (0, 3), (1, 2), (2, 3)] : List (Int × Int)).length) [.int .i64 0, .int .i64 1, .int .i64 0, .int .i64 3, .int .i64 1, .int .i64 2, .int .i64 2, .int .i64 3], .cells b5 [.int .i64 4, (.slice (some ⟨b10, 0, none⟩) 4 4)] 40] _ _).del
  have hr19 : Rep.R w12 (bl [.cells b5 [.int .i64 4, (.slice (some ⟨b10, 0, none⟩) 4 4)] 40] ++ L) [(.slice (some ⟨b10, 0, none⟩) 4 4)] ([(0, 1), (0, 3), (1, 2), (2, 3)] : List (Int × Int)) := hr15
  refine RT.leave (u := .agg #[.int .i64 4, (.slice (some ⟨b10, 0, none⟩) 4 4)]) hb0 Tryd.func18 rfl (.cons (.many (cs := [.int .i64 4, (.slice (some ⟨b10, 0, none⟩) 4 4)]) (by kernel_rfl) rfl (hS16.memA .hd)) .nil) rfl ?_
  obtain rfl := Option.some.inj h
  exact ⟨hS16.ag, fun w9 hw9 => ⟨(.slice (some ⟨b10, 0, none⟩) 4 4), rfl, Rep.keep0 (Rep.dropO (O := [.cells b5 [.int .i64 4, (.slice (some ⟨b10, 0, none⟩) 4 4)] 40]) hr19) hw9⟩⟩
def wardmotelaw31_fails_1_p (n : Nat) (a0 : List Int) (a1 : Int) (a2 : Int) : Option Bool :=
  (if a0.length = 0 then some (decide (a1 = a2)) else some false)
set_option maxRecDepth 4000 in
set_option maxHeartbeats 4000000 in
theorem wardmotelaw31_fails_1_c (n : Nat) (L : List Nat) (w : World) (hL : ∀ b ∈ L, b < w.heap.size) (a0 : List Int) {v0_0 : Value} (h0_0 : Rep.R w L [v0_0] a0) (a1 : Int) (a2 : Int) {p2 : Nat} (m2 : ∀ j9 v9, ([.int .i64 a2] : List Value)[j9]? = some v9 → w.cell? ((⟨p2, 0, none⟩ : Addr).add j9) = some v9)  {r : Bool} (h : wardmotelaw31_fails_1_p n a0 a1 a2 = some r) :
    Calls Tryd.prog 37 #[v0_0, .int .i64 a1, .pointer (some ⟨p2, 0, none⟩)] w (Gives w fun w' u => u = .bool r) := by
  unfold wardmotelaw31_fails_1_p at h
  have hS0 := St.start w
  refine MX.start Tryd.func37 rfl rfl rfl (fun _ cs0 hb0 => ?_)
  refine MX.seq ?_
  refine MX.region ?_
  refine RG.val' .plain (FV.assign rfl) rfl ?_
  refine RG.nil ?_
  refine MX.seq ?_
  refine MX.region ?_
  refine RG.val' .plain (FV.move rfl) rfl ?_
  have hl1 : a0.length ≤ 281474976710656 := Rep.lenle h0_0
  refine RG.val' .plain (FV.len (xs := a0) Tryd.underlying22 rfl h0_0) rfl ?_
  refine RG.val' .plain (FV.eqlN (i := a0.length) (j := 0) rfl rfl) rfl ?_
  refine RG.val' .plain (FV.move rfl) rfl ?_
  refine RG.ifd (s := 9) rfl h (fun c2 h => ?_) (fun c2 h => ?_)
  ·skip
   refine RG.val' (.yes rfl rfl) (FV.move rfl) rfl ?_
   refine RG.val' (.yes rfl rfl) (FV.load1 (by kernel_rfl) rfl ((fun j9 v9 h9 => hS0.ag.cell0 (m2 j9 v9 h9)) 0 _ rfl)) rfl ?_
   refine RG.val' (.yes rfl rfl) (FV.eql (i := a1) (j := a2) rfl rfl) rfl ?_
   refine RG.val' .plain (FV.pick_t rfl rfl) rfl ?_
   refine RG.val' .plain (FV.assign rfl) rfl ?_
   refine RG.nil ?_
   refine MX.ret rfl ?_
   refine RT.leave (u := .bool (decide (a1 = a2))) hb0 Tryd.func37 rfl (.cons (.tmp rfl) .nil) rfl ?_
   obtain rfl := Option.some.inj h
   exact ⟨hS0.ag, fun w9 hw9 => rfl⟩
  ·skip
   refine RG.off (.no rfl rfl) rfl ?_
   refine RG.off (.no rfl rfl) rfl ?_
   refine RG.off (.no rfl rfl) rfl ?_
   refine RG.val' .plain (FV.pick_f rfl rfl) rfl ?_
   refine RG.val' .plain (FV.assign rfl) rfl ?_
   refine RG.nil ?_
   refine MX.ret rfl ?_
   refine RT.leave (u := .bool false) hb0 Tryd.func37 rfl (.cons (.tmp rfl) .nil) rfl ?_
   obtain rfl := Option.some.inj h
   exact ⟨hS0.ag, fun w9 hw9 => rfl⟩
set_option maxRecDepth 4000 in
set_option maxHeartbeats 4000000 in
theorem wardmotelaw31_fails_c (n : Nat) (L : List Nat) (w : World) (hL : ∀ b ∈ L, b < w.heap.size) (a0 : Int)  :
    Calls Tryd.prog 19 #[.int .i64 a0] w (Gives w fun w' u => ∃ b5 : Nat, u = .func (.func 37) #[] #[.pointer (some ⟨b5, 0, none⟩)] ∧ St w w' [.cells b5 [.int .i64 a0] 27]) := by
  have hS0 := St.start w
  refine MX.start Tryd.func19 rfl rfl rfl (fun _ cs0 hb0 => ?_)
  refine MX.seq ?_
  refine MX.region ?_
  refine RG.new .plain rfl (Does.box (vs := [.int .i64 a0]) hS0 rfl rfl) (fun w2 b5 hS3 hT4 => ?_)
  refine RG.val' .plain (FV.assign rfl) rfl ?_
  refine RG.nil ?_
  refine MX.seq ?_
  refine MX.region ?_
  refine RG.val' .plain (FV.makeFunc (vs := []) (us := [.pointer (some ⟨b5, 0, none⟩)]) evs_nil (evs_cons rfl evs_nil)) rfl ?_
  refine RG.val' .plain (FV.assign rfl) rfl ?_
  refine RG.nil ?_
  refine MX.ret rfl ?_
  refine RT.leave (u := .func (.func 37) #[] #[.pointer (some ⟨b5, 0, none⟩)]) hb0 Tryd.func19 rfl (.cons (.tmp rfl) .nil) rfl ?_
  exact ⟨hS3.ag, fun w9 hw9 => ⟨b5, rfl, hS3.agree hw9⟩⟩
def tb12_6 : List (Nat × Nat × Nat) := [(0, 65536, 1), (0, 131072, 32), (3, 262144, 196608), (4, 524288, 262144), (0, 1048576, 2), (0, 2097152, 32), (48, 4194304, 3145728), (64, 8388608, 4194304), (136, 16777216, 8912896)]
def slices_Equal_int_int_l1 (n : Nat) (a0 : List Int) (a1 : List Int) (J40 : Nat → Option (Bool ⊕ Unit)) : Nat → Option (Bool ⊕ Unit)
  | i32 => (if i32 < a0.length then (a0[i32]?).bind fun x45 => (a1[i32]?).bind fun x55 => (if x45 = x55 then J40 (i32 + 1) else some (.inl false)) else some (.inr ()))
def slices_Equal_int_int_p (n : Nat) (a0 : List Int) (a1 : List Int) : Option Bool :=
  (if a0.length = a1.length then thn (loopF (slices_Equal_int_int_l1 n a0 a1) n 0) (fun _ => some true) else some false)
set_option maxRecDepth 4000 in
set_option maxHeartbeats 4000000 in
theorem slices_Equal_int_int_c (n : Nat) (L : List Nat) (w : World) (hL : ∀ b ∈ L, b < w.heap.size) (a0 : List Int) {v0_0 : Value} (h0_0 : Rep.R w L [v0_0] a0) (a1 : List Int) {v1_0 : Value} (h1_0 : Rep.R w L [v1_0] a1)  {r : Bool} (h : slices_Equal_int_int_p n a0 a1 = some r) :
    Calls Tryd.prog 12 #[v0_0, v1_0] w (Gives w fun w' u => u = .bool r) := by
  unfold slices_Equal_int_int_p at h
  have hS0 := St.start w
  refine MX.start Tryd.func12 rfl rfl rfl (fun _ cs0 hb0 => ?_)
  refine MX.seq ?_
  refine MX.region ?_
  refine RG.val' .plain (FV.assign rfl) rfl ?_
  refine RG.nil ?_
  refine MX.seq ?_
  refine MX.seq ?_
  refine MX.region ?_
  refine RG.val' .plain (FV.move rfl) rfl ?_
  have hl1 : a0.length ≤ 281474976710656 := Rep.lenle h0_0
  refine RG.val' .plain (FV.len (xs := a0) Tryd.underlying22 rfl h0_0) rfl ?_
  refine RG.val' .plain (FV.move rfl) rfl ?_
  have hl2 : a1.length ≤ 281474976710656 := Rep.lenle h1_0
  refine RG.val' .plain (FV.len (xs := a1) Tryd.underlying22 rfl h1_0) rfl ?_
  refine RG.val' .plain (FV.neqN (i := a0.length) (j := a1.length) rfl rfl) rfl ?_
  refine RG.nil ?_
  refine MX.ifn rfl h (fun c3 h => ?_) (fun c3 h => ?_)
  ·skip
   refine MX.skip ?_
   refine MX.seq ?_
   refine MX.seq ?_
   refine MX.region ?_
   refine RG.val' .plain (FV.move rfl) rfl ?_
   refine RG.val' .plain (FV.len (xs := a0) Tryd.underlying22 rfl h0_0) rfl ?_
   refine RG.val' .plain (FV.move rfl) rfl ?_
   refine RG.nil ?_
   refine MX.block ?_
   obtain ⟨o38, ho37, hh39⟩ := thn_in h
   refine MX.loop (α := Nat) (fun i32 => [(0, v0_0), (1, v1_0), (12, .int .i64 ((a0.length : Nat) : Int)), (13, .int .i64 ((i32 : Nat) : Int))]) (fun i32 wx32 => St w wx32 [] ∧ Tr w [] wx32 []) (fun i32 => i32) 0 ho37 ⟨rfl, rfl, rfl, rfl, trivial⟩ ⟨hS0, Tr.refl _ _⟩ ?_
   rintro J40 i32 wx32 hJ41 ⟨hS33, hT34⟩ h
   unfold slices_Equal_int_int_l1 at h
   try dsimp only at h
   refine MX.seq ?_
   refine MX.region ?_
   refine RG.val' .plain (FV.lssN (i := i32) (j := a0.length) rfl rfl) rfl ?_
   refine RG.nil ?_
   refine MX.seq ?_
   refine MX.ifd rfl h (fun c42 h => ?_) (fun c42 h => ?_)
   ·skip
    refine MX.skip ?_
    refine MX.seq ?_
    refine MX.block ?_
    refine MX.seq ?_
    refine MX.region ?_
    refine RG.val' .plain (FV.move rfl) rfl ?_
    refine RG.val' .plain (FV.assign rfl) rfl ?_
    refine RG.nil ?_
    refine MX.seq ?_
    refine MX.drawT 9 tb12_6 (by kernel_rfl) (by kernel_rfl) (by kernel_rfl) (fun kt43 kp44 => ?_)
    refine RD.vP 0 1 kt43 rfl kp44 .plain (fun _ => FV.move rfl) rfl ?_
    refine RD.vP 1 3 kt43 rfl kp44 .plain (fun _ => FV.move rfl) rfl ?_
    obtain ⟨x45, hx45, h⟩ := bind_in h
    have hm53 := Rep.mv h0_0 hT34
    obtain ⟨A46, c47, he48, hk49, cs50, hr51, hm52⟩ := Rep.nth hm53 hx45
    have he54 : cs50 = [.int .i64 x45] := hr51; subst he54
    refine RD.vP 2 7 kt43 rfl kp44 .plain (fun _ => FV.idxAddr (m := 1) (i := i32) (by kernel_rfl) rfl he48 rfl rfl hk49) rfl ?_
    refine RD.val (i := 3) (m' := 15) (W := 256) (takeC_ok kt43 (by kernel_rfl)) rfl kp44 .plain (FV.load1 (by kernel_rfl) rfl (hm52 0 _ rfl)) rfl ?_
    refine RD.vP 4 31 kt43 rfl kp44 .plain (fun _ => FV.move rfl) rfl ?_
    refine RD.vP 5 63 kt43 rfl kp44 .plain (fun _ => FV.move rfl) rfl ?_
    obtain ⟨x55, hx55, h⟩ := bind_in h
    have hm63 := Rep.mv h1_0 hT34
    obtain ⟨A56, c57, he58, hk59, cs60, hr61, hm62⟩ := Rep.nth hm63 hx55
    have he64 : cs60 = [.int .i64 x55] := hr61; subst he64
    refine RD.vP 6 127 kt43 rfl kp44 .plain (fun _ => FV.idxAddr (m := 1) (i := i32) (by kernel_rfl) rfl he58 rfl rfl hk59) rfl ?_
    refine RD.val (i := 7) (m' := 255) (W := 256) (takeC_ok kt43 (by kernel_rfl)) rfl kp44 .plain (FV.load1 (by kernel_rfl) rfl (hm62 0 _ rfl)) rfl ?_
    refine RD.vP 8 511 kt43 rfl kp44 .plain (fun _ => FV.neq (i := x45) (j := x55) rfl rfl) rfl ?_
    refine RD.done (doneD_ok kt43 (by kernel_rfl)) ?_
    refine MX.ifn rfl h (fun c65 h => ?_) (fun c65 h => ?_)
    ·skip
     refine MX.skip ?_
     refine MX.inBlock ?_
     refine MX.region ?_
     refine RG.val' .plain (FV.addN (i := i32) (j := 1) rfl rfl (by omega)) rfl ?_
     refine RG.val' .plain (FV.move rfl) rfl ?_
     refine RG.nil ?_
     exact hJ41 (i32 + 1) _ _ ⟨rfl, rfl, rfl, rfl, trivial⟩ ⟨hS33, hT34⟩ h
    ·skip
     refine MX.seq ?_
     refine MX.region ?_
     refine RG.val' .plain (FV.assign rfl) rfl ?_
     refine RG.nil ?_
     have h := thn_inl h hh39
     refine MX.ret rfl ?_
     refine RT.leave (u := .bool false) hb0 Tryd.func12 rfl (.cons (.tmp rfl) .nil) rfl ?_
     obtain rfl := Option.some.inj h
     exact ⟨hS33.ag, fun w9 hw9 => rfl⟩
   ·skip
    refine MX.exit rfl ?_
    have h := thn_inr h hh39
    try dsimp only at h
    refine MX.seq ?_
    refine MX.region ?_
    refine RG.val' .plain (FV.assign rfl) rfl ?_
    refine RG.nil ?_
    refine MX.ret rfl ?_
    refine RT.leave (u := .bool true) hb0 Tryd.func12 rfl (.cons (.tmp rfl) .nil) rfl ?_
    obtain rfl := Option.some.inj h
    exact ⟨hS33.ag, fun w9 hw9 => rfl⟩
  ·skip
   refine MX.seq ?_
   refine MX.region ?_
   refine RG.val' .plain (FV.assign rfl) rfl ?_
   refine RG.nil ?_
   refine MX.ret rfl ?_
   refine RT.leave (u := .bool false) hb0 Tryd.func12 rfl (.cons (.tmp rfl) .nil) rfl ?_
   obtain rfl := Option.some.inj h
   exact ⟨hS0.ag, fun w9 hw9 => rfl⟩
theorem body12 : bodyB Tryd.prog 12 = true := by kernel_rfl
def wardmotelaw31_lists_1_p (n : Nat) (a0 : List Int) (a1 : Int) (a2 : List Int) : Option Bool :=
  (slices_Equal_int_int_p n a0 a2).bind fun y1 => (if y1 = true then some (decide (a1 = 0)) else some false)
set_option maxRecDepth 4000 in
set_option maxHeartbeats 4000000 in
theorem wardmotelaw31_lists_1_c (n : Nat) (L : List Nat) (w : World) (hL : ∀ b ∈ L, b < w.heap.size) (a0 : List Int) {v0_0 : Value} (h0_0 : Rep.R w L [v0_0] a0) (a1 : Int) (a2 : List Int) {v2_0 : Value} (h2_0 : Rep.R w L [v2_0] a2) {p2 : Nat} (m2 : ∀ j9 v9, ([v2_0] : List Value)[j9]? = some v9 → w.cell? ((⟨p2, 0, none⟩ : Addr).add j9) = some v9)  {r : Bool} (h : wardmotelaw31_lists_1_p n a0 a1 a2 = some r) :
    Calls Tryd.prog 38 #[v0_0, .int .i64 a1, .pointer (some ⟨p2, 0, none⟩)] w (Gives w fun w' u => u = .bool r) := by
  unfold wardmotelaw31_lists_1_p at h
  have hS0 := St.start w
  refine MX.start Tryd.func38 rfl rfl rfl (fun _ cs0 hb0 => ?_)
  refine MX.seq ?_
  refine MX.region ?_
  refine RG.val' .plain (FV.assign rfl) rfl ?_
  refine RG.nil ?_
  refine MX.seq ?_
  refine MX.region ?_
  refine RG.val' .plain (FV.move rfl) rfl ?_
  refine RG.val' .plain (FV.load1 (by kernel_rfl) rfl ((fun j9 v9 h9 => hS0.ag.cell0 (m2 j9 v9 h9)) 0 _ rfl)) rfl ?_
  obtain ⟨y1, hy1, h⟩ := bind_in h
  refine RG.callq' (v := .bool y1) (fst := []) (cap := []) .plain body12 rfl (evs_cons rfl (evs_cons rfl evs_nil)) (fun w9 hw9 => slices_Equal_int_int_c n _ w9 (hS0.hL0 hL hw9) a0 (Rep.keep0 (Rep.dropO (O := []) h0_0) hw9) a2 (Rep.keep0 (Rep.dropO (O := []) h2_0) hw9) hy1) rfl ?_
  refine RG.val' .plain (FV.move rfl) rfl ?_
  refine RG.ifb (s := 9) rfl h (fun c2 h => ?_) (fun c2 h => ?_)
  ·skip
   refine RG.val' (.yes rfl rfl) (FV.move rfl) rfl ?_
   refine RG.val' (.yes rfl rfl) (FV.eql (i := a1) (j := 0) rfl rfl) rfl ?_
   refine RG.val' .plain (FV.pick_t rfl rfl) rfl ?_
   refine RG.val' .plain (FV.assign rfl) rfl ?_
   refine RG.nil ?_
   refine MX.ret rfl ?_
   refine RT.leave (u := .bool (decide (a1 = 0))) hb0 Tryd.func38 rfl (.cons (.tmp rfl) .nil) rfl ?_
   obtain rfl := Option.some.inj h
   exact ⟨hS0.ag, fun w9 hw9 => rfl⟩
  ·skip
   refine RG.off (.no rfl rfl) rfl ?_
   refine RG.off (.no rfl rfl) rfl ?_
   refine RG.val' .plain (FV.pick_f rfl rfl) rfl ?_
   refine RG.val' .plain (FV.assign rfl) rfl ?_
   refine RG.nil ?_
   refine MX.ret rfl ?_
   refine RT.leave (u := .bool false) hb0 Tryd.func38 rfl (.cons (.tmp rfl) .nil) rfl ?_
   obtain rfl := Option.some.inj h
   exact ⟨hS0.ag, fun w9 hw9 => rfl⟩
set_option maxRecDepth 4000 in
set_option maxHeartbeats 4000000 in
theorem wardmotelaw31_lists_c (n : Nat) (L : List Nat) (w : World) (hL : ∀ b ∈ L, b < w.heap.size) (a0 : List Int) {v0_0 : Value} (h0_0 : Rep.R w L [v0_0] a0)  :
    Calls Tryd.prog 20 #[v0_0] w (Gives w fun w' u => ∃ b5 : Nat, u = .func (.func 38) #[] #[.pointer (some ⟨b5, 0, none⟩)] ∧ St w w' [.cells b5 [v0_0] 22]) := by
  have hS0 := St.start w
  refine MX.start Tryd.func20 rfl rfl rfl (fun _ cs0 hb0 => ?_)
  refine MX.seq ?_
  refine MX.region ?_
  refine RG.new .plain rfl (Does.box (vs := [v0_0]) hS0 rfl (Rep.c1 h0_0)) (fun w2 b5 hS3 hT4 => ?_)
  refine RG.val' .plain (FV.assign rfl) rfl ?_
  refine RG.nil ?_
  refine MX.seq ?_
  refine MX.region ?_
  refine RG.val' .plain (FV.makeFunc (vs := []) (us := [.pointer (some ⟨b5, 0, none⟩)]) evs_nil (evs_cons rfl evs_nil)) rfl ?_
  refine RG.val' .plain (FV.assign rfl) rfl ?_
  refine RG.nil ?_
  refine MX.ret rfl ?_
  refine RT.leave (u := .func (.func 38) #[] #[.pointer (some ⟨b5, 0, none⟩)]) hb0 Tryd.func20 rfl (.cons (.tmp rfl) .nil) rfl ?_
  exact ⟨hS3.ag, fun w9 hw9 => ⟨b5, rfl, hS3.agree hw9⟩⟩
theorem eql1U_37 (a b : UInt64) (w9 : World) : (do eqGuard .eql 37 (.tmp 0) (.tmp 0) (.agg #[.int .u64 (a.toNat : Int)]) (.agg #[.int .u64 (b.toNat : Int)]); binOp .eql 37 (.agg #[.int .u64 (a.toNat : Int)]) (.agg #[.int .u64 (b.toNat : Int)]) : Sem Value).run Tryd.prog w9 = .ok (.bool (decide (a = b))) w9 := eqStr1 Tryd.underlying37 rfl rfl (by kernel_rfl) Tryd.underlying35 (by kernel_rfl) (by kernel_rfl) a b _ _ w9
def wardmotelaw31_stops_1_p (n : Nat) (a0 : List Int) (a1 : TChance) (a2 : Int) (a3 : Int) : Option Bool :=
  (if a0.length = 0 then (if a1.fState = (0 : UInt64) then some (decide (a2 = a3)) else some false) else some false)
set_option maxRecDepth 4000 in
set_option maxHeartbeats 4000000 in
theorem wardmotelaw31_stops_1_c (n : Nat) (L : List Nat) (w : World) (hL : ∀ b ∈ L, b < w.heap.size) (a0 : List Int) {v0_0 : Value} (h0_0 : Rep.R w L [v0_0] a0) (a1 : TChance) (a2 : Int) (a3 : Int) {p3 : Nat} (m3 : ∀ j9 v9, ([.int .i64 a3] : List Value)[j9]? = some v9 → w.cell? ((⟨p3, 0, none⟩ : Addr).add j9) = some v9)  {r : Bool} (h : wardmotelaw31_stops_1_p n a0 a1 a2 a3 = some r) :
    Calls Tryd.prog 39 #[v0_0, .agg #[.int .u64 (a1.fState.toNat : Int)], .int .i64 a2, .pointer (some ⟨p3, 0, none⟩)] w (Gives w fun w' u => u = .bool r) := by
  unfold wardmotelaw31_stops_1_p at h
  have hS0 := St.start w
  refine MX.start Tryd.func39 rfl rfl rfl (fun _ cs0 hb0 => ?_)
  refine MX.seq ?_
  refine MX.region ?_
  refine RG.new .plain rfl (Does.box (vs := [.int .u64 (a1.fState.toNat : Int)]) hS0 rfl rfl) (fun w2 b5 hS3 hT4 => ?_)
  refine RG.val' .plain (FV.assign rfl) rfl ?_
  refine RG.nil ?_
  refine MX.seq ?_
  refine MX.region ?_
  refine RG.val' .plain (FV.move rfl) rfl ?_
  have hm7 := Rep.mv h0_0 hT4
  have hl6 : a0.length ≤ 281474976710656 := Rep.lenle hm7
  refine RG.val' .plain (FV.len (xs := a0) Tryd.underlying22 rfl hm7) rfl ?_
  refine RG.val' .plain (FV.eqlN (i := a0.length) (j := 0) rfl rfl) rfl ?_
  refine RG.val' .plain (FV.move rfl) rfl ?_
  refine RG.ifd (s := 11) rfl h (fun c8 h => ?_) (fun c8 h => ?_)
  ·skip
   refine RG.val' (.yes rfl rfl) (FV.loadN (cs := [.int .u64 (a1.fState.toNat : Int)]) (by kernel_rfl) rfl (hS3.memA .hd)) rfl ?_
   refine RG.val' (.yes rfl rfl) (FV.buildV (vs := []) (u := .agg #[.int .u64 0]) evs_nil (fun w9 => by kernel_rfl)) rfl ?_
   refine RG.val' (.yes rfl rfl) (FV.eqlV (v := .agg #[.int .u64 (a1.fState.toNat : Int)]) (u := .agg #[.int .u64 0]) rfl rfl (eql1U_37 a1.fState (0 : UInt64))) rfl ?_
   refine RG.val' .plain (FV.pick_t rfl rfl) rfl ?_
   refine RG.val' .plain (FV.move rfl) rfl ?_
   refine RG.ifd (s := 16) rfl h (fun c9 h => ?_) (fun c9 h => ?_)
   ·skip
    refine RG.val' (.yes rfl rfl) (FV.move rfl) rfl ?_
    refine RG.val' (.yes rfl rfl) (FV.load1 (by kernel_rfl) rfl ((fun j9 v9 h9 => hS3.ag.cell0 (m3 j9 v9 h9)) 0 _ rfl)) rfl ?_
    refine RG.val' (.yes rfl rfl) (FV.eql (i := a2) (j := a3) rfl rfl) rfl ?_
    refine RG.val' .plain (FV.pick_t rfl rfl) rfl ?_
    refine RG.val' .plain (FV.assign rfl) rfl ?_
    refine RG.nil ?_
    refine MX.ret rfl ?_
    refine RT.leave (u := .bool (decide (a2 = a3))) hb0 Tryd.func39 rfl (.cons (.tmp rfl) .nil) rfl ?_
    obtain rfl := Option.some.inj h
    exact ⟨hS3.ag, fun w9 hw9 => rfl⟩
   ·skip
    refine RG.off (.no rfl rfl) rfl ?_
    refine RG.off (.no rfl rfl) rfl ?_
    refine RG.off (.no rfl rfl) rfl ?_
    refine RG.val' .plain (FV.pick_f rfl rfl) rfl ?_
    refine RG.val' .plain (FV.assign rfl) rfl ?_
    refine RG.nil ?_
    refine MX.ret rfl ?_
    refine RT.leave (u := .bool false) hb0 Tryd.func39 rfl (.cons (.tmp rfl) .nil) rfl ?_
    obtain rfl := Option.some.inj h
    exact ⟨hS3.ag, fun w9 hw9 => rfl⟩
  ·skip
   refine RG.off (.no rfl rfl) rfl ?_
   refine RG.off (.no rfl rfl) rfl ?_
   refine RG.off (.no rfl rfl) rfl ?_
   refine RG.val' .plain (FV.pick_f rfl rfl) rfl ?_
   refine RG.val' .plain (FV.move rfl) rfl ?_
   refine RG.off (.no rfl rfl) rfl ?_
   refine RG.off (.no rfl rfl) rfl ?_
   refine RG.off (.no rfl rfl) rfl ?_
   refine RG.val' .plain (FV.pick_f rfl rfl) rfl ?_
   refine RG.val' .plain (FV.assign rfl) rfl ?_
   refine RG.nil ?_
   refine MX.ret rfl ?_
   refine RT.leave (u := .bool false) hb0 Tryd.func39 rfl (.cons (.tmp rfl) .nil) rfl ?_
   obtain rfl := Option.some.inj h
   exact ⟨hS3.ag, fun w9 hw9 => rfl⟩
set_option maxRecDepth 4000 in
set_option maxHeartbeats 4000000 in
theorem wardmotelaw31_stops_c (n : Nat) (L : List Nat) (w : World) (hL : ∀ b ∈ L, b < w.heap.size) (a0 : Int)  :
    Calls Tryd.prog 21 #[.int .i64 a0] w (Gives w fun w' u => ∃ b5 : Nat, u = .func (.func 39) #[] #[.pointer (some ⟨b5, 0, none⟩)] ∧ St w w' [.cells b5 [.int .i64 a0] 27]) := by
  have hS0 := St.start w
  refine MX.start Tryd.func21 rfl rfl rfl (fun _ cs0 hb0 => ?_)
  refine MX.seq ?_
  refine MX.region ?_
  refine RG.new .plain rfl (Does.box (vs := [.int .i64 a0]) hS0 rfl rfl) (fun w2 b5 hS3 hT4 => ?_)
  refine RG.val' .plain (FV.assign rfl) rfl ?_
  refine RG.nil ?_
  refine MX.seq ?_
  refine MX.region ?_
  refine RG.val' .plain (FV.makeFunc (vs := []) (us := [.pointer (some ⟨b5, 0, none⟩)]) evs_nil (evs_cons rfl evs_nil)) rfl ?_
  refine RG.val' .plain (FV.assign rfl) rfl ?_
  refine RG.nil ?_
  refine MX.ret rfl ?_
  refine RT.leave (u := .func (.func 39) #[] #[.pointer (some ⟨b5, 0, none⟩)]) hb0 Tryd.func21 rfl (.cons (.tmp rfl) .nil) rfl ?_
  exact ⟨hS3.ag, fun w9 hw9 => ⟨b5, rfl, hS3.agree hw9⟩⟩
def wardmotelaw31_goes_1_p (n : Nat) (a0 : List Int) (a1 : TChance) (a2 : Int) (a3 : List Int) (a4 : TChance) : Option Bool :=
  (slices_Equal_int_int_p n a0 a3).bind fun y6 => (if y6 = true then (if a1.fState = a4.fState then some (decide (a2 = 0)) else some false) else some false)
set_option maxRecDepth 4000 in
set_option maxHeartbeats 4000000 in
theorem wardmotelaw31_goes_1_c (n : Nat) (L : List Nat) (w : World) (hL : ∀ b ∈ L, b < w.heap.size) (a0 : List Int) {v0_0 : Value} (h0_0 : Rep.R w L [v0_0] a0) (a1 : TChance) (a2 : Int) (a3 : List Int) {v3_0 : Value} (h3_0 : Rep.R w L [v3_0] a3) {p3 : Nat} (m3 : ∀ j9 v9, ([v3_0] : List Value)[j9]? = some v9 → w.cell? ((⟨p3, 0, none⟩ : Addr).add j9) = some v9) (a4 : TChance) {p4 : Nat} (m4 : ∀ j9 v9, ([.int .u64 (a4.fState.toNat : Int)] : List Value)[j9]? = some v9 → w.cell? ((⟨p4, 0, none⟩ : Addr).add j9) = some v9)  {r : Bool} (h : wardmotelaw31_goes_1_p n a0 a1 a2 a3 a4 = some r) :
    Calls Tryd.prog 40 #[v0_0, .agg #[.int .u64 (a1.fState.toNat : Int)], .int .i64 a2, .pointer (some ⟨p3, 0, none⟩), .pointer (some ⟨p4, 0, none⟩)] w (Gives w fun w' u => u = .bool r) := by
  unfold wardmotelaw31_goes_1_p at h
  have hS0 := St.start w
  refine MX.start Tryd.func40 rfl rfl rfl (fun _ cs0 hb0 => ?_)
  refine MX.seq ?_
  refine MX.region ?_
  refine RG.new .plain rfl (Does.box (vs := [.int .u64 (a1.fState.toNat : Int)]) hS0 rfl rfl) (fun w2 b5 hS3 hT4 => ?_)
  refine RG.val' .plain (FV.assign rfl) rfl ?_
  refine RG.nil ?_
  refine MX.seq ?_
  refine MX.region ?_
  refine RG.val' .plain (FV.move rfl) rfl ?_
  refine RG.val' .plain (FV.load1 (by kernel_rfl) rfl ((fun j9 v9 h9 => hS3.ag.cell0 (m3 j9 v9 h9)) 0 _ rfl)) rfl ?_
  obtain ⟨y6, hy6, h⟩ := bind_in h
  have hm7 := Rep.mv h0_0 hT4
  have hm8 := Rep.mv h3_0 hT4
  refine RG.callq' (v := .bool y6) (fst := []) (cap := []) .plain body12 rfl (evs_cons rfl (evs_cons rfl evs_nil)) (fun w9 hw9 => slices_Equal_int_int_c n _ w9 (hS3.hL0 hL hw9) a0 (Rep.keep0 (Rep.dropO (O := [.cells b5 [.int .u64 (a1.fState.toNat : Int)] 37]) hm7) hw9) a3 (Rep.keep0 (Rep.dropO (O := [.cells b5 [.int .u64 (a1.fState.toNat : Int)] 37]) hm8) hw9) hy6) rfl ?_
  refine RG.val' .plain (FV.move rfl) rfl ?_
  refine RG.ifb (s := 12) rfl h (fun c9 h => ?_) (fun c9 h => ?_)
  ·skip
   refine RG.val' (.yes rfl rfl) (FV.loadN (cs := [.int .u64 (a1.fState.toNat : Int)]) (by kernel_rfl) rfl (hS3.memA .hd)) rfl ?_
   refine RG.val' (.yes rfl rfl) (FV.loadN (cs := [.int .u64 (a4.fState.toNat : Int)]) (by kernel_rfl) rfl (fun j9 v9 h9 => hS3.ag.cell0 (m4 j9 v9 h9))) rfl ?_
   refine RG.val' (.yes rfl rfl) (FV.eqlV (v := .agg #[.int .u64 (a1.fState.toNat : Int)]) (u := .agg #[.int .u64 (a4.fState.toNat : Int)]) rfl rfl (eql1U_37 a1.fState a4.fState)) rfl ?_
   refine RG.val' .plain (FV.pick_t rfl rfl) rfl ?_
   refine RG.val' .plain (FV.move rfl) rfl ?_
   refine RG.ifd (s := 17) rfl h (fun c10 h => ?_) (fun c10 h => ?_)
   ·skip
    refine RG.val' (.yes rfl rfl) (FV.move rfl) rfl ?_
    refine RG.val' (.yes rfl rfl) (FV.eql (i := a2) (j := 0) rfl rfl) rfl ?_
    refine RG.val' .plain (FV.pick_t rfl rfl) rfl ?_
    refine RG.val' .plain (FV.assign rfl) rfl ?_
    refine RG.nil ?_
    refine MX.ret rfl ?_
    refine RT.leave (u := .bool (decide (a2 = 0))) hb0 Tryd.func40 rfl (.cons (.tmp rfl) .nil) rfl ?_
    obtain rfl := Option.some.inj h
    exact ⟨hS3.ag, fun w9 hw9 => rfl⟩
   ·skip
    refine RG.off (.no rfl rfl) rfl ?_
    refine RG.off (.no rfl rfl) rfl ?_
    refine RG.val' .plain (FV.pick_f rfl rfl) rfl ?_
    refine RG.val' .plain (FV.assign rfl) rfl ?_
    refine RG.nil ?_
    refine MX.ret rfl ?_
    refine RT.leave (u := .bool false) hb0 Tryd.func40 rfl (.cons (.tmp rfl) .nil) rfl ?_
    obtain rfl := Option.some.inj h
    exact ⟨hS3.ag, fun w9 hw9 => rfl⟩
  ·skip
   refine RG.off (.no rfl rfl) rfl ?_
   refine RG.off (.no rfl rfl) rfl ?_
   refine RG.off (.no rfl rfl) rfl ?_
   refine RG.val' .plain (FV.pick_f rfl rfl) rfl ?_
   refine RG.val' .plain (FV.move rfl) rfl ?_
   refine RG.off (.no rfl rfl) rfl ?_
   refine RG.off (.no rfl rfl) rfl ?_
   refine RG.val' .plain (FV.pick_f rfl rfl) rfl ?_
   refine RG.val' .plain (FV.assign rfl) rfl ?_
   refine RG.nil ?_
   refine MX.ret rfl ?_
   refine RT.leave (u := .bool false) hb0 Tryd.func40 rfl (.cons (.tmp rfl) .nil) rfl ?_
   obtain rfl := Option.some.inj h
   exact ⟨hS3.ag, fun w9 hw9 => rfl⟩
set_option maxRecDepth 4000 in
set_option maxHeartbeats 4000000 in
theorem wardmotelaw31_goes_c (n : Nat) (L : List Nat) (w : World) (hL : ∀ b ∈ L, b < w.heap.size) (a0 : TChance) (a1 : List Int) {v1_0 : Value} (h1_0 : Rep.R w L [v1_0] a1)  :
    Calls Tryd.prog 22 #[.agg #[.int .u64 (a0.fState.toNat : Int)], v1_0] w (Gives w fun w' u => ∃ b11 b5 : Nat, u = .func (.func 40) #[] #[.pointer (some ⟨b11, 0, none⟩), .pointer (some ⟨b5, 0, none⟩)] ∧ St w w' [.cells b11 [v1_0] 22, .cells b5 [.int .u64 (a0.fState.toNat : Int)] 37]) := by
  have hS0 := St.start w
  refine MX.start Tryd.func22 rfl rfl rfl (fun _ cs0 hb0 => ?_)
  refine MX.seq ?_
  refine MX.region ?_
  refine RG.new .plain rfl (Does.box (vs := [.int .u64 (a0.fState.toNat : Int)]) hS0 rfl rfl) (fun w2 b5 hS3 hT4 => ?_)
  have hm7 := Rep.mv h1_0 hT4
  refine RG.new .plain rfl (Does.box (vs := [v1_0]) hS3 rfl (Rep.c1 hm7)) (fun w8 b11 hS9 hT10 => ?_)
  refine RG.val' .plain (FV.assign rfl) rfl ?_
  refine RG.nil ?_
  refine MX.seq ?_
  refine MX.region ?_
  refine RG.val' .plain (FV.makeFunc (vs := []) (us := [.pointer (some ⟨b11, 0, none⟩), .pointer (some ⟨b5, 0, none⟩)]) evs_nil (evs_cons rfl (evs_cons rfl evs_nil))) rfl ?_
  refine RG.val' .plain (FV.assign rfl) rfl ?_
  refine RG.nil ?_
  refine MX.ret rfl ?_
  refine RT.leave (u := .func (.func 40) #[] #[.pointer (some ⟨b11, 0, none⟩), .pointer (some ⟨b5, 0, none⟩)]) hb0 Tryd.func22 rfl (.cons (.tmp rfl) .nil) rfl ?_
  exact ⟨hS9.ag, fun w9 hw9 => ⟨b11, b5, rfl, hS9.agree hw9⟩⟩
end Go.Proofs.YtplkfbljncfdnaaDoor
