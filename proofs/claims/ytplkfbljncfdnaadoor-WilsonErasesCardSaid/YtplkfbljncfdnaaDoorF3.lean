/- Functions of the program, and what they give: part 3. -/
import Derived.Test.YtplkfbljncfdnaaDoorF2
namespace Go.Proofs.YtplkfbljncfdnaaDoor
open Go Go.RowKit

structure Twalker where
  fChance : TChance
  fgraph : TGraph
  fset : UInt64
  fleft : Int
  deriving DecidableEq
instance : Rep Twalker := Rep.via (β := TChance × TGraph × UInt64 × Int) fun x => (x.fChance, x.fgraph, x.fset, x.fleft)
def tb14_24 : List (Nat × Nat × Nat) := [(0, 2475880078570760549798248448, 262144), (0, 4951760157141521099596496896, 32768), (0, 9903520314283042199192993792, 131072), (4, 19807040628566084398385987584, 9903520314283042199192993792), (10, 39614081257132168796771975168, 24758800785707605497982484480), (16, 79228162514264337593543950336, 39614081257132168796771975168), (33, 158456325028528675187087900672, 81704042592835098143342198784), (0, 316912650057057350374175801344, 262144), (0, 633825300114114700748351602688, 32768), (0, 1267650600228229401496703205376, 131072), (512, 2535301200456458802993406410752, 1267650600228229401496703205376), (1280, 5070602400912917605986812821504, 3169126500570573503741758013440), (2048, 10141204801825835211973625643008, 5070602400912917605986812821504), (4224, 20282409603651670423947251286016, 10458117451882892562347801444352), (8256, 40564819207303340847894502572032, 20440865928680199099134339186688), (0, 524288, 0), (65535, 0, 40564819207303340847894503096320)]
def tb14_29 : List (Nat × Nat × Nat) := [(0, 166153499473114484112975882535043072, 64), (0, 332306998946228968225951765070086144, 4096), (2, 664613997892457936451903530140172288, 332306998946228968225951765070086144), (4, 1329227995784915872903807060280344576, 664613997892457936451903530140172288), (8, 2658455991569831745807614120560689152, 1329227995784915872903807060280344576), (1, 64, 166153499473114484112975882535043072), (63, 0, 2658455991569831745807614120560689280), (127, 256, 0)]
theorem body16 : bodyB Tryd.prog 16 = true := by kernel_rfl
theorem body17 : bodyB Tryd.prog 17 = true := by kernel_rfl
theorem body26 : bodyB Tryd.prog 26 = true := by kernel_rfl
theorem body29 : bodyB Tryd.prog 29 = true := by kernel_rfl
theorem body33 : bodyB Tryd.prog 33 = true := by kernel_rfl
theorem body34 : bodyB Tryd.prog 34 = true := by kernel_rfl
theorem body61 : bodyB Tryd.prog 61 = true := by kernel_rfl
theorem body62 : bodyB Tryd.prog 62 = true := by kernel_rfl
theorem body63 : bodyB Tryd.prog 63 = true := by kernel_rfl
theorem body64 : bodyB Tryd.prog 64 = true := by kernel_rfl
theorem body85 : bodyB Tryd.prog 85 = true := by kernel_rfl
theorem body86 : bodyB Tryd.prog 86 = true := by kernel_rfl
def wilson_Draw_l1 (n : Nat) (y3438 : List Int) (a0 : TGraph) (J3676 : UInt64 × Nat × (List Int) → Option (UInt64 × (List Int))) : UInt64 × Nat × (List Int) → Option (UInt64 × (List Int))
  | (u3663, i3664, xs3665) => (if i3664 < y3438.length then (y3438[i3664]?).bind fun x3679 => (natOf x3679).bind fun k3689 => jn (fun xs3727 => J3676 (u3663 ||| (shlU (1 : UInt64) k3689), i3664 + 1, xs3727)) (fun J3734 => (if 0 < i3664 then (y3438[i3664 - 1]?).bind fun x3739 => (slices_Index_2_int_2_int_p n a0.fEdges (min x3679 x3739, max x3679 x3739)).bind fun y3756 => (app xs3665 ([y3756] : List Int)).bind fun xs3764 => J3734 xs3764 else J3734 xs3665)) else some (u3663, xs3665))
def wilson_Draw_l2 (n : Nat) (J4004 : UInt64 × (List Int) → Option (List Int)) : UInt64 × (List Int) → Option (List Int)
  | (u3992, xs3993) => (if u3992 = (0 : UInt64) then some xs3993 else (math_bits_TrailingZeros64_p n u3992).bind fun y4076 => (app xs3993 ([y4076] : List Int)).bind fun xs4088 => J4004 (u3992 &&& (u3992 - (1 : UInt64)), xs4088))
def wilson_Draw_l3 (n : Nat) (a0 : TGraph) (z3420 : Int) (J3879 : UInt64 × Nat → Option UInt64) : UInt64 × Nat → Option UInt64
  | (u3870, i3871) => (if i3871 < a0.fEdges.length then (a0.fEdges[i3871]?).bind fun x3882 => (if x3882.1 = z3420 then (chk (x3882.1 + x3882.2)).bind fun s3900 => (chk (s3900 - z3420)).bind fun s3901 => (natOf s3901).bind fun k3902 => J3879 (u3870 ||| (shlU (1 : UInt64) k3902), i3871 + 1) else jn (fun u3909 => J3879 (u3909, i3871 + 1)) (fun J3913 => (if x3882.2 = z3420 then (chk (x3882.1 + x3882.2)).bind fun s3916 => (chk (s3916 - z3420)).bind fun s3917 => (natOf s3917).bind fun k3918 => J3913 (u3870 ||| (shlU (1 : UInt64) k3918)) else J3913 u3870))) else some u3870)
def wilson_Draw_l4 (n : Nat) (u2741 : UInt64) (a0 : TGraph) (a1 : UInt64) (J3434 : Int × (List Int) × UInt64 × Int → Option ((((List Int) × TChance × Int) ⊕ ((List Int) × UInt64)) ⊕ ((List Int) × UInt64 × Int))) : Int × (List Int) × UInt64 × Int → Option ((((List Int) × TChance × Int) ⊕ ((List Int) × UInt64)) ⊕ ((List Int) × UInt64 × Int))
  | (z3420, xs3421, u3425, z3426) => (natOf z3420).bind fun k3436 => (if ((shrU u2741 k3436) &&& (1 : UInt64)) = (1 : UInt64) then some (.inr (xs3421, u3425, z3426)) else (if z3426 = 0 then some (.inl (.inl (([] : List Int), (⟨(0 : UInt64)⟩ : TChance), 9))) else (chk (z3426 - 1)).bind fun s3783 => Option.bind (loopF (wilson_Draw_l3 n a0 z3420) n ((0 : UInt64), 0)) (fun u3870 => Option.bind (loopF (wilson_Draw_l2 n) n (u3870 &&& a1, ([] : List Int))) (fun xs3993 => (chance_Below_p n (⟨u3425⟩ : TChance) ((xs3993.length : Nat) : Int)).bind fun y4025 => (if y4025.2.2 = 0 then (idx xs3993 y4025.1).bind fun x4038 => (app xs3421 ([x4038] : List Int)).bind fun xs4059 => J3434 (x4038, xs4059, y4025.2.1.fState, s3783) else some (.inl (.inl (([] : List Int), (⟨(0 : UInt64)⟩ : TChance), y4025.2.2))))))))
def wilson_Draw_l5 (n : Nat) (i4952 : Nat) (J6148 : Int × (List Int) → Option (List Int)) : Int × (List Int) → Option (List Int)
  | (z6137, xs6138) => (if ((i4952 : Nat) : Int) < z6137 then (idx xs6138 z6137).bind fun x6153 => (chk (z6137 - 1)).bind fun s6167 => (idx xs6138 s6167).bind fun x6168 => (cmp_Less_int_p n x6153 x6168).bind fun y6182 => (if y6182 = true then (chk (z6137 - 1)).bind fun s6186 => (chk (z6137 - 1)).bind fun s6187 => (idx xs6138 s6187).bind fun x6188 => (put xs6138 ((z6137.toNat : Nat) : Int) x6188).bind fun xs6202 => (idx xs6202 s6186).bind fun x6208 => (put xs6202 ((s6186.toNat : Nat) : Int) x6153).bind fun xs6222 => (chk (z6137 - 1)).bind fun s6228 => J6148 (s6228, xs6222) else some xs6138) else some xs6138)
def wilson_Draw_l6 (n : Nat) (i4953 : Nat) (i4952 : Nat) (J5523 : Int × (List Int) → Option (List Int)) : Int × (List Int) → Option (List Int)
  | (z5512, xs5513) => (if z5512 < ((i4953 : Nat) : Int) then jn (fun xs5958 => (chk (z5512 + 1)).bind fun s5966 => J5523 (s5966, xs5958)) (fun J5964 => Option.bind (loopF (wilson_Draw_l5 n i4952) n (z5512, xs5513)) (J5964)) else some xs5513)
def wilson_Draw_l7 (n : Nat) (xs2743 : List Int) (u2747 : UInt64) (J4962 : Nat × Nat × Int × Bool × Bool → Option ((List Int) × TChance × Int)) : Nat × Nat × Int × Bool × Bool → Option ((List Int) × TChance × Int)
  | (i4952, i4953, z4954, q4955, q4956) => (chk (((i4953 : Nat) : Int) - ((i4952 : Nat) : Int))).bind fun s4964 => (if s4964 ≤ 12 then (chk (((i4952 : Nat) : Int) + 1)).bind fun s4968 => Option.bind (loopF (wilson_Draw_l6 n i4953 i4952) n (s4968, xs2743)) (fun xs5513 => some (xs5513, (⟨u2747⟩ : TChance), 0)) else (if z4954 = 0 then none else (if q4955 = true then none else none)))
def wilson_Draw_l8 (n : Nat) (a0 : TGraph) (a1 : UInt64) (J2756 : UInt64 × Int × (List Int) × UInt64 × Int → Option (((List Int) × TChance × Int) ⊕ ((List Int) × UInt64))) : UInt64 × Int × (List Int) × UInt64 × Int → Option (((List Int) × TChance × Int) ⊕ ((List Int) × UInt64))
  | (u2741, z2742, xs2743, u2747, z2748) => (if z2742 < a0.fN then (natOf z2742).bind fun k2759 => (if ((shrU (a1 &&& ~~~u2741) k2759) &&& (1 : UInt64)) = (0 : UInt64) then (chk (z2742 + 1)).bind fun s2761 => J2756 (u2741, s2761, xs2743, u2747, z2748) else thn (loopF (wilson_Draw_l4 n u2741 a0 a1) n (z2742, ([z2742] : List Int), u2747, z2748)) (fun (xs3421, u3425, z3426) => (wilson_erased_p n xs3421).bind fun y3438 => Option.bind (loopF (wilson_Draw_l1 n y3438 a0) n (u2741, 0, xs2743)) (fun (u3663, xs3665) => (chk (z2742 + 1)).bind fun s3776 => J2756 (u3663, s3776, xs3665, u3425, z3426)))) else some (.inr (xs2743, u2747)))
def wilson_Draw_p (n : Nat) (a0 : TGraph) (a1 : UInt64) (a2 : TChance) : Option ((List Int) × TChance × Int) :=
  (graph_Check_p n a0).bind fun y16 => (if y16 = 0 then (if a1 = (0 : UInt64) then some (([] : List Int), (⟨(0 : UInt64)⟩ : TChance), 2) else (wilson_fits_p n a0 a1).bind fun y25 => (if y25 = true then (graph_Connected_p n a0 a1).bind fun y27 => (if y27.1 = true then thn (loopF (wilson_Draw_l8 n a0 a1) n (a1 &&& (-a1), 0, ([] : List Int), a2.fState, 10000)) (fun (xs2743, u2747) => (math_bits_Len_p n (u64of ((xs2743.length : Nat) : Int))).bind fun y4112 => loopF (wilson_Draw_l7 n xs2743 u2747) n (0, xs2743.length, y4112, true, true)) else some (([] : List Int), (⟨(0 : UInt64)⟩ : TChance), 4)) else some (([] : List Int), (⟨(0 : UInt64)⟩ : TChance), 2))) else some (([] : List Int), (⟨(0 : UInt64)⟩ : TChance), y16))
set_option maxRecDepth 4000 in
set_option maxHeartbeats 4000000 in
theorem wilson_Draw_c (n : Nat) (L : List Nat) (w : World) (hL : ∀ b ∈ L, b < w.heap.size) (a0 : TGraph) {v0_1 : Value} (h0_1 : Rep.R w L [v0_1] a0.fEdges) (a1 : UInt64) (a2 : TChance) (hG0 : Glob 0 tab0 w)  {r : (List Int) × TChance × Int} (h : wilson_Draw_p n a0 a1 a2 = some r) :
    Calls Tryd.prog 14 #[.agg #[.int .i64 a0.fN, v0_1], .int .u64 (a1.toNat : Int), .agg #[.int .u64 (a2.fState.toNat : Int)]] w (Gives w fun w' u => ∃ v0_0 : Value, u = .tuple #[v0_0, .agg #[.int .u64 (r.2.1.fState.toNat : Int)], .int .i64 r.2.2] ∧ Rep.R w' L [v0_0] r.1) := by
  unfold wilson_Draw_p at h
  have hS0 := St.start w
  refine MX.start Tryd.func14 rfl rfl rfl (fun _ cs0 hb0 => ?_)
  refine MX.seq ?_
  refine MX.region ?_
  refine RG.new .plain rfl (Does.box (vs := [.int .i64 a0.fN, v0_1]) hS0 rfl rfl) (fun w2 b5 hS3 hT4 => ?_)
  refine RG.new .plain rfl (Does.box (vs := [.int .u64 (a2.fState.toNat : Int)]) hS3 rfl rfl) (fun w7 b10 hS8 hT9 => ?_)
  refine RG.val' .plain (FV.assign rfl) rfl ?_
  refine RG.new .plain rfl (Does.alloc (zs := [.int .u64 0]) hS8 (zB (by kernel_rfl))) (fun w12 b15 hS13 hT14 => ?_)
  refine RG.val' .plain (FV.assign rfl) rfl ?_
  refine RG.nil ?_
  refine MX.seq ?_
  refine MX.seq ?_
  refine MX.region ?_
  refine RG.val' .plain (FV.loadN (cs := [.int .i64 a0.fN, v0_1]) (by kernel_rfl) rfl (hS13.memA (.tl (.tl .hd)))) rfl ?_
  obtain ⟨y16, hy16, h⟩ := bind_in h
  have hm17 := Rep.mv h0_1 (Tr.trans hT4 (Tr.trans hT9 hT14))
  refine RG.callq' (v := .int .i64 y16) (fst := []) (cap := []) .plain body32 rfl (evs_cons rfl evs_nil) (fun w9 hw9 => graph_Check_c n _ w9 (hS13.hL0 hL hw9) a0 (Rep.keep0 (Rep.dropO (O := [.cells b15 [.int .u64 0] 37, .cells b10 [.int .u64 (a2.fState.toNat : Int)] 37, .cells b5 [.int .i64 a0.fN, v0_1] 40]) hm17) hw9) hy16) rfl ?_
  refine RG.val' .plain (FV.assign rfl) rfl ?_
  refine RG.nil ?_
  refine MX.seq ?_
  refine MX.region ?_
  refine RG.val' .plain (FV.move rfl) rfl ?_
  refine RG.val' .plain (FV.neq (i := y16) (j := 0) rfl rfl) rfl ?_
  refine RG.nil ?_
  refine MX.ifn rfl h (fun c18 h => ?_) (fun c18 h => ?_)
  · skip
    refine MX.skip ?_
    refine MX.seq ?_
    refine MX.seq ?_
    refine MX.region ?_
    refine RG.val' .plain (FV.move rfl) rfl ?_
    refine RG.val' .plain (FV.eqlU (a := a1) (b := (0 : UInt64)) rfl rfl) rfl ?_
    refine RG.val' .plain (FV.move rfl) rfl ?_
    refine RG.ifd (s := 28) rfl h (fun c19 h => ?_) (fun c19 h => ?_)
    · skip
      refine RG.off (.no rfl rfl) rfl ?_
      refine RG.off (.no rfl rfl) rfl ?_
      refine RG.off (.no rfl rfl) rfl ?_
      refine RG.off (.no rfl rfl) rfl ?_
      refine RG.val' .plain (FV.pick_t rfl rfl) rfl ?_
      refine RG.nil ?_
      refine MX.cond_t rfl ?_
      refine MX.seq ?_
      refine MX.region ?_
      refine RG.val' .plain (FV.buildV (vs := []) (u := .agg #[.int .u64 0]) evs_nil (fun w9 => by kernel_rfl)) rfl ?_
      refine RG.val' .plain (FV.assign rfl) rfl ?_
      refine RG.now .plain (Acts.store (j := 0) (old := [.int .u64 0]) (news := [.int .u64 0]) (new' := [.int .u64 0]) hS13 .hd rfl rfl rfl rfl rfl rfl (ones_cons rfl ones_nil) rfl) (fun w20 hS21 hT22 => ?_)
      refine RG.val' .plain (FV.assign rfl) rfl ?_
      refine RG.nil ?_
      refine MX.ret rfl ?_
      have hr23 : Rep.R w20 (bl [.cells b15 [.int .u64 0] 37, .cells b10 [.int .u64 (a2.fState.toNat : Int)] 37, .cells b5 [.int .i64 a0.fN, v0_1] 40] ++ L) [.slice none 0 0] ([] : List Int) := Rep.nilSlice _ _
      refine RT.leave (u := .tuple #[.slice none 0 0, .agg #[.int .u64 0], .int .i64 2]) hb0 Tryd.func14 rfl (.cons (.tmp rfl) (.cons (.many (cs := [.int .u64 0]) (by kernel_rfl) rfl (hS21.memA .hd)) (.cons (.tmp rfl) .nil))) rfl ?_
      obtain rfl := Option.some.inj h
      have hr24 : Rep.R w20 (bl [.cells b15 [.int .u64 0] 37, .cells b10 [.int .u64 (a2.fState.toNat : Int)] 37, .cells b5 [.int .i64 a0.fN, v0_1] 40] ++ L) [.slice none 0 0] ([] : List Int) := Rep.nilSlice _ _
      exact ⟨hS21.ag, fun w9 hw9 => ⟨(.slice none 0 0), rfl, Rep.keep0 (Rep.dropO (O := [.cells b15 [.int .u64 0] 37, .cells b10 [.int .u64 (a2.fState.toNat : Int)] 37, .cells b5 [.int .i64 a0.fN, v0_1] 40]) hr24) hw9⟩⟩
    · skip
      refine RG.val' (.yes rfl rfl) (FV.loadN (cs := [.int .i64 a0.fN, v0_1]) (by kernel_rfl) rfl (hS13.memA (.tl (.tl .hd)))) rfl ?_
      refine RG.val' (.yes rfl rfl) (FV.move rfl) rfl ?_
      obtain ⟨y25, hy25, h⟩ := bind_in h
      refine RG.callq' (v := .bool y25) (fst := []) (cap := []) (.yes rfl rfl) body33 rfl (evs_cons rfl (evs_cons rfl evs_nil)) (fun w9 hw9 => wilson_fits_c n _ w9 (hS13.hL0 hL hw9) a0 (Rep.keep0 (Rep.dropO (O := [.cells b15 [.int .u64 0] 37, .cells b10 [.int .u64 (a2.fState.toNat : Int)] 37, .cells b5 [.int .i64 a0.fN, v0_1] 40]) hm17) hw9) a1 hy25) rfl ?_
      refine RG.val' (.yes rfl rfl) (FV.not rfl) rfl ?_
      refine RG.val' .plain (FV.pick_f rfl rfl) rfl ?_
      refine RG.nil ?_
      refine MX.ifnb rfl h (fun c26 h => ?_) (fun c26 h => ?_)
      · skip
        refine MX.skip ?_
        refine MX.seq ?_
        refine MX.seq ?_
        refine MX.region ?_
        refine RG.val' .plain (FV.loadN (cs := [.int .i64 a0.fN, v0_1]) (by kernel_rfl) rfl (hS13.memA (.tl (.tl .hd)))) rfl ?_
        refine RG.val' .plain (FV.move rfl) rfl ?_
        obtain ⟨y27, hy27, h⟩ := bind_in h
        refine RG.callq' (v := .tuple #[.bool y27.1, .int .i64 y27.2]) (fst := []) (cap := []) .plain body26 rfl (evs_cons rfl (evs_cons rfl evs_nil)) (fun w9 hw9 => graph_Connected_c n _ w9 (hS13.hL0 hL hw9) a0 (Rep.keep0 (Rep.dropO (O := [.cells b15 [.int .u64 0] 37, .cells b10 [.int .u64 (a2.fState.toNat : Int)] 37, .cells b5 [.int .i64 a0.fN, v0_1] 40]) hm17) hw9) a1 (hG0.keep (hS13.ag.trans hw9)) hy27) rfl ?_
        refine RG.val' .plain (FV.move rfl) rfl ?_
        refine RG.val' .plain (FV.extract rfl rfl) rfl ?_
        refine RG.val' .plain (FV.extract rfl rfl) rfl ?_
        refine RG.val' .plain (FV.assign rfl) rfl ?_
        refine RG.val' .plain (FV.assign rfl) rfl ?_
        refine RG.nil ?_
        refine MX.seq ?_
        refine MX.region ?_
        refine RG.val' .plain (FV.move rfl) rfl ?_
        refine RG.val' .plain (FV.not rfl) rfl ?_
        refine RG.nil ?_
        refine MX.ifnb rfl h (fun c28 h => ?_) (fun c28 h => ?_)
        · skip
          refine MX.skip ?_
          refine MX.seq ?_
          refine MX.region ?_
          refine RG.val' .plain (FV.loadN (cs := [.int .u64 (a2.fState.toNat : Int)]) (by kernel_rfl) rfl (hS13.memA (.tl .hd))) rfl ?_
          refine RG.val' .plain (FV.loadN (cs := [.int .i64 a0.fN, v0_1]) (by kernel_rfl) rfl (hS13.memA (.tl (.tl .hd)))) rfl ?_
          refine RG.val' .plain (FV.move rfl) rfl ?_
          refine RG.val' .plain (FV.buildV (vs := [.agg #[.int .u64 (a2.fState.toNat : Int)], .agg #[.int .i64 a0.fN, v0_1], .int .u64 (a1.toNat : Int), .int .i64 10000]) (u := .agg #[.int .u64 (a2.fState.toNat : Int), .int .i64 a0.fN, v0_1, .int .u64 (a1.toNat : Int), .int .i64 10000]) (evs_cons rfl (evs_cons rfl (evs_cons rfl (evs_cons rfl evs_nil)))) (fun w9 => by kernel_rfl)) rfl ?_
          refine RG.new .plain rfl (Does.box (vs := [.int .u64 (a2.fState.toNat : Int), .int .i64 a0.fN, v0_1, .int .u64 (a1.toNat : Int), .int .i64 10000]) hS13 rfl rfl) (fun w30 b33 hS31 hT32 => ?_)
          refine RG.val' .plain (FV.assign rfl) rfl ?_
          refine RG.nil ?_
          refine MX.seq ?_
          refine MX.region ?_
          refine RG.val' .plain (FV.move rfl) rfl ?_
          refine RG.val' .plain (FV.move rfl) rfl ?_
          refine RG.val' .plain (FV.negU (a := a1) rfl) rfl ?_
          refine RG.val' .plain (FV.andU (a := a1) (b := -a1) rfl rfl) rfl ?_
          refine RG.val' .plain (FV.assign rfl) rfl ?_
          refine RG.nil ?_
          refine MX.seq ?_
          refine MX.seq ?_
          refine MX.region ?_
          refine RG.val' .plain (FV.fieldAddr (off := 0) (by kernel_rfl) rfl) rfl ?_
          refine RG.val' .plain (FV.load1 (by kernel_rfl) rfl ((hS31.memA (.tl (.tl (.tl .hd)))) 0 _ rfl)) rfl ?_
          refine RG.val' .plain (FV.move rfl) rfl ?_
          refine RG.nil ?_
          refine MX.block ?_
          have hS35 := hS31.nilRow 3 (Rep.size Int)
          have hT36 := Tr.nilRow (w := w30) (O := [.cells b33 [.int .u64 (a2.fState.toNat : Int), .int .i64 a0.fN, v0_1, .int .u64 (a1.toNat : Int), .int .i64 10000] 74, .cells b15 [.int .u64 0] 37, .cells b10 [.int .u64 (a2.fState.toNat : Int)] 37, .cells b5 [.int .i64 a0.fN, v0_1] 40]) w.heap.size 3 (Rep.size Int)
          have hc37 : Cells w30 (bl [.row w.heap.size 3 (Rep.size Int) (.slice none 0 0) (([] : List Int).length) [], .cells b33 [.int .u64 (a2.fState.toNat : Int), .int .i64 a0.fN, v0_1, .int .u64 (a1.toNat : Int), .int .i64 10000] 74, .cells b15 [.int .u64 0] 37, .cells b10 [.int .u64 (a2.fState.toNat : Int)] 37, .cells b5 [.int .i64 a0.fN, v0_1] 40] ++ L) [] ([] : List Int) := Cells.nil _ _
          have hS2738 : St _ _ [.row w.heap.size 3 (Rep.size Int) (.slice none 0 0) (([] : List Int).length) [], .cells b33 [.int .u64 (a2.fState.toNat : Int), .int .i64 a0.fN, v0_1, .int .u64 (a1.toNat : Int), .int .i64 10000] 74, .cells b15 [.int .u64 0] 37, .cells b5 [.int .i64 a0.fN, v0_1] 40] := hS35.arr (.one .hd (.one .hd (.one .hd (.one (.tl .hd) .done))))
          have hT2739 : Tr w30 _ w30 [.row w.heap.size 3 (Rep.size Int) (.slice none 0 0) (([] : List Int).length) [], .cells b33 [.int .u64 (a2.fState.toNat : Int), .int .i64 a0.fN, v0_1, .int .u64 (a1.toNat : Int), .int .i64 10000] 74, .cells b15 [.int .u64 0] 37, .cells b5 [.int .i64 a0.fN, v0_1] 40] := Tr.arr (St.arrOf hS35 (.one .hd (.one .hd (.one .hd (.one (.tl .hd) .done)))))
          have hm2740 := Cells.mv hc37 hT2739
          obtain ⟨o2754, ho2753, hh2755⟩ := thn_in h
          refine MX.loop (α := UInt64 × Int × (List Int) × UInt64 × Int × Value × (List Value)) (fun ⟨u2741, z2742, xs2743, u2747, z2748, v2746, cs2744⟩ => [(1, .int .u64 (a1.toNat : Int)), (3, .pointer (some ⟨b5, 0, none⟩)), (6, v2746), (7, .pointer (some ⟨b15, 0, none⟩)), (12, .pointer (some ⟨b33, 0, none⟩)), (13, .int .u64 (u2741.toNat : Int)), (54, .int .i64 a0.fN), (55, .int .i64 z2742)]) (fun ⟨u2741, z2742, xs2743, u2747, z2748, v2746, cs2744⟩ wx2748 => St w wx2748 [.row w.heap.size 3 (Rep.size Int) v2746 xs2743.length cs2744, .cells b33 [.int .u64 (u2747.toNat : Int), .int .i64 a0.fN, v0_1, .int .u64 (a1.toNat : Int), .int .i64 z2748] 74, .cells b15 [.int .u64 0] 37, .cells b5 [.int .i64 a0.fN, v0_1] 40] ∧ Tr w30 [.row w.heap.size 3 (Rep.size Int) (.slice none 0 0) (([] : List Int).length) [], .cells b33 [.int .u64 (a2.fState.toNat : Int), .int .i64 a0.fN, v0_1, .int .u64 (a1.toNat : Int), .int .i64 10000] 74, .cells b15 [.int .u64 0] 37, .cells b5 [.int .i64 a0.fN, v0_1] 40] wx2748 [.row w.heap.size 3 (Rep.size Int) v2746 xs2743.length cs2744, .cells b33 [.int .u64 (u2747.toNat : Int), .int .i64 a0.fN, v0_1, .int .u64 (a1.toNat : Int), .int .i64 z2748] 74, .cells b15 [.int .u64 0] 37, .cells b5 [.int .i64 a0.fN, v0_1] 40] ∧ Cells wx2748 (bl [.row w.heap.size 3 (Rep.size Int) v2746 xs2743.length cs2744, .cells b33 [.int .u64 (u2747.toNat : Int), .int .i64 a0.fN, v0_1, .int .u64 (a1.toNat : Int), .int .i64 z2748] 74, .cells b15 [.int .u64 0] 37, .cells b5 [.int .i64 a0.fN, v0_1] 40] ++ L) cs2744 xs2743) (fun ⟨u2741, z2742, xs2743, u2747, z2748, v2746, cs2744⟩ => (u2741, z2742, xs2743, u2747, z2748)) (a1 &&& (-a1), 0, ([] : List Int), a2.fState, 10000, (.slice none 0 0), []) ho2753 ⟨rfl, rfl, rfl, rfl, rfl, rfl, rfl, rfl, trivial⟩ ⟨hS2738, Tr.refl _ _, hm2740⟩ ?_
          rintro J2756 ⟨u2741, z2742, xs2743, u2747, z2748, v2746, cs2744⟩ wx2748 hJ2757 ⟨hS2749, hT2750, hc2745⟩ h
          unfold wilson_Draw_l8 at h
          try dsimp only at h
          refine MX.seq ?_
          refine MX.region ?_
          refine RG.val' .plain (FV.lss (i := z2742) (j := a0.fN) rfl rfl) rfl ?_
          refine RG.nil ?_
          refine MX.seq ?_
          refine MX.ifd rfl h (fun c2758 h => ?_) (fun c2758 h => ?_)
          · skip
            refine MX.skip ?_
            refine MX.seq ?_
            refine MX.block ?_
            refine MX.seq ?_
            refine MX.region ?_
            refine RG.val' .plain (FV.move rfl) rfl ?_
            refine RG.val' .plain (FV.assign rfl) rfl ?_
            refine RG.nil ?_
            refine MX.seq ?_
            refine MX.seq ?_
            refine MX.region ?_
            refine RG.val' .plain (FV.move rfl) rfl ?_
            refine RG.val' .plain (FV.move rfl) rfl ?_
            refine RG.val' .plain (FV.andNotU (a := a1) (b := u2741) rfl rfl) rfl ?_
            refine RG.val' .plain (FV.move rfl) rfl ?_
            obtain ⟨k2759, hk2759, h⟩ := bind_in h
            refine RG.val' .plain (FV.shrI (a := a1 &&& ~~~u2741) (i := z2742) rfl rfl hk2759) rfl ?_
            refine RG.val' .plain (FV.andU (a := shrU (a1 &&& ~~~u2741) k2759) (b := (1 : UInt64)) rfl rfl) rfl ?_
            refine RG.val' .plain (FV.eqlU (a := (shrU (a1 &&& ~~~u2741) k2759) &&& (1 : UInt64)) (b := (0 : UInt64)) rfl rfl) rfl ?_
            refine RG.nil ?_
            refine MX.ifd rfl h (fun c2760 h => ?_) (fun c2760 h => ?_)
            · skip
              refine MX.exit rfl ?_
              refine MX.region ?_
              obtain ⟨s2761, hs2761, h⟩ := bind_in h
              refine RG.val' .plain (FV.addc (i := z2742) (j := 1) rfl rfl hs2761) rfl ?_
              refine RG.val' .plain (FV.move rfl) rfl ?_
              refine RG.nil ?_
              exact hJ2757 (u2741, s2761, xs2743, u2747, z2748, v2746, cs2744) _ _ ⟨rfl, rfl, rfl, rfl, rfl, rfl, rfl, rfl, trivial⟩ ⟨hS2749, hT2750, hc2745⟩ h
            · skip
              refine MX.skip ?_
              refine MX.seq ?_
              refine MX.region ?_
              refine RG.val' .plain (FV.move rfl) rfl ?_
              refine RG.val' .plain (FV.move rfl) rfl ?_
              refine RG.val' .plain (FV.move rfl) rfl ?_
              refine RG.enter (fst := []) (cap := []) (vs := [.pointer (some ⟨b33, 0, none⟩), .int .i64 z2742, .int .u64 (u2741.toNat : Int)]) .plain body34 Tryd.func34 rfl rfl rfl rfl (evs_cons rfl (evs_cons rfl (evs_cons rfl evs_nil))) rfl (fun cs2763 hb2762 => ?_)
              refine MX.seq ?_
              refine MX.region ?_
              refine RG.val' .plain (FV.assign rfl) rfl ?_
              refine RG.val' .plain (FV.assign rfl) rfl ?_
              refine RG.nil ?_
              refine MX.scope ?_
              refine MX.seq ?_
              refine MX.region ?_
              refine RG.val' .plain (FV.move rfl) rfl ?_
              refine RG.new .plain rfl (Does.build (α := Int) (xs := ([z2742] : List Int)) (vs := [.int .i64 z2742]) (ds' := [.int .i64 z2742]) rfl hS2749 el22 rfl (evs_cons rfl evs_nil) (by kernel_rfl) rfl) (fun w2765 b2768 hS2766 hT2767 => ?_)
              have hc2769 : Cells w2765 (bl [.row w.heap.size 3 (Rep.size Int) (.slice (some ⟨b2768, 0, none⟩) 1 1) (([z2742] : List Int).length) [.int .i64 z2742], .row w.heap.size 3 (Rep.size Int) v2746 xs2743.length cs2744, .cells b33 [.int .u64 (u2747.toNat : Int), .int .i64 a0.fN, v0_1, .int .u64 (a1.toNat : Int), .int .i64 z2748] 74, .cells b15 [.int .u64 0] 37, .cells b5 [.int .i64 a0.fN, v0_1] 40] ++ L) [.int .i64 z2742] (([z2742] : List Int) : List Int) := Cells.cons (cs := [.int .i64 z2742]) (ds := []) rfl (Cells.nil _ _)
              refine RG.val' .plain (FV.assign rfl) rfl ?_
              refine RG.nil ?_
              refine MX.seq ?_
              refine MX.region ?_
              refine RG.val' .plain (FV.move rfl) rfl ?_
              refine RG.val' .plain (FV.makeFunc (vs := [.pointer (some ⟨b33, 0, none⟩)]) (us := []) (evs_cons rfl evs_nil) evs_nil) rfl ?_
              refine RG.val' .plain (FV.assign rfl) rfl ?_
              refine RG.nil ?_
              refine MX.seq ?_
              refine MX.label ?_
              refine MX.seq ?_
              refine MX.seq ?_
              refine MX.region ?_
              refine RG.val' .plain (FV.move rfl) rfl ?_
              refine RG.val' .plain (FV.assign rfl) rfl ?_
              refine RG.nil ?_
              refine MX.block ?_
              obtain ⟨o3432, ho3431, hh3433⟩ := thn_in h
              refine MX.loop (α := Int × (List Int) × UInt64 × Int × Value × (List Value)) (fun ⟨z3420, xs3421, u3425, z3426, v3424, cs3422⟩ => [(0, .pointer (some ⟨b33, 0, none⟩)), (2, .int .u64 (u2741.toNat : Int)), (8, v3424), (9, .func (.func 61) #[.pointer (some ⟨b33, 0, none⟩)] #[]), (10, .int .i64 z3420)]) (fun ⟨z3420, xs3421, u3425, z3426, v3424, cs3422⟩ wx3426 => St w wx3426 [.row w.heap.size 3 (Rep.size Int) v3424 xs3421.length cs3422, .row w.heap.size 3 (Rep.size Int) v2746 xs2743.length cs2744, .cells b33 [.int .u64 (u3425.toNat : Int), .int .i64 a0.fN, v0_1, .int .u64 (a1.toNat : Int), .int .i64 z3426] 74, .cells b15 [.int .u64 0] 37, .cells b5 [.int .i64 a0.fN, v0_1] 40] ∧ Tr w2765 [.row w.heap.size 3 (Rep.size Int) (.slice (some ⟨b2768, 0, none⟩) 1 1) (([z2742] : List Int).length) [.int .i64 z2742], .row w.heap.size 3 (Rep.size Int) v2746 xs2743.length cs2744, .cells b33 [.int .u64 (u2747.toNat : Int), .int .i64 a0.fN, v0_1, .int .u64 (a1.toNat : Int), .int .i64 z2748] 74, .cells b15 [.int .u64 0] 37, .cells b5 [.int .i64 a0.fN, v0_1] 40] wx3426 [.row w.heap.size 3 (Rep.size Int) v3424 xs3421.length cs3422, .row w.heap.size 3 (Rep.size Int) v2746 xs2743.length cs2744, .cells b33 [.int .u64 (u3425.toNat : Int), .int .i64 a0.fN, v0_1, .int .u64 (a1.toNat : Int), .int .i64 z3426] 74, .cells b15 [.int .u64 0] 37, .cells b5 [.int .i64 a0.fN, v0_1] 40] ∧ Cells wx3426 (bl [.row w.heap.size 3 (Rep.size Int) v3424 xs3421.length cs3422, .row w.heap.size 3 (Rep.size Int) v2746 xs2743.length cs2744, .cells b33 [.int .u64 (u3425.toNat : Int), .int .i64 a0.fN, v0_1, .int .u64 (a1.toNat : Int), .int .i64 z3426] 74, .cells b15 [.int .u64 0] 37, .cells b5 [.int .i64 a0.fN, v0_1] 40] ++ L) cs3422 xs3421) (fun ⟨z3420, xs3421, u3425, z3426, v3424, cs3422⟩ => (z3420, xs3421, u3425, z3426)) (z2742, ([z2742] : List Int), u2747, z2748, (.slice (some ⟨b2768, 0, none⟩) 1 1), [.int .i64 z2742]) ho3431 ⟨rfl, rfl, rfl, rfl, rfl, trivial⟩ ⟨hS2766, Tr.refl _ _, hc2769⟩ ?_
              rintro J3434 ⟨z3420, xs3421, u3425, z3426, v3424, cs3422⟩ wx3426 hJ3435 ⟨hS3427, hT3428, hc3423⟩ h
              unfold wilson_Draw_l4 at h
              try dsimp only at h
              refine MX.block ?_
              refine MX.seq ?_
              refine MX.seq ?_
              refine MX.region ?_
              refine RG.val' .plain (FV.move rfl) rfl ?_
              refine RG.val' .plain (FV.move rfl) rfl ?_
              obtain ⟨k3436, hk3436, h⟩ := bind_in h
              refine RG.val' .plain (FV.shrI (a := u2741) (i := z3420) rfl rfl hk3436) rfl ?_
              refine RG.val' .plain (FV.andU (a := shrU u2741 k3436) (b := (1 : UInt64)) rfl rfl) rfl ?_
              refine RG.val' .plain (FV.eqlU (a := (shrU u2741 k3436) &&& (1 : UInt64)) (b := (1 : UInt64)) rfl rfl) rfl ?_
              refine RG.nil ?_
              refine MX.ifd rfl h (fun c3437 h => ?_) (fun c3437 h => ?_)
              · skip
                refine MX.exit rfl ?_
                have h := thn_inr h hh3433
                try dsimp only at h
                refine MX.seq ?_
                refine MX.region ?_
                refine RG.val' .plain (FV.move rfl) rfl ?_
                refine RG.val' .plain (FV.assign rfl) rfl ?_
                refine RG.val' .plain (FV.assign rfl) rfl ?_
                refine RG.nil ?_
                refine MX.ret rfl ?_
                refine RT.leave (u := .tuple #[v3424, .int .i64 0]) hb2762 Tryd.func34 rfl (.cons (.tmp rfl) (.cons (.tmp rfl) .nil)) rfl ?_
                refine RG.val' .plain (FV.move rfl) rfl ?_
                refine RG.val' .plain (FV.extract rfl rfl) rfl ?_
                refine RG.val' .plain (FV.extract rfl rfl) rfl ?_
                refine RG.val' .plain (FV.assign rfl) rfl ?_
                refine RG.val' .plain (FV.assign rfl) rfl ?_
                refine RG.nil ?_
                refine MX.seq ?_
                refine MX.seq ?_
                refine MX.region ?_
                refine RG.val' .plain (FV.move rfl) rfl ?_
                refine RG.val' .plain (FV.neqN (i := 0) (j := 0) rfl rfl) rfl ?_
                refine RG.nil ?_
                refine MX.cond_f rfl ?_
                refine MX.skip ?_
                refine MX.seq ?_
                refine MX.region ?_
                refine RG.val' .plain (FV.move rfl) rfl ?_
                have hr3439 := St.freeze (α := Int) hS3427 .hd hc3423 hL
                have hS3440 := hS3427.del (.hd : Out _ _ _).del
                have hT3441 := Tr.del (w := wx3426) (.hd : Out [.row w.heap.size 3 (Rep.size Int) v3424 xs3421.length cs3422, .row w.heap.size 3 (Rep.size Int) v2746 xs2743.length cs2744, .cells b33 [.int .u64 (u3425.toNat : Int), .int .i64 a0.fN, v0_1, .int .u64 (a1.toNat : Int), .int .i64 z3426] 74, .cells b15 [.int .u64 0] 37, .cells b5 [.int .i64 a0.fN, v0_1] 40] _ _).del
                have hr3442 : Rep.R wx3426 (bl [.row w.heap.size 3 (Rep.size Int) v2746 xs2743.length cs2744, .cells b33 [.int .u64 (u3425.toNat : Int), .int .i64 a0.fN, v0_1, .int .u64 (a1.toNat : Int), .int .i64 z3426] 74, .cells b15 [.int .u64 0] 37, .cells b5 [.int .i64 a0.fN, v0_1] 40] ++ L) [v3424] xs3421 := hr3439
                obtain ⟨y3438, hy3438, h⟩ := bind_in h
                refine RG.call' (fst := []) (cap := []) .plain body30 rfl (evs_cons rfl evs_nil) (fun w9 hw9 => wilson_erased_c n _ w9 (hS3440.hL hL hw9) xs3421 (Rep.keep0 hr3442 hw9) hy3438) rfl (fun w3443 vu3444 hag3445 ⟨v3448, hu_, hr3449⟩ => ?_)
                subst hu_
                have hS3446 := hS3440.agree hag3445
                have hT3447 := Tr.agree (O := [.row w.heap.size 3 (Rep.size Int) v2746 xs2743.length cs2744, .cells b33 [.int .u64 (u3425.toNat : Int), .int .i64 a0.fN, v0_1, .int .u64 (a1.toNat : Int), .int .i64 z3426] 74, .cells b15 [.int .u64 0] 37, .cells b5 [.int .i64 a0.fN, v0_1] 40]) hag3445
                refine RG.val' .plain (FV.assign rfl) rfl ?_
                refine RG.nil ?_
                refine MX.seq ?_
                refine MX.region ?_
                refine RG.val' .plain (FV.move rfl) rfl ?_
                have hl3450 : y3438.length ≤ 281474976710656 := Rep.lenle hr3449
                refine RG.val' .plain (FV.len (xs := y3438) Tryd.underlying22 rfl hr3449) rfl ?_
                refine RG.val' .plain (FV.move rfl) rfl ?_
                refine RG.nil ?_
                refine MX.block ?_
                have hm3662 := Cells.mv hc2745 (Tr.trans hT2767 (Tr.trans hT3428 (Tr.trans hT3441 hT3447)))
                obtain ⟨o3674, ho3673, hh3675⟩ := bind_in2 h
                refine MX.loop (α := UInt64 × Nat × (List Int) × Value × (List Value)) (fun ⟨u3663, i3664, xs3665, v3668, cs3666⟩ => [(1, .int .u64 (a1.toNat : Int)), (3, .pointer (some ⟨b5, 0, none⟩)), (6, v3668), (7, .pointer (some ⟨b15, 0, none⟩)), (12, .pointer (some ⟨b33, 0, none⟩)), (13, .int .u64 (u3663.toNat : Int)), (54, .int .i64 a0.fN), (55, .int .i64 z2742), (15, vu3444), (78, vu3444), (79, .int .i64 ((y3438.length : Nat) : Int)), (80, .int .i64 ((i3664 : Nat) : Int))]) (fun ⟨u3663, i3664, xs3665, v3668, cs3666⟩ wx3668 => St w wx3668 [.row w.heap.size 3 (Rep.size Int) v3668 xs3665.length cs3666, .cells b33 [.int .u64 (u3425.toNat : Int), .int .i64 a0.fN, v0_1, .int .u64 (a1.toNat : Int), .int .i64 z3426] 74, .cells b15 [.int .u64 0] 37, .cells b5 [.int .i64 a0.fN, v0_1] 40] ∧ Tr w3443 [.row w.heap.size 3 (Rep.size Int) v2746 xs2743.length cs2744, .cells b33 [.int .u64 (u3425.toNat : Int), .int .i64 a0.fN, v0_1, .int .u64 (a1.toNat : Int), .int .i64 z3426] 74, .cells b15 [.int .u64 0] 37, .cells b5 [.int .i64 a0.fN, v0_1] 40] wx3668 [.row w.heap.size 3 (Rep.size Int) v3668 xs3665.length cs3666, .cells b33 [.int .u64 (u3425.toNat : Int), .int .i64 a0.fN, v0_1, .int .u64 (a1.toNat : Int), .int .i64 z3426] 74, .cells b15 [.int .u64 0] 37, .cells b5 [.int .i64 a0.fN, v0_1] 40] ∧ Cells wx3668 (bl [.row w.heap.size 3 (Rep.size Int) v3668 xs3665.length cs3666, .cells b33 [.int .u64 (u3425.toNat : Int), .int .i64 a0.fN, v0_1, .int .u64 (a1.toNat : Int), .int .i64 z3426] 74, .cells b15 [.int .u64 0] 37, .cells b5 [.int .i64 a0.fN, v0_1] 40] ++ L) cs3666 xs3665) (fun ⟨u3663, i3664, xs3665, v3668, cs3666⟩ => (u3663, i3664, xs3665)) (u2741, 0, xs2743, v2746, cs2744) ho3673 ⟨rfl, rfl, rfl, rfl, rfl, rfl, rfl, rfl, rfl, rfl, rfl, rfl, trivial⟩ ⟨hS3446, Tr.refl _ _, hm3662⟩ ?_
                rintro J3676 ⟨u3663, i3664, xs3665, v3668, cs3666⟩ wx3668 hJ3677 ⟨hS3669, hT3670, hc3667⟩ h
                unfold wilson_Draw_l1 at h
                try dsimp only at h
                refine MX.seq ?_
                refine MX.region ?_
                refine RG.val' .plain (FV.lssN (i := i3664) (j := y3438.length) rfl rfl) rfl ?_
                refine RG.nil ?_
                refine MX.seq ?_
                refine MX.ifd rfl h (fun c3678 h => ?_) (fun c3678 h => ?_)
                · skip
                  refine MX.skip ?_
                  refine MX.seq ?_
                  refine MX.block ?_
                  refine MX.seq ?_
                  refine MX.region ?_
                  refine RG.val' .plain (FV.move rfl) rfl ?_
                  obtain ⟨x3679, hx3679, h⟩ := bind_in h
                  have hm3687 := Rep.mv hr3449 hT3670
                  obtain ⟨A3680, c3681, he3682, hk3683, cs3684, hr3685, hm3686⟩ := Rep.nth hm3687 hx3679
                  have he3688 : cs3684 = [.int .i64 x3679] := hr3685; subst he3688
                  refine RG.val' .plain (FV.idxAddr (m := 1) (i := i3664) (by kernel_rfl) rfl he3682 rfl rfl hk3683) rfl ?_
                  refine RG.val' .plain (FV.load1 (by kernel_rfl) rfl (hm3686 0 _ rfl)) rfl ?_
                  refine RG.val' .plain (FV.assign rfl) rfl ?_
                  refine RG.val' .plain (FV.assign rfl) rfl ?_
                  refine RG.nil ?_
                  refine MX.seq ?_
                  refine MX.region ?_
                  refine RG.val' .plain (FV.move rfl) rfl ?_
                  refine RG.val' .plain (FV.move rfl) rfl ?_
                  obtain ⟨k3689, hk3689, h⟩ := bind_in h
                  refine RG.val' .plain (FV.shlI (a := (1 : UInt64)) (i := x3679) rfl rfl hk3689) rfl ?_
                  refine RG.val' .plain (FV.orU (a := u3663) (b := shlU (1 : UInt64) k3689) rfl rfl) rfl ?_
                  refine RG.val' .plain (FV.assign rfl) rfl ?_
                  refine RG.nil ?_
                  refine MX.seq ?_
                  refine MX.region ?_
                  refine RG.val' .plain (FV.move rfl) rfl ?_
                  refine RG.val' .plain (FV.gtrN (i := i3664) (j := 0) rfl rfl) rfl ?_
                  refine RG.nil ?_
                  refine MX.join (α := (List Int) × Value × (List Value)) (fun ⟨xs3727, v3730, cs3728⟩ => [(1, .int .u64 (a1.toNat : Int)), (3, .pointer (some ⟨b5, 0, none⟩)), (6, v3730), (7, .pointer (some ⟨b15, 0, none⟩)), (12, .pointer (some ⟨b33, 0, none⟩)), (13, .int .u64 ((u3663 ||| (shlU (1 : UInt64) k3689)).toNat : Int)), (54, .int .i64 a0.fN), (55, .int .i64 z2742), (15, vu3444), (78, vu3444), (79, .int .i64 ((y3438.length : Nat) : Int)), (80, .int .i64 ((i3664 : Nat) : Int))]) (fun ⟨xs3727, v3730, cs3728⟩ wx3730 => St w wx3730 [.row w.heap.size 3 (Rep.size Int) v3730 xs3727.length cs3728, .cells b33 [.int .u64 (u3425.toNat : Int), .int .i64 a0.fN, v0_1, .int .u64 (a1.toNat : Int), .int .i64 z3426] 74, .cells b15 [.int .u64 0] 37, .cells b5 [.int .i64 a0.fN, v0_1] 40] ∧ Tr wx3668 [.row w.heap.size 3 (Rep.size Int) v3668 xs3665.length cs3666, .cells b33 [.int .u64 (u3425.toNat : Int), .int .i64 a0.fN, v0_1, .int .u64 (a1.toNat : Int), .int .i64 z3426] 74, .cells b15 [.int .u64 0] 37, .cells b5 [.int .i64 a0.fN, v0_1] 40] wx3730 [.row w.heap.size 3 (Rep.size Int) v3730 xs3727.length cs3728, .cells b33 [.int .u64 (u3425.toNat : Int), .int .i64 a0.fN, v0_1, .int .u64 (a1.toNat : Int), .int .i64 z3426] 74, .cells b15 [.int .u64 0] 37, .cells b5 [.int .i64 a0.fN, v0_1] 40] ∧ Cells wx3730 (bl [.row w.heap.size 3 (Rep.size Int) v3730 xs3727.length cs3728, .cells b33 [.int .u64 (u3425.toNat : Int), .int .i64 a0.fN, v0_1, .int .u64 (a1.toNat : Int), .int .i64 z3426] 74, .cells b15 [.int .u64 0] 37, .cells b5 [.int .i64 a0.fN, v0_1] 40] ++ L) cs3728 xs3727) (fun ⟨xs3727, v3730, cs3728⟩ => xs3727) h ?_ ?_
                  · skip
                    rintro ⟨xs3727, v3730, cs3728⟩ wx3730 ⟨hS3731, hT3732, hc3729⟩ h
                    try dsimp only at h
                    refine MX.inBlock ?_
                    refine MX.region ?_
                    refine RG.val' .plain (FV.addN (i := i3664) (j := 1) rfl rfl (by omega)) rfl ?_
                    refine RG.val' .plain (FV.move rfl) rfl ?_
                    refine RG.nil ?_
                    exact hJ3677 (u3663 ||| (shlU (1 : UInt64) k3689), i3664 + 1, xs3727, v3730, cs3728) _ _ ⟨rfl, rfl, rfl, rfl, rfl, rfl, rfl, rfl, rfl, rfl, rfl, rfl, trivial⟩ ⟨hS3731, (Tr.trans hT3670 hT3732), hc3729⟩ h
                  · skip
                    intro J3734 hJ3735 h
                    try dsimp only at h
                    refine MX.ifd rfl h (fun c3736 h => ?_) (fun c3736 h => ?_)
                    · skip
                      refine MX.seq ?_
                      refine MX.drawT 16 tb14_24 (by kernel_rfl) (by kernel_rfl) (by kernel_rfl) (fun kt3737 kp3738 => ?_)
                      refine RD.valP (i := 0) (m' := 1) (takePC_ok kt3737 (by kernel_rfl)) rfl kp3738 .plain (fun _ => FV.move rfl) rfl ?_
                      refine RD.valP (i := 1) (m' := 3) (takePC_ok kt3737 (by kernel_rfl)) rfl kp3738 .plain (fun _ => FV.move rfl) rfl ?_
                      refine RD.valP (i := 2) (m' := 7) (takePC_ok kt3737 (by kernel_rfl)) rfl kp3738 .plain (fun _ => FV.move rfl) rfl ?_
                      refine RD.valP (i := 3) (m' := 15) (takePC_ok kt3737 (by kernel_rfl)) rfl kp3738 .plain (fun _ => FV.subN (i := i3664) (j := 1) rfl rfl (by omega) (by omega)) rfl ?_
                      obtain ⟨x3739, hx3739, h⟩ := bind_in h
                      obtain ⟨A3740, c3741, he3742, hk3743, cs3744, hr3745, hm3746⟩ := Rep.nth hm3687 hx3739
                      have he3747 : cs3744 = [.int .i64 x3739] := hr3745; subst he3747
                      refine RD.valP (i := 4) (m' := 31) (takePC_ok kt3737 (by kernel_rfl)) rfl kp3738 .plain (fun _ => FV.idxAddr (m := 1) (i := i3664 - 1) (by kernel_rfl) rfl he3742 rfl rfl hk3743) rfl ?_
                      refine RD.val (i := 5) (m' := 63) (W := 81984) (takeC_ok kt3737 (by kernel_rfl)) rfl kp3738 .plain (FV.load1 (by kernel_rfl) rfl (hm3746 0 _ rfl)) rfl ?_
                      refine RD.valP (i := 6) (m' := 127) (takePC_ok kt3737 (by kernel_rfl)) rfl kp3738 .plain (fun _ => FV.min2 (i := x3679) (j := x3739) rfl rfl) rfl ?_
                      refine RD.valP (i := 7) (m' := 255) (takePC_ok kt3737 (by kernel_rfl)) rfl kp3738 .plain (fun _ => FV.move rfl) rfl ?_
                      refine RD.valP (i := 8) (m' := 511) (takePC_ok kt3737 (by kernel_rfl)) rfl kp3738 .plain (fun _ => FV.move rfl) rfl ?_
                      refine RD.valP (i := 9) (m' := 1023) (takePC_ok kt3737 (by kernel_rfl)) rfl kp3738 .plain (fun _ => FV.move rfl) rfl ?_
                      refine RD.valP (i := 10) (m' := 2047) (takePC_ok kt3737 (by kernel_rfl)) rfl kp3738 .plain (fun _ => FV.subN (i := i3664) (j := 1) rfl rfl (by omega) (by omega)) rfl ?_
                      refine RD.valP (i := 11) (m' := 4095) (takePC_ok kt3737 (by kernel_rfl)) rfl kp3738 .plain (fun _ => FV.idxAddr (m := 1) (i := i3664 - 1) (by kernel_rfl) rfl he3742 rfl rfl hk3743) rfl ?_
                      refine RD.val (i := 12) (m' := 8191) (W := 90112) (takeC_ok kt3737 (by kernel_rfl)) rfl kp3738 .plain (FV.load1 (by kernel_rfl) rfl (hm3746 0 _ rfl)) rfl ?_
                      refine RD.valP (i := 13) (m' := 16383) (takePC_ok kt3737 (by kernel_rfl)) rfl kp3738 .plain (fun _ => FV.max2 (i := x3679) (j := x3739) rfl rfl) rfl ?_
                      refine RD.valP (i := 14) (m' := 32767) (takePC_ok kt3737 (by kernel_rfl)) rfl kp3738 .plain (fun _ => FV.buildV (vs := [.int .i64 (min x3679 x3739), .int .i64 (max x3679 x3739)]) (u := .agg #[.int .i64 (min x3679 x3739), .int .i64 (max x3679 x3739)]) (evs_cons rfl (evs_cons rfl evs_nil)) (fun w9 => by kernel_rfl)) rfl ?_
                      refine RD.one (i := 15) (readyD_ok kt3737 (by kernel_rfl)) (RO.new (m' := 65535) (stepC_ok kt3737 (by kernel_rfl)) rfl .plain rfl (Does.alloc (zs := [.int .i64 0, .int .i64 0]) hS3669 (zB (by kernel_rfl))) (fun w3749 b3752 hS3750 hT3751 => ?_))
                      refine RD.one (i := 16) (readyD_ok kt3737 (by kernel_rfl)) (RO.now (m' := 131071) (stepC_ok kt3737 (by kernel_rfl)) rfl rfl .plain (Acts.store (j := 0) (old := [.int .i64 0, .int .i64 0]) (news := [.int .i64 (min x3679 x3739), .int .i64 (max x3679 x3739)]) (new' := [.int .i64 (min x3679 x3739), .int .i64 (max x3679 x3739)]) hS3750 .hd rfl rfl rfl rfl rfl rfl (ones_cons rfl (ones_cons rfl ones_nil)) rfl) (fun w3753 hS3754 hT3755 => ?_))
                      refine RD.done (doneD_ok kt3737 (by kernel_rfl)) ?_
                      refine MX.region ?_
                      refine RG.val' .plain (FV.move rfl) rfl ?_
                      refine RG.val' .plain (FV.fieldAddr (off := 1) (by kernel_rfl) rfl) rfl ?_
                      refine RG.val' .plain (FV.load1 (by kernel_rfl) rfl ((hS3754.memA (.tl (.tl (.tl (.tl .hd))))) 1 _ rfl)) rfl ?_
                      refine RG.val' .plain (FV.loadN (cs := [.int .i64 (min x3679 x3739), .int .i64 (max x3679 x3739)]) (by kernel_rfl) rfl (hS3754.memA .hd)) rfl ?_
                      obtain ⟨y3756, hy3756, h⟩ := bind_in h
                      have hm3757 := Rep.mv h0_1 (Tr.trans hT4 (Tr.trans hT9 (Tr.trans hT14 (Tr.trans hT32 (Tr.trans hT36 (Tr.trans hT2739 (Tr.trans hT2750 (Tr.trans hT2767 (Tr.trans hT3428 (Tr.trans hT3441 (Tr.trans hT3447 (Tr.trans hT3670 (Tr.trans hT3751 hT3755)))))))))))))
                      refine RG.callq' (v := .int .i64 y3756) (fst := []) (cap := []) .plain body16 rfl (evs_cons rfl (evs_cons rfl evs_nil)) (fun w9 hw9 => slices_Index_2_int_2_int_c n _ w9 (hS3754.hL0 hL hw9) a0.fEdges (Rep.keep0 (Rep.dropO (O := [.cells b3752 [.int .i64 (min x3679 x3739), .int .i64 (max x3679 x3739)] 46, .row w.heap.size 3 (Rep.size Int) v3668 xs3665.length cs3666, .cells b33 [.int .u64 (u3425.toNat : Int), .int .i64 a0.fN, v0_1, .int .u64 (a1.toNat : Int), .int .i64 z3426] 74, .cells b15 [.int .u64 0] 37, .cells b5 [.int .i64 a0.fN, v0_1] 40]) hm3757) hw9) (min x3679 x3739, max x3679 x3739) hy3756) rfl ?_
                      refine RG.new .plain rfl (Does.build (α := Int) (xs := ([y3756] : List Int)) (vs := [.int .i64 y3756]) (ds' := [.int .i64 y3756]) rfl hS3754 el22 rfl (evs_cons rfl evs_nil) (by kernel_rfl) rfl) (fun w3759 b3762 hS3760 hT3761 => ?_)
                      have hc3763 : Cells w3759 (bl [.row w.heap.size 3 (Rep.size Int) (.slice (some ⟨b3762, 0, none⟩) 1 1) (([y3756] : List Int).length) [.int .i64 y3756], .cells b3752 [.int .i64 (min x3679 x3739), .int .i64 (max x3679 x3739)] 46, .row w.heap.size 3 (Rep.size Int) v3668 xs3665.length cs3666, .cells b33 [.int .u64 (u3425.toNat : Int), .int .i64 a0.fN, v0_1, .int .u64 (a1.toNat : Int), .int .i64 z3426] 74, .cells b15 [.int .u64 0] 37, .cells b5 [.int .i64 a0.fN, v0_1] 40] ++ L) [.int .i64 y3756] (([y3756] : List Int) : List Int) := Cells.cons (cs := [.int .i64 y3756]) (ds := []) rfl (Cells.nil _ _)
                      obtain ⟨xs3764, hxs3764, h⟩ := bind_in h
                      have hm3765 := Cells.mv hc3667 (Tr.trans hT3751 (Tr.trans hT3755 hT3761))
                      refine RG.doesL .plain rfl (DoesL.app (α := Int) (ys := ([y3756] : List Int)) (F := fun v' cs' => [.row w.heap.size 3 (Rep.size Int) (.slice (some ⟨b3762, 0, none⟩) 1 1) (([y3756] : List Int).length) [.int .i64 y3756], .cells b3752 [.int .i64 (min x3679 x3739), .int .i64 (max x3679 x3739)] 46, .row w.heap.size 3 (Rep.size Int) v' xs3764.length cs', .cells b33 [.int .u64 (u3425.toNat : Int), .int .i64 a0.fN, v0_1, .int .u64 (a1.toNat : Int), .int .i64 z3426] 74, .cells b15 [.int .u64 0] 37, .cells b5 [.int .i64 a0.fN, v0_1] 40]) hxs3764 hS3760 (fun _ _ => (.tl (.tl .hd))) el22 rfl rfl hm3765 (Src.row (α := Int) hS3760 .hd hc3763)) (fun v3771 w3766 ⟨cs3770, hS3767, hT3768, hc3769⟩ => ?_)
                      refine RG.val' .plain (FV.assign rfl) rfl ?_
                      refine RG.nil ?_
                      have hS3773 : St _ _ [.row w.heap.size 3 (Rep.size Int) v3771 xs3764.length cs3770, .cells b33 [.int .u64 (u3425.toNat : Int), .int .i64 a0.fN, v0_1, .int .u64 (a1.toNat : Int), .int .i64 z3426] 74, .cells b15 [.int .u64 0] 37, .cells b5 [.int .i64 a0.fN, v0_1] 40] := hS3767.arr (.one (.tl (.tl .hd)) (.one (.tl (.tl .hd)) (.one (.tl (.tl .hd)) (.one (.tl (.tl .hd)) .done))))
                      have hT3774 : Tr w3766 _ w3766 [.row w.heap.size 3 (Rep.size Int) v3771 xs3764.length cs3770, .cells b33 [.int .u64 (u3425.toNat : Int), .int .i64 a0.fN, v0_1, .int .u64 (a1.toNat : Int), .int .i64 z3426] 74, .cells b15 [.int .u64 0] 37, .cells b5 [.int .i64 a0.fN, v0_1] 40] := Tr.arr (St.arrOf hS3767 (.one (.tl (.tl .hd)) (.one (.tl (.tl .hd)) (.one (.tl (.tl .hd)) (.one (.tl (.tl .hd)) .done)))))
                      have hm3775 := Cells.mv hc3769 hT3774
                      exact hJ3735 (xs3764, v3771, cs3770) _ _ ⟨rfl, rfl, rfl, rfl, rfl, rfl, rfl, rfl, rfl, rfl, rfl, rfl, trivial⟩ ⟨hS3773, (Tr.trans hT3751 (Tr.trans hT3755 (Tr.trans hT3761 (Tr.trans hT3768 hT3774)))), hm3775⟩ h
                    · skip
                      refine MX.skip ?_
                      exact hJ3735 (xs3665, v3668, cs3666) _ _ ⟨rfl, rfl, rfl, rfl, rfl, rfl, rfl, rfl, rfl, rfl, rfl, rfl, trivial⟩ ⟨hS3669, Tr.refl _ _, hc3667⟩ h
                · skip
                  refine MX.exit rfl ?_
                  have h := hh3675 _ h
                  try dsimp only at h
                  refine MX.inBlock ?_
                  refine MX.region ?_
                  obtain ⟨s3776, hs3776, h⟩ := bind_in h
                  refine RG.val' .plain (FV.addc (i := z2742) (j := 1) rfl rfl hs3776) rfl ?_
                  refine RG.val' .plain (FV.move rfl) rfl ?_
                  refine RG.nil ?_
                  exact hJ2757 (u3663, s3776, xs3665, u3425, z3426, v3668, cs3666) _ _ ⟨rfl, rfl, rfl, rfl, rfl, rfl, rfl, rfl, trivial⟩ ⟨hS3669, (Tr.trans hT2750 (Tr.trans hT2767 (Tr.trans hT3428 (Tr.trans hT3441 (Tr.trans hT3447 hT3670))))), hc3667⟩ h
              · skip
                refine MX.skip ?_
                refine MX.seq ?_
                refine MX.seq ?_
                refine MX.region ?_
                refine RG.val' .plain (FV.move rfl) rfl ?_
                refine RG.val' .plain (FV.nilCheck rfl) rfl ?_
                refine RG.val' .plain (FV.fieldAddr (off := 4) (by kernel_rfl) rfl) rfl ?_
                refine RG.val' .plain (FV.load1 (by kernel_rfl) rfl ((hS3427.memA (.tl (.tl .hd))) 4 _ rfl)) rfl ?_
                refine RG.val' .plain (FV.eql (i := z3426) (j := 0) rfl rfl) rfl ?_
                refine RG.nil ?_
                refine MX.ifd rfl h (fun c3777 h => ?_) (fun c3777 h => ?_)
                · skip
                  refine MX.seq ?_
                  refine MX.region ?_
                  refine RG.val' .plain (FV.assign rfl) rfl ?_
                  refine RG.val' .plain (FV.assign rfl) rfl ?_
                  refine RG.nil ?_
                  have h := thn_inl h hh3433
                  refine MX.ret rfl ?_
                  refine RT.leave (u := .tuple #[.slice none 0 0, .int .i64 9]) hb2762 Tryd.func34 rfl (.cons (.tmp rfl) (.cons (.tmp rfl) .nil)) rfl ?_
                  refine RG.val' .plain (FV.move rfl) rfl ?_
                  refine RG.val' .plain (FV.extract rfl rfl) rfl ?_
                  refine RG.val' .plain (FV.extract rfl rfl) rfl ?_
                  refine RG.val' .plain (FV.assign rfl) rfl ?_
                  refine RG.val' .plain (FV.assign rfl) rfl ?_
                  refine RG.nil ?_
                  refine MX.seq ?_
                  refine MX.seq ?_
                  refine MX.region ?_
                  refine RG.val' .plain (FV.move rfl) rfl ?_
                  refine RG.val' .plain (FV.neqN (i := 9) (j := 0) rfl rfl) rfl ?_
                  refine RG.nil ?_
                  refine MX.cond_t rfl ?_
                  refine MX.seq ?_
                  refine MX.region ?_
                  refine RG.val' .plain (FV.buildV (vs := []) (u := .agg #[.int .u64 0]) evs_nil (fun w9 => by kernel_rfl)) rfl ?_
                  refine RG.val' .plain (FV.move rfl) rfl ?_
                  refine RG.val' .plain (FV.assign rfl) rfl ?_
                  refine RG.now .plain (Acts.store (j := 0) (old := [.int .u64 0]) (news := [.int .u64 0]) (new' := [.int .u64 0]) hS3427 (.tl (.tl (.tl .hd))) rfl rfl rfl rfl rfl rfl (ones_cons rfl ones_nil) rfl) (fun w3778 hS3779 hT3780 => ?_)
                  refine RG.val' .plain (FV.assign rfl) rfl ?_
                  refine RG.nil ?_
                  have h := thn_inl h hh2755
                  refine MX.ret rfl ?_
                  have hr3781 : Rep.R w3778 (bl [.row w.heap.size 3 (Rep.size Int) v3424 xs3421.length cs3422, .row w.heap.size 3 (Rep.size Int) v2746 xs2743.length cs2744, .cells b33 [.int .u64 (u3425.toNat : Int), .int .i64 a0.fN, v0_1, .int .u64 (a1.toNat : Int), .int .i64 z3426] 74, .cells b15 [.int .u64 0] 37, .cells b5 [.int .i64 a0.fN, v0_1] 40] ++ L) [.slice none 0 0] ([] : List Int) := Rep.nilSlice _ _
                  refine RT.leave (u := .tuple #[.slice none 0 0, .agg #[.int .u64 0], .int .i64 9]) hb0 Tryd.func14 rfl (.cons (.tmp rfl) (.cons (.many (cs := [.int .u64 0]) (by kernel_rfl) rfl (hS3779.memA (.tl (.tl (.tl .hd))))) (.cons (.tmp rfl) .nil))) rfl ?_
                  obtain rfl := Option.some.inj h
                  have hr3782 : Rep.R w3778 (bl [.row w.heap.size 3 (Rep.size Int) v3424 xs3421.length cs3422, .row w.heap.size 3 (Rep.size Int) v2746 xs2743.length cs2744, .cells b33 [.int .u64 (u3425.toNat : Int), .int .i64 a0.fN, v0_1, .int .u64 (a1.toNat : Int), .int .i64 z3426] 74, .cells b15 [.int .u64 0] 37, .cells b5 [.int .i64 a0.fN, v0_1] 40] ++ L) [.slice none 0 0] ([] : List Int) := Rep.nilSlice _ _
                  exact ⟨hS3779.ag, fun w9 hw9 => ⟨(.slice none 0 0), rfl, Rep.keep0 (Rep.dropO (O := [.row w.heap.size 3 (Rep.size Int) v3424 xs3421.length cs3422, .row w.heap.size 3 (Rep.size Int) v2746 xs2743.length cs2744, .cells b33 [.int .u64 (u3425.toNat : Int), .int .i64 a0.fN, v0_1, .int .u64 (a1.toNat : Int), .int .i64 z3426] 74, .cells b15 [.int .u64 0] 37, .cells b5 [.int .i64 a0.fN, v0_1] 40]) hr3782) hw9⟩⟩
                · skip
                  refine MX.skip ?_
                  refine MX.seq ?_
                  refine MX.region ?_
                  refine RG.val' .plain (FV.move rfl) rfl ?_
                  refine RG.val' .plain (FV.nilCheck rfl) rfl ?_
                  refine RG.val' .plain (FV.fieldAddr (off := 4) (by kernel_rfl) rfl) rfl ?_
                  refine RG.val' .plain (FV.load1 (by kernel_rfl) rfl ((hS3427.memA (.tl (.tl .hd))) 4 _ rfl)) rfl ?_
                  obtain ⟨s3783, hs3783, h⟩ := bind_in h
                  refine RG.val' .plain (FV.subc (i := z3426) (j := 1) rfl rfl hs3783) rfl ?_
                  refine RG.val' .plain (FV.nilCheck rfl) rfl ?_
                  refine RG.val' .plain (FV.fieldAddr (off := 4) (by kernel_rfl) rfl) rfl ?_
                  refine RG.now .plain (Acts.store (j := 4) (old := [.int .u64 (u3425.toNat : Int), .int .i64 a0.fN, v0_1, .int .u64 (a1.toNat : Int), .int .i64 z3426]) (news := [.int .i64 s3783]) (new' := [.int .u64 (u3425.toNat : Int), .int .i64 a0.fN, v0_1, .int .u64 (a1.toNat : Int), .int .i64 s3783]) hS3427 (.tl (.tl .hd)) rfl rfl rfl rfl rfl rfl (ones_cons rfl ones_nil) rfl) (fun w3784 hS3785 hT3786 => ?_)
                  refine RG.nil ?_
                  refine MX.seq ?_
                  refine MX.region ?_
                  refine RG.val' .plain (FV.move rfl) rfl ?_
                  refine RG.val' .plain (FV.move rfl) rfl ?_
                  refine RG.enter (fst := []) (cap := []) (vs := [.pointer (some ⟨b33, 0, none⟩), .int .i64 z3420]) .plain body64 Tryd.func64 rfl rfl rfl rfl (evs_cons rfl (evs_cons rfl evs_nil)) rfl (fun cs3788 hb3787 => ?_)
                  refine MX.seq ?_
                  refine MX.region ?_
                  refine RG.new .plain rfl (Does.box (vs := [.pointer (some ⟨b33, 0, none⟩)]) hS3785 rfl rfl) (fun w3790 b3793 hS3791 hT3792 => ?_)
                  refine RG.new .plain rfl (Does.box (vs := [.int .i64 z3420]) hS3791 rfl rfl) (fun w3795 b3798 hS3796 hT3797 => ?_)
                  refine RG.val' .plain (FV.assign rfl) rfl ?_
                  refine RG.nil ?_
                  refine MX.seq ?_
                  refine MX.region ?_
                  refine RG.val' .plain (FV.makeFunc (vs := []) (us := [.pointer (some ⟨b3793, 0, none⟩), .pointer (some ⟨b3798, 0, none⟩)]) evs_nil (evs_cons rfl (evs_cons rfl evs_nil))) rfl ?_
                  refine RG.val' .plain (FV.assign rfl) rfl ?_
                  refine RG.nil ?_
                  refine MX.ret rfl ?_
                  refine RT.leave (u := .func (.func 86) #[] #[.pointer (some ⟨b3793, 0, none⟩), .pointer (some ⟨b3798, 0, none⟩)]) hb3787 Tryd.func64 rfl (.cons (.tmp rfl) .nil) rfl ?_
                  refine RG.enter (fst := []) (cap := []) (vs := [.func (.func 86) #[] #[.pointer (some ⟨b3793, 0, none⟩), .pointer (some ⟨b3798, 0, none⟩)]]) .plain body63 Tryd.func63 rfl rfl rfl rfl (evs_cons rfl evs_nil) rfl (fun cs3800 hb3799 => ?_)
                  refine MX.seq ?_
                  refine MX.region ?_
                  refine RG.val' .plain (FV.assign rfl) rfl ?_
                  refine RG.nil ?_
                  refine MX.seq ?_
                  refine MX.region ?_
                  refine RG.val' .plain (FV.move rfl) rfl ?_
                  refine RG.enter (fst := []) (cap := []) (vs := [.slice none 0 0, .func (.func 86) #[] #[.pointer (some ⟨b3793, 0, none⟩), .pointer (some ⟨b3798, 0, none⟩)]]) .plain body85 Tryd.func85 rfl rfl rfl rfl (evs_cons rfl (evs_cons rfl evs_nil)) rfl (fun cs3802 hb3801 => ?_)
                  refine MX.seq ?_
                  refine MX.region ?_
                  refine RG.new .plain rfl (Does.box (vs := [.slice none 0 0]) hS3796 rfl rfl) (fun w3804 b3807 hS3805 hT3806 => ?_)
                  refine RG.val' .plain (FV.assign rfl) rfl ?_
                  refine RG.nil ?_
                  refine MX.seq ?_
                  refine MX.seq ?_
                  refine MX.region ?_
                  refine RG.val' .plain (FV.move rfl) rfl ?_
                  refine RG.nil ?_
                  refine MX.block ?_
                  have hS3809 := hS3805.nilRow 3 (Rep.size Int)
                  have hT3810 := Tr.nilRow (w := w3804) (O := [.cells b3807 [.slice none 0 0] 22, .cells b3798 [.int .i64 z3420] 3, .cells b3793 [.pointer (some ⟨b33, 0, none⟩)] 72, .row w.heap.size 3 (Rep.size Int) v3424 xs3421.length cs3422, .row w.heap.size 3 (Rep.size Int) v2746 xs2743.length cs2744, .cells b33 [.int .u64 (u3425.toNat : Int), .int .i64 a0.fN, v0_1, .int .u64 (a1.toNat : Int), .int .i64 s3783] 74, .cells b15 [.int .u64 0] 37, .cells b5 [.int .i64 a0.fN, v0_1] 40]) w.heap.size 3 (Rep.size Int)
                  have hc3811 : Cells w3804 (bl [.row w.heap.size 3 (Rep.size Int) (.slice none 0 0) (([] : List Int).length) [], .cells b3807 [.slice none 0 0] 22, .cells b3798 [.int .i64 z3420] 3, .cells b3793 [.pointer (some ⟨b33, 0, none⟩)] 72, .row w.heap.size 3 (Rep.size Int) v3424 xs3421.length cs3422, .row w.heap.size 3 (Rep.size Int) v2746 xs2743.length cs2744, .cells b33 [.int .u64 (u3425.toNat : Int), .int .i64 a0.fN, v0_1, .int .u64 (a1.toNat : Int), .int .i64 s3783] 74, .cells b15 [.int .u64 0] 37, .cells b5 [.int .i64 a0.fN, v0_1] 40] ++ L) [] ([] : List Int) := Cells.nil _ _
                  refine MX.range (lb := [.pointer (some ⟨b3793, 0, none⟩), .pointer (some ⟨b3798, 0, none⟩)]) rfl hS3809 rfl body86 Tryd.func86 rfl rfl rfl (fun w3812 lk3815 D3816 r3817 cs3820 hS3813 hT3814 rec3818 hb3819 => ?_)
                  refine MX.seq ?_
                  refine MX.region ?_
                  refine RG.val' .plain (FV.assign rfl) rfl ?_
                  refine RG.nil ?_
                  refine MX.seq ?_
                  refine MX.seq ?_
                  refine MX.region ?_
                  refine RG.val' .plain (FV.load1 (by kernel_rfl) rfl ((hS3813.memA (.tl (.tl (.tl (.tl (.tl .hd)))))) 0 _ rfl)) rfl ?_
                  refine RG.val' .plain (FV.nilCheck rfl) rfl ?_
                  refine RG.val' .plain (FV.fieldAddr (off := 1) (by kernel_rfl) rfl) rfl ?_
                  refine RG.val' .plain (FV.fieldAddr (off := 1) (by kernel_rfl) rfl) rfl ?_
                  refine RG.val' .plain (FV.load1 (by kernel_rfl) rfl ((mem_from (hS3813.memA (.tl (.tl (.tl (.tl (.tl (.tl (.tl (.tl .hd))))))))) 1) 1 _ rfl)) rfl ?_
                  have hm3824 := Rep.mv h0_1 (Tr.trans hT4 (Tr.trans hT9 (Tr.trans hT14 (Tr.trans hT32 (Tr.trans hT36 (Tr.trans hT2739 (Tr.trans hT2750 (Tr.trans hT2767 (Tr.trans hT3428 (Tr.trans hT3786 (Tr.trans hT3792 (Tr.trans hT3797 (Tr.trans hT3806 (Tr.trans hT3810 hT3814))))))))))))))
                  have hl3823 : a0.fEdges.length ≤ 281474976710656 := Rep.lenle hm3824
                  refine RG.val' .plain (FV.len (xs := a0.fEdges) Tryd.underlying38 rfl hm3824) rfl ?_
                  refine RG.val' .plain (FV.move rfl) rfl ?_
                  refine RG.nil ?_
                  refine MX.block ?_
                  obtain ⟨o3877, ho3876, hh3878⟩ := bind_in2 h
                  refine MX.loop (α := UInt64 × Nat) (fun ⟨u3870, i3871⟩ => [(0, .func (.yield lk3815) #[] #[]), (1, .pointer (some ⟨b3793, 0, none⟩)), (2, .pointer (some ⟨b3798, 0, none⟩)), (4, .int .u64 (u3870.toNat : Int)), (11, v0_1), (12, .int .i64 ((a0.fEdges.length : Nat) : Int)), (13, .int .i64 ((i3871 : Nat) : Int))]) (fun ⟨u3870, i3871⟩ wx3871 => St w wx3871 [.obj lk3815 (lpO r3817 .ready none), .obj D3816 (.deferred (some [])), .row w.heap.size 3 (Rep.size Int) (.slice none 0 0) (([] : List Int).length) [], .cells b3807 [(.slice none 0 0)] 22, .cells b3798 [.int .i64 z3420] 3, .cells b3793 [.pointer (some ⟨b33, 0, none⟩)] 72, .row w.heap.size 3 (Rep.size Int) v3424 xs3421.length cs3422, .row w.heap.size 3 (Rep.size Int) v2746 xs2743.length cs2744, .cells b33 [.int .u64 (u3425.toNat : Int), .int .i64 a0.fN, v0_1, .int .u64 (a1.toNat : Int), .int .i64 s3783] 74, .cells b15 [.int .u64 0] 37, .cells b5 [.int .i64 a0.fN, v0_1] 40] ∧ Tr w3812 [.obj lk3815 (lpO r3817 .ready none), .obj D3816 (.deferred (some [])), .row w.heap.size 3 (Rep.size Int) (.slice none 0 0) (([] : List Int).length) [], .cells b3807 [(.slice none 0 0)] 22, .cells b3798 [.int .i64 z3420] 3, .cells b3793 [.pointer (some ⟨b33, 0, none⟩)] 72, .row w.heap.size 3 (Rep.size Int) v3424 xs3421.length cs3422, .row w.heap.size 3 (Rep.size Int) v2746 xs2743.length cs2744, .cells b33 [.int .u64 (u3425.toNat : Int), .int .i64 a0.fN, v0_1, .int .u64 (a1.toNat : Int), .int .i64 s3783] 74, .cells b15 [.int .u64 0] 37, .cells b5 [.int .i64 a0.fN, v0_1] 40] wx3871 [.obj lk3815 (lpO r3817 .ready none), .obj D3816 (.deferred (some [])), .row w.heap.size 3 (Rep.size Int) (.slice none 0 0) (([] : List Int).length) [], .cells b3807 [(.slice none 0 0)] 22, .cells b3798 [.int .i64 z3420] 3, .cells b3793 [.pointer (some ⟨b33, 0, none⟩)] 72, .row w.heap.size 3 (Rep.size Int) v3424 xs3421.length cs3422, .row w.heap.size 3 (Rep.size Int) v2746 xs2743.length cs2744, .cells b33 [.int .u64 (u3425.toNat : Int), .int .i64 a0.fN, v0_1, .int .u64 (a1.toNat : Int), .int .i64 s3783] 74, .cells b15 [.int .u64 0] 37, .cells b5 [.int .i64 a0.fN, v0_1] 40]) (fun ⟨u3870, i3871⟩ => (u3870, i3871)) ((0 : UInt64), 0) ho3876 ⟨rfl, rfl, rfl, rfl, rfl, rfl, rfl, trivial⟩ ⟨hS3813, Tr.refl _ _⟩ ?_
                  rintro J3879 ⟨u3870, i3871⟩ wx3871 hJ3880 ⟨hS3872, hT3873⟩ h
                  unfold wilson_Draw_l3 at h
                  try dsimp only at h
                  refine MX.seq ?_
                  refine MX.region ?_
                  refine RG.val' .plain (FV.lssN (i := i3871) (j := a0.fEdges.length) rfl rfl) rfl ?_
                  refine RG.nil ?_
                  refine MX.seq ?_
                  refine MX.ifd rfl h (fun c3881 h => ?_) (fun c3881 h => ?_)
                  · skip
                    refine MX.skip ?_
                    refine MX.seq ?_
                    refine MX.block ?_
                    refine MX.seq ?_
                    refine MX.region ?_
                    obtain ⟨x3882, hx3882, h⟩ := bind_in h
                    have hm3890 := Rep.mv h0_1 (Tr.trans hT4 (Tr.trans hT9 (Tr.trans hT14 (Tr.trans hT32 (Tr.trans hT36 (Tr.trans hT2739 (Tr.trans hT2750 (Tr.trans hT2767 (Tr.trans hT3428 (Tr.trans hT3786 (Tr.trans hT3792 (Tr.trans hT3797 (Tr.trans hT3806 (Tr.trans hT3810 (Tr.trans hT3814 hT3873)))))))))))))))
                    obtain ⟨A3883, c3884, he3885, hk3886, cs3887, hr3888, hm3889⟩ := Rep.nth hm3890 hx3882
                    obtain rfl := op_A46 hr3888
                    refine RG.val' .plain (FV.idxAddr (m := 2) (i := i3871) (by kernel_rfl) rfl he3885 rfl rfl hk3886) rfl ?_
                    refine RG.val' .plain (FV.loadN (cs := [.int .i64 x3882.1, .int .i64 x3882.2]) (by kernel_rfl) rfl hm3889) rfl ?_
                    refine RG.new .plain rfl (Does.alloc (zs := [.int .i64 0, .int .i64 0]) hS3872 (zB (by kernel_rfl))) (fun w3892 b3895 hS3893 hT3894 => ?_)
                    refine RG.now .plain (Acts.store (j := 0) (old := [.int .i64 0, .int .i64 0]) (news := [.int .i64 x3882.1, .int .i64 x3882.2]) (new' := [.int .i64 x3882.1, .int .i64 x3882.2]) hS3893 .hd rfl rfl rfl rfl rfl rfl (ones_cons rfl (ones_cons rfl ones_nil)) rfl) (fun w3896 hS3897 hT3898 => ?_)
                    refine RG.nil ?_
                    refine MX.seq ?_
                    refine MX.region ?_
                    refine RG.val' .plain (FV.indexArr (m := 1) (k := 0) (len := 2) (by kernel_rfl) rfl rfl rfl (by omega)) rfl ?_
                    refine RG.val' .plain (FV.load1 (by kernel_rfl) rfl ((hS3897.memA .hd) 0 _ rfl)) rfl ?_
                    refine RG.val' .plain (FV.load1 (by kernel_rfl) rfl ((hS3897.memA (.tl (.tl (.tl (.tl (.tl .hd)))))) 0 _ rfl)) rfl ?_
                    refine RG.val' .plain (FV.eql (i := x3882.1) (j := z3420) rfl rfl) rfl ?_
                    refine RG.val' .plain (FV.move rfl) rfl ?_
                    refine RG.ifd (s := 21) rfl h (fun c3899 h => ?_) (fun c3899 h => ?_)
                    · skip
                      refine RG.off (.no rfl rfl) rfl ?_
                      refine RG.off (.no rfl rfl) rfl ?_
                      refine RG.off (.no rfl rfl) rfl ?_
                      refine RG.off (.no rfl rfl) rfl ?_
                      refine RG.val' .plain (FV.pick_t rfl rfl) rfl ?_
                      refine RG.nil ?_
                      refine MX.cond_t rfl ?_
                      refine MX.region ?_
                      refine RG.val' .plain (FV.move rfl) rfl ?_
                      refine RG.val' .plain (FV.indexArr (m := 1) (k := 0) (len := 2) (by kernel_rfl) rfl rfl rfl (by omega)) rfl ?_
                      refine RG.val' .plain (FV.load1 (by kernel_rfl) rfl ((hS3897.memA .hd) 0 _ rfl)) rfl ?_
                      refine RG.val' .plain (FV.indexArr (m := 1) (k := 1) (len := 2) (by kernel_rfl) rfl rfl rfl (by omega)) rfl ?_
                      refine RG.val' .plain (FV.load1 (by kernel_rfl) rfl ((hS3897.memA .hd) 1 _ rfl)) rfl ?_
                      obtain ⟨s3900, hs3900, h⟩ := bind_in h
                      refine RG.val' .plain (FV.addc (i := x3882.1) (j := x3882.2) rfl rfl hs3900) rfl ?_
                      refine RG.val' .plain (FV.load1 (by kernel_rfl) rfl ((hS3897.memA (.tl (.tl (.tl (.tl (.tl .hd)))))) 0 _ rfl)) rfl ?_
                      obtain ⟨s3901, hs3901, h⟩ := bind_in h
                      refine RG.val' .plain (FV.subc (i := s3900) (j := z3420) rfl rfl hs3901) rfl ?_
                      obtain ⟨k3902, hk3902, h⟩ := bind_in h
                      refine RG.val' .plain (FV.shlI (a := (1 : UInt64)) (i := s3901) rfl rfl hk3902) rfl ?_
                      refine RG.val' .plain (FV.orU (a := u3870) (b := shlU (1 : UInt64) k3902) rfl rfl) rfl ?_
                      refine RG.val' .plain (FV.assign rfl) rfl ?_
                      refine RG.nil ?_
                      refine MX.inBlock ?_
                      refine MX.region ?_
                      refine RG.val' .plain (FV.addN (i := i3871) (j := 1) rfl rfl (by omega)) rfl ?_
                      refine RG.val' .plain (FV.move rfl) rfl ?_
                      refine RG.nil ?_
                      have hS3903 : St _ _ [.obj lk3815 (lpO r3817 .ready none), .obj D3816 (.deferred (some [])), .row w.heap.size 3 (Rep.size Int) (.slice none 0 0) (([] : List Int).length) [], .cells b3807 [(.slice none 0 0)] 22, .cells b3798 [.int .i64 z3420] 3, .cells b3793 [.pointer (some ⟨b33, 0, none⟩)] 72, .row w.heap.size 3 (Rep.size Int) v3424 xs3421.length cs3422, .row w.heap.size 3 (Rep.size Int) v2746 xs2743.length cs2744, .cells b33 [.int .u64 (u3425.toNat : Int), .int .i64 a0.fN, v0_1, .int .u64 (a1.toNat : Int), .int .i64 s3783] 74, .cells b15 [.int .u64 0] 37, .cells b5 [.int .i64 a0.fN, v0_1] 40] := hS3897.arr (.one (.tl .hd) (.one (.tl .hd) (.one (.tl .hd) (.one (.tl .hd) (.one (.tl .hd) (.one (.tl .hd) (.one (.tl .hd) (.one (.tl .hd) (.one (.tl .hd) (.one (.tl .hd) (.one (.tl .hd) .done)))))))))))
                      have hT3904 : Tr w3896 _ w3896 [.obj lk3815 (lpO r3817 .ready none), .obj D3816 (.deferred (some [])), .row w.heap.size 3 (Rep.size Int) (.slice none 0 0) (([] : List Int).length) [], .cells b3807 [(.slice none 0 0)] 22, .cells b3798 [.int .i64 z3420] 3, .cells b3793 [.pointer (some ⟨b33, 0, none⟩)] 72, .row w.heap.size 3 (Rep.size Int) v3424 xs3421.length cs3422, .row w.heap.size 3 (Rep.size Int) v2746 xs2743.length cs2744, .cells b33 [.int .u64 (u3425.toNat : Int), .int .i64 a0.fN, v0_1, .int .u64 (a1.toNat : Int), .int .i64 s3783] 74, .cells b15 [.int .u64 0] 37, .cells b5 [.int .i64 a0.fN, v0_1] 40] := Tr.arr (St.arrOf hS3897 (.one (.tl .hd) (.one (.tl .hd) (.one (.tl .hd) (.one (.tl .hd) (.one (.tl .hd) (.one (.tl .hd) (.one (.tl .hd) (.one (.tl .hd) (.one (.tl .hd) (.one (.tl .hd) (.one (.tl .hd) .done))))))))))))
                      exact hJ3880 (u3870 ||| (shlU (1 : UInt64) k3902), i3871 + 1) _ _ ⟨rfl, rfl, rfl, rfl, rfl, rfl, rfl, trivial⟩ ⟨hS3903, (Tr.trans hT3873 (Tr.trans hT3894 (Tr.trans hT3898 hT3904)))⟩ h
                    · skip
                      refine RG.val' (.yes rfl rfl) (FV.indexArr (m := 1) (k := 1) (len := 2) (by kernel_rfl) rfl rfl rfl (by omega)) rfl ?_
                      refine RG.val' (.yes rfl rfl) (FV.load1 (by kernel_rfl) rfl ((hS3897.memA .hd) 1 _ rfl)) rfl ?_
                      refine RG.val' (.yes rfl rfl) (FV.load1 (by kernel_rfl) rfl ((hS3897.memA (.tl (.tl (.tl (.tl (.tl .hd)))))) 0 _ rfl)) rfl ?_
                      refine RG.val' (.yes rfl rfl) (FV.eql (i := x3882.2) (j := z3420) rfl rfl) rfl ?_
                      refine RG.val' .plain (FV.pick_f rfl rfl) rfl ?_
                      refine RG.nil ?_
                      refine MX.join (α := UInt64) (fun u3909 => [(0, .func (.yield lk3815) #[] #[]), (1, .pointer (some ⟨b3793, 0, none⟩)), (2, .pointer (some ⟨b3798, 0, none⟩)), (4, .int .u64 (u3909.toNat : Int)), (11, v0_1), (12, .int .i64 ((a0.fEdges.length : Nat) : Int)), (13, .int .i64 ((i3871 : Nat) : Int))]) (fun u3909 wx3909 => St w wx3909 [.obj lk3815 (lpO r3817 .ready none), .obj D3816 (.deferred (some [])), .row w.heap.size 3 (Rep.size Int) (.slice none 0 0) (([] : List Int).length) [], .cells b3807 [(.slice none 0 0)] 22, .cells b3798 [.int .i64 z3420] 3, .cells b3793 [.pointer (some ⟨b33, 0, none⟩)] 72, .row w.heap.size 3 (Rep.size Int) v3424 xs3421.length cs3422, .row w.heap.size 3 (Rep.size Int) v2746 xs2743.length cs2744, .cells b33 [.int .u64 (u3425.toNat : Int), .int .i64 a0.fN, v0_1, .int .u64 (a1.toNat : Int), .int .i64 s3783] 74, .cells b15 [.int .u64 0] 37, .cells b5 [.int .i64 a0.fN, v0_1] 40] ∧ Tr w3896 [.cells b3895 [.int .i64 x3882.1, .int .i64 x3882.2] 46, .obj lk3815 (lpO r3817 .ready none), .obj D3816 (.deferred (some [])), .row w.heap.size 3 (Rep.size Int) (.slice none 0 0) (([] : List Int).length) [], .cells b3807 [(.slice none 0 0)] 22, .cells b3798 [.int .i64 z3420] 3, .cells b3793 [.pointer (some ⟨b33, 0, none⟩)] 72, .row w.heap.size 3 (Rep.size Int) v3424 xs3421.length cs3422, .row w.heap.size 3 (Rep.size Int) v2746 xs2743.length cs2744, .cells b33 [.int .u64 (u3425.toNat : Int), .int .i64 a0.fN, v0_1, .int .u64 (a1.toNat : Int), .int .i64 s3783] 74, .cells b15 [.int .u64 0] 37, .cells b5 [.int .i64 a0.fN, v0_1] 40] wx3909 [.obj lk3815 (lpO r3817 .ready none), .obj D3816 (.deferred (some [])), .row w.heap.size 3 (Rep.size Int) (.slice none 0 0) (([] : List Int).length) [], .cells b3807 [(.slice none 0 0)] 22, .cells b3798 [.int .i64 z3420] 3, .cells b3793 [.pointer (some ⟨b33, 0, none⟩)] 72, .row w.heap.size 3 (Rep.size Int) v3424 xs3421.length cs3422, .row w.heap.size 3 (Rep.size Int) v2746 xs2743.length cs2744, .cells b33 [.int .u64 (u3425.toNat : Int), .int .i64 a0.fN, v0_1, .int .u64 (a1.toNat : Int), .int .i64 s3783] 74, .cells b15 [.int .u64 0] 37, .cells b5 [.int .i64 a0.fN, v0_1] 40]) (fun u3909 => u3909) h ?_ ?_
                      · skip
                        rintro u3909 wx3909 ⟨hS3910, hT3911⟩ h
                        try dsimp only at h
                        refine MX.inBlock ?_
                        refine MX.region ?_
                        refine RG.val' .plain (FV.addN (i := i3871) (j := 1) rfl rfl (by omega)) rfl ?_
                        refine RG.val' .plain (FV.move rfl) rfl ?_
                        refine RG.nil ?_
                        exact hJ3880 (u3909, i3871 + 1) _ _ ⟨rfl, rfl, rfl, rfl, rfl, rfl, rfl, trivial⟩ ⟨hS3910, (Tr.trans hT3873 (Tr.trans hT3894 (Tr.trans hT3898 hT3911)))⟩ h
                      · skip
                        intro J3913 hJ3914 h
                        try dsimp only at h
                        refine MX.ifd rfl h (fun c3915 h => ?_) (fun c3915 h => ?_)
                        · skip
                          refine MX.region ?_
                          refine RG.val' .plain (FV.move rfl) rfl ?_
                          refine RG.val' .plain (FV.indexArr (m := 1) (k := 0) (len := 2) (by kernel_rfl) rfl rfl rfl (by omega)) rfl ?_
                          refine RG.val' .plain (FV.load1 (by kernel_rfl) rfl ((hS3897.memA .hd) 0 _ rfl)) rfl ?_
                          refine RG.val' .plain (FV.indexArr (m := 1) (k := 1) (len := 2) (by kernel_rfl) rfl rfl rfl (by omega)) rfl ?_
                          refine RG.val' .plain (FV.load1 (by kernel_rfl) rfl ((hS3897.memA .hd) 1 _ rfl)) rfl ?_
                          obtain ⟨s3916, hs3916, h⟩ := bind_in h
                          refine RG.val' .plain (FV.addc (i := x3882.1) (j := x3882.2) rfl rfl hs3916) rfl ?_
                          refine RG.val' .plain (FV.load1 (by kernel_rfl) rfl ((hS3897.memA (.tl (.tl (.tl (.tl (.tl .hd)))))) 0 _ rfl)) rfl ?_
                          obtain ⟨s3917, hs3917, h⟩ := bind_in h
                          refine RG.val' .plain (FV.subc (i := s3916) (j := z3420) rfl rfl hs3917) rfl ?_
                          obtain ⟨k3918, hk3918, h⟩ := bind_in h
                          refine RG.val' .plain (FV.shlI (a := (1 : UInt64)) (i := s3917) rfl rfl hk3918) rfl ?_
                          refine RG.val' .plain (FV.orU (a := u3870) (b := shlU (1 : UInt64) k3918) rfl rfl) rfl ?_
                          refine RG.val' .plain (FV.assign rfl) rfl ?_
                          refine RG.nil ?_
                          have hS3919 : St _ _ [.obj lk3815 (lpO r3817 .ready none), .obj D3816 (.deferred (some [])), .row w.heap.size 3 (Rep.size Int) (.slice none 0 0) (([] : List Int).length) [], .cells b3807 [(.slice none 0 0)] 22, .cells b3798 [.int .i64 z3420] 3, .cells b3793 [.pointer (some ⟨b33, 0, none⟩)] 72, .row w.heap.size 3 (Rep.size Int) v3424 xs3421.length cs3422, .row w.heap.size 3 (Rep.size Int) v2746 xs2743.length cs2744, .cells b33 [.int .u64 (u3425.toNat : Int), .int .i64 a0.fN, v0_1, .int .u64 (a1.toNat : Int), .int .i64 s3783] 74, .cells b15 [.int .u64 0] 37, .cells b5 [.int .i64 a0.fN, v0_1] 40] := hS3897.arr (.one (.tl .hd) (.one (.tl .hd) (.one (.tl .hd) (.one (.tl .hd) (.one (.tl .hd) (.one (.tl .hd) (.one (.tl .hd) (.one (.tl .hd) (.one (.tl .hd) (.one (.tl .hd) (.one (.tl .hd) .done)))))))))))
                          have hT3920 : Tr w3896 _ w3896 [.obj lk3815 (lpO r3817 .ready none), .obj D3816 (.deferred (some [])), .row w.heap.size 3 (Rep.size Int) (.slice none 0 0) (([] : List Int).length) [], .cells b3807 [(.slice none 0 0)] 22, .cells b3798 [.int .i64 z3420] 3, .cells b3793 [.pointer (some ⟨b33, 0, none⟩)] 72, .row w.heap.size 3 (Rep.size Int) v3424 xs3421.length cs3422, .row w.heap.size 3 (Rep.size Int) v2746 xs2743.length cs2744, .cells b33 [.int .u64 (u3425.toNat : Int), .int .i64 a0.fN, v0_1, .int .u64 (a1.toNat : Int), .int .i64 s3783] 74, .cells b15 [.int .u64 0] 37, .cells b5 [.int .i64 a0.fN, v0_1] 40] := Tr.arr (St.arrOf hS3897 (.one (.tl .hd) (.one (.tl .hd) (.one (.tl .hd) (.one (.tl .hd) (.one (.tl .hd) (.one (.tl .hd) (.one (.tl .hd) (.one (.tl .hd) (.one (.tl .hd) (.one (.tl .hd) (.one (.tl .hd) .done))))))))))))
                          exact hJ3914 (u3870 ||| (shlU (1 : UInt64) k3918)) _ _ ⟨rfl, rfl, rfl, rfl, rfl, rfl, rfl, trivial⟩ ⟨hS3919, hT3920⟩ h
                        · skip
                          refine MX.skip ?_
                          have hS3921 : St _ _ [.obj lk3815 (lpO r3817 .ready none), .obj D3816 (.deferred (some [])), .row w.heap.size 3 (Rep.size Int) (.slice none 0 0) (([] : List Int).length) [], .cells b3807 [(.slice none 0 0)] 22, .cells b3798 [.int .i64 z3420] 3, .cells b3793 [.pointer (some ⟨b33, 0, none⟩)] 72, .row w.heap.size 3 (Rep.size Int) v3424 xs3421.length cs3422, .row w.heap.size 3 (Rep.size Int) v2746 xs2743.length cs2744, .cells b33 [.int .u64 (u3425.toNat : Int), .int .i64 a0.fN, v0_1, .int .u64 (a1.toNat : Int), .int .i64 s3783] 74, .cells b15 [.int .u64 0] 37, .cells b5 [.int .i64 a0.fN, v0_1] 40] := hS3897.arr (.one (.tl .hd) (.one (.tl .hd) (.one (.tl .hd) (.one (.tl .hd) (.one (.tl .hd) (.one (.tl .hd) (.one (.tl .hd) (.one (.tl .hd) (.one (.tl .hd) (.one (.tl .hd) (.one (.tl .hd) .done)))))))))))
                          have hT3922 : Tr w3896 _ w3896 [.obj lk3815 (lpO r3817 .ready none), .obj D3816 (.deferred (some [])), .row w.heap.size 3 (Rep.size Int) (.slice none 0 0) (([] : List Int).length) [], .cells b3807 [(.slice none 0 0)] 22, .cells b3798 [.int .i64 z3420] 3, .cells b3793 [.pointer (some ⟨b33, 0, none⟩)] 72, .row w.heap.size 3 (Rep.size Int) v3424 xs3421.length cs3422, .row w.heap.size 3 (Rep.size Int) v2746 xs2743.length cs2744, .cells b33 [.int .u64 (u3425.toNat : Int), .int .i64 a0.fN, v0_1, .int .u64 (a1.toNat : Int), .int .i64 s3783] 74, .cells b15 [.int .u64 0] 37, .cells b5 [.int .i64 a0.fN, v0_1] 40] := Tr.arr (St.arrOf hS3897 (.one (.tl .hd) (.one (.tl .hd) (.one (.tl .hd) (.one (.tl .hd) (.one (.tl .hd) (.one (.tl .hd) (.one (.tl .hd) (.one (.tl .hd) (.one (.tl .hd) (.one (.tl .hd) (.one (.tl .hd) .done))))))))))))
                          exact hJ3914 u3870 _ _ ⟨rfl, rfl, rfl, rfl, rfl, rfl, rfl, trivial⟩ ⟨hS3921, hT3922⟩ h
                  · skip
                    refine MX.exit rfl ?_
                    have h := hh3878 _ h
                    try dsimp only at h
                    refine MX.seq ?_
                    refine MX.region ?_
                    refine RG.val' .plain (FV.move rfl) rfl ?_
                    refine RG.val' .plain (FV.load1 (by kernel_rfl) rfl ((hS3872.memA (.tl (.tl (.tl (.tl (.tl .hd)))))) 0 _ rfl)) rfl ?_
                    refine RG.val' .plain (FV.nilCheck rfl) rfl ?_
                    refine RG.val' .plain (FV.fieldAddr (off := 3) (by kernel_rfl) rfl) rfl ?_
                    refine RG.val' .plain (FV.load1 (by kernel_rfl) rfl ((hS3872.memA (.tl (.tl (.tl (.tl (.tl (.tl (.tl (.tl .hd))))))))) 3 _ rfl)) rfl ?_
                    refine RG.val' .plain (FV.andU (a := u3870) (b := a1) rfl rfl) rfl ?_
                    refine RG.val' .plain (FV.assign rfl) rfl ?_
                    refine RG.nil ?_
                    refine MX.block ?_
                    have hm3991 := Cells.mv hc3811 (Tr.trans hT3814 hT3873)
                    obtain ⟨o4002, ho4001, hh4003⟩ := bind_in2 h
                    refine MX.loop (α := UInt64 × (List Int) × Value × (List Value)) (fun ⟨u3992, xs3993, v3996, cs3994⟩ => [(0, .func (.yield lk3815) #[] #[]), (4, .int .u64 (u3992.toNat : Int))]) (fun ⟨u3992, xs3993, v3996, cs3994⟩ wx3996 => St w wx3996 [.obj lk3815 (lpO r3817 .ready none), .obj D3816 (.deferred (some [])), .row w.heap.size 3 (Rep.size Int) v3996 xs3993.length cs3994, .cells b3807 [v3996] 22, .cells b3798 [.int .i64 z3420] 3, .cells b3793 [.pointer (some ⟨b33, 0, none⟩)] 72, .row w.heap.size 3 (Rep.size Int) v3424 xs3421.length cs3422, .row w.heap.size 3 (Rep.size Int) v2746 xs2743.length cs2744, .cells b33 [.int .u64 (u3425.toNat : Int), .int .i64 a0.fN, v0_1, .int .u64 (a1.toNat : Int), .int .i64 s3783] 74, .cells b15 [.int .u64 0] 37, .cells b5 [.int .i64 a0.fN, v0_1] 40] ∧ Tr wx3871 [.obj lk3815 (lpO r3817 .ready none), .obj D3816 (.deferred (some [])), .row w.heap.size 3 (Rep.size Int) (.slice none 0 0) (([] : List Int).length) [], .cells b3807 [(.slice none 0 0)] 22, .cells b3798 [.int .i64 z3420] 3, .cells b3793 [.pointer (some ⟨b33, 0, none⟩)] 72, .row w.heap.size 3 (Rep.size Int) v3424 xs3421.length cs3422, .row w.heap.size 3 (Rep.size Int) v2746 xs2743.length cs2744, .cells b33 [.int .u64 (u3425.toNat : Int), .int .i64 a0.fN, v0_1, .int .u64 (a1.toNat : Int), .int .i64 s3783] 74, .cells b15 [.int .u64 0] 37, .cells b5 [.int .i64 a0.fN, v0_1] 40] wx3996 [.obj lk3815 (lpO r3817 .ready none), .obj D3816 (.deferred (some [])), .row w.heap.size 3 (Rep.size Int) v3996 xs3993.length cs3994, .cells b3807 [v3996] 22, .cells b3798 [.int .i64 z3420] 3, .cells b3793 [.pointer (some ⟨b33, 0, none⟩)] 72, .row w.heap.size 3 (Rep.size Int) v3424 xs3421.length cs3422, .row w.heap.size 3 (Rep.size Int) v2746 xs2743.length cs2744, .cells b33 [.int .u64 (u3425.toNat : Int), .int .i64 a0.fN, v0_1, .int .u64 (a1.toNat : Int), .int .i64 s3783] 74, .cells b15 [.int .u64 0] 37, .cells b5 [.int .i64 a0.fN, v0_1] 40] ∧ Cells wx3996 (bl [.obj lk3815 (lpO r3817 .ready none), .obj D3816 (.deferred (some [])), .row w.heap.size 3 (Rep.size Int) v3996 xs3993.length cs3994, .cells b3807 [v3996] 22, .cells b3798 [.int .i64 z3420] 3, .cells b3793 [.pointer (some ⟨b33, 0, none⟩)] 72, .row w.heap.size 3 (Rep.size Int) v3424 xs3421.length cs3422, .row w.heap.size 3 (Rep.size Int) v2746 xs2743.length cs2744, .cells b33 [.int .u64 (u3425.toNat : Int), .int .i64 a0.fN, v0_1, .int .u64 (a1.toNat : Int), .int .i64 s3783] 74, .cells b15 [.int .u64 0] 37, .cells b5 [.int .i64 a0.fN, v0_1] 40] ++ L) cs3994 xs3993) (fun ⟨u3992, xs3993, v3996, cs3994⟩ => (u3992, xs3993)) (u3870 &&& a1, ([] : List Int), (.slice none 0 0), []) ho4001 ⟨rfl, rfl, trivial⟩ ⟨hS3872, Tr.refl _ _, hm3991⟩ ?_
                    rintro J4004 ⟨u3992, xs3993, v3996, cs3994⟩ wx3996 hJ4005 ⟨hS3997, hT3998, hc3995⟩ h
                    unfold wilson_Draw_l2 at h
                    try dsimp only at h
                    refine MX.seq ?_
                    refine MX.seq ?_
                    refine MX.region ?_
                    refine RG.val' .plain (FV.move rfl) rfl ?_
                    refine RG.val' .plain (FV.neqU (a := u3992) (b := (0 : UInt64)) rfl rfl) rfl ?_
                    refine RG.nil ?_
                    refine MX.ifn rfl h (fun c4006 h => ?_) (fun c4006 h => ?_)
                    · skip
                      refine MX.exit rfl ?_
                      have h := hh4003 _ h
                      try dsimp only at h
                      refine MX.fin rfl ?_
                      refine RT.leave (u := .tuple #[]) hb3819 Tryd.func86 rfl .nil rfl ?_
                      refine MX.endRange0 hS3997 .hd (by intro h9; cases h9) (fun w4007 hS4008 hT4009 => ?_)
                      have hS4010 : St _ _ [.obj D3816 (.deferred (some [])), .row w.heap.size 3 (Rep.size Int) v3996 xs3993.length cs3994, .cells b3807 [v3996] 22, .cells b3798 [.int .i64 z3420] 3, .cells b3793 [.pointer (some ⟨b33, 0, none⟩)] 72, .row w.heap.size 3 (Rep.size Int) v3424 xs3421.length cs3422, .row w.heap.size 3 (Rep.size Int) v2746 xs2743.length cs2744, .cells b33 [.int .u64 (u3425.toNat : Int), .int .i64 a0.fN, v0_1, .int .u64 (a1.toNat : Int), .int .i64 s3783] 74, .cells b15 [.int .u64 0] 37, .cells b5 [.int .i64 a0.fN, v0_1] 40] := hS4008.arr (.one (.tl .hd) (.one (.tl .hd) (.one (.tl .hd) (.one (.tl .hd) (.one (.tl .hd) (.one (.tl .hd) (.one (.tl .hd) (.one (.tl .hd) (.one (.tl .hd) (.one (.tl .hd) .done))))))))))
                      have hT4011 : Tr w4007 _ w4007 [.obj D3816 (.deferred (some [])), .row w.heap.size 3 (Rep.size Int) v3996 xs3993.length cs3994, .cells b3807 [v3996] 22, .cells b3798 [.int .i64 z3420] 3, .cells b3793 [.pointer (some ⟨b33, 0, none⟩)] 72, .row w.heap.size 3 (Rep.size Int) v3424 xs3421.length cs3422, .row w.heap.size 3 (Rep.size Int) v2746 xs2743.length cs2744, .cells b33 [.int .u64 (u3425.toNat : Int), .int .i64 a0.fN, v0_1, .int .u64 (a1.toNat : Int), .int .i64 s3783] 74, .cells b15 [.int .u64 0] 37, .cells b5 [.int .i64 a0.fN, v0_1] 40] := Tr.arr (St.arrOf hS4008 (.one (.tl .hd) (.one (.tl .hd) (.one (.tl .hd) (.one (.tl .hd) (.one (.tl .hd) (.one (.tl .hd) (.one (.tl .hd) (.one (.tl .hd) (.one (.tl .hd) (.one (.tl .hd) .done)))))))))))
                      refine MX.inBlock ?_
                      refine MX.seq ?_
                      refine MX.region ?_
                      refine RG.val' .plain (FV.load1 (by kernel_rfl) rfl ((hS4010.memA (.tl (.tl .hd))) 0 _ rfl)) rfl ?_
                      refine RG.val' .plain (FV.assign rfl) rfl ?_
                      refine RG.nil ?_
                      refine MX.ret rfl ?_
                      refine RT.take hS4010 .hd (fun w4012 hS4013 hT4014 => ?_)
                      have hS4015 : St _ _ [.row w.heap.size 3 (Rep.size Int) v3996 xs3993.length cs3994, .cells b3807 [v3996] 22, .cells b3798 [.int .i64 z3420] 3, .cells b3793 [.pointer (some ⟨b33, 0, none⟩)] 72, .row w.heap.size 3 (Rep.size Int) v3424 xs3421.length cs3422, .row w.heap.size 3 (Rep.size Int) v2746 xs2743.length cs2744, .cells b33 [.int .u64 (u3425.toNat : Int), .int .i64 a0.fN, v0_1, .int .u64 (a1.toNat : Int), .int .i64 s3783] 74, .cells b15 [.int .u64 0] 37, .cells b5 [.int .i64 a0.fN, v0_1] 40] := hS4013.arr (.one (.tl .hd) (.one (.tl .hd) (.one (.tl .hd) (.one (.tl .hd) (.one (.tl .hd) (.one (.tl .hd) (.one (.tl .hd) (.one (.tl .hd) (.one (.tl .hd) .done)))))))))
                      have hT4016 : Tr w4012 _ w4012 [.row w.heap.size 3 (Rep.size Int) v3996 xs3993.length cs3994, .cells b3807 [v3996] 22, .cells b3798 [.int .i64 z3420] 3, .cells b3793 [.pointer (some ⟨b33, 0, none⟩)] 72, .row w.heap.size 3 (Rep.size Int) v3424 xs3421.length cs3422, .row w.heap.size 3 (Rep.size Int) v2746 xs2743.length cs2744, .cells b33 [.int .u64 (u3425.toNat : Int), .int .i64 a0.fN, v0_1, .int .u64 (a1.toNat : Int), .int .i64 s3783] 74, .cells b15 [.int .u64 0] 37, .cells b5 [.int .i64 a0.fN, v0_1] 40] := Tr.arr (St.arrOf hS4013 (.one (.tl .hd) (.one (.tl .hd) (.one (.tl .hd) (.one (.tl .hd) (.one (.tl .hd) (.one (.tl .hd) (.one (.tl .hd) (.one (.tl .hd) (.one (.tl .hd) .done))))))))))
                      refine RT.leave (u := v3996) hb3801 Tryd.func85 rfl (.cons (.tmp rfl) .nil) rfl ?_
                      refine RG.val' .plain (FV.assign rfl) rfl ?_
                      refine RG.nil ?_
                      refine MX.ret rfl ?_
                      refine RT.leave (u := v3996) hb3799 Tryd.func63 rfl (.cons (.tmp rfl) .nil) rfl ?_
                      refine RG.val' .plain (FV.move rfl) rfl ?_
                      refine RG.enter (fst := []) (cap := []) (vs := [v3996, .func (.func 61) #[.pointer (some ⟨b33, 0, none⟩)] #[]]) .plain body62 Tryd.func62 rfl rfl rfl rfl (evs_cons rfl (evs_cons rfl evs_nil)) rfl (fun cs4018 hb4017 => ?_)
                      refine MX.seq ?_
                      refine MX.region ?_
                      refine RG.val' .plain (FV.assign rfl) rfl ?_
                      refine RG.val' .plain (FV.assign rfl) rfl ?_
                      refine RG.nil ?_
                      refine MX.seq ?_
                      refine MX.region ?_
                      refine RG.val' .plain (FV.move rfl) rfl ?_
                      refine RG.val' .plain (FV.move rfl) rfl ?_
                      have hl4019 : xs3993.length ≤ 4294967296 := St.rowLe (α := Int) hS4015 .hd
                      obtain ⟨A4020, c4021, he4022⟩ := St.rowV (α := Int) hS4015 .hd
                      refine RG.val' .plain (FV.lenV Tryd.underlying22 rfl he4022) rfl ?_
                      refine RG.enter (fst := [.pointer (some ⟨b33, 0, none⟩)]) (cap := []) (vs := [.int .i64 ((xs3993.length : Nat) : Int)]) .plain body61 Tryd.func61 rfl rfl rfl rfl (evs_cons rfl evs_nil) rfl (fun cs4024 hb4023 => ?_)
                      refine MX.seq ?_
                      refine MX.region ?_
                      refine RG.val' .plain (FV.assign rfl) rfl ?_
                      refine RG.val' .plain (FV.assign rfl) rfl ?_
                      refine RG.nil ?_
                      refine MX.seq ?_
                      refine MX.region ?_
                      refine RG.val' .plain (FV.move rfl) rfl ?_
                      refine RG.val' .plain (FV.nilCheck rfl) rfl ?_
                      refine RG.val' .plain (FV.fieldAddr (off := 0) (by kernel_rfl) rfl) rfl ?_
                      refine RG.val' .plain (FV.loadN (cs := [.int .u64 (u3425.toNat : Int)]) (by kernel_rfl) rfl (mem_part (hS4015.memA (.tl (.tl (.tl (.tl (.tl (.tl .hd))))))) 0 1)) rfl ?_
                      refine RG.val' .plain (FV.move rfl) rfl ?_
                      obtain ⟨y4025, hy4025, h⟩ := bind_in h
                      refine RG.callq' (v := .tuple #[.int .i64 y4025.1, .agg #[.int .u64 (y4025.2.1.fState.toNat : Int)], .int .i64 y4025.2.2]) (fst := []) (cap := []) .plain body29 rfl (evs_cons rfl (evs_cons rfl evs_nil)) (fun w9 hw9 => chance_Below_c n _ w9 (hS4015.hL0 hL hw9) (⟨u3425⟩ : TChance) ((xs3993.length : Nat) : Int) hy4025) rfl ?_
                      refine RG.val' .plain (FV.move rfl) rfl ?_
                      refine RG.val' .plain (FV.extract rfl rfl) rfl ?_
                      refine RG.val' .plain (FV.extract rfl rfl) rfl ?_
                      refine RG.val' .plain (FV.extract rfl rfl) rfl ?_
                      refine RG.new .plain rfl (Does.alloc (zs := [.int .u64 0]) hS4015 (zB (by kernel_rfl))) (fun w4027 b4030 hS4028 hT4029 => ?_)
                      refine RG.val' .plain (FV.assign rfl) rfl ?_
                      refine RG.now .plain (Acts.store (j := 0) (old := [.int .u64 0]) (news := [.int .u64 (y4025.2.1.fState.toNat : Int)]) (new' := [.int .u64 (y4025.2.1.fState.toNat : Int)]) hS4028 .hd rfl rfl rfl rfl rfl rfl (ones_cons rfl ones_nil) rfl) (fun w4031 hS4032 hT4033 => ?_)
                      refine RG.val' .plain (FV.assign rfl) rfl ?_
                      refine RG.nil ?_
                      refine MX.seq ?_
                      refine MX.region ?_
                      refine RG.val' .plain (FV.move rfl) rfl ?_
                      refine RG.val' .plain (FV.loadN (cs := [.int .u64 (y4025.2.1.fState.toNat : Int)]) (by kernel_rfl) rfl (hS4032.memA .hd)) rfl ?_
                      refine RG.val' .plain (FV.nilCheck rfl) rfl ?_
                      refine RG.val' .plain (FV.fieldAddr (off := 0) (by kernel_rfl) rfl) rfl ?_
                      refine RG.now .plain (Acts.store (j := 0) (old := [.int .u64 (u3425.toNat : Int), .int .i64 a0.fN, v0_1, .int .u64 (a1.toNat : Int), .int .i64 s3783]) (news := [.int .u64 (y4025.2.1.fState.toNat : Int)]) (new' := [.int .u64 (y4025.2.1.fState.toNat : Int), .int .i64 a0.fN, v0_1, .int .u64 (a1.toNat : Int), .int .i64 s3783]) hS4032 (.tl (.tl (.tl (.tl (.tl (.tl (.tl .hd))))))) rfl rfl rfl rfl rfl rfl (ones_cons rfl ones_nil) rfl) (fun w4034 hS4035 hT4036 => ?_)
                      refine RG.nil ?_
                      refine MX.seq ?_
                      refine MX.region ?_
                      refine RG.val' .plain (FV.move rfl) rfl ?_
                      refine RG.val' .plain (FV.move rfl) rfl ?_
                      refine RG.val' .plain (FV.assign rfl) rfl ?_
                      refine RG.val' .plain (FV.assign rfl) rfl ?_
                      refine RG.nil ?_
                      refine MX.ret rfl ?_
                      refine RT.leave (u := .tuple #[.int .i64 y4025.1, .int .i64 y4025.2.2]) hb4023 Tryd.func61 rfl (.cons (.tmp rfl) (.cons (.tmp rfl) .nil)) rfl ?_
                      refine RG.val' .plain (FV.move rfl) rfl ?_
                      refine RG.val' .plain (FV.extract rfl rfl) rfl ?_
                      refine RG.val' .plain (FV.extract rfl rfl) rfl ?_
                      refine RG.val' .plain (FV.assign rfl) rfl ?_
                      refine RG.val' .plain (FV.assign rfl) rfl ?_
                      refine RG.nil ?_
                      refine MX.seq ?_
                      refine MX.seq ?_
                      refine MX.region ?_
                      refine RG.val' .plain (FV.move rfl) rfl ?_
                      refine RG.val' .plain (FV.neq (i := y4025.2.2) (j := 0) rfl rfl) rfl ?_
                      refine RG.nil ?_
                      refine MX.ifn rfl h (fun c4037 h => ?_) (fun c4037 h => ?_)
                      · skip
                        refine MX.skip ?_
                        refine MX.seq ?_
                        refine MX.region ?_
                        refine RG.val' .plain (FV.move rfl) rfl ?_
                        refine RG.val' .plain (FV.move rfl) rfl ?_
                        obtain ⟨x4038, hx4038, h⟩ := bind_in h
                        obtain ⟨hi4039, hx4040⟩ := idx_in hx4038
                        have hm4048 := Cells.mv hc3995 (Tr.trans hT4009 (Tr.trans hT4011 (Tr.trans hT4014 (Tr.trans hT4016 (Tr.trans hT4029 (Tr.trans hT4033 hT4036))))))
                        obtain ⟨A4041, c4042, he4043, hk4044, cs4045, hr4046, hm4047⟩ := St.nth (α := Int) hS4035 (.tl .hd) hm4048 hx4040
                        obtain ⟨b4049, c4050, he4051⟩ := St.nthOwn (α := Int) hS4035 (.tl .hd) hk4044
                        obtain rfl : A4041 = ⟨b4049, 0, none⟩ := by rw [he4051] at he4043; cases he4043; rfl
                        have he4052 : cs4045 = [.int .i64 x4038] := hr4046; subst he4052
                        refine RG.val' .plain (FV.idxAddr (m := 1) (i := y4025.1.toNat) (by kernel_rfl) rfl he4043 rfl hi4039 hk4044) rfl ?_
                        refine RG.val' .plain (FV.load1 (by kernel_rfl) rfl (hm4047 0 _ rfl)) rfl ?_
                        refine RG.val' .plain (FV.assign rfl) rfl ?_
                        refine RG.val' .plain (FV.assign rfl) rfl ?_
                        refine RG.nil ?_
                        refine MX.ret rfl ?_
                        refine RT.leave (u := .tuple #[.int .i64 x4038, .int .i64 0]) hb4017 Tryd.func62 rfl (.cons (.tmp rfl) (.cons (.tmp rfl) .nil)) rfl ?_
                        refine RG.val' .plain (FV.move rfl) rfl ?_
                        refine RG.val' .plain (FV.extract rfl rfl) rfl ?_
                        refine RG.val' .plain (FV.extract rfl rfl) rfl ?_
                        refine RG.val' .plain (FV.assign rfl) rfl ?_
                        refine RG.val' .plain (FV.assign rfl) rfl ?_
                        refine RG.nil ?_
                        refine MX.seq ?_
                        refine MX.seq ?_
                        refine MX.region ?_
                        refine RG.val' .plain (FV.move rfl) rfl ?_
                        refine RG.val' .plain (FV.neqN (i := 0) (j := 0) rfl rfl) rfl ?_
                        refine RG.nil ?_
                        refine MX.cond_f rfl ?_
                        refine MX.skip ?_
                        refine MX.seq ?_
                        refine MX.region ?_
                        refine RG.val' .plain (FV.move rfl) rfl ?_
                        refine RG.val' .plain (FV.assign rfl) rfl ?_
                        refine RG.nil ?_
                        refine MX.region ?_
                        refine RG.val' .plain (FV.move rfl) rfl ?_
                        refine RG.val' .plain (FV.move rfl) rfl ?_
                        refine RG.new .plain rfl (Does.build (α := Int) (xs := ([x4038] : List Int)) (vs := [.int .i64 x4038]) (ds' := [.int .i64 x4038]) rfl hS4035 el22 rfl (evs_cons rfl evs_nil) (by kernel_rfl) rfl) (fun w4054 b4057 hS4055 hT4056 => ?_)
                        have hc4058 : Cells w4054 (bl [.row w.heap.size 3 (Rep.size Int) (.slice (some ⟨b4057, 0, none⟩) 1 1) (([x4038] : List Int).length) [.int .i64 x4038], .cells b4030 [.int .u64 (y4025.2.1.fState.toNat : Int)] 37, .row w.heap.size 3 (Rep.size Int) v3996 xs3993.length cs3994, .cells b3807 [v3996] 22, .cells b3798 [.int .i64 z3420] 3, .cells b3793 [.pointer (some ⟨b33, 0, none⟩)] 72, .row w.heap.size 3 (Rep.size Int) v3424 xs3421.length cs3422, .row w.heap.size 3 (Rep.size Int) v2746 xs2743.length cs2744, .cells b33 [.int .u64 (y4025.2.1.fState.toNat : Int), .int .i64 a0.fN, v0_1, .int .u64 (a1.toNat : Int), .int .i64 s3783] 74, .cells b15 [.int .u64 0] 37, .cells b5 [.int .i64 a0.fN, v0_1] 40] ++ L) [.int .i64 x4038] (([x4038] : List Int) : List Int) := Cells.cons (cs := [.int .i64 x4038]) (ds := []) rfl (Cells.nil _ _)
                        obtain ⟨xs4059, hxs4059, h⟩ := bind_in h
                        have hm4060 := Cells.mv hc3423 (Tr.trans hT3786 (Tr.trans hT3792 (Tr.trans hT3797 (Tr.trans hT3806 (Tr.trans hT3810 (Tr.trans hT3814 (Tr.trans hT3873 (Tr.trans hT3998 (Tr.trans hT4009 (Tr.trans hT4011 (Tr.trans hT4014 (Tr.trans hT4016 (Tr.trans hT4029 (Tr.trans hT4033 (Tr.trans hT4036 hT4056)))))))))))))))
                        refine RG.doesL .plain rfl (DoesL.app (α := Int) (ys := ([x4038] : List Int)) (F := fun v' cs' => [.row w.heap.size 3 (Rep.size Int) (.slice (some ⟨b4057, 0, none⟩) 1 1) (([x4038] : List Int).length) [.int .i64 x4038], .cells b4030 [.int .u64 (y4025.2.1.fState.toNat : Int)] 37, .row w.heap.size 3 (Rep.size Int) v3996 xs3993.length cs3994, .cells b3807 [v3996] 22, .cells b3798 [.int .i64 z3420] 3, .cells b3793 [.pointer (some ⟨b33, 0, none⟩)] 72, .row w.heap.size 3 (Rep.size Int) v' xs4059.length cs', .row w.heap.size 3 (Rep.size Int) v2746 xs2743.length cs2744, .cells b33 [.int .u64 (y4025.2.1.fState.toNat : Int), .int .i64 a0.fN, v0_1, .int .u64 (a1.toNat : Int), .int .i64 s3783] 74, .cells b15 [.int .u64 0] 37, .cells b5 [.int .i64 a0.fN, v0_1] 40]) hxs4059 hS4055 (fun _ _ => (.tl (.tl (.tl (.tl (.tl (.tl .hd))))))) el22 rfl rfl hm4060 (Src.row (α := Int) hS4055 .hd hc4058)) (fun v4066 w4061 ⟨cs4065, hS4062, hT4063, hc4064⟩ => ?_)
                        refine RG.val' .plain (FV.assign rfl) rfl ?_
                        refine RG.nil ?_
                        refine MX.inBlock ?_
                        have hS4068 : St _ _ [.row w.heap.size 3 (Rep.size Int) v4066 xs4059.length cs4065, .row w.heap.size 3 (Rep.size Int) v2746 xs2743.length cs2744, .cells b33 [.int .u64 (y4025.2.1.fState.toNat : Int), .int .i64 a0.fN, v0_1, .int .u64 (a1.toNat : Int), .int .i64 s3783] 74, .cells b15 [.int .u64 0] 37, .cells b5 [.int .i64 a0.fN, v0_1] 40] := hS4062.arr (.one (.tl (.tl (.tl (.tl (.tl (.tl .hd)))))) (.one (.tl (.tl (.tl (.tl (.tl (.tl .hd)))))) (.one (.tl (.tl (.tl (.tl (.tl (.tl .hd)))))) (.one (.tl (.tl (.tl (.tl (.tl (.tl .hd)))))) (.one (.tl (.tl (.tl (.tl (.tl (.tl .hd)))))) .done)))))
                        have hT4069 : Tr w4061 _ w4061 [.row w.heap.size 3 (Rep.size Int) v4066 xs4059.length cs4065, .row w.heap.size 3 (Rep.size Int) v2746 xs2743.length cs2744, .cells b33 [.int .u64 (y4025.2.1.fState.toNat : Int), .int .i64 a0.fN, v0_1, .int .u64 (a1.toNat : Int), .int .i64 s3783] 74, .cells b15 [.int .u64 0] 37, .cells b5 [.int .i64 a0.fN, v0_1] 40] := Tr.arr (St.arrOf hS4062 (.one (.tl (.tl (.tl (.tl (.tl (.tl .hd)))))) (.one (.tl (.tl (.tl (.tl (.tl (.tl .hd)))))) (.one (.tl (.tl (.tl (.tl (.tl (.tl .hd)))))) (.one (.tl (.tl (.tl (.tl (.tl (.tl .hd)))))) (.one (.tl (.tl (.tl (.tl (.tl (.tl .hd)))))) .done))))))
                        have hm4070 := Cells.mv hc4064 hT4069
                        exact hJ3435 (x4038, xs4059, y4025.2.1.fState, s3783, v4066, cs4065) _ _ ⟨rfl, rfl, rfl, rfl, rfl, trivial⟩ ⟨hS4068, (Tr.trans hT3428 (Tr.trans hT3786 (Tr.trans hT3792 (Tr.trans hT3797 (Tr.trans hT3806 (Tr.trans hT3810 (Tr.trans hT3814 (Tr.trans hT3873 (Tr.trans hT3998 (Tr.trans hT4009 (Tr.trans hT4011 (Tr.trans hT4014 (Tr.trans hT4016 (Tr.trans hT4029 (Tr.trans hT4033 (Tr.trans hT4036 (Tr.trans hT4056 (Tr.trans hT4063 hT4069)))))))))))))))))), hm4070⟩ h
                      · skip
                        refine MX.seq ?_
                        refine MX.region ?_
                        refine RG.val' .plain (FV.assign rfl) rfl ?_
                        refine RG.nil ?_
                        refine MX.seq ?_
                        refine MX.region ?_
                        refine RG.val' .plain (FV.move rfl) rfl ?_
                        refine RG.val' .plain (FV.move rfl) rfl ?_
                        refine RG.val' .plain (FV.assign rfl) rfl ?_
                        refine RG.val' .plain (FV.assign rfl) rfl ?_
                        refine RG.nil ?_
                        refine MX.ret rfl ?_
                        refine RT.leave (u := .tuple #[.int .i64 0, .int .i64 y4025.2.2]) hb4017 Tryd.func62 rfl (.cons (.tmp rfl) (.cons (.tmp rfl) .nil)) rfl ?_
                        refine RG.val' .plain (FV.move rfl) rfl ?_
                        refine RG.val' .plain (FV.extract rfl rfl) rfl ?_
                        refine RG.val' .plain (FV.extract rfl rfl) rfl ?_
                        refine RG.val' .plain (FV.assign rfl) rfl ?_
                        refine RG.val' .plain (FV.assign rfl) rfl ?_
                        refine RG.nil ?_
                        refine MX.seq ?_
                        refine MX.seq ?_
                        refine MX.region ?_
                        refine RG.val' .plain (FV.move rfl) rfl ?_
                        refine RG.val' .plain (FV.neq (i := y4025.2.2) (j := 0) rfl rfl) rfl ?_
                        refine RG.nil ?_
                        refine MX.cond_kt rfl (not_of (decide_eq_false c4037)) ?_
                        refine MX.seq ?_
                        refine MX.region ?_
                        refine RG.val' .plain (FV.move rfl) rfl ?_
                        refine RG.val' .plain (FV.assign rfl) rfl ?_
                        refine RG.val' .plain (FV.assign rfl) rfl ?_
                        refine RG.nil ?_
                        have h := thn_inl h hh3433
                        refine MX.ret rfl ?_
                        refine RT.leave (u := .tuple #[.slice none 0 0, .int .i64 y4025.2.2]) hb2762 Tryd.func34 rfl (.cons (.tmp rfl) (.cons (.tmp rfl) .nil)) rfl ?_
                        refine RG.val' .plain (FV.move rfl) rfl ?_
                        refine RG.val' .plain (FV.extract rfl rfl) rfl ?_
                        refine RG.val' .plain (FV.extract rfl rfl) rfl ?_
                        refine RG.val' .plain (FV.assign rfl) rfl ?_
                        refine RG.val' .plain (FV.assign rfl) rfl ?_
                        refine RG.nil ?_
                        refine MX.seq ?_
                        refine MX.seq ?_
                        refine MX.region ?_
                        refine RG.val' .plain (FV.move rfl) rfl ?_
                        refine RG.val' .plain (FV.neq (i := y4025.2.2) (j := 0) rfl rfl) rfl ?_
                        refine RG.nil ?_
                        refine MX.cond_kt rfl (not_of (decide_eq_false c4037)) ?_
                        refine MX.seq ?_
                        refine MX.region ?_
                        refine RG.val' .plain (FV.buildV (vs := []) (u := .agg #[.int .u64 0]) evs_nil (fun w9 => by kernel_rfl)) rfl ?_
                        refine RG.val' .plain (FV.move rfl) rfl ?_
                        refine RG.val' .plain (FV.assign rfl) rfl ?_
                        refine RG.now .plain (Acts.store (j := 0) (old := [.int .u64 0]) (news := [.int .u64 0]) (new' := [.int .u64 0]) hS4035 (.tl (.tl (.tl (.tl (.tl (.tl (.tl (.tl .hd)))))))) rfl rfl rfl rfl rfl rfl (ones_cons rfl ones_nil) rfl) (fun w4071 hS4072 hT4073 => ?_)
                        refine RG.val' .plain (FV.assign rfl) rfl ?_
                        refine RG.nil ?_
                        have h := thn_inl h hh2755
                        refine MX.ret rfl ?_
                        have hr4074 : Rep.R w4071 (bl [.cells b4030 [.int .u64 (y4025.2.1.fState.toNat : Int)] 37, .row w.heap.size 3 (Rep.size Int) v3996 xs3993.length cs3994, .cells b3807 [v3996] 22, .cells b3798 [.int .i64 z3420] 3, .cells b3793 [.pointer (some ⟨b33, 0, none⟩)] 72, .row w.heap.size 3 (Rep.size Int) v3424 xs3421.length cs3422, .row w.heap.size 3 (Rep.size Int) v2746 xs2743.length cs2744, .cells b33 [.int .u64 (y4025.2.1.fState.toNat : Int), .int .i64 a0.fN, v0_1, .int .u64 (a1.toNat : Int), .int .i64 s3783] 74, .cells b15 [.int .u64 0] 37, .cells b5 [.int .i64 a0.fN, v0_1] 40] ++ L) [.slice none 0 0] ([] : List Int) := Rep.nilSlice _ _
                        refine RT.leave (u := .tuple #[.slice none 0 0, .agg #[.int .u64 0], .int .i64 y4025.2.2]) hb0 Tryd.func14 rfl (.cons (.tmp rfl) (.cons (.many (cs := [.int .u64 0]) (by kernel_rfl) rfl (hS4072.memA (.tl (.tl (.tl (.tl (.tl (.tl (.tl (.tl .hd)))))))))) (.cons (.tmp rfl) .nil))) rfl ?_
                        obtain rfl := Option.some.inj h
                        have hr4075 : Rep.R w4071 (bl [.cells b4030 [.int .u64 (y4025.2.1.fState.toNat : Int)] 37, .row w.heap.size 3 (Rep.size Int) v3996 xs3993.length cs3994, .cells b3807 [v3996] 22, .cells b3798 [.int .i64 z3420] 3, .cells b3793 [.pointer (some ⟨b33, 0, none⟩)] 72, .row w.heap.size 3 (Rep.size Int) v3424 xs3421.length cs3422, .row w.heap.size 3 (Rep.size Int) v2746 xs2743.length cs2744, .cells b33 [.int .u64 (y4025.2.1.fState.toNat : Int), .int .i64 a0.fN, v0_1, .int .u64 (a1.toNat : Int), .int .i64 s3783] 74, .cells b15 [.int .u64 0] 37, .cells b5 [.int .i64 a0.fN, v0_1] 40] ++ L) [.slice none 0 0] ([] : List Int) := Rep.nilSlice _ _
                        exact ⟨hS4072.ag, fun w9 hw9 => ⟨(.slice none 0 0), rfl, Rep.keep0 (Rep.dropO (O := [.cells b4030 [.int .u64 (y4025.2.1.fState.toNat : Int)] 37, .row w.heap.size 3 (Rep.size Int) v3996 xs3993.length cs3994, .cells b3807 [v3996] 22, .cells b3798 [.int .i64 z3420] 3, .cells b3793 [.pointer (some ⟨b33, 0, none⟩)] 72, .row w.heap.size 3 (Rep.size Int) v3424 xs3421.length cs3422, .row w.heap.size 3 (Rep.size Int) v2746 xs2743.length cs2744, .cells b33 [.int .u64 (y4025.2.1.fState.toNat : Int), .int .i64 a0.fN, v0_1, .int .u64 (a1.toNat : Int), .int .i64 s3783] 74, .cells b15 [.int .u64 0] 37, .cells b5 [.int .i64 a0.fN, v0_1] 40]) hr4075) hw9⟩⟩
                    · skip
                      refine MX.skip ?_
                      refine MX.seq ?_
                      refine MX.block ?_
                      refine MX.seq ?_
                      refine MX.region ?_
                      refine RG.val' .plain (FV.move rfl) rfl ?_
                      refine RG.val' .plain (FV.move rfl) rfl ?_
                      obtain ⟨y4076, hy4076, h⟩ := bind_in h
                      refine RG.callq' (v := .int .i64 y4076) (fst := []) (cap := []) .plain body77 rfl (evs_cons rfl evs_nil) (fun w9 hw9 => math_bits_TrailingZeros64_c n _ w9 (hS3997.hL0 hL hw9) u3992 (hG0.keep (hS3997.ag.trans hw9)) hy4076) rfl ?_
                      refine RG.yield (vs := [.int .i64 y4076]) .plain rfl (evs_cons rfl evs_nil) hS3997 .hd rec3818 rfl rfl rfl (fun cs4078 hb4077 => ?_)
                      refine MX.region ?_
                      refine RG.val' .plain (FV.assign rfl) rfl ?_
                      refine RG.nil ?_
                      refine MX.begin hS3997 .hd (fun w4079 hS4080 hT4081 => ?_)
                      refine MX.block ?_
                      refine MX.region ?_
                      refine RG.val' .plain (FV.load1 (by kernel_rfl) rfl ((hS4080.memA (.tl (.tl (.tl .hd)))) 0 _ rfl)) rfl ?_
                      refine RG.val' .plain (FV.move rfl) rfl ?_
                      refine RG.new .plain rfl (Does.build (α := Int) (xs := ([y4076] : List Int)) (vs := [.int .i64 y4076]) (ds' := [.int .i64 y4076]) rfl hS4080 el22 rfl (evs_cons rfl evs_nil) (by kernel_rfl) rfl) (fun w4083 b4086 hS4084 hT4085 => ?_)
                      have hc4087 : Cells w4083 (bl [.row w.heap.size 3 (Rep.size Int) (.slice (some ⟨b4086, 0, none⟩) 1 1) (([y4076] : List Int).length) [.int .i64 y4076], .obj lk3815 (lpO r3817 .busy none), .obj D3816 (.deferred (some [])), .row w.heap.size 3 (Rep.size Int) v3996 xs3993.length cs3994, .cells b3807 [v3996] 22, .cells b3798 [.int .i64 z3420] 3, .cells b3793 [.pointer (some ⟨b33, 0, none⟩)] 72, .row w.heap.size 3 (Rep.size Int) v3424 xs3421.length cs3422, .row w.heap.size 3 (Rep.size Int) v2746 xs2743.length cs2744, .cells b33 [.int .u64 (u3425.toNat : Int), .int .i64 a0.fN, v0_1, .int .u64 (a1.toNat : Int), .int .i64 s3783] 74, .cells b15 [.int .u64 0] 37, .cells b5 [.int .i64 a0.fN, v0_1] 40] ++ L) [.int .i64 y4076] (([y4076] : List Int) : List Int) := Cells.cons (cs := [.int .i64 y4076]) (ds := []) rfl (Cells.nil _ _)
                      obtain ⟨xs4088, hxs4088, h⟩ := bind_in h
                      have hm4089 := Cells.mv hc3995 (Tr.trans hT4081 hT4085)
                      refine RG.doesL .plain rfl (DoesL.app (α := Int) (ys := ([y4076] : List Int)) (F := fun v' cs' => [.row w.heap.size 3 (Rep.size Int) (.slice (some ⟨b4086, 0, none⟩) 1 1) (([y4076] : List Int).length) [.int .i64 y4076], .obj lk3815 (lpO r3817 .busy none), .obj D3816 (.deferred (some [])), .row w.heap.size 3 (Rep.size Int) v' xs4088.length cs', .cells b3807 [v3996] 22, .cells b3798 [.int .i64 z3420] 3, .cells b3793 [.pointer (some ⟨b33, 0, none⟩)] 72, .row w.heap.size 3 (Rep.size Int) v3424 xs3421.length cs3422, .row w.heap.size 3 (Rep.size Int) v2746 xs2743.length cs2744, .cells b33 [.int .u64 (u3425.toNat : Int), .int .i64 a0.fN, v0_1, .int .u64 (a1.toNat : Int), .int .i64 s3783] 74, .cells b15 [.int .u64 0] 37, .cells b5 [.int .i64 a0.fN, v0_1] 40]) hxs4088 hS4084 (fun _ _ => (.tl (.tl (.tl .hd)))) el22 rfl rfl hm4089 (Src.row (α := Int) hS4084 .hd hc4087)) (fun v4095 w4090 ⟨cs4094, hS4091, hT4092, hc4093⟩ => ?_)
                      refine RG.now .plain (Acts.store (j := 0) (old := [v3996]) (news := [v4095]) (new' := [v4095]) hS4091 (.tl (.tl (.tl (.tl .hd)))) rfl rfl rfl (St.c1 (α := Int) hS4091 (.tl (.tl (.tl .hd)))) rfl rfl (ones_cons (St.o1 (α := Int) hS4091 (.tl (.tl (.tl .hd)))) ones_nil) rfl) (fun w4097 hS4098 hT4099 => ?_)
                      refine RG.nil ?_
                      refine MX.inBlock ?_
                      refine MX.roundEnd hb4077 hS4098 (.tl .hd) (fun w4100 hS4101 hT4102 => ?_)
                      refine RG.val' .plain (FV.not rfl) rfl ?_
                      refine RG.nil ?_
                      refine MX.cond_f rfl ?_
                      refine MX.skip ?_
                      refine MX.inBlock ?_
                      refine MX.region ?_
                      refine RG.val' .plain (FV.move rfl) rfl ?_
                      refine RG.val' .plain (FV.move rfl) rfl ?_
                      refine RG.val' .plain (FV.subU (a := u3992) (b := (1 : UInt64)) rfl rfl) rfl ?_
                      refine RG.val' .plain (FV.andU (a := u3992) (b := u3992 - (1 : UInt64)) rfl rfl) rfl ?_
                      refine RG.val' .plain (FV.assign rfl) rfl ?_
                      refine RG.nil ?_
                      have hS4103 : St _ _ [.obj lk3815 (lpO r3817 .ready none), .obj D3816 (.deferred (some [])), .row w.heap.size 3 (Rep.size Int) v4095 xs4088.length cs4094, .cells b3807 [v4095] 22, .cells b3798 [.int .i64 z3420] 3, .cells b3793 [.pointer (some ⟨b33, 0, none⟩)] 72, .row w.heap.size 3 (Rep.size Int) v3424 xs3421.length cs3422, .row w.heap.size 3 (Rep.size Int) v2746 xs2743.length cs2744, .cells b33 [.int .u64 (u3425.toNat : Int), .int .i64 a0.fN, v0_1, .int .u64 (a1.toNat : Int), .int .i64 s3783] 74, .cells b15 [.int .u64 0] 37, .cells b5 [.int .i64 a0.fN, v0_1] 40] := hS4101.arr (.one (.tl .hd) (.one (.tl .hd) (.one (.tl .hd) (.one (.tl .hd) (.one (.tl .hd) (.one (.tl .hd) (.one (.tl .hd) (.one (.tl .hd) (.one (.tl .hd) (.one (.tl .hd) (.one (.tl .hd) .done)))))))))))
                      have hT4104 : Tr w4100 _ w4100 [.obj lk3815 (lpO r3817 .ready none), .obj D3816 (.deferred (some [])), .row w.heap.size 3 (Rep.size Int) v4095 xs4088.length cs4094, .cells b3807 [v4095] 22, .cells b3798 [.int .i64 z3420] 3, .cells b3793 [.pointer (some ⟨b33, 0, none⟩)] 72, .row w.heap.size 3 (Rep.size Int) v3424 xs3421.length cs3422, .row w.heap.size 3 (Rep.size Int) v2746 xs2743.length cs2744, .cells b33 [.int .u64 (u3425.toNat : Int), .int .i64 a0.fN, v0_1, .int .u64 (a1.toNat : Int), .int .i64 s3783] 74, .cells b15 [.int .u64 0] 37, .cells b5 [.int .i64 a0.fN, v0_1] 40] := Tr.arr (St.arrOf hS4101 (.one (.tl .hd) (.one (.tl .hd) (.one (.tl .hd) (.one (.tl .hd) (.one (.tl .hd) (.one (.tl .hd) (.one (.tl .hd) (.one (.tl .hd) (.one (.tl .hd) (.one (.tl .hd) (.one (.tl .hd) .done))))))))))))
                      have hm4105 := Cells.mv hc4093 (Tr.trans hT4099 (Tr.trans hT4102 hT4104))
                      exact hJ4005 (u3992 &&& (u3992 - (1 : UInt64)), xs4088, v4095, cs4094) _ _ ⟨rfl, rfl, trivial⟩ ⟨hS4103, (Tr.trans hT3998 (Tr.trans hT4081 (Tr.trans hT4085 (Tr.trans hT4092 (Tr.trans hT4099 (Tr.trans hT4102 hT4104)))))), hm4105⟩ h
          · skip
            refine MX.exit rfl ?_
            have h := thn_inr h hh2755
            try dsimp only at h
            refine MX.seq ?_
            refine MX.region ?_
            refine RG.val' .plain (FV.move rfl) rfl ?_
            refine RG.enter (fst := []) (cap := []) (vs := [v2746]) .plain body17 Tryd.func17 rfl rfl rfl rfl (evs_cons rfl evs_nil) rfl (fun cs4107 hb4106 => ?_)
            refine MX.seq ?_
            refine MX.region ?_
            refine RG.val' .plain (FV.move rfl) rfl ?_
            have hl4108 : xs2743.length ≤ 4294967296 := St.rowLe (α := Int) hS2749 .hd
            obtain ⟨A4109, c4110, he4111⟩ := St.rowV (α := Int) hS2749 .hd
            refine RG.val' .plain (FV.lenV Tryd.underlying22 rfl he4111) rfl ?_
            refine RG.val' .plain (FV.assign rfl) rfl ?_
            refine RG.nil ?_
            refine MX.region ?_
            refine RG.val' .plain (FV.move rfl) rfl ?_
            refine RG.val' .plain (FV.move rfl) rfl ?_
            refine RG.val' .plain (FV.move rfl) rfl ?_
            refine RG.val' .plain (FV.convU (i := ((xs2743.length : Nat) : Int)) Tryd.underlying3 Tryd.underlying68 rfl) rfl ?_
            obtain ⟨y4112, hy4112, h⟩ := bind_in h
            refine RG.callq' (v := .int .i64 y4112) (fst := []) (cap := []) .plain body36 rfl (evs_cons rfl evs_nil) (fun w9 hw9 => math_bits_Len_c n _ w9 (hS2749.hL0 hL hw9) (u64of ((xs2743.length : Nat) : Int)) hy4112) rfl ?_
            refine RG.enter (fst := []) (cap := []) (vs := [v2746, .int .i64 0, .int .i64 ((xs2743.length : Nat) : Int), .int .i64 y4112]) .plain body35 Tryd.func35 rfl rfl rfl rfl (evs_cons rfl (evs_cons rfl (evs_cons rfl (evs_cons rfl evs_nil)))) rfl (fun cs4114 hb4113 => ?_)
            refine MX.seq ?_
            refine MX.region ?_
            refine RG.val' .plain (FV.assign rfl) rfl ?_
            refine RG.nil ?_
            refine MX.seq ?_
            refine MX.region ?_
            refine RG.val' .plain (FV.assign rfl) rfl ?_
            refine RG.nil ?_
            refine MX.block ?_
            have ho4961 := h
            refine MX.loop (α := Nat × Nat × Int × Bool × Bool) (fun ⟨i4952, i4953, z4954, q4955, q4956⟩ => [(0, v2746), (1, .int .i64 ((i4952 : Nat) : Int)), (2, .int .i64 ((i4953 : Nat) : Int)), (3, .int .i64 z4954), (8, .bool q4955), (9, .bool q4956)]) (fun ⟨i4952, i4953, z4954, q4955, q4956⟩ wx4956 => St w wx4956 [.row w.heap.size 3 (Rep.size Int) v2746 xs2743.length cs2744, .cells b33 [.int .u64 (u2747.toNat : Int), .int .i64 a0.fN, v0_1, .int .u64 (a1.toNat : Int), .int .i64 z2748] 74, .cells b15 [.int .u64 0] 37, .cells b5 [.int .i64 a0.fN, v0_1] 40] ∧ Tr wx2748 [.row w.heap.size 3 (Rep.size Int) v2746 xs2743.length cs2744, .cells b33 [.int .u64 (u2747.toNat : Int), .int .i64 a0.fN, v0_1, .int .u64 (a1.toNat : Int), .int .i64 z2748] 74, .cells b15 [.int .u64 0] 37, .cells b5 [.int .i64 a0.fN, v0_1] 40] wx4956 [.row w.heap.size 3 (Rep.size Int) v2746 xs2743.length cs2744, .cells b33 [.int .u64 (u2747.toNat : Int), .int .i64 a0.fN, v0_1, .int .u64 (a1.toNat : Int), .int .i64 z2748] 74, .cells b15 [.int .u64 0] 37, .cells b5 [.int .i64 a0.fN, v0_1] 40]) (fun ⟨i4952, i4953, z4954, q4955, q4956⟩ => (i4952, i4953, z4954, q4955, q4956)) (0, xs2743.length, y4112, true, true) ho4961 ⟨rfl, rfl, rfl, rfl, rfl, rfl, trivial⟩ ⟨hS2749, Tr.refl _ _⟩ ?_
            rintro J4962 ⟨i4952, i4953, z4954, q4955, q4956⟩ wx4956 hJ4963 ⟨hS4957, hT4958⟩ h
            unfold wilson_Draw_l7 at h
            try dsimp only at h
            refine MX.block ?_
            refine MX.seq ?_
            refine MX.region ?_
            refine RG.val' .plain (FV.move rfl) rfl ?_
            refine RG.val' .plain (FV.move rfl) rfl ?_
            obtain ⟨s4964, hs4964, h⟩ := bind_in h
            refine RG.val' .plain (FV.subc (i := ((i4953 : Nat) : Int)) (j := ((i4952 : Nat) : Int)) rfl rfl hs4964) rfl ?_
            refine RG.val' .plain (FV.assign rfl) rfl ?_
            refine RG.nil ?_
            refine MX.seq ?_
            refine MX.seq ?_
            refine MX.region ?_
            refine RG.val' .plain (FV.move rfl) rfl ?_
            refine RG.val' .plain (FV.leq (i := s4964) (j := 12) rfl rfl) rfl ?_
            refine RG.nil ?_
            refine MX.ifd rfl h (fun c4965 h => ?_) (fun c4965 h => ?_)
            · skip
              refine MX.seq ?_
              refine MX.region ?_
              refine RG.val' .plain (FV.move rfl) rfl ?_
              refine RG.val' .plain (FV.move rfl) rfl ?_
              refine RG.val' .plain (FV.move rfl) rfl ?_
              refine RG.enter (fst := []) (cap := []) (vs := [v2746, .int .i64 ((i4952 : Nat) : Int), .int .i64 ((i4953 : Nat) : Int)]) .plain body65 Tryd.func65 rfl rfl rfl rfl (evs_cons rfl (evs_cons rfl (evs_cons rfl evs_nil))) rfl (fun cs4967 hb4966 => ?_)
              refine MX.seq ?_
              refine MX.region ?_
              refine RG.val' .plain (FV.move rfl) rfl ?_
              obtain ⟨s4968, hs4968, h⟩ := bind_in h
              refine RG.val' .plain (FV.addc (i := ((i4952 : Nat) : Int)) (j := 1) rfl rfl hs4968) rfl ?_
              refine RG.val' .plain (FV.assign rfl) rfl ?_
              refine RG.nil ?_
              refine MX.block ?_
              have hm5511 := Cells.mv hc2745 hT4958
              obtain ⟨o5521, ho5520, hh5522⟩ := bind_in2 h
              refine MX.loop (α := Int × (List Int) × (List Value)) (fun ⟨z5512, xs5513, cs5514⟩ => [(0, v2746), (1, .int .i64 ((i4952 : Nat) : Int)), (2, .int .i64 ((i4953 : Nat) : Int)), (6, .int .i64 z5512)]) (fun ⟨z5512, xs5513, cs5514⟩ wx5515 => St w wx5515 [.row w.heap.size 3 (Rep.size Int) v2746 xs5513.length cs5514, .cells b33 [.int .u64 (u2747.toNat : Int), .int .i64 a0.fN, v0_1, .int .u64 (a1.toNat : Int), .int .i64 z2748] 74, .cells b15 [.int .u64 0] 37, .cells b5 [.int .i64 a0.fN, v0_1] 40] ∧ Tr wx4956 [.row w.heap.size 3 (Rep.size Int) v2746 xs2743.length cs2744, .cells b33 [.int .u64 (u2747.toNat : Int), .int .i64 a0.fN, v0_1, .int .u64 (a1.toNat : Int), .int .i64 z2748] 74, .cells b15 [.int .u64 0] 37, .cells b5 [.int .i64 a0.fN, v0_1] 40] wx5515 [.row w.heap.size 3 (Rep.size Int) v2746 xs5513.length cs5514, .cells b33 [.int .u64 (u2747.toNat : Int), .int .i64 a0.fN, v0_1, .int .u64 (a1.toNat : Int), .int .i64 z2748] 74, .cells b15 [.int .u64 0] 37, .cells b5 [.int .i64 a0.fN, v0_1] 40] ∧ Cells wx5515 (bl [.row w.heap.size 3 (Rep.size Int) v2746 xs5513.length cs5514, .cells b33 [.int .u64 (u2747.toNat : Int), .int .i64 a0.fN, v0_1, .int .u64 (a1.toNat : Int), .int .i64 z2748] 74, .cells b15 [.int .u64 0] 37, .cells b5 [.int .i64 a0.fN, v0_1] 40] ++ L) cs5514 xs5513) (fun ⟨z5512, xs5513, cs5514⟩ => (z5512, xs5513)) (s4968, xs2743, cs2744) ho5520 ⟨rfl, rfl, rfl, rfl, trivial⟩ ⟨hS4957, Tr.refl _ _, hm5511⟩ ?_
              rintro J5523 ⟨z5512, xs5513, cs5514⟩ wx5515 hJ5524 ⟨hS5516, hT5517, hc5515⟩ h
              unfold wilson_Draw_l6 at h
              try dsimp only at h
              refine MX.seq ?_
              refine MX.seq ?_
              refine MX.region ?_
              refine RG.val' .plain (FV.move rfl) rfl ?_
              refine RG.val' .plain (FV.move rfl) rfl ?_
              refine RG.val' .plain (FV.lss (i := z5512) (j := ((i4953 : Nat) : Int)) rfl rfl) rfl ?_
              refine RG.nil ?_
              refine MX.ifd rfl h (fun c5525 h => ?_) (fun c5525 h => ?_)
              · skip
                refine MX.skip ?_
                refine MX.seq ?_
                refine MX.block ?_
                refine MX.seq ?_
                refine MX.region ?_
                refine RG.val' .plain (FV.move rfl) rfl ?_
                refine RG.val' .plain (FV.assign rfl) rfl ?_
                refine RG.nil ?_
                refine MX.block ?_
                refine MX.joinx (α := (List Int) × (List Value)) (fun ⟨xs5958, cs5959⟩ => [(0, v2746), (1, .int .i64 ((i4952 : Nat) : Int)), (2, .int .i64 ((i4953 : Nat) : Int)), (6, .int .i64 z5512)]) (fun ⟨xs5958, cs5959⟩ wx5960 => St w wx5960 [.row w.heap.size 3 (Rep.size Int) v2746 xs5958.length cs5959, .cells b33 [.int .u64 (u2747.toNat : Int), .int .i64 a0.fN, v0_1, .int .u64 (a1.toNat : Int), .int .i64 z2748] 74, .cells b15 [.int .u64 0] 37, .cells b5 [.int .i64 a0.fN, v0_1] 40] ∧ Tr wx5515 [.row w.heap.size 3 (Rep.size Int) v2746 xs5513.length cs5514, .cells b33 [.int .u64 (u2747.toNat : Int), .int .i64 a0.fN, v0_1, .int .u64 (a1.toNat : Int), .int .i64 z2748] 74, .cells b15 [.int .u64 0] 37, .cells b5 [.int .i64 a0.fN, v0_1] 40] wx5960 [.row w.heap.size 3 (Rep.size Int) v2746 xs5958.length cs5959, .cells b33 [.int .u64 (u2747.toNat : Int), .int .i64 a0.fN, v0_1, .int .u64 (a1.toNat : Int), .int .i64 z2748] 74, .cells b15 [.int .u64 0] 37, .cells b5 [.int .i64 a0.fN, v0_1] 40] ∧ Cells wx5960 (bl [.row w.heap.size 3 (Rep.size Int) v2746 xs5958.length cs5959, .cells b33 [.int .u64 (u2747.toNat : Int), .int .i64 a0.fN, v0_1, .int .u64 (a1.toNat : Int), .int .i64 z2748] 74, .cells b15 [.int .u64 0] 37, .cells b5 [.int .i64 a0.fN, v0_1] 40] ++ L) cs5959 xs5958) (fun ⟨xs5958, cs5959⟩ => xs5958) (id := 2) rfl h ?_ ?_
                · skip
                  rintro ⟨xs5958, cs5959⟩ wx5960 ⟨hS5961, hT5962, hc5960⟩ h
                  try dsimp only at h
                  refine MX.inBlock ?_
                  refine MX.region ?_
                  refine RG.val' .plain (FV.move rfl) rfl ?_
                  obtain ⟨s5966, hs5966, h⟩ := bind_in h
                  refine RG.val' .plain (FV.addc (i := z5512) (j := 1) rfl rfl hs5966) rfl ?_
                  refine RG.val' .plain (FV.assign rfl) rfl ?_
                  refine RG.nil ?_
                  exact hJ5524 (s5966, xs5958, cs5959) _ _ ⟨rfl, rfl, rfl, rfl, trivial⟩ ⟨hS5961, (Tr.trans hT5517 hT5962), hc5960⟩ h
                · skip
                  intro J5964 hJ5965 h
                  try dsimp only at h
                  obtain ⟨o6146, ho6145, hh6147⟩ := bind_in2 h
                  refine MX.loop (α := Int × (List Int) × (List Value)) (fun ⟨z6137, xs6138, cs6139⟩ => [(0, v2746), (1, .int .i64 ((i4952 : Nat) : Int)), (2, .int .i64 ((i4953 : Nat) : Int)), (6, .int .i64 z5512), (7, .int .i64 z6137)]) (fun ⟨z6137, xs6138, cs6139⟩ wx6140 => St w wx6140 [.row w.heap.size 3 (Rep.size Int) v2746 xs6138.length cs6139, .cells b33 [.int .u64 (u2747.toNat : Int), .int .i64 a0.fN, v0_1, .int .u64 (a1.toNat : Int), .int .i64 z2748] 74, .cells b15 [.int .u64 0] 37, .cells b5 [.int .i64 a0.fN, v0_1] 40] ∧ Tr wx5515 [.row w.heap.size 3 (Rep.size Int) v2746 xs5513.length cs5514, .cells b33 [.int .u64 (u2747.toNat : Int), .int .i64 a0.fN, v0_1, .int .u64 (a1.toNat : Int), .int .i64 z2748] 74, .cells b15 [.int .u64 0] 37, .cells b5 [.int .i64 a0.fN, v0_1] 40] wx6140 [.row w.heap.size 3 (Rep.size Int) v2746 xs6138.length cs6139, .cells b33 [.int .u64 (u2747.toNat : Int), .int .i64 a0.fN, v0_1, .int .u64 (a1.toNat : Int), .int .i64 z2748] 74, .cells b15 [.int .u64 0] 37, .cells b5 [.int .i64 a0.fN, v0_1] 40] ∧ Cells wx6140 (bl [.row w.heap.size 3 (Rep.size Int) v2746 xs6138.length cs6139, .cells b33 [.int .u64 (u2747.toNat : Int), .int .i64 a0.fN, v0_1, .int .u64 (a1.toNat : Int), .int .i64 z2748] 74, .cells b15 [.int .u64 0] 37, .cells b5 [.int .i64 a0.fN, v0_1] 40] ++ L) cs6139 xs6138) (fun ⟨z6137, xs6138, cs6139⟩ => (z6137, xs6138)) (z5512, xs5513, cs5514) ho6145 ⟨rfl, rfl, rfl, rfl, rfl, trivial⟩ ⟨hS5516, Tr.refl _ _, hc5515⟩ ?_
                  rintro J6148 ⟨z6137, xs6138, cs6139⟩ wx6140 hJ6149 ⟨hS6141, hT6142, hc6140⟩ h
                  unfold wilson_Draw_l5 at h
                  try dsimp only at h
                  refine MX.seq ?_
                  refine MX.seq ?_
                  refine MX.drawT 15 tb65_4 (by kernel_rfl) (by kernel_rfl) (by kernel_rfl) (fun kt6150 kp6151 => ?_)
                  refine RD.valP (i := 0) (m' := 1) (takePC_ok kt6150 (by kernel_rfl)) rfl kp6151 .plain (fun _ => FV.move rfl) rfl ?_
                  refine RD.valP (i := 1) (m' := 3) (takePC_ok kt6150 (by kernel_rfl)) rfl kp6151 .plain (fun _ => FV.move rfl) rfl ?_
                  refine RD.valP (i := 2) (m' := 7) (takePC_ok kt6150 (by kernel_rfl)) rfl kp6151 .plain (fun _ => FV.gtr (i := z6137) (j := ((i4952 : Nat) : Int)) rfl rfl) rfl ?_
                  refine RD.valP (i := 3) (m' := 15) (takePC_ok kt6150 (by kernel_rfl)) rfl kp6151 .plain (fun _ => FV.move rfl) rfl ?_
                  refine RD.ifd (s := 19) rfl h (fun c6152 h => ?_) (fun c6152 h => ?_)
                  · skip
                    refine RD.valP (i := 4) (m' := 31) (takePC_ok kt6150 (by kernel_rfl)) rfl kp6151 (.yes rfl rfl) (fun _ => FV.move rfl) rfl ?_
                    refine RD.valP (i := 5) (m' := 63) (takePC_ok kt6150 (by kernel_rfl)) rfl kp6151 (.yes rfl rfl) (fun _ => FV.move rfl) rfl ?_
                    obtain ⟨x6153, hx6153, h⟩ := bind_in h
                    obtain ⟨hi6154, hx6155⟩ := idx_in hx6153
                    obtain ⟨A6156, c6157, he6158, hk6159, cs6160, hr6161, hm6162⟩ := St.nth (α := Int) hS6141 .hd hc6140 hx6155
                    obtain ⟨b6163, c6164, he6165⟩ := St.nthOwn (α := Int) hS6141 .hd hk6159
                    obtain rfl : A6156 = ⟨b6163, 0, none⟩ := by rw [he6165] at he6158; cases he6158; rfl
                    have he6166 : cs6160 = [.int .i64 x6153] := hr6161; subst he6166
                    refine RD.valP (i := 6) (m' := 127) (takePC_ok kt6150 (by kernel_rfl)) rfl kp6151 (.yes rfl rfl) (fun _ => FV.idxAddr (m := 1) (i := z6137.toNat) (by kernel_rfl) rfl he6158 rfl hi6154 hk6159) rfl ?_
                    refine RD.val (i := 7) (m' := 255) (W := 24576) (takeC_ok kt6150 (by kernel_rfl)) rfl kp6151 (.yes rfl rfl) (FV.load1 (by kernel_rfl) rfl (hm6162 0 _ rfl)) rfl ?_
                    refine RD.valP (i := 8) (m' := 511) (takePC_ok kt6150 (by kernel_rfl)) rfl kp6151 (.yes rfl rfl) (fun _ => FV.move rfl) rfl ?_
                    refine RD.valP (i := 9) (m' := 1023) (takePC_ok kt6150 (by kernel_rfl)) rfl kp6151 (.yes rfl rfl) (fun _ => FV.move rfl) rfl ?_
                    obtain ⟨s6167, hs6167, h⟩ := bind_in h
                    refine RD.valP (i := 10) (m' := 2047) (takePC_ok kt6150 (by kernel_rfl)) rfl kp6151 (.yes rfl rfl) (fun _ => FV.subc (i := z6137) (j := 1) rfl rfl hs6167) rfl ?_
                    obtain ⟨x6168, hx6168, h⟩ := bind_in h
                    obtain ⟨hi6169, hx6170⟩ := idx_in hx6168
                    obtain ⟨A6171, c6172, he6173, hk6174, cs6175, hr6176, hm6177⟩ := St.nth (α := Int) hS6141 .hd hc6140 hx6170
                    obtain ⟨b6178, c6179, he6180⟩ := St.nthOwn (α := Int) hS6141 .hd hk6174
                    obtain rfl : A6171 = ⟨b6178, 0, none⟩ := by rw [he6180] at he6173; cases he6173; rfl
                    have he6181 : cs6175 = [.int .i64 x6168] := hr6176; subst he6181
                    refine RD.valP (i := 11) (m' := 4095) (takePC_ok kt6150 (by kernel_rfl)) rfl kp6151 (.yes rfl rfl) (fun _ => FV.idxAddr (m := 1) (i := s6167.toNat) (by kernel_rfl) rfl he6173 rfl hi6169 hk6174) rfl ?_
                    refine RD.val (i := 12) (m' := 8191) (W := 24576) (takeC_ok kt6150 (by kernel_rfl)) rfl kp6151 (.yes rfl rfl) (FV.load1 (by kernel_rfl) rfl (hm6177 0 _ rfl)) rfl ?_
                    obtain ⟨y6182, hy6182, h⟩ := bind_in h
                    refine RD.callq (i := 13) (m' := 16383) (W := 16384) (takeC_ok kt6150 (by kernel_rfl)) rfl kp6151 (v := .bool y6182) (fst := []) (cap := []) (.yes rfl rfl) body71 rfl (evs_cons rfl (evs_cons rfl evs_nil)) (fun w9 hw9 => cmp_Less_int_c n _ w9 (hS6141.hL0 hL hw9) x6153 x6168 hy6182) rfl ?_
                    refine RD.valP (i := 14) (m' := 32767) (takePC_ok kt6150 (by kernel_rfl)) rfl kp6151 .plain (fun _ => FV.pick_t rfl rfl) rfl ?_
                    refine RD.done (doneD_ok kt6150 (by kernel_rfl)) ?_
                    refine MX.ifb rfl h (fun c6183 h => ?_) (fun c6183 h => ?_)
                    · skip
                      refine MX.skip ?_
                      refine MX.seq ?_
                      refine MX.block ?_
                      refine MX.drawT 15 tb65_6 (by kernel_rfl) (by kernel_rfl) (by kernel_rfl) (fun kt6184 kp6185 => ?_)
                      refine RD.valP (i := 0) (m' := 1) (takePC_ok kt6184 (by kernel_rfl)) rfl kp6185 .plain (fun _ => FV.move rfl) rfl ?_
                      refine RD.valP (i := 1) (m' := 3) (takePC_ok kt6184 (by kernel_rfl)) rfl kp6185 .plain (fun _ => FV.move rfl) rfl ?_
                      refine RD.valP (i := 2) (m' := 7) (takePC_ok kt6184 (by kernel_rfl)) rfl kp6185 .plain (fun _ => FV.move rfl) rfl ?_
                      refine RD.valP (i := 3) (m' := 15) (takePC_ok kt6184 (by kernel_rfl)) rfl kp6185 .plain (fun _ => FV.move rfl) rfl ?_
                      obtain ⟨s6186, hs6186, h⟩ := bind_in h
                      refine RD.valP (i := 4) (m' := 31) (takePC_ok kt6184 (by kernel_rfl)) rfl kp6185 .plain (fun _ => FV.subc (i := z6137) (j := 1) rfl rfl hs6186) rfl ?_
                      refine RD.valP (i := 5) (m' := 63) (takePC_ok kt6184 (by kernel_rfl)) rfl kp6185 .plain (fun _ => FV.move rfl) rfl ?_
                      refine RD.valP (i := 6) (m' := 127) (takePC_ok kt6184 (by kernel_rfl)) rfl kp6185 .plain (fun _ => FV.move rfl) rfl ?_
                      obtain ⟨s6187, hs6187, h⟩ := bind_in h
                      refine RD.valP (i := 7) (m' := 255) (takePC_ok kt6184 (by kernel_rfl)) rfl kp6185 .plain (fun _ => FV.subc (i := z6137) (j := 1) rfl rfl hs6187) rfl ?_
                      obtain ⟨x6188, hx6188, h⟩ := bind_in h
                      obtain ⟨hi6189, hx6190⟩ := idx_in hx6188
                      obtain ⟨A6191, c6192, he6193, hk6194, cs6195, hr6196, hm6197⟩ := St.nth (α := Int) hS6141 .hd hc6140 hx6190
                      obtain ⟨b6198, c6199, he6200⟩ := St.nthOwn (α := Int) hS6141 .hd hk6194
                      obtain rfl : A6191 = ⟨b6198, 0, none⟩ := by rw [he6200] at he6193; cases he6193; rfl
                      have he6201 : cs6195 = [.int .i64 x6188] := hr6196; subst he6201
                      refine RD.valP (i := 8) (m' := 511) (takePC_ok kt6184 (by kernel_rfl)) rfl kp6185 .plain (fun _ => FV.idxAddr (m := 1) (i := s6187.toNat) (by kernel_rfl) rfl he6193 rfl hi6189 hk6194) rfl ?_
                      refine RD.val (i := 9) (m' := 1023) (W := 245760) (takeC_ok kt6184 (by kernel_rfl)) rfl kp6185 .plain (FV.load1 (by kernel_rfl) rfl (hm6197 0 _ rfl)) rfl ?_
                      refine RD.valP (i := 10) (m' := 2047) (takePC_ok kt6184 (by kernel_rfl)) rfl kp6185 .plain (fun _ => FV.move rfl) rfl ?_
                      refine RD.valP (i := 11) (m' := 4095) (takePC_ok kt6184 (by kernel_rfl)) rfl kp6185 .plain (fun _ => FV.move rfl) rfl ?_
                      refine RD.valP (i := 12) (m' := 8191) (takePC_ok kt6184 (by kernel_rfl)) rfl kp6185 .plain (fun _ => FV.idxAddr (m := 1) (i := z6137.toNat) (by kernel_rfl) rfl he6158 rfl hi6154 hk6159) rfl ?_
                      refine RD.val (i := 13) (m' := 16383) (W := 245760) (takeC_ok kt6184 (by kernel_rfl)) rfl kp6185 .plain (FV.load1 (by kernel_rfl) rfl (hm6162 0 _ rfl)) rfl ?_
                      refine RD.valP (i := 14) (m' := 32767) (takePC_ok kt6184 (by kernel_rfl)) rfl kp6185 .plain (fun _ => FV.idxAddr (m := 1) (i := z6137.toNat) (by kernel_rfl) rfl he6158 rfl hi6154 hk6159) rfl ?_
                      obtain ⟨xs6202, hxs6202, h⟩ := bind_in h
                      refine RD.one (i := 15) (readyD_ok kt6184 (by kernel_rfl)) (RO.acts (m' := 65535) (stepC_ok kt6184 (by kernel_rfl)) rfl rfl .plain (Acts.set (α := Int) (i := z6137.toNat) (F := fun cs' => [.row w.heap.size 3 (Rep.size Int) v2746 xs6202.length cs', .cells b33 [.int .u64 (u2747.toNat : Int), .int .i64 a0.fN, v0_1, .int .u64 (a1.toNat : Int), .int .i64 z2748] 74, .cells b15 [.int .u64 0] 37, .cells b5 [.int .i64 a0.fN, v0_1] 40]) hxs6202 hS6141 he6165 (fun _ => .hd) hc6140 rfl rfl rfl rfl rfl (by kernel_rfl)) (fun w6203 ⟨cs6207, hS6204, hT6205, hc6206⟩ => ?_))
                      obtain ⟨x6208, hx6208, h⟩ := bind_in h
                      obtain ⟨hi6209, hx6210⟩ := idx_in hx6208
                      obtain ⟨A6211, c6212, he6213, hk6214, cs6215, hr6216, hm6217⟩ := St.nth (α := Int) hS6204 .hd hc6206 hx6210
                      obtain ⟨b6218, c6219, he6220⟩ := St.nthOwn (α := Int) hS6204 .hd hk6214
                      obtain rfl : A6211 = ⟨b6218, 0, none⟩ := by rw [he6220] at he6213; cases he6213; rfl
                      have he6221 : cs6215 = [.int .i64 x6208] := hr6216; subst he6221
                      refine RD.one (i := 16) (readyD_ok kt6184 (by kernel_rfl)) (RO.val (m' := 131071) (stepC_ok kt6184 (by kernel_rfl)) rfl .plain rfl (FV.idxAddr (m := 1) (i := s6186.toNat) (by kernel_rfl) rfl he6213 rfl hi6209 hk6214) ?_)
                      obtain ⟨xs6222, hxs6222, h⟩ := bind_in h
                      refine RD.one (i := 17) (readyD_ok kt6184 (by kernel_rfl)) (RO.acts (m' := 262143) (stepC_ok kt6184 (by kernel_rfl)) rfl rfl .plain (Acts.set (α := Int) (i := s6186.toNat) (F := fun cs' => [.row w.heap.size 3 (Rep.size Int) v2746 xs6222.length cs', .cells b33 [.int .u64 (u2747.toNat : Int), .int .i64 a0.fN, v0_1, .int .u64 (a1.toNat : Int), .int .i64 z2748] 74, .cells b15 [.int .u64 0] 37, .cells b5 [.int .i64 a0.fN, v0_1] 40]) hxs6222 hS6204 he6220 (fun _ => .hd) hc6206 rfl rfl rfl rfl rfl (by kernel_rfl)) (fun w6223 ⟨cs6227, hS6224, hT6225, hc6226⟩ => ?_))
                      refine RD.done (doneD_ok kt6184 (by kernel_rfl)) ?_
                      refine MX.inBlock ?_
                      refine MX.region ?_
                      refine RG.val' .plain (FV.move rfl) rfl ?_
                      obtain ⟨s6228, hs6228, h⟩ := bind_in h
                      refine RG.val' .plain (FV.subc (i := z6137) (j := 1) rfl rfl hs6228) rfl ?_
                      refine RG.val' .plain (FV.assign rfl) rfl ?_
                      refine RG.nil ?_
                      exact hJ6149 (s6228, xs6222, cs6227) _ _ ⟨rfl, rfl, rfl, rfl, rfl, trivial⟩ ⟨hS6224, (Tr.trans hT6142 (Tr.trans hT6205 hT6225)), hc6226⟩ h
                    · skip
                      refine MX.exit rfl ?_
                      have h := hh6147 _ h
                      try dsimp only at h
                      exact hJ5965 (xs6138, cs6139) _ _ ⟨rfl, rfl, rfl, rfl, trivial⟩ ⟨hS6141, hT6142, hc6140⟩ h
                  · skip
                    refine RD.off (i := 4) (m' := 31) (takePC_ok kt6150 (by kernel_rfl)) rfl kp6151 (.no rfl rfl) rfl ?_
                    refine RD.off (i := 5) (m' := 63) (takePC_ok kt6150 (by kernel_rfl)) rfl kp6151 (.no rfl rfl) rfl ?_
                    refine RD.off (i := 6) (m' := 127) (takePC_ok kt6150 (by kernel_rfl)) rfl kp6151 (.no rfl rfl) rfl ?_
                    refine RD.off (i := 7) (m' := 255) (takePC_ok kt6150 (by kernel_rfl)) rfl kp6151 (.no rfl rfl) rfl ?_
                    refine RD.off (i := 8) (m' := 511) (takePC_ok kt6150 (by kernel_rfl)) rfl kp6151 (.no rfl rfl) rfl ?_
                    refine RD.off (i := 9) (m' := 1023) (takePC_ok kt6150 (by kernel_rfl)) rfl kp6151 (.no rfl rfl) rfl ?_
                    refine RD.off (i := 10) (m' := 2047) (takePC_ok kt6150 (by kernel_rfl)) rfl kp6151 (.no rfl rfl) rfl ?_
                    refine RD.off (i := 11) (m' := 4095) (takePC_ok kt6150 (by kernel_rfl)) rfl kp6151 (.no rfl rfl) rfl ?_
                    refine RD.off (i := 12) (m' := 8191) (takePC_ok kt6150 (by kernel_rfl)) rfl kp6151 (.no rfl rfl) rfl ?_
                    refine RD.off (i := 13) (m' := 16383) (takePC_ok kt6150 (by kernel_rfl)) rfl kp6151 (.no rfl rfl) rfl ?_
                    refine RD.valP (i := 14) (m' := 32767) (takePC_ok kt6150 (by kernel_rfl)) rfl kp6151 .plain (fun _ => FV.pick_f rfl rfl) rfl ?_
                    refine RD.done (doneD_ok kt6150 (by kernel_rfl)) ?_
                    refine MX.cond_f rfl ?_
                    refine MX.exit rfl ?_
                    have h := hh6147 _ h
                    try dsimp only at h
                    exact hJ5965 (xs6138, cs6139) _ _ ⟨rfl, rfl, rfl, rfl, trivial⟩ ⟨hS6141, hT6142, hc6140⟩ h
              · skip
                refine MX.exit rfl ?_
                have h := hh5522 _ h
                try dsimp only at h
                refine MX.fin rfl ?_
                refine RT.leave (u := .tuple #[]) hb4966 Tryd.func65 rfl .nil rfl ?_
                refine RG.nil ?_
                refine MX.ret rfl ?_
                refine RT.leave (u := .tuple #[]) hb4113 Tryd.func35 rfl .nil rfl ?_
                refine RG.nil ?_
                refine MX.fin rfl ?_
                refine RT.leave (u := .tuple #[]) hb4106 Tryd.func17 rfl .nil rfl ?_
                refine RG.nil ?_
                refine MX.seq ?_
                refine MX.drawT 6 tb14_29 (by kernel_rfl) (by kernel_rfl) (by kernel_rfl) (fun kt6229 kp6230 => ?_)
                refine RD.valP (i := 0) (m' := 1) (takePC_ok kt6229 (by kernel_rfl)) rfl kp6230 .plain (fun _ => FV.move rfl) rfl ?_
                refine RD.valP (i := 1) (m' := 3) (takePC_ok kt6229 (by kernel_rfl)) rfl kp6230 .plain (fun _ => FV.move rfl) rfl ?_
                refine RD.valP (i := 2) (m' := 7) (takePC_ok kt6229 (by kernel_rfl)) rfl kp6230 .plain (fun _ => FV.nilCheck rfl) rfl ?_
                refine RD.valP (i := 3) (m' := 15) (takePC_ok kt6229 (by kernel_rfl)) rfl kp6230 .plain (fun _ => FV.fieldAddr (off := 0) (by kernel_rfl) rfl) rfl ?_
                refine RD.val (i := 4) (m' := 31) (W := 192) (takeC_ok kt6229 (by kernel_rfl)) rfl kp6230 .plain (FV.loadN (cs := [.int .u64 (u2747.toNat : Int)]) (by kernel_rfl) rfl (mem_part (hS5516.memA (.tl .hd)) 0 1)) rfl ?_
                refine RD.valP (i := 5) (m' := 63) (takePC_ok kt6229 (by kernel_rfl)) rfl kp6230 .plain (fun _ => FV.assign rfl) rfl ?_
                refine RD.one (i := 6) (readyD_ok kt6229 (by kernel_rfl)) (RO.now (m' := 127) (stepC_ok kt6229 (by kernel_rfl)) rfl rfl .plain (Acts.store (j := 0) (old := [.int .u64 0]) (news := [.int .u64 (u2747.toNat : Int)]) (new' := [.int .u64 (u2747.toNat : Int)]) hS5516 (.tl (.tl .hd)) rfl rfl rfl rfl rfl rfl (ones_cons rfl ones_nil) rfl) (fun w6231 hS6232 hT6233 => ?_))
                refine RD.one (i := 7) (readyD_ok kt6229 (by kernel_rfl)) (RO.val (m' := 255) (stepC_ok kt6229 (by kernel_rfl)) rfl .plain rfl (FV.assign rfl) ?_)
                refine RD.done (doneD_ok kt6229 (by kernel_rfl)) ?_
                refine MX.ret rfl ?_
                have hm6237 := Cells.mv hc5515 hT6233
                have hr6234 := St.freeze (α := Int) hS6232 .hd hm6237 hL
                have hS6235 := hS6232.del (.hd : Out _ _ _).del
                have hT6236 := Tr.del (w := w6231) (.hd : Out [.row w.heap.size 3 (Rep.size Int) v2746 xs5513.length cs5514, .cells b33 [.int .u64 (u2747.toNat : Int), .int .i64 a0.fN, v0_1, .int .u64 (a1.toNat : Int), .int .i64 z2748] 74, .cells b15 [.int .u64 (u2747.toNat : Int)] 37, .cells b5 [.int .i64 a0.fN, v0_1] 40] _ _).del
                have hr6238 : Rep.R w6231 (bl [.cells b33 [.int .u64 (u2747.toNat : Int), .int .i64 a0.fN, v0_1, .int .u64 (a1.toNat : Int), .int .i64 z2748] 74, .cells b15 [.int .u64 (u2747.toNat : Int)] 37, .cells b5 [.int .i64 a0.fN, v0_1] 40] ++ L) [v2746] xs5513 := hr6234
                refine RT.leave (u := .tuple #[v2746, .agg #[.int .u64 (u2747.toNat : Int)], .int .i64 0]) hb0 Tryd.func14 rfl (.cons (.tmp rfl) (.cons (.many (cs := [.int .u64 (u2747.toNat : Int)]) (by kernel_rfl) rfl (hS6235.memA (.tl .hd))) (.cons (.tmp rfl) .nil))) rfl ?_
                obtain rfl := Option.some.inj h
                exact ⟨hS6235.ag, fun w9 hw9 => ⟨v2746, rfl, Rep.keep0 (Rep.dropO (O := [.cells b33 [.int .u64 (u2747.toNat : Int), .int .i64 a0.fN, v0_1, .int .u64 (a1.toNat : Int), .int .i64 z2748] 74, .cells b15 [.int .u64 (u2747.toNat : Int)] 37, .cells b5 [.int .i64 a0.fN, v0_1] 40]) hr6238) hw9⟩⟩
            · skip
              refine MX.skip ?_
              refine MX.seq ?_
              refine MX.seq ?_
              refine MX.region ?_
              refine RG.val' .plain (FV.move rfl) rfl ?_
              refine RG.val' .plain (FV.eql (i := z4954) (j := 0) rfl rfl) rfl ?_
              refine RG.nil ?_
              refine MX.ifd rfl h (fun c6239 h => ?_) (fun c6239 h => ?_)
              · skip
                refine MX.seq ?_
                refine MX.region ?_
                refine RG.val' .plain (FV.move rfl) rfl ?_
                refine RG.val' .plain (FV.move rfl) rfl ?_
                refine RG.val' .plain (FV.move rfl) rfl ?_
                cases h
              · skip
                refine MX.skip ?_
                refine MX.seq ?_
                refine MX.seq ?_
                refine MX.region ?_
                refine RG.val' .plain (FV.move rfl) rfl ?_
                refine RG.val' .plain (FV.not rfl) rfl ?_
                refine RG.nil ?_
                refine MX.ifnb rfl h (fun c6241 h => ?_) (fun c6241 h => ?_)
                · skip
                  refine MX.skip ?_
                  refine MX.seq ?_
                  refine MX.region ?_
                  refine RG.val' .plain (FV.move rfl) rfl ?_
                  refine RG.val' .plain (FV.move rfl) rfl ?_
                  refine RG.val' .plain (FV.move rfl) rfl ?_
                  cases h
                · skip
                  refine MX.seq ?_
                  refine MX.region ?_
                  refine RG.val' .plain (FV.move rfl) rfl ?_
                  refine RG.val' .plain (FV.move rfl) rfl ?_
                  refine RG.val' .plain (FV.move rfl) rfl ?_
                  cases h
        · skip
          refine MX.seq ?_
          refine MX.region ?_
          refine RG.val' .plain (FV.buildV (vs := []) (u := .agg #[.int .u64 0]) evs_nil (fun w9 => by kernel_rfl)) rfl ?_
          refine RG.val' .plain (FV.assign rfl) rfl ?_
          refine RG.now .plain (Acts.store (j := 0) (old := [.int .u64 0]) (news := [.int .u64 0]) (new' := [.int .u64 0]) hS13 .hd rfl rfl rfl rfl rfl rfl (ones_cons rfl ones_nil) rfl) (fun w6242 hS6243 hT6244 => ?_)
          refine RG.val' .plain (FV.assign rfl) rfl ?_
          refine RG.nil ?_
          refine MX.ret rfl ?_
          have hr6245 : Rep.R w6242 (bl [.cells b15 [.int .u64 0] 37, .cells b10 [.int .u64 (a2.fState.toNat : Int)] 37, .cells b5 [.int .i64 a0.fN, v0_1] 40] ++ L) [.slice none 0 0] ([] : List Int) := Rep.nilSlice _ _
          refine RT.leave (u := .tuple #[.slice none 0 0, .agg #[.int .u64 0], .int .i64 4]) hb0 Tryd.func14 rfl (.cons (.tmp rfl) (.cons (.many (cs := [.int .u64 0]) (by kernel_rfl) rfl (hS6243.memA .hd)) (.cons (.tmp rfl) .nil))) rfl ?_
          obtain rfl := Option.some.inj h
          have hr6246 : Rep.R w6242 (bl [.cells b15 [.int .u64 0] 37, .cells b10 [.int .u64 (a2.fState.toNat : Int)] 37, .cells b5 [.int .i64 a0.fN, v0_1] 40] ++ L) [.slice none 0 0] ([] : List Int) := Rep.nilSlice _ _
          exact ⟨hS6243.ag, fun w9 hw9 => ⟨(.slice none 0 0), rfl, Rep.keep0 (Rep.dropO (O := [.cells b15 [.int .u64 0] 37, .cells b10 [.int .u64 (a2.fState.toNat : Int)] 37, .cells b5 [.int .i64 a0.fN, v0_1] 40]) hr6246) hw9⟩⟩
      · skip
        refine MX.seq ?_
        refine MX.region ?_
        refine RG.val' .plain (FV.buildV (vs := []) (u := .agg #[.int .u64 0]) evs_nil (fun w9 => by kernel_rfl)) rfl ?_
        refine RG.val' .plain (FV.assign rfl) rfl ?_
        refine RG.now .plain (Acts.store (j := 0) (old := [.int .u64 0]) (news := [.int .u64 0]) (new' := [.int .u64 0]) hS13 .hd rfl rfl rfl rfl rfl rfl (ones_cons rfl ones_nil) rfl) (fun w6247 hS6248 hT6249 => ?_)
        refine RG.val' .plain (FV.assign rfl) rfl ?_
        refine RG.nil ?_
        refine MX.ret rfl ?_
        have hr6250 : Rep.R w6247 (bl [.cells b15 [.int .u64 0] 37, .cells b10 [.int .u64 (a2.fState.toNat : Int)] 37, .cells b5 [.int .i64 a0.fN, v0_1] 40] ++ L) [.slice none 0 0] ([] : List Int) := Rep.nilSlice _ _
        refine RT.leave (u := .tuple #[.slice none 0 0, .agg #[.int .u64 0], .int .i64 2]) hb0 Tryd.func14 rfl (.cons (.tmp rfl) (.cons (.many (cs := [.int .u64 0]) (by kernel_rfl) rfl (hS6248.memA .hd)) (.cons (.tmp rfl) .nil))) rfl ?_
        obtain rfl := Option.some.inj h
        have hr6251 : Rep.R w6247 (bl [.cells b15 [.int .u64 0] 37, .cells b10 [.int .u64 (a2.fState.toNat : Int)] 37, .cells b5 [.int .i64 a0.fN, v0_1] 40] ++ L) [.slice none 0 0] ([] : List Int) := Rep.nilSlice _ _
        exact ⟨hS6248.ag, fun w9 hw9 => ⟨(.slice none 0 0), rfl, Rep.keep0 (Rep.dropO (O := [.cells b15 [.int .u64 0] 37, .cells b10 [.int .u64 (a2.fState.toNat : Int)] 37, .cells b5 [.int .i64 a0.fN, v0_1] 40]) hr6251) hw9⟩⟩
  · skip
    refine MX.seq ?_
    refine MX.region ?_
    refine RG.val' .plain (FV.buildV (vs := []) (u := .agg #[.int .u64 0]) evs_nil (fun w9 => by kernel_rfl)) rfl ?_
    refine RG.val' .plain (FV.move rfl) rfl ?_
    refine RG.val' .plain (FV.assign rfl) rfl ?_
    refine RG.now .plain (Acts.store (j := 0) (old := [.int .u64 0]) (news := [.int .u64 0]) (new' := [.int .u64 0]) hS13 .hd rfl rfl rfl rfl rfl rfl (ones_cons rfl ones_nil) rfl) (fun w6252 hS6253 hT6254 => ?_)
    refine RG.val' .plain (FV.assign rfl) rfl ?_
    refine RG.nil ?_
    refine MX.ret rfl ?_
    have hr6255 : Rep.R w6252 (bl [.cells b15 [.int .u64 0] 37, .cells b10 [.int .u64 (a2.fState.toNat : Int)] 37, .cells b5 [.int .i64 a0.fN, v0_1] 40] ++ L) [.slice none 0 0] ([] : List Int) := Rep.nilSlice _ _
    refine RT.leave (u := .tuple #[.slice none 0 0, .agg #[.int .u64 0], .int .i64 y16]) hb0 Tryd.func14 rfl (.cons (.tmp rfl) (.cons (.many (cs := [.int .u64 0]) (by kernel_rfl) rfl (hS6253.memA .hd)) (.cons (.tmp rfl) .nil))) rfl ?_
    obtain rfl := Option.some.inj h
    have hr6256 : Rep.R w6252 (bl [.cells b15 [.int .u64 0] 37, .cells b10 [.int .u64 (a2.fState.toNat : Int)] 37, .cells b5 [.int .i64 a0.fN, v0_1] 40] ++ L) [.slice none 0 0] ([] : List Int) := Rep.nilSlice _ _
    exact ⟨hS6253.ag, fun w9 hw9 => ⟨(.slice none 0 0), rfl, Rep.keep0 (Rep.dropO (O := [.cells b15 [.int .u64 0] 37, .cells b10 [.int .u64 (a2.fState.toNat : Int)] 37, .cells b5 [.int .i64 a0.fN, v0_1] 40]) hr6256) hw9⟩⟩
def graph_has_p (n : Nat) (a0 : UInt64) (a1 : Int) : Option Bool :=
  (natOf a1).bind fun k1 => some (decide (((shrU a0 k1) &&& (1 : UInt64)) = (1 : UInt64)))
set_option maxRecDepth 4000 in
set_option maxHeartbeats 4000000 in
theorem graph_has_c (n : Nat) (L : List Nat) (w : World) (hL : ∀ b ∈ L, b < w.heap.size) (a0 : UInt64) (a1 : Int)  {r : Bool} (h : graph_has_p n a0 a1 = some r) :
    Calls Tryd.prog 43 #[.int .u64 (a0.toNat : Int), .int .i64 a1] w (Gives w fun w' u => u = .bool r) := by
  unfold graph_has_p at h
  have hS0 := St.start w
  refine MX.start Tryd.func43 rfl rfl rfl (fun _ cs0 hb0 => ?_)
  refine MX.seq ?_
  refine MX.region ?_
  refine RG.val' .plain (FV.assign rfl) rfl ?_
  refine RG.nil ?_
  refine MX.seq ?_
  refine MX.region ?_
  refine RG.val' .plain (FV.move rfl) rfl ?_
  refine RG.val' .plain (FV.move rfl) rfl ?_
  obtain ⟨k1, hk1, h⟩ := bind_in h
  refine RG.val' .plain (FV.shrI (a := a0) (i := a1) rfl rfl hk1) rfl ?_
  refine RG.val' .plain (FV.andU (a := shrU a0 k1) (b := (1 : UInt64)) rfl rfl) rfl ?_
  refine RG.val' .plain (FV.eqlU (a := (shrU a0 k1) &&& (1 : UInt64)) (b := (1 : UInt64)) rfl rfl) rfl ?_
  refine RG.val' .plain (FV.assign rfl) rfl ?_
  refine RG.nil ?_
  refine MX.ret rfl ?_
  refine RT.leave (u := .bool (decide (((shrU a0 k1) &&& (1 : UInt64)) = (1 : UInt64)))) hb0 Tryd.func43 rfl (.cons (.tmp rfl) .nil) rfl ?_
  obtain rfl := Option.some.inj h
  exact ⟨hS0.ag, fun w9 hw9 => rfl⟩
end Go.Proofs.YtplkfbljncfdnaaDoor
