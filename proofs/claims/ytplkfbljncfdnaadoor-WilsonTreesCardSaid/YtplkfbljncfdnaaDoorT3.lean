/- Functions of the program, and what they give: part 3. -/
import Derived.Test.YtplkfbljncfdnaaDoorT2
namespace Go.Proofs.YtplkfbljncfdnaaDoor
open Go Go.RowKit

structure Twalker where
  fChance : TChance
  fgraph : TGraph
  fset : UInt64
  fleft : Int
  deriving DecidableEq
instance : Rep Twalker := Rep.via (β := TChance × TGraph × UInt64 × Int) fun x => (x.fChance, x.fgraph, x.fset, x.fleft)
def tb14_24 : List (Nat × Nat × Nat) := [(0, 2475880078570760549798248448, 262144), (0, 4951760157141521099596496896, 32768), (0, 9903520314283042199192993792, 131072), (4, 19807040628566084398385987584, 9903520314283042199192993792), (10, 39614081257132168796771975168, 24758800785707605497982484480), (16, 79228162514264337593543950336, 39614081257132168796771975168), (33, 158456325028528675187087900672, 81704042592835098143342198784), (0, 316912650057057350374175801344, 262144), (0, 633825300114114700748351602688, 32768), (0, 1267650600228229401496703205376, 131072), (512, 2535301200456458802993406410752, 1267650600228229401496703205376), (1280, 5070602400912917605986812821504, 3169126500570573503741758013440), (2048, 10141204801825835211973625643008, 5070602400912917605986812821504), (4224, 20282409603651670423947251286016, 10458117451882892562347801444352), (8256, 40564819207303340847894502572032, 20440865928680199099134339186688), (0, 524288, 0), (65535, 0, 40564819207303340847894503096320)]
def tb14_29 : List (Nat × Nat × Nat) := [(0, 166153499473114484112975882535043072, 64), (0, 332306998946228968225951765070086144, 4096), (2, 664613997892457936451903530140172288, 332306998946228968225951765070086144), (4, 1329227995784915872903807060280344576, 664613997892457936451903530140172288), (8, 2658455991569831745807614120560689152, 1329227995784915872903807060280344576), (1, 64, 166153499473114484112975882535043072), (63, 0, 2658455991569831745807614120560689280), (127, 256, 0)]
theorem body16 : bodyB Tryd.prog 16 = true := by kernel_rfl
theorem body17 : bodyB Tryd.prog 17 = true := by kernel_rfl
theorem body26 : bodyB Tryd.prog 26 = true := by kernel_rfl
theorem body29 : bodyB Tryd.prog 29 = true := by kernel_rfl
theorem body33 : bodyB Tryd.prog 33 = true := by kernel_rfl
theorem body34 : bodyB Tryd.prog 34 = true := by kernel_rfl
theorem body61 : bodyB Tryd.prog 61 = true := by kernel_rfl
theorem body62 : bodyB Tryd.prog 62 = true := by kernel_rfl
theorem body63 : bodyB Tryd.prog 63 = true := by kernel_rfl
theorem body64 : bodyB Tryd.prog 64 = true := by kernel_rfl
theorem body85 : bodyB Tryd.prog 85 = true := by kernel_rfl
theorem body86 : bodyB Tryd.prog 86 = true := by kernel_rfl
def wilson_Draw_l1 (n : Nat) (y3441 : List Int) (a0 : TGraph) (J3679 : UInt64 × Nat × (List Int) → Option (UInt64 × (List Int))) : UInt64 × Nat × (List Int) → Option (UInt64 × (List Int))
  | (u3666, i3667, xs3668) => (if i3667 < y3441.length then (y3441[i3667]?).bind fun x3682 => (natOf x3682).bind fun k3692 => jn (fun xs3730 => J3679 (u3666 ||| (shlU (1 : UInt64) k3692), i3667 + 1, xs3730)) (fun J3737 => (if 0 < i3667 then (y3441[i3667 - 1]?).bind fun x3742 => (slices_Index_2_int_2_int_p n a0.fEdges (min x3682 x3742, max x3682 x3742)).bind fun y3759 => (app xs3668 ([y3759] : List Int)).bind fun xs3767 => J3737 xs3767 else J3737 xs3668)) else some (u3666, xs3668))
def wilson_Draw_l2 (n : Nat) (J4007 : UInt64 × (List Int) → Option (List Int)) : UInt64 × (List Int) → Option (List Int)
  | (u3995, xs3996) => (if u3995 = (0 : UInt64) then some xs3996 else (math_bits_TrailingZeros64_p n u3995).bind fun y4079 => (app xs3996 ([y4079] : List Int)).bind fun xs4091 => J4007 (u3995 &&& (u3995 - (1 : UInt64)), xs4091))
def wilson_Draw_l3 (n : Nat) (a0 : TGraph) (z3423 : Int) (J3882 : UInt64 × Nat → Option UInt64) : UInt64 × Nat → Option UInt64
  | (u3873, i3874) => (if i3874 < a0.fEdges.length then (a0.fEdges[i3874]?).bind fun x3885 => (if x3885.1 = z3423 then (chk (x3885.1 + x3885.2)).bind fun s3903 => (chk (s3903 - z3423)).bind fun s3904 => (natOf s3904).bind fun k3905 => J3882 (u3873 ||| (shlU (1 : UInt64) k3905), i3874 + 1) else jn (fun u3912 => J3882 (u3912, i3874 + 1)) (fun J3916 => (if x3885.2 = z3423 then (chk (x3885.1 + x3885.2)).bind fun s3919 => (chk (s3919 - z3423)).bind fun s3920 => (natOf s3920).bind fun k3921 => J3916 (u3873 ||| (shlU (1 : UInt64) k3921)) else J3916 u3873))) else some u3873)
def wilson_Draw_l4 (n : Nat) (u2744 : UInt64) (a0 : TGraph) (a1 : UInt64) (J3437 : Int × (List Int) × UInt64 × Int → Option ((((List Int) × TChance × Int) ⊕ ((List Int) × UInt64)) ⊕ ((List Int) × UInt64 × Int))) : Int × (List Int) × UInt64 × Int → Option ((((List Int) × TChance × Int) ⊕ ((List Int) × UInt64)) ⊕ ((List Int) × UInt64 × Int))
  | (z3423, xs3424, u3428, z3429) => (natOf z3423).bind fun k3439 => (if ((shrU u2744 k3439) &&& (1 : UInt64)) = (1 : UInt64) then some (.inr (xs3424, u3428, z3429)) else (if z3429 = 0 then some (.inl (.inl (([] : List Int), (⟨(0 : UInt64)⟩ : TChance), 9))) else (chk (z3429 - 1)).bind fun s3786 => Option.bind (loopF (wilson_Draw_l3 n a0 z3423) n ((0 : UInt64), 0)) (fun u3873 => Option.bind (loopF (wilson_Draw_l2 n) n (u3873 &&& a1, ([] : List Int))) (fun xs3996 => (chance_Below_p n (⟨u3428⟩ : TChance) ((xs3996.length : Nat) : Int)).bind fun y4028 => (if y4028.2.2 = 0 then (idx xs3996 y4028.1).bind fun x4041 => (app xs3424 ([x4041] : List Int)).bind fun xs4062 => J3437 (x4041, xs4062, y4028.2.1.fState, s3786) else some (.inl (.inl (([] : List Int), (⟨(0 : UInt64)⟩ : TChance), y4028.2.2))))))))
def wilson_Draw_l5 (n : Nat) (i4955 : Nat) (J6151 : Int × (List Int) → Option (List Int)) : Int × (List Int) → Option (List Int)
  | (z6140, xs6141) => (if ((i4955 : Nat) : Int) < z6140 then (idx xs6141 z6140).bind fun x6156 => (chk (z6140 - 1)).bind fun s6170 => (idx xs6141 s6170).bind fun x6171 => (cmp_Less_int_p n x6156 x6171).bind fun y6185 => (if y6185 = true then (chk (z6140 - 1)).bind fun s6189 => (chk (z6140 - 1)).bind fun s6190 => (idx xs6141 s6190).bind fun x6191 => (put xs6141 ((z6140.toNat : Nat) : Int) x6191).bind fun xs6205 => (idx xs6205 s6189).bind fun x6211 => (put xs6205 ((s6189.toNat : Nat) : Int) x6156).bind fun xs6225 => (chk (z6140 - 1)).bind fun s6231 => J6151 (s6231, xs6225) else some xs6141) else some xs6141)
def wilson_Draw_l6 (n : Nat) (i4956 : Nat) (i4955 : Nat) (J5526 : Int × (List Int) → Option (List Int)) : Int × (List Int) → Option (List Int)
  | (z5515, xs5516) => (if z5515 < ((i4956 : Nat) : Int) then jn (fun xs5961 => (chk (z5515 + 1)).bind fun s5969 => J5526 (s5969, xs5961)) (fun J5967 => Option.bind (loopF (wilson_Draw_l5 n i4955) n (z5515, xs5516)) (J5967)) else some xs5516)
def wilson_Draw_l7 (n : Nat) (xs2746 : List Int) (u2750 : UInt64) (J4965 : Nat × Nat × Int × Bool × Bool → Option ((List Int) × TChance × Int)) : Nat × Nat × Int × Bool × Bool → Option ((List Int) × TChance × Int)
  | (i4955, i4956, z4957, q4958, q4959) => (chk (((i4956 : Nat) : Int) - ((i4955 : Nat) : Int))).bind fun s4967 => (if s4967 ≤ 12 then (chk (((i4955 : Nat) : Int) + 1)).bind fun s4971 => Option.bind (loopF (wilson_Draw_l6 n i4956 i4955) n (s4971, xs2746)) (fun xs5516 => some (xs5516, (⟨u2750⟩ : TChance), 0)) else (if z4957 = 0 then none else (if q4958 = true then none else none)))
def wilson_Draw_l8 (n : Nat) (a0 : TGraph) (a1 : UInt64) (J2759 : UInt64 × Int × (List Int) × UInt64 × Int → Option (((List Int) × TChance × Int) ⊕ ((List Int) × UInt64))) : UInt64 × Int × (List Int) × UInt64 × Int → Option (((List Int) × TChance × Int) ⊕ ((List Int) × UInt64))
  | (u2744, z2745, xs2746, u2750, z2751) => (if z2745 < a0.fN then (natOf z2745).bind fun k2762 => (if ((shrU (a1 &&& ~~~u2744) k2762) &&& (1 : UInt64)) = (0 : UInt64) then (chk (z2745 + 1)).bind fun s2764 => J2759 (u2744, s2764, xs2746, u2750, z2751) else thn (loopF (wilson_Draw_l4 n u2744 a0 a1) n (z2745, ([z2745] : List Int), u2750, z2751)) (fun (xs3424, u3428, z3429) => (wilson_erased_p n xs3424).bind fun y3441 => Option.bind (loopF (wilson_Draw_l1 n y3441 a0) n (u2744, 0, xs2746)) (fun (u3666, xs3668) => (chk (z2745 + 1)).bind fun s3779 => J2759 (u3666, s3779, xs3668, u3428, z3429)))) else some (.inr (xs2746, u2750)))
def wilson_Draw_p (n : Nat) (a0 : TGraph) (a1 : UInt64) (a2 : TChance) : Option ((List Int) × TChance × Int) :=
  (graph_Check_p n a0).bind fun y16 => (if y16 = 0 then (if a1 = (0 : UInt64) then some (([] : List Int), (⟨(0 : UInt64)⟩ : TChance), 2) else (wilson_fits_p n a0 a1).bind fun y25 => (if y25 = true then (graph_Connected_p n a0 a1).bind fun y27 => (if y27.1 = true then thn (loopF (wilson_Draw_l8 n a0 a1) n (a1 &&& (-a1), 0, ([] : List Int), a2.fState, 10000)) (fun (xs2746, u2750) => (math_bits_Len_p n (u64of ((xs2746.length : Nat) : Int))).bind fun y4115 => loopF (wilson_Draw_l7 n xs2746 u2750) n (0, xs2746.length, y4115, true, true)) else some (([] : List Int), (⟨(0 : UInt64)⟩ : TChance), 4)) else some (([] : List Int), (⟨(0 : UInt64)⟩ : TChance), 2))) else some (([] : List Int), (⟨(0 : UInt64)⟩ : TChance), y16))
set_option maxRecDepth 4000 in
set_option maxHeartbeats 4000000 in
theorem wilson_Draw_c (n : Nat) (L : List Nat) (w : World) (hL : ∀ b ∈ L, b < w.heap.size) (a0 : TGraph) {v0_1 : Value} (h0_1 : Rep.R w L [v0_1] a0.fEdges) (a1 : UInt64) (a2 : TChance) (hG0 : Glob 0 tab0 w)  {r : (List Int) × TChance × Int} (h : wilson_Draw_p n a0 a1 a2 = some r) :
    Calls Tryd.prog 14 #[.agg #[.int .i64 a0.fN, v0_1], .int .u64 (a1.toNat : Int), .agg #[.int .u64 (a2.fState.toNat : Int)]] w (Gives w fun w' u => ∃ v0_0 : Value, u = .tuple #[v0_0, .agg #[.int .u64 (r.2.1.fState.toNat : Int)], .int .i64 r.2.2] ∧ Rep.R w' L [v0_0] r.1) := by
  unfold wilson_Draw_p at h
  have hS0 := St.start w
  refine MX.start Tryd.func14 rfl rfl rfl (fun _ cs0 hb0 => ?_)
  refine MX.seq ?_
  refine MX.region ?_
  refine RG.new .plain rfl (Does.box (vs := [.int .i64 a0.fN, v0_1]) hS0 rfl rfl) (fun w2 b5 hS3 hT4 => ?_)
  refine RG.new .plain rfl (Does.box (vs := [.int .u64 (a2.fState.toNat : Int)]) hS3 rfl rfl) (fun w7 b10 hS8 hT9 => ?_)
  refine RG.val' .plain (FV.assign rfl) rfl ?_
  refine RG.new .plain rfl (Does.alloc (zs := [.int .u64 0]) hS8 (zB (by kernel_rfl))) (fun w12 b15 hS13 hT14 => ?_)
  refine RG.val' .plain (FV.assign rfl) rfl ?_
  refine RG.nil ?_
  refine MX.seq ?_
  refine MX.seq ?_
  refine MX.region ?_
  refine RG.val' .plain (FV.loadN (cs := [.int .i64 a0.fN, v0_1]) (by kernel_rfl) rfl (hS13.memA (.tl (.tl .hd)))) rfl ?_
  obtain ⟨y16, hy16, h⟩ := bind_in h
  have hm17 := Rep.mv h0_1 (Tr.trans hT4 (Tr.trans hT9 hT14))
  refine RG.callq' (v := .int .i64 y16) (fst := []) (cap := []) .plain body32 rfl (evs_cons rfl evs_nil) (fun w9 hw9 => graph_Check_c n _ w9 (hS13.hL0 hL hw9) a0 (Rep.keep0 (Rep.dropO (O := [.cells b15 [.int .u64 0] 37, .cells b10 [.int .u64 (a2.fState.toNat : Int)] 37, .cells b5 [.int .i64 a0.fN, v0_1] 40]) hm17) hw9) hy16) rfl ?_
  refine RG.val' .plain (FV.assign rfl) rfl ?_
  refine RG.nil ?_
  refine MX.seq ?_
  refine MX.region ?_
  refine RG.val' .plain (FV.move rfl) rfl ?_
  refine RG.val' .plain (FV.neq (i := y16) (j := 0) rfl rfl) rfl ?_
  refine RG.nil ?_
  refine MX.ifn rfl h (fun c18 h => ?_) (fun c18 h => ?_)
  ·skip
   refine MX.skip ?_
   refine MX.seq ?_
   refine MX.seq ?_
   refine MX.region ?_
   refine RG.val' .plain (FV.move rfl) rfl ?_
   refine RG.val' .plain (FV.eqlU (a := a1) (b := (0 : UInt64)) rfl rfl) rfl ?_
   refine RG.val' .plain (FV.move rfl) rfl ?_
   refine RG.ifd (s := 28) rfl h (fun c19 h => ?_) (fun c19 h => ?_)
   ·skip
    refine RG.off (.no rfl rfl) rfl ?_
    refine RG.off (.no rfl rfl) rfl ?_
    refine RG.off (.no rfl rfl) rfl ?_
    refine RG.off (.no rfl rfl) rfl ?_
    refine RG.val' .plain (FV.pick_t rfl rfl) rfl ?_
    refine RG.nil ?_
    refine MX.cond_t rfl ?_
    refine MX.seq ?_
    refine MX.region ?_
    refine RG.val' .plain (FV.buildV (vs := []) (u := .agg #[.int .u64 0]) evs_nil (fun w9 => by kernel_rfl)) rfl ?_
    refine RG.val' .plain (FV.assign rfl) rfl ?_
    refine RG.now .plain (Acts.store (j := 0) (old := [.int .u64 0]) (news := [.int .u64 0]) (new' := [.int .u64 0]) hS13 .hd rfl rfl rfl rfl rfl rfl (ones_cons rfl ones_nil) rfl) (fun w20 hS21 hT22 => ?_)
    refine RG.val' .plain (FV.assign rfl) rfl ?_
    refine RG.nil ?_
    refine MX.ret rfl ?_
    have hr23 : Rep.R w20 (bl [.cells b15 [.int .u64 0] 37, .cells b10 [.int .u64 (a2.fState.toNat : Int)] 37, .cells b5 [.int .i64 a0.fN, v0_1] 40] ++ L) [.slice none 0 0] ([] : List Int) := Rep.nilSlice _ _
    refine RT.leave (u := .tuple #[.slice none 0 0, .agg #[.int .u64 0], .int .i64 2]) hb0 Tryd.func14 rfl (.cons (.tmp rfl) (.cons (.many (cs := [.int .u64 0]) (by kernel_rfl) rfl (hS21.memA .hd)) (.cons (.tmp rfl) .nil))) rfl ?_
    obtain rfl := Option.some.inj h
    have hr24 : Rep.R w20 (bl [.cells b15 [.int .u64 0] 37, .cells b10 [.int .u64 (a2.fState.toNat : Int)] 37, .cells b5 [.int .i64 a0.fN, v0_1] 40] ++ L) [.slice none 0 0] ([] : List Int) := Rep.nilSlice _ _
    exact ⟨hS21.ag, fun w9 hw9 => ⟨(.slice none 0 0), rfl, Rep.keep0 (Rep.dropO (O := [.cells b15 [.int .u64 0] 37, .cells b10 [.int .u64 (a2.fState.toNat : Int)] 37, .cells b5 [.int .i64 a0.fN, v0_1] 40]) hr24) hw9⟩⟩
   ·skip
    refine RG.val' (.yes rfl rfl) (FV.loadN (cs := [.int .i64 a0.fN, v0_1]) (by kernel_rfl) rfl (hS13.memA (.tl (.tl .hd)))) rfl ?_
    refine RG.val' (.yes rfl rfl) (FV.move rfl) rfl ?_
    obtain ⟨y25, hy25, h⟩ := bind_in h
    refine RG.callq' (v := .bool y25) (fst := []) (cap := []) (.yes rfl rfl) body33 rfl (evs_cons rfl (evs_cons rfl evs_nil)) (fun w9 hw9 => wilson_fits_c n _ w9 (hS13.hL0 hL hw9) a0 (Rep.keep0 (Rep.dropO (O := [.cells b15 [.int .u64 0] 37, .cells b10 [.int .u64 (a2.fState.toNat : Int)] 37, .cells b5 [.int .i64 a0.fN, v0_1] 40]) hm17) hw9) a1 hy25) rfl ?_
    refine RG.val' (.yes rfl rfl) (FV.not rfl) rfl ?_
    refine RG.val' .plain (FV.pick_f rfl rfl) rfl ?_
    refine RG.nil ?_
    refine MX.ifnb rfl h (fun c26 h => ?_) (fun c26 h => ?_)
    ·skip
     refine MX.skip ?_
     refine MX.seq ?_
     refine MX.seq ?_
     refine MX.region ?_
     refine RG.val' .plain (FV.loadN (cs := [.int .i64 a0.fN, v0_1]) (by kernel_rfl) rfl (hS13.memA (.tl (.tl .hd)))) rfl ?_
     refine RG.val' .plain (FV.move rfl) rfl ?_
     obtain ⟨y27, hy27, h⟩ := bind_in h
     refine RG.callq' (v := .tuple #[.bool y27.1, .int .i64 y27.2]) (fst := []) (cap := []) .plain body26 rfl (evs_cons rfl (evs_cons rfl evs_nil)) (fun w9 hw9 => graph_Connected_c n _ w9 (hS13.hL0 hL hw9) a0 (Rep.keep0 (Rep.dropO (O := [.cells b15 [.int .u64 0] 37, .cells b10 [.int .u64 (a2.fState.toNat : Int)] 37, .cells b5 [.int .i64 a0.fN, v0_1] 40]) hm17) hw9) a1 (hG0.keep (hS13.ag.trans hw9)) hy27) rfl ?_
     refine RG.val' .plain (FV.move rfl) rfl ?_
     refine RG.val' .plain (FV.extract rfl rfl) rfl ?_
     refine RG.val' .plain (FV.extract rfl rfl) rfl ?_
     refine RG.val' .plain (FV.assign rfl) rfl ?_
     refine RG.val' .plain (FV.assign rfl) rfl ?_
     refine RG.nil ?_
     refine MX.seq ?_
     refine MX.region ?_
     refine RG.val' .plain (FV.move rfl) rfl ?_
     refine RG.val' .plain (FV.not rfl) rfl ?_
     refine RG.nil ?_
     refine MX.ifnb rfl h (fun c28 h => ?_) (fun c28 h => ?_)
     ·skip
      refine MX.skip ?_
      refine MX.seq ?_
      refine MX.region ?_
      refine RG.val' .plain (FV.loadN (cs := [.int .u64 (a2.fState.toNat : Int)]) (by kernel_rfl) rfl (hS13.memA (.tl .hd))) rfl ?_
      refine RG.val' .plain (FV.loadN (cs := [.int .i64 a0.fN, v0_1]) (by kernel_rfl) rfl (hS13.memA (.tl (.tl .hd)))) rfl ?_
      refine RG.val' .plain (FV.move rfl) rfl ?_
      obtain ⟨A29, c30, hv31, _⟩ := Rep.sl hm17
      refine RG.val' .plain (FV.buildV (vs := [.agg #[.int .u64 (a2.fState.toNat : Int)], .agg #[.int .i64 a0.fN, v0_1], .int .u64 (a1.toNat : Int), .int .i64 10000]) (u := .agg #[.int .u64 (a2.fState.toNat : Int), .int .i64 a0.fN, v0_1, .int .u64 (a1.toNat : Int), .int .i64 10000]) (evs_cons rfl (evs_cons rfl (evs_cons rfl (evs_cons rfl evs_nil)))) (fun w9 => by rw [hv31]; try kernel_rfl)) rfl ?_
      refine RG.new .plain rfl (Does.box (vs := [.int .u64 (a2.fState.toNat : Int), .int .i64 a0.fN, v0_1, .int .u64 (a1.toNat : Int), .int .i64 10000]) hS13 rfl rfl) (fun w33 b36 hS34 hT35 => ?_)
      refine RG.val' .plain (FV.assign rfl) rfl ?_
      refine RG.nil ?_
      refine MX.seq ?_
      refine MX.region ?_
      refine RG.val' .plain (FV.move rfl) rfl ?_
      refine RG.val' .plain (FV.move rfl) rfl ?_
      refine RG.val' .plain (FV.negU (a := a1) rfl) rfl ?_
      refine RG.val' .plain (FV.andU (a := a1) (b := -a1) rfl rfl) rfl ?_
      refine RG.val' .plain (FV.assign rfl) rfl ?_
      refine RG.nil ?_
      refine MX.seq ?_
      refine MX.seq ?_
      refine MX.region ?_
      refine RG.val' .plain (FV.fieldAddr (off := 0) (by kernel_rfl) rfl) rfl ?_
      refine RG.val' .plain (FV.load1 (by kernel_rfl) rfl ((hS34.memA (.tl (.tl (.tl .hd)))) 0 _ rfl)) rfl ?_
      refine RG.val' .plain (FV.move rfl) rfl ?_
      refine RG.nil ?_
      refine MX.block ?_
      have hS38 := hS34.nilRow 3 (Rep.size Int)
      have hT39 := Tr.nilRow (w := w33) (O := [.cells b36 [.int .u64 (a2.fState.toNat : Int), .int .i64 a0.fN, v0_1, .int .u64 (a1.toNat : Int), .int .i64 10000] 74, .cells b15 [.int .u64 0] 37, .cells b10 [.int .u64 (a2.fState.toNat : Int)] 37, .cells b5 [.int .i64 a0.fN, v0_1] 40]) w.heap.size 3 (Rep.size Int)
      have hc40 : Cells w33 (bl [.row w.heap.size 3 (Rep.size Int) (.slice none 0 0) (([] : List Int).length) [], .cells b36 [.int .u64 (a2.fState.toNat : Int), .int .i64 a0.fN, v0_1, .int .u64 (a1.toNat : Int), .int .i64 10000] 74, .cells b15 [.int .u64 0] 37, .cells b10 [.int .u64 (a2.fState.toNat : Int)] 37, .cells b5 [.int .i64 a0.fN, v0_1] 40] ++ L) [] ([] : List Int) := Cells.nil _ _
      have hS2741 : St _ _ [.row w.heap.size 3 (Rep.size Int) (.slice none 0 0) (([] : List Int).length) [], .cells b36 [.int .u64 (a2.fState.toNat : Int), .int .i64 a0.fN, v0_1, .int .u64 (a1.toNat : Int), .int .i64 10000] 74, .cells b15 [.int .u64 0] 37, .cells b5 [.int .i64 a0.fN, v0_1] 40] := hS38.arr (.one .hd (.one .hd (.one .hd (.one (.tl .hd) .done))))
      have hT2742 : Tr w33 _ w33 [.row w.heap.size 3 (Rep.size Int) (.slice none 0 0) (([] : List Int).length) [], .cells b36 [.int .u64 (a2.fState.toNat : Int), .int .i64 a0.fN, v0_1, .int .u64 (a1.toNat : Int), .int .i64 10000] 74, .cells b15 [.int .u64 0] 37, .cells b5 [.int .i64 a0.fN, v0_1] 40] := Tr.arr (St.arrOf hS38 (.one .hd (.one .hd (.one .hd (.one (.tl .hd) .done)))))
      have hm2743 := Cells.mv hc40 hT2742
      obtain ⟨o2757, ho2756, hh2758⟩ := thn_in h
      refine MX.loop (α := UInt64 × Int × (List Int) × UInt64 × Int × Value × (List Value)) (fun ⟨u2744, z2745, xs2746, u2750, z2751, v2749, cs2747⟩ => [(1, .int .u64 (a1.toNat : Int)), (3, .pointer (some ⟨b5, 0, none⟩)), (6, v2749), (7, .pointer (some ⟨b15, 0, none⟩)), (12, .pointer (some ⟨b36, 0, none⟩)), (13, .int .u64 (u2744.toNat : Int)), (54, .int .i64 a0.fN), (55, .int .i64 z2745)]) (fun ⟨u2744, z2745, xs2746, u2750, z2751, v2749, cs2747⟩ wx2751 => St w wx2751 [.row w.heap.size 3 (Rep.size Int) v2749 xs2746.length cs2747, .cells b36 [.int .u64 (u2750.toNat : Int), .int .i64 a0.fN, v0_1, .int .u64 (a1.toNat : Int), .int .i64 z2751] 74, .cells b15 [.int .u64 0] 37, .cells b5 [.int .i64 a0.fN, v0_1] 40] ∧ Tr w33 [.row w.heap.size 3 (Rep.size Int) (.slice none 0 0) (([] : List Int).length) [], .cells b36 [.int .u64 (a2.fState.toNat : Int), .int .i64 a0.fN, v0_1, .int .u64 (a1.toNat : Int), .int .i64 10000] 74, .cells b15 [.int .u64 0] 37, .cells b5 [.int .i64 a0.fN, v0_1] 40] wx2751 [.row w.heap.size 3 (Rep.size Int) v2749 xs2746.length cs2747, .cells b36 [.int .u64 (u2750.toNat : Int), .int .i64 a0.fN, v0_1, .int .u64 (a1.toNat : Int), .int .i64 z2751] 74, .cells b15 [.int .u64 0] 37, .cells b5 [.int .i64 a0.fN, v0_1] 40] ∧ Cells wx2751 (bl [.row w.heap.size 3 (Rep.size Int) v2749 xs2746.length cs2747, .cells b36 [.int .u64 (u2750.toNat : Int), .int .i64 a0.fN, v0_1, .int .u64 (a1.toNat : Int), .int .i64 z2751] 74, .cells b15 [.int .u64 0] 37, .cells b5 [.int .i64 a0.fN, v0_1] 40] ++ L) cs2747 xs2746) (fun ⟨u2744, z2745, xs2746, u2750, z2751, v2749, cs2747⟩ => (u2744, z2745, xs2746, u2750, z2751)) (a1 &&& (-a1), 0, ([] : List Int), a2.fState, 10000, (.slice none 0 0), []) ho2756 ⟨rfl, rfl, rfl, rfl, rfl, rfl, rfl, rfl, trivial⟩ ⟨hS2741, Tr.refl _ _, hm2743⟩ ?_
      rintro J2759 ⟨u2744, z2745, xs2746, u2750, z2751, v2749, cs2747⟩ wx2751 hJ2760 ⟨hS2752, hT2753, hc2748⟩ h
      unfold wilson_Draw_l8 at h
      try dsimp only at h
      refine MX.seq ?_
      refine MX.region ?_
      refine RG.val' .plain (FV.lss (i := z2745) (j := a0.fN) rfl rfl) rfl ?_
      refine RG.nil ?_
      refine MX.seq ?_
      refine MX.ifd rfl h (fun c2761 h => ?_) (fun c2761 h => ?_)
      ·skip
       refine MX.skip ?_
       refine MX.seq ?_
       refine MX.block ?_
       refine MX.seq ?_
       refine MX.region ?_
       refine RG.val' .plain (FV.move rfl) rfl ?_
       refine RG.val' .plain (FV.assign rfl) rfl ?_
       refine RG.nil ?_
       refine MX.seq ?_
       refine MX.seq ?_
       refine MX.region ?_
       refine RG.val' .plain (FV.move rfl) rfl ?_
       refine RG.val' .plain (FV.move rfl) rfl ?_
       refine RG.val' .plain (FV.andNotU (a := a1) (b := u2744) rfl rfl) rfl ?_
       refine RG.val' .plain (FV.move rfl) rfl ?_
       obtain ⟨k2762, hk2762, h⟩ := bind_in h
       refine RG.val' .plain (FV.shrI (a := a1 &&& ~~~u2744) (i := z2745) rfl rfl hk2762) rfl ?_
       refine RG.val' .plain (FV.andU (a := shrU (a1 &&& ~~~u2744) k2762) (b := (1 : UInt64)) rfl rfl) rfl ?_
       refine RG.val' .plain (FV.eqlU (a := (shrU (a1 &&& ~~~u2744) k2762) &&& (1 : UInt64)) (b := (0 : UInt64)) rfl rfl) rfl ?_
       refine RG.nil ?_
       refine MX.ifd rfl h (fun c2763 h => ?_) (fun c2763 h => ?_)
       ·skip
        refine MX.exit rfl ?_
        refine MX.region ?_
        obtain ⟨s2764, hs2764, h⟩ := bind_in h
        refine RG.val' .plain (FV.addc (i := z2745) (j := 1) rfl rfl hs2764) rfl ?_
        refine RG.val' .plain (FV.move rfl) rfl ?_
        refine RG.nil ?_
        exact hJ2760 (u2744, s2764, xs2746, u2750, z2751, v2749, cs2747) _ _ ⟨rfl, rfl, rfl, rfl, rfl, rfl, rfl, rfl, trivial⟩ ⟨hS2752, hT2753, hc2748⟩ h
       ·skip
        refine MX.skip ?_
        refine MX.seq ?_
        refine MX.region ?_
        refine RG.val' .plain (FV.move rfl) rfl ?_
        refine RG.val' .plain (FV.move rfl) rfl ?_
        refine RG.val' .plain (FV.move rfl) rfl ?_
        refine RG.enter (fst := []) (cap := []) (vs := [.pointer (some ⟨b36, 0, none⟩), .int .i64 z2745, .int .u64 (u2744.toNat : Int)]) .plain body34 Tryd.func34 rfl rfl rfl rfl (evs_cons rfl (evs_cons rfl (evs_cons rfl evs_nil))) rfl (fun cs2766 hb2765 => ?_)
        refine MX.seq ?_
        refine MX.region ?_
        refine RG.val' .plain (FV.assign rfl) rfl ?_
        refine RG.val' .plain (FV.assign rfl) rfl ?_
        refine RG.nil ?_
        refine MX.scope ?_
        refine MX.seq ?_
        refine MX.region ?_
        refine RG.val' .plain (FV.move rfl) rfl ?_
        refine RG.new .plain rfl (Does.build (α := Int) (xs := ([z2745] : List Int)) (vs := [.int .i64 z2745]) (ds' := [.int .i64 z2745]) rfl hS2752 el22 rfl (evs_cons rfl evs_nil) (by kernel_rfl) rfl) (fun w2768 b2771 hS2769 hT2770 => ?_)
        have hc2772 : Cells w2768 (bl [.row w.heap.size 3 (Rep.size Int) (.slice (some ⟨b2771, 0, none⟩) 1 1) (([z2745] : List Int).length) [.int .i64 z2745], .row w.heap.size 3 (Rep.size Int) v2749 xs2746.length cs2747, .cells b36 [.int .u64 (u2750.toNat : Int), .int .i64 a0.fN, v0_1, .int .u64 (a1.toNat : Int), .int .i64 z2751] 74, .cells b15 [.int .u64 0] 37, .cells b5 [.int .i64 a0.fN, v0_1] 40] ++ L) [.int .i64 z2745] (([z2745] : List Int) : List Int) := Cells.cons (cs := [.int .i64 z2745]) (ds := []) rfl (Cells.nil _ _)
        refine RG.val' .plain (FV.assign rfl) rfl ?_
        refine RG.nil ?_
        refine MX.seq ?_
        refine MX.region ?_
        refine RG.val' .plain (FV.move rfl) rfl ?_
        refine RG.val' .plain (FV.makeFunc (vs := [.pointer (some ⟨b36, 0, none⟩)]) (us := []) (evs_cons rfl evs_nil) evs_nil) rfl ?_
        refine RG.val' .plain (FV.assign rfl) rfl ?_
        refine RG.nil ?_
        refine MX.seq ?_
        refine MX.label ?_
        refine MX.seq ?_
        refine MX.seq ?_
        refine MX.region ?_
        refine RG.val' .plain (FV.move rfl) rfl ?_
        refine RG.val' .plain (FV.assign rfl) rfl ?_
        refine RG.nil ?_
        refine MX.block ?_
        obtain ⟨o3435, ho3434, hh3436⟩ := thn_in h
        refine MX.loop (α := Int × (List Int) × UInt64 × Int × Value × (List Value)) (fun ⟨z3423, xs3424, u3428, z3429, v3427, cs3425⟩ => [(0, .pointer (some ⟨b36, 0, none⟩)), (2, .int .u64 (u2744.toNat : Int)), (8, v3427), (9, .func (.func 61) #[.pointer (some ⟨b36, 0, none⟩)] #[]), (10, .int .i64 z3423)]) (fun ⟨z3423, xs3424, u3428, z3429, v3427, cs3425⟩ wx3429 => St w wx3429 [.row w.heap.size 3 (Rep.size Int) v3427 xs3424.length cs3425, .row w.heap.size 3 (Rep.size Int) v2749 xs2746.length cs2747, .cells b36 [.int .u64 (u3428.toNat : Int), .int .i64 a0.fN, v0_1, .int .u64 (a1.toNat : Int), .int .i64 z3429] 74, .cells b15 [.int .u64 0] 37, .cells b5 [.int .i64 a0.fN, v0_1] 40] ∧ Tr w2768 [.row w.heap.size 3 (Rep.size Int) (.slice (some ⟨b2771, 0, none⟩) 1 1) (([z2745] : List Int).length) [.int .i64 z2745], .row w.heap.size 3 (Rep.size Int) v2749 xs2746.length cs2747, .cells b36 [.int .u64 (u2750.toNat : Int), .int .i64 a0.fN, v0_1, .int .u64 (a1.toNat : Int), .int .i64 z2751] 74, .cells b15 [.int .u64 0] 37, .cells b5 [.int .i64 a0.fN, v0_1] 40] wx3429 [.row w.heap.size 3 (Rep.size Int) v3427 xs3424.length cs3425, .row w.heap.size 3 (Rep.size Int) v2749 xs2746.length cs2747, .cells b36 [.int .u64 (u3428.toNat : Int), .int .i64 a0.fN, v0_1, .int .u64 (a1.toNat : Int), .int .i64 z3429] 74, .cells b15 [.int .u64 0] 37, .cells b5 [.int .i64 a0.fN, v0_1] 40] ∧ Cells wx3429 (bl [.row w.heap.size 3 (Rep.size Int) v3427 xs3424.length cs3425, .row w.heap.size 3 (Rep.size Int) v2749 xs2746.length cs2747, .cells b36 [.int .u64 (u3428.toNat : Int), .int .i64 a0.fN, v0_1, .int .u64 (a1.toNat : Int), .int .i64 z3429] 74, .cells b15 [.int .u64 0] 37, .cells b5 [.int .i64 a0.fN, v0_1] 40] ++ L) cs3425 xs3424) (fun ⟨z3423, xs3424, u3428, z3429, v3427, cs3425⟩ => (z3423, xs3424, u3428, z3429)) (z2745, ([z2745] : List Int), u2750, z2751, (.slice (some ⟨b2771, 0, none⟩) 1 1), [.int .i64 z2745]) ho3434 ⟨rfl, rfl, rfl, rfl, rfl, trivial⟩ ⟨hS2769, Tr.refl _ _, hc2772⟩ ?_
        rintro J3437 ⟨z3423, xs3424, u3428, z3429, v3427, cs3425⟩ wx3429 hJ3438 ⟨hS3430, hT3431, hc3426⟩ h
        unfold wilson_Draw_l4 at h
        try dsimp only at h
        refine MX.block ?_
        refine MX.seq ?_
        refine MX.seq ?_
        refine MX.region ?_
        refine RG.val' .plain (FV.move rfl) rfl ?_
        refine RG.val' .plain (FV.move rfl) rfl ?_
        obtain ⟨k3439, hk3439, h⟩ := bind_in h
        refine RG.val' .plain (FV.shrI (a := u2744) (i := z3423) rfl rfl hk3439) rfl ?_
        refine RG.val' .plain (FV.andU (a := shrU u2744 k3439) (b := (1 : UInt64)) rfl rfl) rfl ?_
        refine RG.val' .plain (FV.eqlU (a := (shrU u2744 k3439) &&& (1 : UInt64)) (b := (1 : UInt64)) rfl rfl) rfl ?_
        refine RG.nil ?_
        refine MX.ifd rfl h (fun c3440 h => ?_) (fun c3440 h => ?_)
        ·skip
         refine MX.exit rfl ?_
         have h := thn_inr h hh3436
         try dsimp only at h
         refine MX.seq ?_
         refine MX.region ?_
         refine RG.val' .plain (FV.move rfl) rfl ?_
         refine RG.val' .plain (FV.assign rfl) rfl ?_
         refine RG.val' .plain (FV.assign rfl) rfl ?_
         refine RG.nil ?_
         refine MX.ret rfl ?_
         refine RT.leave (u := .tuple #[v3427, .int .i64 0]) hb2765 Tryd.func34 rfl (.cons (.tmp rfl) (.cons (.tmp rfl) .nil)) rfl ?_
         refine RG.val' .plain (FV.move rfl) rfl ?_
         refine RG.val' .plain (FV.extract rfl rfl) rfl ?_
         refine RG.val' .plain (FV.extract rfl rfl) rfl ?_
         refine RG.val' .plain (FV.assign rfl) rfl ?_
         refine RG.val' .plain (FV.assign rfl) rfl ?_
         refine RG.nil ?_
         refine MX.seq ?_
         refine MX.seq ?_
         refine MX.region ?_
         refine RG.val' .plain (FV.move rfl) rfl ?_
         refine RG.val' .plain (FV.neqN (i := 0) (j := 0) rfl rfl) rfl ?_
         refine RG.nil ?_
         refine MX.cond_f rfl ?_
         refine MX.skip ?_
         refine MX.seq ?_
         refine MX.region ?_
         refine RG.val' .plain (FV.move rfl) rfl ?_
         have hr3442 := St.freeze (α := Int) hS3430 .hd hc3426 hL
         have hS3443 := hS3430.del (.hd : Out _ _ _).del
         have hT3444 := Tr.del (w := wx3429) (.hd : Out [.row w.heap.size 3 (Rep.size Int) v3427 xs3424.length cs3425, .row w.heap.size 3 (Rep.size Int) v2749 xs2746.length cs2747, .cells b36 [.int .u64 (u3428.toNat : Int), .int .i64 a0.fN, v0_1, .int .u64 (a1.toNat : Int), .int .i64 z3429] 74, .cells b15 [.int .u64 0] 37, .cells b5 [.int .i64 a0.fN, v0_1] 40] _ _).del
         have hr3445 : Rep.R wx3429 (bl [.row w.heap.size 3 (Rep.size Int) v2749 xs2746.length cs2747, .cells b36 [.int .u64 (u3428.toNat : Int), .int .i64 a0.fN, v0_1, .int .u64 (a1.toNat : Int), .int .i64 z3429] 74, .cells b15 [.int .u64 0] 37, .cells b5 [.int .i64 a0.fN, v0_1] 40] ++ L) [v3427] xs3424 := hr3442
         obtain ⟨y3441, hy3441, h⟩ := bind_in h
         refine RG.call' (fst := []) (cap := []) .plain body30 rfl (evs_cons rfl evs_nil) (fun w9 hw9 => wilson_erased_c n _ w9 (hS3443.hL hL hw9) xs3424 (Rep.keep0 hr3445 hw9) hy3441) rfl (fun w3446 vu3447 hag3448 ⟨v3451, hu_, hr3452⟩ => ?_)
         subst hu_
         have hS3449 := hS3443.agree hag3448
         have hT3450 := Tr.agree (O := [.row w.heap.size 3 (Rep.size Int) v2749 xs2746.length cs2747, .cells b36 [.int .u64 (u3428.toNat : Int), .int .i64 a0.fN, v0_1, .int .u64 (a1.toNat : Int), .int .i64 z3429] 74, .cells b15 [.int .u64 0] 37, .cells b5 [.int .i64 a0.fN, v0_1] 40]) hag3448
         refine RG.val' .plain (FV.assign rfl) rfl ?_
         refine RG.nil ?_
         refine MX.seq ?_
         refine MX.region ?_
         refine RG.val' .plain (FV.move rfl) rfl ?_
         have hl3453 : y3441.length ≤ 281474976710656 := Rep.lenle hr3452
         refine RG.val' .plain (FV.len (xs := y3441) Tryd.underlying22 rfl hr3452) rfl ?_
         refine RG.val' .plain (FV.move rfl) rfl ?_
         refine RG.nil ?_
         refine MX.block ?_
         have hm3665 := Cells.mv hc2748 (Tr.trans hT2770 (Tr.trans hT3431 (Tr.trans hT3444 hT3450)))
         obtain ⟨o3677, ho3676, hh3678⟩ := bind_in2 h
         refine MX.loop (α := UInt64 × Nat × (List Int) × Value × (List Value)) (fun ⟨u3666, i3667, xs3668, v3671, cs3669⟩ => [(1, .int .u64 (a1.toNat : Int)), (3, .pointer (some ⟨b5, 0, none⟩)), (6, v3671), (7, .pointer (some ⟨b15, 0, none⟩)), (12, .pointer (some ⟨b36, 0, none⟩)), (13, .int .u64 (u3666.toNat : Int)), (54, .int .i64 a0.fN), (55, .int .i64 z2745), (15, vu3447), (78, vu3447), (79, .int .i64 ((y3441.length : Nat) : Int)), (80, .int .i64 ((i3667 : Nat) : Int))]) (fun ⟨u3666, i3667, xs3668, v3671, cs3669⟩ wx3671 => St w wx3671 [.row w.heap.size 3 (Rep.size Int) v3671 xs3668.length cs3669, .cells b36 [.int .u64 (u3428.toNat : Int), .int .i64 a0.fN, v0_1, .int .u64 (a1.toNat : Int), .int .i64 z3429] 74, .cells b15 [.int .u64 0] 37, .cells b5 [.int .i64 a0.fN, v0_1] 40] ∧ Tr w3446 [.row w.heap.size 3 (Rep.size Int) v2749 xs2746.length cs2747, .cells b36 [.int .u64 (u3428.toNat : Int), .int .i64 a0.fN, v0_1, .int .u64 (a1.toNat : Int), .int .i64 z3429] 74, .cells b15 [.int .u64 0] 37, .cells b5 [.int .i64 a0.fN, v0_1] 40] wx3671 [.row w.heap.size 3 (Rep.size Int) v3671 xs3668.length cs3669, .cells b36 [.int .u64 (u3428.toNat : Int), .int .i64 a0.fN, v0_1, .int .u64 (a1.toNat : Int), .int .i64 z3429] 74, .cells b15 [.int .u64 0] 37, .cells b5 [.int .i64 a0.fN, v0_1] 40] ∧ Cells wx3671 (bl [.row w.heap.size 3 (Rep.size Int) v3671 xs3668.length cs3669, .cells b36 [.int .u64 (u3428.toNat : Int), .int .i64 a0.fN, v0_1, .int .u64 (a1.toNat : Int), .int .i64 z3429] 74, .cells b15 [.int .u64 0] 37, .cells b5 [.int .i64 a0.fN, v0_1] 40] ++ L) cs3669 xs3668) (fun ⟨u3666, i3667, xs3668, v3671, cs3669⟩ => (u3666, i3667, xs3668)) (u2744, 0, xs2746, v2749, cs2747) ho3676 ⟨rfl, rfl, rfl, rfl, rfl, rfl, rfl, rfl, rfl, rfl, rfl, rfl, trivial⟩ ⟨hS3449, Tr.refl _ _, hm3665⟩ ?_
         rintro J3679 ⟨u3666, i3667, xs3668, v3671, cs3669⟩ wx3671 hJ3680 ⟨hS3672, hT3673, hc3670⟩ h
         unfold wilson_Draw_l1 at h
         try dsimp only at h
         refine MX.seq ?_
         refine MX.region ?_
         refine RG.val' .plain (FV.lssN (i := i3667) (j := y3441.length) rfl rfl) rfl ?_
         refine RG.nil ?_
         refine MX.seq ?_
         refine MX.ifd rfl h (fun c3681 h => ?_) (fun c3681 h => ?_)
         ·skip
          refine MX.skip ?_
          refine MX.seq ?_
          refine MX.block ?_
          refine MX.seq ?_
          refine MX.region ?_
          refine RG.val' .plain (FV.move rfl) rfl ?_
          obtain ⟨x3682, hx3682, h⟩ := bind_in h
          have hm3690 := Rep.mv hr3452 hT3673
          obtain ⟨A3683, c3684, he3685, hk3686, cs3687, hr3688, hm3689⟩ := Rep.nth hm3690 hx3682
          have he3691 : cs3687 = [.int .i64 x3682] := hr3688; subst he3691
          refine RG.val' .plain (FV.idxAddr (m := 1) (i := i3667) (by kernel_rfl) rfl he3685 rfl rfl hk3686) rfl ?_
          refine RG.val' .plain (FV.load1 (by kernel_rfl) rfl (hm3689 0 _ rfl)) rfl ?_
          refine RG.val' .plain (FV.assign rfl) rfl ?_
          refine RG.val' .plain (FV.assign rfl) rfl ?_
          refine RG.nil ?_
          refine MX.seq ?_
          refine MX.region ?_
          refine RG.val' .plain (FV.move rfl) rfl ?_
          refine RG.val' .plain (FV.move rfl) rfl ?_
          obtain ⟨k3692, hk3692, h⟩ := bind_in h
          refine RG.val' .plain (FV.shlI (a := (1 : UInt64)) (i := x3682) rfl rfl hk3692) rfl ?_
          refine RG.val' .plain (FV.orU (a := u3666) (b := shlU (1 : UInt64) k3692) rfl rfl) rfl ?_
          refine RG.val' .plain (FV.assign rfl) rfl ?_
          refine RG.nil ?_
          refine MX.seq ?_
          refine MX.region ?_
          refine RG.val' .plain (FV.move rfl) rfl ?_
          refine RG.val' .plain (FV.gtrN (i := i3667) (j := 0) rfl rfl) rfl ?_
          refine RG.nil ?_
          refine MX.join (α := (List Int) × Value × (List Value)) (fun ⟨xs3730, v3733, cs3731⟩ => [(1, .int .u64 (a1.toNat : Int)), (3, .pointer (some ⟨b5, 0, none⟩)), (6, v3733), (7, .pointer (some ⟨b15, 0, none⟩)), (12, .pointer (some ⟨b36, 0, none⟩)), (13, .int .u64 ((u3666 ||| (shlU (1 : UInt64) k3692)).toNat : Int)), (54, .int .i64 a0.fN), (55, .int .i64 z2745), (15, vu3447), (78, vu3447), (79, .int .i64 ((y3441.length : Nat) : Int)), (80, .int .i64 ((i3667 : Nat) : Int))]) (fun ⟨xs3730, v3733, cs3731⟩ wx3733 => St w wx3733 [.row w.heap.size 3 (Rep.size Int) v3733 xs3730.length cs3731, .cells b36 [.int .u64 (u3428.toNat : Int), .int .i64 a0.fN, v0_1, .int .u64 (a1.toNat : Int), .int .i64 z3429] 74, .cells b15 [.int .u64 0] 37, .cells b5 [.int .i64 a0.fN, v0_1] 40] ∧ Tr wx3671 [.row w.heap.size 3 (Rep.size Int) v3671 xs3668.length cs3669, .cells b36 [.int .u64 (u3428.toNat : Int), .int .i64 a0.fN, v0_1, .int .u64 (a1.toNat : Int), .int .i64 z3429] 74, .cells b15 [.int .u64 0] 37, .cells b5 [.int .i64 a0.fN, v0_1] 40] wx3733 [.row w.heap.size 3 (Rep.size Int) v3733 xs3730.length cs3731, .cells b36 [.int .u64 (u3428.toNat : Int), .int .i64 a0.fN, v0_1, .int .u64 (a1.toNat : Int), .int .i64 z3429] 74, .cells b15 [.int .u64 0] 37, .cells b5 [.int .i64 a0.fN, v0_1] 40] ∧ Cells wx3733 (bl [.row w.heap.size 3 (Rep.size Int) v3733 xs3730.length cs3731, .cells b36 [.int .u64 (u3428.toNat : Int), .int .i64 a0.fN, v0_1, .int .u64 (a1.toNat : Int), .int .i64 z3429] 74, .cells b15 [.int .u64 0] 37, .cells b5 [.int .i64 a0.fN, v0_1] 40] ++ L) cs3731 xs3730) (fun ⟨xs3730, v3733, cs3731⟩ => xs3730) h ?_ ?_
          ·skip
           rintro ⟨xs3730, v3733, cs3731⟩ wx3733 ⟨hS3734, hT3735, hc3732⟩ h
           try dsimp only at h
           refine MX.inBlock ?_
           refine MX.region ?_
           refine RG.val' .plain (FV.addN (i := i3667) (j := 1) rfl rfl (by omega)) rfl ?_
           refine RG.val' .plain (FV.move rfl) rfl ?_
           refine RG.nil ?_
           exact hJ3680 (u3666 ||| (shlU (1 : UInt64) k3692), i3667 + 1, xs3730, v3733, cs3731) _ _ ⟨rfl, rfl, rfl, rfl, rfl, rfl, rfl, rfl, rfl, rfl, rfl, rfl, trivial⟩ ⟨hS3734, (Tr.trans hT3673 hT3735), hc3732⟩ h
          ·skip
           intro J3737 hJ3738 h
           try dsimp only at h
           refine MX.ifd rfl h (fun c3739 h => ?_) (fun c3739 h => ?_)
           ·skip
            refine MX.seq ?_
            refine MX.drawT 16 tb14_24 (by kernel_rfl) (by kernel_rfl) (by kernel_rfl) (fun kt3740 kp3741 => ?_)
            refine RD.vP 0 1 kt3740 rfl kp3741 .plain (fun _ => FV.move rfl) rfl ?_
            refine RD.vP 1 3 kt3740 rfl kp3741 .plain (fun _ => FV.move rfl) rfl ?_
            refine RD.vP 2 7 kt3740 rfl kp3741 .plain (fun _ => FV.move rfl) rfl ?_
            refine RD.vP 3 15 kt3740 rfl kp3741 .plain (fun _ => FV.subN (i := i3667) (j := 1) rfl rfl (by omega) (by omega)) rfl ?_
            obtain ⟨x3742, hx3742, h⟩ := bind_in h
            obtain ⟨A3743, c3744, he3745, hk3746, cs3747, hr3748, hm3749⟩ := Rep.nth hm3690 hx3742
            have he3750 : cs3747 = [.int .i64 x3742] := hr3748; subst he3750
            refine RD.vP 4 31 kt3740 rfl kp3741 .plain (fun _ => FV.idxAddr (m := 1) (i := i3667 - 1) (by kernel_rfl) rfl he3745 rfl rfl hk3746) rfl ?_
            refine RD.val (i := 5) (m' := 63) (W := 81984) (takeC_ok kt3740 (by kernel_rfl)) rfl kp3741 .plain (FV.load1 (by kernel_rfl) rfl (hm3749 0 _ rfl)) rfl ?_
            refine RD.vP 6 127 kt3740 rfl kp3741 .plain (fun _ => FV.min2 (i := x3682) (j := x3742) rfl rfl) rfl ?_
            refine RD.vP 7 255 kt3740 rfl kp3741 .plain (fun _ => FV.move rfl) rfl ?_
            refine RD.vP 8 511 kt3740 rfl kp3741 .plain (fun _ => FV.move rfl) rfl ?_
            refine RD.vP 9 1023 kt3740 rfl kp3741 .plain (fun _ => FV.move rfl) rfl ?_
            refine RD.vP 10 2047 kt3740 rfl kp3741 .plain (fun _ => FV.subN (i := i3667) (j := 1) rfl rfl (by omega) (by omega)) rfl ?_
            refine RD.vP 11 4095 kt3740 rfl kp3741 .plain (fun _ => FV.idxAddr (m := 1) (i := i3667 - 1) (by kernel_rfl) rfl he3745 rfl rfl hk3746) rfl ?_
            refine RD.val (i := 12) (m' := 8191) (W := 90112) (takeC_ok kt3740 (by kernel_rfl)) rfl kp3741 .plain (FV.load1 (by kernel_rfl) rfl (hm3749 0 _ rfl)) rfl ?_
            refine RD.vP 13 16383 kt3740 rfl kp3741 .plain (fun _ => FV.max2 (i := x3682) (j := x3742) rfl rfl) rfl ?_
            refine RD.vP 14 32767 kt3740 rfl kp3741 .plain (fun _ => FV.buildV (vs := [.int .i64 (min x3682 x3742), .int .i64 (max x3682 x3742)]) (u := .agg #[.int .i64 (min x3682 x3742), .int .i64 (max x3682 x3742)]) (evs_cons rfl (evs_cons rfl evs_nil)) (fun w9 => by kernel_rfl)) rfl ?_
            refine RD.one (i := 15) (readyD_ok kt3740 (by kernel_rfl)) (RO.new (m' := 65535) (stepC_ok kt3740 (by kernel_rfl)) rfl .plain rfl (Does.alloc (zs := [.int .i64 0, .int .i64 0]) hS3672 (zB (by kernel_rfl))) (fun w3752 b3755 hS3753 hT3754 => ?_))
            refine RD.one (i := 16) (readyD_ok kt3740 (by kernel_rfl)) (RO.now (m' := 131071) (stepC_ok kt3740 (by kernel_rfl)) rfl rfl .plain (Acts.store (j := 0) (old := [.int .i64 0, .int .i64 0]) (news := [.int .i64 (min x3682 x3742), .int .i64 (max x3682 x3742)]) (new' := [.int .i64 (min x3682 x3742), .int .i64 (max x3682 x3742)]) hS3753 .hd rfl rfl rfl rfl rfl rfl (ones_cons rfl (ones_cons rfl ones_nil)) rfl) (fun w3756 hS3757 hT3758 => ?_))
            refine RD.done (doneD_ok kt3740 (by kernel_rfl)) ?_
            refine MX.region ?_
            refine RG.val' .plain (FV.move rfl) rfl ?_
            refine RG.val' .plain (FV.fieldAddr (off := 1) (by kernel_rfl) rfl) rfl ?_
            refine RG.val' .plain (FV.load1 (by kernel_rfl) rfl ((hS3757.memA (.tl (.tl (.tl (.tl .hd))))) 1 _ rfl)) rfl ?_
            refine RG.val' .plain (FV.loadN (cs := [.int .i64 (min x3682 x3742), .int .i64 (max x3682 x3742)]) (by kernel_rfl) rfl (hS3757.memA .hd)) rfl ?_
            obtain ⟨y3759, hy3759, h⟩ := bind_in h
            have hm3760 := Rep.mv h0_1 (Tr.trans hT4 (Tr.trans hT9 (Tr.trans hT14 (Tr.trans hT35 (Tr.trans hT39 (Tr.trans hT2742 (Tr.trans hT2753 (Tr.trans hT2770 (Tr.trans hT3431 (Tr.trans hT3444 (Tr.trans hT3450 (Tr.trans hT3673 (Tr.trans hT3754 hT3758)))))))))))))
            refine RG.callq' (v := .int .i64 y3759) (fst := []) (cap := []) .plain body16 rfl (evs_cons rfl (evs_cons rfl evs_nil)) (fun w9 hw9 => slices_Index_2_int_2_int_c n _ w9 (hS3757.hL0 hL hw9) a0.fEdges (Rep.keep0 (Rep.dropO (O := [.cells b3755 [.int .i64 (min x3682 x3742), .int .i64 (max x3682 x3742)] 46, .row w.heap.size 3 (Rep.size Int) v3671 xs3668.length cs3669, .cells b36 [.int .u64 (u3428.toNat : Int), .int .i64 a0.fN, v0_1, .int .u64 (a1.toNat : Int), .int .i64 z3429] 74, .cells b15 [.int .u64 0] 37, .cells b5 [.int .i64 a0.fN, v0_1] 40]) hm3760) hw9) (min x3682 x3742, max x3682 x3742) hy3759) rfl ?_
            refine RG.new .plain rfl (Does.build (α := Int) (xs := ([y3759] : List Int)) (vs := [.int .i64 y3759]) (ds' := [.int .i64 y3759]) rfl hS3757 el22 rfl (evs_cons rfl evs_nil) (by kernel_rfl) rfl) (fun w3762 b3765 hS3763 hT3764 => ?_)
            have hc3766 : Cells w3762 (bl [.row w.heap.size 3 (Rep.size Int) (.slice (some ⟨b3765, 0, none⟩) 1 1) (([y3759] : List Int).length) [.int .i64 y3759], .cells b3755 [.int .i64 (min x3682 x3742), .int .i64 (max x3682 x3742)] 46, .row w.heap.size 3 (Rep.size Int) v3671 xs3668.length cs3669, .cells b36 [.int .u64 (u3428.toNat : Int), .int .i64 a0.fN, v0_1, .int .u64 (a1.toNat : Int), .int .i64 z3429] 74, .cells b15 [.int .u64 0] 37, .cells b5 [.int .i64 a0.fN, v0_1] 40] ++ L) [.int .i64 y3759] (([y3759] : List Int) : List Int) := Cells.cons (cs := [.int .i64 y3759]) (ds := []) rfl (Cells.nil _ _)
            obtain ⟨xs3767, hxs3767, h⟩ := bind_in h
            have hm3768 := Cells.mv hc3670 (Tr.trans hT3754 (Tr.trans hT3758 hT3764))
            refine RG.doesL .plain rfl (DoesL.app (α := Int) (ys := ([y3759] : List Int)) (F := fun v' cs' => [.row w.heap.size 3 (Rep.size Int) (.slice (some ⟨b3765, 0, none⟩) 1 1) (([y3759] : List Int).length) [.int .i64 y3759], .cells b3755 [.int .i64 (min x3682 x3742), .int .i64 (max x3682 x3742)] 46, .row w.heap.size 3 (Rep.size Int) v' xs3767.length cs', .cells b36 [.int .u64 (u3428.toNat : Int), .int .i64 a0.fN, v0_1, .int .u64 (a1.toNat : Int), .int .i64 z3429] 74, .cells b15 [.int .u64 0] 37, .cells b5 [.int .i64 a0.fN, v0_1] 40]) hxs3767 hS3763 (fun _ _ => (.tl (.tl .hd))) el22 rfl rfl hm3768 (Src.row (α := Int) hS3763 .hd hc3766)) (fun v3774 w3769 ⟨cs3773, hS3770, hT3771, hc3772⟩ => ?_)
            refine RG.val' .plain (FV.assign rfl) rfl ?_
            refine RG.nil ?_
            have hS3776 : St _ _ [.row w.heap.size 3 (Rep.size Int) v3774 xs3767.length cs3773, .cells b36 [.int .u64 (u3428.toNat : Int), .int .i64 a0.fN, v0_1, .int .u64 (a1.toNat : Int), .int .i64 z3429] 74, .cells b15 [.int .u64 0] 37, .cells b5 [.int .i64 a0.fN, v0_1] 40] := hS3770.arr (.one (.tl (.tl .hd)) (.one (.tl (.tl .hd)) (.one (.tl (.tl .hd)) (.one (.tl (.tl .hd)) .done))))
            have hT3777 : Tr w3769 _ w3769 [.row w.heap.size 3 (Rep.size Int) v3774 xs3767.length cs3773, .cells b36 [.int .u64 (u3428.toNat : Int), .int .i64 a0.fN, v0_1, .int .u64 (a1.toNat : Int), .int .i64 z3429] 74, .cells b15 [.int .u64 0] 37, .cells b5 [.int .i64 a0.fN, v0_1] 40] := Tr.arr (St.arrOf hS3770 (.one (.tl (.tl .hd)) (.one (.tl (.tl .hd)) (.one (.tl (.tl .hd)) (.one (.tl (.tl .hd)) .done)))))
            have hm3778 := Cells.mv hc3772 hT3777
            exact hJ3738 (xs3767, v3774, cs3773) _ _ ⟨rfl, rfl, rfl, rfl, rfl, rfl, rfl, rfl, rfl, rfl, rfl, rfl, trivial⟩ ⟨hS3776, (Tr.trans hT3754 (Tr.trans hT3758 (Tr.trans hT3764 (Tr.trans hT3771 hT3777)))), hm3778⟩ h
           ·skip
            refine MX.skip ?_
            exact hJ3738 (xs3668, v3671, cs3669) _ _ ⟨rfl, rfl, rfl, rfl, rfl, rfl, rfl, rfl, rfl, rfl, rfl, rfl, trivial⟩ ⟨hS3672, Tr.refl _ _, hc3670⟩ h
         ·skip
          refine MX.exit rfl ?_
          have h := hh3678 _ h
          try dsimp only at h
          refine MX.inBlock ?_
          refine MX.region ?_
          obtain ⟨s3779, hs3779, h⟩ := bind_in h
          refine RG.val' .plain (FV.addc (i := z2745) (j := 1) rfl rfl hs3779) rfl ?_
          refine RG.val' .plain (FV.move rfl) rfl ?_
          refine RG.nil ?_
          exact hJ2760 (u3666, s3779, xs3668, u3428, z3429, v3671, cs3669) _ _ ⟨rfl, rfl, rfl, rfl, rfl, rfl, rfl, rfl, trivial⟩ ⟨hS3672, (Tr.trans hT2753 (Tr.trans hT2770 (Tr.trans hT3431 (Tr.trans hT3444 (Tr.trans hT3450 hT3673))))), hc3670⟩ h
        ·skip
         refine MX.skip ?_
         refine MX.seq ?_
         refine MX.seq ?_
         refine MX.region ?_
         refine RG.val' .plain (FV.move rfl) rfl ?_
         refine RG.val' .plain (FV.nilCheck rfl) rfl ?_
         refine RG.val' .plain (FV.fieldAddr (off := 4) (by kernel_rfl) rfl) rfl ?_
         refine RG.val' .plain (FV.load1 (by kernel_rfl) rfl ((hS3430.memA (.tl (.tl .hd))) 4 _ rfl)) rfl ?_
         refine RG.val' .plain (FV.eql (i := z3429) (j := 0) rfl rfl) rfl ?_
         refine RG.nil ?_
         refine MX.ifd rfl h (fun c3780 h => ?_) (fun c3780 h => ?_)
         ·skip
          refine MX.seq ?_
          refine MX.region ?_
          refine RG.val' .plain (FV.assign rfl) rfl ?_
          refine RG.val' .plain (FV.assign rfl) rfl ?_
          refine RG.nil ?_
          have h := thn_inl h hh3436
          refine MX.ret rfl ?_
          refine RT.leave (u := .tuple #[.slice none 0 0, .int .i64 9]) hb2765 Tryd.func34 rfl (.cons (.tmp rfl) (.cons (.tmp rfl) .nil)) rfl ?_
          refine RG.val' .plain (FV.move rfl) rfl ?_
          refine RG.val' .plain (FV.extract rfl rfl) rfl ?_
          refine RG.val' .plain (FV.extract rfl rfl) rfl ?_
          refine RG.val' .plain (FV.assign rfl) rfl ?_
          refine RG.val' .plain (FV.assign rfl) rfl ?_
          refine RG.nil ?_
          refine MX.seq ?_
          refine MX.seq ?_
          refine MX.region ?_
          refine RG.val' .plain (FV.move rfl) rfl ?_
          refine RG.val' .plain (FV.neqN (i := 9) (j := 0) rfl rfl) rfl ?_
          refine RG.nil ?_
          refine MX.cond_t rfl ?_
          refine MX.seq ?_
          refine MX.region ?_
          refine RG.val' .plain (FV.buildV (vs := []) (u := .agg #[.int .u64 0]) evs_nil (fun w9 => by kernel_rfl)) rfl ?_
          refine RG.val' .plain (FV.move rfl) rfl ?_
          refine RG.val' .plain (FV.assign rfl) rfl ?_
          refine RG.now .plain (Acts.store (j := 0) (old := [.int .u64 0]) (news := [.int .u64 0]) (new' := [.int .u64 0]) hS3430 (.tl (.tl (.tl .hd))) rfl rfl rfl rfl rfl rfl (ones_cons rfl ones_nil) rfl) (fun w3781 hS3782 hT3783 => ?_)
          refine RG.val' .plain (FV.assign rfl) rfl ?_
          refine RG.nil ?_
          have h := thn_inl h hh2758
          refine MX.ret rfl ?_
          have hr3784 : Rep.R w3781 (bl [.row w.heap.size 3 (Rep.size Int) v3427 xs3424.length cs3425, .row w.heap.size 3 (Rep.size Int) v2749 xs2746.length cs2747, .cells b36 [.int .u64 (u3428.toNat : Int), .int .i64 a0.fN, v0_1, .int .u64 (a1.toNat : Int), .int .i64 z3429] 74, .cells b15 [.int .u64 0] 37, .cells b5 [.int .i64 a0.fN, v0_1] 40] ++ L) [.slice none 0 0] ([] : List Int) := Rep.nilSlice _ _
          refine RT.leave (u := .tuple #[.slice none 0 0, .agg #[.int .u64 0], .int .i64 9]) hb0 Tryd.func14 rfl (.cons (.tmp rfl) (.cons (.many (cs := [.int .u64 0]) (by kernel_rfl) rfl (hS3782.memA (.tl (.tl (.tl .hd))))) (.cons (.tmp rfl) .nil))) rfl ?_
          obtain rfl := Option.some.inj h
          have hr3785 : Rep.R w3781 (bl [.row w.heap.size 3 (Rep.size Int) v3427 xs3424.length cs3425, .row w.heap.size 3 (Rep.size Int) v2749 xs2746.length cs2747, .cells b36 [.int .u64 (u3428.toNat : Int), .int .i64 a0.fN, v0_1, .int .u64 (a1.toNat : Int), .int .i64 z3429] 74, .cells b15 [.int .u64 0] 37, .cells b5 [.int .i64 a0.fN, v0_1] 40] ++ L) [.slice none 0 0] ([] : List Int) := Rep.nilSlice _ _
          exact ⟨hS3782.ag, fun w9 hw9 => ⟨(.slice none 0 0), rfl, Rep.keep0 (Rep.dropO (O := [.row w.heap.size 3 (Rep.size Int) v3427 xs3424.length cs3425, .row w.heap.size 3 (Rep.size Int) v2749 xs2746.length cs2747, .cells b36 [.int .u64 (u3428.toNat : Int), .int .i64 a0.fN, v0_1, .int .u64 (a1.toNat : Int), .int .i64 z3429] 74, .cells b15 [.int .u64 0] 37, .cells b5 [.int .i64 a0.fN, v0_1] 40]) hr3785) hw9⟩⟩
         ·skip
          refine MX.skip ?_
          refine MX.seq ?_
          refine MX.region ?_
          refine RG.val' .plain (FV.move rfl) rfl ?_
          refine RG.val' .plain (FV.nilCheck rfl) rfl ?_
          refine RG.val' .plain (FV.fieldAddr (off := 4) (by kernel_rfl) rfl) rfl ?_
          refine RG.val' .plain (FV.load1 (by kernel_rfl) rfl ((hS3430.memA (.tl (.tl .hd))) 4 _ rfl)) rfl ?_
          obtain ⟨s3786, hs3786, h⟩ := bind_in h
          refine RG.val' .plain (FV.subc (i := z3429) (j := 1) rfl rfl hs3786) rfl ?_
          refine RG.val' .plain (FV.nilCheck rfl) rfl ?_
          refine RG.val' .plain (FV.fieldAddr (off := 4) (by kernel_rfl) rfl) rfl ?_
          refine RG.now .plain (Acts.store (j := 4) (old := [.int .u64 (u3428.toNat : Int), .int .i64 a0.fN, v0_1, .int .u64 (a1.toNat : Int), .int .i64 z3429]) (news := [.int .i64 s3786]) (new' := [.int .u64 (u3428.toNat : Int), .int .i64 a0.fN, v0_1, .int .u64 (a1.toNat : Int), .int .i64 s3786]) hS3430 (.tl (.tl .hd)) rfl rfl rfl rfl rfl rfl (ones_cons rfl ones_nil) rfl) (fun w3787 hS3788 hT3789 => ?_)
          refine RG.nil ?_
          refine MX.seq ?_
          refine MX.region ?_
          refine RG.val' .plain (FV.move rfl) rfl ?_
          refine RG.val' .plain (FV.move rfl) rfl ?_
          refine RG.enter (fst := []) (cap := []) (vs := [.pointer (some ⟨b36, 0, none⟩), .int .i64 z3423]) .plain body64 Tryd.func64 rfl rfl rfl rfl (evs_cons rfl (evs_cons rfl evs_nil)) rfl (fun cs3791 hb3790 => ?_)
          refine MX.seq ?_
          refine MX.region ?_
          refine RG.new .plain rfl (Does.box (vs := [.pointer (some ⟨b36, 0, none⟩)]) hS3788 rfl rfl) (fun w3793 b3796 hS3794 hT3795 => ?_)
          refine RG.new .plain rfl (Does.box (vs := [.int .i64 z3423]) hS3794 rfl rfl) (fun w3798 b3801 hS3799 hT3800 => ?_)
          refine RG.val' .plain (FV.assign rfl) rfl ?_
          refine RG.nil ?_
          refine MX.seq ?_
          refine MX.region ?_
          refine RG.val' .plain (FV.makeFunc (vs := []) (us := [.pointer (some ⟨b3796, 0, none⟩), .pointer (some ⟨b3801, 0, none⟩)]) evs_nil (evs_cons rfl (evs_cons rfl evs_nil))) rfl ?_
          refine RG.val' .plain (FV.assign rfl) rfl ?_
          refine RG.nil ?_
          refine MX.ret rfl ?_
          refine RT.leave (u := .func (.func 86) #[] #[.pointer (some ⟨b3796, 0, none⟩), .pointer (some ⟨b3801, 0, none⟩)]) hb3790 Tryd.func64 rfl (.cons (.tmp rfl) .nil) rfl ?_
          refine RG.enter (fst := []) (cap := []) (vs := [.func (.func 86) #[] #[.pointer (some ⟨b3796, 0, none⟩), .pointer (some ⟨b3801, 0, none⟩)]]) .plain body63 Tryd.func63 rfl rfl rfl rfl (evs_cons rfl evs_nil) rfl (fun cs3803 hb3802 => ?_)
          refine MX.seq ?_
          refine MX.region ?_
          refine RG.val' .plain (FV.assign rfl) rfl ?_
          refine RG.nil ?_
          refine MX.seq ?_
          refine MX.region ?_
          refine RG.val' .plain (FV.move rfl) rfl ?_
          refine RG.enter (fst := []) (cap := []) (vs := [.slice none 0 0, .func (.func 86) #[] #[.pointer (some ⟨b3796, 0, none⟩), .pointer (some ⟨b3801, 0, none⟩)]]) .plain body85 Tryd.func85 rfl rfl rfl rfl (evs_cons rfl (evs_cons rfl evs_nil)) rfl (fun cs3805 hb3804 => ?_)
          refine MX.seq ?_
          refine MX.region ?_
          refine RG.new .plain rfl (Does.box (vs := [.slice none 0 0]) hS3799 rfl rfl) (fun w3807 b3810 hS3808 hT3809 => ?_)
          refine RG.val' .plain (FV.assign rfl) rfl ?_
          refine RG.nil ?_
          refine MX.seq ?_
          refine MX.seq ?_
          refine MX.region ?_
          refine RG.val' .plain (FV.move rfl) rfl ?_
          refine RG.nil ?_
          refine MX.block ?_
          have hS3812 := hS3808.nilRow 3 (Rep.size Int)
          have hT3813 := Tr.nilRow (w := w3807) (O := [.cells b3810 [.slice none 0 0] 22, .cells b3801 [.int .i64 z3423] 3, .cells b3796 [.pointer (some ⟨b36, 0, none⟩)] 72, .row w.heap.size 3 (Rep.size Int) v3427 xs3424.length cs3425, .row w.heap.size 3 (Rep.size Int) v2749 xs2746.length cs2747, .cells b36 [.int .u64 (u3428.toNat : Int), .int .i64 a0.fN, v0_1, .int .u64 (a1.toNat : Int), .int .i64 s3786] 74, .cells b15 [.int .u64 0] 37, .cells b5 [.int .i64 a0.fN, v0_1] 40]) w.heap.size 3 (Rep.size Int)
          have hc3814 : Cells w3807 (bl [.row w.heap.size 3 (Rep.size Int) (.slice none 0 0) (([] : List Int).length) [], .cells b3810 [.slice none 0 0] 22, .cells b3801 [.int .i64 z3423] 3, .cells b3796 [.pointer (some ⟨b36, 0, none⟩)] 72, .row w.heap.size 3 (Rep.size Int) v3427 xs3424.length cs3425, .row w.heap.size 3 (Rep.size Int) v2749 xs2746.length cs2747, .cells b36 [.int .u64 (u3428.toNat : Int), .int .i64 a0.fN, v0_1, .int .u64 (a1.toNat : Int), .int .i64 s3786] 74, .cells b15 [.int .u64 0] 37, .cells b5 [.int .i64 a0.fN, v0_1] 40] ++ L) [] ([] : List Int) := Cells.nil _ _
          refine MX.range (lb := [.pointer (some ⟨b3796, 0, none⟩), .pointer (some ⟨b3801, 0, none⟩)]) rfl hS3812 rfl body86 Tryd.func86 rfl rfl rfl (fun w3815 lk3818 D3819 r3820 cs3823 hS3816 hT3817 rec3821 hb3822 => ?_)
          refine MX.seq ?_
          refine MX.region ?_
          refine RG.val' .plain (FV.assign rfl) rfl ?_
          refine RG.nil ?_
          refine MX.seq ?_
          refine MX.seq ?_
          refine MX.region ?_
          refine RG.val' .plain (FV.load1 (by kernel_rfl) rfl ((hS3816.memA (.tl (.tl (.tl (.tl (.tl .hd)))))) 0 _ rfl)) rfl ?_
          refine RG.val' .plain (FV.nilCheck rfl) rfl ?_
          refine RG.val' .plain (FV.fieldAddr (off := 1) (by kernel_rfl) rfl) rfl ?_
          refine RG.val' .plain (FV.fieldAddr (off := 1) (by kernel_rfl) rfl) rfl ?_
          refine RG.val' .plain (FV.load1 (by kernel_rfl) rfl ((mem_from (hS3816.memA (.tl (.tl (.tl (.tl (.tl (.tl (.tl (.tl .hd))))))))) 1) 1 _ rfl)) rfl ?_
          have hm3827 := Rep.mv h0_1 (Tr.trans hT4 (Tr.trans hT9 (Tr.trans hT14 (Tr.trans hT35 (Tr.trans hT39 (Tr.trans hT2742 (Tr.trans hT2753 (Tr.trans hT2770 (Tr.trans hT3431 (Tr.trans hT3789 (Tr.trans hT3795 (Tr.trans hT3800 (Tr.trans hT3809 (Tr.trans hT3813 hT3817))))))))))))))
          have hl3826 : a0.fEdges.length ≤ 281474976710656 := Rep.lenle hm3827
          refine RG.val' .plain (FV.len (xs := a0.fEdges) Tryd.underlying38 rfl hm3827) rfl ?_
          refine RG.val' .plain (FV.move rfl) rfl ?_
          refine RG.nil ?_
          refine MX.block ?_
          obtain ⟨o3880, ho3879, hh3881⟩ := bind_in2 h
          refine MX.loop (α := UInt64 × Nat) (fun ⟨u3873, i3874⟩ => [(0, .func (.yield lk3818) #[] #[]), (1, .pointer (some ⟨b3796, 0, none⟩)), (2, .pointer (some ⟨b3801, 0, none⟩)), (4, .int .u64 (u3873.toNat : Int)), (11, v0_1), (12, .int .i64 ((a0.fEdges.length : Nat) : Int)), (13, .int .i64 ((i3874 : Nat) : Int))]) (fun ⟨u3873, i3874⟩ wx3874 => St w wx3874 [.obj lk3818 (lpO r3820 .ready none), .obj D3819 (.deferred (some [])), .row w.heap.size 3 (Rep.size Int) (.slice none 0 0) (([] : List Int).length) [], .cells b3810 [(.slice none 0 0)] 22, .cells b3801 [.int .i64 z3423] 3, .cells b3796 [.pointer (some ⟨b36, 0, none⟩)] 72, .row w.heap.size 3 (Rep.size Int) v3427 xs3424.length cs3425, .row w.heap.size 3 (Rep.size Int) v2749 xs2746.length cs2747, .cells b36 [.int .u64 (u3428.toNat : Int), .int .i64 a0.fN, v0_1, .int .u64 (a1.toNat : Int), .int .i64 s3786] 74, .cells b15 [.int .u64 0] 37, .cells b5 [.int .i64 a0.fN, v0_1] 40] ∧ Tr w3815 [.obj lk3818 (lpO r3820 .ready none), .obj D3819 (.deferred (some [])), .row w.heap.size 3 (Rep.size Int) (.slice none 0 0) (([] : List Int).length) [], .cells b3810 [(.slice none 0 0)] 22, .cells b3801 [.int .i64 z3423] 3, .cells b3796 [.pointer (some ⟨b36, 0, none⟩)] 72, .row w.heap.size 3 (Rep.size Int) v3427 xs3424.length cs3425, .row w.heap.size 3 (Rep.size Int) v2749 xs2746.length cs2747, .cells b36 [.int .u64 (u3428.toNat : Int), .int .i64 a0.fN, v0_1, .int .u64 (a1.toNat : Int), .int .i64 s3786] 74, .cells b15 [.int .u64 0] 37, .cells b5 [.int .i64 a0.fN, v0_1] 40] wx3874 [.obj lk3818 (lpO r3820 .ready none), .obj D3819 (.deferred (some [])), .row w.heap.size 3 (Rep.size Int) (.slice none 0 0) (([] : List Int).length) [], .cells b3810 [(.slice none 0 0)] 22, .cells b3801 [.int .i64 z3423] 3, .cells b3796 [.pointer (some ⟨b36, 0, none⟩)] 72, .row w.heap.size 3 (Rep.size Int) v3427 xs3424.length cs3425, .row w.heap.size 3 (Rep.size Int) v2749 xs2746.length cs2747, .cells b36 [.int .u64 (u3428.toNat : Int), .int .i64 a0.fN, v0_1, .int .u64 (a1.toNat : Int), .int .i64 s3786] 74, .cells b15 [.int .u64 0] 37, .cells b5 [.int .i64 a0.fN, v0_1] 40]) (fun ⟨u3873, i3874⟩ => (u3873, i3874)) ((0 : UInt64), 0) ho3879 ⟨rfl, rfl, rfl, rfl, rfl, rfl, rfl, trivial⟩ ⟨hS3816, Tr.refl _ _⟩ ?_
          rintro J3882 ⟨u3873, i3874⟩ wx3874 hJ3883 ⟨hS3875, hT3876⟩ h
          unfold wilson_Draw_l3 at h
          try dsimp only at h
          refine MX.seq ?_
          refine MX.region ?_
          refine RG.val' .plain (FV.lssN (i := i3874) (j := a0.fEdges.length) rfl rfl) rfl ?_
          refine RG.nil ?_
          refine MX.seq ?_
          refine MX.ifd rfl h (fun c3884 h => ?_) (fun c3884 h => ?_)
          ·skip
           refine MX.skip ?_
           refine MX.seq ?_
           refine MX.block ?_
           refine MX.seq ?_
           refine MX.region ?_
           obtain ⟨x3885, hx3885, h⟩ := bind_in h
           have hm3893 := Rep.mv h0_1 (Tr.trans hT4 (Tr.trans hT9 (Tr.trans hT14 (Tr.trans hT35 (Tr.trans hT39 (Tr.trans hT2742 (Tr.trans hT2753 (Tr.trans hT2770 (Tr.trans hT3431 (Tr.trans hT3789 (Tr.trans hT3795 (Tr.trans hT3800 (Tr.trans hT3809 (Tr.trans hT3813 (Tr.trans hT3817 hT3876)))))))))))))))
           obtain ⟨A3886, c3887, he3888, hk3889, cs3890, hr3891, hm3892⟩ := Rep.nth hm3893 hx3885
           obtain rfl := op_A46 hr3891
           refine RG.val' .plain (FV.idxAddr (m := 2) (i := i3874) (by kernel_rfl) rfl he3888 rfl rfl hk3889) rfl ?_
           refine RG.val' .plain (FV.loadN (cs := [.int .i64 x3885.1, .int .i64 x3885.2]) (by kernel_rfl) rfl hm3892) rfl ?_
           refine RG.new .plain rfl (Does.alloc (zs := [.int .i64 0, .int .i64 0]) hS3875 (zB (by kernel_rfl))) (fun w3895 b3898 hS3896 hT3897 => ?_)
           refine RG.now .plain (Acts.store (j := 0) (old := [.int .i64 0, .int .i64 0]) (news := [.int .i64 x3885.1, .int .i64 x3885.2]) (new' := [.int .i64 x3885.1, .int .i64 x3885.2]) hS3896 .hd rfl rfl rfl rfl rfl rfl (ones_cons rfl (ones_cons rfl ones_nil)) rfl) (fun w3899 hS3900 hT3901 => ?_)
           refine RG.nil ?_
           refine MX.seq ?_
           refine MX.region ?_
           refine RG.val' .plain (FV.indexArr (m := 1) (k := 0) (len := 2) (by kernel_rfl) rfl rfl rfl (by omega)) rfl ?_
           refine RG.val' .plain (FV.load1 (by kernel_rfl) rfl ((hS3900.memA .hd) 0 _ rfl)) rfl ?_
           refine RG.val' .plain (FV.load1 (by kernel_rfl) rfl ((hS3900.memA (.tl (.tl (.tl (.tl (.tl .hd)))))) 0 _ rfl)) rfl ?_
           refine RG.val' .plain (FV.eql (i := x3885.1) (j := z3423) rfl rfl) rfl ?_
           refine RG.val' .plain (FV.move rfl) rfl ?_
           refine RG.ifd (s := 21) rfl h (fun c3902 h => ?_) (fun c3902 h => ?_)
           ·skip
            refine RG.off (.no rfl rfl) rfl ?_
            refine RG.off (.no rfl rfl) rfl ?_
            refine RG.off (.no rfl rfl) rfl ?_
            refine RG.off (.no rfl rfl) rfl ?_
            refine RG.val' .plain (FV.pick_t rfl rfl) rfl ?_
            refine RG.nil ?_
            refine MX.cond_t rfl ?_
            refine MX.region ?_
            refine RG.val' .plain (FV.move rfl) rfl ?_
            refine RG.val' .plain (FV.indexArr (m := 1) (k := 0) (len := 2) (by kernel_rfl) rfl rfl rfl (by omega)) rfl ?_
            refine RG.val' .plain (FV.load1 (by kernel_rfl) rfl ((hS3900.memA .hd) 0 _ rfl)) rfl ?_
            refine RG.val' .plain (FV.indexArr (m := 1) (k := 1) (len := 2) (by kernel_rfl) rfl rfl rfl (by omega)) rfl ?_
            refine RG.val' .plain (FV.load1 (by kernel_rfl) rfl ((hS3900.memA .hd) 1 _ rfl)) rfl ?_
            obtain ⟨s3903, hs3903, h⟩ := bind_in h
            refine RG.val' .plain (FV.addc (i := x3885.1) (j := x3885.2) rfl rfl hs3903) rfl ?_
            refine RG.val' .plain (FV.load1 (by kernel_rfl) rfl ((hS3900.memA (.tl (.tl (.tl (.tl (.tl .hd)))))) 0 _ rfl)) rfl ?_
            obtain ⟨s3904, hs3904, h⟩ := bind_in h
            refine RG.val' .plain (FV.subc (i := s3903) (j := z3423) rfl rfl hs3904) rfl ?_
            obtain ⟨k3905, hk3905, h⟩ := bind_in h
            refine RG.val' .plain (FV.shlI (a := (1 : UInt64)) (i := s3904) rfl rfl hk3905) rfl ?_
            refine RG.val' .plain (FV.orU (a := u3873) (b := shlU (1 : UInt64) k3905) rfl rfl) rfl ?_
            refine RG.val' .plain (FV.assign rfl) rfl ?_
            refine RG.nil ?_
            refine MX.inBlock ?_
            refine MX.region ?_
            refine RG.val' .plain (FV.addN (i := i3874) (j := 1) rfl rfl (by omega)) rfl ?_
            refine RG.val' .plain (FV.move rfl) rfl ?_
            refine RG.nil ?_
            have hS3906 : St _ _ [.obj lk3818 (lpO r3820 .ready none), .obj D3819 (.deferred (some [])), .row w.heap.size 3 (Rep.size Int) (.slice none 0 0) (([] : List Int).length) [], .cells b3810 [(.slice none 0 0)] 22, .cells b3801 [.int .i64 z3423] 3, .cells b3796 [.pointer (some ⟨b36, 0, none⟩)] 72, .row w.heap.size 3 (Rep.size Int) v3427 xs3424.length cs3425, .row w.heap.size 3 (Rep.size Int) v2749 xs2746.length cs2747, .cells b36 [.int .u64 (u3428.toNat : Int), .int .i64 a0.fN, v0_1, .int .u64 (a1.toNat : Int), .int .i64 s3786] 74, .cells b15 [.int .u64 0] 37, .cells b5 [.int .i64 a0.fN, v0_1] 40] := hS3900.arr (.one (.tl .hd) (.one (.tl .hd) (.one (.tl .hd) (.one (.tl .hd) (.one (.tl .hd) (.one (.tl .hd) (.one (.tl .hd) (.one (.tl .hd) (.one (.tl .hd) (.one (.tl .hd) (.one (.tl .hd) .done)))))))))))
            have hT3907 : Tr w3899 _ w3899 [.obj lk3818 (lpO r3820 .ready none), .obj D3819 (.deferred (some [])), .row w.heap.size 3 (Rep.size Int) (.slice none 0 0) (([] : List Int).length) [], .cells b3810 [(.slice none 0 0)] 22, .cells b3801 [.int .i64 z3423] 3, .cells b3796 [.pointer (some ⟨b36, 0, none⟩)] 72, .row w.heap.size 3 (Rep.size Int) v3427 xs3424.length cs3425, .row w.heap.size 3 (Rep.size Int) v2749 xs2746.length cs2747, .cells b36 [.int .u64 (u3428.toNat : Int), .int .i64 a0.fN, v0_1, .int .u64 (a1.toNat : Int), .int .i64 s3786] 74, .cells b15 [.int .u64 0] 37, .cells b5 [.int .i64 a0.fN, v0_1] 40] := Tr.arr (St.arrOf hS3900 (.one (.tl .hd) (.one (.tl .hd) (.one (.tl .hd) (.one (.tl .hd) (.one (.tl .hd) (.one (.tl .hd) (.one (.tl .hd) (.one (.tl .hd) (.one (.tl .hd) (.one (.tl .hd) (.one (.tl .hd) .done))))))))))))
            exact hJ3883 (u3873 ||| (shlU (1 : UInt64) k3905), i3874 + 1) _ _ ⟨rfl, rfl, rfl, rfl, rfl, rfl, rfl, trivial⟩ ⟨hS3906, (Tr.trans hT3876 (Tr.trans hT3897 (Tr.trans hT3901 hT3907)))⟩ h
           ·skip
            refine RG.val' (.yes rfl rfl) (FV.indexArr (m := 1) (k := 1) (len := 2) (by kernel_rfl) rfl rfl rfl (by omega)) rfl ?_
            refine RG.val' (.yes rfl rfl) (FV.load1 (by kernel_rfl) rfl ((hS3900.memA .hd) 1 _ rfl)) rfl ?_
            refine RG.val' (.yes rfl rfl) (FV.load1 (by kernel_rfl) rfl ((hS3900.memA (.tl (.tl (.tl (.tl (.tl .hd)))))) 0 _ rfl)) rfl ?_
            refine RG.val' (.yes rfl rfl) (FV.eql (i := x3885.2) (j := z3423) rfl rfl) rfl ?_
            refine RG.val' .plain (FV.pick_f rfl rfl) rfl ?_
            refine RG.nil ?_
            refine MX.join (α := UInt64) (fun u3912 => [(0, .func (.yield lk3818) #[] #[]), (1, .pointer (some ⟨b3796, 0, none⟩)), (2, .pointer (some ⟨b3801, 0, none⟩)), (4, .int .u64 (u3912.toNat : Int)), (11, v0_1), (12, .int .i64 ((a0.fEdges.length : Nat) : Int)), (13, .int .i64 ((i3874 : Nat) : Int))]) (fun u3912 wx3912 => St w wx3912 [.obj lk3818 (lpO r3820 .ready none), .obj D3819 (.deferred (some [])), .row w.heap.size 3 (Rep.size Int) (.slice none 0 0) (([] : List Int).length) [], .cells b3810 [(.slice none 0 0)] 22, .cells b3801 [.int .i64 z3423] 3, .cells b3796 [.pointer (some ⟨b36, 0, none⟩)] 72, .row w.heap.size 3 (Rep.size Int) v3427 xs3424.length cs3425, .row w.heap.size 3 (Rep.size Int) v2749 xs2746.length cs2747, .cells b36 [.int .u64 (u3428.toNat : Int), .int .i64 a0.fN, v0_1, .int .u64 (a1.toNat : Int), .int .i64 s3786] 74, .cells b15 [.int .u64 0] 37, .cells b5 [.int .i64 a0.fN, v0_1] 40] ∧ Tr w3899 [.cells b3898 [.int .i64 x3885.1, .int .i64 x3885.2] 46, .obj lk3818 (lpO r3820 .ready none), .obj D3819 (.deferred (some [])), .row w.heap.size 3 (Rep.size Int) (.slice none 0 0) (([] : List Int).length) [], .cells b3810 [(.slice none 0 0)] 22, .cells b3801 [.int .i64 z3423] 3, .cells b3796 [.pointer (some ⟨b36, 0, none⟩)] 72, .row w.heap.size 3 (Rep.size Int) v3427 xs3424.length cs3425, .row w.heap.size 3 (Rep.size Int) v2749 xs2746.length cs2747, .cells b36 [.int .u64 (u3428.toNat : Int), .int .i64 a0.fN, v0_1, .int .u64 (a1.toNat : Int), .int .i64 s3786] 74, .cells b15 [.int .u64 0] 37, .cells b5 [.int .i64 a0.fN, v0_1] 40] wx3912 [.obj lk3818 (lpO r3820 .ready none), .obj D3819 (.deferred (some [])), .row w.heap.size 3 (Rep.size Int) (.slice none 0 0) (([] : List Int).length) [], .cells b3810 [(.slice none 0 0)] 22, .cells b3801 [.int .i64 z3423] 3, .cells b3796 [.pointer (some ⟨b36, 0, none⟩)] 72, .row w.heap.size 3 (Rep.size Int) v3427 xs3424.length cs3425, .row w.heap.size 3 (Rep.size Int) v2749 xs2746.length cs2747, .cells b36 [.int .u64 (u3428.toNat : Int), .int .i64 a0.fN, v0_1, .int .u64 (a1.toNat : Int), .int .i64 s3786] 74, .cells b15 [.int .u64 0] 37, .cells b5 [.int .i64 a0.fN, v0_1] 40]) (fun u3912 => u3912) h ?_ ?_
            ·skip
             rintro u3912 wx3912 ⟨hS3913, hT3914⟩ h
             try dsimp only at h
             refine MX.inBlock ?_
             refine MX.region ?_
             refine RG.val' .plain (FV.addN (i := i3874) (j := 1) rfl rfl (by omega)) rfl ?_
             refine RG.val' .plain (FV.move rfl) rfl ?_
             refine RG.nil ?_
             exact hJ3883 (u3912, i3874 + 1) _ _ ⟨rfl, rfl, rfl, rfl, rfl, rfl, rfl, trivial⟩ ⟨hS3913, (Tr.trans hT3876 (Tr.trans hT3897 (Tr.trans hT3901 hT3914)))⟩ h
            ·skip
             intro J3916 hJ3917 h
             try dsimp only at h
             refine MX.ifd rfl h (fun c3918 h => ?_) (fun c3918 h => ?_)
             ·skip
              refine MX.region ?_
              refine RG.val' .plain (FV.move rfl) rfl ?_
              refine RG.val' .plain (FV.indexArr (m := 1) (k := 0) (len := 2) (by kernel_rfl) rfl rfl rfl (by omega)) rfl ?_
              refine RG.val' .plain (FV.load1 (by kernel_rfl) rfl ((hS3900.memA .hd) 0 _ rfl)) rfl ?_
              refine RG.val' .plain (FV.indexArr (m := 1) (k := 1) (len := 2) (by kernel_rfl) rfl rfl rfl (by omega)) rfl ?_
              refine RG.val' .plain (FV.load1 (by kernel_rfl) rfl ((hS3900.memA .hd) 1 _ rfl)) rfl ?_
              obtain ⟨s3919, hs3919, h⟩ := bind_in h
              refine RG.val' .plain (FV.addc (i := x3885.1) (j := x3885.2) rfl rfl hs3919) rfl ?_
              refine RG.val' .plain (FV.load1 (by kernel_rfl) rfl ((hS3900.memA (.tl (.tl (.tl (.tl (.tl .hd)))))) 0 _ rfl)) rfl ?_
              obtain ⟨s3920, hs3920, h⟩ := bind_in h
              refine RG.val' .plain (FV.subc (i := s3919) (j := z3423) rfl rfl hs3920) rfl ?_
              obtain ⟨k3921, hk3921, h⟩ := bind_in h
              refine RG.val' .plain (FV.shlI (a := (1 : UInt64)) (i := s3920) rfl rfl hk3921) rfl ?_
              refine RG.val' .plain (FV.orU (a := u3873) (b := shlU (1 : UInt64) k3921) rfl rfl) rfl ?_
              refine RG.val' .plain (FV.assign rfl) rfl ?_
              refine RG.nil ?_
              have hS3922 : St _ _ [.obj lk3818 (lpO r3820 .ready none), .obj D3819 (.deferred (some [])), .row w.heap.size 3 (Rep.size Int) (.slice none 0 0) (([] : List Int).length) [], .cells b3810 [(.slice none 0 0)] 22, .cells b3801 [.int .i64 z3423] 3, .cells b3796 [.pointer (some ⟨b36, 0, none⟩)] 72, .row w.heap.size 3 (Rep.size Int) v3427 xs3424.length cs3425, .row w.heap.size 3 (Rep.size Int) v2749 xs2746.length cs2747, .cells b36 [.int .u64 (u3428.toNat : Int), .int .i64 a0.fN, v0_1, .int .u64 (a1.toNat : Int), .int .i64 s3786] 74, .cells b15 [.int .u64 0] 37, .cells b5 [.int .i64 a0.fN, v0_1] 40] := hS3900.arr (.one (.tl .hd) (.one (.tl .hd) (.one (.tl .hd) (.one (.tl .hd) (.one (.tl .hd) (.one (.tl .hd) (.one (.tl .hd) (.one (.tl .hd) (.one (.tl .hd) (.one (.tl .hd) (.one (.tl .hd) .done)))))))))))
              have hT3923 : Tr w3899 _ w3899 [.obj lk3818 (lpO r3820 .ready none), .obj D3819 (.deferred (some [])), .row w.heap.size 3 (Rep.size Int) (.slice none 0 0) (([] : List Int).length) [], .cells b3810 [(.slice none 0 0)] 22, .cells b3801 [.int .i64 z3423] 3, .cells b3796 [.pointer (some ⟨b36, 0, none⟩)] 72, .row w.heap.size 3 (Rep.size Int) v3427 xs3424.length cs3425, .row w.heap.size 3 (Rep.size Int) v2749 xs2746.length cs2747, .cells b36 [.int .u64 (u3428.toNat : Int), .int .i64 a0.fN, v0_1, .int .u64 (a1.toNat : Int), .int .i64 s3786] 74, .cells b15 [.int .u64 0] 37, .cells b5 [.int .i64 a0.fN, v0_1] 40] := Tr.arr (St.arrOf hS3900 (.one (.tl .hd) (.one (.tl .hd) (.one (.tl .hd) (.one (.tl .hd) (.one (.tl .hd) (.one (.tl .hd) (.one (.tl .hd) (.one (.tl .hd) (.one (.tl .hd) (.one (.tl .hd) (.one (.tl .hd) .done))))))))))))
              exact hJ3917 (u3873 ||| (shlU (1 : UInt64) k3921)) _ _ ⟨rfl, rfl, rfl, rfl, rfl, rfl, rfl, trivial⟩ ⟨hS3922, hT3923⟩ h
             ·skip
              refine MX.skip ?_
              have hS3924 : St _ _ [.obj lk3818 (lpO r3820 .ready none), .obj D3819 (.deferred (some [])), .row w.heap.size 3 (Rep.size Int) (.slice none 0 0) (([] : List Int).length) [], .cells b3810 [(.slice none 0 0)] 22, .cells b3801 [.int .i64 z3423] 3, .cells b3796 [.pointer (some ⟨b36, 0, none⟩)] 72, .row w.heap.size 3 (Rep.size Int) v3427 xs3424.length cs3425, .row w.heap.size 3 (Rep.size Int) v2749 xs2746.length cs2747, .cells b36 [.int .u64 (u3428.toNat : Int), .int .i64 a0.fN, v0_1, .int .u64 (a1.toNat : Int), .int .i64 s3786] 74, .cells b15 [.int .u64 0] 37, .cells b5 [.int .i64 a0.fN, v0_1] 40] := hS3900.arr (.one (.tl .hd) (.one (.tl .hd) (.one (.tl .hd) (.one (.tl .hd) (.one (.tl .hd) (.one (.tl .hd) (.one (.tl .hd) (.one (.tl .hd) (.one (.tl .hd) (.one (.tl .hd) (.one (.tl .hd) .done)))))))))))
              have hT3925 : Tr w3899 _ w3899 [.obj lk3818 (lpO r3820 .ready none), .obj D3819 (.deferred (some [])), .row w.heap.size 3 (Rep.size Int) (.slice none 0 0) (([] : List Int).length) [], .cells b3810 [(.slice none 0 0)] 22, .cells b3801 [.int .i64 z3423] 3, .cells b3796 [.pointer (some ⟨b36, 0, none⟩)] 72, .row w.heap.size 3 (Rep.size Int) v3427 xs3424.length cs3425, .row w.heap.size 3 (Rep.size Int) v2749 xs2746.length cs2747, .cells b36 [.int .u64 (u3428.toNat : Int), .int .i64 a0.fN, v0_1, .int .u64 (a1.toNat : Int), .int .i64 s3786] 74, .cells b15 [.int .u64 0] 37, .cells b5 [.int .i64 a0.fN, v0_1] 40] := Tr.arr (St.arrOf hS3900 (.one (.tl .hd) (.one (.tl .hd) (.one (.tl .hd) (.one (.tl .hd) (.one (.tl .hd) (.one (.tl .hd) (.one (.tl .hd) (.one (.tl .hd) (.one (.tl .hd) (.one (.tl .hd) (.one (.tl .hd) .done))))))))))))
              exact hJ3917 u3873 _ _ ⟨rfl, rfl, rfl, rfl, rfl, rfl, rfl, trivial⟩ ⟨hS3924, hT3925⟩ h
          ·skip
           refine MX.exit rfl ?_
           have h := hh3881 _ h
           try dsimp only at h
           refine MX.seq ?_
           refine MX.region ?_
           refine RG.val' .plain (FV.move rfl) rfl ?_
           refine RG.val' .plain (FV.load1 (by kernel_rfl) rfl ((hS3875.memA (.tl (.tl (.tl (.tl (.tl .hd)))))) 0 _ rfl)) rfl ?_
           refine RG.val' .plain (FV.nilCheck rfl) rfl ?_
           refine RG.val' .plain (FV.fieldAddr (off := 3) (by kernel_rfl) rfl) rfl ?_
           refine RG.val' .plain (FV.load1 (by kernel_rfl) rfl ((hS3875.memA (.tl (.tl (.tl (.tl (.tl (.tl (.tl (.tl .hd))))))))) 3 _ rfl)) rfl ?_
           refine RG.val' .plain (FV.andU (a := u3873) (b := a1) rfl rfl) rfl ?_
           refine RG.val' .plain (FV.assign rfl) rfl ?_
           refine RG.nil ?_
           refine MX.block ?_
           have hm3994 := Cells.mv hc3814 (Tr.trans hT3817 hT3876)
           obtain ⟨o4005, ho4004, hh4006⟩ := bind_in2 h
           refine MX.loop (α := UInt64 × (List Int) × Value × (List Value)) (fun ⟨u3995, xs3996, v3999, cs3997⟩ => [(0, .func (.yield lk3818) #[] #[]), (4, .int .u64 (u3995.toNat : Int))]) (fun ⟨u3995, xs3996, v3999, cs3997⟩ wx3999 => St w wx3999 [.obj lk3818 (lpO r3820 .ready none), .obj D3819 (.deferred (some [])), .row w.heap.size 3 (Rep.size Int) v3999 xs3996.length cs3997, .cells b3810 [v3999] 22, .cells b3801 [.int .i64 z3423] 3, .cells b3796 [.pointer (some ⟨b36, 0, none⟩)] 72, .row w.heap.size 3 (Rep.size Int) v3427 xs3424.length cs3425, .row w.heap.size 3 (Rep.size Int) v2749 xs2746.length cs2747, .cells b36 [.int .u64 (u3428.toNat : Int), .int .i64 a0.fN, v0_1, .int .u64 (a1.toNat : Int), .int .i64 s3786] 74, .cells b15 [.int .u64 0] 37, .cells b5 [.int .i64 a0.fN, v0_1] 40] ∧ Tr wx3874 [.obj lk3818 (lpO r3820 .ready none), .obj D3819 (.deferred (some [])), .row w.heap.size 3 (Rep.size Int) (.slice none 0 0) (([] : List Int).length) [], .cells b3810 [(.slice none 0 0)] 22, .cells b3801 [.int .i64 z3423] 3, .cells b3796 [.pointer (some ⟨b36, 0, none⟩)] 72, .row w.heap.size 3 (Rep.size Int) v3427 xs3424.length cs3425, .row w.heap.size 3 (Rep.size Int) v2749 xs2746.length cs2747, .cells b36 [.int .u64 (u3428.toNat : Int), .int .i64 a0.fN, v0_1, .int .u64 (a1.toNat : Int), .int .i64 s3786] 74, .cells b15 [.int .u64 0] 37, .cells b5 [.int .i64 a0.fN, v0_1] 40] wx3999 [.obj lk3818 (lpO r3820 .ready none), .obj D3819 (.deferred (some [])), .row w.heap.size 3 (Rep.size Int) v3999 xs3996.length cs3997, .cells b3810 [v3999] 22, .cells b3801 [.int .i64 z3423] 3, .cells b3796 [.pointer (some ⟨b36, 0, none⟩)] 72, .row w.heap.size 3 (Rep.size Int) v3427 xs3424.length cs3425, .row w.heap.size 3 (Rep.size Int) v2749 xs2746.length cs2747, .cells b36 [.int .u64 (u3428.toNat : Int), .int .i64 a0.fN, v0_1, .int .u64 (a1.toNat : Int), .int .i64 s3786] 74, .cells b15 [.int .u64 0] 37, .cells b5 [.int .i64 a0.fN, v0_1] 40] ∧ Cells wx3999 (bl [.obj lk3818 (lpO r3820 .ready none), .obj D3819 (.deferred (some [])), .row w.heap.size 3 (Rep.size Int) v3999 xs3996.length cs3997, .cells b3810 [v3999] 22, .cells b3801 [.int .i64 z3423] 3, .cells b3796 [.pointer (some ⟨b36, 0, none⟩)] 72, .row w.heap.size 3 (Rep.size Int) v3427 xs3424.length cs3425, .row w.heap.size 3 (Rep.size Int) v2749 xs2746.length cs2747, .cells b36 [.int .u64 (u3428.toNat : Int), .int .i64 a0.fN, v0_1, .int .u64 (a1.toNat : Int), .int .i64 s3786] 74, .cells b15 [.int .u64 0] 37, .cells b5 [.int .i64 a0.fN, v0_1] 40] ++ L) cs3997 xs3996) (fun ⟨u3995, xs3996, v3999, cs3997⟩ => (u3995, xs3996)) (u3873 &&& a1, ([] : List Int), (.slice none 0 0), []) ho4004 ⟨rfl, rfl, trivial⟩ ⟨hS3875, Tr.refl _ _, hm3994⟩ ?_
           rintro J4007 ⟨u3995, xs3996, v3999, cs3997⟩ wx3999 hJ4008 ⟨hS4000, hT4001, hc3998⟩ h
           unfold wilson_Draw_l2 at h
           try dsimp only at h
           refine MX.seq ?_
           refine MX.seq ?_
           refine MX.region ?_
           refine RG.val' .plain (FV.move rfl) rfl ?_
           refine RG.val' .plain (FV.neqU (a := u3995) (b := (0 : UInt64)) rfl rfl) rfl ?_
           refine RG.nil ?_
           refine MX.ifn rfl h (fun c4009 h => ?_) (fun c4009 h => ?_)
           ·skip
            refine MX.exit rfl ?_
            have h := hh4006 _ h
            try dsimp only at h
            refine MX.fin rfl ?_
            refine RT.leave (u := .tuple #[]) hb3822 Tryd.func86 rfl .nil rfl ?_
            refine MX.endRange0 hS4000 .hd (by intro h9; cases h9) (fun w4010 hS4011 hT4012 => ?_)
            have hS4013 : St _ _ [.obj D3819 (.deferred (some [])), .row w.heap.size 3 (Rep.size Int) v3999 xs3996.length cs3997, .cells b3810 [v3999] 22, .cells b3801 [.int .i64 z3423] 3, .cells b3796 [.pointer (some ⟨b36, 0, none⟩)] 72, .row w.heap.size 3 (Rep.size Int) v3427 xs3424.length cs3425, .row w.heap.size 3 (Rep.size Int) v2749 xs2746.length cs2747, .cells b36 [.int .u64 (u3428.toNat : Int), .int .i64 a0.fN, v0_1, .int .u64 (a1.toNat : Int), .int .i64 s3786] 74, .cells b15 [.int .u64 0] 37, .cells b5 [.int .i64 a0.fN, v0_1] 40] := hS4011.arr (.one (.tl .hd) (.one (.tl .hd) (.one (.tl .hd) (.one (.tl .hd) (.one (.tl .hd) (.one (.tl .hd) (.one (.tl .hd) (.one (.tl .hd) (.one (.tl .hd) (.one (.tl .hd) .done))))))))))
            have hT4014 : Tr w4010 _ w4010 [.obj D3819 (.deferred (some [])), .row w.heap.size 3 (Rep.size Int) v3999 xs3996.length cs3997, .cells b3810 [v3999] 22, .cells b3801 [.int .i64 z3423] 3, .cells b3796 [.pointer (some ⟨b36, 0, none⟩)] 72, .row w.heap.size 3 (Rep.size Int) v3427 xs3424.length cs3425, .row w.heap.size 3 (Rep.size Int) v2749 xs2746.length cs2747, .cells b36 [.int .u64 (u3428.toNat : Int), .int .i64 a0.fN, v0_1, .int .u64 (a1.toNat : Int), .int .i64 s3786] 74, .cells b15 [.int .u64 0] 37, .cells b5 [.int .i64 a0.fN, v0_1] 40] := Tr.arr (St.arrOf hS4011 (.one (.tl .hd) (.one (.tl .hd) (.one (.tl .hd) (.one (.tl .hd) (.one (.tl .hd) (.one (.tl .hd) (.one (.tl .hd) (.one (.tl .hd) (.one (.tl .hd) (.one (.tl .hd) .done)))))))))))
            refine MX.inBlock ?_
            refine MX.seq ?_
            refine MX.region ?_
            refine RG.val' .plain (FV.load1 (by kernel_rfl) rfl ((hS4013.memA (.tl (.tl .hd))) 0 _ rfl)) rfl ?_
            refine RG.val' .plain (FV.assign rfl) rfl ?_
            refine RG.nil ?_
            refine MX.ret rfl ?_
            refine RT.take hS4013 .hd (fun w4015 hS4016 hT4017 => ?_)
            have hS4018 : St _ _ [.row w.heap.size 3 (Rep.size Int) v3999 xs3996.length cs3997, .cells b3810 [v3999] 22, .cells b3801 [.int .i64 z3423] 3, .cells b3796 [.pointer (some ⟨b36, 0, none⟩)] 72, .row w.heap.size 3 (Rep.size Int) v3427 xs3424.length cs3425, .row w.heap.size 3 (Rep.size Int) v2749 xs2746.length cs2747, .cells b36 [.int .u64 (u3428.toNat : Int), .int .i64 a0.fN, v0_1, .int .u64 (a1.toNat : Int), .int .i64 s3786] 74, .cells b15 [.int .u64 0] 37, .cells b5 [.int .i64 a0.fN, v0_1] 40] := hS4016.arr (.one (.tl .hd) (.one (.tl .hd) (.one (.tl .hd) (.one (.tl .hd) (.one (.tl .hd) (.one (.tl .hd) (.one (.tl .hd) (.one (.tl .hd) (.one (.tl .hd) .done)))))))))
            have hT4019 : Tr w4015 _ w4015 [.row w.heap.size 3 (Rep.size Int) v3999 xs3996.length cs3997, .cells b3810 [v3999] 22, .cells b3801 [.int .i64 z3423] 3, .cells b3796 [.pointer (some ⟨b36, 0, none⟩)] 72, .row w.heap.size 3 (Rep.size Int) v3427 xs3424.length cs3425, .row w.heap.size 3 (Rep.size Int) v2749 xs2746.length cs2747, .cells b36 [.int .u64 (u3428.toNat : Int), .int .i64 a0.fN, v0_1, .int .u64 (a1.toNat : Int), .int .i64 s3786] 74, .cells b15 [.int .u64 0] 37, .cells b5 [.int .i64 a0.fN, v0_1] 40] := Tr.arr (St.arrOf hS4016 (.one (.tl .hd) (.one (.tl .hd) (.one (.tl .hd) (.one (.tl .hd) (.one (.tl .hd) (.one (.tl .hd) (.one (.tl .hd) (.one (.tl .hd) (.one (.tl .hd) .done))))))))))
            refine RT.leave (u := v3999) hb3804 Tryd.func85 rfl (.cons (.tmp rfl) .nil) rfl ?_
            refine RG.val' .plain (FV.assign rfl) rfl ?_
            refine RG.nil ?_
            refine MX.ret rfl ?_
            refine RT.leave (u := v3999) hb3802 Tryd.func63 rfl (.cons (.tmp rfl) .nil) rfl ?_
            refine RG.val' .plain (FV.move rfl) rfl ?_
            refine RG.enter (fst := []) (cap := []) (vs := [v3999, .func (.func 61) #[.pointer (some ⟨b36, 0, none⟩)] #[]]) .plain body62 Tryd.func62 rfl rfl rfl rfl (evs_cons rfl (evs_cons rfl evs_nil)) rfl (fun cs4021 hb4020 => ?_)
            refine MX.seq ?_
            refine MX.region ?_
            refine RG.val' .plain (FV.assign rfl) rfl ?_
            refine RG.val' .plain (FV.assign rfl) rfl ?_
            refine RG.nil ?_
            refine MX.seq ?_
            refine MX.region ?_
            refine RG.val' .plain (FV.move rfl) rfl ?_
            refine RG.val' .plain (FV.move rfl) rfl ?_
            have hl4022 : xs3996.length ≤ 4294967296 := St.rowLe (α := Int) hS4018 .hd
            obtain ⟨A4023, c4024, he4025⟩ := St.rowV (α := Int) hS4018 .hd
            refine RG.val' .plain (FV.lenV Tryd.underlying22 rfl he4025) rfl ?_
            refine RG.enter (fst := [.pointer (some ⟨b36, 0, none⟩)]) (cap := []) (vs := [.int .i64 ((xs3996.length : Nat) : Int)]) .plain body61 Tryd.func61 rfl rfl rfl rfl (evs_cons rfl evs_nil) rfl (fun cs4027 hb4026 => ?_)
            refine MX.seq ?_
            refine MX.region ?_
            refine RG.val' .plain (FV.assign rfl) rfl ?_
            refine RG.val' .plain (FV.assign rfl) rfl ?_
            refine RG.nil ?_
            refine MX.seq ?_
            refine MX.region ?_
            refine RG.val' .plain (FV.move rfl) rfl ?_
            refine RG.val' .plain (FV.nilCheck rfl) rfl ?_
            refine RG.val' .plain (FV.fieldAddr (off := 0) (by kernel_rfl) rfl) rfl ?_
            refine RG.val' .plain (FV.loadN (cs := [.int .u64 (u3428.toNat : Int)]) (by kernel_rfl) rfl (mem_part (hS4018.memA (.tl (.tl (.tl (.tl (.tl (.tl .hd))))))) 0 1)) rfl ?_
            refine RG.val' .plain (FV.move rfl) rfl ?_
            obtain ⟨y4028, hy4028, h⟩ := bind_in h
            refine RG.callq' (v := .tuple #[.int .i64 y4028.1, .agg #[.int .u64 (y4028.2.1.fState.toNat : Int)], .int .i64 y4028.2.2]) (fst := []) (cap := []) .plain body29 rfl (evs_cons rfl (evs_cons rfl evs_nil)) (fun w9 hw9 => chance_Below_c n _ w9 (hS4018.hL0 hL hw9) (⟨u3428⟩ : TChance) ((xs3996.length : Nat) : Int) hy4028) rfl ?_
            refine RG.val' .plain (FV.move rfl) rfl ?_
            refine RG.val' .plain (FV.extract rfl rfl) rfl ?_
            refine RG.val' .plain (FV.extract rfl rfl) rfl ?_
            refine RG.val' .plain (FV.extract rfl rfl) rfl ?_
            refine RG.new .plain rfl (Does.alloc (zs := [.int .u64 0]) hS4018 (zB (by kernel_rfl))) (fun w4030 b4033 hS4031 hT4032 => ?_)
            refine RG.val' .plain (FV.assign rfl) rfl ?_
            refine RG.now .plain (Acts.store (j := 0) (old := [.int .u64 0]) (news := [.int .u64 (y4028.2.1.fState.toNat : Int)]) (new' := [.int .u64 (y4028.2.1.fState.toNat : Int)]) hS4031 .hd rfl rfl rfl rfl rfl rfl (ones_cons rfl ones_nil) rfl) (fun w4034 hS4035 hT4036 => ?_)
            refine RG.val' .plain (FV.assign rfl) rfl ?_
            refine RG.nil ?_
            refine MX.seq ?_
            refine MX.region ?_
            refine RG.val' .plain (FV.move rfl) rfl ?_
            refine RG.val' .plain (FV.loadN (cs := [.int .u64 (y4028.2.1.fState.toNat : Int)]) (by kernel_rfl) rfl (hS4035.memA .hd)) rfl ?_
            refine RG.val' .plain (FV.nilCheck rfl) rfl ?_
            refine RG.val' .plain (FV.fieldAddr (off := 0) (by kernel_rfl) rfl) rfl ?_
            refine RG.now .plain (Acts.store (j := 0) (old := [.int .u64 (u3428.toNat : Int), .int .i64 a0.fN, v0_1, .int .u64 (a1.toNat : Int), .int .i64 s3786]) (news := [.int .u64 (y4028.2.1.fState.toNat : Int)]) (new' := [.int .u64 (y4028.2.1.fState.toNat : Int), .int .i64 a0.fN, v0_1, .int .u64 (a1.toNat : Int), .int .i64 s3786]) hS4035 (.tl (.tl (.tl (.tl (.tl (.tl (.tl .hd))))))) rfl rfl rfl rfl rfl rfl (ones_cons rfl ones_nil) rfl) (fun w4037 hS4038 hT4039 => ?_)
            refine RG.nil ?_
            refine MX.seq ?_
            refine MX.region ?_
            refine RG.val' .plain (FV.move rfl) rfl ?_
            refine RG.val' .plain (FV.move rfl) rfl ?_
            refine RG.val' .plain (FV.assign rfl) rfl ?_
            refine RG.val' .plain (FV.assign rfl) rfl ?_
            refine RG.nil ?_
            refine MX.ret rfl ?_
            refine RT.leave (u := .tuple #[.int .i64 y4028.1, .int .i64 y4028.2.2]) hb4026 Tryd.func61 rfl (.cons (.tmp rfl) (.cons (.tmp rfl) .nil)) rfl ?_
            refine RG.val' .plain (FV.move rfl) rfl ?_
            refine RG.val' .plain (FV.extract rfl rfl) rfl ?_
            refine RG.val' .plain (FV.extract rfl rfl) rfl ?_
            refine RG.val' .plain (FV.assign rfl) rfl ?_
            refine RG.val' .plain (FV.assign rfl) rfl ?_
            refine RG.nil ?_
            refine MX.seq ?_
            refine MX.seq ?_
            refine MX.region ?_
            refine RG.val' .plain (FV.move rfl) rfl ?_
            refine RG.val' .plain (FV.neq (i := y4028.2.2) (j := 0) rfl rfl) rfl ?_
            refine RG.nil ?_
            refine MX.ifn rfl h (fun c4040 h => ?_) (fun c4040 h => ?_)
            ·skip
             refine MX.skip ?_
             refine MX.seq ?_
             refine MX.region ?_
             refine RG.val' .plain (FV.move rfl) rfl ?_
             refine RG.val' .plain (FV.move rfl) rfl ?_
             obtain ⟨x4041, hx4041, h⟩ := bind_in h
             obtain ⟨hi4042, hx4043⟩ := idx_in hx4041
             have hm4051 := Cells.mv hc3998 (Tr.trans hT4012 (Tr.trans hT4014 (Tr.trans hT4017 (Tr.trans hT4019 (Tr.trans hT4032 (Tr.trans hT4036 hT4039))))))
             obtain ⟨A4044, c4045, he4046, hk4047, cs4048, hr4049, hm4050⟩ := St.nth (α := Int) hS4038 (.tl .hd) hm4051 hx4043
             obtain ⟨b4052, c4053, he4054⟩ := St.nthOwn (α := Int) hS4038 (.tl .hd) hk4047
             obtain rfl : A4044 = ⟨b4052, 0, none⟩ := by rw [he4054] at he4046; cases he4046; rfl
             have he4055 : cs4048 = [.int .i64 x4041] := hr4049; subst he4055
             refine RG.val' .plain (FV.idxAddr (m := 1) (i := y4028.1.toNat) (by kernel_rfl) rfl he4046 rfl hi4042 hk4047) rfl ?_
             refine RG.val' .plain (FV.load1 (by kernel_rfl) rfl (hm4050 0 _ rfl)) rfl ?_
             refine RG.val' .plain (FV.assign rfl) rfl ?_
             refine RG.val' .plain (FV.assign rfl) rfl ?_
             refine RG.nil ?_
             refine MX.ret rfl ?_
             refine RT.leave (u := .tuple #[.int .i64 x4041, .int .i64 0]) hb4020 Tryd.func62 rfl (.cons (.tmp rfl) (.cons (.tmp rfl) .nil)) rfl ?_
             refine RG.val' .plain (FV.move rfl) rfl ?_
             refine RG.val' .plain (FV.extract rfl rfl) rfl ?_
             refine RG.val' .plain (FV.extract rfl rfl) rfl ?_
             refine RG.val' .plain (FV.assign rfl) rfl ?_
             refine RG.val' .plain (FV.assign rfl) rfl ?_
             refine RG.nil ?_
             refine MX.seq ?_
             refine MX.seq ?_
             refine MX.region ?_
             refine RG.val' .plain (FV.move rfl) rfl ?_
             refine RG.val' .plain (FV.neqN (i := 0) (j := 0) rfl rfl) rfl ?_
             refine RG.nil ?_
             refine MX.cond_f rfl ?_
             refine MX.skip ?_
             refine MX.seq ?_
             refine MX.region ?_
             refine RG.val' .plain (FV.move rfl) rfl ?_
             refine RG.val' .plain (FV.assign rfl) rfl ?_
             refine RG.nil ?_
             refine MX.region ?_
             refine RG.val' .plain (FV.move rfl) rfl ?_
             refine RG.val' .plain (FV.move rfl) rfl ?_
             refine RG.new .plain rfl (Does.build (α := Int) (xs := ([x4041] : List Int)) (vs := [.int .i64 x4041]) (ds' := [.int .i64 x4041]) rfl hS4038 el22 rfl (evs_cons rfl evs_nil) (by kernel_rfl) rfl) (fun w4057 b4060 hS4058 hT4059 => ?_)
             have hc4061 : Cells w4057 (bl [.row w.heap.size 3 (Rep.size Int) (.slice (some ⟨b4060, 0, none⟩) 1 1) (([x4041] : List Int).length) [.int .i64 x4041], .cells b4033 [.int .u64 (y4028.2.1.fState.toNat : Int)] 37, .row w.heap.size 3 (Rep.size Int) v3999 xs3996.length cs3997, .cells b3810 [v3999] 22, .cells b3801 [.int .i64 z3423] 3, .cells b3796 [.pointer (some ⟨b36, 0, none⟩)] 72, .row w.heap.size 3 (Rep.size Int) v3427 xs3424.length cs3425, .row w.heap.size 3 (Rep.size Int) v2749 xs2746.length cs2747, .cells b36 [.int .u64 (y4028.2.1.fState.toNat : Int), .int .i64 a0.fN, v0_1, .int .u64 (a1.toNat : Int), .int .i64 s3786] 74, .cells b15 [.int .u64 0] 37, .cells b5 [.int .i64 a0.fN, v0_1] 40] ++ L) [.int .i64 x4041] (([x4041] : List Int) : List Int) := Cells.cons (cs := [.int .i64 x4041]) (ds := []) rfl (Cells.nil _ _)
             obtain ⟨xs4062, hxs4062, h⟩ := bind_in h
             have hm4063 := Cells.mv hc3426 (Tr.trans hT3789 (Tr.trans hT3795 (Tr.trans hT3800 (Tr.trans hT3809 (Tr.trans hT3813 (Tr.trans hT3817 (Tr.trans hT3876 (Tr.trans hT4001 (Tr.trans hT4012 (Tr.trans hT4014 (Tr.trans hT4017 (Tr.trans hT4019 (Tr.trans hT4032 (Tr.trans hT4036 (Tr.trans hT4039 hT4059)))))))))))))))
             refine RG.doesL .plain rfl (DoesL.app (α := Int) (ys := ([x4041] : List Int)) (F := fun v' cs' => [.row w.heap.size 3 (Rep.size Int) (.slice (some ⟨b4060, 0, none⟩) 1 1) (([x4041] : List Int).length) [.int .i64 x4041], .cells b4033 [.int .u64 (y4028.2.1.fState.toNat : Int)] 37, .row w.heap.size 3 (Rep.size Int) v3999 xs3996.length cs3997, .cells b3810 [v3999] 22, .cells b3801 [.int .i64 z3423] 3, .cells b3796 [.pointer (some ⟨b36, 0, none⟩)] 72, .row w.heap.size 3 (Rep.size Int) v' xs4062.length cs', .row w.heap.size 3 (Rep.size Int) v2749 xs2746.length cs2747, .cells b36 [.int .u64 (y4028.2.1.fState.toNat : Int), .int .i64 a0.fN, v0_1, .int .u64 (a1.toNat : Int), .int .i64 s3786] 74, .cells b15 [.int .u64 0] 37, .cells b5 [.int .i64 a0.fN, v0_1] 40]) hxs4062 hS4058 (fun _ _ => (.tl (.tl (.tl (.tl (.tl (.tl .hd))))))) el22 rfl rfl hm4063 (Src.row (α := Int) hS4058 .hd hc4061)) (fun v4069 w4064 ⟨cs4068, hS4065, hT4066, hc4067⟩ => ?_)
             refine RG.val' .plain (FV.assign rfl) rfl ?_
             refine RG.nil ?_
             refine MX.inBlock ?_
             have hS4071 : St _ _ [.row w.heap.size 3 (Rep.size Int) v4069 xs4062.length cs4068, .row w.heap.size 3 (Rep.size Int) v2749 xs2746.length cs2747, .cells b36 [.int .u64 (y4028.2.1.fState.toNat : Int), .int .i64 a0.fN, v0_1, .int .u64 (a1.toNat : Int), .int .i64 s3786] 74, .cells b15 [.int .u64 0] 37, .cells b5 [.int .i64 a0.fN, v0_1] 40] := hS4065.arr (.one (.tl (.tl (.tl (.tl (.tl (.tl .hd)))))) (.one (.tl (.tl (.tl (.tl (.tl (.tl .hd)))))) (.one (.tl (.tl (.tl (.tl (.tl (.tl .hd)))))) (.one (.tl (.tl (.tl (.tl (.tl (.tl .hd)))))) (.one (.tl (.tl (.tl (.tl (.tl (.tl .hd)))))) .done)))))
             have hT4072 : Tr w4064 _ w4064 [.row w.heap.size 3 (Rep.size Int) v4069 xs4062.length cs4068, .row w.heap.size 3 (Rep.size Int) v2749 xs2746.length cs2747, .cells b36 [.int .u64 (y4028.2.1.fState.toNat : Int), .int .i64 a0.fN, v0_1, .int .u64 (a1.toNat : Int), .int .i64 s3786] 74, .cells b15 [.int .u64 0] 37, .cells b5 [.int .i64 a0.fN, v0_1] 40] := Tr.arr (St.arrOf hS4065 (.one (.tl (.tl (.tl (.tl (.tl (.tl .hd)))))) (.one (.tl (.tl (.tl (.tl (.tl (.tl .hd)))))) (.one (.tl (.tl (.tl (.tl (.tl (.tl .hd)))))) (.one (.tl (.tl (.tl (.tl (.tl (.tl .hd)))))) (.one (.tl (.tl (.tl (.tl (.tl (.tl .hd)))))) .done))))))
             have hm4073 := Cells.mv hc4067 hT4072
             exact hJ3438 (x4041, xs4062, y4028.2.1.fState, s3786, v4069, cs4068) _ _ ⟨rfl, rfl, rfl, rfl, rfl, trivial⟩ ⟨hS4071, (Tr.trans hT3431 (Tr.trans hT3789 (Tr.trans hT3795 (Tr.trans hT3800 (Tr.trans hT3809 (Tr.trans hT3813 (Tr.trans hT3817 (Tr.trans hT3876 (Tr.trans hT4001 (Tr.trans hT4012 (Tr.trans hT4014 (Tr.trans hT4017 (Tr.trans hT4019 (Tr.trans hT4032 (Tr.trans hT4036 (Tr.trans hT4039 (Tr.trans hT4059 (Tr.trans hT4066 hT4072)))))))))))))))))), hm4073⟩ h
            ·skip
             refine MX.seq ?_
             refine MX.region ?_
             refine RG.val' .plain (FV.assign rfl) rfl ?_
             refine RG.nil ?_
             refine MX.seq ?_
             refine MX.region ?_
             refine RG.val' .plain (FV.move rfl) rfl ?_
             refine RG.val' .plain (FV.move rfl) rfl ?_
             refine RG.val' .plain (FV.assign rfl) rfl ?_
             refine RG.val' .plain (FV.assign rfl) rfl ?_
             refine RG.nil ?_
             refine MX.ret rfl ?_
             refine RT.leave (u := .tuple #[.int .i64 0, .int .i64 y4028.2.2]) hb4020 Tryd.func62 rfl (.cons (.tmp rfl) (.cons (.tmp rfl) .nil)) rfl ?_
             refine RG.val' .plain (FV.move rfl) rfl ?_
             refine RG.val' .plain (FV.extract rfl rfl) rfl ?_
             refine RG.val' .plain (FV.extract rfl rfl) rfl ?_
             refine RG.val' .plain (FV.assign rfl) rfl ?_
             refine RG.val' .plain (FV.assign rfl) rfl ?_
             refine RG.nil ?_
             refine MX.seq ?_
             refine MX.seq ?_
             refine MX.region ?_
             refine RG.val' .plain (FV.move rfl) rfl ?_
             refine RG.val' .plain (FV.neq (i := y4028.2.2) (j := 0) rfl rfl) rfl ?_
             refine RG.nil ?_
             refine MX.cond_kt rfl (not_of (decide_eq_false c4040)) ?_
             refine MX.seq ?_
             refine MX.region ?_
             refine RG.val' .plain (FV.move rfl) rfl ?_
             refine RG.val' .plain (FV.assign rfl) rfl ?_
             refine RG.val' .plain (FV.assign rfl) rfl ?_
             refine RG.nil ?_
             have h := thn_inl h hh3436
             refine MX.ret rfl ?_
             refine RT.leave (u := .tuple #[.slice none 0 0, .int .i64 y4028.2.2]) hb2765 Tryd.func34 rfl (.cons (.tmp rfl) (.cons (.tmp rfl) .nil)) rfl ?_
             refine RG.val' .plain (FV.move rfl) rfl ?_
             refine RG.val' .plain (FV.extract rfl rfl) rfl ?_
             refine RG.val' .plain (FV.extract rfl rfl) rfl ?_
             refine RG.val' .plain (FV.assign rfl) rfl ?_
             refine RG.val' .plain (FV.assign rfl) rfl ?_
             refine RG.nil ?_
             refine MX.seq ?_
             refine MX.seq ?_
             refine MX.region ?_
             refine RG.val' .plain (FV.move rfl) rfl ?_
             refine RG.val' .plain (FV.neq (i := y4028.2.2) (j := 0) rfl rfl) rfl ?_
             refine RG.nil ?_
             refine MX.cond_kt rfl (not_of (decide_eq_false c4040)) ?_
             refine MX.seq ?_
             refine MX.region ?_
             refine RG.val' .plain (FV.buildV (vs := []) (u := .agg #[.int .u64 0]) evs_nil (fun w9 => by kernel_rfl)) rfl ?_
             refine RG.val' .plain (FV.move rfl) rfl ?_
             refine RG.val' .plain (FV.assign rfl) rfl ?_
             refine RG.now .plain (Acts.store (j := 0) (old := [.int .u64 0]) (news := [.int .u64 0]) (new' := [.int .u64 0]) hS4038 (.tl (.tl (.tl (.tl (.tl (.tl (.tl (.tl .hd)))))))) rfl rfl rfl rfl rfl rfl (ones_cons rfl ones_nil) rfl) (fun w4074 hS4075 hT4076 => ?_)
             refine RG.val' .plain (FV.assign rfl) rfl ?_
             refine RG.nil ?_
             have h := thn_inl h hh2758
             refine MX.ret rfl ?_
             have hr4077 : Rep.R w4074 (bl [.cells b4033 [.int .u64 (y4028.2.1.fState.toNat : Int)] 37, .row w.heap.size 3 (Rep.size Int) v3999 xs3996.length cs3997, .cells b3810 [v3999] 22, .cells b3801 [.int .i64 z3423] 3, .cells b3796 [.pointer (some ⟨b36, 0, none⟩)] 72, .row w.heap.size 3 (Rep.size Int) v3427 xs3424.length cs3425, .row w.heap.size 3 (Rep.size Int) v2749 xs2746.length cs2747, .cells b36 [.int .u64 (y4028.2.1.fState.toNat : Int), .int .i64 a0.fN, v0_1, .int .u64 (a1.toNat : Int), .int .i64 s3786] 74, .cells b15 [.int .u64 0] 37, .cells b5 [.int .i64 a0.fN, v0_1] 40] ++ L) [.slice none 0 0] ([] : List Int) := Rep.nilSlice _ _
             refine RT.leave (u := .tuple #[.slice none 0 0, .agg #[.int .u64 0], .int .i64 y4028.2.2]) hb0 Tryd.func14 rfl (.cons (.tmp rfl) (.cons (.many (cs := [.int .u64 0]) (by kernel_rfl) rfl (hS4075.memA (.tl (.tl (.tl (.tl (.tl (.tl (.tl (.tl .hd)))))))))) (.cons (.tmp rfl) .nil))) rfl ?_
             obtain rfl := Option.some.inj h
             have hr4078 : Rep.R w4074 (bl [.cells b4033 [.int .u64 (y4028.2.1.fState.toNat : Int)] 37, .row w.heap.size 3 (Rep.size Int) v3999 xs3996.length cs3997, .cells b3810 [v3999] 22, .cells b3801 [.int .i64 z3423] 3, .cells b3796 [.pointer (some ⟨b36, 0, none⟩)] 72, .row w.heap.size 3 (Rep.size Int) v3427 xs3424.length cs3425, .row w.heap.size 3 (Rep.size Int) v2749 xs2746.length cs2747, .cells b36 [.int .u64 (y4028.2.1.fState.toNat : Int), .int .i64 a0.fN, v0_1, .int .u64 (a1.toNat : Int), .int .i64 s3786] 74, .cells b15 [.int .u64 0] 37, .cells b5 [.int .i64 a0.fN, v0_1] 40] ++ L) [.slice none 0 0] ([] : List Int) := Rep.nilSlice _ _
             exact ⟨hS4075.ag, fun w9 hw9 => ⟨(.slice none 0 0), rfl, Rep.keep0 (Rep.dropO (O := [.cells b4033 [.int .u64 (y4028.2.1.fState.toNat : Int)] 37, .row w.heap.size 3 (Rep.size Int) v3999 xs3996.length cs3997, .cells b3810 [v3999] 22, .cells b3801 [.int .i64 z3423] 3, .cells b3796 [.pointer (some ⟨b36, 0, none⟩)] 72, .row w.heap.size 3 (Rep.size Int) v3427 xs3424.length cs3425, .row w.heap.size 3 (Rep.size Int) v2749 xs2746.length cs2747, .cells b36 [.int .u64 (y4028.2.1.fState.toNat : Int), .int .i64 a0.fN, v0_1, .int .u64 (a1.toNat : Int), .int .i64 s3786] 74, .cells b15 [.int .u64 0] 37, .cells b5 [.int .i64 a0.fN, v0_1] 40]) hr4078) hw9⟩⟩
           ·skip
            refine MX.skip ?_
            refine MX.seq ?_
            refine MX.block ?_
            refine MX.seq ?_
            refine MX.region ?_
            refine RG.val' .plain (FV.move rfl) rfl ?_
            refine RG.val' .plain (FV.move rfl) rfl ?_
            obtain ⟨y4079, hy4079, h⟩ := bind_in h
            refine RG.callq' (v := .int .i64 y4079) (fst := []) (cap := []) .plain body77 rfl (evs_cons rfl evs_nil) (fun w9 hw9 => math_bits_TrailingZeros64_c n _ w9 (hS4000.hL0 hL hw9) u3995 (hG0.keep (hS4000.ag.trans hw9)) hy4079) rfl ?_
            refine RG.yield (vs := [.int .i64 y4079]) .plain rfl (evs_cons rfl evs_nil) hS4000 .hd rec3821 rfl rfl rfl (fun cs4081 hb4080 => ?_)
            refine MX.region ?_
            refine RG.val' .plain (FV.assign rfl) rfl ?_
            refine RG.nil ?_
            refine MX.begin hS4000 .hd (fun w4082 hS4083 hT4084 => ?_)
            refine MX.block ?_
            refine MX.region ?_
            refine RG.val' .plain (FV.load1 (by kernel_rfl) rfl ((hS4083.memA (.tl (.tl (.tl .hd)))) 0 _ rfl)) rfl ?_
            refine RG.val' .plain (FV.move rfl) rfl ?_
            refine RG.new .plain rfl (Does.build (α := Int) (xs := ([y4079] : List Int)) (vs := [.int .i64 y4079]) (ds' := [.int .i64 y4079]) rfl hS4083 el22 rfl (evs_cons rfl evs_nil) (by kernel_rfl) rfl) (fun w4086 b4089 hS4087 hT4088 => ?_)
            have hc4090 : Cells w4086 (bl [.row w.heap.size 3 (Rep.size Int) (.slice (some ⟨b4089, 0, none⟩) 1 1) (([y4079] : List Int).length) [.int .i64 y4079], .obj lk3818 (lpO r3820 .busy none), .obj D3819 (.deferred (some [])), .row w.heap.size 3 (Rep.size Int) v3999 xs3996.length cs3997, .cells b3810 [v3999] 22, .cells b3801 [.int .i64 z3423] 3, .cells b3796 [.pointer (some ⟨b36, 0, none⟩)] 72, .row w.heap.size 3 (Rep.size Int) v3427 xs3424.length cs3425, .row w.heap.size 3 (Rep.size Int) v2749 xs2746.length cs2747, .cells b36 [.int .u64 (u3428.toNat : Int), .int .i64 a0.fN, v0_1, .int .u64 (a1.toNat : Int), .int .i64 s3786] 74, .cells b15 [.int .u64 0] 37, .cells b5 [.int .i64 a0.fN, v0_1] 40] ++ L) [.int .i64 y4079] (([y4079] : List Int) : List Int) := Cells.cons (cs := [.int .i64 y4079]) (ds := []) rfl (Cells.nil _ _)
            obtain ⟨xs4091, hxs4091, h⟩ := bind_in h
            have hm4092 := Cells.mv hc3998 (Tr.trans hT4084 hT4088)
            refine RG.doesL .plain rfl (DoesL.app (α := Int) (ys := ([y4079] : List Int)) (F := fun v' cs' => [.row w.heap.size 3 (Rep.size Int) (.slice (some ⟨b4089, 0, none⟩) 1 1) (([y4079] : List Int).length) [.int .i64 y4079], .obj lk3818 (lpO r3820 .busy none), .obj D3819 (.deferred (some [])), .row w.heap.size 3 (Rep.size Int) v' xs4091.length cs', .cells b3810 [v3999] 22, .cells b3801 [.int .i64 z3423] 3, .cells b3796 [.pointer (some ⟨b36, 0, none⟩)] 72, .row w.heap.size 3 (Rep.size Int) v3427 xs3424.length cs3425, .row w.heap.size 3 (Rep.size Int) v2749 xs2746.length cs2747, .cells b36 [.int .u64 (u3428.toNat : Int), .int .i64 a0.fN, v0_1, .int .u64 (a1.toNat : Int), .int .i64 s3786] 74, .cells b15 [.int .u64 0] 37, .cells b5 [.int .i64 a0.fN, v0_1] 40]) hxs4091 hS4087 (fun _ _ => (.tl (.tl (.tl .hd)))) el22 rfl rfl hm4092 (Src.row (α := Int) hS4087 .hd hc4090)) (fun v4098 w4093 ⟨cs4097, hS4094, hT4095, hc4096⟩ => ?_)
            refine RG.now .plain (Acts.store (j := 0) (old := [v3999]) (news := [v4098]) (new' := [v4098]) hS4094 (.tl (.tl (.tl (.tl .hd)))) rfl rfl rfl (St.c1 (α := Int) hS4094 (.tl (.tl (.tl .hd)))) rfl rfl (ones_cons (St.o1 (α := Int) hS4094 (.tl (.tl (.tl .hd)))) ones_nil) rfl) (fun w4100 hS4101 hT4102 => ?_)
            refine RG.nil ?_
            refine MX.inBlock ?_
            refine MX.roundEnd hb4080 hS4101 (.tl .hd) (fun w4103 hS4104 hT4105 => ?_)
            refine RG.val' .plain (FV.not rfl) rfl ?_
            refine RG.nil ?_
            refine MX.cond_f rfl ?_
            refine MX.skip ?_
            refine MX.inBlock ?_
            refine MX.region ?_
            refine RG.val' .plain (FV.move rfl) rfl ?_
            refine RG.val' .plain (FV.move rfl) rfl ?_
            refine RG.val' .plain (FV.subU (a := u3995) (b := (1 : UInt64)) rfl rfl) rfl ?_
            refine RG.val' .plain (FV.andU (a := u3995) (b := u3995 - (1 : UInt64)) rfl rfl) rfl ?_
            refine RG.val' .plain (FV.assign rfl) rfl ?_
            refine RG.nil ?_
            have hS4106 : St _ _ [.obj lk3818 (lpO r3820 .ready none), .obj D3819 (.deferred (some [])), .row w.heap.size 3 (Rep.size Int) v4098 xs4091.length cs4097, .cells b3810 [v4098] 22, .cells b3801 [.int .i64 z3423] 3, .cells b3796 [.pointer (some ⟨b36, 0, none⟩)] 72, .row w.heap.size 3 (Rep.size Int) v3427 xs3424.length cs3425, .row w.heap.size 3 (Rep.size Int) v2749 xs2746.length cs2747, .cells b36 [.int .u64 (u3428.toNat : Int), .int .i64 a0.fN, v0_1, .int .u64 (a1.toNat : Int), .int .i64 s3786] 74, .cells b15 [.int .u64 0] 37, .cells b5 [.int .i64 a0.fN, v0_1] 40] := hS4104.arr (.one (.tl .hd) (.one (.tl .hd) (.one (.tl .hd) (.one (.tl .hd) (.one (.tl .hd) (.one (.tl .hd) (.one (.tl .hd) (.one (.tl .hd) (.one (.tl .hd) (.one (.tl .hd) (.one (.tl .hd) .done)))))))))))
            have hT4107 : Tr w4103 _ w4103 [.obj lk3818 (lpO r3820 .ready none), .obj D3819 (.deferred (some [])), .row w.heap.size 3 (Rep.size Int) v4098 xs4091.length cs4097, .cells b3810 [v4098] 22, .cells b3801 [.int .i64 z3423] 3, .cells b3796 [.pointer (some ⟨b36, 0, none⟩)] 72, .row w.heap.size 3 (Rep.size Int) v3427 xs3424.length cs3425, .row w.heap.size 3 (Rep.size Int) v2749 xs2746.length cs2747, .cells b36 [.int .u64 (u3428.toNat : Int), .int .i64 a0.fN, v0_1, .int .u64 (a1.toNat : Int), .int .i64 s3786] 74, .cells b15 [.int .u64 0] 37, .cells b5 [.int .i64 a0.fN, v0_1] 40] := Tr.arr (St.arrOf hS4104 (.one (.tl .hd) (.one (.tl .hd) (.one (.tl .hd) (.one (.tl .hd) (.one (.tl .hd) (.one (.tl .hd) (.one (.tl .hd) (.one (.tl .hd) (.one (.tl .hd) (.one (.tl .hd) (.one (.tl .hd) .done))))))))))))
            have hm4108 := Cells.mv hc4096 (Tr.trans hT4102 (Tr.trans hT4105 hT4107))
            exact hJ4008 (u3995 &&& (u3995 - (1 : UInt64)), xs4091, v4098, cs4097) _ _ ⟨rfl, rfl, trivial⟩ ⟨hS4106, (Tr.trans hT4001 (Tr.trans hT4084 (Tr.trans hT4088 (Tr.trans hT4095 (Tr.trans hT4102 (Tr.trans hT4105 hT4107)))))), hm4108⟩ h
      ·skip
       refine MX.exit rfl ?_
       have h := thn_inr h hh2758
       try dsimp only at h
       refine MX.seq ?_
       refine MX.region ?_
       refine RG.val' .plain (FV.move rfl) rfl ?_
       refine RG.enter (fst := []) (cap := []) (vs := [v2749]) .plain body17 Tryd.func17 rfl rfl rfl rfl (evs_cons rfl evs_nil) rfl (fun cs4110 hb4109 => ?_)
       refine MX.seq ?_
       refine MX.region ?_
       refine RG.val' .plain (FV.move rfl) rfl ?_
       have hl4111 : xs2746.length ≤ 4294967296 := St.rowLe (α := Int) hS2752 .hd
       obtain ⟨A4112, c4113, he4114⟩ := St.rowV (α := Int) hS2752 .hd
       refine RG.val' .plain (FV.lenV Tryd.underlying22 rfl he4114) rfl ?_
       refine RG.val' .plain (FV.assign rfl) rfl ?_
       refine RG.nil ?_
       refine MX.region ?_
       refine RG.val' .plain (FV.move rfl) rfl ?_
       refine RG.val' .plain (FV.move rfl) rfl ?_
       refine RG.val' .plain (FV.move rfl) rfl ?_
       refine RG.val' .plain (FV.convU (i := ((xs2746.length : Nat) : Int)) Tryd.underlying3 Tryd.underlying68 rfl) rfl ?_
       obtain ⟨y4115, hy4115, h⟩ := bind_in h
       refine RG.callq' (v := .int .i64 y4115) (fst := []) (cap := []) .plain body36 rfl (evs_cons rfl evs_nil) (fun w9 hw9 => math_bits_Len_c n _ w9 (hS2752.hL0 hL hw9) (u64of ((xs2746.length : Nat) : Int)) hy4115) rfl ?_
       refine RG.enter (fst := []) (cap := []) (vs := [v2749, .int .i64 0, .int .i64 ((xs2746.length : Nat) : Int), .int .i64 y4115]) .plain body35 Tryd.func35 rfl rfl rfl rfl (evs_cons rfl (evs_cons rfl (evs_cons rfl (evs_cons rfl evs_nil)))) rfl (fun cs4117 hb4116 => ?_)
       refine MX.seq ?_
       refine MX.region ?_
       refine RG.val' .plain (FV.assign rfl) rfl ?_
       refine RG.nil ?_
       refine MX.seq ?_
       refine MX.region ?_
       refine RG.val' .plain (FV.assign rfl) rfl ?_
       refine RG.nil ?_
       refine MX.block ?_
       have ho4964 := h
       refine MX.loop (α := Nat × Nat × Int × Bool × Bool) (fun ⟨i4955, i4956, z4957, q4958, q4959⟩ => [(0, v2749), (1, .int .i64 ((i4955 : Nat) : Int)), (2, .int .i64 ((i4956 : Nat) : Int)), (3, .int .i64 z4957), (8, .bool q4958), (9, .bool q4959)]) (fun ⟨i4955, i4956, z4957, q4958, q4959⟩ wx4959 => St w wx4959 [.row w.heap.size 3 (Rep.size Int) v2749 xs2746.length cs2747, .cells b36 [.int .u64 (u2750.toNat : Int), .int .i64 a0.fN, v0_1, .int .u64 (a1.toNat : Int), .int .i64 z2751] 74, .cells b15 [.int .u64 0] 37, .cells b5 [.int .i64 a0.fN, v0_1] 40] ∧ Tr wx2751 [.row w.heap.size 3 (Rep.size Int) v2749 xs2746.length cs2747, .cells b36 [.int .u64 (u2750.toNat : Int), .int .i64 a0.fN, v0_1, .int .u64 (a1.toNat : Int), .int .i64 z2751] 74, .cells b15 [.int .u64 0] 37, .cells b5 [.int .i64 a0.fN, v0_1] 40] wx4959 [.row w.heap.size 3 (Rep.size Int) v2749 xs2746.length cs2747, .cells b36 [.int .u64 (u2750.toNat : Int), .int .i64 a0.fN, v0_1, .int .u64 (a1.toNat : Int), .int .i64 z2751] 74, .cells b15 [.int .u64 0] 37, .cells b5 [.int .i64 a0.fN, v0_1] 40]) (fun ⟨i4955, i4956, z4957, q4958, q4959⟩ => (i4955, i4956, z4957, q4958, q4959)) (0, xs2746.length, y4115, true, true) ho4964 ⟨rfl, rfl, rfl, rfl, rfl, rfl, trivial⟩ ⟨hS2752, Tr.refl _ _⟩ ?_
       rintro J4965 ⟨i4955, i4956, z4957, q4958, q4959⟩ wx4959 hJ4966 ⟨hS4960, hT4961⟩ h
       unfold wilson_Draw_l7 at h
       try dsimp only at h
       refine MX.block ?_
       refine MX.seq ?_
       refine MX.region ?_
       refine RG.val' .plain (FV.move rfl) rfl ?_
       refine RG.val' .plain (FV.move rfl) rfl ?_
       obtain ⟨s4967, hs4967, h⟩ := bind_in h
       refine RG.val' .plain (FV.subc (i := ((i4956 : Nat) : Int)) (j := ((i4955 : Nat) : Int)) rfl rfl hs4967) rfl ?_
       refine RG.val' .plain (FV.assign rfl) rfl ?_
       refine RG.nil ?_
       refine MX.seq ?_
       refine MX.seq ?_
       refine MX.region ?_
       refine RG.val' .plain (FV.move rfl) rfl ?_
       refine RG.val' .plain (FV.leq (i := s4967) (j := 12) rfl rfl) rfl ?_
       refine RG.nil ?_
       refine MX.ifd rfl h (fun c4968 h => ?_) (fun c4968 h => ?_)
       ·skip
        refine MX.seq ?_
        refine MX.region ?_
        refine RG.val' .plain (FV.move rfl) rfl ?_
        refine RG.val' .plain (FV.move rfl) rfl ?_
        refine RG.val' .plain (FV.move rfl) rfl ?_
        refine RG.enter (fst := []) (cap := []) (vs := [v2749, .int .i64 ((i4955 : Nat) : Int), .int .i64 ((i4956 : Nat) : Int)]) .plain body65 Tryd.func65 rfl rfl rfl rfl (evs_cons rfl (evs_cons rfl (evs_cons rfl evs_nil))) rfl (fun cs4970 hb4969 => ?_)
        refine MX.seq ?_
        refine MX.region ?_
        refine RG.val' .plain (FV.move rfl) rfl ?_
        obtain ⟨s4971, hs4971, h⟩ := bind_in h
        refine RG.val' .plain (FV.addc (i := ((i4955 : Nat) : Int)) (j := 1) rfl rfl hs4971) rfl ?_
        refine RG.val' .plain (FV.assign rfl) rfl ?_
        refine RG.nil ?_
        refine MX.block ?_
        have hm5514 := Cells.mv hc2748 hT4961
        obtain ⟨o5524, ho5523, hh5525⟩ := bind_in2 h
        refine MX.loop (α := Int × (List Int) × (List Value)) (fun ⟨z5515, xs5516, cs5517⟩ => [(0, v2749), (1, .int .i64 ((i4955 : Nat) : Int)), (2, .int .i64 ((i4956 : Nat) : Int)), (6, .int .i64 z5515)]) (fun ⟨z5515, xs5516, cs5517⟩ wx5518 => St w wx5518 [.row w.heap.size 3 (Rep.size Int) v2749 xs5516.length cs5517, .cells b36 [.int .u64 (u2750.toNat : Int), .int .i64 a0.fN, v0_1, .int .u64 (a1.toNat : Int), .int .i64 z2751] 74, .cells b15 [.int .u64 0] 37, .cells b5 [.int .i64 a0.fN, v0_1] 40] ∧ Tr wx4959 [.row w.heap.size 3 (Rep.size Int) v2749 xs2746.length cs2747, .cells b36 [.int .u64 (u2750.toNat : Int), .int .i64 a0.fN, v0_1, .int .u64 (a1.toNat : Int), .int .i64 z2751] 74, .cells b15 [.int .u64 0] 37, .cells b5 [.int .i64 a0.fN, v0_1] 40] wx5518 [.row w.heap.size 3 (Rep.size Int) v2749 xs5516.length cs5517, .cells b36 [.int .u64 (u2750.toNat : Int), .int .i64 a0.fN, v0_1, .int .u64 (a1.toNat : Int), .int .i64 z2751] 74, .cells b15 [.int .u64 0] 37, .cells b5 [.int .i64 a0.fN, v0_1] 40] ∧ Cells wx5518 (bl [.row w.heap.size 3 (Rep.size Int) v2749 xs5516.length cs5517, .cells b36 [.int .u64 (u2750.toNat : Int), .int .i64 a0.fN, v0_1, .int .u64 (a1.toNat : Int), .int .i64 z2751] 74, .cells b15 [.int .u64 0] 37, .cells b5 [.int .i64 a0.fN, v0_1] 40] ++ L) cs5517 xs5516) (fun ⟨z5515, xs5516, cs5517⟩ => (z5515, xs5516)) (s4971, xs2746, cs2747) ho5523 ⟨rfl, rfl, rfl, rfl, trivial⟩ ⟨hS4960, Tr.refl _ _, hm5514⟩ ?_
        rintro J5526 ⟨z5515, xs5516, cs5517⟩ wx5518 hJ5527 ⟨hS5519, hT5520, hc5518⟩ h
        unfold wilson_Draw_l6 at h
        try dsimp only at h
        refine MX.seq ?_
        refine MX.seq ?_
        refine MX.region ?_
        refine RG.val' .plain (FV.move rfl) rfl ?_
        refine RG.val' .plain (FV.move rfl) rfl ?_
        refine RG.val' .plain (FV.lss (i := z5515) (j := ((i4956 : Nat) : Int)) rfl rfl) rfl ?_
        refine RG.nil ?_
        refine MX.ifd rfl h (fun c5528 h => ?_) (fun c5528 h => ?_)
        ·skip
         refine MX.skip ?_
         refine MX.seq ?_
         refine MX.block ?_
         refine MX.seq ?_
         refine MX.region ?_
         refine RG.val' .plain (FV.move rfl) rfl ?_
         refine RG.val' .plain (FV.assign rfl) rfl ?_
         refine RG.nil ?_
         refine MX.block ?_
         refine MX.joinx (α := (List Int) × (List Value)) (fun ⟨xs5961, cs5962⟩ => [(0, v2749), (1, .int .i64 ((i4955 : Nat) : Int)), (2, .int .i64 ((i4956 : Nat) : Int)), (6, .int .i64 z5515)]) (fun ⟨xs5961, cs5962⟩ wx5963 => St w wx5963 [.row w.heap.size 3 (Rep.size Int) v2749 xs5961.length cs5962, .cells b36 [.int .u64 (u2750.toNat : Int), .int .i64 a0.fN, v0_1, .int .u64 (a1.toNat : Int), .int .i64 z2751] 74, .cells b15 [.int .u64 0] 37, .cells b5 [.int .i64 a0.fN, v0_1] 40] ∧ Tr wx5518 [.row w.heap.size 3 (Rep.size Int) v2749 xs5516.length cs5517, .cells b36 [.int .u64 (u2750.toNat : Int), .int .i64 a0.fN, v0_1, .int .u64 (a1.toNat : Int), .int .i64 z2751] 74, .cells b15 [.int .u64 0] 37, .cells b5 [.int .i64 a0.fN, v0_1] 40] wx5963 [.row w.heap.size 3 (Rep.size Int) v2749 xs5961.length cs5962, .cells b36 [.int .u64 (u2750.toNat : Int), .int .i64 a0.fN, v0_1, .int .u64 (a1.toNat : Int), .int .i64 z2751] 74, .cells b15 [.int .u64 0] 37, .cells b5 [.int .i64 a0.fN, v0_1] 40] ∧ Cells wx5963 (bl [.row w.heap.size 3 (Rep.size Int) v2749 xs5961.length cs5962, .cells b36 [.int .u64 (u2750.toNat : Int), .int .i64 a0.fN, v0_1, .int .u64 (a1.toNat : Int), .int .i64 z2751] 74, .cells b15 [.int .u64 0] 37, .cells b5 [.int .i64 a0.fN, v0_1] 40] ++ L) cs5962 xs5961) (fun ⟨xs5961, cs5962⟩ => xs5961) (id := 2) rfl h ?_ ?_
         ·skip
          rintro ⟨xs5961, cs5962⟩ wx5963 ⟨hS5964, hT5965, hc5963⟩ h
          try dsimp only at h
          refine MX.inBlock ?_
          refine MX.region ?_
          refine RG.val' .plain (FV.move rfl) rfl ?_
          obtain ⟨s5969, hs5969, h⟩ := bind_in h
          refine RG.val' .plain (FV.addc (i := z5515) (j := 1) rfl rfl hs5969) rfl ?_
          refine RG.val' .plain (FV.assign rfl) rfl ?_
          refine RG.nil ?_
          exact hJ5527 (s5969, xs5961, cs5962) _ _ ⟨rfl, rfl, rfl, rfl, trivial⟩ ⟨hS5964, (Tr.trans hT5520 hT5965), hc5963⟩ h
         ·skip
          intro J5967 hJ5968 h
          try dsimp only at h
          obtain ⟨o6149, ho6148, hh6150⟩ := bind_in2 h
          refine MX.loop (α := Int × (List Int) × (List Value)) (fun ⟨z6140, xs6141, cs6142⟩ => [(0, v2749), (1, .int .i64 ((i4955 : Nat) : Int)), (2, .int .i64 ((i4956 : Nat) : Int)), (6, .int .i64 z5515), (7, .int .i64 z6140)]) (fun ⟨z6140, xs6141, cs6142⟩ wx6143 => St w wx6143 [.row w.heap.size 3 (Rep.size Int) v2749 xs6141.length cs6142, .cells b36 [.int .u64 (u2750.toNat : Int), .int .i64 a0.fN, v0_1, .int .u64 (a1.toNat : Int), .int .i64 z2751] 74, .cells b15 [.int .u64 0] 37, .cells b5 [.int .i64 a0.fN, v0_1] 40] ∧ Tr wx5518 [.row w.heap.size 3 (Rep.size Int) v2749 xs5516.length cs5517, .cells b36 [.int .u64 (u2750.toNat : Int), .int .i64 a0.fN, v0_1, .int .u64 (a1.toNat : Int), .int .i64 z2751] 74, .cells b15 [.int .u64 0] 37, .cells b5 [.int .i64 a0.fN, v0_1] 40] wx6143 [.row w.heap.size 3 (Rep.size Int) v2749 xs6141.length cs6142, .cells b36 [.int .u64 (u2750.toNat : Int), .int .i64 a0.fN, v0_1, .int .u64 (a1.toNat : Int), .int .i64 z2751] 74, .cells b15 [.int .u64 0] 37, .cells b5 [.int .i64 a0.fN, v0_1] 40] ∧ Cells wx6143 (bl [.row w.heap.size 3 (Rep.size Int) v2749 xs6141.length cs6142, .cells b36 [.int .u64 (u2750.toNat : Int), .int .i64 a0.fN, v0_1, .int .u64 (a1.toNat : Int), .int .i64 z2751] 74, .cells b15 [.int .u64 0] 37, .cells b5 [.int .i64 a0.fN, v0_1] 40] ++ L) cs6142 xs6141) (fun ⟨z6140, xs6141, cs6142⟩ => (z6140, xs6141)) (z5515, xs5516, cs5517) ho6148 ⟨rfl, rfl, rfl, rfl, rfl, trivial⟩ ⟨hS5519, Tr.refl _ _, hc5518⟩ ?_
          rintro J6151 ⟨z6140, xs6141, cs6142⟩ wx6143 hJ6152 ⟨hS6144, hT6145, hc6143⟩ h
          unfold wilson_Draw_l5 at h
          try dsimp only at h
          refine MX.seq ?_
          refine MX.seq ?_
          refine MX.drawT 15 tb65_4 (by kernel_rfl) (by kernel_rfl) (by kernel_rfl) (fun kt6153 kp6154 => ?_)
          refine RD.vP 0 1 kt6153 rfl kp6154 .plain (fun _ => FV.move rfl) rfl ?_
          refine RD.vP 1 3 kt6153 rfl kp6154 .plain (fun _ => FV.move rfl) rfl ?_
          refine RD.vP 2 7 kt6153 rfl kp6154 .plain (fun _ => FV.gtr (i := z6140) (j := ((i4955 : Nat) : Int)) rfl rfl) rfl ?_
          refine RD.vP 3 15 kt6153 rfl kp6154 .plain (fun _ => FV.move rfl) rfl ?_
          refine RD.ifd (s := 19) rfl h (fun c6155 h => ?_) (fun c6155 h => ?_)
          ·skip
           refine RD.vP 4 31 kt6153 rfl kp6154 (.yes rfl rfl) (fun _ => FV.move rfl) rfl ?_
           refine RD.vP 5 63 kt6153 rfl kp6154 (.yes rfl rfl) (fun _ => FV.move rfl) rfl ?_
           obtain ⟨x6156, hx6156, h⟩ := bind_in h
           obtain ⟨hi6157, hx6158⟩ := idx_in hx6156
           obtain ⟨A6159, c6160, he6161, hk6162, cs6163, hr6164, hm6165⟩ := St.nth (α := Int) hS6144 .hd hc6143 hx6158
           obtain ⟨b6166, c6167, he6168⟩ := St.nthOwn (α := Int) hS6144 .hd hk6162
           obtain rfl : A6159 = ⟨b6166, 0, none⟩ := by rw [he6168] at he6161; cases he6161; rfl
           have he6169 : cs6163 = [.int .i64 x6156] := hr6164; subst he6169
           refine RD.vP 6 127 kt6153 rfl kp6154 (.yes rfl rfl) (fun _ => FV.idxAddr (m := 1) (i := z6140.toNat) (by kernel_rfl) rfl he6161 rfl hi6157 hk6162) rfl ?_
           refine RD.val (i := 7) (m' := 255) (W := 24576) (takeC_ok kt6153 (by kernel_rfl)) rfl kp6154 (.yes rfl rfl) (FV.load1 (by kernel_rfl) rfl (hm6165 0 _ rfl)) rfl ?_
           refine RD.vP 8 511 kt6153 rfl kp6154 (.yes rfl rfl) (fun _ => FV.move rfl) rfl ?_
           refine RD.vP 9 1023 kt6153 rfl kp6154 (.yes rfl rfl) (fun _ => FV.move rfl) rfl ?_
           obtain ⟨s6170, hs6170, h⟩ := bind_in h
           refine RD.vP 10 2047 kt6153 rfl kp6154 (.yes rfl rfl) (fun _ => FV.subc (i := z6140) (j := 1) rfl rfl hs6170) rfl ?_
           obtain ⟨x6171, hx6171, h⟩ := bind_in h
           obtain ⟨hi6172, hx6173⟩ := idx_in hx6171
           obtain ⟨A6174, c6175, he6176, hk6177, cs6178, hr6179, hm6180⟩ := St.nth (α := Int) hS6144 .hd hc6143 hx6173
           obtain ⟨b6181, c6182, he6183⟩ := St.nthOwn (α := Int) hS6144 .hd hk6177
           obtain rfl : A6174 = ⟨b6181, 0, none⟩ := by rw [he6183] at he6176; cases he6176; rfl
           have he6184 : cs6178 = [.int .i64 x6171] := hr6179; subst he6184
           refine RD.vP 11 4095 kt6153 rfl kp6154 (.yes rfl rfl) (fun _ => FV.idxAddr (m := 1) (i := s6170.toNat) (by kernel_rfl) rfl he6176 rfl hi6172 hk6177) rfl ?_
           refine RD.val (i := 12) (m' := 8191) (W := 24576) (takeC_ok kt6153 (by kernel_rfl)) rfl kp6154 (.yes rfl rfl) (FV.load1 (by kernel_rfl) rfl (hm6180 0 _ rfl)) rfl ?_
           obtain ⟨y6185, hy6185, h⟩ := bind_in h
           refine RD.callq (i := 13) (m' := 16383) (W := 16384) (takeC_ok kt6153 (by kernel_rfl)) rfl kp6154 (v := .bool y6185) (fst := []) (cap := []) (.yes rfl rfl) body71 rfl (evs_cons rfl (evs_cons rfl evs_nil)) (fun w9 hw9 => cmp_Less_int_c n _ w9 (hS6144.hL0 hL hw9) x6156 x6171 hy6185) rfl ?_
           refine RD.vP 14 32767 kt6153 rfl kp6154 .plain (fun _ => FV.pick_t rfl rfl) rfl ?_
           refine RD.done (doneD_ok kt6153 (by kernel_rfl)) ?_
           refine MX.ifb rfl h (fun c6186 h => ?_) (fun c6186 h => ?_)
           ·skip
            refine MX.skip ?_
            refine MX.seq ?_
            refine MX.block ?_
            refine MX.drawT 15 tb65_6 (by kernel_rfl) (by kernel_rfl) (by kernel_rfl) (fun kt6187 kp6188 => ?_)
            refine RD.vP 0 1 kt6187 rfl kp6188 .plain (fun _ => FV.move rfl) rfl ?_
            refine RD.vP 1 3 kt6187 rfl kp6188 .plain (fun _ => FV.move rfl) rfl ?_
            refine RD.vP 2 7 kt6187 rfl kp6188 .plain (fun _ => FV.move rfl) rfl ?_
            refine RD.vP 3 15 kt6187 rfl kp6188 .plain (fun _ => FV.move rfl) rfl ?_
            obtain ⟨s6189, hs6189, h⟩ := bind_in h
            refine RD.vP 4 31 kt6187 rfl kp6188 .plain (fun _ => FV.subc (i := z6140) (j := 1) rfl rfl hs6189) rfl ?_
            refine RD.vP 5 63 kt6187 rfl kp6188 .plain (fun _ => FV.move rfl) rfl ?_
            refine RD.vP 6 127 kt6187 rfl kp6188 .plain (fun _ => FV.move rfl) rfl ?_
            obtain ⟨s6190, hs6190, h⟩ := bind_in h
            refine RD.vP 7 255 kt6187 rfl kp6188 .plain (fun _ => FV.subc (i := z6140) (j := 1) rfl rfl hs6190) rfl ?_
            obtain ⟨x6191, hx6191, h⟩ := bind_in h
            obtain ⟨hi6192, hx6193⟩ := idx_in hx6191
            obtain ⟨A6194, c6195, he6196, hk6197, cs6198, hr6199, hm6200⟩ := St.nth (α := Int) hS6144 .hd hc6143 hx6193
            obtain ⟨b6201, c6202, he6203⟩ := St.nthOwn (α := Int) hS6144 .hd hk6197
            obtain rfl : A6194 = ⟨b6201, 0, none⟩ := by rw [he6203] at he6196; cases he6196; rfl
            have he6204 : cs6198 = [.int .i64 x6191] := hr6199; subst he6204
            refine RD.vP 8 511 kt6187 rfl kp6188 .plain (fun _ => FV.idxAddr (m := 1) (i := s6190.toNat) (by kernel_rfl) rfl he6196 rfl hi6192 hk6197) rfl ?_
            refine RD.val (i := 9) (m' := 1023) (W := 245760) (takeC_ok kt6187 (by kernel_rfl)) rfl kp6188 .plain (FV.load1 (by kernel_rfl) rfl (hm6200 0 _ rfl)) rfl ?_
            refine RD.vP 10 2047 kt6187 rfl kp6188 .plain (fun _ => FV.move rfl) rfl ?_
            refine RD.vP 11 4095 kt6187 rfl kp6188 .plain (fun _ => FV.move rfl) rfl ?_
            refine RD.vP 12 8191 kt6187 rfl kp6188 .plain (fun _ => FV.idxAddr (m := 1) (i := z6140.toNat) (by kernel_rfl) rfl he6161 rfl hi6157 hk6162) rfl ?_
            refine RD.val (i := 13) (m' := 16383) (W := 245760) (takeC_ok kt6187 (by kernel_rfl)) rfl kp6188 .plain (FV.load1 (by kernel_rfl) rfl (hm6165 0 _ rfl)) rfl ?_
            refine RD.vP 14 32767 kt6187 rfl kp6188 .plain (fun _ => FV.idxAddr (m := 1) (i := z6140.toNat) (by kernel_rfl) rfl he6161 rfl hi6157 hk6162) rfl ?_
            obtain ⟨xs6205, hxs6205, h⟩ := bind_in h
            refine RD.one (i := 15) (readyD_ok kt6187 (by kernel_rfl)) (RO.acts (m' := 65535) (stepC_ok kt6187 (by kernel_rfl)) rfl rfl .plain (Acts.set (α := Int) (i := z6140.toNat) (F := fun cs' => [.row w.heap.size 3 (Rep.size Int) v2749 xs6205.length cs', .cells b36 [.int .u64 (u2750.toNat : Int), .int .i64 a0.fN, v0_1, .int .u64 (a1.toNat : Int), .int .i64 z2751] 74, .cells b15 [.int .u64 0] 37, .cells b5 [.int .i64 a0.fN, v0_1] 40]) hxs6205 hS6144 he6168 (fun _ => .hd) hc6143 rfl rfl rfl rfl rfl (by kernel_rfl)) (fun w6206 ⟨cs6210, hS6207, hT6208, hc6209⟩ => ?_))
            obtain ⟨x6211, hx6211, h⟩ := bind_in h
            obtain ⟨hi6212, hx6213⟩ := idx_in hx6211
            obtain ⟨A6214, c6215, he6216, hk6217, cs6218, hr6219, hm6220⟩ := St.nth (α := Int) hS6207 .hd hc6209 hx6213
            obtain ⟨b6221, c6222, he6223⟩ := St.nthOwn (α := Int) hS6207 .hd hk6217
            obtain rfl : A6214 = ⟨b6221, 0, none⟩ := by rw [he6223] at he6216; cases he6216; rfl
            have he6224 : cs6218 = [.int .i64 x6211] := hr6219; subst he6224
            refine RD.one (i := 16) (readyD_ok kt6187 (by kernel_rfl)) (RO.val (m' := 131071) (stepC_ok kt6187 (by kernel_rfl)) rfl .plain rfl (FV.idxAddr (m := 1) (i := s6189.toNat) (by kernel_rfl) rfl he6216 rfl hi6212 hk6217) ?_)
            obtain ⟨xs6225, hxs6225, h⟩ := bind_in h
            refine RD.one (i := 17) (readyD_ok kt6187 (by kernel_rfl)) (RO.acts (m' := 262143) (stepC_ok kt6187 (by kernel_rfl)) rfl rfl .plain (Acts.set (α := Int) (i := s6189.toNat) (F := fun cs' => [.row w.heap.size 3 (Rep.size Int) v2749 xs6225.length cs', .cells b36 [.int .u64 (u2750.toNat : Int), .int .i64 a0.fN, v0_1, .int .u64 (a1.toNat : Int), .int .i64 z2751] 74, .cells b15 [.int .u64 0] 37, .cells b5 [.int .i64 a0.fN, v0_1] 40]) hxs6225 hS6207 he6223 (fun _ => .hd) hc6209 rfl rfl rfl rfl rfl (by kernel_rfl)) (fun w6226 ⟨cs6230, hS6227, hT6228, hc6229⟩ => ?_))
            refine RD.done (doneD_ok kt6187 (by kernel_rfl)) ?_
            refine MX.inBlock ?_
            refine MX.region ?_
            refine RG.val' .plain (FV.move rfl) rfl ?_
            obtain ⟨s6231, hs6231, h⟩ := bind_in h
            refine RG.val' .plain (FV.subc (i := z6140) (j := 1) rfl rfl hs6231) rfl ?_
            refine RG.val' .plain (FV.assign rfl) rfl ?_
            refine RG.nil ?_
            exact hJ6152 (s6231, xs6225, cs6230) _ _ ⟨rfl, rfl, rfl, rfl, rfl, trivial⟩ ⟨hS6227, (Tr.trans hT6145 (Tr.trans hT6208 hT6228)), hc6229⟩ h
           ·skip
            refine MX.exit rfl ?_
            have h := hh6150 _ h
            try dsimp only at h
            exact hJ5968 (xs6141, cs6142) _ _ ⟨rfl, rfl, rfl, rfl, trivial⟩ ⟨hS6144, hT6145, hc6143⟩ h
          ·skip
           refine RD.offs 16383 1 [(4, 20), (5, 21), (6, 22), (7, 23), (8, 24), (9, 25), (10, 26), (11, 27), (12, 28), (13, 29)] (F := [(19, false)]) (U := []) kt6153 kp6154 (.cons rfl .nil) .nil ?_
           dsimp only [offS, List.map]
           refine RD.vP 14 32767 kt6153 rfl kp6154 .plain (fun _ => FV.pick_f rfl rfl) rfl ?_
           refine RD.done (doneD_ok kt6153 (by kernel_rfl)) ?_
           refine MX.cond_f rfl ?_
           refine MX.exit rfl ?_
           have h := hh6150 _ h
           try dsimp only at h
           exact hJ5968 (xs6141, cs6142) _ _ ⟨rfl, rfl, rfl, rfl, trivial⟩ ⟨hS6144, hT6145, hc6143⟩ h
        ·skip
         refine MX.exit rfl ?_
         have h := hh5525 _ h
         try dsimp only at h
         refine MX.fin rfl ?_
         refine RT.leave (u := .tuple #[]) hb4969 Tryd.func65 rfl .nil rfl ?_
         refine RG.nil ?_
         refine MX.ret rfl ?_
         refine RT.leave (u := .tuple #[]) hb4116 Tryd.func35 rfl .nil rfl ?_
         refine RG.nil ?_
         refine MX.fin rfl ?_
         refine RT.leave (u := .tuple #[]) hb4109 Tryd.func17 rfl .nil rfl ?_
         refine RG.nil ?_
         refine MX.seq ?_
         refine MX.drawT 6 tb14_29 (by kernel_rfl) (by kernel_rfl) (by kernel_rfl) (fun kt6232 kp6233 => ?_)
         refine RD.vP 0 1 kt6232 rfl kp6233 .plain (fun _ => FV.move rfl) rfl ?_
         refine RD.vP 1 3 kt6232 rfl kp6233 .plain (fun _ => FV.move rfl) rfl ?_
         refine RD.vP 2 7 kt6232 rfl kp6233 .plain (fun _ => FV.nilCheck rfl) rfl ?_
         refine RD.vP 3 15 kt6232 rfl kp6233 .plain (fun _ => FV.fieldAddr (off := 0) (by kernel_rfl) rfl) rfl ?_
         refine RD.val (i := 4) (m' := 31) (W := 192) (takeC_ok kt6232 (by kernel_rfl)) rfl kp6233 .plain (FV.loadN (cs := [.int .u64 (u2750.toNat : Int)]) (by kernel_rfl) rfl (mem_part (hS5519.memA (.tl .hd)) 0 1)) rfl ?_
         refine RD.vP 5 63 kt6232 rfl kp6233 .plain (fun _ => FV.assign rfl) rfl ?_
         refine RD.one (i := 6) (readyD_ok kt6232 (by kernel_rfl)) (RO.now (m' := 127) (stepC_ok kt6232 (by kernel_rfl)) rfl rfl .plain (Acts.store (j := 0) (old := [.int .u64 0]) (news := [.int .u64 (u2750.toNat : Int)]) (new' := [.int .u64 (u2750.toNat : Int)]) hS5519 (.tl (.tl .hd)) rfl rfl rfl rfl rfl rfl (ones_cons rfl ones_nil) rfl) (fun w6234 hS6235 hT6236 => ?_))
         refine RD.one (i := 7) (readyD_ok kt6232 (by kernel_rfl)) (RO.val (m' := 255) (stepC_ok kt6232 (by kernel_rfl)) rfl .plain rfl (FV.assign rfl) ?_)
         refine RD.done (doneD_ok kt6232 (by kernel_rfl)) ?_
         refine MX.ret rfl ?_
         have hm6240 := Cells.mv hc5518 hT6236
         have hr6237 := St.freeze (α := Int) hS6235 .hd hm6240 hL
         have hS6238 := hS6235.del (.hd : Out _ _ _).del
         have hT6239 := Tr.del (w := w6234) (.hd : Out [.row w.heap.size 3 (Rep.size Int) v2749 xs5516.length cs5517, .cells b36 [.int .u64 (u2750.toNat : Int), .int .i64 a0.fN, v0_1, .int .u64 (a1.toNat : Int), .int .i64 z2751] 74, .cells b15 [.int .u64 (u2750.toNat : Int)] 37, .cells b5 [.int .i64 a0.fN, v0_1] 40] _ _).del
         have hr6241 : Rep.R w6234 (bl [.cells b36 [.int .u64 (u2750.toNat : Int), .int .i64 a0.fN, v0_1, .int .u64 (a1.toNat : Int), .int .i64 z2751] 74, .cells b15 [.int .u64 (u2750.toNat : Int)] 37, .cells b5 [.int .i64 a0.fN, v0_1] 40] ++ L) [v2749] xs5516 := hr6237
         refine RT.leave (u := .tuple #[v2749, .agg #[.int .u64 (u2750.toNat : Int)], .int .i64 0]) hb0 Tryd.func14 rfl (.cons (.tmp rfl) (.cons (.many (cs := [.int .u64 (u2750.toNat : Int)]) (by kernel_rfl) rfl (hS6238.memA (.tl .hd))) (.cons (.tmp rfl) .nil))) rfl ?_
         obtain rfl := Option.some.inj h
         exact ⟨hS6238.ag, fun w9 hw9 => ⟨v2749, rfl, Rep.keep0 (Rep.dropO (O := [.cells b36 [.int .u64 (u2750.toNat : Int), .int .i64 a0.fN, v0_1, .int .u64 (a1.toNat : Int), .int .i64 z2751] 74, .cells b15 [.int .u64 (u2750.toNat : Int)] 37, .cells b5 [.int .i64 a0.fN, v0_1] 40]) hr6241) hw9⟩⟩
       ·skip
        refine MX.skip ?_
        refine MX.seq ?_
        refine MX.seq ?_
        refine MX.region ?_
        refine RG.val' .plain (FV.move rfl) rfl ?_
        refine RG.val' .plain (FV.eql (i := z4957) (j := 0) rfl rfl) rfl ?_
        refine RG.nil ?_
        refine MX.ifd rfl h (fun c6242 h => ?_) (fun c6242 h => ?_)
        ·skip
         refine MX.seq ?_
         refine MX.region ?_
         refine RG.val' .plain (FV.move rfl) rfl ?_
         refine RG.val' .plain (FV.move rfl) rfl ?_
         refine RG.val' .plain (FV.move rfl) rfl ?_
         cases h
        ·skip
         refine MX.skip ?_
         refine MX.seq ?_
         refine MX.seq ?_
         refine MX.region ?_
         refine RG.val' .plain (FV.move rfl) rfl ?_
         refine RG.val' .plain (FV.not rfl) rfl ?_
         refine RG.nil ?_
         refine MX.ifnb rfl h (fun c6244 h => ?_) (fun c6244 h => ?_)
         ·skip
          refine MX.skip ?_
          refine MX.seq ?_
          refine MX.region ?_
          refine RG.val' .plain (FV.move rfl) rfl ?_
          refine RG.val' .plain (FV.move rfl) rfl ?_
          refine RG.val' .plain (FV.move rfl) rfl ?_
          cases h
         ·skip
          refine MX.seq ?_
          refine MX.region ?_
          refine RG.val' .plain (FV.move rfl) rfl ?_
          refine RG.val' .plain (FV.move rfl) rfl ?_
          refine RG.val' .plain (FV.move rfl) rfl ?_
          cases h
     ·skip
      refine MX.seq ?_
      refine MX.region ?_
      refine RG.val' .plain (FV.buildV (vs := []) (u := .agg #[.int .u64 0]) evs_nil (fun w9 => by kernel_rfl)) rfl ?_
      refine RG.val' .plain (FV.assign rfl) rfl ?_
      refine RG.now .plain (Acts.store (j := 0) (old := [.int .u64 0]) (news := [.int .u64 0]) (new' := [.int .u64 0]) hS13 .hd rfl rfl rfl rfl rfl rfl (ones_cons rfl ones_nil) rfl) (fun w6245 hS6246 hT6247 => ?_)
      refine RG.val' .plain (FV.assign rfl) rfl ?_
      refine RG.nil ?_
      refine MX.ret rfl ?_
      have hr6248 : Rep.R w6245 (bl [.cells b15 [.int .u64 0] 37, .cells b10 [.int .u64 (a2.fState.toNat : Int)] 37, .cells b5 [.int .i64 a0.fN, v0_1] 40] ++ L) [.slice none 0 0] ([] : List Int) := Rep.nilSlice _ _
      refine RT.leave (u := .tuple #[.slice none 0 0, .agg #[.int .u64 0], .int .i64 4]) hb0 Tryd.func14 rfl (.cons (.tmp rfl) (.cons (.many (cs := [.int .u64 0]) (by kernel_rfl) rfl (hS6246.memA .hd)) (.cons (.tmp rfl) .nil))) rfl ?_
      obtain rfl := Option.some.inj h
      have hr6249 : Rep.R w6245 (bl [.cells b15 [.int .u64 0] 37, .cells b10 [.int .u64 (a2.fState.toNat : Int)] 37, .cells b5 [.int .i64 a0.fN, v0_1] 40] ++ L) [.slice none 0 0] ([] : List Int) := Rep.nilSlice _ _
      exact ⟨hS6246.ag, fun w9 hw9 => ⟨(.slice none 0 0), rfl, Rep.keep0 (Rep.dropO (O := [.cells b15 [.int .u64 0] 37, .cells b10 [.int .u64 (a2.fState.toNat : Int)] 37, .cells b5 [.int .i64 a0.fN, v0_1] 40]) hr6249) hw9⟩⟩
    ·skip
     refine MX.seq ?_
     refine MX.region ?_
     refine RG.val' .plain (FV.buildV (vs := []) (u := .agg #[.int .u64 0]) evs_nil (fun w9 => by kernel_rfl)) rfl ?_
     refine RG.val' .plain (FV.assign rfl) rfl ?_
     refine RG.now .plain (Acts.store (j := 0) (old := [.int .u64 0]) (news := [.int .u64 0]) (new' := [.int .u64 0]) hS13 .hd rfl rfl rfl rfl rfl rfl (ones_cons rfl ones_nil) rfl) (fun w6250 hS6251 hT6252 => ?_)
     refine RG.val' .plain (FV.assign rfl) rfl ?_
     refine RG.nil ?_
     refine MX.ret rfl ?_
     have hr6253 : Rep.R w6250 (bl [.cells b15 [.int .u64 0] 37, .cells b10 [.int .u64 (a2.fState.toNat : Int)] 37, .cells b5 [.int .i64 a0.fN, v0_1] 40] ++ L) [.slice none 0 0] ([] : List Int) := Rep.nilSlice _ _
     refine RT.leave (u := .tuple #[.slice none 0 0, .agg #[.int .u64 0], .int .i64 2]) hb0 Tryd.func14 rfl (.cons (.tmp rfl) (.cons (.many (cs := [.int .u64 0]) (by kernel_rfl) rfl (hS6251.memA .hd)) (.cons (.tmp rfl) .nil))) rfl ?_
     obtain rfl := Option.some.inj h
     have hr6254 : Rep.R w6250 (bl [.cells b15 [.int .u64 0] 37, .cells b10 [.int .u64 (a2.fState.toNat : Int)] 37, .cells b5 [.int .i64 a0.fN, v0_1] 40] ++ L) [.slice none 0 0] ([] : List Int) := Rep.nilSlice _ _
     exact ⟨hS6251.ag, fun w9 hw9 => ⟨(.slice none 0 0), rfl, Rep.keep0 (Rep.dropO (O := [.cells b15 [.int .u64 0] 37, .cells b10 [.int .u64 (a2.fState.toNat : Int)] 37, .cells b5 [.int .i64 a0.fN, v0_1] 40]) hr6254) hw9⟩⟩
  ·skip
   refine MX.seq ?_
   refine MX.region ?_
   refine RG.val' .plain (FV.buildV (vs := []) (u := .agg #[.int .u64 0]) evs_nil (fun w9 => by kernel_rfl)) rfl ?_
   refine RG.val' .plain (FV.move rfl) rfl ?_
   refine RG.val' .plain (FV.assign rfl) rfl ?_
   refine RG.now .plain (Acts.store (j := 0) (old := [.int .u64 0]) (news := [.int .u64 0]) (new' := [.int .u64 0]) hS13 .hd rfl rfl rfl rfl rfl rfl (ones_cons rfl ones_nil) rfl) (fun w6255 hS6256 hT6257 => ?_)
   refine RG.val' .plain (FV.assign rfl) rfl ?_
   refine RG.nil ?_
   refine MX.ret rfl ?_
   have hr6258 : Rep.R w6255 (bl [.cells b15 [.int .u64 0] 37, .cells b10 [.int .u64 (a2.fState.toNat : Int)] 37, .cells b5 [.int .i64 a0.fN, v0_1] 40] ++ L) [.slice none 0 0] ([] : List Int) := Rep.nilSlice _ _
   refine RT.leave (u := .tuple #[.slice none 0 0, .agg #[.int .u64 0], .int .i64 y16]) hb0 Tryd.func14 rfl (.cons (.tmp rfl) (.cons (.many (cs := [.int .u64 0]) (by kernel_rfl) rfl (hS6256.memA .hd)) (.cons (.tmp rfl) .nil))) rfl ?_
   obtain rfl := Option.some.inj h
   have hr6259 : Rep.R w6255 (bl [.cells b15 [.int .u64 0] 37, .cells b10 [.int .u64 (a2.fState.toNat : Int)] 37, .cells b5 [.int .i64 a0.fN, v0_1] 40] ++ L) [.slice none 0 0] ([] : List Int) := Rep.nilSlice _ _
   exact ⟨hS6256.ag, fun w9 hw9 => ⟨(.slice none 0 0), rfl, Rep.keep0 (Rep.dropO (O := [.cells b15 [.int .u64 0] 37, .cells b10 [.int .u64 (a2.fState.toNat : Int)] 37, .cells b5 [.int .i64 a0.fN, v0_1] 40]) hr6259) hw9⟩⟩
def graph_has_p (n : Nat) (a0 : UInt64) (a1 : Int) : Option Bool :=
  (natOf a1).bind fun k1 => some (decide (((shrU a0 k1) &&& (1 : UInt64)) = (1 : UInt64)))
set_option maxRecDepth 4000 in
set_option maxHeartbeats 4000000 in
theorem graph_has_c (n : Nat) (L : List Nat) (w : World) (hL : ∀ b ∈ L, b < w.heap.size) (a0 : UInt64) (a1 : Int)  {r : Bool} (h : graph_has_p n a0 a1 = some r) :
    Calls Tryd.prog 43 #[.int .u64 (a0.toNat : Int), .int .i64 a1] w (Gives w fun w' u => u = .bool r) := by
  unfold graph_has_p at h
  have hS0 := St.start w
  refine MX.start Tryd.func43 rfl rfl rfl (fun _ cs0 hb0 => ?_)
  refine MX.seq ?_
  refine MX.region ?_
  refine RG.val' .plain (FV.assign rfl) rfl ?_
  refine RG.nil ?_
  refine MX.seq ?_
  refine MX.region ?_
  refine RG.val' .plain (FV.move rfl) rfl ?_
  refine RG.val' .plain (FV.move rfl) rfl ?_
  obtain ⟨k1, hk1, h⟩ := bind_in h
  refine RG.val' .plain (FV.shrI (a := a0) (i := a1) rfl rfl hk1) rfl ?_
  refine RG.val' .plain (FV.andU (a := shrU a0 k1) (b := (1 : UInt64)) rfl rfl) rfl ?_
  refine RG.val' .plain (FV.eqlU (a := (shrU a0 k1) &&& (1 : UInt64)) (b := (1 : UInt64)) rfl rfl) rfl ?_
  refine RG.val' .plain (FV.assign rfl) rfl ?_
  refine RG.nil ?_
  refine MX.ret rfl ?_
  refine RT.leave (u := .bool (decide (((shrU a0 k1) &&& (1 : UInt64)) = (1 : UInt64)))) hb0 Tryd.func43 rfl (.cons (.tmp rfl) .nil) rfl ?_
  obtain rfl := Option.some.inj h
  exact ⟨hS0.ag, fun w9 hw9 => rfl⟩
def math_bits_Mul64_p (n : Nat) (a0 : UInt64) (a1 : UInt64) : Option (UInt64 × UInt64) :=
  (some (((shrU a0 32) * (a1 &&& (4294967295 : UInt64))) + (shrU ((a0 &&& (4294967295 : UInt64)) * (a1 &&& (4294967295 : UInt64))) 32))).bind fun u1 => (some (shrU ((u1 &&& (4294967295 : UInt64)) + ((a0 &&& (4294967295 : UInt64)) * (shrU a1 32))) 32)).bind fun u2 => some ((((shrU a0 32) * (shrU a1 32)) + (shrU u1 32)) + u2, a0 * a1)
set_option maxRecDepth 4000 in
set_option maxHeartbeats 4000000 in
theorem math_bits_Mul64_c (n : Nat) (L : List Nat) (w : World) (hL : ∀ b ∈ L, b < w.heap.size) (a0 : UInt64) (a1 : UInt64)  {r : UInt64 × UInt64} (h : math_bits_Mul64_p n a0 a1 = some r) :
    Calls Tryd.prog 94 #[.int .u64 (a0.toNat : Int), .int .u64 (a1.toNat : Int)] w (Gives w fun w' u => u = .tuple #[.int .u64 (r.1.toNat : Int), .int .u64 (r.2.toNat : Int)]) := by
  unfold math_bits_Mul64_p at h
  have hS0 := St.start w
  refine MX.start Tryd.func94 rfl rfl rfl (fun _ cs0 hb0 => ?_)
  refine MX.seq ?_
  refine MX.region ?_
  refine RG.val' .plain (FV.assign rfl) rfl ?_
  refine RG.val' .plain (FV.assign rfl) rfl ?_
  refine RG.nil ?_
  refine MX.seq ?_
  refine MX.region ?_
  refine RG.val' .plain (FV.move rfl) rfl ?_
  refine RG.val' .plain (FV.andU (a := a0) (b := (4294967295 : UInt64)) rfl rfl) rfl ?_
  refine RG.val' .plain (FV.assign rfl) rfl ?_
  refine RG.nil ?_
  refine MX.seq ?_
  refine MX.region ?_
  refine RG.val' .plain (FV.move rfl) rfl ?_
  refine RG.val' .plain (FV.shrU (a := a0) (j := 32) rfl rfl) rfl ?_
  refine RG.val' .plain (FV.assign rfl) rfl ?_
  refine RG.nil ?_
  refine MX.seq ?_
  refine MX.region ?_
  refine RG.val' .plain (FV.move rfl) rfl ?_
  refine RG.val' .plain (FV.andU (a := a1) (b := (4294967295 : UInt64)) rfl rfl) rfl ?_
  refine RG.val' .plain (FV.assign rfl) rfl ?_
  refine RG.nil ?_
  refine MX.seq ?_
  refine MX.region ?_
  refine RG.val' .plain (FV.move rfl) rfl ?_
  refine RG.val' .plain (FV.shrU (a := a1) (j := 32) rfl rfl) rfl ?_
  refine RG.val' .plain (FV.assign rfl) rfl ?_
  refine RG.nil ?_
  refine MX.seq ?_
  refine MX.region ?_
  refine RG.val' .plain (FV.move rfl) rfl ?_
  refine RG.val' .plain (FV.move rfl) rfl ?_
  refine RG.val' .plain (FV.mulU (a := a0 &&& (4294967295 : UInt64)) (b := a1 &&& (4294967295 : UInt64)) rfl rfl) rfl ?_
  refine RG.val' .plain (FV.assign rfl) rfl ?_
  refine RG.nil ?_
  refine MX.seq ?_
  refine MX.region ?_
  refine RG.val' .plain (FV.move rfl) rfl ?_
  refine RG.val' .plain (FV.move rfl) rfl ?_
  refine RG.val' .plain (FV.mulU (a := shrU a0 32) (b := a1 &&& (4294967295 : UInt64)) rfl rfl) rfl ?_
  refine RG.val' .plain (FV.move rfl) rfl ?_
  refine RG.val' .plain (FV.shrU (a := (a0 &&& (4294967295 : UInt64)) * (a1 &&& (4294967295 : UInt64))) (j := 32) rfl rfl) rfl ?_
  obtain ⟨u1, hu1, h⟩ := bind_in h
  refine RG.val' .plain (FV.as (FV.addU (a := (shrU a0 32) * (a1 &&& (4294967295 : UInt64))) (b := shrU ((a0 &&& (4294967295 : UInt64)) * (a1 &&& (4294967295 : UInt64))) 32) rfl rfl) (congrArg (fun z : UInt64 => Value.int .u64 (z.toNat : Int)) (Option.some.inj hu1))) rfl ?_
  refine RG.val' .plain (FV.assign rfl) rfl ?_
  refine RG.nil ?_
  refine MX.seq ?_
  refine MX.region ?_
  refine RG.val' .plain (FV.move rfl) rfl ?_
  refine RG.val' .plain (FV.andU (a := u1) (b := (4294967295 : UInt64)) rfl rfl) rfl ?_
  refine RG.val' .plain (FV.assign rfl) rfl ?_
  refine RG.nil ?_
  refine MX.seq ?_
  refine MX.region ?_
  refine RG.val' .plain (FV.move rfl) rfl ?_
  refine RG.val' .plain (FV.shrU (a := u1) (j := 32) rfl rfl) rfl ?_
  refine RG.val' .plain (FV.assign rfl) rfl ?_
  refine RG.nil ?_
  refine MX.seq ?_
  refine MX.region ?_
  refine RG.val' .plain (FV.move rfl) rfl ?_
  refine RG.val' .plain (FV.move rfl) rfl ?_
  refine RG.val' .plain (FV.move rfl) rfl ?_
  refine RG.val' .plain (FV.mulU (a := a0 &&& (4294967295 : UInt64)) (b := shrU a1 32) rfl rfl) rfl ?_
  refine RG.val' .plain (FV.addU (a := u1 &&& (4294967295 : UInt64)) (b := (a0 &&& (4294967295 : UInt64)) * (shrU a1 32)) rfl rfl) rfl ?_
  refine RG.val' .plain (FV.assign rfl) rfl ?_
  refine RG.nil ?_
  refine MX.seq ?_
  refine MX.region ?_
  refine RG.val' .plain (FV.move rfl) rfl ?_
  refine RG.val' .plain (FV.move rfl) rfl ?_
  refine RG.val' .plain (FV.mulU (a := shrU a0 32) (b := shrU a1 32) rfl rfl) rfl ?_
  refine RG.val' .plain (FV.move rfl) rfl ?_
  refine RG.val' .plain (FV.addU (a := (shrU a0 32) * (shrU a1 32)) (b := shrU u1 32) rfl rfl) rfl ?_
  refine RG.val' .plain (FV.move rfl) rfl ?_
  obtain ⟨u2, hu2, h⟩ := bind_in h
  refine RG.val' .plain (FV.as (FV.shrU (a := (u1 &&& (4294967295 : UInt64)) + ((a0 &&& (4294967295 : UInt64)) * (shrU a1 32))) (j := 32) rfl rfl) (congrArg (fun z : UInt64 => Value.int .u64 (z.toNat : Int)) (Option.some.inj hu2))) rfl ?_
  refine RG.val' .plain (FV.addU (a := ((shrU a0 32) * (shrU a1 32)) + (shrU u1 32)) (b := u2) rfl rfl) rfl ?_
  refine RG.val' .plain (FV.assign rfl) rfl ?_
  refine RG.nil ?_
  refine MX.seq ?_
  refine MX.region ?_
  refine RG.val' .plain (FV.move rfl) rfl ?_
  refine RG.val' .plain (FV.move rfl) rfl ?_
  refine RG.val' .plain (FV.mulU (a := a0) (b := a1) rfl rfl) rfl ?_
  refine RG.val' .plain (FV.assign rfl) rfl ?_
  refine RG.nil ?_
  refine MX.ret rfl ?_
  refine RT.leave (u := .tuple #[.int .u64 (((((shrU a0 32) * (shrU a1 32)) + (shrU u1 32)) + u2).toNat : Int), .int .u64 ((a0 * a1).toNat : Int)]) hb0 Tryd.func94 rfl (.cons (.tmp rfl) (.cons (.tmp rfl) .nil)) rfl ?_
  obtain rfl := Option.some.inj h
  exact ⟨hS0.ag, fun w9 hw9 => rfl⟩
theorem body94 : bodyB Tryd.prog 94 = true := by kernel_rfl
def math_bits_Mul_p (n : Nat) (a0 : UInt64) (a1 : UInt64) : Option (UInt64 × UInt64) :=
  (math_bits_Mul64_p n a0 a1).bind fun y1 => some (y1.1, y1.2)
set_option maxRecDepth 4000 in
set_option maxHeartbeats 4000000 in
theorem math_bits_Mul_c (n : Nat) (L : List Nat) (w : World) (hL : ∀ b ∈ L, b < w.heap.size) (a0 : UInt64) (a1 : UInt64)  {r : UInt64 × UInt64} (h : math_bits_Mul_p n a0 a1 = some r) :
    Calls Tryd.prog 75 #[.int .u64 (a0.toNat : Int), .int .u64 (a1.toNat : Int)] w (Gives w fun w' u => u = .tuple #[.int .u64 (r.1.toNat : Int), .int .u64 (r.2.toNat : Int)]) := by
  unfold math_bits_Mul_p at h
  have hS0 := St.start w
  refine MX.start Tryd.func75 rfl rfl rfl (fun _ cs0 hb0 => ?_)
  refine MX.seq ?_
  refine MX.region ?_
  refine RG.val' .plain (FV.assign rfl) rfl ?_
  refine RG.val' .plain (FV.assign rfl) rfl ?_
  refine RG.nil ?_
  refine MX.seq ?_
  refine MX.cond_f rfl ?_
  refine MX.skip ?_
  refine MX.seq ?_
  refine MX.region ?_
  refine RG.val' .plain (FV.move rfl) rfl ?_
  refine RG.val' .plain (FV.move rfl) rfl ?_
  obtain ⟨y1, hy1, h⟩ := bind_in h
  refine RG.callq' (v := .tuple #[.int .u64 (y1.1.toNat : Int), .int .u64 (y1.2.toNat : Int)]) (fst := []) (cap := []) .plain body94 rfl (evs_cons rfl (evs_cons rfl evs_nil)) (fun w9 hw9 => math_bits_Mul64_c n _ w9 (hS0.hL0 hL hw9) a0 a1 hy1) rfl ?_
  refine RG.val' .plain (FV.move rfl) rfl ?_
  refine RG.val' .plain (FV.extract rfl rfl) rfl ?_
  refine RG.val' .plain (FV.extract rfl rfl) rfl ?_
  refine RG.val' .plain (FV.assign rfl) rfl ?_
  refine RG.val' .plain (FV.assign rfl) rfl ?_
  refine RG.nil ?_
  refine MX.seq ?_
  refine MX.region ?_
  refine RG.val' .plain (FV.move rfl) rfl ?_
  refine RG.val' .plain (FV.move rfl) rfl ?_
  refine RG.val' .plain (FV.assign rfl) rfl ?_
  refine RG.val' .plain (FV.assign rfl) rfl ?_
  refine RG.nil ?_
  refine MX.ret rfl ?_
  refine RT.leave (u := .tuple #[.int .u64 (y1.1.toNat : Int), .int .u64 (y1.2.toNat : Int)]) hb0 Tryd.func75 rfl (.cons (.tmp rfl) (.cons (.tmp rfl) .nil)) rfl ?_
  obtain rfl := Option.some.inj h
  exact ⟨hS0.ag, fun w9 hw9 => rfl⟩
end Go.Proofs.YtplkfbljncfdnaaDoor
