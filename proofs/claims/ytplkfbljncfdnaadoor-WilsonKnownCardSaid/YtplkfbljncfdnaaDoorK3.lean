/- Functions of the program, and what they give: part 3. -/
import Derived.Test.YtplkfbljncfdnaaDoorK2
namespace Go.Proofs.YtplkfbljncfdnaaDoor
open Go Go.RowKit

structure Twalker where
  fChance : TChance
  fgraph : TGraph
  fset : UInt64
  fleft : Int
  deriving DecidableEq
instance : Rep Twalker := Rep.via (β := TChance × TGraph × UInt64 × Int) fun x => (x.fChance, x.fgraph, x.fset, x.fleft)
def tb14_24 : List (Nat × Nat × Nat) := [(0, 2475880078570760549798248448, 262144), (0, 4951760157141521099596496896, 32768), (0, 9903520314283042199192993792, 131072), (4, 19807040628566084398385987584, 9903520314283042199192993792), (10, 39614081257132168796771975168, 24758800785707605497982484480), (16, 79228162514264337593543950336, 39614081257132168796771975168), (33, 158456325028528675187087900672, 81704042592835098143342198784), (0, 316912650057057350374175801344, 262144), (0, 633825300114114700748351602688, 32768), (0, 1267650600228229401496703205376, 131072), (512, 2535301200456458802993406410752, 1267650600228229401496703205376), (1280, 5070602400912917605986812821504, 3169126500570573503741758013440), (2048, 10141204801825835211973625643008, 5070602400912917605986812821504), (4224, 20282409603651670423947251286016, 10458117451882892562347801444352), (8256, 40564819207303340847894502572032, 20440865928680199099134339186688), (0, 524288, 0), (65535, 0, 40564819207303340847894503096320)]
def tb14_29 : List (Nat × Nat × Nat) := [(0, 166153499473114484112975882535043072, 64), (0, 332306998946228968225951765070086144, 4096), (2, 664613997892457936451903530140172288, 332306998946228968225951765070086144), (4, 1329227995784915872903807060280344576, 664613997892457936451903530140172288), (8, 2658455991569831745807614120560689152, 1329227995784915872903807060280344576), (1, 64, 166153499473114484112975882535043072), (63, 0, 2658455991569831745807614120560689280), (127, 256, 0)]
def tb35_17 : List (Nat × Nat × Nat) := [(0, 9444732965739290427392, 2), (1, 18889465931478580854784, 9444732965739290427392), (2, 37778931862957161709568, 18889465931478580854784), (4, 75557863725914323419136, 37778931862957161709569), (4, 151115727451828646838272, 37778931862957161709570), (20, 302231454903657293676544, 188894659314785808547840), (44, 604462909807314587353088, 415568250492528778805248), (68, 1208925819614629174706176, 642241841670271749062656), (4, 2417851639229258349412352, 37778931862957161709569), (4, 4835703278458516698824704, 37778931862957161711616), (772, 9671406556917033397649408, 7291333849550732209946624), (1028, 19342813113834066795298816, 9709185488779990559358976), (2180, 38685626227668133590597632, 20589517865311653131714560), (4100, 77371252455336267181195264, 38723405159531090752307200), (8196, 154742504910672534362390528, 77409031387199224342904832)]
theorem body16 : bodyB Tryd.prog 16 = true := by kernel_rfl
theorem body17 : bodyB Tryd.prog 17 = true := by kernel_rfl
theorem body26 : bodyB Tryd.prog 26 = true := by kernel_rfl
theorem body29 : bodyB Tryd.prog 29 = true := by kernel_rfl
theorem body33 : bodyB Tryd.prog 33 = true := by kernel_rfl
theorem body34 : bodyB Tryd.prog 34 = true := by kernel_rfl
theorem body61 : bodyB Tryd.prog 61 = true := by kernel_rfl
theorem body62 : bodyB Tryd.prog 62 = true := by kernel_rfl
theorem body63 : bodyB Tryd.prog 63 = true := by kernel_rfl
theorem body64 : bodyB Tryd.prog 64 = true := by kernel_rfl
theorem body68 : bodyB Tryd.prog 68 = true := by kernel_rfl
theorem body70 : bodyB Tryd.prog 70 = true := by kernel_rfl
theorem body85 : bodyB Tryd.prog 85 = true := by kernel_rfl
theorem body86 : bodyB Tryd.prog 86 = true := by kernel_rfl
def wilson_Draw_l1 (n : Nat) (y3441 : List Int) (a0 : TGraph) (J3679 : UInt64 × Nat × (List Int) → Option (UInt64 × (List Int))) : UInt64 × Nat × (List Int) → Option (UInt64 × (List Int))
  | (u3666, i3667, xs3668) => (if i3667 < y3441.length then (y3441[i3667]?).bind fun x3682 => (natOf x3682).bind fun k3692 => jn (fun xs3730 => J3679 (u3666 ||| (shlU (1 : UInt64) k3692), i3667 + 1, xs3730)) (fun J3737 => (if 0 < i3667 then (y3441[i3667 - 1]?).bind fun x3742 => (slices_Index_2_int_2_int_p n a0.fEdges (min x3682 x3742, max x3682 x3742)).bind fun y3759 => (app xs3668 ([y3759] : List Int)).bind fun xs3767 => J3737 xs3767 else J3737 xs3668)) else some (u3666, xs3668))
def wilson_Draw_l2 (n : Nat) (J4007 : UInt64 × (List Int) → Option (List Int)) : UInt64 × (List Int) → Option (List Int)
  | (u3995, xs3996) => (if u3995 = (0 : UInt64) then some xs3996 else (math_bits_TrailingZeros64_p n u3995).bind fun y4079 => (app xs3996 ([y4079] : List Int)).bind fun xs4091 => J4007 (u3995 &&& (u3995 - (1 : UInt64)), xs4091))
def wilson_Draw_l3 (_n : Nat) (a0 : TGraph) (z3423 : Int) (J3882 : UInt64 × Nat → Option UInt64) : UInt64 × Nat → Option UInt64
  | (u3873, i3874) => (if i3874 < a0.fEdges.length then (a0.fEdges[i3874]?).bind fun x3885 => (if x3885.1 = z3423 then (chk (x3885.1 + x3885.2)).bind fun s3903 => (chk (s3903 - z3423)).bind fun s3904 => (natOf s3904).bind fun k3905 => J3882 (u3873 ||| (shlU (1 : UInt64) k3905), i3874 + 1) else jn (fun u3912 => J3882 (u3912, i3874 + 1)) (fun J3916 => (if x3885.2 = z3423 then (chk (x3885.1 + x3885.2)).bind fun s3919 => (chk (s3919 - z3423)).bind fun s3920 => (natOf s3920).bind fun k3921 => J3916 (u3873 ||| (shlU (1 : UInt64) k3921)) else J3916 u3873))) else some u3873)
def wilson_Draw_l4 (n : Nat) (u2744 : UInt64) (a0 : TGraph) (a1 : UInt64) (J3437 : Int × (List Int) × UInt64 × Int → Option ((((List Int) × TChance × Int) ⊕ ((List Int) × UInt64)) ⊕ ((List Int) × UInt64 × Int))) : Int × (List Int) × UInt64 × Int → Option ((((List Int) × TChance × Int) ⊕ ((List Int) × UInt64)) ⊕ ((List Int) × UInt64 × Int))
  | (z3423, xs3424, u3428, z3429) => (natOf z3423).bind fun k3439 => (if ((shrU u2744 k3439) &&& (1 : UInt64)) = (1 : UInt64) then some (.inr (xs3424, u3428, z3429)) else (if z3429 = 0 then some (.inl (.inl (([] : List Int), (⟨(0 : UInt64)⟩ : TChance), 9))) else (chk (z3429 - 1)).bind fun s3786 => Option.bind (loopF (wilson_Draw_l3 n a0 z3423) n ((0 : UInt64), 0)) (fun u3873 => Option.bind (loopF (wilson_Draw_l2 n) n (u3873 &&& a1, ([] : List Int))) (fun xs3996 => (chance_Below_p n (⟨u3428⟩ : TChance) ((xs3996.length : Nat) : Int)).bind fun y4028 => (if y4028.2.2 = 0 then (idx xs3996 y4028.1).bind fun x4041 => (app xs3424 ([x4041] : List Int)).bind fun xs4062 => J3437 (x4041, xs4062, y4028.2.1.fState, s3786) else some (.inl (.inl (([] : List Int), (⟨(0 : UInt64)⟩ : TChance), y4028.2.2))))))))
def wilson_Draw_l5 (n : Nat) (i5060 : Nat) (J6256 : Int × (List Int) → Option (List Int)) : Int × (List Int) → Option (List Int)
  | (z6245, xs6246) => (if ((i5060 : Nat) : Int) < z6245 then (idx xs6246 z6245).bind fun x6261 => (chk (z6245 - 1)).bind fun s6275 => (idx xs6246 s6275).bind fun x6276 => (cmp_Less_int_p n x6261 x6276).bind fun y6290 => (if y6290 = true then (chk (z6245 - 1)).bind fun s6294 => (chk (z6245 - 1)).bind fun s6295 => (idx xs6246 s6295).bind fun x6296 => (put xs6246 ((z6245.toNat : Nat) : Int) x6296).bind fun xs6310 => (idx xs6310 s6294).bind fun x6316 => (put xs6310 ((s6294.toNat : Nat) : Int) x6261).bind fun xs6330 => (chk (z6245 - 1)).bind fun s6336 => J6256 (s6336, xs6330) else some xs6246) else some xs6246)
def wilson_Draw_l6 (n : Nat) (i5061 : Nat) (i5060 : Nat) (J5631 : Int × (List Int) → Option (List Int)) : Int × (List Int) → Option (List Int)
  | (z5620, xs5621) => (if z5620 < ((i5061 : Nat) : Int) then jn (fun xs6066 => (chk (z5620 + 1)).bind fun s6074 => J5631 (s6074, xs6066)) (fun J6072 => Option.bind (loopF (wilson_Draw_l5 n i5060) n (z5620, xs5621)) (J6072)) else some xs5621)
def wilson_Draw_l7 (n : Nat) (xs2746 : List Int) (u2750 : UInt64) (_J5070 : Nat × Nat × Int × Bool × Bool → Option ((List Int) × TChance × Int)) : Nat × Nat × Int × Bool × Bool → Option ((List Int) × TChance × Int)
  | (i5060, i5061, z5062, q5063, q5064) => (chk (((i5061 : Nat) : Int) - ((i5060 : Nat) : Int))).bind fun s5072 => (if s5072 ≤ 12 then (chk (((i5060 : Nat) : Int) + 1)).bind fun s5076 => Option.bind (loopF (wilson_Draw_l6 n i5061 i5060) n (s5076, xs2746)) (fun xs5621 => some (xs5621, (⟨u2750⟩ : TChance), 0)) else (if z5062 = 0 then none else (if q5063 = true then (slices_choosePivotOrdered_int_p n xs2746 ((i5060 : Nat) : Int) ((i5061 : Nat) : Int)).bind fun y6350 => (if y6350.2 = 2 then none else (if q5064 = true then jn (fun (_ : Unit) => (if 0 < i5060 then (chk (((i5060 : Nat) : Int) - 1)).bind fun s6376 => (idx xs2746 s6376).bind fun x6377 => (idx xs2746 y6350.1).bind fun x6392 => (cmp_Less_int_p n x6377 x6392).bind fun y6406 => (if y6406 = true then none else none) else none)) (fun J6371 => (if y6350.2 = 1 then (slices_partialInsertionSortOrdered_int_p n xs2746 ((i5060 : Nat) : Int) ((i5061 : Nat) : Int)).bind fun y6409 => (if y6409 = true then some (xs2746, (⟨u2750⟩ : TChance), 0) else J6371 ()) else J6371 ())) else (if 0 < i5060 then (chk (((i5060 : Nat) : Int) - 1)).bind fun s6424 => (idx xs2746 s6424).bind fun x6425 => (idx xs2746 y6350.1).bind fun x6439 => (cmp_Less_int_p n x6425 x6439).bind fun y6453 => (if y6453 = true then none else none) else none))) else none)))
def wilson_Draw_l8 (n : Nat) (a0 : TGraph) (a1 : UInt64) (J2759 : UInt64 × Int × (List Int) × UInt64 × Int → Option (((List Int) × TChance × Int) ⊕ ((List Int) × UInt64))) : UInt64 × Int × (List Int) × UInt64 × Int → Option (((List Int) × TChance × Int) ⊕ ((List Int) × UInt64))
  | (u2744, z2745, xs2746, u2750, z2751) => (if z2745 < a0.fN then (natOf z2745).bind fun k2762 => (if ((shrU (a1 &&& ~~~u2744) k2762) &&& (1 : UInt64)) = (0 : UInt64) then (chk (z2745 + 1)).bind fun s2764 => J2759 (u2744, s2764, xs2746, u2750, z2751) else thn (loopF (wilson_Draw_l4 n u2744 a0 a1) n (z2745, ([z2745] : List Int), u2750, z2751)) (fun (xs3424, u3428, z3429) => (wilson_erased_p n xs3424).bind fun y3441 => Option.bind (loopF (wilson_Draw_l1 n y3441 a0) n (u2744, 0, xs2746)) (fun (u3666, xs3668) => (chk (z2745 + 1)).bind fun s3779 => J2759 (u3666, s3779, xs3668, u3428, z3429)))) else some (.inr (xs2746, u2750)))
def wilson_Draw_p (n : Nat) (a0 : TGraph) (a1 : UInt64) (a2 : TChance) : Option ((List Int) × TChance × Int) :=
  (graph_Check_p n a0).bind fun y16 => (if y16 = 0 then (if a1 = (0 : UInt64) then some (([] : List Int), (⟨(0 : UInt64)⟩ : TChance), 2) else (wilson_fits_p n a0 a1).bind fun y25 => (if y25 = true then (graph_Connected_p n a0 a1).bind fun y27 => (if y27.1 = true then thn (loopF (wilson_Draw_l8 n a0 a1) n (a1 &&& (-a1), 0, ([] : List Int), a2.fState, 10000)) (fun (xs2746, u2750) => (math_bits_Len_p n (u64of ((xs2746.length : Nat) : Int))).bind fun y4115 => loopF (wilson_Draw_l7 n xs2746 u2750) n (0, xs2746.length, y4115, true, true)) else some (([] : List Int), (⟨(0 : UInt64)⟩ : TChance), 4)) else some (([] : List Int), (⟨(0 : UInt64)⟩ : TChance), 2))) else some (([] : List Int), (⟨(0 : UInt64)⟩ : TChance), y16))
set_option maxRecDepth 4000 in
set_option maxHeartbeats 4000000 in
theorem wilson_Draw_c (n : Nat) (L : List Nat) (w : World) (hL : ∀ b ∈ L, b < w.heap.size) (a0 : TGraph) {v0_1 : Value} (h0_1 : Rep.R w L [v0_1] a0.fEdges) (a1 : UInt64) (a2 : TChance) (hG0 : Glob 0 tab0 w)  {r : (List Int) × TChance × Int} (h : wilson_Draw_p n a0 a1 a2 = some r) :
    Calls Tryd.prog 14 #[.agg #[.int .i64 a0.fN, v0_1], .int .u64 (a1.toNat : Int), .agg #[.int .u64 (a2.fState.toNat : Int)]] w (Gives w fun w' u => ∃ v0_0 : Value, u = .tuple #[v0_0, .agg #[.int .u64 (r.2.1.fState.toNat : Int)], .int .i64 r.2.2] ∧ Rep.R w' L [v0_0] r.1) := by
  unfold wilson_Draw_p at h
  have hS0 := St.start w
  refine MX.start Tryd.func14 rfl rfl rfl (fun _ cs0 hb0 => ?_)
  refine MX.seq ?_
  refine MX.region ?_
  refine RG.new .plain rfl (Does.box (vs := [.int .i64 a0.fN, v0_1]) hS0 rfl rfl) (fun w2 b5 hS3 hT4 => ?_)
  refine RG.new .plain rfl (Does.box (vs := [.int .u64 (a2.fState.toNat : Int)]) hS3 rfl rfl) (fun w7 b10 hS8 hT9 => ?_)
  refine RG.val' .plain (FV.assign rfl) rfl ?_
  refine RG.new .plain rfl (Does.alloc (zs := [.int .u64 0]) hS8 (zB (by kernel_rfl))) (fun w12 b15 hS13 hT14 => ?_)
  refine RG.val' .plain (FV.assign rfl) rfl ?_
  refine RG.nil ?_
  refine MX.seq ?_
  refine MX.seq ?_
  refine MX.region ?_
  refine RG.val' .plain (FV.loadN (cs := [.int .i64 a0.fN, v0_1]) (by kernel_rfl) rfl (hS13.memA (.tl (.tl .hd)))) rfl ?_
  obtain ⟨y16, hy16, h⟩ := bind_in h
  have hm17 := Rep.mv h0_1 (Tr.trans hT4 (Tr.trans hT9 hT14))
  refine RG.callq' (v := .int .i64 y16) (fst := []) (cap := []) .plain body32 rfl (evs_cons rfl evs_nil) (fun w9 hw9 => graph_Check_c n _ w9 (hS13.hL0 hL hw9) a0 (Rep.keep0 (Rep.dropO (O := [.cells b15 [.int .u64 0] 37, .cells b10 [.int .u64 (a2.fState.toNat : Int)] 37, .cells b5 [.int .i64 a0.fN, v0_1] 40]) hm17) hw9) hy16) rfl ?_
  refine RG.val' .plain (FV.assign rfl) rfl ?_
  refine RG.nil ?_
  refine MX.seq ?_
  refine MX.region ?_
  refine RG.val' .plain (FV.move rfl) rfl ?_
  refine RG.val' .plain (FV.neq (i := y16) (j := 0) rfl rfl) rfl ?_
  refine RG.nil ?_
  refine MX.ifn rfl h (fun c18 h => ?_) (fun c18 h => ?_)
  ·skip
   refine MX.skip ?_
   refine MX.seq ?_
   refine MX.seq ?_
   refine MX.region ?_
   refine RG.val' .plain (FV.move rfl) rfl ?_
   refine RG.val' .plain (FV.eqlU (a := a1) (b := (0 : UInt64)) rfl rfl) rfl ?_
   refine RG.val' .plain (FV.move rfl) rfl ?_
   refine RG.ifd (s := 28) rfl h (fun c19 h => ?_) (fun c19 h => ?_)
   ·skip
    refine RG.off (.no rfl rfl) rfl ?_
    refine RG.off (.no rfl rfl) rfl ?_
    refine RG.off (.no rfl rfl) rfl ?_
    refine RG.off (.no rfl rfl) rfl ?_
    refine RG.val' .plain (FV.pick_t rfl rfl) rfl ?_
    refine RG.nil ?_
    refine MX.cond_t rfl ?_
    refine MX.seq ?_
    refine MX.region ?_
    refine RG.val' .plain (FV.buildV (vs := []) (u := .agg #[.int .u64 0]) evs_nil (fun w9 => by kernel_rfl)) rfl ?_
    refine RG.val' .plain (FV.assign rfl) rfl ?_
    refine RG.now .plain (Acts.store (j := 0) (old := [.int .u64 0]) (news := [.int .u64 0]) (new' := [.int .u64 0]) hS13 .hd rfl rfl rfl rfl rfl rfl (ones_cons rfl ones_nil) rfl) (fun w20 hS21 hT22 => ?_)
    refine RG.val' .plain (FV.assign rfl) rfl ?_
    refine RG.nil ?_
    refine MX.ret rfl ?_
    have hr23 : Rep.R w20 (bl [.cells b15 [.int .u64 0] 37, .cells b10 [.int .u64 (a2.fState.toNat : Int)] 37, .cells b5 [.int .i64 a0.fN, v0_1] 40] ++ L) [.slice none 0 0] ([] : List Int) := Rep.nilSlice _ _
    refine RT.leave (u := .tuple #[.slice none 0 0, .agg #[.int .u64 0], .int .i64 2]) hb0 Tryd.func14 rfl (.cons (.tmp rfl) (.cons (.many (cs := [.int .u64 0]) (by kernel_rfl) rfl (hS21.memA .hd)) (.cons (.tmp rfl) .nil))) rfl ?_
    obtain rfl := Option.some.inj h
    have hr24 : Rep.R w20 (bl [.cells b15 [.int .u64 0] 37, .cells b10 [.int .u64 (a2.fState.toNat : Int)] 37, .cells b5 [.int .i64 a0.fN, v0_1] 40] ++ L) [.slice none 0 0] ([] : List Int) := Rep.nilSlice _ _
    exact ⟨hS21.ag, fun w9 hw9 => ⟨(.slice none 0 0), rfl, Rep.keep0 (Rep.dropO (O := [.cells b15 [.int .u64 0] 37, .cells b10 [.int .u64 (a2.fState.toNat : Int)] 37, .cells b5 [.int .i64 a0.fN, v0_1] 40]) hr24) hw9⟩⟩
   ·skip
    refine RG.val' (.yes rfl rfl) (FV.loadN (cs := [.int .i64 a0.fN, v0_1]) (by kernel_rfl) rfl (hS13.memA (.tl (.tl .hd)))) rfl ?_
    refine RG.val' (.yes rfl rfl) (FV.move rfl) rfl ?_
    obtain ⟨y25, hy25, h⟩ := bind_in h
    refine RG.callq' (v := .bool y25) (fst := []) (cap := []) (.yes rfl rfl) body33 rfl (evs_cons rfl (evs_cons rfl evs_nil)) (fun w9 hw9 => wilson_fits_c n _ w9 (hS13.hL0 hL hw9) a0 (Rep.keep0 (Rep.dropO (O := [.cells b15 [.int .u64 0] 37, .cells b10 [.int .u64 (a2.fState.toNat : Int)] 37, .cells b5 [.int .i64 a0.fN, v0_1] 40]) hm17) hw9) a1 hy25) rfl ?_
    refine RG.val' (.yes rfl rfl) (FV.not rfl) rfl ?_
    refine RG.val' .plain (FV.pick_f rfl rfl) rfl ?_
    refine RG.nil ?_
    refine MX.ifnb rfl h (fun c26 h => ?_) (fun c26 h => ?_)
    ·skip
     refine MX.skip ?_
     refine MX.seq ?_
     refine MX.seq ?_
     refine MX.region ?_
     refine RG.val' .plain (FV.loadN (cs := [.int .i64 a0.fN, v0_1]) (by kernel_rfl) rfl (hS13.memA (.tl (.tl .hd)))) rfl ?_
     refine RG.val' .plain (FV.move rfl) rfl ?_
     obtain ⟨y27, hy27, h⟩ := bind_in h
     refine RG.callq' (v := .tuple #[.bool y27.1, .int .i64 y27.2]) (fst := []) (cap := []) .plain body26 rfl (evs_cons rfl (evs_cons rfl evs_nil)) (fun w9 hw9 => graph_Connected_c n _ w9 (hS13.hL0 hL hw9) a0 (Rep.keep0 (Rep.dropO (O := [.cells b15 [.int .u64 0] 37, .cells b10 [.int .u64 (a2.fState.toNat : Int)] 37, .cells b5 [.int .i64 a0.fN, v0_1] 40]) hm17) hw9) a1 (hG0.keep (hS13.ag.trans hw9)) hy27) rfl ?_
     refine RG.val' .plain (FV.move rfl) rfl ?_
     refine RG.val' .plain (FV.extract rfl rfl) rfl ?_
     refine RG.val' .plain (FV.extract rfl rfl) rfl ?_
     refine RG.val' .plain (FV.assign rfl) rfl ?_
     refine RG.val' .plain (FV.assign rfl) rfl ?_
     refine RG.nil ?_
     refine MX.seq ?_
     refine MX.region ?_
     refine RG.val' .plain (FV.move rfl) rfl ?_
     refine RG.val' .plain (FV.not rfl) rfl ?_
     refine RG.nil ?_
     refine MX.ifnb rfl h (fun c28 h => ?_) (fun c28 h => ?_)
     ·skip
      refine MX.skip ?_
      refine MX.seq ?_
      refine MX.region ?_
      refine RG.val' .plain (FV.loadN (cs := [.int .u64 (a2.fState.toNat : Int)]) (by kernel_rfl) rfl (hS13.memA (.tl .hd))) rfl ?_
      refine RG.val' .plain (FV.loadN (cs := [.int .i64 a0.fN, v0_1]) (by kernel_rfl) rfl (hS13.memA (.tl (.tl .hd)))) rfl ?_
      refine RG.val' .plain (FV.move rfl) rfl ?_
      obtain ⟨A29, c30, hv31, _⟩ := Rep.sl hm17
      refine RG.val' .plain (FV.buildV (vs := [.agg #[.int .u64 (a2.fState.toNat : Int)], .agg #[.int .i64 a0.fN, v0_1], .int .u64 (a1.toNat : Int), .int .i64 10000]) (u := .agg #[.int .u64 (a2.fState.toNat : Int), .int .i64 a0.fN, v0_1, .int .u64 (a1.toNat : Int), .int .i64 10000]) (evs_cons rfl (evs_cons rfl (evs_cons rfl (evs_cons rfl evs_nil)))) (fun w9 => by rw [hv31]; try kernel_rfl)) rfl ?_
      refine RG.new .plain rfl (Does.box (vs := [.int .u64 (a2.fState.toNat : Int), .int .i64 a0.fN, v0_1, .int .u64 (a1.toNat : Int), .int .i64 10000]) hS13 rfl rfl) (fun w33 b36 hS34 hT35 => ?_)
      refine RG.val' .plain (FV.assign rfl) rfl ?_
      refine RG.nil ?_
      refine MX.seq ?_
      refine MX.region ?_
      refine RG.val' .plain (FV.move rfl) rfl ?_
      refine RG.val' .plain (FV.move rfl) rfl ?_
      refine RG.val' .plain (FV.negU (a := a1) rfl) rfl ?_
      refine RG.val' .plain (FV.andU (a := a1) (b := -a1) rfl rfl) rfl ?_
      refine RG.val' .plain (FV.assign rfl) rfl ?_
      refine RG.nil ?_
      refine MX.seq ?_
      refine MX.seq ?_
      refine MX.region ?_
      refine RG.val' .plain (FV.fieldAddr (off := 0) (by kernel_rfl) rfl) rfl ?_
      refine RG.val' .plain (FV.load1 (by kernel_rfl) rfl ((hS34.memA (.tl (.tl (.tl .hd)))) 0 _ rfl)) rfl ?_
      refine RG.val' .plain (FV.move rfl) rfl ?_
      refine RG.nil ?_
      refine MX.block ?_
      have hS38 := hS34.nilRow 3 (Rep.size Int)
      have hT39 := Tr.nilRow (w := w33) (O := [.cells b36 [.int .u64 (a2.fState.toNat : Int), .int .i64 a0.fN, v0_1, .int .u64 (a1.toNat : Int), .int .i64 10000] 74, .cells b15 [.int .u64 0] 37, .cells b10 [.int .u64 (a2.fState.toNat : Int)] 37, .cells b5 [.int .i64 a0.fN, v0_1] 40]) w.heap.size 3 (Rep.size Int)
      have hc40 : Cells w33 (bl [.row w.heap.size 3 (Rep.size Int) (.slice none 0 0) (([] : List Int).length) [], .cells b36 [.int .u64 (a2.fState.toNat : Int), .int .i64 a0.fN, v0_1, .int .u64 (a1.toNat : Int), .int .i64 10000] 74, .cells b15 [.int .u64 0] 37, .cells b10 [.int .u64 (a2.fState.toNat : Int)] 37, .cells b5 [.int .i64 a0.fN, v0_1] 40] ++ L) [] ([] : List Int) := Cells.nil _ _
      have hS2741 : St _ _ [.row w.heap.size 3 (Rep.size Int) (.slice none 0 0) (([] : List Int).length) [], .cells b36 [.int .u64 (a2.fState.toNat : Int), .int .i64 a0.fN, v0_1, .int .u64 (a1.toNat : Int), .int .i64 10000] 74, .cells b15 [.int .u64 0] 37, .cells b5 [.int .i64 a0.fN, v0_1] 40] := hS38.arr (.one .hd (.one .hd (.one .hd (.one (.tl .hd) .done))))
      have hT2742 : Tr w33 _ w33 [.row w.heap.size 3 (Rep.size Int) (.slice none 0 0) (([] : List Int).length) [], .cells b36 [.int .u64 (a2.fState.toNat : Int), .int .i64 a0.fN, v0_1, .int .u64 (a1.toNat : Int), .int .i64 10000] 74, .cells b15 [.int .u64 0] 37, .cells b5 [.int .i64 a0.fN, v0_1] 40] := Tr.arr (St.arrOf hS38 (.one .hd (.one .hd (.one .hd (.one (.tl .hd) .done)))))
      have hm2743 := Cells.mv hc40 hT2742
      obtain ⟨o2757, ho2756, hh2758⟩ := thn_in h
      refine MX.loop (α := UInt64 × Int × (List Int) × UInt64 × Int × Value × (List Value)) (fun ⟨u2744, z2745, xs2746, u2750, z2751, v2749, cs2747⟩ => [(1, .int .u64 (a1.toNat : Int)), (3, .pointer (some ⟨b5, 0, none⟩)), (6, v2749), (7, .pointer (some ⟨b15, 0, none⟩)), (12, .pointer (some ⟨b36, 0, none⟩)), (13, .int .u64 (u2744.toNat : Int)), (54, .int .i64 a0.fN), (55, .int .i64 z2745)]) (fun ⟨u2744, z2745, xs2746, u2750, z2751, v2749, cs2747⟩ wx2751 => St w wx2751 [.row w.heap.size 3 (Rep.size Int) v2749 xs2746.length cs2747, .cells b36 [.int .u64 (u2750.toNat : Int), .int .i64 a0.fN, v0_1, .int .u64 (a1.toNat : Int), .int .i64 z2751] 74, .cells b15 [.int .u64 0] 37, .cells b5 [.int .i64 a0.fN, v0_1] 40] ∧ Tr w33 [.row w.heap.size 3 (Rep.size Int) (.slice none 0 0) (([] : List Int).length) [], .cells b36 [.int .u64 (a2.fState.toNat : Int), .int .i64 a0.fN, v0_1, .int .u64 (a1.toNat : Int), .int .i64 10000] 74, .cells b15 [.int .u64 0] 37, .cells b5 [.int .i64 a0.fN, v0_1] 40] wx2751 [.row w.heap.size 3 (Rep.size Int) v2749 xs2746.length cs2747, .cells b36 [.int .u64 (u2750.toNat : Int), .int .i64 a0.fN, v0_1, .int .u64 (a1.toNat : Int), .int .i64 z2751] 74, .cells b15 [.int .u64 0] 37, .cells b5 [.int .i64 a0.fN, v0_1] 40] ∧ Cells wx2751 (bl [.row w.heap.size 3 (Rep.size Int) v2749 xs2746.length cs2747, .cells b36 [.int .u64 (u2750.toNat : Int), .int .i64 a0.fN, v0_1, .int .u64 (a1.toNat : Int), .int .i64 z2751] 74, .cells b15 [.int .u64 0] 37, .cells b5 [.int .i64 a0.fN, v0_1] 40] ++ L) cs2747 xs2746) (fun ⟨u2744, z2745, xs2746, u2750, z2751, v2749, cs2747⟩ => (u2744, z2745, xs2746, u2750, z2751)) (a1 &&& (-a1), 0, ([] : List Int), a2.fState, 10000, (.slice none 0 0), []) ho2756 ⟨rfl, rfl, rfl, rfl, rfl, rfl, rfl, rfl, trivial⟩ ⟨hS2741, Tr.refl _ _, hm2743⟩ ?_
      rintro J2759 ⟨u2744, z2745, xs2746, u2750, z2751, v2749, cs2747⟩ wx2751 hJ2760 ⟨hS2752, hT2753, hc2748⟩ h
      unfold wilson_Draw_l8 at h
      try dsimp only at h
      refine MX.seq ?_
      refine MX.region ?_
      refine RG.val' .plain (FV.lss (i := z2745) (j := a0.fN) rfl rfl) rfl ?_
      refine RG.nil ?_
      refine MX.seq ?_
      refine MX.ifd rfl h (fun c2761 h => ?_) (fun c2761 h => ?_)
      ·skip
       refine MX.skip ?_
       refine MX.seq ?_
       refine MX.block ?_
       refine MX.seq ?_
       refine MX.region ?_
       refine RG.val' .plain (FV.move rfl) rfl ?_
       refine RG.val' .plain (FV.assign rfl) rfl ?_
       refine RG.nil ?_
       refine MX.seq ?_
       refine MX.seq ?_
       refine MX.region ?_
       refine RG.val' .plain (FV.move rfl) rfl ?_
       refine RG.val' .plain (FV.move rfl) rfl ?_
       refine RG.val' .plain (FV.andNotU (a := a1) (b := u2744) rfl rfl) rfl ?_
       refine RG.val' .plain (FV.move rfl) rfl ?_
       obtain ⟨k2762, hk2762, h⟩ := bind_in h
       refine RG.val' .plain (FV.shrI (a := a1 &&& ~~~u2744) (i := z2745) rfl rfl hk2762) rfl ?_
       refine RG.val' .plain (FV.andU (a := shrU (a1 &&& ~~~u2744) k2762) (b := (1 : UInt64)) rfl rfl) rfl ?_
       refine RG.val' .plain (FV.eqlU (a := (shrU (a1 &&& ~~~u2744) k2762) &&& (1 : UInt64)) (b := (0 : UInt64)) rfl rfl) rfl ?_
       refine RG.nil ?_
       refine MX.ifd rfl h (fun c2763 h => ?_) (fun c2763 h => ?_)
       ·skip
        refine MX.exit rfl ?_
        refine MX.region ?_
        obtain ⟨s2764, hs2764, h⟩ := bind_in h
        refine RG.val' .plain (FV.addc (i := z2745) (j := 1) rfl rfl hs2764) rfl ?_
        refine RG.val' .plain (FV.move rfl) rfl ?_
        refine RG.nil ?_
        exact hJ2760 (u2744, s2764, xs2746, u2750, z2751, v2749, cs2747) _ _ ⟨rfl, rfl, rfl, rfl, rfl, rfl, rfl, rfl, trivial⟩ ⟨hS2752, hT2753, hc2748⟩ h
       ·skip
        refine MX.skip ?_
        refine MX.seq ?_
        refine MX.region ?_
        refine RG.val' .plain (FV.move rfl) rfl ?_
        refine RG.val' .plain (FV.move rfl) rfl ?_
        refine RG.val' .plain (FV.move rfl) rfl ?_
        refine RG.enter (fst := []) (cap := []) (vs := [.pointer (some ⟨b36, 0, none⟩), .int .i64 z2745, .int .u64 (u2744.toNat : Int)]) .plain body34 Tryd.func34 rfl rfl rfl rfl (evs_cons rfl (evs_cons rfl (evs_cons rfl evs_nil))) rfl (fun cs2766 hb2765 => ?_)
        refine MX.seq ?_
        refine MX.region ?_
        refine RG.val' .plain (FV.assign rfl) rfl ?_
        refine RG.val' .plain (FV.assign rfl) rfl ?_
        refine RG.nil ?_
        refine MX.scope ?_
        refine MX.seq ?_
        refine MX.region ?_
        refine RG.val' .plain (FV.move rfl) rfl ?_
        refine RG.new .plain rfl (Does.build (α := Int) (xs := ([z2745] : List Int)) (vs := [.int .i64 z2745]) (ds' := [.int .i64 z2745]) rfl hS2752 el22 rfl (evs_cons rfl evs_nil) (by kernel_rfl) rfl) (fun w2768 b2771 hS2769 hT2770 => ?_)
        have hc2772 : Cells w2768 (bl [.row w.heap.size 3 (Rep.size Int) (.slice (some ⟨b2771, 0, none⟩) 1 1) (([z2745] : List Int).length) [.int .i64 z2745], .row w.heap.size 3 (Rep.size Int) v2749 xs2746.length cs2747, .cells b36 [.int .u64 (u2750.toNat : Int), .int .i64 a0.fN, v0_1, .int .u64 (a1.toNat : Int), .int .i64 z2751] 74, .cells b15 [.int .u64 0] 37, .cells b5 [.int .i64 a0.fN, v0_1] 40] ++ L) [.int .i64 z2745] (([z2745] : List Int) : List Int) := Cells.cons (cs := [.int .i64 z2745]) (ds := []) rfl (Cells.nil _ _)
        refine RG.val' .plain (FV.assign rfl) rfl ?_
        refine RG.nil ?_
        refine MX.seq ?_
        refine MX.region ?_
        refine RG.val' .plain (FV.move rfl) rfl ?_
        refine RG.val' .plain (FV.makeFunc (vs := [.pointer (some ⟨b36, 0, none⟩)]) (us := []) (evs_cons rfl evs_nil) evs_nil) rfl ?_
        refine RG.val' .plain (FV.assign rfl) rfl ?_
        refine RG.nil ?_
        refine MX.seq ?_
        refine MX.label ?_
        refine MX.seq ?_
        refine MX.seq ?_
        refine MX.region ?_
        refine RG.val' .plain (FV.move rfl) rfl ?_
        refine RG.val' .plain (FV.assign rfl) rfl ?_
        refine RG.nil ?_
        refine MX.block ?_
        obtain ⟨o3435, ho3434, hh3436⟩ := thn_in h
        refine MX.loop (α := Int × (List Int) × UInt64 × Int × Value × (List Value)) (fun ⟨z3423, xs3424, u3428, z3429, v3427, cs3425⟩ => [(0, .pointer (some ⟨b36, 0, none⟩)), (2, .int .u64 (u2744.toNat : Int)), (8, v3427), (9, .func (.func 61) #[.pointer (some ⟨b36, 0, none⟩)] #[]), (10, .int .i64 z3423)]) (fun ⟨z3423, xs3424, u3428, z3429, v3427, cs3425⟩ wx3429 => St w wx3429 [.row w.heap.size 3 (Rep.size Int) v3427 xs3424.length cs3425, .row w.heap.size 3 (Rep.size Int) v2749 xs2746.length cs2747, .cells b36 [.int .u64 (u3428.toNat : Int), .int .i64 a0.fN, v0_1, .int .u64 (a1.toNat : Int), .int .i64 z3429] 74, .cells b15 [.int .u64 0] 37, .cells b5 [.int .i64 a0.fN, v0_1] 40] ∧ Tr w2768 [.row w.heap.size 3 (Rep.size Int) (.slice (some ⟨b2771, 0, none⟩) 1 1) (([z2745] : List Int).length) [.int .i64 z2745], .row w.heap.size 3 (Rep.size Int) v2749 xs2746.length cs2747, .cells b36 [.int .u64 (u2750.toNat : Int), .int .i64 a0.fN, v0_1, .int .u64 (a1.toNat : Int), .int .i64 z2751] 74, .cells b15 [.int .u64 0] 37, .cells b5 [.int .i64 a0.fN, v0_1] 40] wx3429 [.row w.heap.size 3 (Rep.size Int) v3427 xs3424.length cs3425, .row w.heap.size 3 (Rep.size Int) v2749 xs2746.length cs2747, .cells b36 [.int .u64 (u3428.toNat : Int), .int .i64 a0.fN, v0_1, .int .u64 (a1.toNat : Int), .int .i64 z3429] 74, .cells b15 [.int .u64 0] 37, .cells b5 [.int .i64 a0.fN, v0_1] 40] ∧ Cells wx3429 (bl [.row w.heap.size 3 (Rep.size Int) v3427 xs3424.length cs3425, .row w.heap.size 3 (Rep.size Int) v2749 xs2746.length cs2747, .cells b36 [.int .u64 (u3428.toNat : Int), .int .i64 a0.fN, v0_1, .int .u64 (a1.toNat : Int), .int .i64 z3429] 74, .cells b15 [.int .u64 0] 37, .cells b5 [.int .i64 a0.fN, v0_1] 40] ++ L) cs3425 xs3424) (fun ⟨z3423, xs3424, u3428, z3429, v3427, cs3425⟩ => (z3423, xs3424, u3428, z3429)) (z2745, ([z2745] : List Int), u2750, z2751, (.slice (some ⟨b2771, 0, none⟩) 1 1), [.int .i64 z2745]) ho3434 ⟨rfl, rfl, rfl, rfl, rfl, trivial⟩ ⟨hS2769, Tr.refl _ _, hc2772⟩ ?_
        rintro J3437 ⟨z3423, xs3424, u3428, z3429, v3427, cs3425⟩ wx3429 hJ3438 ⟨hS3430, hT3431, hc3426⟩ h
        unfold wilson_Draw_l4 at h
        try dsimp only at h
        refine MX.block ?_
        refine MX.seq ?_
        refine MX.seq ?_
        refine MX.region ?_
        refine RG.val' .plain (FV.move rfl) rfl ?_
        refine RG.val' .plain (FV.move rfl) rfl ?_
        obtain ⟨k3439, hk3439, h⟩ := bind_in h
        refine RG.val' .plain (FV.shrI (a := u2744) (i := z3423) rfl rfl hk3439) rfl ?_
        refine RG.val' .plain (FV.andU (a := shrU u2744 k3439) (b := (1 : UInt64)) rfl rfl) rfl ?_
        refine RG.val' .plain (FV.eqlU (a := (shrU u2744 k3439) &&& (1 : UInt64)) (b := (1 : UInt64)) rfl rfl) rfl ?_
        refine RG.nil ?_
        refine MX.ifd rfl h (fun c3440 h => ?_) (fun c3440 h => ?_)
        ·skip
         refine MX.exit rfl ?_
         have h := thn_inr h hh3436
         try dsimp only at h
         refine MX.seq ?_
         refine MX.region ?_
         refine RG.val' .plain (FV.move rfl) rfl ?_
         refine RG.val' .plain (FV.assign rfl) rfl ?_
         refine RG.val' .plain (FV.assign rfl) rfl ?_
         refine RG.nil ?_
         refine MX.ret rfl ?_
         refine RT.leave (u := .tuple #[v3427, .int .i64 0]) hb2765 Tryd.func34 rfl (.cons (.tmp rfl) (.cons (.tmp rfl) .nil)) rfl ?_
         refine RG.val' .plain (FV.move rfl) rfl ?_
         refine RG.val' .plain (FV.extract rfl rfl) rfl ?_
         refine RG.val' .plain (FV.extract rfl rfl) rfl ?_
         refine RG.val' .plain (FV.assign rfl) rfl ?_
         refine RG.val' .plain (FV.assign rfl) rfl ?_
         refine RG.nil ?_
         refine MX.seq ?_
         refine MX.seq ?_
         refine MX.region ?_
         refine RG.val' .plain (FV.move rfl) rfl ?_
         refine RG.val' .plain (FV.neqN (i := 0) (j := 0) rfl rfl) rfl ?_
         refine RG.nil ?_
         refine MX.cond_f rfl ?_
         refine MX.skip ?_
         refine MX.seq ?_
         refine MX.region ?_
         refine RG.val' .plain (FV.move rfl) rfl ?_
         have hr3442 := St.freeze (α := Int) hS3430 .hd hc3426 hL
         have hS3443 := hS3430.del (.hd : Out _ _ _).del
         have hT3444 := Tr.del (w := wx3429) (.hd : Out [.row w.heap.size 3 (Rep.size Int) v3427 xs3424.length cs3425, .row w.heap.size 3 (Rep.size Int) v2749 xs2746.length cs2747, .cells b36 [.int .u64 (u3428.toNat : Int), .int .i64 a0.fN, v0_1, .int .u64 (a1.toNat : Int), .int .i64 z3429] 74, .cells b15 [.int .u64 0] 37, .cells b5 [.int .i64 a0.fN, v0_1] 40] _ _).del
         have hr3445 : Rep.R wx3429 (bl [.row w.heap.size 3 (Rep.size Int) v2749 xs2746.length cs2747, .cells b36 [.int .u64 (u3428.toNat : Int), .int .i64 a0.fN, v0_1, .int .u64 (a1.toNat : Int), .int .i64 z3429] 74, .cells b15 [.int .u64 0] 37, .cells b5 [.int .i64 a0.fN, v0_1] 40] ++ L) [v3427] xs3424 := hr3442
         obtain ⟨y3441, hy3441, h⟩ := bind_in h
         refine RG.call' (fst := []) (cap := []) .plain body30 rfl (evs_cons rfl evs_nil) (fun w9 hw9 => wilson_erased_c n _ w9 (hS3443.hL hL hw9) xs3424 (Rep.keep0 hr3445 hw9) hy3441) rfl (fun w3446 vu3447 hag3448 ⟨v3451, hu_, hr3452⟩ => ?_)
         subst hu_
         have hS3449 := hS3443.agree hag3448
         have hT3450 := Tr.agree (O := [.row w.heap.size 3 (Rep.size Int) v2749 xs2746.length cs2747, .cells b36 [.int .u64 (u3428.toNat : Int), .int .i64 a0.fN, v0_1, .int .u64 (a1.toNat : Int), .int .i64 z3429] 74, .cells b15 [.int .u64 0] 37, .cells b5 [.int .i64 a0.fN, v0_1] 40]) hag3448
         refine RG.val' .plain (FV.assign rfl) rfl ?_
         refine RG.nil ?_
         refine MX.seq ?_
         refine MX.region ?_
         refine RG.val' .plain (FV.move rfl) rfl ?_
         have hl3453 : y3441.length ≤ 281474976710656 := Rep.lenle hr3452
         refine RG.val' .plain (FV.len (xs := y3441) Tryd.underlying22 rfl hr3452) rfl ?_
         refine RG.val' .plain (FV.move rfl) rfl ?_
         refine RG.nil ?_
         refine MX.block ?_
         have hm3665 := Cells.mv hc2748 (Tr.trans hT2770 (Tr.trans hT3431 (Tr.trans hT3444 hT3450)))
         obtain ⟨o3677, ho3676, hh3678⟩ := bind_in2 h
         refine MX.loop (α := UInt64 × Nat × (List Int) × Value × (List Value)) (fun ⟨u3666, i3667, xs3668, v3671, cs3669⟩ => [(1, .int .u64 (a1.toNat : Int)), (3, .pointer (some ⟨b5, 0, none⟩)), (6, v3671), (7, .pointer (some ⟨b15, 0, none⟩)), (12, .pointer (some ⟨b36, 0, none⟩)), (13, .int .u64 (u3666.toNat : Int)), (54, .int .i64 a0.fN), (55, .int .i64 z2745), (15, vu3447), (78, vu3447), (79, .int .i64 ((y3441.length : Nat) : Int)), (80, .int .i64 ((i3667 : Nat) : Int))]) (fun ⟨u3666, i3667, xs3668, v3671, cs3669⟩ wx3671 => St w wx3671 [.row w.heap.size 3 (Rep.size Int) v3671 xs3668.length cs3669, .cells b36 [.int .u64 (u3428.toNat : Int), .int .i64 a0.fN, v0_1, .int .u64 (a1.toNat : Int), .int .i64 z3429] 74, .cells b15 [.int .u64 0] 37, .cells b5 [.int .i64 a0.fN, v0_1] 40] ∧ Tr w3446 [.row w.heap.size 3 (Rep.size Int) v2749 xs2746.length cs2747, .cells b36 [.int .u64 (u3428.toNat : Int), .int .i64 a0.fN, v0_1, .int .u64 (a1.toNat : Int), .int .i64 z3429] 74, .cells b15 [.int .u64 0] 37, .cells b5 [.int .i64 a0.fN, v0_1] 40] wx3671 [.row w.heap.size 3 (Rep.size Int) v3671 xs3668.length cs3669, .cells b36 [.int .u64 (u3428.toNat : Int), .int .i64 a0.fN, v0_1, .int .u64 (a1.toNat : Int), .int .i64 z3429] 74, .cells b15 [.int .u64 0] 37, .cells b5 [.int .i64 a0.fN, v0_1] 40] ∧ Cells wx3671 (bl [.row w.heap.size 3 (Rep.size Int) v3671 xs3668.length cs3669, .cells b36 [.int .u64 (u3428.toNat : Int), .int .i64 a0.fN, v0_1, .int .u64 (a1.toNat : Int), .int .i64 z3429] 74, .cells b15 [.int .u64 0] 37, .cells b5 [.int .i64 a0.fN, v0_1] 40] ++ L) cs3669 xs3668) (fun ⟨u3666, i3667, xs3668, v3671, cs3669⟩ => (u3666, i3667, xs3668)) (u2744, 0, xs2746, v2749, cs2747) ho3676 ⟨rfl, rfl, rfl, rfl, rfl, rfl, rfl, rfl, rfl, rfl, rfl, rfl, trivial⟩ ⟨hS3449, Tr.refl _ _, hm3665⟩ ?_
         rintro J3679 ⟨u3666, i3667, xs3668, v3671, cs3669⟩ wx3671 hJ3680 ⟨hS3672, hT3673, hc3670⟩ h
         unfold wilson_Draw_l1 at h
         try dsimp only at h
         refine MX.seq ?_
         refine MX.region ?_
         refine RG.val' .plain (FV.lssN (i := i3667) (j := y3441.length) rfl rfl) rfl ?_
         refine RG.nil ?_
         refine MX.seq ?_
         refine MX.ifd rfl h (fun c3681 h => ?_) (fun c3681 h => ?_)
         ·skip
          refine MX.skip ?_
          refine MX.seq ?_
          refine MX.block ?_
          refine MX.seq ?_
          refine MX.region ?_
          refine RG.val' .plain (FV.move rfl) rfl ?_
          obtain ⟨x3682, hx3682, h⟩ := bind_in h
          have hm3690 := Rep.mv hr3452 hT3673
          obtain ⟨A3683, c3684, he3685, hk3686, cs3687, hr3688, hm3689⟩ := Rep.nth hm3690 hx3682
          have he3691 : cs3687 = [.int .i64 x3682] := hr3688; subst he3691
          refine RG.val' .plain (FV.idxAddr (m := 1) (i := i3667) (by kernel_rfl) rfl he3685 rfl rfl hk3686) rfl ?_
          refine RG.val' .plain (FV.load1 (by kernel_rfl) rfl (hm3689 0 _ rfl)) rfl ?_
          refine RG.val' .plain (FV.assign rfl) rfl ?_
          refine RG.val' .plain (FV.assign rfl) rfl ?_
          refine RG.nil ?_
          refine MX.seq ?_
          refine MX.region ?_
          refine RG.val' .plain (FV.move rfl) rfl ?_
          refine RG.val' .plain (FV.move rfl) rfl ?_
          obtain ⟨k3692, hk3692, h⟩ := bind_in h
          refine RG.val' .plain (FV.shlI (a := (1 : UInt64)) (i := x3682) rfl rfl hk3692) rfl ?_
          refine RG.val' .plain (FV.orU (a := u3666) (b := shlU (1 : UInt64) k3692) rfl rfl) rfl ?_
          refine RG.val' .plain (FV.assign rfl) rfl ?_
          refine RG.nil ?_
          refine MX.seq ?_
          refine MX.region ?_
          refine RG.val' .plain (FV.move rfl) rfl ?_
          refine RG.val' .plain (FV.gtrN (i := i3667) (j := 0) rfl rfl) rfl ?_
          refine RG.nil ?_
          refine MX.join (α := (List Int) × Value × (List Value)) (fun ⟨xs3730, v3733, cs3731⟩ => [(1, .int .u64 (a1.toNat : Int)), (3, .pointer (some ⟨b5, 0, none⟩)), (6, v3733), (7, .pointer (some ⟨b15, 0, none⟩)), (12, .pointer (some ⟨b36, 0, none⟩)), (13, .int .u64 ((u3666 ||| (shlU (1 : UInt64) k3692)).toNat : Int)), (54, .int .i64 a0.fN), (55, .int .i64 z2745), (15, vu3447), (78, vu3447), (79, .int .i64 ((y3441.length : Nat) : Int)), (80, .int .i64 ((i3667 : Nat) : Int))]) (fun ⟨xs3730, v3733, cs3731⟩ wx3733 => St w wx3733 [.row w.heap.size 3 (Rep.size Int) v3733 xs3730.length cs3731, .cells b36 [.int .u64 (u3428.toNat : Int), .int .i64 a0.fN, v0_1, .int .u64 (a1.toNat : Int), .int .i64 z3429] 74, .cells b15 [.int .u64 0] 37, .cells b5 [.int .i64 a0.fN, v0_1] 40] ∧ Tr wx3671 [.row w.heap.size 3 (Rep.size Int) v3671 xs3668.length cs3669, .cells b36 [.int .u64 (u3428.toNat : Int), .int .i64 a0.fN, v0_1, .int .u64 (a1.toNat : Int), .int .i64 z3429] 74, .cells b15 [.int .u64 0] 37, .cells b5 [.int .i64 a0.fN, v0_1] 40] wx3733 [.row w.heap.size 3 (Rep.size Int) v3733 xs3730.length cs3731, .cells b36 [.int .u64 (u3428.toNat : Int), .int .i64 a0.fN, v0_1, .int .u64 (a1.toNat : Int), .int .i64 z3429] 74, .cells b15 [.int .u64 0] 37, .cells b5 [.int .i64 a0.fN, v0_1] 40] ∧ Cells wx3733 (bl [.row w.heap.size 3 (Rep.size Int) v3733 xs3730.length cs3731, .cells b36 [.int .u64 (u3428.toNat : Int), .int .i64 a0.fN, v0_1, .int .u64 (a1.toNat : Int), .int .i64 z3429] 74, .cells b15 [.int .u64 0] 37, .cells b5 [.int .i64 a0.fN, v0_1] 40] ++ L) cs3731 xs3730) (fun ⟨xs3730, v3733, cs3731⟩ => xs3730) h ?_ ?_
          ·skip
           rintro ⟨xs3730, v3733, cs3731⟩ wx3733 ⟨hS3734, hT3735, hc3732⟩ h
           try dsimp only at h
           refine MX.inBlock ?_
           refine MX.region ?_
           refine RG.val' .plain (FV.addN (i := i3667) (j := 1) rfl rfl (by omega)) rfl ?_
           refine RG.val' .plain (FV.move rfl) rfl ?_
           refine RG.nil ?_
           exact hJ3680 (u3666 ||| (shlU (1 : UInt64) k3692), i3667 + 1, xs3730, v3733, cs3731) _ _ ⟨rfl, rfl, rfl, rfl, rfl, rfl, rfl, rfl, rfl, rfl, rfl, rfl, trivial⟩ ⟨hS3734, (Tr.trans hT3673 hT3735), hc3732⟩ h
          ·skip
           intro J3737 hJ3738 h
           try dsimp only at h
           refine MX.ifd rfl h (fun c3739 h => ?_) (fun c3739 h => ?_)
           ·skip
            refine MX.seq ?_
            refine MX.drawT 16 tb14_24 (by kernel_rfl) (by kernel_rfl) (by kernel_rfl) (fun kt3740 kp3741 => ?_)
            refine RD.vP 0 1 kt3740 rfl kp3741 .plain (fun _ => FV.move rfl) rfl ?_
            refine RD.vP 1 3 kt3740 rfl kp3741 .plain (fun _ => FV.move rfl) rfl ?_
            refine RD.vP 2 7 kt3740 rfl kp3741 .plain (fun _ => FV.move rfl) rfl ?_
            refine RD.vP 3 15 kt3740 rfl kp3741 .plain (fun _ => FV.subN (i := i3667) (j := 1) rfl rfl (by omega) (by omega)) rfl ?_
            obtain ⟨x3742, hx3742, h⟩ := bind_in h
            obtain ⟨A3743, c3744, he3745, hk3746, cs3747, hr3748, hm3749⟩ := Rep.nth hm3690 hx3742
            have he3750 : cs3747 = [.int .i64 x3742] := hr3748; subst he3750
            refine RD.vP 4 31 kt3740 rfl kp3741 .plain (fun _ => FV.idxAddr (m := 1) (i := i3667 - 1) (by kernel_rfl) rfl he3745 rfl rfl hk3746) rfl ?_
            refine RD.val (i := 5) (m' := 63) (W := 81984) (takeC_ok kt3740 (by kernel_rfl)) rfl kp3741 .plain (FV.load1 (by kernel_rfl) rfl (hm3749 0 _ rfl)) rfl ?_
            refine RD.vP 6 127 kt3740 rfl kp3741 .plain (fun _ => FV.min2 (i := x3682) (j := x3742) rfl rfl) rfl ?_
            refine RD.vP 7 255 kt3740 rfl kp3741 .plain (fun _ => FV.move rfl) rfl ?_
            refine RD.vP 8 511 kt3740 rfl kp3741 .plain (fun _ => FV.move rfl) rfl ?_
            refine RD.vP 9 1023 kt3740 rfl kp3741 .plain (fun _ => FV.move rfl) rfl ?_
            refine RD.vP 10 2047 kt3740 rfl kp3741 .plain (fun _ => FV.subN (i := i3667) (j := 1) rfl rfl (by omega) (by omega)) rfl ?_
            refine RD.vP 11 4095 kt3740 rfl kp3741 .plain (fun _ => FV.idxAddr (m := 1) (i := i3667 - 1) (by kernel_rfl) rfl he3745 rfl rfl hk3746) rfl ?_
            refine RD.val (i := 12) (m' := 8191) (W := 90112) (takeC_ok kt3740 (by kernel_rfl)) rfl kp3741 .plain (FV.load1 (by kernel_rfl) rfl (hm3749 0 _ rfl)) rfl ?_
            refine RD.vP 13 16383 kt3740 rfl kp3741 .plain (fun _ => FV.max2 (i := x3682) (j := x3742) rfl rfl) rfl ?_
            refine RD.vP 14 32767 kt3740 rfl kp3741 .plain (fun _ => FV.buildV (vs := [.int .i64 (min x3682 x3742), .int .i64 (max x3682 x3742)]) (u := .agg #[.int .i64 (min x3682 x3742), .int .i64 (max x3682 x3742)]) (evs_cons rfl (evs_cons rfl evs_nil)) (fun w9 => by kernel_rfl)) rfl ?_
            refine RD.one (i := 15) (readyD_ok kt3740 (by kernel_rfl)) (RO.new (m' := 65535) (stepC_ok kt3740 (by kernel_rfl)) rfl .plain rfl (Does.alloc (zs := [.int .i64 0, .int .i64 0]) hS3672 (zB (by kernel_rfl))) (fun w3752 b3755 hS3753 hT3754 => ?_))
            refine RD.one (i := 16) (readyD_ok kt3740 (by kernel_rfl)) (RO.now (m' := 131071) (stepC_ok kt3740 (by kernel_rfl)) rfl rfl .plain (Acts.store (j := 0) (old := [.int .i64 0, .int .i64 0]) (news := [.int .i64 (min x3682 x3742), .int .i64 (max x3682 x3742)]) (new' := [.int .i64 (min x3682 x3742), .int .i64 (max x3682 x3742)]) hS3753 .hd rfl rfl rfl rfl rfl rfl (ones_cons rfl (ones_cons rfl ones_nil)) rfl) (fun w3756 hS3757 hT3758 => ?_))
            refine RD.done (doneD_ok kt3740 (by kernel_rfl)) ?_
            refine MX.region ?_
            refine RG.val' .plain (FV.move rfl) rfl ?_
            refine RG.val' .plain (FV.fieldAddr (off := 1) (by kernel_rfl) rfl) rfl ?_
            refine RG.val' .plain (FV.load1 (by kernel_rfl) rfl ((hS3757.memA (.tl (.tl (.tl (.tl .hd))))) 1 _ rfl)) rfl ?_
            refine RG.val' .plain (FV.loadN (cs := [.int .i64 (min x3682 x3742), .int .i64 (max x3682 x3742)]) (by kernel_rfl) rfl (hS3757.memA .hd)) rfl ?_
            obtain ⟨y3759, hy3759, h⟩ := bind_in h
            have hm3760 := Rep.mv h0_1 (Tr.trans hT4 (Tr.trans hT9 (Tr.trans hT14 (Tr.trans hT35 (Tr.trans hT39 (Tr.trans hT2742 (Tr.trans hT2753 (Tr.trans hT2770 (Tr.trans hT3431 (Tr.trans hT3444 (Tr.trans hT3450 (Tr.trans hT3673 (Tr.trans hT3754 hT3758)))))))))))))
            refine RG.callq' (v := .int .i64 y3759) (fst := []) (cap := []) .plain body16 rfl (evs_cons rfl (evs_cons rfl evs_nil)) (fun w9 hw9 => slices_Index_2_int_2_int_c n _ w9 (hS3757.hL0 hL hw9) a0.fEdges (Rep.keep0 (Rep.dropO (O := [.cells b3755 [.int .i64 (min x3682 x3742), .int .i64 (max x3682 x3742)] 46, .row w.heap.size 3 (Rep.size Int) v3671 xs3668.length cs3669, .cells b36 [.int .u64 (u3428.toNat : Int), .int .i64 a0.fN, v0_1, .int .u64 (a1.toNat : Int), .int .i64 z3429] 74, .cells b15 [.int .u64 0] 37, .cells b5 [.int .i64 a0.fN, v0_1] 40]) hm3760) hw9) (min x3682 x3742, max x3682 x3742) hy3759) rfl ?_
            refine RG.new .plain rfl (Does.build (α := Int) (xs := ([y3759] : List Int)) (vs := [.int .i64 y3759]) (ds' := [.int .i64 y3759]) rfl hS3757 el22 rfl (evs_cons rfl evs_nil) (by kernel_rfl) rfl) (fun w3762 b3765 hS3763 hT3764 => ?_)
            have hc3766 : Cells w3762 (bl [.row w.heap.size 3 (Rep.size Int) (.slice (some ⟨b3765, 0, none⟩) 1 1) (([y3759] : List Int).length) [.int .i64 y3759], .cells b3755 [.int .i64 (min x3682 x3742), .int .i64 (max x3682 x3742)] 46, .row w.heap.size 3 (Rep.size Int) v3671 xs3668.length cs3669, .cells b36 [.int .u64 (u3428.toNat : Int), .int .i64 a0.fN, v0_1, .int .u64 (a1.toNat : Int), .int .i64 z3429] 74, .cells b15 [.int .u64 0] 37, .cells b5 [.int .i64 a0.fN, v0_1] 40] ++ L) [.int .i64 y3759] (([y3759] : List Int) : List Int) := Cells.cons (cs := [.int .i64 y3759]) (ds := []) rfl (Cells.nil _ _)
            obtain ⟨xs3767, hxs3767, h⟩ := bind_in h
            have hm3768 := Cells.mv hc3670 (Tr.trans hT3754 (Tr.trans hT3758 hT3764))
            refine RG.doesL .plain rfl (DoesL.app (α := Int) (ys := ([y3759] : List Int)) (F := fun v' cs' => [.row w.heap.size 3 (Rep.size Int) (.slice (some ⟨b3765, 0, none⟩) 1 1) (([y3759] : List Int).length) [.int .i64 y3759], .cells b3755 [.int .i64 (min x3682 x3742), .int .i64 (max x3682 x3742)] 46, .row w.heap.size 3 (Rep.size Int) v' xs3767.length cs', .cells b36 [.int .u64 (u3428.toNat : Int), .int .i64 a0.fN, v0_1, .int .u64 (a1.toNat : Int), .int .i64 z3429] 74, .cells b15 [.int .u64 0] 37, .cells b5 [.int .i64 a0.fN, v0_1] 40]) hxs3767 hS3763 (fun _ _ => (.tl (.tl .hd))) el22 rfl rfl hm3768 (Src.row (α := Int) hS3763 .hd hc3766)) (fun v3774 w3769 ⟨cs3773, hS3770, hT3771, hc3772⟩ => ?_)
            refine RG.val' .plain (FV.assign rfl) rfl ?_
            refine RG.nil ?_
            have hS3776 : St _ _ [.row w.heap.size 3 (Rep.size Int) v3774 xs3767.length cs3773, .cells b36 [.int .u64 (u3428.toNat : Int), .int .i64 a0.fN, v0_1, .int .u64 (a1.toNat : Int), .int .i64 z3429] 74, .cells b15 [.int .u64 0] 37, .cells b5 [.int .i64 a0.fN, v0_1] 40] := hS3770.arr (.one (.tl (.tl .hd)) (.one (.tl (.tl .hd)) (.one (.tl (.tl .hd)) (.one (.tl (.tl .hd)) .done))))
            have hT3777 : Tr w3769 _ w3769 [.row w.heap.size 3 (Rep.size Int) v3774 xs3767.length cs3773, .cells b36 [.int .u64 (u3428.toNat : Int), .int .i64 a0.fN, v0_1, .int .u64 (a1.toNat : Int), .int .i64 z3429] 74, .cells b15 [.int .u64 0] 37, .cells b5 [.int .i64 a0.fN, v0_1] 40] := Tr.arr (St.arrOf hS3770 (.one (.tl (.tl .hd)) (.one (.tl (.tl .hd)) (.one (.tl (.tl .hd)) (.one (.tl (.tl .hd)) .done)))))
            have hm3778 := Cells.mv hc3772 hT3777
            exact hJ3738 (xs3767, v3774, cs3773) _ _ ⟨rfl, rfl, rfl, rfl, rfl, rfl, rfl, rfl, rfl, rfl, rfl, rfl, trivial⟩ ⟨hS3776, (Tr.trans hT3754 (Tr.trans hT3758 (Tr.trans hT3764 (Tr.trans hT3771 hT3777)))), hm3778⟩ h
           ·skip
            refine MX.skip ?_
            exact hJ3738 (xs3668, v3671, cs3669) _ _ ⟨rfl, rfl, rfl, rfl, rfl, rfl, rfl, rfl, rfl, rfl, rfl, rfl, trivial⟩ ⟨hS3672, Tr.refl _ _, hc3670⟩ h
         ·skip
          refine MX.exit rfl ?_
          have h := hh3678 _ h
          try dsimp only at h
          refine MX.inBlock ?_
          refine MX.region ?_
          obtain ⟨s3779, hs3779, h⟩ := bind_in h
          refine RG.val' .plain (FV.addc (i := z2745) (j := 1) rfl rfl hs3779) rfl ?_
          refine RG.val' .plain (FV.move rfl) rfl ?_
          refine RG.nil ?_
          exact hJ2760 (u3666, s3779, xs3668, u3428, z3429, v3671, cs3669) _ _ ⟨rfl, rfl, rfl, rfl, rfl, rfl, rfl, rfl, trivial⟩ ⟨hS3672, (Tr.trans hT2753 (Tr.trans hT2770 (Tr.trans hT3431 (Tr.trans hT3444 (Tr.trans hT3450 hT3673))))), hc3670⟩ h
        ·skip
         refine MX.skip ?_
         refine MX.seq ?_
         refine MX.seq ?_
         refine MX.region ?_
         refine RG.val' .plain (FV.move rfl) rfl ?_
         refine RG.val' .plain (FV.nilCheck rfl) rfl ?_
         refine RG.val' .plain (FV.fieldAddr (off := 4) (by kernel_rfl) rfl) rfl ?_
         refine RG.val' .plain (FV.load1 (by kernel_rfl) rfl ((hS3430.memA (.tl (.tl .hd))) 4 _ rfl)) rfl ?_
         refine RG.val' .plain (FV.eql (i := z3429) (j := 0) rfl rfl) rfl ?_
         refine RG.nil ?_
         refine MX.ifd rfl h (fun c3780 h => ?_) (fun c3780 h => ?_)
         ·skip
          refine MX.seq ?_
          refine MX.region ?_
          refine RG.val' .plain (FV.assign rfl) rfl ?_
          refine RG.val' .plain (FV.assign rfl) rfl ?_
          refine RG.nil ?_
          have h := thn_inl h hh3436
          refine MX.ret rfl ?_
          refine RT.leave (u := .tuple #[.slice none 0 0, .int .i64 9]) hb2765 Tryd.func34 rfl (.cons (.tmp rfl) (.cons (.tmp rfl) .nil)) rfl ?_
          refine RG.val' .plain (FV.move rfl) rfl ?_
          refine RG.val' .plain (FV.extract rfl rfl) rfl ?_
          refine RG.val' .plain (FV.extract rfl rfl) rfl ?_
          refine RG.val' .plain (FV.assign rfl) rfl ?_
          refine RG.val' .plain (FV.assign rfl) rfl ?_
          refine RG.nil ?_
          refine MX.seq ?_
          refine MX.seq ?_
          refine MX.region ?_
          refine RG.val' .plain (FV.move rfl) rfl ?_
          refine RG.val' .plain (FV.neqN (i := 9) (j := 0) rfl rfl) rfl ?_
          refine RG.nil ?_
          refine MX.cond_t rfl ?_
          refine MX.seq ?_
          refine MX.region ?_
          refine RG.val' .plain (FV.buildV (vs := []) (u := .agg #[.int .u64 0]) evs_nil (fun w9 => by kernel_rfl)) rfl ?_
          refine RG.val' .plain (FV.move rfl) rfl ?_
          refine RG.val' .plain (FV.assign rfl) rfl ?_
          refine RG.now .plain (Acts.store (j := 0) (old := [.int .u64 0]) (news := [.int .u64 0]) (new' := [.int .u64 0]) hS3430 (.tl (.tl (.tl .hd))) rfl rfl rfl rfl rfl rfl (ones_cons rfl ones_nil) rfl) (fun w3781 hS3782 hT3783 => ?_)
          refine RG.val' .plain (FV.assign rfl) rfl ?_
          refine RG.nil ?_
          have h := thn_inl h hh2758
          refine MX.ret rfl ?_
          have hr3784 : Rep.R w3781 (bl [.row w.heap.size 3 (Rep.size Int) v3427 xs3424.length cs3425, .row w.heap.size 3 (Rep.size Int) v2749 xs2746.length cs2747, .cells b36 [.int .u64 (u3428.toNat : Int), .int .i64 a0.fN, v0_1, .int .u64 (a1.toNat : Int), .int .i64 z3429] 74, .cells b15 [.int .u64 0] 37, .cells b5 [.int .i64 a0.fN, v0_1] 40] ++ L) [.slice none 0 0] ([] : List Int) := Rep.nilSlice _ _
          refine RT.leave (u := .tuple #[.slice none 0 0, .agg #[.int .u64 0], .int .i64 9]) hb0 Tryd.func14 rfl (.cons (.tmp rfl) (.cons (.many (cs := [.int .u64 0]) (by kernel_rfl) rfl (hS3782.memA (.tl (.tl (.tl .hd))))) (.cons (.tmp rfl) .nil))) rfl ?_
          obtain rfl := Option.some.inj h
          have hr3785 : Rep.R w3781 (bl [.row w.heap.size 3 (Rep.size Int) v3427 xs3424.length cs3425, .row w.heap.size 3 (Rep.size Int) v2749 xs2746.length cs2747, .cells b36 [.int .u64 (u3428.toNat : Int), .int .i64 a0.fN, v0_1, .int .u64 (a1.toNat : Int), .int .i64 z3429] 74, .cells b15 [.int .u64 0] 37, .cells b5 [.int .i64 a0.fN, v0_1] 40] ++ L) [.slice none 0 0] ([] : List Int) := Rep.nilSlice _ _
          exact ⟨hS3782.ag, fun w9 hw9 => ⟨(.slice none 0 0), rfl, Rep.keep0 (Rep.dropO (O := [.row w.heap.size 3 (Rep.size Int) v3427 xs3424.length cs3425, .row w.heap.size 3 (Rep.size Int) v2749 xs2746.length cs2747, .cells b36 [.int .u64 (u3428.toNat : Int), .int .i64 a0.fN, v0_1, .int .u64 (a1.toNat : Int), .int .i64 z3429] 74, .cells b15 [.int .u64 0] 37, .cells b5 [.int .i64 a0.fN, v0_1] 40]) hr3785) hw9⟩⟩
         ·skip
          refine MX.skip ?_
          refine MX.seq ?_
          refine MX.region ?_
          refine RG.val' .plain (FV.move rfl) rfl ?_
          refine RG.val' .plain (FV.nilCheck rfl) rfl ?_
          refine RG.val' .plain (FV.fieldAddr (off := 4) (by kernel_rfl) rfl) rfl ?_
          refine RG.val' .plain (FV.load1 (by kernel_rfl) rfl ((hS3430.memA (.tl (.tl .hd))) 4 _ rfl)) rfl ?_
          obtain ⟨s3786, hs3786, h⟩ := bind_in h
          refine RG.val' .plain (FV.subc (i := z3429) (j := 1) rfl rfl hs3786) rfl ?_
          refine RG.val' .plain (FV.nilCheck rfl) rfl ?_
          refine RG.val' .plain (FV.fieldAddr (off := 4) (by kernel_rfl) rfl) rfl ?_
          refine RG.now .plain (Acts.store (j := 4) (old := [.int .u64 (u3428.toNat : Int), .int .i64 a0.fN, v0_1, .int .u64 (a1.toNat : Int), .int .i64 z3429]) (news := [.int .i64 s3786]) (new' := [.int .u64 (u3428.toNat : Int), .int .i64 a0.fN, v0_1, .int .u64 (a1.toNat : Int), .int .i64 s3786]) hS3430 (.tl (.tl .hd)) rfl rfl rfl rfl rfl rfl (ones_cons rfl ones_nil) rfl) (fun w3787 hS3788 hT3789 => ?_)
          refine RG.nil ?_
          refine MX.seq ?_
          refine MX.region ?_
          refine RG.val' .plain (FV.move rfl) rfl ?_
          refine RG.val' .plain (FV.move rfl) rfl ?_
          refine RG.enter (fst := []) (cap := []) (vs := [.pointer (some ⟨b36, 0, none⟩), .int .i64 z3423]) .plain body64 Tryd.func64 rfl rfl rfl rfl (evs_cons rfl (evs_cons rfl evs_nil)) rfl (fun cs3791 hb3790 => ?_)
          refine MX.seq ?_
          refine MX.region ?_
          refine RG.new .plain rfl (Does.box (vs := [.pointer (some ⟨b36, 0, none⟩)]) hS3788 rfl rfl) (fun w3793 b3796 hS3794 hT3795 => ?_)
          refine RG.new .plain rfl (Does.box (vs := [.int .i64 z3423]) hS3794 rfl rfl) (fun w3798 b3801 hS3799 hT3800 => ?_)
          refine RG.val' .plain (FV.assign rfl) rfl ?_
          refine RG.nil ?_
          refine MX.seq ?_
          refine MX.region ?_
          refine RG.val' .plain (FV.makeFunc (vs := []) (us := [.pointer (some ⟨b3796, 0, none⟩), .pointer (some ⟨b3801, 0, none⟩)]) evs_nil (evs_cons rfl (evs_cons rfl evs_nil))) rfl ?_
          refine RG.val' .plain (FV.assign rfl) rfl ?_
          refine RG.nil ?_
          refine MX.ret rfl ?_
          refine RT.leave (u := .func (.func 86) #[] #[.pointer (some ⟨b3796, 0, none⟩), .pointer (some ⟨b3801, 0, none⟩)]) hb3790 Tryd.func64 rfl (.cons (.tmp rfl) .nil) rfl ?_
          refine RG.enter (fst := []) (cap := []) (vs := [.func (.func 86) #[] #[.pointer (some ⟨b3796, 0, none⟩), .pointer (some ⟨b3801, 0, none⟩)]]) .plain body63 Tryd.func63 rfl rfl rfl rfl (evs_cons rfl evs_nil) rfl (fun cs3803 hb3802 => ?_)
          refine MX.seq ?_
          refine MX.region ?_
          refine RG.val' .plain (FV.assign rfl) rfl ?_
          refine RG.nil ?_
          refine MX.seq ?_
          refine MX.region ?_
          refine RG.val' .plain (FV.move rfl) rfl ?_
          refine RG.enter (fst := []) (cap := []) (vs := [.slice none 0 0, .func (.func 86) #[] #[.pointer (some ⟨b3796, 0, none⟩), .pointer (some ⟨b3801, 0, none⟩)]]) .plain body85 Tryd.func85 rfl rfl rfl rfl (evs_cons rfl (evs_cons rfl evs_nil)) rfl (fun cs3805 hb3804 => ?_)
          refine MX.seq ?_
          refine MX.region ?_
          refine RG.new .plain rfl (Does.box (vs := [.slice none 0 0]) hS3799 rfl rfl) (fun w3807 b3810 hS3808 hT3809 => ?_)
          refine RG.val' .plain (FV.assign rfl) rfl ?_
          refine RG.nil ?_
          refine MX.seq ?_
          refine MX.seq ?_
          refine MX.region ?_
          refine RG.val' .plain (FV.move rfl) rfl ?_
          refine RG.nil ?_
          refine MX.block ?_
          have hS3812 := hS3808.nilRow 3 (Rep.size Int)
          have hT3813 := Tr.nilRow (w := w3807) (O := [.cells b3810 [.slice none 0 0] 22, .cells b3801 [.int .i64 z3423] 3, .cells b3796 [.pointer (some ⟨b36, 0, none⟩)] 72, .row w.heap.size 3 (Rep.size Int) v3427 xs3424.length cs3425, .row w.heap.size 3 (Rep.size Int) v2749 xs2746.length cs2747, .cells b36 [.int .u64 (u3428.toNat : Int), .int .i64 a0.fN, v0_1, .int .u64 (a1.toNat : Int), .int .i64 s3786] 74, .cells b15 [.int .u64 0] 37, .cells b5 [.int .i64 a0.fN, v0_1] 40]) w.heap.size 3 (Rep.size Int)
          have hc3814 : Cells w3807 (bl [.row w.heap.size 3 (Rep.size Int) (.slice none 0 0) (([] : List Int).length) [], .cells b3810 [.slice none 0 0] 22, .cells b3801 [.int .i64 z3423] 3, .cells b3796 [.pointer (some ⟨b36, 0, none⟩)] 72, .row w.heap.size 3 (Rep.size Int) v3427 xs3424.length cs3425, .row w.heap.size 3 (Rep.size Int) v2749 xs2746.length cs2747, .cells b36 [.int .u64 (u3428.toNat : Int), .int .i64 a0.fN, v0_1, .int .u64 (a1.toNat : Int), .int .i64 s3786] 74, .cells b15 [.int .u64 0] 37, .cells b5 [.int .i64 a0.fN, v0_1] 40] ++ L) [] ([] : List Int) := Cells.nil _ _
          refine MX.range (lb := [.pointer (some ⟨b3796, 0, none⟩), .pointer (some ⟨b3801, 0, none⟩)]) rfl hS3812 rfl body86 Tryd.func86 rfl rfl rfl (fun w3815 lk3818 D3819 r3820 cs3823 hS3816 hT3817 rec3821 hb3822 => ?_)
          refine MX.seq ?_
          refine MX.region ?_
          refine RG.val' .plain (FV.assign rfl) rfl ?_
          refine RG.nil ?_
          refine MX.seq ?_
          refine MX.seq ?_
          refine MX.region ?_
          refine RG.val' .plain (FV.load1 (by kernel_rfl) rfl ((hS3816.memA (.tl (.tl (.tl (.tl (.tl .hd)))))) 0 _ rfl)) rfl ?_
          refine RG.val' .plain (FV.nilCheck rfl) rfl ?_
          refine RG.val' .plain (FV.fieldAddr (off := 1) (by kernel_rfl) rfl) rfl ?_
          refine RG.val' .plain (FV.fieldAddr (off := 1) (by kernel_rfl) rfl) rfl ?_
          refine RG.val' .plain (FV.load1 (by kernel_rfl) rfl ((mem_from (hS3816.memA (.tl (.tl (.tl (.tl (.tl (.tl (.tl (.tl .hd))))))))) 1) 1 _ rfl)) rfl ?_
          have hm3827 := Rep.mv h0_1 (Tr.trans hT4 (Tr.trans hT9 (Tr.trans hT14 (Tr.trans hT35 (Tr.trans hT39 (Tr.trans hT2742 (Tr.trans hT2753 (Tr.trans hT2770 (Tr.trans hT3431 (Tr.trans hT3789 (Tr.trans hT3795 (Tr.trans hT3800 (Tr.trans hT3809 (Tr.trans hT3813 hT3817))))))))))))))
          have hl3826 : a0.fEdges.length ≤ 281474976710656 := Rep.lenle hm3827
          refine RG.val' .plain (FV.len (xs := a0.fEdges) Tryd.underlying38 rfl hm3827) rfl ?_
          refine RG.val' .plain (FV.move rfl) rfl ?_
          refine RG.nil ?_
          refine MX.block ?_
          obtain ⟨o3880, ho3879, hh3881⟩ := bind_in2 h
          refine MX.loop (α := UInt64 × Nat) (fun ⟨u3873, i3874⟩ => [(0, .func (.yield lk3818) #[] #[]), (1, .pointer (some ⟨b3796, 0, none⟩)), (2, .pointer (some ⟨b3801, 0, none⟩)), (4, .int .u64 (u3873.toNat : Int)), (11, v0_1), (12, .int .i64 ((a0.fEdges.length : Nat) : Int)), (13, .int .i64 ((i3874 : Nat) : Int))]) (fun ⟨u3873, i3874⟩ wx3874 => St w wx3874 [.obj lk3818 (lpO r3820 .ready none), .obj D3819 (.deferred (some [])), .row w.heap.size 3 (Rep.size Int) (.slice none 0 0) (([] : List Int).length) [], .cells b3810 [(.slice none 0 0)] 22, .cells b3801 [.int .i64 z3423] 3, .cells b3796 [.pointer (some ⟨b36, 0, none⟩)] 72, .row w.heap.size 3 (Rep.size Int) v3427 xs3424.length cs3425, .row w.heap.size 3 (Rep.size Int) v2749 xs2746.length cs2747, .cells b36 [.int .u64 (u3428.toNat : Int), .int .i64 a0.fN, v0_1, .int .u64 (a1.toNat : Int), .int .i64 s3786] 74, .cells b15 [.int .u64 0] 37, .cells b5 [.int .i64 a0.fN, v0_1] 40] ∧ Tr w3815 [.obj lk3818 (lpO r3820 .ready none), .obj D3819 (.deferred (some [])), .row w.heap.size 3 (Rep.size Int) (.slice none 0 0) (([] : List Int).length) [], .cells b3810 [(.slice none 0 0)] 22, .cells b3801 [.int .i64 z3423] 3, .cells b3796 [.pointer (some ⟨b36, 0, none⟩)] 72, .row w.heap.size 3 (Rep.size Int) v3427 xs3424.length cs3425, .row w.heap.size 3 (Rep.size Int) v2749 xs2746.length cs2747, .cells b36 [.int .u64 (u3428.toNat : Int), .int .i64 a0.fN, v0_1, .int .u64 (a1.toNat : Int), .int .i64 s3786] 74, .cells b15 [.int .u64 0] 37, .cells b5 [.int .i64 a0.fN, v0_1] 40] wx3874 [.obj lk3818 (lpO r3820 .ready none), .obj D3819 (.deferred (some [])), .row w.heap.size 3 (Rep.size Int) (.slice none 0 0) (([] : List Int).length) [], .cells b3810 [(.slice none 0 0)] 22, .cells b3801 [.int .i64 z3423] 3, .cells b3796 [.pointer (some ⟨b36, 0, none⟩)] 72, .row w.heap.size 3 (Rep.size Int) v3427 xs3424.length cs3425, .row w.heap.size 3 (Rep.size Int) v2749 xs2746.length cs2747, .cells b36 [.int .u64 (u3428.toNat : Int), .int .i64 a0.fN, v0_1, .int .u64 (a1.toNat : Int), .int .i64 s3786] 74, .cells b15 [.int .u64 0] 37, .cells b5 [.int .i64 a0.fN, v0_1] 40]) (fun ⟨u3873, i3874⟩ => (u3873, i3874)) ((0 : UInt64), 0) ho3879 ⟨rfl, rfl, rfl, rfl, rfl, rfl, rfl, trivial⟩ ⟨hS3816, Tr.refl _ _⟩ ?_
          rintro J3882 ⟨u3873, i3874⟩ wx3874 hJ3883 ⟨hS3875, hT3876⟩ h
          unfold wilson_Draw_l3 at h
          try dsimp only at h
          refine MX.seq ?_
          refine MX.region ?_
          refine RG.val' .plain (FV.lssN (i := i3874) (j := a0.fEdges.length) rfl rfl) rfl ?_
          refine RG.nil ?_
          refine MX.seq ?_
          refine MX.ifd rfl h (fun c3884 h => ?_) (fun c3884 h => ?_)
          ·skip
           refine MX.skip ?_
           refine MX.seq ?_
           refine MX.block ?_
           refine MX.seq ?_
           refine MX.region ?_
           obtain ⟨x3885, hx3885, h⟩ := bind_in h
           have hm3893 := Rep.mv h0_1 (Tr.trans hT4 (Tr.trans hT9 (Tr.trans hT14 (Tr.trans hT35 (Tr.trans hT39 (Tr.trans hT2742 (Tr.trans hT2753 (Tr.trans hT2770 (Tr.trans hT3431 (Tr.trans hT3789 (Tr.trans hT3795 (Tr.trans hT3800 (Tr.trans hT3809 (Tr.trans hT3813 (Tr.trans hT3817 hT3876)))))))))))))))
           obtain ⟨A3886, c3887, he3888, hk3889, cs3890, hr3891, hm3892⟩ := Rep.nth hm3893 hx3885
           obtain rfl := op_A46 hr3891
           refine RG.val' .plain (FV.idxAddr (m := 2) (i := i3874) (by kernel_rfl) rfl he3888 rfl rfl hk3889) rfl ?_
           refine RG.val' .plain (FV.loadN (cs := [.int .i64 x3885.1, .int .i64 x3885.2]) (by kernel_rfl) rfl hm3892) rfl ?_
           refine RG.new .plain rfl (Does.alloc (zs := [.int .i64 0, .int .i64 0]) hS3875 (zB (by kernel_rfl))) (fun w3895 b3898 hS3896 hT3897 => ?_)
           refine RG.now .plain (Acts.store (j := 0) (old := [.int .i64 0, .int .i64 0]) (news := [.int .i64 x3885.1, .int .i64 x3885.2]) (new' := [.int .i64 x3885.1, .int .i64 x3885.2]) hS3896 .hd rfl rfl rfl rfl rfl rfl (ones_cons rfl (ones_cons rfl ones_nil)) rfl) (fun w3899 hS3900 hT3901 => ?_)
           refine RG.nil ?_
           refine MX.seq ?_
           refine MX.region ?_
           refine RG.val' .plain (FV.indexArr (m := 1) (k := 0) (len := 2) (by kernel_rfl) rfl rfl rfl (by omega)) rfl ?_
           refine RG.val' .plain (FV.load1 (by kernel_rfl) rfl ((hS3900.memA .hd) 0 _ rfl)) rfl ?_
           refine RG.val' .plain (FV.load1 (by kernel_rfl) rfl ((hS3900.memA (.tl (.tl (.tl (.tl (.tl .hd)))))) 0 _ rfl)) rfl ?_
           refine RG.val' .plain (FV.eql (i := x3885.1) (j := z3423) rfl rfl) rfl ?_
           refine RG.val' .plain (FV.move rfl) rfl ?_
           refine RG.ifd (s := 21) rfl h (fun c3902 h => ?_) (fun c3902 h => ?_)
           ·skip
            refine RG.off (.no rfl rfl) rfl ?_
            refine RG.off (.no rfl rfl) rfl ?_
            refine RG.off (.no rfl rfl) rfl ?_
            refine RG.off (.no rfl rfl) rfl ?_
            refine RG.val' .plain (FV.pick_t rfl rfl) rfl ?_
            refine RG.nil ?_
            refine MX.cond_t rfl ?_
            refine MX.region ?_
            refine RG.val' .plain (FV.move rfl) rfl ?_
            refine RG.val' .plain (FV.indexArr (m := 1) (k := 0) (len := 2) (by kernel_rfl) rfl rfl rfl (by omega)) rfl ?_
            refine RG.val' .plain (FV.load1 (by kernel_rfl) rfl ((hS3900.memA .hd) 0 _ rfl)) rfl ?_
            refine RG.val' .plain (FV.indexArr (m := 1) (k := 1) (len := 2) (by kernel_rfl) rfl rfl rfl (by omega)) rfl ?_
            refine RG.val' .plain (FV.load1 (by kernel_rfl) rfl ((hS3900.memA .hd) 1 _ rfl)) rfl ?_
            obtain ⟨s3903, hs3903, h⟩ := bind_in h
            refine RG.val' .plain (FV.addc (i := x3885.1) (j := x3885.2) rfl rfl hs3903) rfl ?_
            refine RG.val' .plain (FV.load1 (by kernel_rfl) rfl ((hS3900.memA (.tl (.tl (.tl (.tl (.tl .hd)))))) 0 _ rfl)) rfl ?_
            obtain ⟨s3904, hs3904, h⟩ := bind_in h
            refine RG.val' .plain (FV.subc (i := s3903) (j := z3423) rfl rfl hs3904) rfl ?_
            obtain ⟨k3905, hk3905, h⟩ := bind_in h
            refine RG.val' .plain (FV.shlI (a := (1 : UInt64)) (i := s3904) rfl rfl hk3905) rfl ?_
            refine RG.val' .plain (FV.orU (a := u3873) (b := shlU (1 : UInt64) k3905) rfl rfl) rfl ?_
            refine RG.val' .plain (FV.assign rfl) rfl ?_
            refine RG.nil ?_
            refine MX.inBlock ?_
            refine MX.region ?_
            refine RG.val' .plain (FV.addN (i := i3874) (j := 1) rfl rfl (by omega)) rfl ?_
            refine RG.val' .plain (FV.move rfl) rfl ?_
            refine RG.nil ?_
            have hS3906 : St _ _ [.obj lk3818 (lpO r3820 .ready none), .obj D3819 (.deferred (some [])), .row w.heap.size 3 (Rep.size Int) (.slice none 0 0) (([] : List Int).length) [], .cells b3810 [(.slice none 0 0)] 22, .cells b3801 [.int .i64 z3423] 3, .cells b3796 [.pointer (some ⟨b36, 0, none⟩)] 72, .row w.heap.size 3 (Rep.size Int) v3427 xs3424.length cs3425, .row w.heap.size 3 (Rep.size Int) v2749 xs2746.length cs2747, .cells b36 [.int .u64 (u3428.toNat : Int), .int .i64 a0.fN, v0_1, .int .u64 (a1.toNat : Int), .int .i64 s3786] 74, .cells b15 [.int .u64 0] 37, .cells b5 [.int .i64 a0.fN, v0_1] 40] := hS3900.arr (.one (.tl .hd) (.one (.tl .hd) (.one (.tl .hd) (.one (.tl .hd) (.one (.tl .hd) (.one (.tl .hd) (.one (.tl .hd) (.one (.tl .hd) (.one (.tl .hd) (.one (.tl .hd) (.one (.tl .hd) .done)))))))))))
            have hT3907 : Tr w3899 _ w3899 [.obj lk3818 (lpO r3820 .ready none), .obj D3819 (.deferred (some [])), .row w.heap.size 3 (Rep.size Int) (.slice none 0 0) (([] : List Int).length) [], .cells b3810 [(.slice none 0 0)] 22, .cells b3801 [.int .i64 z3423] 3, .cells b3796 [.pointer (some ⟨b36, 0, none⟩)] 72, .row w.heap.size 3 (Rep.size Int) v3427 xs3424.length cs3425, .row w.heap.size 3 (Rep.size Int) v2749 xs2746.length cs2747, .cells b36 [.int .u64 (u3428.toNat : Int), .int .i64 a0.fN, v0_1, .int .u64 (a1.toNat : Int), .int .i64 s3786] 74, .cells b15 [.int .u64 0] 37, .cells b5 [.int .i64 a0.fN, v0_1] 40] := Tr.arr (St.arrOf hS3900 (.one (.tl .hd) (.one (.tl .hd) (.one (.tl .hd) (.one (.tl .hd) (.one (.tl .hd) (.one (.tl .hd) (.one (.tl .hd) (.one (.tl .hd) (.one (.tl .hd) (.one (.tl .hd) (.one (.tl .hd) .done))))))))))))
            exact hJ3883 (u3873 ||| (shlU (1 : UInt64) k3905), i3874 + 1) _ _ ⟨rfl, rfl, rfl, rfl, rfl, rfl, rfl, trivial⟩ ⟨hS3906, (Tr.trans hT3876 (Tr.trans hT3897 (Tr.trans hT3901 hT3907)))⟩ h
           ·skip
            refine RG.val' (.yes rfl rfl) (FV.indexArr (m := 1) (k := 1) (len := 2) (by kernel_rfl) rfl rfl rfl (by omega)) rfl ?_
            refine RG.val' (.yes rfl rfl) (FV.load1 (by kernel_rfl) rfl ((hS3900.memA .hd) 1 _ rfl)) rfl ?_
            refine RG.val' (.yes rfl rfl) (FV.load1 (by kernel_rfl) rfl ((hS3900.memA (.tl (.tl (.tl (.tl (.tl .hd)))))) 0 _ rfl)) rfl ?_
            refine RG.val' (.yes rfl rfl) (FV.eql (i := x3885.2) (j := z3423) rfl rfl) rfl ?_
            refine RG.val' .plain (FV.pick_f rfl rfl) rfl ?_
            refine RG.nil ?_
            refine MX.join (α := UInt64) (fun u3912 => [(0, .func (.yield lk3818) #[] #[]), (1, .pointer (some ⟨b3796, 0, none⟩)), (2, .pointer (some ⟨b3801, 0, none⟩)), (4, .int .u64 (u3912.toNat : Int)), (11, v0_1), (12, .int .i64 ((a0.fEdges.length : Nat) : Int)), (13, .int .i64 ((i3874 : Nat) : Int))]) (fun u3912 wx3912 => St w wx3912 [.obj lk3818 (lpO r3820 .ready none), .obj D3819 (.deferred (some [])), .row w.heap.size 3 (Rep.size Int) (.slice none 0 0) (([] : List Int).length) [], .cells b3810 [(.slice none 0 0)] 22, .cells b3801 [.int .i64 z3423] 3, .cells b3796 [.pointer (some ⟨b36, 0, none⟩)] 72, .row w.heap.size 3 (Rep.size Int) v3427 xs3424.length cs3425, .row w.heap.size 3 (Rep.size Int) v2749 xs2746.length cs2747, .cells b36 [.int .u64 (u3428.toNat : Int), .int .i64 a0.fN, v0_1, .int .u64 (a1.toNat : Int), .int .i64 s3786] 74, .cells b15 [.int .u64 0] 37, .cells b5 [.int .i64 a0.fN, v0_1] 40] ∧ Tr w3899 [.cells b3898 [.int .i64 x3885.1, .int .i64 x3885.2] 46, .obj lk3818 (lpO r3820 .ready none), .obj D3819 (.deferred (some [])), .row w.heap.size 3 (Rep.size Int) (.slice none 0 0) (([] : List Int).length) [], .cells b3810 [(.slice none 0 0)] 22, .cells b3801 [.int .i64 z3423] 3, .cells b3796 [.pointer (some ⟨b36, 0, none⟩)] 72, .row w.heap.size 3 (Rep.size Int) v3427 xs3424.length cs3425, .row w.heap.size 3 (Rep.size Int) v2749 xs2746.length cs2747, .cells b36 [.int .u64 (u3428.toNat : Int), .int .i64 a0.fN, v0_1, .int .u64 (a1.toNat : Int), .int .i64 s3786] 74, .cells b15 [.int .u64 0] 37, .cells b5 [.int .i64 a0.fN, v0_1] 40] wx3912 [.obj lk3818 (lpO r3820 .ready none), .obj D3819 (.deferred (some [])), .row w.heap.size 3 (Rep.size Int) (.slice none 0 0) (([] : List Int).length) [], .cells b3810 [(.slice none 0 0)] 22, .cells b3801 [.int .i64 z3423] 3, .cells b3796 [.pointer (some ⟨b36, 0, none⟩)] 72, .row w.heap.size 3 (Rep.size Int) v3427 xs3424.length cs3425, .row w.heap.size 3 (Rep.size Int) v2749 xs2746.length cs2747, .cells b36 [.int .u64 (u3428.toNat : Int), .int .i64 a0.fN, v0_1, .int .u64 (a1.toNat : Int), .int .i64 s3786] 74, .cells b15 [.int .u64 0] 37, .cells b5 [.int .i64 a0.fN, v0_1] 40]) (fun u3912 => u3912) h ?_ ?_
            ·skip
             rintro u3912 wx3912 ⟨hS3913, hT3914⟩ h
             try dsimp only at h
             refine MX.inBlock ?_
             refine MX.region ?_
             refine RG.val' .plain (FV.addN (i := i3874) (j := 1) rfl rfl (by omega)) rfl ?_
             refine RG.val' .plain (FV.move rfl) rfl ?_
             refine RG.nil ?_
             exact hJ3883 (u3912, i3874 + 1) _ _ ⟨rfl, rfl, rfl, rfl, rfl, rfl, rfl, trivial⟩ ⟨hS3913, (Tr.trans hT3876 (Tr.trans hT3897 (Tr.trans hT3901 hT3914)))⟩ h
            ·skip
             intro J3916 hJ3917 h
             try dsimp only at h
             refine MX.ifd rfl h (fun c3918 h => ?_) (fun c3918 h => ?_)
             ·skip
              refine MX.region ?_
              refine RG.val' .plain (FV.move rfl) rfl ?_
              refine RG.val' .plain (FV.indexArr (m := 1) (k := 0) (len := 2) (by kernel_rfl) rfl rfl rfl (by omega)) rfl ?_
              refine RG.val' .plain (FV.load1 (by kernel_rfl) rfl ((hS3900.memA .hd) 0 _ rfl)) rfl ?_
              refine RG.val' .plain (FV.indexArr (m := 1) (k := 1) (len := 2) (by kernel_rfl) rfl rfl rfl (by omega)) rfl ?_
              refine RG.val' .plain (FV.load1 (by kernel_rfl) rfl ((hS3900.memA .hd) 1 _ rfl)) rfl ?_
              obtain ⟨s3919, hs3919, h⟩ := bind_in h
              refine RG.val' .plain (FV.addc (i := x3885.1) (j := x3885.2) rfl rfl hs3919) rfl ?_
              refine RG.val' .plain (FV.load1 (by kernel_rfl) rfl ((hS3900.memA (.tl (.tl (.tl (.tl (.tl .hd)))))) 0 _ rfl)) rfl ?_
              obtain ⟨s3920, hs3920, h⟩ := bind_in h
              refine RG.val' .plain (FV.subc (i := s3919) (j := z3423) rfl rfl hs3920) rfl ?_
              obtain ⟨k3921, hk3921, h⟩ := bind_in h
              refine RG.val' .plain (FV.shlI (a := (1 : UInt64)) (i := s3920) rfl rfl hk3921) rfl ?_
              refine RG.val' .plain (FV.orU (a := u3873) (b := shlU (1 : UInt64) k3921) rfl rfl) rfl ?_
              refine RG.val' .plain (FV.assign rfl) rfl ?_
              refine RG.nil ?_
              have hS3922 : St _ _ [.obj lk3818 (lpO r3820 .ready none), .obj D3819 (.deferred (some [])), .row w.heap.size 3 (Rep.size Int) (.slice none 0 0) (([] : List Int).length) [], .cells b3810 [(.slice none 0 0)] 22, .cells b3801 [.int .i64 z3423] 3, .cells b3796 [.pointer (some ⟨b36, 0, none⟩)] 72, .row w.heap.size 3 (Rep.size Int) v3427 xs3424.length cs3425, .row w.heap.size 3 (Rep.size Int) v2749 xs2746.length cs2747, .cells b36 [.int .u64 (u3428.toNat : Int), .int .i64 a0.fN, v0_1, .int .u64 (a1.toNat : Int), .int .i64 s3786] 74, .cells b15 [.int .u64 0] 37, .cells b5 [.int .i64 a0.fN, v0_1] 40] := hS3900.arr (.one (.tl .hd) (.one (.tl .hd) (.one (.tl .hd) (.one (.tl .hd) (.one (.tl .hd) (.one (.tl .hd) (.one (.tl .hd) (.one (.tl .hd) (.one (.tl .hd) (.one (.tl .hd) (.one (.tl .hd) .done)))))))))))
              have hT3923 : Tr w3899 _ w3899 [.obj lk3818 (lpO r3820 .ready none), .obj D3819 (.deferred (some [])), .row w.heap.size 3 (Rep.size Int) (.slice none 0 0) (([] : List Int).length) [], .cells b3810 [(.slice none 0 0)] 22, .cells b3801 [.int .i64 z3423] 3, .cells b3796 [.pointer (some ⟨b36, 0, none⟩)] 72, .row w.heap.size 3 (Rep.size Int) v3427 xs3424.length cs3425, .row w.heap.size 3 (Rep.size Int) v2749 xs2746.length cs2747, .cells b36 [.int .u64 (u3428.toNat : Int), .int .i64 a0.fN, v0_1, .int .u64 (a1.toNat : Int), .int .i64 s3786] 74, .cells b15 [.int .u64 0] 37, .cells b5 [.int .i64 a0.fN, v0_1] 40] := Tr.arr (St.arrOf hS3900 (.one (.tl .hd) (.one (.tl .hd) (.one (.tl .hd) (.one (.tl .hd) (.one (.tl .hd) (.one (.tl .hd) (.one (.tl .hd) (.one (.tl .hd) (.one (.tl .hd) (.one (.tl .hd) (.one (.tl .hd) .done))))))))))))
              exact hJ3917 (u3873 ||| (shlU (1 : UInt64) k3921)) _ _ ⟨rfl, rfl, rfl, rfl, rfl, rfl, rfl, trivial⟩ ⟨hS3922, hT3923⟩ h
             ·skip
              refine MX.skip ?_
              have hS3924 : St _ _ [.obj lk3818 (lpO r3820 .ready none), .obj D3819 (.deferred (some [])), .row w.heap.size 3 (Rep.size Int) (.slice none 0 0) (([] : List Int).length) [], .cells b3810 [(.slice none 0 0)] 22, .cells b3801 [.int .i64 z3423] 3, .cells b3796 [.pointer (some ⟨b36, 0, none⟩)] 72, .row w.heap.size 3 (Rep.size Int) v3427 xs3424.length cs3425, .row w.heap.size 3 (Rep.size Int) v2749 xs2746.length cs2747, .cells b36 [.int .u64 (u3428.toNat : Int), .int .i64 a0.fN, v0_1, .int .u64 (a1.toNat : Int), .int .i64 s3786] 74, .cells b15 [.int .u64 0] 37, .cells b5 [.int .i64 a0.fN, v0_1] 40] := hS3900.arr (.one (.tl .hd) (.one (.tl .hd) (.one (.tl .hd) (.one (.tl .hd) (.one (.tl .hd) (.one (.tl .hd) (.one (.tl .hd) (.one (.tl .hd) (.one (.tl .hd) (.one (.tl .hd) (.one (.tl .hd) .done)))))))))))
              have hT3925 : Tr w3899 _ w3899 [.obj lk3818 (lpO r3820 .ready none), .obj D3819 (.deferred (some [])), .row w.heap.size 3 (Rep.size Int) (.slice none 0 0) (([] : List Int).length) [], .cells b3810 [(.slice none 0 0)] 22, .cells b3801 [.int .i64 z3423] 3, .cells b3796 [.pointer (some ⟨b36, 0, none⟩)] 72, .row w.heap.size 3 (Rep.size Int) v3427 xs3424.length cs3425, .row w.heap.size 3 (Rep.size Int) v2749 xs2746.length cs2747, .cells b36 [.int .u64 (u3428.toNat : Int), .int .i64 a0.fN, v0_1, .int .u64 (a1.toNat : Int), .int .i64 s3786] 74, .cells b15 [.int .u64 0] 37, .cells b5 [.int .i64 a0.fN, v0_1] 40] := Tr.arr (St.arrOf hS3900 (.one (.tl .hd) (.one (.tl .hd) (.one (.tl .hd) (.one (.tl .hd) (.one (.tl .hd) (.one (.tl .hd) (.one (.tl .hd) (.one (.tl .hd) (.one (.tl .hd) (.one (.tl .hd) (.one (.tl .hd) .done))))))))))))
              exact hJ3917 u3873 _ _ ⟨rfl, rfl, rfl, rfl, rfl, rfl, rfl, trivial⟩ ⟨hS3924, hT3925⟩ h
          ·skip
           refine MX.exit rfl ?_
           have h := hh3881 _ h
           try dsimp only at h
           refine MX.seq ?_
           refine MX.region ?_
           refine RG.val' .plain (FV.move rfl) rfl ?_
           refine RG.val' .plain (FV.load1 (by kernel_rfl) rfl ((hS3875.memA (.tl (.tl (.tl (.tl (.tl .hd)))))) 0 _ rfl)) rfl ?_
           refine RG.val' .plain (FV.nilCheck rfl) rfl ?_
           refine RG.val' .plain (FV.fieldAddr (off := 3) (by kernel_rfl) rfl) rfl ?_
           refine RG.val' .plain (FV.load1 (by kernel_rfl) rfl ((hS3875.memA (.tl (.tl (.tl (.tl (.tl (.tl (.tl (.tl .hd))))))))) 3 _ rfl)) rfl ?_
           refine RG.val' .plain (FV.andU (a := u3873) (b := a1) rfl rfl) rfl ?_
           refine RG.val' .plain (FV.assign rfl) rfl ?_
           refine RG.nil ?_
           refine MX.block ?_
           have hm3994 := Cells.mv hc3814 (Tr.trans hT3817 hT3876)
           obtain ⟨o4005, ho4004, hh4006⟩ := bind_in2 h
           refine MX.loop (α := UInt64 × (List Int) × Value × (List Value)) (fun ⟨u3995, xs3996, v3999, cs3997⟩ => [(0, .func (.yield lk3818) #[] #[]), (4, .int .u64 (u3995.toNat : Int))]) (fun ⟨u3995, xs3996, v3999, cs3997⟩ wx3999 => St w wx3999 [.obj lk3818 (lpO r3820 .ready none), .obj D3819 (.deferred (some [])), .row w.heap.size 3 (Rep.size Int) v3999 xs3996.length cs3997, .cells b3810 [v3999] 22, .cells b3801 [.int .i64 z3423] 3, .cells b3796 [.pointer (some ⟨b36, 0, none⟩)] 72, .row w.heap.size 3 (Rep.size Int) v3427 xs3424.length cs3425, .row w.heap.size 3 (Rep.size Int) v2749 xs2746.length cs2747, .cells b36 [.int .u64 (u3428.toNat : Int), .int .i64 a0.fN, v0_1, .int .u64 (a1.toNat : Int), .int .i64 s3786] 74, .cells b15 [.int .u64 0] 37, .cells b5 [.int .i64 a0.fN, v0_1] 40] ∧ Tr wx3874 [.obj lk3818 (lpO r3820 .ready none), .obj D3819 (.deferred (some [])), .row w.heap.size 3 (Rep.size Int) (.slice none 0 0) (([] : List Int).length) [], .cells b3810 [(.slice none 0 0)] 22, .cells b3801 [.int .i64 z3423] 3, .cells b3796 [.pointer (some ⟨b36, 0, none⟩)] 72, .row w.heap.size 3 (Rep.size Int) v3427 xs3424.length cs3425, .row w.heap.size 3 (Rep.size Int) v2749 xs2746.length cs2747, .cells b36 [.int .u64 (u3428.toNat : Int), .int .i64 a0.fN, v0_1, .int .u64 (a1.toNat : Int), .int .i64 s3786] 74, .cells b15 [.int .u64 0] 37, .cells b5 [.int .i64 a0.fN, v0_1] 40] wx3999 [.obj lk3818 (lpO r3820 .ready none), .obj D3819 (.deferred (some [])), .row w.heap.size 3 (Rep.size Int) v3999 xs3996.length cs3997, .cells b3810 [v3999] 22, .cells b3801 [.int .i64 z3423] 3, .cells b3796 [.pointer (some ⟨b36, 0, none⟩)] 72, .row w.heap.size 3 (Rep.size Int) v3427 xs3424.length cs3425, .row w.heap.size 3 (Rep.size Int) v2749 xs2746.length cs2747, .cells b36 [.int .u64 (u3428.toNat : Int), .int .i64 a0.fN, v0_1, .int .u64 (a1.toNat : Int), .int .i64 s3786] 74, .cells b15 [.int .u64 0] 37, .cells b5 [.int .i64 a0.fN, v0_1] 40] ∧ Cells wx3999 (bl [.obj lk3818 (lpO r3820 .ready none), .obj D3819 (.deferred (some [])), .row w.heap.size 3 (Rep.size Int) v3999 xs3996.length cs3997, .cells b3810 [v3999] 22, .cells b3801 [.int .i64 z3423] 3, .cells b3796 [.pointer (some ⟨b36, 0, none⟩)] 72, .row w.heap.size 3 (Rep.size Int) v3427 xs3424.length cs3425, .row w.heap.size 3 (Rep.size Int) v2749 xs2746.length cs2747, .cells b36 [.int .u64 (u3428.toNat : Int), .int .i64 a0.fN, v0_1, .int .u64 (a1.toNat : Int), .int .i64 s3786] 74, .cells b15 [.int .u64 0] 37, .cells b5 [.int .i64 a0.fN, v0_1] 40] ++ L) cs3997 xs3996) (fun ⟨u3995, xs3996, v3999, cs3997⟩ => (u3995, xs3996)) (u3873 &&& a1, ([] : List Int), (.slice none 0 0), []) ho4004 ⟨rfl, rfl, trivial⟩ ⟨hS3875, Tr.refl _ _, hm3994⟩ ?_
           rintro J4007 ⟨u3995, xs3996, v3999, cs3997⟩ wx3999 hJ4008 ⟨hS4000, hT4001, hc3998⟩ h
           unfold wilson_Draw_l2 at h
           try dsimp only at h
           refine MX.seq ?_
           refine MX.seq ?_
           refine MX.region ?_
           refine RG.val' .plain (FV.move rfl) rfl ?_
           refine RG.val' .plain (FV.neqU (a := u3995) (b := (0 : UInt64)) rfl rfl) rfl ?_
           refine RG.nil ?_
           refine MX.ifn rfl h (fun c4009 h => ?_) (fun c4009 h => ?_)
           ·skip
            refine MX.exit rfl ?_
            have h := hh4006 _ h
            try dsimp only at h
            refine MX.fin rfl ?_
            refine RT.leave (u := .tuple #[]) hb3822 Tryd.func86 rfl .nil rfl ?_
            refine MX.endRange0 hS4000 .hd (by intro h9; cases h9) (fun w4010 hS4011 hT4012 => ?_)
            have hS4013 : St _ _ [.obj D3819 (.deferred (some [])), .row w.heap.size 3 (Rep.size Int) v3999 xs3996.length cs3997, .cells b3810 [v3999] 22, .cells b3801 [.int .i64 z3423] 3, .cells b3796 [.pointer (some ⟨b36, 0, none⟩)] 72, .row w.heap.size 3 (Rep.size Int) v3427 xs3424.length cs3425, .row w.heap.size 3 (Rep.size Int) v2749 xs2746.length cs2747, .cells b36 [.int .u64 (u3428.toNat : Int), .int .i64 a0.fN, v0_1, .int .u64 (a1.toNat : Int), .int .i64 s3786] 74, .cells b15 [.int .u64 0] 37, .cells b5 [.int .i64 a0.fN, v0_1] 40] := hS4011.arr (.one (.tl .hd) (.one (.tl .hd) (.one (.tl .hd) (.one (.tl .hd) (.one (.tl .hd) (.one (.tl .hd) (.one (.tl .hd) (.one (.tl .hd) (.one (.tl .hd) (.one (.tl .hd) .done))))))))))
            have hT4014 : Tr w4010 _ w4010 [.obj D3819 (.deferred (some [])), .row w.heap.size 3 (Rep.size Int) v3999 xs3996.length cs3997, .cells b3810 [v3999] 22, .cells b3801 [.int .i64 z3423] 3, .cells b3796 [.pointer (some ⟨b36, 0, none⟩)] 72, .row w.heap.size 3 (Rep.size Int) v3427 xs3424.length cs3425, .row w.heap.size 3 (Rep.size Int) v2749 xs2746.length cs2747, .cells b36 [.int .u64 (u3428.toNat : Int), .int .i64 a0.fN, v0_1, .int .u64 (a1.toNat : Int), .int .i64 s3786] 74, .cells b15 [.int .u64 0] 37, .cells b5 [.int .i64 a0.fN, v0_1] 40] := Tr.arr (St.arrOf hS4011 (.one (.tl .hd) (.one (.tl .hd) (.one (.tl .hd) (.one (.tl .hd) (.one (.tl .hd) (.one (.tl .hd) (.one (.tl .hd) (.one (.tl .hd) (.one (.tl .hd) (.one (.tl .hd) .done)))))))))))
            refine MX.inBlock ?_
            refine MX.seq ?_
            refine MX.region ?_
            refine RG.val' .plain (FV.load1 (by kernel_rfl) rfl ((hS4013.memA (.tl (.tl .hd))) 0 _ rfl)) rfl ?_
            refine RG.val' .plain (FV.assign rfl) rfl ?_
            refine RG.nil ?_
            refine MX.ret rfl ?_
            refine RT.take hS4013 .hd (fun w4015 hS4016 hT4017 => ?_)
            have hS4018 : St _ _ [.row w.heap.size 3 (Rep.size Int) v3999 xs3996.length cs3997, .cells b3810 [v3999] 22, .cells b3801 [.int .i64 z3423] 3, .cells b3796 [.pointer (some ⟨b36, 0, none⟩)] 72, .row w.heap.size 3 (Rep.size Int) v3427 xs3424.length cs3425, .row w.heap.size 3 (Rep.size Int) v2749 xs2746.length cs2747, .cells b36 [.int .u64 (u3428.toNat : Int), .int .i64 a0.fN, v0_1, .int .u64 (a1.toNat : Int), .int .i64 s3786] 74, .cells b15 [.int .u64 0] 37, .cells b5 [.int .i64 a0.fN, v0_1] 40] := hS4016.arr (.one (.tl .hd) (.one (.tl .hd) (.one (.tl .hd) (.one (.tl .hd) (.one (.tl .hd) (.one (.tl .hd) (.one (.tl .hd) (.one (.tl .hd) (.one (.tl .hd) .done)))))))))
            have hT4019 : Tr w4015 _ w4015 [.row w.heap.size 3 (Rep.size Int) v3999 xs3996.length cs3997, .cells b3810 [v3999] 22, .cells b3801 [.int .i64 z3423] 3, .cells b3796 [.pointer (some ⟨b36, 0, none⟩)] 72, .row w.heap.size 3 (Rep.size Int) v3427 xs3424.length cs3425, .row w.heap.size 3 (Rep.size Int) v2749 xs2746.length cs2747, .cells b36 [.int .u64 (u3428.toNat : Int), .int .i64 a0.fN, v0_1, .int .u64 (a1.toNat : Int), .int .i64 s3786] 74, .cells b15 [.int .u64 0] 37, .cells b5 [.int .i64 a0.fN, v0_1] 40] := Tr.arr (St.arrOf hS4016 (.one (.tl .hd) (.one (.tl .hd) (.one (.tl .hd) (.one (.tl .hd) (.one (.tl .hd) (.one (.tl .hd) (.one (.tl .hd) (.one (.tl .hd) (.one (.tl .hd) .done))))))))))
            refine RT.leave (u := v3999) hb3804 Tryd.func85 rfl (.cons (.tmp rfl) .nil) rfl ?_
            refine RG.val' .plain (FV.assign rfl) rfl ?_
            refine RG.nil ?_
            refine MX.ret rfl ?_
            refine RT.leave (u := v3999) hb3802 Tryd.func63 rfl (.cons (.tmp rfl) .nil) rfl ?_
            refine RG.val' .plain (FV.move rfl) rfl ?_
            refine RG.enter (fst := []) (cap := []) (vs := [v3999, .func (.func 61) #[.pointer (some ⟨b36, 0, none⟩)] #[]]) .plain body62 Tryd.func62 rfl rfl rfl rfl (evs_cons rfl (evs_cons rfl evs_nil)) rfl (fun cs4021 hb4020 => ?_)
            refine MX.seq ?_
            refine MX.region ?_
            refine RG.val' .plain (FV.assign rfl) rfl ?_
            refine RG.val' .plain (FV.assign rfl) rfl ?_
            refine RG.nil ?_
            refine MX.seq ?_
            refine MX.region ?_
            refine RG.val' .plain (FV.move rfl) rfl ?_
            refine RG.val' .plain (FV.move rfl) rfl ?_
            have hl4022 : xs3996.length ≤ 4294967296 := St.rowLe (α := Int) hS4018 .hd
            obtain ⟨A4023, c4024, he4025⟩ := St.rowV (α := Int) hS4018 .hd
            refine RG.val' .plain (FV.lenV Tryd.underlying22 rfl he4025) rfl ?_
            refine RG.enter (fst := [.pointer (some ⟨b36, 0, none⟩)]) (cap := []) (vs := [.int .i64 ((xs3996.length : Nat) : Int)]) .plain body61 Tryd.func61 rfl rfl rfl rfl (evs_cons rfl evs_nil) rfl (fun cs4027 hb4026 => ?_)
            refine MX.seq ?_
            refine MX.region ?_
            refine RG.val' .plain (FV.assign rfl) rfl ?_
            refine RG.val' .plain (FV.assign rfl) rfl ?_
            refine RG.nil ?_
            refine MX.seq ?_
            refine MX.region ?_
            refine RG.val' .plain (FV.move rfl) rfl ?_
            refine RG.val' .plain (FV.nilCheck rfl) rfl ?_
            refine RG.val' .plain (FV.fieldAddr (off := 0) (by kernel_rfl) rfl) rfl ?_
            refine RG.val' .plain (FV.loadN (cs := [.int .u64 (u3428.toNat : Int)]) (by kernel_rfl) rfl (mem_part (hS4018.memA (.tl (.tl (.tl (.tl (.tl (.tl .hd))))))) 0 1)) rfl ?_
            refine RG.val' .plain (FV.move rfl) rfl ?_
            obtain ⟨y4028, hy4028, h⟩ := bind_in h
            refine RG.callq' (v := .tuple #[.int .i64 y4028.1, .agg #[.int .u64 (y4028.2.1.fState.toNat : Int)], .int .i64 y4028.2.2]) (fst := []) (cap := []) .plain body29 rfl (evs_cons rfl (evs_cons rfl evs_nil)) (fun w9 hw9 => chance_Below_c n _ w9 (hS4018.hL0 hL hw9) (⟨u3428⟩ : TChance) ((xs3996.length : Nat) : Int) hy4028) rfl ?_
            refine RG.val' .plain (FV.move rfl) rfl ?_
            refine RG.val' .plain (FV.extract rfl rfl) rfl ?_
            refine RG.val' .plain (FV.extract rfl rfl) rfl ?_
            refine RG.val' .plain (FV.extract rfl rfl) rfl ?_
            refine RG.new .plain rfl (Does.alloc (zs := [.int .u64 0]) hS4018 (zB (by kernel_rfl))) (fun w4030 b4033 hS4031 hT4032 => ?_)
            refine RG.val' .plain (FV.assign rfl) rfl ?_
            refine RG.now .plain (Acts.store (j := 0) (old := [.int .u64 0]) (news := [.int .u64 (y4028.2.1.fState.toNat : Int)]) (new' := [.int .u64 (y4028.2.1.fState.toNat : Int)]) hS4031 .hd rfl rfl rfl rfl rfl rfl (ones_cons rfl ones_nil) rfl) (fun w4034 hS4035 hT4036 => ?_)
            refine RG.val' .plain (FV.assign rfl) rfl ?_
            refine RG.nil ?_
            refine MX.seq ?_
            refine MX.region ?_
            refine RG.val' .plain (FV.move rfl) rfl ?_
            refine RG.val' .plain (FV.loadN (cs := [.int .u64 (y4028.2.1.fState.toNat : Int)]) (by kernel_rfl) rfl (hS4035.memA .hd)) rfl ?_
            refine RG.val' .plain (FV.nilCheck rfl) rfl ?_
            refine RG.val' .plain (FV.fieldAddr (off := 0) (by kernel_rfl) rfl) rfl ?_
            refine RG.now .plain (Acts.store (j := 0) (old := [.int .u64 (u3428.toNat : Int), .int .i64 a0.fN, v0_1, .int .u64 (a1.toNat : Int), .int .i64 s3786]) (news := [.int .u64 (y4028.2.1.fState.toNat : Int)]) (new' := [.int .u64 (y4028.2.1.fState.toNat : Int), .int .i64 a0.fN, v0_1, .int .u64 (a1.toNat : Int), .int .i64 s3786]) hS4035 (.tl (.tl (.tl (.tl (.tl (.tl (.tl .hd))))))) rfl rfl rfl rfl rfl rfl (ones_cons rfl ones_nil) rfl) (fun w4037 hS4038 hT4039 => ?_)
            refine RG.nil ?_
            refine MX.seq ?_
            refine MX.region ?_
            refine RG.val' .plain (FV.move rfl) rfl ?_
            refine RG.val' .plain (FV.move rfl) rfl ?_
            refine RG.val' .plain (FV.assign rfl) rfl ?_
            refine RG.val' .plain (FV.assign rfl) rfl ?_
            refine RG.nil ?_
            refine MX.ret rfl ?_
            refine RT.leave (u := .tuple #[.int .i64 y4028.1, .int .i64 y4028.2.2]) hb4026 Tryd.func61 rfl (.cons (.tmp rfl) (.cons (.tmp rfl) .nil)) rfl ?_
            refine RG.val' .plain (FV.move rfl) rfl ?_
            refine RG.val' .plain (FV.extract rfl rfl) rfl ?_
            refine RG.val' .plain (FV.extract rfl rfl) rfl ?_
            refine RG.val' .plain (FV.assign rfl) rfl ?_
            refine RG.val' .plain (FV.assign rfl) rfl ?_
            refine RG.nil ?_
            refine MX.seq ?_
            refine MX.seq ?_
            refine MX.region ?_
            refine RG.val' .plain (FV.move rfl) rfl ?_
            refine RG.val' .plain (FV.neq (i := y4028.2.2) (j := 0) rfl rfl) rfl ?_
            refine RG.nil ?_
            refine MX.ifn rfl h (fun c4040 h => ?_) (fun c4040 h => ?_)
            ·skip
             refine MX.skip ?_
             refine MX.seq ?_
             refine MX.region ?_
             refine RG.val' .plain (FV.move rfl) rfl ?_
             refine RG.val' .plain (FV.move rfl) rfl ?_
             obtain ⟨x4041, hx4041, h⟩ := bind_in h
             obtain ⟨hi4042, hx4043⟩ := idx_in hx4041
             have hm4051 := Cells.mv hc3998 (Tr.trans hT4012 (Tr.trans hT4014 (Tr.trans hT4017 (Tr.trans hT4019 (Tr.trans hT4032 (Tr.trans hT4036 hT4039))))))
             obtain ⟨A4044, c4045, he4046, hk4047, cs4048, hr4049, hm4050⟩ := St.nth (α := Int) hS4038 (.tl .hd) hm4051 hx4043
             obtain ⟨b4052, c4053, he4054⟩ := St.nthOwn (α := Int) hS4038 (.tl .hd) hk4047
             obtain rfl : A4044 = ⟨b4052, 0, none⟩ := by rw [he4054] at he4046; cases he4046; rfl
             have he4055 : cs4048 = [.int .i64 x4041] := hr4049; subst he4055
             refine RG.val' .plain (FV.idxAddr (m := 1) (i := y4028.1.toNat) (by kernel_rfl) rfl he4046 rfl hi4042 hk4047) rfl ?_
             refine RG.val' .plain (FV.load1 (by kernel_rfl) rfl (hm4050 0 _ rfl)) rfl ?_
             refine RG.val' .plain (FV.assign rfl) rfl ?_
             refine RG.val' .plain (FV.assign rfl) rfl ?_
             refine RG.nil ?_
             refine MX.ret rfl ?_
             refine RT.leave (u := .tuple #[.int .i64 x4041, .int .i64 0]) hb4020 Tryd.func62 rfl (.cons (.tmp rfl) (.cons (.tmp rfl) .nil)) rfl ?_
             refine RG.val' .plain (FV.move rfl) rfl ?_
             refine RG.val' .plain (FV.extract rfl rfl) rfl ?_
             refine RG.val' .plain (FV.extract rfl rfl) rfl ?_
             refine RG.val' .plain (FV.assign rfl) rfl ?_
             refine RG.val' .plain (FV.assign rfl) rfl ?_
             refine RG.nil ?_
             refine MX.seq ?_
             refine MX.seq ?_
             refine MX.region ?_
             refine RG.val' .plain (FV.move rfl) rfl ?_
             refine RG.val' .plain (FV.neqN (i := 0) (j := 0) rfl rfl) rfl ?_
             refine RG.nil ?_
             refine MX.cond_f rfl ?_
             refine MX.skip ?_
             refine MX.seq ?_
             refine MX.region ?_
             refine RG.val' .plain (FV.move rfl) rfl ?_
             refine RG.val' .plain (FV.assign rfl) rfl ?_
             refine RG.nil ?_
             refine MX.region ?_
             refine RG.val' .plain (FV.move rfl) rfl ?_
             refine RG.val' .plain (FV.move rfl) rfl ?_
             refine RG.new .plain rfl (Does.build (α := Int) (xs := ([x4041] : List Int)) (vs := [.int .i64 x4041]) (ds' := [.int .i64 x4041]) rfl hS4038 el22 rfl (evs_cons rfl evs_nil) (by kernel_rfl) rfl) (fun w4057 b4060 hS4058 hT4059 => ?_)
             have hc4061 : Cells w4057 (bl [.row w.heap.size 3 (Rep.size Int) (.slice (some ⟨b4060, 0, none⟩) 1 1) (([x4041] : List Int).length) [.int .i64 x4041], .cells b4033 [.int .u64 (y4028.2.1.fState.toNat : Int)] 37, .row w.heap.size 3 (Rep.size Int) v3999 xs3996.length cs3997, .cells b3810 [v3999] 22, .cells b3801 [.int .i64 z3423] 3, .cells b3796 [.pointer (some ⟨b36, 0, none⟩)] 72, .row w.heap.size 3 (Rep.size Int) v3427 xs3424.length cs3425, .row w.heap.size 3 (Rep.size Int) v2749 xs2746.length cs2747, .cells b36 [.int .u64 (y4028.2.1.fState.toNat : Int), .int .i64 a0.fN, v0_1, .int .u64 (a1.toNat : Int), .int .i64 s3786] 74, .cells b15 [.int .u64 0] 37, .cells b5 [.int .i64 a0.fN, v0_1] 40] ++ L) [.int .i64 x4041] (([x4041] : List Int) : List Int) := Cells.cons (cs := [.int .i64 x4041]) (ds := []) rfl (Cells.nil _ _)
             obtain ⟨xs4062, hxs4062, h⟩ := bind_in h
             have hm4063 := Cells.mv hc3426 (Tr.trans hT3789 (Tr.trans hT3795 (Tr.trans hT3800 (Tr.trans hT3809 (Tr.trans hT3813 (Tr.trans hT3817 (Tr.trans hT3876 (Tr.trans hT4001 (Tr.trans hT4012 (Tr.trans hT4014 (Tr.trans hT4017 (Tr.trans hT4019 (Tr.trans hT4032 (Tr.trans hT4036 (Tr.trans hT4039 hT4059)))))))))))))))
             refine RG.doesL .plain rfl (DoesL.app (α := Int) (ys := ([x4041] : List Int)) (F := fun v' cs' => [.row w.heap.size 3 (Rep.size Int) (.slice (some ⟨b4060, 0, none⟩) 1 1) (([x4041] : List Int).length) [.int .i64 x4041], .cells b4033 [.int .u64 (y4028.2.1.fState.toNat : Int)] 37, .row w.heap.size 3 (Rep.size Int) v3999 xs3996.length cs3997, .cells b3810 [v3999] 22, .cells b3801 [.int .i64 z3423] 3, .cells b3796 [.pointer (some ⟨b36, 0, none⟩)] 72, .row w.heap.size 3 (Rep.size Int) v' xs4062.length cs', .row w.heap.size 3 (Rep.size Int) v2749 xs2746.length cs2747, .cells b36 [.int .u64 (y4028.2.1.fState.toNat : Int), .int .i64 a0.fN, v0_1, .int .u64 (a1.toNat : Int), .int .i64 s3786] 74, .cells b15 [.int .u64 0] 37, .cells b5 [.int .i64 a0.fN, v0_1] 40]) hxs4062 hS4058 (fun _ _ => (.tl (.tl (.tl (.tl (.tl (.tl .hd))))))) el22 rfl rfl hm4063 (Src.row (α := Int) hS4058 .hd hc4061)) (fun v4069 w4064 ⟨cs4068, hS4065, hT4066, hc4067⟩ => ?_)
             refine RG.val' .plain (FV.assign rfl) rfl ?_
             refine RG.nil ?_
             refine MX.inBlock ?_
             have hS4071 : St _ _ [.row w.heap.size 3 (Rep.size Int) v4069 xs4062.length cs4068, .row w.heap.size 3 (Rep.size Int) v2749 xs2746.length cs2747, .cells b36 [.int .u64 (y4028.2.1.fState.toNat : Int), .int .i64 a0.fN, v0_1, .int .u64 (a1.toNat : Int), .int .i64 s3786] 74, .cells b15 [.int .u64 0] 37, .cells b5 [.int .i64 a0.fN, v0_1] 40] := hS4065.arr (.one (.tl (.tl (.tl (.tl (.tl (.tl .hd)))))) (.one (.tl (.tl (.tl (.tl (.tl (.tl .hd)))))) (.one (.tl (.tl (.tl (.tl (.tl (.tl .hd)))))) (.one (.tl (.tl (.tl (.tl (.tl (.tl .hd)))))) (.one (.tl (.tl (.tl (.tl (.tl (.tl .hd)))))) .done)))))
             have hT4072 : Tr w4064 _ w4064 [.row w.heap.size 3 (Rep.size Int) v4069 xs4062.length cs4068, .row w.heap.size 3 (Rep.size Int) v2749 xs2746.length cs2747, .cells b36 [.int .u64 (y4028.2.1.fState.toNat : Int), .int .i64 a0.fN, v0_1, .int .u64 (a1.toNat : Int), .int .i64 s3786] 74, .cells b15 [.int .u64 0] 37, .cells b5 [.int .i64 a0.fN, v0_1] 40] := Tr.arr (St.arrOf hS4065 (.one (.tl (.tl (.tl (.tl (.tl (.tl .hd)))))) (.one (.tl (.tl (.tl (.tl (.tl (.tl .hd)))))) (.one (.tl (.tl (.tl (.tl (.tl (.tl .hd)))))) (.one (.tl (.tl (.tl (.tl (.tl (.tl .hd)))))) (.one (.tl (.tl (.tl (.tl (.tl (.tl .hd)))))) .done))))))
             have hm4073 := Cells.mv hc4067 hT4072
             exact hJ3438 (x4041, xs4062, y4028.2.1.fState, s3786, v4069, cs4068) _ _ ⟨rfl, rfl, rfl, rfl, rfl, trivial⟩ ⟨hS4071, (Tr.trans hT3431 (Tr.trans hT3789 (Tr.trans hT3795 (Tr.trans hT3800 (Tr.trans hT3809 (Tr.trans hT3813 (Tr.trans hT3817 (Tr.trans hT3876 (Tr.trans hT4001 (Tr.trans hT4012 (Tr.trans hT4014 (Tr.trans hT4017 (Tr.trans hT4019 (Tr.trans hT4032 (Tr.trans hT4036 (Tr.trans hT4039 (Tr.trans hT4059 (Tr.trans hT4066 hT4072)))))))))))))))))), hm4073⟩ h
            ·skip
             refine MX.seq ?_
             refine MX.region ?_
             refine RG.val' .plain (FV.assign rfl) rfl ?_
             refine RG.nil ?_
             refine MX.seq ?_
             refine MX.region ?_
             refine RG.val' .plain (FV.move rfl) rfl ?_
             refine RG.val' .plain (FV.move rfl) rfl ?_
             refine RG.val' .plain (FV.assign rfl) rfl ?_
             refine RG.val' .plain (FV.assign rfl) rfl ?_
             refine RG.nil ?_
             refine MX.ret rfl ?_
             refine RT.leave (u := .tuple #[.int .i64 0, .int .i64 y4028.2.2]) hb4020 Tryd.func62 rfl (.cons (.tmp rfl) (.cons (.tmp rfl) .nil)) rfl ?_
             refine RG.val' .plain (FV.move rfl) rfl ?_
             refine RG.val' .plain (FV.extract rfl rfl) rfl ?_
             refine RG.val' .plain (FV.extract rfl rfl) rfl ?_
             refine RG.val' .plain (FV.assign rfl) rfl ?_
             refine RG.val' .plain (FV.assign rfl) rfl ?_
             refine RG.nil ?_
             refine MX.seq ?_
             refine MX.seq ?_
             refine MX.region ?_
             refine RG.val' .plain (FV.move rfl) rfl ?_
             refine RG.val' .plain (FV.neq (i := y4028.2.2) (j := 0) rfl rfl) rfl ?_
             refine RG.nil ?_
             refine MX.cond_kt rfl (not_of (decide_eq_false c4040)) ?_
             refine MX.seq ?_
             refine MX.region ?_
             refine RG.val' .plain (FV.move rfl) rfl ?_
             refine RG.val' .plain (FV.assign rfl) rfl ?_
             refine RG.val' .plain (FV.assign rfl) rfl ?_
             refine RG.nil ?_
             have h := thn_inl h hh3436
             refine MX.ret rfl ?_
             refine RT.leave (u := .tuple #[.slice none 0 0, .int .i64 y4028.2.2]) hb2765 Tryd.func34 rfl (.cons (.tmp rfl) (.cons (.tmp rfl) .nil)) rfl ?_
             refine RG.val' .plain (FV.move rfl) rfl ?_
             refine RG.val' .plain (FV.extract rfl rfl) rfl ?_
             refine RG.val' .plain (FV.extract rfl rfl) rfl ?_
             refine RG.val' .plain (FV.assign rfl) rfl ?_
             refine RG.val' .plain (FV.assign rfl) rfl ?_
             refine RG.nil ?_
             refine MX.seq ?_
             refine MX.seq ?_
             refine MX.region ?_
             refine RG.val' .plain (FV.move rfl) rfl ?_
             refine RG.val' .plain (FV.neq (i := y4028.2.2) (j := 0) rfl rfl) rfl ?_
             refine RG.nil ?_
             refine MX.cond_kt rfl (not_of (decide_eq_false c4040)) ?_
             refine MX.seq ?_
             refine MX.region ?_
             refine RG.val' .plain (FV.buildV (vs := []) (u := .agg #[.int .u64 0]) evs_nil (fun w9 => by kernel_rfl)) rfl ?_
             refine RG.val' .plain (FV.move rfl) rfl ?_
             refine RG.val' .plain (FV.assign rfl) rfl ?_
             refine RG.now .plain (Acts.store (j := 0) (old := [.int .u64 0]) (news := [.int .u64 0]) (new' := [.int .u64 0]) hS4038 (.tl (.tl (.tl (.tl (.tl (.tl (.tl (.tl .hd)))))))) rfl rfl rfl rfl rfl rfl (ones_cons rfl ones_nil) rfl) (fun w4074 hS4075 hT4076 => ?_)
             refine RG.val' .plain (FV.assign rfl) rfl ?_
             refine RG.nil ?_
             have h := thn_inl h hh2758
             refine MX.ret rfl ?_
             have hr4077 : Rep.R w4074 (bl [.cells b4033 [.int .u64 (y4028.2.1.fState.toNat : Int)] 37, .row w.heap.size 3 (Rep.size Int) v3999 xs3996.length cs3997, .cells b3810 [v3999] 22, .cells b3801 [.int .i64 z3423] 3, .cells b3796 [.pointer (some ⟨b36, 0, none⟩)] 72, .row w.heap.size 3 (Rep.size Int) v3427 xs3424.length cs3425, .row w.heap.size 3 (Rep.size Int) v2749 xs2746.length cs2747, .cells b36 [.int .u64 (y4028.2.1.fState.toNat : Int), .int .i64 a0.fN, v0_1, .int .u64 (a1.toNat : Int), .int .i64 s3786] 74, .cells b15 [.int .u64 0] 37, .cells b5 [.int .i64 a0.fN, v0_1] 40] ++ L) [.slice none 0 0] ([] : List Int) := Rep.nilSlice _ _
             refine RT.leave (u := .tuple #[.slice none 0 0, .agg #[.int .u64 0], .int .i64 y4028.2.2]) hb0 Tryd.func14 rfl (.cons (.tmp rfl) (.cons (.many (cs := [.int .u64 0]) (by kernel_rfl) rfl (hS4075.memA (.tl (.tl (.tl (.tl (.tl (.tl (.tl (.tl .hd)))))))))) (.cons (.tmp rfl) .nil))) rfl ?_
             obtain rfl := Option.some.inj h
             have hr4078 : Rep.R w4074 (bl [.cells b4033 [.int .u64 (y4028.2.1.fState.toNat : Int)] 37, .row w.heap.size 3 (Rep.size Int) v3999 xs3996.length cs3997, .cells b3810 [v3999] 22, .cells b3801 [.int .i64 z3423] 3, .cells b3796 [.pointer (some ⟨b36, 0, none⟩)] 72, .row w.heap.size 3 (Rep.size Int) v3427 xs3424.length cs3425, .row w.heap.size 3 (Rep.size Int) v2749 xs2746.length cs2747, .cells b36 [.int .u64 (y4028.2.1.fState.toNat : Int), .int .i64 a0.fN, v0_1, .int .u64 (a1.toNat : Int), .int .i64 s3786] 74, .cells b15 [.int .u64 0] 37, .cells b5 [.int .i64 a0.fN, v0_1] 40] ++ L) [.slice none 0 0] ([] : List Int) := Rep.nilSlice _ _
             exact ⟨hS4075.ag, fun w9 hw9 => ⟨(.slice none 0 0), rfl, Rep.keep0 (Rep.dropO (O := [.cells b4033 [.int .u64 (y4028.2.1.fState.toNat : Int)] 37, .row w.heap.size 3 (Rep.size Int) v3999 xs3996.length cs3997, .cells b3810 [v3999] 22, .cells b3801 [.int .i64 z3423] 3, .cells b3796 [.pointer (some ⟨b36, 0, none⟩)] 72, .row w.heap.size 3 (Rep.size Int) v3427 xs3424.length cs3425, .row w.heap.size 3 (Rep.size Int) v2749 xs2746.length cs2747, .cells b36 [.int .u64 (y4028.2.1.fState.toNat : Int), .int .i64 a0.fN, v0_1, .int .u64 (a1.toNat : Int), .int .i64 s3786] 74, .cells b15 [.int .u64 0] 37, .cells b5 [.int .i64 a0.fN, v0_1] 40]) hr4078) hw9⟩⟩
           ·skip
            refine MX.skip ?_
            refine MX.seq ?_
            refine MX.block ?_
            refine MX.seq ?_
            refine MX.region ?_
            refine RG.val' .plain (FV.move rfl) rfl ?_
            refine RG.val' .plain (FV.move rfl) rfl ?_
            obtain ⟨y4079, hy4079, h⟩ := bind_in h
            refine RG.callq' (v := .int .i64 y4079) (fst := []) (cap := []) .plain body77 rfl (evs_cons rfl evs_nil) (fun w9 hw9 => math_bits_TrailingZeros64_c n _ w9 (hS4000.hL0 hL hw9) u3995 (hG0.keep (hS4000.ag.trans hw9)) hy4079) rfl ?_
            refine RG.yield (vs := [.int .i64 y4079]) .plain rfl (evs_cons rfl evs_nil) hS4000 .hd rec3821 rfl rfl rfl (fun cs4081 hb4080 => ?_)
            refine MX.region ?_
            refine RG.val' .plain (FV.assign rfl) rfl ?_
            refine RG.nil ?_
            refine MX.begin hS4000 .hd (fun w4082 hS4083 hT4084 => ?_)
            refine MX.block ?_
            refine MX.region ?_
            refine RG.val' .plain (FV.load1 (by kernel_rfl) rfl ((hS4083.memA (.tl (.tl (.tl .hd)))) 0 _ rfl)) rfl ?_
            refine RG.val' .plain (FV.move rfl) rfl ?_
            refine RG.new .plain rfl (Does.build (α := Int) (xs := ([y4079] : List Int)) (vs := [.int .i64 y4079]) (ds' := [.int .i64 y4079]) rfl hS4083 el22 rfl (evs_cons rfl evs_nil) (by kernel_rfl) rfl) (fun w4086 b4089 hS4087 hT4088 => ?_)
            have hc4090 : Cells w4086 (bl [.row w.heap.size 3 (Rep.size Int) (.slice (some ⟨b4089, 0, none⟩) 1 1) (([y4079] : List Int).length) [.int .i64 y4079], .obj lk3818 (lpO r3820 .busy none), .obj D3819 (.deferred (some [])), .row w.heap.size 3 (Rep.size Int) v3999 xs3996.length cs3997, .cells b3810 [v3999] 22, .cells b3801 [.int .i64 z3423] 3, .cells b3796 [.pointer (some ⟨b36, 0, none⟩)] 72, .row w.heap.size 3 (Rep.size Int) v3427 xs3424.length cs3425, .row w.heap.size 3 (Rep.size Int) v2749 xs2746.length cs2747, .cells b36 [.int .u64 (u3428.toNat : Int), .int .i64 a0.fN, v0_1, .int .u64 (a1.toNat : Int), .int .i64 s3786] 74, .cells b15 [.int .u64 0] 37, .cells b5 [.int .i64 a0.fN, v0_1] 40] ++ L) [.int .i64 y4079] (([y4079] : List Int) : List Int) := Cells.cons (cs := [.int .i64 y4079]) (ds := []) rfl (Cells.nil _ _)
            obtain ⟨xs4091, hxs4091, h⟩ := bind_in h
            have hm4092 := Cells.mv hc3998 (Tr.trans hT4084 hT4088)
            refine RG.doesL .plain rfl (DoesL.app (α := Int) (ys := ([y4079] : List Int)) (F := fun v' cs' => [.row w.heap.size 3 (Rep.size Int) (.slice (some ⟨b4089, 0, none⟩) 1 1) (([y4079] : List Int).length) [.int .i64 y4079], .obj lk3818 (lpO r3820 .busy none), .obj D3819 (.deferred (some [])), .row w.heap.size 3 (Rep.size Int) v' xs4091.length cs', .cells b3810 [v3999] 22, .cells b3801 [.int .i64 z3423] 3, .cells b3796 [.pointer (some ⟨b36, 0, none⟩)] 72, .row w.heap.size 3 (Rep.size Int) v3427 xs3424.length cs3425, .row w.heap.size 3 (Rep.size Int) v2749 xs2746.length cs2747, .cells b36 [.int .u64 (u3428.toNat : Int), .int .i64 a0.fN, v0_1, .int .u64 (a1.toNat : Int), .int .i64 s3786] 74, .cells b15 [.int .u64 0] 37, .cells b5 [.int .i64 a0.fN, v0_1] 40]) hxs4091 hS4087 (fun _ _ => (.tl (.tl (.tl .hd)))) el22 rfl rfl hm4092 (Src.row (α := Int) hS4087 .hd hc4090)) (fun v4098 w4093 ⟨cs4097, hS4094, hT4095, hc4096⟩ => ?_)
            refine RG.now .plain (Acts.store (j := 0) (old := [v3999]) (news := [v4098]) (new' := [v4098]) hS4094 (.tl (.tl (.tl (.tl .hd)))) rfl rfl rfl (St.c1 (α := Int) hS4094 (.tl (.tl (.tl .hd)))) rfl rfl (ones_cons (St.o1 (α := Int) hS4094 (.tl (.tl (.tl .hd)))) ones_nil) rfl) (fun w4100 hS4101 hT4102 => ?_)
            refine RG.nil ?_
            refine MX.inBlock ?_
            refine MX.roundEnd hb4080 hS4101 (.tl .hd) (fun w4103 hS4104 hT4105 => ?_)
            refine RG.val' .plain (FV.not rfl) rfl ?_
            refine RG.nil ?_
            refine MX.cond_f rfl ?_
            refine MX.skip ?_
            refine MX.inBlock ?_
            refine MX.region ?_
            refine RG.val' .plain (FV.move rfl) rfl ?_
            refine RG.val' .plain (FV.move rfl) rfl ?_
            refine RG.val' .plain (FV.subU (a := u3995) (b := (1 : UInt64)) rfl rfl) rfl ?_
            refine RG.val' .plain (FV.andU (a := u3995) (b := u3995 - (1 : UInt64)) rfl rfl) rfl ?_
            refine RG.val' .plain (FV.assign rfl) rfl ?_
            refine RG.nil ?_
            have hS4106 : St _ _ [.obj lk3818 (lpO r3820 .ready none), .obj D3819 (.deferred (some [])), .row w.heap.size 3 (Rep.size Int) v4098 xs4091.length cs4097, .cells b3810 [v4098] 22, .cells b3801 [.int .i64 z3423] 3, .cells b3796 [.pointer (some ⟨b36, 0, none⟩)] 72, .row w.heap.size 3 (Rep.size Int) v3427 xs3424.length cs3425, .row w.heap.size 3 (Rep.size Int) v2749 xs2746.length cs2747, .cells b36 [.int .u64 (u3428.toNat : Int), .int .i64 a0.fN, v0_1, .int .u64 (a1.toNat : Int), .int .i64 s3786] 74, .cells b15 [.int .u64 0] 37, .cells b5 [.int .i64 a0.fN, v0_1] 40] := hS4104.arr (.one (.tl .hd) (.one (.tl .hd) (.one (.tl .hd) (.one (.tl .hd) (.one (.tl .hd) (.one (.tl .hd) (.one (.tl .hd) (.one (.tl .hd) (.one (.tl .hd) (.one (.tl .hd) (.one (.tl .hd) .done)))))))))))
            have hT4107 : Tr w4103 _ w4103 [.obj lk3818 (lpO r3820 .ready none), .obj D3819 (.deferred (some [])), .row w.heap.size 3 (Rep.size Int) v4098 xs4091.length cs4097, .cells b3810 [v4098] 22, .cells b3801 [.int .i64 z3423] 3, .cells b3796 [.pointer (some ⟨b36, 0, none⟩)] 72, .row w.heap.size 3 (Rep.size Int) v3427 xs3424.length cs3425, .row w.heap.size 3 (Rep.size Int) v2749 xs2746.length cs2747, .cells b36 [.int .u64 (u3428.toNat : Int), .int .i64 a0.fN, v0_1, .int .u64 (a1.toNat : Int), .int .i64 s3786] 74, .cells b15 [.int .u64 0] 37, .cells b5 [.int .i64 a0.fN, v0_1] 40] := Tr.arr (St.arrOf hS4104 (.one (.tl .hd) (.one (.tl .hd) (.one (.tl .hd) (.one (.tl .hd) (.one (.tl .hd) (.one (.tl .hd) (.one (.tl .hd) (.one (.tl .hd) (.one (.tl .hd) (.one (.tl .hd) (.one (.tl .hd) .done))))))))))))
            have hm4108 := Cells.mv hc4096 (Tr.trans hT4102 (Tr.trans hT4105 hT4107))
            exact hJ4008 (u3995 &&& (u3995 - (1 : UInt64)), xs4091, v4098, cs4097) _ _ ⟨rfl, rfl, trivial⟩ ⟨hS4106, (Tr.trans hT4001 (Tr.trans hT4084 (Tr.trans hT4088 (Tr.trans hT4095 (Tr.trans hT4102 (Tr.trans hT4105 hT4107)))))), hm4108⟩ h
      ·skip
       refine MX.exit rfl ?_
       have h := thn_inr h hh2758
       try dsimp only at h
       refine MX.seq ?_
       refine MX.region ?_
       refine RG.val' .plain (FV.move rfl) rfl ?_
       refine RG.enter (fst := []) (cap := []) (vs := [v2749]) .plain body17 Tryd.func17 rfl rfl rfl rfl (evs_cons rfl evs_nil) rfl (fun cs4110 hb4109 => ?_)
       refine MX.seq ?_
       refine MX.region ?_
       refine RG.val' .plain (FV.move rfl) rfl ?_
       have hl4111 : xs2746.length ≤ 4294967296 := St.rowLe (α := Int) hS2752 .hd
       obtain ⟨A4112, c4113, he4114⟩ := St.rowV (α := Int) hS2752 .hd
       refine RG.val' .plain (FV.lenV Tryd.underlying22 rfl he4114) rfl ?_
       refine RG.val' .plain (FV.assign rfl) rfl ?_
       refine RG.nil ?_
       refine MX.region ?_
       refine RG.val' .plain (FV.move rfl) rfl ?_
       refine RG.val' .plain (FV.move rfl) rfl ?_
       refine RG.val' .plain (FV.move rfl) rfl ?_
       refine RG.val' .plain (FV.convU (i := ((xs2746.length : Nat) : Int)) Tryd.underlying3 Tryd.underlying68 rfl) rfl ?_
       obtain ⟨y4115, hy4115, h⟩ := bind_in h
       refine RG.callq' (v := .int .i64 y4115) (fst := []) (cap := []) .plain body36 rfl (evs_cons rfl evs_nil) (fun w9 hw9 => math_bits_Len_c n _ w9 (hS2752.hL0 hL hw9) (u64of ((xs2746.length : Nat) : Int)) hy4115) rfl ?_
       refine RG.enter (fst := []) (cap := []) (vs := [v2749, .int .i64 0, .int .i64 ((xs2746.length : Nat) : Int), .int .i64 y4115]) .plain body35 Tryd.func35 rfl rfl rfl rfl (evs_cons rfl (evs_cons rfl (evs_cons rfl (evs_cons rfl evs_nil)))) rfl (fun cs4117 hb4116 => ?_)
       refine MX.seq ?_
       refine MX.region ?_
       refine RG.val' .plain (FV.assign rfl) rfl ?_
       refine RG.nil ?_
       refine MX.seq ?_
       refine MX.region ?_
       refine RG.val' .plain (FV.assign rfl) rfl ?_
       refine RG.nil ?_
       refine MX.block ?_
       have ho5069 := h
       refine MX.loop (α := Nat × Nat × Int × Bool × Bool) (fun ⟨i5060, i5061, z5062, q5063, q5064⟩ => [(0, v2749), (1, .int .i64 ((i5060 : Nat) : Int)), (2, .int .i64 ((i5061 : Nat) : Int)), (3, .int .i64 z5062), (8, .bool q5063), (9, .bool q5064)]) (fun ⟨i5060, i5061, z5062, q5063, q5064⟩ wx5064 => St w wx5064 [.row w.heap.size 3 (Rep.size Int) v2749 xs2746.length cs2747, .cells b36 [.int .u64 (u2750.toNat : Int), .int .i64 a0.fN, v0_1, .int .u64 (a1.toNat : Int), .int .i64 z2751] 74, .cells b15 [.int .u64 0] 37, .cells b5 [.int .i64 a0.fN, v0_1] 40] ∧ Tr wx2751 [.row w.heap.size 3 (Rep.size Int) v2749 xs2746.length cs2747, .cells b36 [.int .u64 (u2750.toNat : Int), .int .i64 a0.fN, v0_1, .int .u64 (a1.toNat : Int), .int .i64 z2751] 74, .cells b15 [.int .u64 0] 37, .cells b5 [.int .i64 a0.fN, v0_1] 40] wx5064 [.row w.heap.size 3 (Rep.size Int) v2749 xs2746.length cs2747, .cells b36 [.int .u64 (u2750.toNat : Int), .int .i64 a0.fN, v0_1, .int .u64 (a1.toNat : Int), .int .i64 z2751] 74, .cells b15 [.int .u64 0] 37, .cells b5 [.int .i64 a0.fN, v0_1] 40]) (fun ⟨i5060, i5061, z5062, q5063, q5064⟩ => (i5060, i5061, z5062, q5063, q5064)) (0, xs2746.length, y4115, true, true) ho5069 ⟨rfl, rfl, rfl, rfl, rfl, rfl, trivial⟩ ⟨hS2752, Tr.refl _ _⟩ ?_
       rintro J5070 ⟨i5060, i5061, z5062, q5063, q5064⟩ wx5064 hJ5071 ⟨hS5065, hT5066⟩ h
       unfold wilson_Draw_l7 at h
       try dsimp only at h
       refine MX.block ?_
       refine MX.seq ?_
       refine MX.region ?_
       refine RG.val' .plain (FV.move rfl) rfl ?_
       refine RG.val' .plain (FV.move rfl) rfl ?_
       obtain ⟨s5072, hs5072, h⟩ := bind_in h
       refine RG.val' .plain (FV.subc (i := ((i5061 : Nat) : Int)) (j := ((i5060 : Nat) : Int)) rfl rfl hs5072) rfl ?_
       refine RG.val' .plain (FV.assign rfl) rfl ?_
       refine RG.nil ?_
       refine MX.seq ?_
       refine MX.seq ?_
       refine MX.region ?_
       refine RG.val' .plain (FV.move rfl) rfl ?_
       refine RG.val' .plain (FV.leq (i := s5072) (j := 12) rfl rfl) rfl ?_
       refine RG.nil ?_
       refine MX.ifd rfl h (fun c5073 h => ?_) (fun c5073 h => ?_)
       ·skip
        refine MX.seq ?_
        refine MX.region ?_
        refine RG.val' .plain (FV.move rfl) rfl ?_
        refine RG.val' .plain (FV.move rfl) rfl ?_
        refine RG.val' .plain (FV.move rfl) rfl ?_
        refine RG.enter (fst := []) (cap := []) (vs := [v2749, .int .i64 ((i5060 : Nat) : Int), .int .i64 ((i5061 : Nat) : Int)]) .plain body65 Tryd.func65 rfl rfl rfl rfl (evs_cons rfl (evs_cons rfl (evs_cons rfl evs_nil))) rfl (fun cs5075 hb5074 => ?_)
        refine MX.seq ?_
        refine MX.region ?_
        refine RG.val' .plain (FV.move rfl) rfl ?_
        obtain ⟨s5076, hs5076, h⟩ := bind_in h
        refine RG.val' .plain (FV.addc (i := ((i5060 : Nat) : Int)) (j := 1) rfl rfl hs5076) rfl ?_
        refine RG.val' .plain (FV.assign rfl) rfl ?_
        refine RG.nil ?_
        refine MX.block ?_
        have hm5619 := Cells.mv hc2748 hT5066
        obtain ⟨o5629, ho5628, hh5630⟩ := bind_in2 h
        refine MX.loop (α := Int × (List Int) × (List Value)) (fun ⟨z5620, xs5621, cs5622⟩ => [(0, v2749), (1, .int .i64 ((i5060 : Nat) : Int)), (2, .int .i64 ((i5061 : Nat) : Int)), (6, .int .i64 z5620)]) (fun ⟨z5620, xs5621, cs5622⟩ wx5623 => St w wx5623 [.row w.heap.size 3 (Rep.size Int) v2749 xs5621.length cs5622, .cells b36 [.int .u64 (u2750.toNat : Int), .int .i64 a0.fN, v0_1, .int .u64 (a1.toNat : Int), .int .i64 z2751] 74, .cells b15 [.int .u64 0] 37, .cells b5 [.int .i64 a0.fN, v0_1] 40] ∧ Tr wx5064 [.row w.heap.size 3 (Rep.size Int) v2749 xs2746.length cs2747, .cells b36 [.int .u64 (u2750.toNat : Int), .int .i64 a0.fN, v0_1, .int .u64 (a1.toNat : Int), .int .i64 z2751] 74, .cells b15 [.int .u64 0] 37, .cells b5 [.int .i64 a0.fN, v0_1] 40] wx5623 [.row w.heap.size 3 (Rep.size Int) v2749 xs5621.length cs5622, .cells b36 [.int .u64 (u2750.toNat : Int), .int .i64 a0.fN, v0_1, .int .u64 (a1.toNat : Int), .int .i64 z2751] 74, .cells b15 [.int .u64 0] 37, .cells b5 [.int .i64 a0.fN, v0_1] 40] ∧ Cells wx5623 (bl [.row w.heap.size 3 (Rep.size Int) v2749 xs5621.length cs5622, .cells b36 [.int .u64 (u2750.toNat : Int), .int .i64 a0.fN, v0_1, .int .u64 (a1.toNat : Int), .int .i64 z2751] 74, .cells b15 [.int .u64 0] 37, .cells b5 [.int .i64 a0.fN, v0_1] 40] ++ L) cs5622 xs5621) (fun ⟨z5620, xs5621, cs5622⟩ => (z5620, xs5621)) (s5076, xs2746, cs2747) ho5628 ⟨rfl, rfl, rfl, rfl, trivial⟩ ⟨hS5065, Tr.refl _ _, hm5619⟩ ?_
        rintro J5631 ⟨z5620, xs5621, cs5622⟩ wx5623 hJ5632 ⟨hS5624, hT5625, hc5623⟩ h
        unfold wilson_Draw_l6 at h
        try dsimp only at h
        refine MX.seq ?_
        refine MX.seq ?_
        refine MX.region ?_
        refine RG.val' .plain (FV.move rfl) rfl ?_
        refine RG.val' .plain (FV.move rfl) rfl ?_
        refine RG.val' .plain (FV.lss (i := z5620) (j := ((i5061 : Nat) : Int)) rfl rfl) rfl ?_
        refine RG.nil ?_
        refine MX.ifd rfl h (fun c5633 h => ?_) (fun c5633 h => ?_)
        ·skip
         refine MX.skip ?_
         refine MX.seq ?_
         refine MX.block ?_
         refine MX.seq ?_
         refine MX.region ?_
         refine RG.val' .plain (FV.move rfl) rfl ?_
         refine RG.val' .plain (FV.assign rfl) rfl ?_
         refine RG.nil ?_
         refine MX.block ?_
         refine MX.joinx (α := (List Int) × (List Value)) (fun ⟨xs6066, cs6067⟩ => [(0, v2749), (1, .int .i64 ((i5060 : Nat) : Int)), (2, .int .i64 ((i5061 : Nat) : Int)), (6, .int .i64 z5620)]) (fun ⟨xs6066, cs6067⟩ wx6068 => St w wx6068 [.row w.heap.size 3 (Rep.size Int) v2749 xs6066.length cs6067, .cells b36 [.int .u64 (u2750.toNat : Int), .int .i64 a0.fN, v0_1, .int .u64 (a1.toNat : Int), .int .i64 z2751] 74, .cells b15 [.int .u64 0] 37, .cells b5 [.int .i64 a0.fN, v0_1] 40] ∧ Tr wx5623 [.row w.heap.size 3 (Rep.size Int) v2749 xs5621.length cs5622, .cells b36 [.int .u64 (u2750.toNat : Int), .int .i64 a0.fN, v0_1, .int .u64 (a1.toNat : Int), .int .i64 z2751] 74, .cells b15 [.int .u64 0] 37, .cells b5 [.int .i64 a0.fN, v0_1] 40] wx6068 [.row w.heap.size 3 (Rep.size Int) v2749 xs6066.length cs6067, .cells b36 [.int .u64 (u2750.toNat : Int), .int .i64 a0.fN, v0_1, .int .u64 (a1.toNat : Int), .int .i64 z2751] 74, .cells b15 [.int .u64 0] 37, .cells b5 [.int .i64 a0.fN, v0_1] 40] ∧ Cells wx6068 (bl [.row w.heap.size 3 (Rep.size Int) v2749 xs6066.length cs6067, .cells b36 [.int .u64 (u2750.toNat : Int), .int .i64 a0.fN, v0_1, .int .u64 (a1.toNat : Int), .int .i64 z2751] 74, .cells b15 [.int .u64 0] 37, .cells b5 [.int .i64 a0.fN, v0_1] 40] ++ L) cs6067 xs6066) (fun ⟨xs6066, cs6067⟩ => xs6066) (id := 2) rfl h ?_ ?_
         ·skip
          rintro ⟨xs6066, cs6067⟩ wx6068 ⟨hS6069, hT6070, hc6068⟩ h
          try dsimp only at h
          refine MX.inBlock ?_
          refine MX.region ?_
          refine RG.val' .plain (FV.move rfl) rfl ?_
          obtain ⟨s6074, hs6074, h⟩ := bind_in h
          refine RG.val' .plain (FV.addc (i := z5620) (j := 1) rfl rfl hs6074) rfl ?_
          refine RG.val' .plain (FV.assign rfl) rfl ?_
          refine RG.nil ?_
          exact hJ5632 (s6074, xs6066, cs6067) _ _ ⟨rfl, rfl, rfl, rfl, trivial⟩ ⟨hS6069, (Tr.trans hT5625 hT6070), hc6068⟩ h
         ·skip
          intro J6072 hJ6073 h
          try dsimp only at h
          obtain ⟨o6254, ho6253, hh6255⟩ := bind_in2 h
          refine MX.loop (α := Int × (List Int) × (List Value)) (fun ⟨z6245, xs6246, cs6247⟩ => [(0, v2749), (1, .int .i64 ((i5060 : Nat) : Int)), (2, .int .i64 ((i5061 : Nat) : Int)), (6, .int .i64 z5620), (7, .int .i64 z6245)]) (fun ⟨z6245, xs6246, cs6247⟩ wx6248 => St w wx6248 [.row w.heap.size 3 (Rep.size Int) v2749 xs6246.length cs6247, .cells b36 [.int .u64 (u2750.toNat : Int), .int .i64 a0.fN, v0_1, .int .u64 (a1.toNat : Int), .int .i64 z2751] 74, .cells b15 [.int .u64 0] 37, .cells b5 [.int .i64 a0.fN, v0_1] 40] ∧ Tr wx5623 [.row w.heap.size 3 (Rep.size Int) v2749 xs5621.length cs5622, .cells b36 [.int .u64 (u2750.toNat : Int), .int .i64 a0.fN, v0_1, .int .u64 (a1.toNat : Int), .int .i64 z2751] 74, .cells b15 [.int .u64 0] 37, .cells b5 [.int .i64 a0.fN, v0_1] 40] wx6248 [.row w.heap.size 3 (Rep.size Int) v2749 xs6246.length cs6247, .cells b36 [.int .u64 (u2750.toNat : Int), .int .i64 a0.fN, v0_1, .int .u64 (a1.toNat : Int), .int .i64 z2751] 74, .cells b15 [.int .u64 0] 37, .cells b5 [.int .i64 a0.fN, v0_1] 40] ∧ Cells wx6248 (bl [.row w.heap.size 3 (Rep.size Int) v2749 xs6246.length cs6247, .cells b36 [.int .u64 (u2750.toNat : Int), .int .i64 a0.fN, v0_1, .int .u64 (a1.toNat : Int), .int .i64 z2751] 74, .cells b15 [.int .u64 0] 37, .cells b5 [.int .i64 a0.fN, v0_1] 40] ++ L) cs6247 xs6246) (fun ⟨z6245, xs6246, cs6247⟩ => (z6245, xs6246)) (z5620, xs5621, cs5622) ho6253 ⟨rfl, rfl, rfl, rfl, rfl, trivial⟩ ⟨hS5624, Tr.refl _ _, hc5623⟩ ?_
          rintro J6256 ⟨z6245, xs6246, cs6247⟩ wx6248 hJ6257 ⟨hS6249, hT6250, hc6248⟩ h
          unfold wilson_Draw_l5 at h
          try dsimp only at h
          refine MX.seq ?_
          refine MX.seq ?_
          refine MX.drawT 15 tb65_4 (by kernel_rfl) (by kernel_rfl) (by kernel_rfl) (fun kt6258 kp6259 => ?_)
          refine RD.vP 0 1 kt6258 rfl kp6259 .plain (fun _ => FV.move rfl) rfl ?_
          refine RD.vP 1 3 kt6258 rfl kp6259 .plain (fun _ => FV.move rfl) rfl ?_
          refine RD.vP 2 7 kt6258 rfl kp6259 .plain (fun _ => FV.gtr (i := z6245) (j := ((i5060 : Nat) : Int)) rfl rfl) rfl ?_
          refine RD.vP 3 15 kt6258 rfl kp6259 .plain (fun _ => FV.move rfl) rfl ?_
          refine RD.ifd (s := 19) rfl h (fun c6260 h => ?_) (fun c6260 h => ?_)
          ·skip
           refine RD.vP 4 31 kt6258 rfl kp6259 (.yes rfl rfl) (fun _ => FV.move rfl) rfl ?_
           refine RD.vP 5 63 kt6258 rfl kp6259 (.yes rfl rfl) (fun _ => FV.move rfl) rfl ?_
           obtain ⟨x6261, hx6261, h⟩ := bind_in h
           obtain ⟨hi6262, hx6263⟩ := idx_in hx6261
           obtain ⟨A6264, c6265, he6266, hk6267, cs6268, hr6269, hm6270⟩ := St.nth (α := Int) hS6249 .hd hc6248 hx6263
           obtain ⟨b6271, c6272, he6273⟩ := St.nthOwn (α := Int) hS6249 .hd hk6267
           obtain rfl : A6264 = ⟨b6271, 0, none⟩ := by rw [he6273] at he6266; cases he6266; rfl
           have he6274 : cs6268 = [.int .i64 x6261] := hr6269; subst he6274
           refine RD.vP 6 127 kt6258 rfl kp6259 (.yes rfl rfl) (fun _ => FV.idxAddr (m := 1) (i := z6245.toNat) (by kernel_rfl) rfl he6266 rfl hi6262 hk6267) rfl ?_
           refine RD.val (i := 7) (m' := 255) (W := 24576) (takeC_ok kt6258 (by kernel_rfl)) rfl kp6259 (.yes rfl rfl) (FV.load1 (by kernel_rfl) rfl (hm6270 0 _ rfl)) rfl ?_
           refine RD.vP 8 511 kt6258 rfl kp6259 (.yes rfl rfl) (fun _ => FV.move rfl) rfl ?_
           refine RD.vP 9 1023 kt6258 rfl kp6259 (.yes rfl rfl) (fun _ => FV.move rfl) rfl ?_
           obtain ⟨s6275, hs6275, h⟩ := bind_in h
           refine RD.vP 10 2047 kt6258 rfl kp6259 (.yes rfl rfl) (fun _ => FV.subc (i := z6245) (j := 1) rfl rfl hs6275) rfl ?_
           obtain ⟨x6276, hx6276, h⟩ := bind_in h
           obtain ⟨hi6277, hx6278⟩ := idx_in hx6276
           obtain ⟨A6279, c6280, he6281, hk6282, cs6283, hr6284, hm6285⟩ := St.nth (α := Int) hS6249 .hd hc6248 hx6278
           obtain ⟨b6286, c6287, he6288⟩ := St.nthOwn (α := Int) hS6249 .hd hk6282
           obtain rfl : A6279 = ⟨b6286, 0, none⟩ := by rw [he6288] at he6281; cases he6281; rfl
           have he6289 : cs6283 = [.int .i64 x6276] := hr6284; subst he6289
           refine RD.vP 11 4095 kt6258 rfl kp6259 (.yes rfl rfl) (fun _ => FV.idxAddr (m := 1) (i := s6275.toNat) (by kernel_rfl) rfl he6281 rfl hi6277 hk6282) rfl ?_
           refine RD.val (i := 12) (m' := 8191) (W := 24576) (takeC_ok kt6258 (by kernel_rfl)) rfl kp6259 (.yes rfl rfl) (FV.load1 (by kernel_rfl) rfl (hm6285 0 _ rfl)) rfl ?_
           obtain ⟨y6290, hy6290, h⟩ := bind_in h
           refine RD.callq (i := 13) (m' := 16383) (W := 16384) (takeC_ok kt6258 (by kernel_rfl)) rfl kp6259 (v := .bool y6290) (fst := []) (cap := []) (.yes rfl rfl) body71 rfl (evs_cons rfl (evs_cons rfl evs_nil)) (fun w9 hw9 => cmp_Less_int_c n _ w9 (hS6249.hL0 hL hw9) x6261 x6276 hy6290) rfl ?_
           refine RD.vP 14 32767 kt6258 rfl kp6259 .plain (fun _ => FV.pick_t rfl rfl) rfl ?_
           refine RD.done (doneD_ok kt6258 (by kernel_rfl)) ?_
           refine MX.ifb rfl h (fun c6291 h => ?_) (fun c6291 h => ?_)
           ·skip
            refine MX.skip ?_
            refine MX.seq ?_
            refine MX.block ?_
            refine MX.drawT 15 tb65_6 (by kernel_rfl) (by kernel_rfl) (by kernel_rfl) (fun kt6292 kp6293 => ?_)
            refine RD.vP 0 1 kt6292 rfl kp6293 .plain (fun _ => FV.move rfl) rfl ?_
            refine RD.vP 1 3 kt6292 rfl kp6293 .plain (fun _ => FV.move rfl) rfl ?_
            refine RD.vP 2 7 kt6292 rfl kp6293 .plain (fun _ => FV.move rfl) rfl ?_
            refine RD.vP 3 15 kt6292 rfl kp6293 .plain (fun _ => FV.move rfl) rfl ?_
            obtain ⟨s6294, hs6294, h⟩ := bind_in h
            refine RD.vP 4 31 kt6292 rfl kp6293 .plain (fun _ => FV.subc (i := z6245) (j := 1) rfl rfl hs6294) rfl ?_
            refine RD.vP 5 63 kt6292 rfl kp6293 .plain (fun _ => FV.move rfl) rfl ?_
            refine RD.vP 6 127 kt6292 rfl kp6293 .plain (fun _ => FV.move rfl) rfl ?_
            obtain ⟨s6295, hs6295, h⟩ := bind_in h
            refine RD.vP 7 255 kt6292 rfl kp6293 .plain (fun _ => FV.subc (i := z6245) (j := 1) rfl rfl hs6295) rfl ?_
            obtain ⟨x6296, hx6296, h⟩ := bind_in h
            obtain ⟨hi6297, hx6298⟩ := idx_in hx6296
            obtain ⟨A6299, c6300, he6301, hk6302, cs6303, hr6304, hm6305⟩ := St.nth (α := Int) hS6249 .hd hc6248 hx6298
            obtain ⟨b6306, c6307, he6308⟩ := St.nthOwn (α := Int) hS6249 .hd hk6302
            obtain rfl : A6299 = ⟨b6306, 0, none⟩ := by rw [he6308] at he6301; cases he6301; rfl
            have he6309 : cs6303 = [.int .i64 x6296] := hr6304; subst he6309
            refine RD.vP 8 511 kt6292 rfl kp6293 .plain (fun _ => FV.idxAddr (m := 1) (i := s6295.toNat) (by kernel_rfl) rfl he6301 rfl hi6297 hk6302) rfl ?_
            refine RD.val (i := 9) (m' := 1023) (W := 245760) (takeC_ok kt6292 (by kernel_rfl)) rfl kp6293 .plain (FV.load1 (by kernel_rfl) rfl (hm6305 0 _ rfl)) rfl ?_
            refine RD.vP 10 2047 kt6292 rfl kp6293 .plain (fun _ => FV.move rfl) rfl ?_
            refine RD.vP 11 4095 kt6292 rfl kp6293 .plain (fun _ => FV.move rfl) rfl ?_
            refine RD.vP 12 8191 kt6292 rfl kp6293 .plain (fun _ => FV.idxAddr (m := 1) (i := z6245.toNat) (by kernel_rfl) rfl he6266 rfl hi6262 hk6267) rfl ?_
            refine RD.val (i := 13) (m' := 16383) (W := 245760) (takeC_ok kt6292 (by kernel_rfl)) rfl kp6293 .plain (FV.load1 (by kernel_rfl) rfl (hm6270 0 _ rfl)) rfl ?_
            refine RD.vP 14 32767 kt6292 rfl kp6293 .plain (fun _ => FV.idxAddr (m := 1) (i := z6245.toNat) (by kernel_rfl) rfl he6266 rfl hi6262 hk6267) rfl ?_
            obtain ⟨xs6310, hxs6310, h⟩ := bind_in h
            refine RD.one (i := 15) (readyD_ok kt6292 (by kernel_rfl)) (RO.acts (m' := 65535) (stepC_ok kt6292 (by kernel_rfl)) rfl rfl .plain (Acts.set (α := Int) (i := z6245.toNat) (F := fun cs' => [.row w.heap.size 3 (Rep.size Int) v2749 xs6310.length cs', .cells b36 [.int .u64 (u2750.toNat : Int), .int .i64 a0.fN, v0_1, .int .u64 (a1.toNat : Int), .int .i64 z2751] 74, .cells b15 [.int .u64 0] 37, .cells b5 [.int .i64 a0.fN, v0_1] 40]) hxs6310 hS6249 he6273 (fun _ => .hd) hc6248 rfl rfl rfl rfl rfl (by kernel_rfl)) (fun w6311 ⟨cs6315, hS6312, hT6313, hc6314⟩ => ?_))
            obtain ⟨x6316, hx6316, h⟩ := bind_in h
            obtain ⟨hi6317, hx6318⟩ := idx_in hx6316
            obtain ⟨A6319, c6320, he6321, hk6322, cs6323, hr6324, hm6325⟩ := St.nth (α := Int) hS6312 .hd hc6314 hx6318
            obtain ⟨b6326, c6327, he6328⟩ := St.nthOwn (α := Int) hS6312 .hd hk6322
            obtain rfl : A6319 = ⟨b6326, 0, none⟩ := by rw [he6328] at he6321; cases he6321; rfl
            have he6329 : cs6323 = [.int .i64 x6316] := hr6324; subst he6329
            refine RD.one (i := 16) (readyD_ok kt6292 (by kernel_rfl)) (RO.val (m' := 131071) (stepC_ok kt6292 (by kernel_rfl)) rfl .plain rfl (FV.idxAddr (m := 1) (i := s6294.toNat) (by kernel_rfl) rfl he6321 rfl hi6317 hk6322) ?_)
            obtain ⟨xs6330, hxs6330, h⟩ := bind_in h
            refine RD.one (i := 17) (readyD_ok kt6292 (by kernel_rfl)) (RO.acts (m' := 262143) (stepC_ok kt6292 (by kernel_rfl)) rfl rfl .plain (Acts.set (α := Int) (i := s6294.toNat) (F := fun cs' => [.row w.heap.size 3 (Rep.size Int) v2749 xs6330.length cs', .cells b36 [.int .u64 (u2750.toNat : Int), .int .i64 a0.fN, v0_1, .int .u64 (a1.toNat : Int), .int .i64 z2751] 74, .cells b15 [.int .u64 0] 37, .cells b5 [.int .i64 a0.fN, v0_1] 40]) hxs6330 hS6312 he6328 (fun _ => .hd) hc6314 rfl rfl rfl rfl rfl (by kernel_rfl)) (fun w6331 ⟨cs6335, hS6332, hT6333, hc6334⟩ => ?_))
            refine RD.done (doneD_ok kt6292 (by kernel_rfl)) ?_
            refine MX.inBlock ?_
            refine MX.region ?_
            refine RG.val' .plain (FV.move rfl) rfl ?_
            obtain ⟨s6336, hs6336, h⟩ := bind_in h
            refine RG.val' .plain (FV.subc (i := z6245) (j := 1) rfl rfl hs6336) rfl ?_
            refine RG.val' .plain (FV.assign rfl) rfl ?_
            refine RG.nil ?_
            exact hJ6257 (s6336, xs6330, cs6335) _ _ ⟨rfl, rfl, rfl, rfl, rfl, trivial⟩ ⟨hS6332, (Tr.trans hT6250 (Tr.trans hT6313 hT6333)), hc6334⟩ h
           ·skip
            refine MX.exit rfl ?_
            have h := hh6255 _ h
            try dsimp only at h
            exact hJ6073 (xs6246, cs6247) _ _ ⟨rfl, rfl, rfl, rfl, trivial⟩ ⟨hS6249, hT6250, hc6248⟩ h
          ·skip
           refine RD.offs 16383 1 [(4, 20), (5, 21), (6, 22), (7, 23), (8, 24), (9, 25), (10, 26), (11, 27), (12, 28), (13, 29)] (F := [(19, false)]) (U := []) kt6258 kp6259 (.cons rfl .nil) .nil ?_
           dsimp only [offS, List.map]
           refine RD.vP 14 32767 kt6258 rfl kp6259 .plain (fun _ => FV.pick_f rfl rfl) rfl ?_
           refine RD.done (doneD_ok kt6258 (by kernel_rfl)) ?_
           refine MX.cond_f rfl ?_
           refine MX.exit rfl ?_
           have h := hh6255 _ h
           try dsimp only at h
           exact hJ6073 (xs6246, cs6247) _ _ ⟨rfl, rfl, rfl, rfl, trivial⟩ ⟨hS6249, hT6250, hc6248⟩ h
        ·skip
         refine MX.exit rfl ?_
         have h := hh5630 _ h
         try dsimp only at h
         refine MX.fin rfl ?_
         refine RT.leave (u := .tuple #[]) hb5074 Tryd.func65 rfl .nil rfl ?_
         refine RG.nil ?_
         refine MX.ret rfl ?_
         refine RT.leave (u := .tuple #[]) hb4116 Tryd.func35 rfl .nil rfl ?_
         refine RG.nil ?_
         refine MX.fin rfl ?_
         refine RT.leave (u := .tuple #[]) hb4109 Tryd.func17 rfl .nil rfl ?_
         refine RG.nil ?_
         refine MX.seq ?_
         refine MX.drawT 6 tb14_29 (by kernel_rfl) (by kernel_rfl) (by kernel_rfl) (fun kt6337 kp6338 => ?_)
         refine RD.vP 0 1 kt6337 rfl kp6338 .plain (fun _ => FV.move rfl) rfl ?_
         refine RD.vP 1 3 kt6337 rfl kp6338 .plain (fun _ => FV.move rfl) rfl ?_
         refine RD.vP 2 7 kt6337 rfl kp6338 .plain (fun _ => FV.nilCheck rfl) rfl ?_
         refine RD.vP 3 15 kt6337 rfl kp6338 .plain (fun _ => FV.fieldAddr (off := 0) (by kernel_rfl) rfl) rfl ?_
         refine RD.val (i := 4) (m' := 31) (W := 192) (takeC_ok kt6337 (by kernel_rfl)) rfl kp6338 .plain (FV.loadN (cs := [.int .u64 (u2750.toNat : Int)]) (by kernel_rfl) rfl (mem_part (hS5624.memA (.tl .hd)) 0 1)) rfl ?_
         refine RD.vP 5 63 kt6337 rfl kp6338 .plain (fun _ => FV.assign rfl) rfl ?_
         refine RD.one (i := 6) (readyD_ok kt6337 (by kernel_rfl)) (RO.now (m' := 127) (stepC_ok kt6337 (by kernel_rfl)) rfl rfl .plain (Acts.store (j := 0) (old := [.int .u64 0]) (news := [.int .u64 (u2750.toNat : Int)]) (new' := [.int .u64 (u2750.toNat : Int)]) hS5624 (.tl (.tl .hd)) rfl rfl rfl rfl rfl rfl (ones_cons rfl ones_nil) rfl) (fun w6339 hS6340 hT6341 => ?_))
         refine RD.one (i := 7) (readyD_ok kt6337 (by kernel_rfl)) (RO.val (m' := 255) (stepC_ok kt6337 (by kernel_rfl)) rfl .plain rfl (FV.assign rfl) ?_)
         refine RD.done (doneD_ok kt6337 (by kernel_rfl)) ?_
         refine MX.ret rfl ?_
         have hm6345 := Cells.mv hc5623 hT6341
         have hr6342 := St.freeze (α := Int) hS6340 .hd hm6345 hL
         have hS6343 := hS6340.del (.hd : Out _ _ _).del
         have hT6344 := Tr.del (w := w6339) (.hd : Out [.row w.heap.size 3 (Rep.size Int) v2749 xs5621.length cs5622, .cells b36 [.int .u64 (u2750.toNat : Int), .int .i64 a0.fN, v0_1, .int .u64 (a1.toNat : Int), .int .i64 z2751] 74, .cells b15 [.int .u64 (u2750.toNat : Int)] 37, .cells b5 [.int .i64 a0.fN, v0_1] 40] _ _).del
         have hr6346 : Rep.R w6339 (bl [.cells b36 [.int .u64 (u2750.toNat : Int), .int .i64 a0.fN, v0_1, .int .u64 (a1.toNat : Int), .int .i64 z2751] 74, .cells b15 [.int .u64 (u2750.toNat : Int)] 37, .cells b5 [.int .i64 a0.fN, v0_1] 40] ++ L) [v2749] xs5621 := hr6342
         refine RT.leave (u := .tuple #[v2749, .agg #[.int .u64 (u2750.toNat : Int)], .int .i64 0]) hb0 Tryd.func14 rfl (.cons (.tmp rfl) (.cons (.many (cs := [.int .u64 (u2750.toNat : Int)]) (by kernel_rfl) rfl (hS6343.memA (.tl .hd))) (.cons (.tmp rfl) .nil))) rfl ?_
         obtain rfl := Option.some.inj h
         exact ⟨hS6343.ag, fun w9 hw9 => ⟨v2749, rfl, Rep.keep0 (Rep.dropO (O := [.cells b36 [.int .u64 (u2750.toNat : Int), .int .i64 a0.fN, v0_1, .int .u64 (a1.toNat : Int), .int .i64 z2751] 74, .cells b15 [.int .u64 (u2750.toNat : Int)] 37, .cells b5 [.int .i64 a0.fN, v0_1] 40]) hr6346) hw9⟩⟩
       ·skip
        refine MX.skip ?_
        refine MX.seq ?_
        refine MX.seq ?_
        refine MX.region ?_
        refine RG.val' .plain (FV.move rfl) rfl ?_
        refine RG.val' .plain (FV.eql (i := z5062) (j := 0) rfl rfl) rfl ?_
        refine RG.nil ?_
        refine MX.ifd rfl h (fun c6347 h => ?_) (fun c6347 h => ?_)
        ·skip
         refine MX.seq ?_
         refine MX.region ?_
         refine RG.val' .plain (FV.move rfl) rfl ?_
         refine RG.val' .plain (FV.move rfl) rfl ?_
         refine RG.val' .plain (FV.move rfl) rfl ?_
         cases h
        ·skip
         refine MX.skip ?_
         refine MX.seq ?_
         refine MX.seq ?_
         refine MX.region ?_
         refine RG.val' .plain (FV.move rfl) rfl ?_
         refine RG.val' .plain (FV.not rfl) rfl ?_
         refine RG.nil ?_
         refine MX.ifnb rfl h (fun c6349 h => ?_) (fun c6349 h => ?_)
         ·skip
          refine MX.skip ?_
          refine MX.seq ?_
          refine MX.region ?_
          refine RG.val' .plain (FV.move rfl) rfl ?_
          refine RG.val' .plain (FV.move rfl) rfl ?_
          refine RG.val' .plain (FV.move rfl) rfl ?_
          obtain ⟨y6350, hy6350, h⟩ := bind_in h
          have hm6351 := Cells.mv hc2748 hT5066
          refine RG.callq' (v := .tuple #[.int .i64 y6350.1, .int .i64 y6350.2]) (fst := []) (cap := []) .plain body68 rfl (evs_cons rfl (evs_cons rfl (evs_cons rfl evs_nil))) (fun w9 hw9 => slices_choosePivotOrdered_int_c n _ w9 (hS5065.hL0 hL hw9) xs2746 (Rep.keep0 (St.lend (α := Int) (L := L) hS5065 .hd hm6351 hL) hw9) ((i5060 : Nat) : Int) ((i5061 : Nat) : Int) hy6350) rfl ?_
          refine RG.val' .plain (FV.move rfl) rfl ?_
          refine RG.val' .plain (FV.extract rfl rfl) rfl ?_
          refine RG.val' .plain (FV.extract rfl rfl) rfl ?_
          refine RG.val' .plain (FV.assign rfl) rfl ?_
          refine RG.val' .plain (FV.assign rfl) rfl ?_
          refine RG.nil ?_
          refine MX.seq ?_
          refine MX.seq ?_
          refine MX.region ?_
          refine RG.val' .plain (FV.move rfl) rfl ?_
          refine RG.val' .plain (FV.eql (i := y6350.2) (j := 2) rfl rfl) rfl ?_
          refine RG.nil ?_
          refine MX.ifd rfl h (fun c6353 h => ?_) (fun c6353 h => ?_)
          ·skip
           refine MX.seq ?_
           refine MX.region ?_
           refine RG.val' .plain (FV.move rfl) rfl ?_
           refine RG.val' .plain (FV.move rfl) rfl ?_
           refine RG.val' .plain (FV.move rfl) rfl ?_
           cases h
          ·skip
           refine MX.skip ?_
           refine MX.seq ?_
           refine MX.seq ?_
           refine MX.region ?_
           refine RG.val' .plain (FV.move rfl) rfl ?_
           refine RG.val' .plain (FV.move rfl) rfl ?_
           refine RG.known (s := 62) rfl c6349 ?_
           refine RG.val' (.yes rfl rfl) (FV.move rfl) rfl ?_
           refine RG.val' .plain (FV.pick_t rfl rfl) rfl ?_
           refine RG.val' .plain (FV.move rfl) rfl ?_
           refine RG.ifb (s := 65) rfl h (fun c6354 h => ?_) (fun c6354 h => ?_)
           ·skip
            refine RG.val' (.yes rfl rfl) (FV.move rfl) rfl ?_
            refine RG.val' (.yes rfl rfl) (FV.eql (i := y6350.2) (j := 1) rfl rfl) rfl ?_
            refine RG.val' .plain (FV.pick_t rfl rfl) rfl ?_
            refine RG.nil ?_
            refine MX.join (α := Unit) (fun () => [(0, v2749), (1, .int .i64 ((i5060 : Nat) : Int)), (2, .int .i64 ((i5061 : Nat) : Int)), (3, .int .i64 z5062), (8, .bool q5063), (9, .bool q5064), (10, .int .i64 s5072), (11, .int .i64 y6350.1)]) (fun () wx6367 => St w wx6367 [.row w.heap.size 3 (Rep.size Int) v2749 xs2746.length cs2747, .cells b36 [.int .u64 (u2750.toNat : Int), .int .i64 a0.fN, v0_1, .int .u64 (a1.toNat : Int), .int .i64 z2751] 74, .cells b15 [.int .u64 0] 37, .cells b5 [.int .i64 a0.fN, v0_1] 40] ∧ Tr wx5064 [.row w.heap.size 3 (Rep.size Int) v2749 xs2746.length cs2747, .cells b36 [.int .u64 (u2750.toNat : Int), .int .i64 a0.fN, v0_1, .int .u64 (a1.toNat : Int), .int .i64 z2751] 74, .cells b15 [.int .u64 0] 37, .cells b5 [.int .i64 a0.fN, v0_1] 40] wx6367 [.row w.heap.size 3 (Rep.size Int) v2749 xs2746.length cs2747, .cells b36 [.int .u64 (u2750.toNat : Int), .int .i64 a0.fN, v0_1, .int .u64 (a1.toNat : Int), .int .i64 z2751] 74, .cells b15 [.int .u64 0] 37, .cells b5 [.int .i64 a0.fN, v0_1] 40]) (fun () => ()) h ?_ ?_
            ·skip
             rintro ⟨⟩ wx6367 ⟨hS6368, hT6369⟩ h
             try dsimp only at h
             refine MX.seq ?_
             refine MX.seq ?_
             refine MX.drawT 15 tb35_17 (by kernel_rfl) (by kernel_rfl) (by kernel_rfl) (fun kt6373 kp6374 => ?_)
             refine RD.vP 0 1 kt6373 rfl kp6374 .plain (fun _ => FV.move rfl) rfl ?_
             refine RD.vP 1 3 kt6373 rfl kp6374 .plain (fun _ => FV.gtrN (i := i5060) (j := 0) rfl rfl) rfl ?_
             refine RD.vP 2 7 kt6373 rfl kp6374 .plain (fun _ => FV.move rfl) rfl ?_
             refine RD.ifd (s := 75) rfl h (fun c6375 h => ?_) (fun c6375 h => ?_)
             ·skip
              refine RD.vP 3 15 kt6373 rfl kp6374 (.yes rfl rfl) (fun _ => FV.move rfl) rfl ?_
              refine RD.vP 4 31 kt6373 rfl kp6374 (.yes rfl rfl) (fun _ => FV.move rfl) rfl ?_
              obtain ⟨s6376, hs6376, h⟩ := bind_in h
              refine RD.vP 5 63 kt6373 rfl kp6374 (.yes rfl rfl) (fun _ => FV.subc (i := ((i5060 : Nat) : Int)) (j := 1) rfl rfl hs6376) rfl ?_
              obtain ⟨x6377, hx6377, h⟩ := bind_in h
              obtain ⟨hi6378, hx6379⟩ := idx_in hx6377
              have hm6387 := Cells.mv hc2748 (Tr.trans hT5066 hT6369)
              obtain ⟨A6380, c6381, he6382, hk6383, cs6384, hr6385, hm6386⟩ := St.nth (α := Int) hS6368 .hd hm6387 hx6379
              obtain ⟨b6388, c6389, he6390⟩ := St.nthOwn (α := Int) hS6368 .hd hk6383
              obtain rfl : A6380 = ⟨b6388, 0, none⟩ := by rw [he6390] at he6382; cases he6382; rfl
              have he6391 : cs6384 = [.int .i64 x6377] := hr6385; subst he6391
              refine RD.vP 6 127 kt6373 rfl kp6374 (.yes rfl rfl) (fun _ => FV.idxAddr (m := 1) (i := s6376.toNat) (by kernel_rfl) rfl he6382 rfl hi6378 hk6383) rfl ?_
              refine RD.val (i := 7) (m' := 255) (W := 28672) (takeC_ok kt6373 (by kernel_rfl)) rfl kp6374 (.yes rfl rfl) (FV.load1 (by kernel_rfl) rfl (hm6386 0 _ rfl)) rfl ?_
              refine RD.vP 8 511 kt6373 rfl kp6374 (.yes rfl rfl) (fun _ => FV.move rfl) rfl ?_
              refine RD.vP 9 1023 kt6373 rfl kp6374 (.yes rfl rfl) (fun _ => FV.move rfl) rfl ?_
              obtain ⟨x6392, hx6392, h⟩ := bind_in h
              obtain ⟨hi6393, hx6394⟩ := idx_in hx6392
              obtain ⟨A6395, c6396, he6397, hk6398, cs6399, hr6400, hm6401⟩ := St.nth (α := Int) hS6368 .hd hm6387 hx6394
              obtain ⟨b6402, c6403, he6404⟩ := St.nthOwn (α := Int) hS6368 .hd hk6398
              obtain rfl : A6395 = ⟨b6402, 0, none⟩ := by rw [he6404] at he6397; cases he6397; rfl
              have he6405 : cs6399 = [.int .i64 x6392] := hr6400; subst he6405
              refine RD.vP 10 2047 kt6373 rfl kp6374 (.yes rfl rfl) (fun _ => FV.idxAddr (m := 1) (i := y6350.1.toNat) (by kernel_rfl) rfl he6397 rfl hi6393 hk6398) rfl ?_
              refine RD.val (i := 11) (m' := 4095) (W := 28672) (takeC_ok kt6373 (by kernel_rfl)) rfl kp6374 (.yes rfl rfl) (FV.load1 (by kernel_rfl) rfl (hm6401 0 _ rfl)) rfl ?_
              obtain ⟨y6406, hy6406, h⟩ := bind_in h
              refine RD.callq (i := 12) (m' := 8191) (W := 24576) (takeC_ok kt6373 (by kernel_rfl)) rfl kp6374 (v := .bool y6406) (fst := []) (cap := []) (.yes rfl rfl) body71 rfl (evs_cons rfl (evs_cons rfl evs_nil)) (fun w9 hw9 => cmp_Less_int_c n _ w9 (hS6368.hL0 hL hw9) x6377 x6392 hy6406) rfl ?_
              refine RD.vP 13 16383 kt6373 rfl kp6374 (.yes rfl rfl) (fun _ => FV.not rfl) rfl ?_
              refine RD.vP 14 32767 kt6373 rfl kp6374 .plain (fun _ => FV.pick_t rfl rfl) rfl ?_
              refine RD.done (doneD_ok kt6373 (by kernel_rfl)) ?_
              refine MX.ifnb rfl h (fun c6407 h => ?_) (fun c6407 h => ?_)
              ·skip
               refine MX.skip ?_
               refine MX.seq ?_
               refine MX.region ?_
               refine RG.val' .plain (FV.move rfl) rfl ?_
               refine RG.val' .plain (FV.move rfl) rfl ?_
               refine RG.val' .plain (FV.move rfl) rfl ?_
               refine RG.val' .plain (FV.move rfl) rfl ?_
               cases h
              ·skip
               refine MX.seq ?_
               refine MX.region ?_
               refine RG.val' .plain (FV.move rfl) rfl ?_
               refine RG.val' .plain (FV.move rfl) rfl ?_
               refine RG.val' .plain (FV.move rfl) rfl ?_
               refine RG.val' .plain (FV.move rfl) rfl ?_
               cases h
             ·skip
              refine RD.offs 16383 1 [(3, 76), (4, 77), (5, 78), (6, 79), (7, 80), (8, 81), (9, 82), (10, 83), (11, 84), (12, 85), (13, 86)] (F := [(75, false)]) (U := []) kt6373 kp6374 (.cons rfl .nil) .nil ?_
              dsimp only [offS, List.map]
              refine RD.vP 14 32767 kt6373 rfl kp6374 .plain (fun _ => FV.pick_f rfl rfl) rfl ?_
              refine RD.done (doneD_ok kt6373 (by kernel_rfl)) ?_
              refine MX.cond_f rfl ?_
              refine MX.skip ?_
              refine MX.seq ?_
              refine MX.region ?_
              refine RG.val' .plain (FV.move rfl) rfl ?_
              refine RG.val' .plain (FV.move rfl) rfl ?_
              refine RG.val' .plain (FV.move rfl) rfl ?_
              refine RG.val' .plain (FV.move rfl) rfl ?_
              cases h
            ·skip
             intro J6371 hJ6372 h
             try dsimp only at h
             refine MX.ifd rfl h (fun c6408 h => ?_) (fun c6408 h => ?_)
             ·skip
              refine MX.seq ?_
              refine MX.region ?_
              refine RG.val' .plain (FV.move rfl) rfl ?_
              refine RG.val' .plain (FV.move rfl) rfl ?_
              refine RG.val' .plain (FV.move rfl) rfl ?_
              obtain ⟨y6409, hy6409, h⟩ := bind_in h
              refine RG.callq' (v := .bool y6409) (fst := []) (cap := []) .plain body70 rfl (evs_cons rfl (evs_cons rfl (evs_cons rfl evs_nil))) (fun w9 hw9 => slices_partialInsertionSortOrdered_int_c n _ w9 (hS5065.hL0 hL hw9) xs2746 (Rep.keep0 (St.lend (α := Int) (L := L) hS5065 .hd hm6351 hL) hw9) ((i5060 : Nat) : Int) ((i5061 : Nat) : Int) hy6409) rfl ?_
              refine RG.nil ?_
              refine MX.ifb rfl h (fun c6410 h => ?_) (fun c6410 h => ?_)
              ·skip
               refine MX.ret rfl ?_
               refine RT.leave (u := .tuple #[]) hb4116 Tryd.func35 rfl .nil rfl ?_
               refine RG.nil ?_
               refine MX.fin rfl ?_
               refine RT.leave (u := .tuple #[]) hb4109 Tryd.func17 rfl .nil rfl ?_
               refine RG.nil ?_
               refine MX.seq ?_
               refine MX.drawT 6 tb14_29 (by kernel_rfl) (by kernel_rfl) (by kernel_rfl) (fun kt6411 kp6412 => ?_)
               refine RD.vP 0 1 kt6411 rfl kp6412 .plain (fun _ => FV.move rfl) rfl ?_
               refine RD.vP 1 3 kt6411 rfl kp6412 .plain (fun _ => FV.move rfl) rfl ?_
               refine RD.vP 2 7 kt6411 rfl kp6412 .plain (fun _ => FV.nilCheck rfl) rfl ?_
               refine RD.vP 3 15 kt6411 rfl kp6412 .plain (fun _ => FV.fieldAddr (off := 0) (by kernel_rfl) rfl) rfl ?_
               refine RD.val (i := 4) (m' := 31) (W := 192) (takeC_ok kt6411 (by kernel_rfl)) rfl kp6412 .plain (FV.loadN (cs := [.int .u64 (u2750.toNat : Int)]) (by kernel_rfl) rfl (mem_part (hS5065.memA (.tl .hd)) 0 1)) rfl ?_
               refine RD.vP 5 63 kt6411 rfl kp6412 .plain (fun _ => FV.assign rfl) rfl ?_
               refine RD.one (i := 6) (readyD_ok kt6411 (by kernel_rfl)) (RO.now (m' := 127) (stepC_ok kt6411 (by kernel_rfl)) rfl rfl .plain (Acts.store (j := 0) (old := [.int .u64 0]) (news := [.int .u64 (u2750.toNat : Int)]) (new' := [.int .u64 (u2750.toNat : Int)]) hS5065 (.tl (.tl .hd)) rfl rfl rfl rfl rfl rfl (ones_cons rfl ones_nil) rfl) (fun w6413 hS6414 hT6415 => ?_))
               refine RD.one (i := 7) (readyD_ok kt6411 (by kernel_rfl)) (RO.val (m' := 255) (stepC_ok kt6411 (by kernel_rfl)) rfl .plain rfl (FV.assign rfl) ?_)
               refine RD.done (doneD_ok kt6411 (by kernel_rfl)) ?_
               refine MX.ret rfl ?_
               have hm6419 := Cells.mv hc2748 (Tr.trans hT5066 hT6415)
               have hr6416 := St.freeze (α := Int) hS6414 .hd hm6419 hL
               have hS6417 := hS6414.del (.hd : Out _ _ _).del
               have hT6418 := Tr.del (w := w6413) (.hd : Out [.row w.heap.size 3 (Rep.size Int) v2749 xs2746.length cs2747, .cells b36 [.int .u64 (u2750.toNat : Int), .int .i64 a0.fN, v0_1, .int .u64 (a1.toNat : Int), .int .i64 z2751] 74, .cells b15 [.int .u64 (u2750.toNat : Int)] 37, .cells b5 [.int .i64 a0.fN, v0_1] 40] _ _).del
               have hr6420 : Rep.R w6413 (bl [.cells b36 [.int .u64 (u2750.toNat : Int), .int .i64 a0.fN, v0_1, .int .u64 (a1.toNat : Int), .int .i64 z2751] 74, .cells b15 [.int .u64 (u2750.toNat : Int)] 37, .cells b5 [.int .i64 a0.fN, v0_1] 40] ++ L) [v2749] xs2746 := hr6416
               refine RT.leave (u := .tuple #[v2749, .agg #[.int .u64 (u2750.toNat : Int)], .int .i64 0]) hb0 Tryd.func14 rfl (.cons (.tmp rfl) (.cons (.many (cs := [.int .u64 (u2750.toNat : Int)]) (by kernel_rfl) rfl (hS6417.memA (.tl .hd))) (.cons (.tmp rfl) .nil))) rfl ?_
               obtain rfl := Option.some.inj h
               exact ⟨hS6417.ag, fun w9 hw9 => ⟨v2749, rfl, Rep.keep0 (Rep.dropO (O := [.cells b36 [.int .u64 (u2750.toNat : Int), .int .i64 a0.fN, v0_1, .int .u64 (a1.toNat : Int), .int .i64 z2751] 74, .cells b15 [.int .u64 (u2750.toNat : Int)] 37, .cells b5 [.int .i64 a0.fN, v0_1] 40]) hr6420) hw9⟩⟩
              ·skip
               refine MX.skip ?_
               exact hJ6372 () _ _ ⟨rfl, rfl, rfl, rfl, rfl, rfl, rfl, rfl, trivial⟩ ⟨hS5065, Tr.refl _ _⟩ h
             ·skip
              refine MX.skip ?_
              exact hJ6372 () _ _ ⟨rfl, rfl, rfl, rfl, rfl, rfl, rfl, rfl, trivial⟩ ⟨hS5065, Tr.refl _ _⟩ h
           ·skip
            refine RG.off (.no rfl rfl) rfl ?_
            refine RG.off (.no rfl rfl) rfl ?_
            refine RG.val' .plain (FV.pick_f rfl rfl) rfl ?_
            refine RG.nil ?_
            refine MX.cond_f rfl ?_
            refine MX.skip ?_
            refine MX.seq ?_
            refine MX.seq ?_
            refine MX.drawT 15 tb35_17 (by kernel_rfl) (by kernel_rfl) (by kernel_rfl) (fun kt6421 kp6422 => ?_)
            refine RD.vP 0 1 kt6421 rfl kp6422 .plain (fun _ => FV.move rfl) rfl ?_
            refine RD.vP 1 3 kt6421 rfl kp6422 .plain (fun _ => FV.gtrN (i := i5060) (j := 0) rfl rfl) rfl ?_
            refine RD.vP 2 7 kt6421 rfl kp6422 .plain (fun _ => FV.move rfl) rfl ?_
            refine RD.ifd (s := 75) rfl h (fun c6423 h => ?_) (fun c6423 h => ?_)
            ·skip
             refine RD.vP 3 15 kt6421 rfl kp6422 (.yes rfl rfl) (fun _ => FV.move rfl) rfl ?_
             refine RD.vP 4 31 kt6421 rfl kp6422 (.yes rfl rfl) (fun _ => FV.move rfl) rfl ?_
             obtain ⟨s6424, hs6424, h⟩ := bind_in h
             refine RD.vP 5 63 kt6421 rfl kp6422 (.yes rfl rfl) (fun _ => FV.subc (i := ((i5060 : Nat) : Int)) (j := 1) rfl rfl hs6424) rfl ?_
             obtain ⟨x6425, hx6425, h⟩ := bind_in h
             obtain ⟨hi6426, hx6427⟩ := idx_in hx6425
             obtain ⟨A6428, c6429, he6430, hk6431, cs6432, hr6433, hm6434⟩ := St.nth (α := Int) hS5065 .hd hm6351 hx6427
             obtain ⟨b6435, c6436, he6437⟩ := St.nthOwn (α := Int) hS5065 .hd hk6431
             obtain rfl : A6428 = ⟨b6435, 0, none⟩ := by rw [he6437] at he6430; cases he6430; rfl
             have he6438 : cs6432 = [.int .i64 x6425] := hr6433; subst he6438
             refine RD.vP 6 127 kt6421 rfl kp6422 (.yes rfl rfl) (fun _ => FV.idxAddr (m := 1) (i := s6424.toNat) (by kernel_rfl) rfl he6430 rfl hi6426 hk6431) rfl ?_
             refine RD.val (i := 7) (m' := 255) (W := 28672) (takeC_ok kt6421 (by kernel_rfl)) rfl kp6422 (.yes rfl rfl) (FV.load1 (by kernel_rfl) rfl (hm6434 0 _ rfl)) rfl ?_
             refine RD.vP 8 511 kt6421 rfl kp6422 (.yes rfl rfl) (fun _ => FV.move rfl) rfl ?_
             refine RD.vP 9 1023 kt6421 rfl kp6422 (.yes rfl rfl) (fun _ => FV.move rfl) rfl ?_
             obtain ⟨x6439, hx6439, h⟩ := bind_in h
             obtain ⟨hi6440, hx6441⟩ := idx_in hx6439
             obtain ⟨A6442, c6443, he6444, hk6445, cs6446, hr6447, hm6448⟩ := St.nth (α := Int) hS5065 .hd hm6351 hx6441
             obtain ⟨b6449, c6450, he6451⟩ := St.nthOwn (α := Int) hS5065 .hd hk6445
             obtain rfl : A6442 = ⟨b6449, 0, none⟩ := by rw [he6451] at he6444; cases he6444; rfl
             have he6452 : cs6446 = [.int .i64 x6439] := hr6447; subst he6452
             refine RD.vP 10 2047 kt6421 rfl kp6422 (.yes rfl rfl) (fun _ => FV.idxAddr (m := 1) (i := y6350.1.toNat) (by kernel_rfl) rfl he6444 rfl hi6440 hk6445) rfl ?_
             refine RD.val (i := 11) (m' := 4095) (W := 28672) (takeC_ok kt6421 (by kernel_rfl)) rfl kp6422 (.yes rfl rfl) (FV.load1 (by kernel_rfl) rfl (hm6448 0 _ rfl)) rfl ?_
             obtain ⟨y6453, hy6453, h⟩ := bind_in h
             refine RD.callq (i := 12) (m' := 8191) (W := 24576) (takeC_ok kt6421 (by kernel_rfl)) rfl kp6422 (v := .bool y6453) (fst := []) (cap := []) (.yes rfl rfl) body71 rfl (evs_cons rfl (evs_cons rfl evs_nil)) (fun w9 hw9 => cmp_Less_int_c n _ w9 (hS5065.hL0 hL hw9) x6425 x6439 hy6453) rfl ?_
             refine RD.vP 13 16383 kt6421 rfl kp6422 (.yes rfl rfl) (fun _ => FV.not rfl) rfl ?_
             refine RD.vP 14 32767 kt6421 rfl kp6422 .plain (fun _ => FV.pick_t rfl rfl) rfl ?_
             refine RD.done (doneD_ok kt6421 (by kernel_rfl)) ?_
             refine MX.ifnb rfl h (fun c6454 h => ?_) (fun c6454 h => ?_)
             ·skip
              refine MX.skip ?_
              refine MX.seq ?_
              refine MX.region ?_
              refine RG.val' .plain (FV.move rfl) rfl ?_
              refine RG.val' .plain (FV.move rfl) rfl ?_
              refine RG.val' .plain (FV.move rfl) rfl ?_
              refine RG.val' .plain (FV.move rfl) rfl ?_
              cases h
             ·skip
              refine MX.seq ?_
              refine MX.region ?_
              refine RG.val' .plain (FV.move rfl) rfl ?_
              refine RG.val' .plain (FV.move rfl) rfl ?_
              refine RG.val' .plain (FV.move rfl) rfl ?_
              refine RG.val' .plain (FV.move rfl) rfl ?_
              cases h
            ·skip
             refine RD.offs 16383 1 [(3, 76), (4, 77), (5, 78), (6, 79), (7, 80), (8, 81), (9, 82), (10, 83), (11, 84), (12, 85), (13, 86)] (F := [(75, false)]) (U := []) kt6421 kp6422 (.cons rfl .nil) .nil ?_
             dsimp only [offS, List.map]
             refine RD.vP 14 32767 kt6421 rfl kp6422 .plain (fun _ => FV.pick_f rfl rfl) rfl ?_
             refine RD.done (doneD_ok kt6421 (by kernel_rfl)) ?_
             refine MX.cond_f rfl ?_
             refine MX.skip ?_
             refine MX.seq ?_
             refine MX.region ?_
             refine RG.val' .plain (FV.move rfl) rfl ?_
             refine RG.val' .plain (FV.move rfl) rfl ?_
             refine RG.val' .plain (FV.move rfl) rfl ?_
             refine RG.val' .plain (FV.move rfl) rfl ?_
             cases h
         ·skip
          refine MX.seq ?_
          refine MX.region ?_
          refine RG.val' .plain (FV.move rfl) rfl ?_
          refine RG.val' .plain (FV.move rfl) rfl ?_
          refine RG.val' .plain (FV.move rfl) rfl ?_
          cases h
     ·skip
      refine MX.seq ?_
      refine MX.region ?_
      refine RG.val' .plain (FV.buildV (vs := []) (u := .agg #[.int .u64 0]) evs_nil (fun w9 => by kernel_rfl)) rfl ?_
      refine RG.val' .plain (FV.assign rfl) rfl ?_
      refine RG.now .plain (Acts.store (j := 0) (old := [.int .u64 0]) (news := [.int .u64 0]) (new' := [.int .u64 0]) hS13 .hd rfl rfl rfl rfl rfl rfl (ones_cons rfl ones_nil) rfl) (fun w6455 hS6456 hT6457 => ?_)
      refine RG.val' .plain (FV.assign rfl) rfl ?_
      refine RG.nil ?_
      refine MX.ret rfl ?_
      have hr6458 : Rep.R w6455 (bl [.cells b15 [.int .u64 0] 37, .cells b10 [.int .u64 (a2.fState.toNat : Int)] 37, .cells b5 [.int .i64 a0.fN, v0_1] 40] ++ L) [.slice none 0 0] ([] : List Int) := Rep.nilSlice _ _
      refine RT.leave (u := .tuple #[.slice none 0 0, .agg #[.int .u64 0], .int .i64 4]) hb0 Tryd.func14 rfl (.cons (.tmp rfl) (.cons (.many (cs := [.int .u64 0]) (by kernel_rfl) rfl (hS6456.memA .hd)) (.cons (.tmp rfl) .nil))) rfl ?_
      obtain rfl := Option.some.inj h
      have hr6459 : Rep.R w6455 (bl [.cells b15 [.int .u64 0] 37, .cells b10 [.int .u64 (a2.fState.toNat : Int)] 37, .cells b5 [.int .i64 a0.fN, v0_1] 40] ++ L) [.slice none 0 0] ([] : List Int) := Rep.nilSlice _ _
      exact ⟨hS6456.ag, fun w9 hw9 => ⟨(.slice none 0 0), rfl, Rep.keep0 (Rep.dropO (O := [.cells b15 [.int .u64 0] 37, .cells b10 [.int .u64 (a2.fState.toNat : Int)] 37, .cells b5 [.int .i64 a0.fN, v0_1] 40]) hr6459) hw9⟩⟩
    ·skip
     refine MX.seq ?_
     refine MX.region ?_
     refine RG.val' .plain (FV.buildV (vs := []) (u := .agg #[.int .u64 0]) evs_nil (fun w9 => by kernel_rfl)) rfl ?_
     refine RG.val' .plain (FV.assign rfl) rfl ?_
     refine RG.now .plain (Acts.store (j := 0) (old := [.int .u64 0]) (news := [.int .u64 0]) (new' := [.int .u64 0]) hS13 .hd rfl rfl rfl rfl rfl rfl (ones_cons rfl ones_nil) rfl) (fun w6460 hS6461 hT6462 => ?_)
     refine RG.val' .plain (FV.assign rfl) rfl ?_
     refine RG.nil ?_
     refine MX.ret rfl ?_
     have hr6463 : Rep.R w6460 (bl [.cells b15 [.int .u64 0] 37, .cells b10 [.int .u64 (a2.fState.toNat : Int)] 37, .cells b5 [.int .i64 a0.fN, v0_1] 40] ++ L) [.slice none 0 0] ([] : List Int) := Rep.nilSlice _ _
     refine RT.leave (u := .tuple #[.slice none 0 0, .agg #[.int .u64 0], .int .i64 2]) hb0 Tryd.func14 rfl (.cons (.tmp rfl) (.cons (.many (cs := [.int .u64 0]) (by kernel_rfl) rfl (hS6461.memA .hd)) (.cons (.tmp rfl) .nil))) rfl ?_
     obtain rfl := Option.some.inj h
     have hr6464 : Rep.R w6460 (bl [.cells b15 [.int .u64 0] 37, .cells b10 [.int .u64 (a2.fState.toNat : Int)] 37, .cells b5 [.int .i64 a0.fN, v0_1] 40] ++ L) [.slice none 0 0] ([] : List Int) := Rep.nilSlice _ _
     exact ⟨hS6461.ag, fun w9 hw9 => ⟨(.slice none 0 0), rfl, Rep.keep0 (Rep.dropO (O := [.cells b15 [.int .u64 0] 37, .cells b10 [.int .u64 (a2.fState.toNat : Int)] 37, .cells b5 [.int .i64 a0.fN, v0_1] 40]) hr6464) hw9⟩⟩
  ·skip
   refine MX.seq ?_
   refine MX.region ?_
   refine RG.val' .plain (FV.buildV (vs := []) (u := .agg #[.int .u64 0]) evs_nil (fun w9 => by kernel_rfl)) rfl ?_
   refine RG.val' .plain (FV.move rfl) rfl ?_
   refine RG.val' .plain (FV.assign rfl) rfl ?_
   refine RG.now .plain (Acts.store (j := 0) (old := [.int .u64 0]) (news := [.int .u64 0]) (new' := [.int .u64 0]) hS13 .hd rfl rfl rfl rfl rfl rfl (ones_cons rfl ones_nil) rfl) (fun w6465 hS6466 hT6467 => ?_)
   refine RG.val' .plain (FV.assign rfl) rfl ?_
   refine RG.nil ?_
   refine MX.ret rfl ?_
   have hr6468 : Rep.R w6465 (bl [.cells b15 [.int .u64 0] 37, .cells b10 [.int .u64 (a2.fState.toNat : Int)] 37, .cells b5 [.int .i64 a0.fN, v0_1] 40] ++ L) [.slice none 0 0] ([] : List Int) := Rep.nilSlice _ _
   refine RT.leave (u := .tuple #[.slice none 0 0, .agg #[.int .u64 0], .int .i64 y16]) hb0 Tryd.func14 rfl (.cons (.tmp rfl) (.cons (.many (cs := [.int .u64 0]) (by kernel_rfl) rfl (hS6466.memA .hd)) (.cons (.tmp rfl) .nil))) rfl ?_
   obtain rfl := Option.some.inj h
   have hr6469 : Rep.R w6465 (bl [.cells b15 [.int .u64 0] 37, .cells b10 [.int .u64 (a2.fState.toNat : Int)] 37, .cells b5 [.int .i64 a0.fN, v0_1] 40] ++ L) [.slice none 0 0] ([] : List Int) := Rep.nilSlice _ _
   exact ⟨hS6466.ag, fun w9 hw9 => ⟨(.slice none 0 0), rfl, Rep.keep0 (Rep.dropO (O := [.cells b15 [.int .u64 0] 37, .cells b10 [.int .u64 (a2.fState.toNat : Int)] 37, .cells b5 [.int .i64 a0.fN, v0_1] 40]) hr6469) hw9⟩⟩
end Go.Proofs.YtplkfbljncfdnaaDoor
