/- Functions of the program, and what they give: part 5. -/
import Derived.Test.YtplkfbljncfdnaaDoorK4
namespace Go.Proofs.YtplkfbljncfdnaaDoor
open Go Go.RowKit

def tb15_19 : List (Nat × Nat × Nat) := [(0, 1267650600228229401496703205376, 1024), (0, 2535301200456458802993406410752, 524288), (2, 5070602400912917605986812821504, 2535301200456458802993406410752), (4, 10141204801825835211973625643008, 5070602400912917605986812821504), (8, 20282409603651670423947251286016, 10141204801825835211973625643008), (1, 1024, 1267650600228229401496703205376), (63, 0, 20282409603651670423947251288064), (127, 4096, 0)]
theorem body24 : bodyB Tryd.prog 24 = true := by kernel_rfl
def wilson_Walk_l1 (n : Nat) (J1011 : UInt64 × (List Int) → Option (List Int)) : UInt64 × (List Int) → Option (List Int)
  | (u999, xs1000) => (if u999 = (0 : UInt64) then some xs1000 else (math_bits_TrailingZeros64_p n u999).bind fun y1083 => (app xs1000 ([y1083] : List Int)).bind fun xs1095 => J1011 (u999 &&& (u999 - (1 : UInt64)), xs1095))
def wilson_Walk_l2 (_n : Nat) (a0 : TGraph) (z756 : Int) (J886 : UInt64 × Nat → Option UInt64) : UInt64 × Nat → Option UInt64
  | (u877, i878) => (if i878 < a0.fEdges.length then (a0.fEdges[i878]?).bind fun x889 => (if x889.1 = z756 then (chk (x889.1 + x889.2)).bind fun s907 => (chk (s907 - z756)).bind fun s908 => (natOf s908).bind fun k909 => J886 (u877 ||| (shlU (1 : UInt64) k909), i878 + 1) else jn (fun u916 => J886 (u916, i878 + 1)) (fun J920 => (if x889.2 = z756 then (chk (x889.1 + x889.2)).bind fun s923 => (chk (s923 - z756)).bind fun s924 => (natOf s924).bind fun k925 => J920 (u877 ||| (shlU (1 : UInt64) k925)) else J920 u877))) else some u877)
def wilson_Walk_l3 (n : Nat) (a3 : UInt64) (a0 : TGraph) (a1 : UInt64) (J770 : Int × (List Int) × UInt64 × Int → Option (((List Int) × TChance × Int) ⊕ ((List Int) × UInt64))) : Int × (List Int) × UInt64 × Int → Option (((List Int) × TChance × Int) ⊕ ((List Int) × UInt64))
  | (z756, xs757, u761, z762) => (natOf z756).bind fun k772 => (if ((shrU a3 k772) &&& (1 : UInt64)) = (1 : UInt64) then some (.inr (xs757, u761)) else (if z762 = 0 then some (.inl (([] : List Int), (⟨(0 : UInt64)⟩ : TChance), 9)) else (chk (z762 - 1)).bind fun s790 => Option.bind (loopF (wilson_Walk_l2 n a0 z756) n ((0 : UInt64), 0)) (fun u877 => Option.bind (loopF (wilson_Walk_l1 n) n (u877 &&& a1, ([] : List Int))) (fun xs1000 => (chance_Below_p n (⟨u761⟩ : TChance) ((xs1000.length : Nat) : Int)).bind fun y1032 => (if y1032.2.2 = 0 then (idx xs1000 y1032.1).bind fun x1045 => (app xs757 ([x1045] : List Int)).bind fun xs1066 => J770 (x1045, xs1066, y1032.2.1.fState, s790) else some (.inl (([] : List Int), (⟨(0 : UInt64)⟩ : TChance), y1032.2.2)))))))
def wilson_Walk_l4 (_n : Nat) (y38 : (List Int) × Int) (a3 : UInt64) (J75 : Bool × Nat → Option Bool) : Bool × Nat → Option Bool
  | (q66, i67) => (if i67 < y38.1.length then (y38.1[i67]?).bind fun x78 => (if q66 = true then J75 (true, i67 + 1) else (if 0 ≤ x78 then J75 ((decide (((shrU a3 i67) &&& (1 : UInt64)) = (1 : UInt64))), i67 + 1) else J75 (false, i67 + 1))) else some q66)
def wilson_Walk_p (n : Nat) (a0 : TGraph) (a1 : UInt64) (a2 : Int) (a3 : UInt64) (a4 : TChance) : Option ((List Int) × TChance × Int) :=
  (graph_Check_p n a0).bind fun y16 => (if y16 = 0 then jn (fun q26 => (if q26 = true then some (([] : List Int), (⟨(0 : UInt64)⟩ : TChance), 2) else (graph_Distances_p n a0 a1 a2).bind fun y38 => Option.bind (loopF (wilson_Walk_l4 n y38 a3) n (false, 0)) (fun q66 => (if q66 = true then thn (loopF (wilson_Walk_l3 n a3 a0 a1) n (a2, ([a2] : List Int), a4.fState, 10000)) (fun (xs757, u761) => some (xs757, (⟨u761⟩ : TChance), 0)) else some (([] : List Int), (⟨(0 : UInt64)⟩ : TChance), 4))))) (fun J30 => (wilson_fits_p n a0 a1).bind fun y1118 => (if y1118 = true then (wilson_fits_p n a0 a3).bind fun y1120 => (if y1120 = true then (if a2 < 0 then J30 true else (if a0.fN ≤ a2 then J30 true else (natOf a2).bind fun k1124 => J30 (decide (((shrU a1 k1124) &&& (1 : UInt64)) = (0 : UInt64))))) else J30 true) else J30 true)) else some (([] : List Int), (⟨(0 : UInt64)⟩ : TChance), y16))
set_option maxRecDepth 4000 in
set_option maxHeartbeats 4000000 in
theorem wilson_Walk_c (n : Nat) (L : List Nat) (w : World) (hL : ∀ b ∈ L, b < w.heap.size) (a0 : TGraph) {v0_1 : Value} (h0_1 : Rep.R w L [v0_1] a0.fEdges) (a1 : UInt64) (a2 : Int) (a3 : UInt64) (a4 : TChance) (hG0 : Glob 0 tab0 w)  {r : (List Int) × TChance × Int} (h : wilson_Walk_p n a0 a1 a2 a3 a4 = some r) :
    Calls Tryd.prog 15 #[.agg #[.int .i64 a0.fN, v0_1], .int .u64 (a1.toNat : Int), .int .i64 a2, .int .u64 (a3.toNat : Int), .agg #[.int .u64 (a4.fState.toNat : Int)]] w (Gives w fun w' u => ∃ v0_0 : Value, u = .tuple #[v0_0, .agg #[.int .u64 (r.2.1.fState.toNat : Int)], .int .i64 r.2.2] ∧ Rep.R w' L [v0_0] r.1) := by
  unfold wilson_Walk_p at h
  have hS0 := St.start w
  refine MX.start Tryd.func15 rfl rfl rfl (fun _ cs0 hb0 => ?_)
  refine MX.seq ?_
  refine MX.region ?_
  refine RG.new .plain rfl (Does.box (vs := [.int .i64 a0.fN, v0_1]) hS0 rfl rfl) (fun w2 b5 hS3 hT4 => ?_)
  refine RG.new .plain rfl (Does.box (vs := [.int .u64 (a4.fState.toNat : Int)]) hS3 rfl rfl) (fun w7 b10 hS8 hT9 => ?_)
  refine RG.val' .plain (FV.assign rfl) rfl ?_
  refine RG.new .plain rfl (Does.alloc (zs := [.int .u64 0]) hS8 (zB (by kernel_rfl))) (fun w12 b15 hS13 hT14 => ?_)
  refine RG.val' .plain (FV.assign rfl) rfl ?_
  refine RG.nil ?_
  refine MX.seq ?_
  refine MX.seq ?_
  refine MX.region ?_
  refine RG.val' .plain (FV.loadN (cs := [.int .i64 a0.fN, v0_1]) (by kernel_rfl) rfl (hS13.memA (.tl (.tl .hd)))) rfl ?_
  obtain ⟨y16, hy16, h⟩ := bind_in h
  have hm17 := Rep.mv h0_1 (Tr.trans hT4 (Tr.trans hT9 hT14))
  refine RG.callq' (v := .int .i64 y16) (fst := []) (cap := []) .plain body32 rfl (evs_cons rfl evs_nil) (fun w9 hw9 => graph_Check_c n _ w9 (hS13.hL0 hL hw9) a0 (Rep.keep0 (Rep.dropO (O := [.cells b15 [.int .u64 0] 37, .cells b10 [.int .u64 (a4.fState.toNat : Int)] 37, .cells b5 [.int .i64 a0.fN, v0_1] 40]) hm17) hw9) hy16) rfl ?_
  refine RG.val' .plain (FV.assign rfl) rfl ?_
  refine RG.nil ?_
  refine MX.seq ?_
  refine MX.region ?_
  refine RG.val' .plain (FV.move rfl) rfl ?_
  refine RG.val' .plain (FV.neq (i := y16) (j := 0) rfl rfl) rfl ?_
  refine RG.nil ?_
  refine MX.ifn rfl h (fun c18 h => ?_) (fun c18 h => ?_)
  ·skip
   refine MX.skip ?_
   refine MX.seq ?_
   refine MX.seq ?_
   refine MX.join (α := Bool) (fun q26 => [(1, .int .u64 (a1.toNat : Int)), (2, .int .i64 a2), (3, .int .u64 (a3.toNat : Int)), (5, .pointer (some ⟨b5, 0, none⟩)), (9, .pointer (some ⟨b10, 0, none⟩)), (11, .pointer (some ⟨b15, 0, none⟩)), (52, .bool q26)]) (fun q26 wx26 => St w wx26 [.cells b15 [.int .u64 0] 37, .cells b10 [.int .u64 (a4.fState.toNat : Int)] 37, .cells b5 [.int .i64 a0.fN, v0_1] 40] ∧ Tr w12 [.cells b15 [.int .u64 0] 37, .cells b10 [.int .u64 (a4.fState.toNat : Int)] 37, .cells b5 [.int .i64 a0.fN, v0_1] 40] wx26 [.cells b15 [.int .u64 0] 37, .cells b10 [.int .u64 (a4.fState.toNat : Int)] 37, .cells b5 [.int .i64 a0.fN, v0_1] 40]) (fun q26 => q26) h ?_ ?_
   ·skip
    rintro q26 wx26 ⟨hS27, hT28⟩ h
    try dsimp only at h
    refine MX.ifb rfl h (fun c32 h => ?_) (fun c32 h => ?_)
    ·skip
     refine MX.seq ?_
     refine MX.region ?_
     refine RG.val' .plain (FV.buildV (vs := []) (u := .agg #[.int .u64 0]) evs_nil (fun w9 => by kernel_rfl)) rfl ?_
     refine RG.val' .plain (FV.assign rfl) rfl ?_
     refine RG.now .plain (Acts.store (j := 0) (old := [.int .u64 0]) (news := [.int .u64 0]) (new' := [.int .u64 0]) hS27 .hd rfl rfl rfl rfl rfl rfl (ones_cons rfl ones_nil) rfl) (fun w33 hS34 hT35 => ?_)
     refine RG.val' .plain (FV.assign rfl) rfl ?_
     refine RG.nil ?_
     refine MX.ret rfl ?_
     have hr36 : Rep.R w33 (bl [.cells b15 [.int .u64 0] 37, .cells b10 [.int .u64 (a4.fState.toNat : Int)] 37, .cells b5 [.int .i64 a0.fN, v0_1] 40] ++ L) [.slice none 0 0] ([] : List Int) := Rep.nilSlice _ _
     refine RT.leave (u := .tuple #[.slice none 0 0, .agg #[.int .u64 0], .int .i64 2]) hb0 Tryd.func15 rfl (.cons (.tmp rfl) (.cons (.many (cs := [.int .u64 0]) (by kernel_rfl) rfl (hS34.memA .hd)) (.cons (.tmp rfl) .nil))) rfl ?_
     obtain rfl := Option.some.inj h
     have hr37 : Rep.R w33 (bl [.cells b15 [.int .u64 0] 37, .cells b10 [.int .u64 (a4.fState.toNat : Int)] 37, .cells b5 [.int .i64 a0.fN, v0_1] 40] ++ L) [.slice none 0 0] ([] : List Int) := Rep.nilSlice _ _
     exact ⟨hS34.ag, fun w9 hw9 => ⟨(.slice none 0 0), rfl, Rep.keep0 (Rep.dropO (O := [.cells b15 [.int .u64 0] 37, .cells b10 [.int .u64 (a4.fState.toNat : Int)] 37, .cells b5 [.int .i64 a0.fN, v0_1] 40]) hr37) hw9⟩⟩
    ·skip
     refine MX.skip ?_
     refine MX.seq ?_
     refine MX.region ?_
     refine RG.val' .plain (FV.loadN (cs := [.int .i64 a0.fN, v0_1]) (by kernel_rfl) rfl (hS27.memA (.tl (.tl .hd)))) rfl ?_
     refine RG.val' .plain (FV.move rfl) rfl ?_
     refine RG.val' .plain (FV.move rfl) rfl ?_
     obtain ⟨y38, hy38, h⟩ := bind_in h
     have hm39 := Rep.mv h0_1 (Tr.trans hT4 (Tr.trans hT9 (Tr.trans hT14 hT28)))
     refine RG.call' (fst := []) (cap := []) .plain body24 rfl (evs_cons rfl (evs_cons rfl (evs_cons rfl evs_nil))) (fun w9 hw9 => graph_Distances_c n _ w9 (hS27.hL hL hw9) a0 (Rep.keep0 hm39 hw9) a1 a2 (hG0.keep (hS27.ag.trans hw9)) hy38) rfl (fun w40 vu41 hag42 ⟨v45, hu_, hr46⟩ => ?_)
     subst hu_
     have hS43 := hS27.agree hag42
     have hT44 := Tr.agree (O := [.cells b15 [.int .u64 0] 37, .cells b10 [.int .u64 (a4.fState.toNat : Int)] 37, .cells b5 [.int .i64 a0.fN, v0_1] 40]) hag42
     refine RG.val' .plain (FV.move rfl) rfl ?_
     refine RG.val' .plain (FV.extract rfl rfl) rfl ?_
     refine RG.val' .plain (FV.extract rfl rfl) rfl ?_
     refine RG.val' .plain (FV.assign rfl) rfl ?_
     refine RG.val' .plain (FV.assign rfl) rfl ?_
     refine RG.nil ?_
     refine MX.seq ?_
     refine MX.region ?_
     refine RG.val' .plain (FV.assign rfl) rfl ?_
     refine RG.nil ?_
     refine MX.seq ?_
     refine MX.seq ?_
     refine MX.region ?_
     refine RG.val' .plain (FV.move rfl) rfl ?_
     have hl47 : y38.1.length ≤ 281474976710656 := Rep.lenle hr46
     refine RG.val' .plain (FV.len (xs := y38.1) Tryd.underlying22 rfl hr46) rfl ?_
     refine RG.val' .plain (FV.move rfl) rfl ?_
     refine RG.nil ?_
     refine MX.block ?_
     obtain ⟨o73, ho72, hh74⟩ := bind_in2 h
     refine MX.loop (α := Bool × Nat) (fun ⟨q66, i67⟩ => [(1, .int .u64 (a1.toNat : Int)), (2, .int .i64 a2), (3, .int .u64 (a3.toNat : Int)), (5, .pointer (some ⟨b5, 0, none⟩)), (9, .pointer (some ⟨b10, 0, none⟩)), (11, .pointer (some ⟨b15, 0, none⟩)), (16, .bool q66), (61, v45), (62, .int .i64 ((y38.1.length : Nat) : Int)), (63, .int .i64 ((i67 : Nat) : Int))]) (fun ⟨q66, i67⟩ wx67 => St w wx67 [.cells b15 [.int .u64 0] 37, .cells b10 [.int .u64 (a4.fState.toNat : Int)] 37, .cells b5 [.int .i64 a0.fN, v0_1] 40] ∧ Tr w40 [.cells b15 [.int .u64 0] 37, .cells b10 [.int .u64 (a4.fState.toNat : Int)] 37, .cells b5 [.int .i64 a0.fN, v0_1] 40] wx67 [.cells b15 [.int .u64 0] 37, .cells b10 [.int .u64 (a4.fState.toNat : Int)] 37, .cells b5 [.int .i64 a0.fN, v0_1] 40]) (fun ⟨q66, i67⟩ => (q66, i67)) (false, 0) ho72 ⟨rfl, rfl, rfl, rfl, rfl, rfl, rfl, rfl, rfl, rfl, trivial⟩ ⟨hS43, Tr.refl _ _⟩ ?_
     rintro J75 ⟨q66, i67⟩ wx67 hJ76 ⟨hS68, hT69⟩ h
     unfold wilson_Walk_l4 at h
     try dsimp only at h
     refine MX.seq ?_
     refine MX.region ?_
     refine RG.val' .plain (FV.lssN (i := i67) (j := y38.1.length) rfl rfl) rfl ?_
     refine RG.nil ?_
     refine MX.seq ?_
     refine MX.ifd rfl h (fun c77 h => ?_) (fun c77 h => ?_)
     ·skip
      refine MX.skip ?_
      refine MX.seq ?_
      refine MX.block ?_
      refine MX.seq ?_
      refine MX.region ?_
      refine RG.val' .plain (FV.move rfl) rfl ?_
      obtain ⟨x78, hx78, h⟩ := bind_in h
      have hm86 := Rep.mv hr46 hT69
      obtain ⟨A79, c80, he81, hk82, cs83, hr84, hm85⟩ := Rep.nth hm86 hx78
      have he87 : cs83 = [.int .i64 x78] := hr84; subst he87
      refine RG.val' .plain (FV.idxAddr (m := 1) (i := i67) (by kernel_rfl) rfl he81 rfl rfl hk82) rfl ?_
      refine RG.val' .plain (FV.load1 (by kernel_rfl) rfl (hm85 0 _ rfl)) rfl ?_
      refine RG.val' .plain (FV.assign rfl) rfl ?_
      refine RG.val' .plain (FV.assign rfl) rfl ?_
      refine RG.nil ?_
      refine MX.region ?_
      refine RG.val' .plain (FV.move rfl) rfl ?_
      refine RG.val' .plain (FV.move rfl) rfl ?_
      refine RG.ifb (s := 69) rfl h (fun c88 h => ?_) (fun c88 h => ?_)
      ·skip
       refine RG.off (.no rfl rfl) rfl ?_
       refine RG.off (.no rfl rfl) rfl ?_
       refine RG.off (.no rfl rfl) rfl ?_
       refine RG.off (.undef rfl rfl) rfl ?_
       refine RG.off (.undef rfl rfl) rfl ?_
       refine RG.off (.undef rfl rfl) rfl ?_
       refine RG.off (.undef rfl rfl) rfl ?_
       refine RG.off (.undef rfl rfl) rfl ?_
       refine RG.off (.no rfl rfl) rfl ?_
       refine RG.val' .plain (FV.pick_t rfl rfl) rfl ?_
       refine RG.val' .plain (FV.assign rfl) rfl ?_
       refine RG.nil ?_
       refine MX.inBlock ?_
       refine MX.region ?_
       refine RG.val' .plain (FV.addN (i := i67) (j := 1) rfl rfl (by omega)) rfl ?_
       refine RG.val' .plain (FV.move rfl) rfl ?_
       refine RG.nil ?_
       exact hJ76 (true, i67 + 1) _ _ ⟨rfl, rfl, rfl, rfl, rfl, rfl, rfl, rfl, rfl, rfl, trivial⟩ ⟨hS68, hT69⟩ h
      ·skip
       refine RG.val' (.yes rfl rfl) (FV.move rfl) rfl ?_
       refine RG.val' (.yes rfl rfl) (FV.geq (i := x78) (j := 0) rfl rfl) rfl ?_
       refine RG.val' (.yes rfl rfl) (FV.move rfl) rfl ?_
       refine RG.ifd (s := 72) rfl h (fun c89 h => ?_) (fun c89 h => ?_)
       ·skip
        refine RG.val' (.yes rfl rfl) (FV.move rfl) rfl ?_
        refine RG.val' (.yes rfl rfl) (FV.move rfl) rfl ?_
        refine RG.val' (.yes rfl rfl) (FV.shrU (a := a3) (j := i67) rfl rfl) rfl ?_
        refine RG.val' (.yes rfl rfl) (FV.andU (a := shrU a3 i67) (b := (1 : UInt64)) rfl rfl) rfl ?_
        refine RG.val' (.yes rfl rfl) (FV.eqlU (a := (shrU a3 i67) &&& (1 : UInt64)) (b := (1 : UInt64)) rfl rfl) rfl ?_
        refine RG.val' (.yes rfl rfl) (FV.pick_t rfl rfl) rfl ?_
        refine RG.val' .plain (FV.pick_f rfl rfl) rfl ?_
        refine RG.val' .plain (FV.assign rfl) rfl ?_
        refine RG.nil ?_
        refine MX.inBlock ?_
        refine MX.region ?_
        refine RG.val' .plain (FV.addN (i := i67) (j := 1) rfl rfl (by omega)) rfl ?_
        refine RG.val' .plain (FV.move rfl) rfl ?_
        refine RG.nil ?_
        exact hJ76 ((decide (((shrU a3 i67) &&& (1 : UInt64)) = (1 : UInt64))), i67 + 1) _ _ ⟨rfl, rfl, rfl, rfl, rfl, rfl, rfl, rfl, rfl, rfl, trivial⟩ ⟨hS68, hT69⟩ h
       ·skip
        refine RG.off (.no rfl rfl) rfl ?_
        refine RG.off (.no rfl rfl) rfl ?_
        refine RG.off (.no rfl rfl) rfl ?_
        refine RG.off (.no rfl rfl) rfl ?_
        refine RG.off (.no rfl rfl) rfl ?_
        refine RG.val' (.yes rfl rfl) (FV.pick_f rfl rfl) rfl ?_
        refine RG.val' .plain (FV.pick_f rfl rfl) rfl ?_
        refine RG.val' .plain (FV.assign rfl) rfl ?_
        refine RG.nil ?_
        refine MX.inBlock ?_
        refine MX.region ?_
        refine RG.val' .plain (FV.addN (i := i67) (j := 1) rfl rfl (by omega)) rfl ?_
        refine RG.val' .plain (FV.move rfl) rfl ?_
        refine RG.nil ?_
        exact hJ76 (false, i67 + 1) _ _ ⟨rfl, rfl, rfl, rfl, rfl, rfl, rfl, rfl, rfl, rfl, trivial⟩ ⟨hS68, hT69⟩ h
     ·skip
      refine MX.exit rfl ?_
      have h := hh74 _ h
      try dsimp only at h
      refine MX.seq ?_
      refine MX.seq ?_
      refine MX.region ?_
      refine RG.val' .plain (FV.move rfl) rfl ?_
      refine RG.val' .plain (FV.not rfl) rfl ?_
      refine RG.nil ?_
      refine MX.ifnb rfl h (fun c90 h => ?_) (fun c90 h => ?_)
      ·skip
       refine MX.skip ?_
       refine MX.seq ?_
       refine MX.region ?_
       refine RG.val' .plain (FV.loadN (cs := [.int .u64 (a4.fState.toNat : Int)]) (by kernel_rfl) rfl (hS68.memA (.tl .hd))) rfl ?_
       refine RG.val' .plain (FV.loadN (cs := [.int .i64 a0.fN, v0_1]) (by kernel_rfl) rfl (hS68.memA (.tl (.tl .hd)))) rfl ?_
       refine RG.val' .plain (FV.move rfl) rfl ?_
       have hm94 := Rep.mv h0_1 (Tr.trans hT4 (Tr.trans hT9 (Tr.trans hT14 (Tr.trans hT28 (Tr.trans hT44 hT69)))))
       obtain ⟨A91, c92, hv93, _⟩ := Rep.sl hm94
       refine RG.val' .plain (FV.buildV (vs := [.agg #[.int .u64 (a4.fState.toNat : Int)], .agg #[.int .i64 a0.fN, v0_1], .int .u64 (a1.toNat : Int), .int .i64 10000]) (u := .agg #[.int .u64 (a4.fState.toNat : Int), .int .i64 a0.fN, v0_1, .int .u64 (a1.toNat : Int), .int .i64 10000]) (evs_cons rfl (evs_cons rfl (evs_cons rfl (evs_cons rfl evs_nil)))) (fun w9 => by rw [hv93]; try kernel_rfl)) rfl ?_
       refine RG.new .plain rfl (Does.box (vs := [.int .u64 (a4.fState.toNat : Int), .int .i64 a0.fN, v0_1, .int .u64 (a1.toNat : Int), .int .i64 10000]) hS68 rfl rfl) (fun w96 b99 hS97 hT98 => ?_)
       refine RG.val' .plain (FV.assign rfl) rfl ?_
       refine RG.nil ?_
       refine MX.seq ?_
       refine MX.seq ?_
       refine MX.region ?_
       refine RG.val' .plain (FV.move rfl) rfl ?_
       refine RG.val' .plain (FV.move rfl) rfl ?_
       refine RG.val' .plain (FV.move rfl) rfl ?_
       refine RG.enter (fst := []) (cap := []) (vs := [.pointer (some ⟨b99, 0, none⟩), .int .i64 a2, .int .u64 (a3.toNat : Int)]) .plain body34 Tryd.func34 rfl rfl rfl rfl (evs_cons rfl (evs_cons rfl (evs_cons rfl evs_nil))) rfl (fun cs101 hb100 => ?_)
       refine MX.seq ?_
       refine MX.region ?_
       refine RG.val' .plain (FV.assign rfl) rfl ?_
       refine RG.val' .plain (FV.assign rfl) rfl ?_
       refine RG.nil ?_
       refine MX.scope ?_
       refine MX.seq ?_
       refine MX.region ?_
       refine RG.val' .plain (FV.move rfl) rfl ?_
       refine RG.new .plain rfl (Does.build (α := Int) (xs := ([a2] : List Int)) (vs := [.int .i64 a2]) (ds' := [.int .i64 a2]) rfl hS97 el22 rfl (evs_cons rfl evs_nil) (by kernel_rfl) rfl) (fun w103 b106 hS104 hT105 => ?_)
       have hc107 : Cells w103 (bl [.row w.heap.size 3 (Rep.size Int) (.slice (some ⟨b106, 0, none⟩) 1 1) (([a2] : List Int).length) [.int .i64 a2], .cells b99 [.int .u64 (a4.fState.toNat : Int), .int .i64 a0.fN, v0_1, .int .u64 (a1.toNat : Int), .int .i64 10000] 74, .cells b15 [.int .u64 0] 37, .cells b10 [.int .u64 (a4.fState.toNat : Int)] 37, .cells b5 [.int .i64 a0.fN, v0_1] 40] ++ L) [.int .i64 a2] (([a2] : List Int) : List Int) := Cells.cons (cs := [.int .i64 a2]) (ds := []) rfl (Cells.nil _ _)
       refine RG.val' .plain (FV.assign rfl) rfl ?_
       refine RG.nil ?_
       refine MX.seq ?_
       refine MX.region ?_
       refine RG.val' .plain (FV.move rfl) rfl ?_
       refine RG.val' .plain (FV.makeFunc (vs := [.pointer (some ⟨b99, 0, none⟩)]) (us := []) (evs_cons rfl evs_nil) evs_nil) rfl ?_
       refine RG.val' .plain (FV.assign rfl) rfl ?_
       refine RG.nil ?_
       refine MX.seq ?_
       refine MX.label ?_
       refine MX.seq ?_
       refine MX.seq ?_
       refine MX.region ?_
       refine RG.val' .plain (FV.move rfl) rfl ?_
       refine RG.val' .plain (FV.assign rfl) rfl ?_
       refine RG.nil ?_
       refine MX.block ?_
       obtain ⟨o768, ho767, hh769⟩ := thn_in h
       refine MX.loop (α := Int × (List Int) × UInt64 × Int × Value × (List Value)) (fun ⟨z756, xs757, u761, z762, v760, cs758⟩ => [(0, .pointer (some ⟨b99, 0, none⟩)), (2, .int .u64 (a3.toNat : Int)), (8, v760), (9, .func (.func 61) #[.pointer (some ⟨b99, 0, none⟩)] #[]), (10, .int .i64 z756)]) (fun ⟨z756, xs757, u761, z762, v760, cs758⟩ wx762 => St w wx762 [.row w.heap.size 3 (Rep.size Int) v760 xs757.length cs758, .cells b99 [.int .u64 (u761.toNat : Int), .int .i64 a0.fN, v0_1, .int .u64 (a1.toNat : Int), .int .i64 z762] 74, .cells b15 [.int .u64 0] 37, .cells b10 [.int .u64 (a4.fState.toNat : Int)] 37, .cells b5 [.int .i64 a0.fN, v0_1] 40] ∧ Tr w103 [.row w.heap.size 3 (Rep.size Int) (.slice (some ⟨b106, 0, none⟩) 1 1) (([a2] : List Int).length) [.int .i64 a2], .cells b99 [.int .u64 (a4.fState.toNat : Int), .int .i64 a0.fN, v0_1, .int .u64 (a1.toNat : Int), .int .i64 10000] 74, .cells b15 [.int .u64 0] 37, .cells b10 [.int .u64 (a4.fState.toNat : Int)] 37, .cells b5 [.int .i64 a0.fN, v0_1] 40] wx762 [.row w.heap.size 3 (Rep.size Int) v760 xs757.length cs758, .cells b99 [.int .u64 (u761.toNat : Int), .int .i64 a0.fN, v0_1, .int .u64 (a1.toNat : Int), .int .i64 z762] 74, .cells b15 [.int .u64 0] 37, .cells b10 [.int .u64 (a4.fState.toNat : Int)] 37, .cells b5 [.int .i64 a0.fN, v0_1] 40] ∧ Cells wx762 (bl [.row w.heap.size 3 (Rep.size Int) v760 xs757.length cs758, .cells b99 [.int .u64 (u761.toNat : Int), .int .i64 a0.fN, v0_1, .int .u64 (a1.toNat : Int), .int .i64 z762] 74, .cells b15 [.int .u64 0] 37, .cells b10 [.int .u64 (a4.fState.toNat : Int)] 37, .cells b5 [.int .i64 a0.fN, v0_1] 40] ++ L) cs758 xs757) (fun ⟨z756, xs757, u761, z762, v760, cs758⟩ => (z756, xs757, u761, z762)) (a2, ([a2] : List Int), a4.fState, 10000, (.slice (some ⟨b106, 0, none⟩) 1 1), [.int .i64 a2]) ho767 ⟨rfl, rfl, rfl, rfl, rfl, trivial⟩ ⟨hS104, Tr.refl _ _, hc107⟩ ?_
       rintro J770 ⟨z756, xs757, u761, z762, v760, cs758⟩ wx762 hJ771 ⟨hS763, hT764, hc759⟩ h
       unfold wilson_Walk_l3 at h
       try dsimp only at h
       refine MX.block ?_
       refine MX.seq ?_
       refine MX.seq ?_
       refine MX.region ?_
       refine RG.val' .plain (FV.move rfl) rfl ?_
       refine RG.val' .plain (FV.move rfl) rfl ?_
       obtain ⟨k772, hk772, h⟩ := bind_in h
       refine RG.val' .plain (FV.shrI (a := a3) (i := z756) rfl rfl hk772) rfl ?_
       refine RG.val' .plain (FV.andU (a := shrU a3 k772) (b := (1 : UInt64)) rfl rfl) rfl ?_
       refine RG.val' .plain (FV.eqlU (a := (shrU a3 k772) &&& (1 : UInt64)) (b := (1 : UInt64)) rfl rfl) rfl ?_
       refine RG.nil ?_
       refine MX.ifd rfl h (fun c773 h => ?_) (fun c773 h => ?_)
       ·skip
        refine MX.exit rfl ?_
        have h := thn_inr h hh769
        try dsimp only at h
        refine MX.seq ?_
        refine MX.region ?_
        refine RG.val' .plain (FV.move rfl) rfl ?_
        refine RG.val' .plain (FV.assign rfl) rfl ?_
        refine RG.val' .plain (FV.assign rfl) rfl ?_
        refine RG.nil ?_
        refine MX.ret rfl ?_
        refine RT.leave (u := .tuple #[v760, .int .i64 0]) hb100 Tryd.func34 rfl (.cons (.tmp rfl) (.cons (.tmp rfl) .nil)) rfl ?_
        refine RG.val' .plain (FV.move rfl) rfl ?_
        refine RG.val' .plain (FV.extract rfl rfl) rfl ?_
        refine RG.val' .plain (FV.extract rfl rfl) rfl ?_
        refine RG.val' .plain (FV.assign rfl) rfl ?_
        refine RG.val' .plain (FV.assign rfl) rfl ?_
        refine RG.nil ?_
        refine MX.seq ?_
        refine MX.region ?_
        refine RG.val' .plain (FV.move rfl) rfl ?_
        refine RG.val' .plain (FV.neqN (i := 0) (j := 0) rfl rfl) rfl ?_
        refine RG.nil ?_
        refine MX.cond_f rfl ?_
        refine MX.skip ?_
        refine MX.seq ?_
        refine MX.drawT 6 tb15_19 (by kernel_rfl) (by kernel_rfl) (by kernel_rfl) (fun kt774 kp775 => ?_)
        refine RD.vP 0 1 kt774 rfl kp775 .plain (fun _ => FV.move rfl) rfl ?_
        refine RD.vP 1 3 kt774 rfl kp775 .plain (fun _ => FV.move rfl) rfl ?_
        refine RD.vP 2 7 kt774 rfl kp775 .plain (fun _ => FV.nilCheck rfl) rfl ?_
        refine RD.vP 3 15 kt774 rfl kp775 .plain (fun _ => FV.fieldAddr (off := 0) (by kernel_rfl) rfl) rfl ?_
        refine RD.val (i := 4) (m' := 31) (W := 192) (takeC_ok kt774 (by kernel_rfl)) rfl kp775 .plain (FV.loadN (cs := [.int .u64 (u761.toNat : Int)]) (by kernel_rfl) rfl (mem_part (hS763.memA (.tl .hd)) 0 1)) rfl ?_
        refine RD.vP 5 63 kt774 rfl kp775 .plain (fun _ => FV.assign rfl) rfl ?_
        refine RD.one (i := 6) (readyD_ok kt774 (by kernel_rfl)) (RO.now (m' := 127) (stepC_ok kt774 (by kernel_rfl)) rfl rfl .plain (Acts.store (j := 0) (old := [.int .u64 0]) (news := [.int .u64 (u761.toNat : Int)]) (new' := [.int .u64 (u761.toNat : Int)]) hS763 (.tl (.tl .hd)) rfl rfl rfl rfl rfl rfl (ones_cons rfl ones_nil) rfl) (fun w776 hS777 hT778 => ?_))
        refine RD.one (i := 7) (readyD_ok kt774 (by kernel_rfl)) (RO.val (m' := 255) (stepC_ok kt774 (by kernel_rfl)) rfl .plain rfl (FV.assign rfl) ?_)
        refine RD.done (doneD_ok kt774 (by kernel_rfl)) ?_
        refine MX.ret rfl ?_
        have hm782 := Cells.mv hc759 hT778
        have hr779 := St.freeze (α := Int) hS777 .hd hm782 hL
        have hS780 := hS777.del (.hd : Out _ _ _).del
        have hT781 := Tr.del (w := w776) (.hd : Out [.row w.heap.size 3 (Rep.size Int) v760 xs757.length cs758, .cells b99 [.int .u64 (u761.toNat : Int), .int .i64 a0.fN, v0_1, .int .u64 (a1.toNat : Int), .int .i64 z762] 74, .cells b15 [.int .u64 (u761.toNat : Int)] 37, .cells b10 [.int .u64 (a4.fState.toNat : Int)] 37, .cells b5 [.int .i64 a0.fN, v0_1] 40] _ _).del
        have hr783 : Rep.R w776 (bl [.cells b99 [.int .u64 (u761.toNat : Int), .int .i64 a0.fN, v0_1, .int .u64 (a1.toNat : Int), .int .i64 z762] 74, .cells b15 [.int .u64 (u761.toNat : Int)] 37, .cells b10 [.int .u64 (a4.fState.toNat : Int)] 37, .cells b5 [.int .i64 a0.fN, v0_1] 40] ++ L) [v760] xs757 := hr779
        refine RT.leave (u := .tuple #[v760, .agg #[.int .u64 (u761.toNat : Int)], .int .i64 0]) hb0 Tryd.func15 rfl (.cons (.tmp rfl) (.cons (.many (cs := [.int .u64 (u761.toNat : Int)]) (by kernel_rfl) rfl (hS780.memA (.tl .hd))) (.cons (.tmp rfl) .nil))) rfl ?_
        obtain rfl := Option.some.inj h
        exact ⟨hS780.ag, fun w9 hw9 => ⟨v760, rfl, Rep.keep0 (Rep.dropO (O := [.cells b99 [.int .u64 (u761.toNat : Int), .int .i64 a0.fN, v0_1, .int .u64 (a1.toNat : Int), .int .i64 z762] 74, .cells b15 [.int .u64 (u761.toNat : Int)] 37, .cells b10 [.int .u64 (a4.fState.toNat : Int)] 37, .cells b5 [.int .i64 a0.fN, v0_1] 40]) hr783) hw9⟩⟩
       ·skip
        refine MX.skip ?_
        refine MX.seq ?_
        refine MX.seq ?_
        refine MX.region ?_
        refine RG.val' .plain (FV.move rfl) rfl ?_
        refine RG.val' .plain (FV.nilCheck rfl) rfl ?_
        refine RG.val' .plain (FV.fieldAddr (off := 4) (by kernel_rfl) rfl) rfl ?_
        refine RG.val' .plain (FV.load1 (by kernel_rfl) rfl ((hS763.memA (.tl .hd)) 4 _ rfl)) rfl ?_
        refine RG.val' .plain (FV.eql (i := z762) (j := 0) rfl rfl) rfl ?_
        refine RG.nil ?_
        refine MX.ifd rfl h (fun c784 h => ?_) (fun c784 h => ?_)
        ·skip
         refine MX.seq ?_
         refine MX.region ?_
         refine RG.val' .plain (FV.assign rfl) rfl ?_
         refine RG.val' .plain (FV.assign rfl) rfl ?_
         refine RG.nil ?_
         have h := thn_inl h hh769
         refine MX.ret rfl ?_
         refine RT.leave (u := .tuple #[.slice none 0 0, .int .i64 9]) hb100 Tryd.func34 rfl (.cons (.tmp rfl) (.cons (.tmp rfl) .nil)) rfl ?_
         refine RG.val' .plain (FV.move rfl) rfl ?_
         refine RG.val' .plain (FV.extract rfl rfl) rfl ?_
         refine RG.val' .plain (FV.extract rfl rfl) rfl ?_
         refine RG.val' .plain (FV.assign rfl) rfl ?_
         refine RG.val' .plain (FV.assign rfl) rfl ?_
         refine RG.nil ?_
         refine MX.seq ?_
         refine MX.region ?_
         refine RG.val' .plain (FV.move rfl) rfl ?_
         refine RG.val' .plain (FV.neqN (i := 9) (j := 0) rfl rfl) rfl ?_
         refine RG.nil ?_
         refine MX.cond_t rfl ?_
         refine MX.seq ?_
         refine MX.region ?_
         refine RG.val' .plain (FV.buildV (vs := []) (u := .agg #[.int .u64 0]) evs_nil (fun w9 => by kernel_rfl)) rfl ?_
         refine RG.val' .plain (FV.move rfl) rfl ?_
         refine RG.val' .plain (FV.assign rfl) rfl ?_
         refine RG.now .plain (Acts.store (j := 0) (old := [.int .u64 0]) (news := [.int .u64 0]) (new' := [.int .u64 0]) hS763 (.tl (.tl .hd)) rfl rfl rfl rfl rfl rfl (ones_cons rfl ones_nil) rfl) (fun w785 hS786 hT787 => ?_)
         refine RG.val' .plain (FV.assign rfl) rfl ?_
         refine RG.nil ?_
         refine MX.ret rfl ?_
         have hr788 : Rep.R w785 (bl [.row w.heap.size 3 (Rep.size Int) v760 xs757.length cs758, .cells b99 [.int .u64 (u761.toNat : Int), .int .i64 a0.fN, v0_1, .int .u64 (a1.toNat : Int), .int .i64 z762] 74, .cells b15 [.int .u64 0] 37, .cells b10 [.int .u64 (a4.fState.toNat : Int)] 37, .cells b5 [.int .i64 a0.fN, v0_1] 40] ++ L) [.slice none 0 0] ([] : List Int) := Rep.nilSlice _ _
         refine RT.leave (u := .tuple #[.slice none 0 0, .agg #[.int .u64 0], .int .i64 9]) hb0 Tryd.func15 rfl (.cons (.tmp rfl) (.cons (.many (cs := [.int .u64 0]) (by kernel_rfl) rfl (hS786.memA (.tl (.tl .hd)))) (.cons (.tmp rfl) .nil))) rfl ?_
         obtain rfl := Option.some.inj h
         have hr789 : Rep.R w785 (bl [.row w.heap.size 3 (Rep.size Int) v760 xs757.length cs758, .cells b99 [.int .u64 (u761.toNat : Int), .int .i64 a0.fN, v0_1, .int .u64 (a1.toNat : Int), .int .i64 z762] 74, .cells b15 [.int .u64 0] 37, .cells b10 [.int .u64 (a4.fState.toNat : Int)] 37, .cells b5 [.int .i64 a0.fN, v0_1] 40] ++ L) [.slice none 0 0] ([] : List Int) := Rep.nilSlice _ _
         exact ⟨hS786.ag, fun w9 hw9 => ⟨(.slice none 0 0), rfl, Rep.keep0 (Rep.dropO (O := [.row w.heap.size 3 (Rep.size Int) v760 xs757.length cs758, .cells b99 [.int .u64 (u761.toNat : Int), .int .i64 a0.fN, v0_1, .int .u64 (a1.toNat : Int), .int .i64 z762] 74, .cells b15 [.int .u64 0] 37, .cells b10 [.int .u64 (a4.fState.toNat : Int)] 37, .cells b5 [.int .i64 a0.fN, v0_1] 40]) hr789) hw9⟩⟩
        ·skip
         refine MX.skip ?_
         refine MX.seq ?_
         refine MX.region ?_
         refine RG.val' .plain (FV.move rfl) rfl ?_
         refine RG.val' .plain (FV.nilCheck rfl) rfl ?_
         refine RG.val' .plain (FV.fieldAddr (off := 4) (by kernel_rfl) rfl) rfl ?_
         refine RG.val' .plain (FV.load1 (by kernel_rfl) rfl ((hS763.memA (.tl .hd)) 4 _ rfl)) rfl ?_
         obtain ⟨s790, hs790, h⟩ := bind_in h
         refine RG.val' .plain (FV.subc (i := z762) (j := 1) rfl rfl hs790) rfl ?_
         refine RG.val' .plain (FV.nilCheck rfl) rfl ?_
         refine RG.val' .plain (FV.fieldAddr (off := 4) (by kernel_rfl) rfl) rfl ?_
         refine RG.now .plain (Acts.store (j := 4) (old := [.int .u64 (u761.toNat : Int), .int .i64 a0.fN, v0_1, .int .u64 (a1.toNat : Int), .int .i64 z762]) (news := [.int .i64 s790]) (new' := [.int .u64 (u761.toNat : Int), .int .i64 a0.fN, v0_1, .int .u64 (a1.toNat : Int), .int .i64 s790]) hS763 (.tl .hd) rfl rfl rfl rfl rfl rfl (ones_cons rfl ones_nil) rfl) (fun w791 hS792 hT793 => ?_)
         refine RG.nil ?_
         refine MX.seq ?_
         refine MX.region ?_
         refine RG.val' .plain (FV.move rfl) rfl ?_
         refine RG.val' .plain (FV.move rfl) rfl ?_
         refine RG.enter (fst := []) (cap := []) (vs := [.pointer (some ⟨b99, 0, none⟩), .int .i64 z756]) .plain body64 Tryd.func64 rfl rfl rfl rfl (evs_cons rfl (evs_cons rfl evs_nil)) rfl (fun cs795 hb794 => ?_)
         refine MX.seq ?_
         refine MX.region ?_
         refine RG.new .plain rfl (Does.box (vs := [.pointer (some ⟨b99, 0, none⟩)]) hS792 rfl rfl) (fun w797 b800 hS798 hT799 => ?_)
         refine RG.new .plain rfl (Does.box (vs := [.int .i64 z756]) hS798 rfl rfl) (fun w802 b805 hS803 hT804 => ?_)
         refine RG.val' .plain (FV.assign rfl) rfl ?_
         refine RG.nil ?_
         refine MX.seq ?_
         refine MX.region ?_
         refine RG.val' .plain (FV.makeFunc (vs := []) (us := [.pointer (some ⟨b800, 0, none⟩), .pointer (some ⟨b805, 0, none⟩)]) evs_nil (evs_cons rfl (evs_cons rfl evs_nil))) rfl ?_
         refine RG.val' .plain (FV.assign rfl) rfl ?_
         refine RG.nil ?_
         refine MX.ret rfl ?_
         refine RT.leave (u := .func (.func 86) #[] #[.pointer (some ⟨b800, 0, none⟩), .pointer (some ⟨b805, 0, none⟩)]) hb794 Tryd.func64 rfl (.cons (.tmp rfl) .nil) rfl ?_
         refine RG.enter (fst := []) (cap := []) (vs := [.func (.func 86) #[] #[.pointer (some ⟨b800, 0, none⟩), .pointer (some ⟨b805, 0, none⟩)]]) .plain body63 Tryd.func63 rfl rfl rfl rfl (evs_cons rfl evs_nil) rfl (fun cs807 hb806 => ?_)
         refine MX.seq ?_
         refine MX.region ?_
         refine RG.val' .plain (FV.assign rfl) rfl ?_
         refine RG.nil ?_
         refine MX.seq ?_
         refine MX.region ?_
         refine RG.val' .plain (FV.move rfl) rfl ?_
         refine RG.enter (fst := []) (cap := []) (vs := [.slice none 0 0, .func (.func 86) #[] #[.pointer (some ⟨b800, 0, none⟩), .pointer (some ⟨b805, 0, none⟩)]]) .plain body85 Tryd.func85 rfl rfl rfl rfl (evs_cons rfl (evs_cons rfl evs_nil)) rfl (fun cs809 hb808 => ?_)
         refine MX.seq ?_
         refine MX.region ?_
         refine RG.new .plain rfl (Does.box (vs := [.slice none 0 0]) hS803 rfl rfl) (fun w811 b814 hS812 hT813 => ?_)
         refine RG.val' .plain (FV.assign rfl) rfl ?_
         refine RG.nil ?_
         refine MX.seq ?_
         refine MX.seq ?_
         refine MX.region ?_
         refine RG.val' .plain (FV.move rfl) rfl ?_
         refine RG.nil ?_
         refine MX.block ?_
         have hS816 := hS812.nilRow 3 (Rep.size Int)
         have hT817 := Tr.nilRow (w := w811) (O := [.cells b814 [.slice none 0 0] 22, .cells b805 [.int .i64 z756] 3, .cells b800 [.pointer (some ⟨b99, 0, none⟩)] 72, .row w.heap.size 3 (Rep.size Int) v760 xs757.length cs758, .cells b99 [.int .u64 (u761.toNat : Int), .int .i64 a0.fN, v0_1, .int .u64 (a1.toNat : Int), .int .i64 s790] 74, .cells b15 [.int .u64 0] 37, .cells b10 [.int .u64 (a4.fState.toNat : Int)] 37, .cells b5 [.int .i64 a0.fN, v0_1] 40]) w.heap.size 3 (Rep.size Int)
         have hc818 : Cells w811 (bl [.row w.heap.size 3 (Rep.size Int) (.slice none 0 0) (([] : List Int).length) [], .cells b814 [.slice none 0 0] 22, .cells b805 [.int .i64 z756] 3, .cells b800 [.pointer (some ⟨b99, 0, none⟩)] 72, .row w.heap.size 3 (Rep.size Int) v760 xs757.length cs758, .cells b99 [.int .u64 (u761.toNat : Int), .int .i64 a0.fN, v0_1, .int .u64 (a1.toNat : Int), .int .i64 s790] 74, .cells b15 [.int .u64 0] 37, .cells b10 [.int .u64 (a4.fState.toNat : Int)] 37, .cells b5 [.int .i64 a0.fN, v0_1] 40] ++ L) [] ([] : List Int) := Cells.nil _ _
         refine MX.range (lb := [.pointer (some ⟨b800, 0, none⟩), .pointer (some ⟨b805, 0, none⟩)]) rfl hS816 rfl body86 Tryd.func86 rfl rfl rfl (fun w819 lk822 D823 r824 cs827 hS820 hT821 rec825 hb826 => ?_)
         refine MX.seq ?_
         refine MX.region ?_
         refine RG.val' .plain (FV.assign rfl) rfl ?_
         refine RG.nil ?_
         refine MX.seq ?_
         refine MX.seq ?_
         refine MX.region ?_
         refine RG.val' .plain (FV.load1 (by kernel_rfl) rfl ((hS820.memA (.tl (.tl (.tl (.tl (.tl .hd)))))) 0 _ rfl)) rfl ?_
         refine RG.val' .plain (FV.nilCheck rfl) rfl ?_
         refine RG.val' .plain (FV.fieldAddr (off := 1) (by kernel_rfl) rfl) rfl ?_
         refine RG.val' .plain (FV.fieldAddr (off := 1) (by kernel_rfl) rfl) rfl ?_
         refine RG.val' .plain (FV.load1 (by kernel_rfl) rfl ((mem_from (hS820.memA (.tl (.tl (.tl (.tl (.tl (.tl (.tl .hd)))))))) 1) 1 _ rfl)) rfl ?_
         have hm831 := Rep.mv h0_1 (Tr.trans hT4 (Tr.trans hT9 (Tr.trans hT14 (Tr.trans hT28 (Tr.trans hT44 (Tr.trans hT69 (Tr.trans hT98 (Tr.trans hT105 (Tr.trans hT764 (Tr.trans hT793 (Tr.trans hT799 (Tr.trans hT804 (Tr.trans hT813 (Tr.trans hT817 hT821))))))))))))))
         have hl830 : a0.fEdges.length ≤ 281474976710656 := Rep.lenle hm831
         refine RG.val' .plain (FV.len (xs := a0.fEdges) Tryd.underlying38 rfl hm831) rfl ?_
         refine RG.val' .plain (FV.move rfl) rfl ?_
         refine RG.nil ?_
         refine MX.block ?_
         obtain ⟨o884, ho883, hh885⟩ := bind_in2 h
         refine MX.loop (α := UInt64 × Nat) (fun ⟨u877, i878⟩ => [(0, .func (.yield lk822) #[] #[]), (1, .pointer (some ⟨b800, 0, none⟩)), (2, .pointer (some ⟨b805, 0, none⟩)), (4, .int .u64 (u877.toNat : Int)), (11, v0_1), (12, .int .i64 ((a0.fEdges.length : Nat) : Int)), (13, .int .i64 ((i878 : Nat) : Int))]) (fun ⟨u877, i878⟩ wx878 => St w wx878 [.obj lk822 (lpO r824 .ready none), .obj D823 (.deferred (some [])), .row w.heap.size 3 (Rep.size Int) (.slice none 0 0) (([] : List Int).length) [], .cells b814 [(.slice none 0 0)] 22, .cells b805 [.int .i64 z756] 3, .cells b800 [.pointer (some ⟨b99, 0, none⟩)] 72, .row w.heap.size 3 (Rep.size Int) v760 xs757.length cs758, .cells b99 [.int .u64 (u761.toNat : Int), .int .i64 a0.fN, v0_1, .int .u64 (a1.toNat : Int), .int .i64 s790] 74, .cells b15 [.int .u64 0] 37, .cells b10 [.int .u64 (a4.fState.toNat : Int)] 37, .cells b5 [.int .i64 a0.fN, v0_1] 40] ∧ Tr w819 [.obj lk822 (lpO r824 .ready none), .obj D823 (.deferred (some [])), .row w.heap.size 3 (Rep.size Int) (.slice none 0 0) (([] : List Int).length) [], .cells b814 [(.slice none 0 0)] 22, .cells b805 [.int .i64 z756] 3, .cells b800 [.pointer (some ⟨b99, 0, none⟩)] 72, .row w.heap.size 3 (Rep.size Int) v760 xs757.length cs758, .cells b99 [.int .u64 (u761.toNat : Int), .int .i64 a0.fN, v0_1, .int .u64 (a1.toNat : Int), .int .i64 s790] 74, .cells b15 [.int .u64 0] 37, .cells b10 [.int .u64 (a4.fState.toNat : Int)] 37, .cells b5 [.int .i64 a0.fN, v0_1] 40] wx878 [.obj lk822 (lpO r824 .ready none), .obj D823 (.deferred (some [])), .row w.heap.size 3 (Rep.size Int) (.slice none 0 0) (([] : List Int).length) [], .cells b814 [(.slice none 0 0)] 22, .cells b805 [.int .i64 z756] 3, .cells b800 [.pointer (some ⟨b99, 0, none⟩)] 72, .row w.heap.size 3 (Rep.size Int) v760 xs757.length cs758, .cells b99 [.int .u64 (u761.toNat : Int), .int .i64 a0.fN, v0_1, .int .u64 (a1.toNat : Int), .int .i64 s790] 74, .cells b15 [.int .u64 0] 37, .cells b10 [.int .u64 (a4.fState.toNat : Int)] 37, .cells b5 [.int .i64 a0.fN, v0_1] 40]) (fun ⟨u877, i878⟩ => (u877, i878)) ((0 : UInt64), 0) ho883 ⟨rfl, rfl, rfl, rfl, rfl, rfl, rfl, trivial⟩ ⟨hS820, Tr.refl _ _⟩ ?_
         rintro J886 ⟨u877, i878⟩ wx878 hJ887 ⟨hS879, hT880⟩ h
         unfold wilson_Walk_l2 at h
         try dsimp only at h
         refine MX.seq ?_
         refine MX.region ?_
         refine RG.val' .plain (FV.lssN (i := i878) (j := a0.fEdges.length) rfl rfl) rfl ?_
         refine RG.nil ?_
         refine MX.seq ?_
         refine MX.ifd rfl h (fun c888 h => ?_) (fun c888 h => ?_)
         ·skip
          refine MX.skip ?_
          refine MX.seq ?_
          refine MX.block ?_
          refine MX.seq ?_
          refine MX.region ?_
          obtain ⟨x889, hx889, h⟩ := bind_in h
          have hm897 := Rep.mv h0_1 (Tr.trans hT4 (Tr.trans hT9 (Tr.trans hT14 (Tr.trans hT28 (Tr.trans hT44 (Tr.trans hT69 (Tr.trans hT98 (Tr.trans hT105 (Tr.trans hT764 (Tr.trans hT793 (Tr.trans hT799 (Tr.trans hT804 (Tr.trans hT813 (Tr.trans hT817 (Tr.trans hT821 hT880)))))))))))))))
          obtain ⟨A890, c891, he892, hk893, cs894, hr895, hm896⟩ := Rep.nth hm897 hx889
          obtain rfl := op_A46 hr895
          refine RG.val' .plain (FV.idxAddr (m := 2) (i := i878) (by kernel_rfl) rfl he892 rfl rfl hk893) rfl ?_
          refine RG.val' .plain (FV.loadN (cs := [.int .i64 x889.1, .int .i64 x889.2]) (by kernel_rfl) rfl hm896) rfl ?_
          refine RG.new .plain rfl (Does.alloc (zs := [.int .i64 0, .int .i64 0]) hS879 (zB (by kernel_rfl))) (fun w899 b902 hS900 hT901 => ?_)
          refine RG.now .plain (Acts.store (j := 0) (old := [.int .i64 0, .int .i64 0]) (news := [.int .i64 x889.1, .int .i64 x889.2]) (new' := [.int .i64 x889.1, .int .i64 x889.2]) hS900 .hd rfl rfl rfl rfl rfl rfl (ones_cons rfl (ones_cons rfl ones_nil)) rfl) (fun w903 hS904 hT905 => ?_)
          refine RG.nil ?_
          refine MX.seq ?_
          refine MX.region ?_
          refine RG.val' .plain (FV.indexArr (m := 1) (k := 0) (len := 2) (by kernel_rfl) rfl rfl rfl (by omega)) rfl ?_
          refine RG.val' .plain (FV.load1 (by kernel_rfl) rfl ((hS904.memA .hd) 0 _ rfl)) rfl ?_
          refine RG.val' .plain (FV.load1 (by kernel_rfl) rfl ((hS904.memA (.tl (.tl (.tl (.tl (.tl .hd)))))) 0 _ rfl)) rfl ?_
          refine RG.val' .plain (FV.eql (i := x889.1) (j := z756) rfl rfl) rfl ?_
          refine RG.val' .plain (FV.move rfl) rfl ?_
          refine RG.ifd (s := 21) rfl h (fun c906 h => ?_) (fun c906 h => ?_)
          ·skip
           refine RG.off (.no rfl rfl) rfl ?_
           refine RG.off (.no rfl rfl) rfl ?_
           refine RG.off (.no rfl rfl) rfl ?_
           refine RG.off (.no rfl rfl) rfl ?_
           refine RG.val' .plain (FV.pick_t rfl rfl) rfl ?_
           refine RG.nil ?_
           refine MX.cond_t rfl ?_
           refine MX.region ?_
           refine RG.val' .plain (FV.move rfl) rfl ?_
           refine RG.val' .plain (FV.indexArr (m := 1) (k := 0) (len := 2) (by kernel_rfl) rfl rfl rfl (by omega)) rfl ?_
           refine RG.val' .plain (FV.load1 (by kernel_rfl) rfl ((hS904.memA .hd) 0 _ rfl)) rfl ?_
           refine RG.val' .plain (FV.indexArr (m := 1) (k := 1) (len := 2) (by kernel_rfl) rfl rfl rfl (by omega)) rfl ?_
           refine RG.val' .plain (FV.load1 (by kernel_rfl) rfl ((hS904.memA .hd) 1 _ rfl)) rfl ?_
           obtain ⟨s907, hs907, h⟩ := bind_in h
           refine RG.val' .plain (FV.addc (i := x889.1) (j := x889.2) rfl rfl hs907) rfl ?_
           refine RG.val' .plain (FV.load1 (by kernel_rfl) rfl ((hS904.memA (.tl (.tl (.tl (.tl (.tl .hd)))))) 0 _ rfl)) rfl ?_
           obtain ⟨s908, hs908, h⟩ := bind_in h
           refine RG.val' .plain (FV.subc (i := s907) (j := z756) rfl rfl hs908) rfl ?_
           obtain ⟨k909, hk909, h⟩ := bind_in h
           refine RG.val' .plain (FV.shlI (a := (1 : UInt64)) (i := s908) rfl rfl hk909) rfl ?_
           refine RG.val' .plain (FV.orU (a := u877) (b := shlU (1 : UInt64) k909) rfl rfl) rfl ?_
           refine RG.val' .plain (FV.assign rfl) rfl ?_
           refine RG.nil ?_
           refine MX.inBlock ?_
           refine MX.region ?_
           refine RG.val' .plain (FV.addN (i := i878) (j := 1) rfl rfl (by omega)) rfl ?_
           refine RG.val' .plain (FV.move rfl) rfl ?_
           refine RG.nil ?_
           have hS910 : St _ _ [.obj lk822 (lpO r824 .ready none), .obj D823 (.deferred (some [])), .row w.heap.size 3 (Rep.size Int) (.slice none 0 0) (([] : List Int).length) [], .cells b814 [(.slice none 0 0)] 22, .cells b805 [.int .i64 z756] 3, .cells b800 [.pointer (some ⟨b99, 0, none⟩)] 72, .row w.heap.size 3 (Rep.size Int) v760 xs757.length cs758, .cells b99 [.int .u64 (u761.toNat : Int), .int .i64 a0.fN, v0_1, .int .u64 (a1.toNat : Int), .int .i64 s790] 74, .cells b15 [.int .u64 0] 37, .cells b10 [.int .u64 (a4.fState.toNat : Int)] 37, .cells b5 [.int .i64 a0.fN, v0_1] 40] := hS904.arr (.one (.tl .hd) (.one (.tl .hd) (.one (.tl .hd) (.one (.tl .hd) (.one (.tl .hd) (.one (.tl .hd) (.one (.tl .hd) (.one (.tl .hd) (.one (.tl .hd) (.one (.tl .hd) (.one (.tl .hd) .done)))))))))))
           have hT911 : Tr w903 _ w903 [.obj lk822 (lpO r824 .ready none), .obj D823 (.deferred (some [])), .row w.heap.size 3 (Rep.size Int) (.slice none 0 0) (([] : List Int).length) [], .cells b814 [(.slice none 0 0)] 22, .cells b805 [.int .i64 z756] 3, .cells b800 [.pointer (some ⟨b99, 0, none⟩)] 72, .row w.heap.size 3 (Rep.size Int) v760 xs757.length cs758, .cells b99 [.int .u64 (u761.toNat : Int), .int .i64 a0.fN, v0_1, .int .u64 (a1.toNat : Int), .int .i64 s790] 74, .cells b15 [.int .u64 0] 37, .cells b10 [.int .u64 (a4.fState.toNat : Int)] 37, .cells b5 [.int .i64 a0.fN, v0_1] 40] := Tr.arr (St.arrOf hS904 (.one (.tl .hd) (.one (.tl .hd) (.one (.tl .hd) (.one (.tl .hd) (.one (.tl .hd) (.one (.tl .hd) (.one (.tl .hd) (.one (.tl .hd) (.one (.tl .hd) (.one (.tl .hd) (.one (.tl .hd) .done))))))))))))
           exact hJ887 (u877 ||| (shlU (1 : UInt64) k909), i878 + 1) _ _ ⟨rfl, rfl, rfl, rfl, rfl, rfl, rfl, trivial⟩ ⟨hS910, (Tr.trans hT880 (Tr.trans hT901 (Tr.trans hT905 hT911)))⟩ h
          ·skip
           refine RG.val' (.yes rfl rfl) (FV.indexArr (m := 1) (k := 1) (len := 2) (by kernel_rfl) rfl rfl rfl (by omega)) rfl ?_
           refine RG.val' (.yes rfl rfl) (FV.load1 (by kernel_rfl) rfl ((hS904.memA .hd) 1 _ rfl)) rfl ?_
           refine RG.val' (.yes rfl rfl) (FV.load1 (by kernel_rfl) rfl ((hS904.memA (.tl (.tl (.tl (.tl (.tl .hd)))))) 0 _ rfl)) rfl ?_
           refine RG.val' (.yes rfl rfl) (FV.eql (i := x889.2) (j := z756) rfl rfl) rfl ?_
           refine RG.val' .plain (FV.pick_f rfl rfl) rfl ?_
           refine RG.nil ?_
           refine MX.join (α := UInt64) (fun u916 => [(0, .func (.yield lk822) #[] #[]), (1, .pointer (some ⟨b800, 0, none⟩)), (2, .pointer (some ⟨b805, 0, none⟩)), (4, .int .u64 (u916.toNat : Int)), (11, v0_1), (12, .int .i64 ((a0.fEdges.length : Nat) : Int)), (13, .int .i64 ((i878 : Nat) : Int))]) (fun u916 wx916 => St w wx916 [.obj lk822 (lpO r824 .ready none), .obj D823 (.deferred (some [])), .row w.heap.size 3 (Rep.size Int) (.slice none 0 0) (([] : List Int).length) [], .cells b814 [(.slice none 0 0)] 22, .cells b805 [.int .i64 z756] 3, .cells b800 [.pointer (some ⟨b99, 0, none⟩)] 72, .row w.heap.size 3 (Rep.size Int) v760 xs757.length cs758, .cells b99 [.int .u64 (u761.toNat : Int), .int .i64 a0.fN, v0_1, .int .u64 (a1.toNat : Int), .int .i64 s790] 74, .cells b15 [.int .u64 0] 37, .cells b10 [.int .u64 (a4.fState.toNat : Int)] 37, .cells b5 [.int .i64 a0.fN, v0_1] 40] ∧ Tr w903 [.cells b902 [.int .i64 x889.1, .int .i64 x889.2] 46, .obj lk822 (lpO r824 .ready none), .obj D823 (.deferred (some [])), .row w.heap.size 3 (Rep.size Int) (.slice none 0 0) (([] : List Int).length) [], .cells b814 [(.slice none 0 0)] 22, .cells b805 [.int .i64 z756] 3, .cells b800 [.pointer (some ⟨b99, 0, none⟩)] 72, .row w.heap.size 3 (Rep.size Int) v760 xs757.length cs758, .cells b99 [.int .u64 (u761.toNat : Int), .int .i64 a0.fN, v0_1, .int .u64 (a1.toNat : Int), .int .i64 s790] 74, .cells b15 [.int .u64 0] 37, .cells b10 [.int .u64 (a4.fState.toNat : Int)] 37, .cells b5 [.int .i64 a0.fN, v0_1] 40] wx916 [.obj lk822 (lpO r824 .ready none), .obj D823 (.deferred (some [])), .row w.heap.size 3 (Rep.size Int) (.slice none 0 0) (([] : List Int).length) [], .cells b814 [(.slice none 0 0)] 22, .cells b805 [.int .i64 z756] 3, .cells b800 [.pointer (some ⟨b99, 0, none⟩)] 72, .row w.heap.size 3 (Rep.size Int) v760 xs757.length cs758, .cells b99 [.int .u64 (u761.toNat : Int), .int .i64 a0.fN, v0_1, .int .u64 (a1.toNat : Int), .int .i64 s790] 74, .cells b15 [.int .u64 0] 37, .cells b10 [.int .u64 (a4.fState.toNat : Int)] 37, .cells b5 [.int .i64 a0.fN, v0_1] 40]) (fun u916 => u916) h ?_ ?_
           ·skip
            rintro u916 wx916 ⟨hS917, hT918⟩ h
            try dsimp only at h
            refine MX.inBlock ?_
            refine MX.region ?_
            refine RG.val' .plain (FV.addN (i := i878) (j := 1) rfl rfl (by omega)) rfl ?_
            refine RG.val' .plain (FV.move rfl) rfl ?_
            refine RG.nil ?_
            exact hJ887 (u916, i878 + 1) _ _ ⟨rfl, rfl, rfl, rfl, rfl, rfl, rfl, trivial⟩ ⟨hS917, (Tr.trans hT880 (Tr.trans hT901 (Tr.trans hT905 hT918)))⟩ h
           ·skip
            intro J920 hJ921 h
            try dsimp only at h
            refine MX.ifd rfl h (fun c922 h => ?_) (fun c922 h => ?_)
            ·skip
             refine MX.region ?_
             refine RG.val' .plain (FV.move rfl) rfl ?_
             refine RG.val' .plain (FV.indexArr (m := 1) (k := 0) (len := 2) (by kernel_rfl) rfl rfl rfl (by omega)) rfl ?_
             refine RG.val' .plain (FV.load1 (by kernel_rfl) rfl ((hS904.memA .hd) 0 _ rfl)) rfl ?_
             refine RG.val' .plain (FV.indexArr (m := 1) (k := 1) (len := 2) (by kernel_rfl) rfl rfl rfl (by omega)) rfl ?_
             refine RG.val' .plain (FV.load1 (by kernel_rfl) rfl ((hS904.memA .hd) 1 _ rfl)) rfl ?_
             obtain ⟨s923, hs923, h⟩ := bind_in h
             refine RG.val' .plain (FV.addc (i := x889.1) (j := x889.2) rfl rfl hs923) rfl ?_
             refine RG.val' .plain (FV.load1 (by kernel_rfl) rfl ((hS904.memA (.tl (.tl (.tl (.tl (.tl .hd)))))) 0 _ rfl)) rfl ?_
             obtain ⟨s924, hs924, h⟩ := bind_in h
             refine RG.val' .plain (FV.subc (i := s923) (j := z756) rfl rfl hs924) rfl ?_
             obtain ⟨k925, hk925, h⟩ := bind_in h
             refine RG.val' .plain (FV.shlI (a := (1 : UInt64)) (i := s924) rfl rfl hk925) rfl ?_
             refine RG.val' .plain (FV.orU (a := u877) (b := shlU (1 : UInt64) k925) rfl rfl) rfl ?_
             refine RG.val' .plain (FV.assign rfl) rfl ?_
             refine RG.nil ?_
             have hS926 : St _ _ [.obj lk822 (lpO r824 .ready none), .obj D823 (.deferred (some [])), .row w.heap.size 3 (Rep.size Int) (.slice none 0 0) (([] : List Int).length) [], .cells b814 [(.slice none 0 0)] 22, .cells b805 [.int .i64 z756] 3, .cells b800 [.pointer (some ⟨b99, 0, none⟩)] 72, .row w.heap.size 3 (Rep.size Int) v760 xs757.length cs758, .cells b99 [.int .u64 (u761.toNat : Int), .int .i64 a0.fN, v0_1, .int .u64 (a1.toNat : Int), .int .i64 s790] 74, .cells b15 [.int .u64 0] 37, .cells b10 [.int .u64 (a4.fState.toNat : Int)] 37, .cells b5 [.int .i64 a0.fN, v0_1] 40] := hS904.arr (.one (.tl .hd) (.one (.tl .hd) (.one (.tl .hd) (.one (.tl .hd) (.one (.tl .hd) (.one (.tl .hd) (.one (.tl .hd) (.one (.tl .hd) (.one (.tl .hd) (.one (.tl .hd) (.one (.tl .hd) .done)))))))))))
             have hT927 : Tr w903 _ w903 [.obj lk822 (lpO r824 .ready none), .obj D823 (.deferred (some [])), .row w.heap.size 3 (Rep.size Int) (.slice none 0 0) (([] : List Int).length) [], .cells b814 [(.slice none 0 0)] 22, .cells b805 [.int .i64 z756] 3, .cells b800 [.pointer (some ⟨b99, 0, none⟩)] 72, .row w.heap.size 3 (Rep.size Int) v760 xs757.length cs758, .cells b99 [.int .u64 (u761.toNat : Int), .int .i64 a0.fN, v0_1, .int .u64 (a1.toNat : Int), .int .i64 s790] 74, .cells b15 [.int .u64 0] 37, .cells b10 [.int .u64 (a4.fState.toNat : Int)] 37, .cells b5 [.int .i64 a0.fN, v0_1] 40] := Tr.arr (St.arrOf hS904 (.one (.tl .hd) (.one (.tl .hd) (.one (.tl .hd) (.one (.tl .hd) (.one (.tl .hd) (.one (.tl .hd) (.one (.tl .hd) (.one (.tl .hd) (.one (.tl .hd) (.one (.tl .hd) (.one (.tl .hd) .done))))))))))))
             exact hJ921 (u877 ||| (shlU (1 : UInt64) k925)) _ _ ⟨rfl, rfl, rfl, rfl, rfl, rfl, rfl, trivial⟩ ⟨hS926, hT927⟩ h
            ·skip
             refine MX.skip ?_
             have hS928 : St _ _ [.obj lk822 (lpO r824 .ready none), .obj D823 (.deferred (some [])), .row w.heap.size 3 (Rep.size Int) (.slice none 0 0) (([] : List Int).length) [], .cells b814 [(.slice none 0 0)] 22, .cells b805 [.int .i64 z756] 3, .cells b800 [.pointer (some ⟨b99, 0, none⟩)] 72, .row w.heap.size 3 (Rep.size Int) v760 xs757.length cs758, .cells b99 [.int .u64 (u761.toNat : Int), .int .i64 a0.fN, v0_1, .int .u64 (a1.toNat : Int), .int .i64 s790] 74, .cells b15 [.int .u64 0] 37, .cells b10 [.int .u64 (a4.fState.toNat : Int)] 37, .cells b5 [.int .i64 a0.fN, v0_1] 40] := hS904.arr (.one (.tl .hd) (.one (.tl .hd) (.one (.tl .hd) (.one (.tl .hd) (.one (.tl .hd) (.one (.tl .hd) (.one (.tl .hd) (.one (.tl .hd) (.one (.tl .hd) (.one (.tl .hd) (.one (.tl .hd) .done)))))))))))
             have hT929 : Tr w903 _ w903 [.obj lk822 (lpO r824 .ready none), .obj D823 (.deferred (some [])), .row w.heap.size 3 (Rep.size Int) (.slice none 0 0) (([] : List Int).length) [], .cells b814 [(.slice none 0 0)] 22, .cells b805 [.int .i64 z756] 3, .cells b800 [.pointer (some ⟨b99, 0, none⟩)] 72, .row w.heap.size 3 (Rep.size Int) v760 xs757.length cs758, .cells b99 [.int .u64 (u761.toNat : Int), .int .i64 a0.fN, v0_1, .int .u64 (a1.toNat : Int), .int .i64 s790] 74, .cells b15 [.int .u64 0] 37, .cells b10 [.int .u64 (a4.fState.toNat : Int)] 37, .cells b5 [.int .i64 a0.fN, v0_1] 40] := Tr.arr (St.arrOf hS904 (.one (.tl .hd) (.one (.tl .hd) (.one (.tl .hd) (.one (.tl .hd) (.one (.tl .hd) (.one (.tl .hd) (.one (.tl .hd) (.one (.tl .hd) (.one (.tl .hd) (.one (.tl .hd) (.one (.tl .hd) .done))))))))))))
             exact hJ921 u877 _ _ ⟨rfl, rfl, rfl, rfl, rfl, rfl, rfl, trivial⟩ ⟨hS928, hT929⟩ h
         ·skip
          refine MX.exit rfl ?_
          have h := hh885 _ h
          try dsimp only at h
          refine MX.seq ?_
          refine MX.region ?_
          refine RG.val' .plain (FV.move rfl) rfl ?_
          refine RG.val' .plain (FV.load1 (by kernel_rfl) rfl ((hS879.memA (.tl (.tl (.tl (.tl (.tl .hd)))))) 0 _ rfl)) rfl ?_
          refine RG.val' .plain (FV.nilCheck rfl) rfl ?_
          refine RG.val' .plain (FV.fieldAddr (off := 3) (by kernel_rfl) rfl) rfl ?_
          refine RG.val' .plain (FV.load1 (by kernel_rfl) rfl ((hS879.memA (.tl (.tl (.tl (.tl (.tl (.tl (.tl .hd)))))))) 3 _ rfl)) rfl ?_
          refine RG.val' .plain (FV.andU (a := u877) (b := a1) rfl rfl) rfl ?_
          refine RG.val' .plain (FV.assign rfl) rfl ?_
          refine RG.nil ?_
          refine MX.block ?_
          have hm998 := Cells.mv hc818 (Tr.trans hT821 hT880)
          obtain ⟨o1009, ho1008, hh1010⟩ := bind_in2 h
          refine MX.loop (α := UInt64 × (List Int) × Value × (List Value)) (fun ⟨u999, xs1000, v1003, cs1001⟩ => [(0, .func (.yield lk822) #[] #[]), (4, .int .u64 (u999.toNat : Int))]) (fun ⟨u999, xs1000, v1003, cs1001⟩ wx1003 => St w wx1003 [.obj lk822 (lpO r824 .ready none), .obj D823 (.deferred (some [])), .row w.heap.size 3 (Rep.size Int) v1003 xs1000.length cs1001, .cells b814 [v1003] 22, .cells b805 [.int .i64 z756] 3, .cells b800 [.pointer (some ⟨b99, 0, none⟩)] 72, .row w.heap.size 3 (Rep.size Int) v760 xs757.length cs758, .cells b99 [.int .u64 (u761.toNat : Int), .int .i64 a0.fN, v0_1, .int .u64 (a1.toNat : Int), .int .i64 s790] 74, .cells b15 [.int .u64 0] 37, .cells b10 [.int .u64 (a4.fState.toNat : Int)] 37, .cells b5 [.int .i64 a0.fN, v0_1] 40] ∧ Tr wx878 [.obj lk822 (lpO r824 .ready none), .obj D823 (.deferred (some [])), .row w.heap.size 3 (Rep.size Int) (.slice none 0 0) (([] : List Int).length) [], .cells b814 [(.slice none 0 0)] 22, .cells b805 [.int .i64 z756] 3, .cells b800 [.pointer (some ⟨b99, 0, none⟩)] 72, .row w.heap.size 3 (Rep.size Int) v760 xs757.length cs758, .cells b99 [.int .u64 (u761.toNat : Int), .int .i64 a0.fN, v0_1, .int .u64 (a1.toNat : Int), .int .i64 s790] 74, .cells b15 [.int .u64 0] 37, .cells b10 [.int .u64 (a4.fState.toNat : Int)] 37, .cells b5 [.int .i64 a0.fN, v0_1] 40] wx1003 [.obj lk822 (lpO r824 .ready none), .obj D823 (.deferred (some [])), .row w.heap.size 3 (Rep.size Int) v1003 xs1000.length cs1001, .cells b814 [v1003] 22, .cells b805 [.int .i64 z756] 3, .cells b800 [.pointer (some ⟨b99, 0, none⟩)] 72, .row w.heap.size 3 (Rep.size Int) v760 xs757.length cs758, .cells b99 [.int .u64 (u761.toNat : Int), .int .i64 a0.fN, v0_1, .int .u64 (a1.toNat : Int), .int .i64 s790] 74, .cells b15 [.int .u64 0] 37, .cells b10 [.int .u64 (a4.fState.toNat : Int)] 37, .cells b5 [.int .i64 a0.fN, v0_1] 40] ∧ Cells wx1003 (bl [.obj lk822 (lpO r824 .ready none), .obj D823 (.deferred (some [])), .row w.heap.size 3 (Rep.size Int) v1003 xs1000.length cs1001, .cells b814 [v1003] 22, .cells b805 [.int .i64 z756] 3, .cells b800 [.pointer (some ⟨b99, 0, none⟩)] 72, .row w.heap.size 3 (Rep.size Int) v760 xs757.length cs758, .cells b99 [.int .u64 (u761.toNat : Int), .int .i64 a0.fN, v0_1, .int .u64 (a1.toNat : Int), .int .i64 s790] 74, .cells b15 [.int .u64 0] 37, .cells b10 [.int .u64 (a4.fState.toNat : Int)] 37, .cells b5 [.int .i64 a0.fN, v0_1] 40] ++ L) cs1001 xs1000) (fun ⟨u999, xs1000, v1003, cs1001⟩ => (u999, xs1000)) (u877 &&& a1, ([] : List Int), (.slice none 0 0), []) ho1008 ⟨rfl, rfl, trivial⟩ ⟨hS879, Tr.refl _ _, hm998⟩ ?_
          rintro J1011 ⟨u999, xs1000, v1003, cs1001⟩ wx1003 hJ1012 ⟨hS1004, hT1005, hc1002⟩ h
          unfold wilson_Walk_l1 at h
          try dsimp only at h
          refine MX.seq ?_
          refine MX.seq ?_
          refine MX.region ?_
          refine RG.val' .plain (FV.move rfl) rfl ?_
          refine RG.val' .plain (FV.neqU (a := u999) (b := (0 : UInt64)) rfl rfl) rfl ?_
          refine RG.nil ?_
          refine MX.ifn rfl h (fun c1013 h => ?_) (fun c1013 h => ?_)
          ·skip
           refine MX.exit rfl ?_
           have h := hh1010 _ h
           try dsimp only at h
           refine MX.fin rfl ?_
           refine RT.leave (u := .tuple #[]) hb826 Tryd.func86 rfl .nil rfl ?_
           refine MX.endRange0 hS1004 .hd (by intro h9; cases h9) (fun w1014 hS1015 hT1016 => ?_)
           have hS1017 : St _ _ [.obj D823 (.deferred (some [])), .row w.heap.size 3 (Rep.size Int) v1003 xs1000.length cs1001, .cells b814 [v1003] 22, .cells b805 [.int .i64 z756] 3, .cells b800 [.pointer (some ⟨b99, 0, none⟩)] 72, .row w.heap.size 3 (Rep.size Int) v760 xs757.length cs758, .cells b99 [.int .u64 (u761.toNat : Int), .int .i64 a0.fN, v0_1, .int .u64 (a1.toNat : Int), .int .i64 s790] 74, .cells b15 [.int .u64 0] 37, .cells b10 [.int .u64 (a4.fState.toNat : Int)] 37, .cells b5 [.int .i64 a0.fN, v0_1] 40] := hS1015.arr (.one (.tl .hd) (.one (.tl .hd) (.one (.tl .hd) (.one (.tl .hd) (.one (.tl .hd) (.one (.tl .hd) (.one (.tl .hd) (.one (.tl .hd) (.one (.tl .hd) (.one (.tl .hd) .done))))))))))
           have hT1018 : Tr w1014 _ w1014 [.obj D823 (.deferred (some [])), .row w.heap.size 3 (Rep.size Int) v1003 xs1000.length cs1001, .cells b814 [v1003] 22, .cells b805 [.int .i64 z756] 3, .cells b800 [.pointer (some ⟨b99, 0, none⟩)] 72, .row w.heap.size 3 (Rep.size Int) v760 xs757.length cs758, .cells b99 [.int .u64 (u761.toNat : Int), .int .i64 a0.fN, v0_1, .int .u64 (a1.toNat : Int), .int .i64 s790] 74, .cells b15 [.int .u64 0] 37, .cells b10 [.int .u64 (a4.fState.toNat : Int)] 37, .cells b5 [.int .i64 a0.fN, v0_1] 40] := Tr.arr (St.arrOf hS1015 (.one (.tl .hd) (.one (.tl .hd) (.one (.tl .hd) (.one (.tl .hd) (.one (.tl .hd) (.one (.tl .hd) (.one (.tl .hd) (.one (.tl .hd) (.one (.tl .hd) (.one (.tl .hd) .done)))))))))))
           refine MX.inBlock ?_
           refine MX.seq ?_
           refine MX.region ?_
           refine RG.val' .plain (FV.load1 (by kernel_rfl) rfl ((hS1017.memA (.tl (.tl .hd))) 0 _ rfl)) rfl ?_
           refine RG.val' .plain (FV.assign rfl) rfl ?_
           refine RG.nil ?_
           refine MX.ret rfl ?_
           refine RT.take hS1017 .hd (fun w1019 hS1020 hT1021 => ?_)
           have hS1022 : St _ _ [.row w.heap.size 3 (Rep.size Int) v1003 xs1000.length cs1001, .cells b814 [v1003] 22, .cells b805 [.int .i64 z756] 3, .cells b800 [.pointer (some ⟨b99, 0, none⟩)] 72, .row w.heap.size 3 (Rep.size Int) v760 xs757.length cs758, .cells b99 [.int .u64 (u761.toNat : Int), .int .i64 a0.fN, v0_1, .int .u64 (a1.toNat : Int), .int .i64 s790] 74, .cells b15 [.int .u64 0] 37, .cells b10 [.int .u64 (a4.fState.toNat : Int)] 37, .cells b5 [.int .i64 a0.fN, v0_1] 40] := hS1020.arr (.one (.tl .hd) (.one (.tl .hd) (.one (.tl .hd) (.one (.tl .hd) (.one (.tl .hd) (.one (.tl .hd) (.one (.tl .hd) (.one (.tl .hd) (.one (.tl .hd) .done)))))))))
           have hT1023 : Tr w1019 _ w1019 [.row w.heap.size 3 (Rep.size Int) v1003 xs1000.length cs1001, .cells b814 [v1003] 22, .cells b805 [.int .i64 z756] 3, .cells b800 [.pointer (some ⟨b99, 0, none⟩)] 72, .row w.heap.size 3 (Rep.size Int) v760 xs757.length cs758, .cells b99 [.int .u64 (u761.toNat : Int), .int .i64 a0.fN, v0_1, .int .u64 (a1.toNat : Int), .int .i64 s790] 74, .cells b15 [.int .u64 0] 37, .cells b10 [.int .u64 (a4.fState.toNat : Int)] 37, .cells b5 [.int .i64 a0.fN, v0_1] 40] := Tr.arr (St.arrOf hS1020 (.one (.tl .hd) (.one (.tl .hd) (.one (.tl .hd) (.one (.tl .hd) (.one (.tl .hd) (.one (.tl .hd) (.one (.tl .hd) (.one (.tl .hd) (.one (.tl .hd) .done))))))))))
           refine RT.leave (u := v1003) hb808 Tryd.func85 rfl (.cons (.tmp rfl) .nil) rfl ?_
           refine RG.val' .plain (FV.assign rfl) rfl ?_
           refine RG.nil ?_
           refine MX.ret rfl ?_
           refine RT.leave (u := v1003) hb806 Tryd.func63 rfl (.cons (.tmp rfl) .nil) rfl ?_
           refine RG.val' .plain (FV.move rfl) rfl ?_
           refine RG.enter (fst := []) (cap := []) (vs := [v1003, .func (.func 61) #[.pointer (some ⟨b99, 0, none⟩)] #[]]) .plain body62 Tryd.func62 rfl rfl rfl rfl (evs_cons rfl (evs_cons rfl evs_nil)) rfl (fun cs1025 hb1024 => ?_)
           refine MX.seq ?_
           refine MX.region ?_
           refine RG.val' .plain (FV.assign rfl) rfl ?_
           refine RG.val' .plain (FV.assign rfl) rfl ?_
           refine RG.nil ?_
           refine MX.seq ?_
           refine MX.region ?_
           refine RG.val' .plain (FV.move rfl) rfl ?_
           refine RG.val' .plain (FV.move rfl) rfl ?_
           have hl1026 : xs1000.length ≤ 4294967296 := St.rowLe (α := Int) hS1022 .hd
           obtain ⟨A1027, c1028, he1029⟩ := St.rowV (α := Int) hS1022 .hd
           refine RG.val' .plain (FV.lenV Tryd.underlying22 rfl he1029) rfl ?_
           refine RG.enter (fst := [.pointer (some ⟨b99, 0, none⟩)]) (cap := []) (vs := [.int .i64 ((xs1000.length : Nat) : Int)]) .plain body61 Tryd.func61 rfl rfl rfl rfl (evs_cons rfl evs_nil) rfl (fun cs1031 hb1030 => ?_)
           refine MX.seq ?_
           refine MX.region ?_
           refine RG.val' .plain (FV.assign rfl) rfl ?_
           refine RG.val' .plain (FV.assign rfl) rfl ?_
           refine RG.nil ?_
           refine MX.seq ?_
           refine MX.region ?_
           refine RG.val' .plain (FV.move rfl) rfl ?_
           refine RG.val' .plain (FV.nilCheck rfl) rfl ?_
           refine RG.val' .plain (FV.fieldAddr (off := 0) (by kernel_rfl) rfl) rfl ?_
           refine RG.val' .plain (FV.loadN (cs := [.int .u64 (u761.toNat : Int)]) (by kernel_rfl) rfl (mem_part (hS1022.memA (.tl (.tl (.tl (.tl (.tl .hd)))))) 0 1)) rfl ?_
           refine RG.val' .plain (FV.move rfl) rfl ?_
           obtain ⟨y1032, hy1032, h⟩ := bind_in h
           refine RG.callq' (v := .tuple #[.int .i64 y1032.1, .agg #[.int .u64 (y1032.2.1.fState.toNat : Int)], .int .i64 y1032.2.2]) (fst := []) (cap := []) .plain body29 rfl (evs_cons rfl (evs_cons rfl evs_nil)) (fun w9 hw9 => chance_Below_c n _ w9 (hS1022.hL0 hL hw9) (⟨u761⟩ : TChance) ((xs1000.length : Nat) : Int) hy1032) rfl ?_
           refine RG.val' .plain (FV.move rfl) rfl ?_
           refine RG.val' .plain (FV.extract rfl rfl) rfl ?_
           refine RG.val' .plain (FV.extract rfl rfl) rfl ?_
           refine RG.val' .plain (FV.extract rfl rfl) rfl ?_
           refine RG.new .plain rfl (Does.alloc (zs := [.int .u64 0]) hS1022 (zB (by kernel_rfl))) (fun w1034 b1037 hS1035 hT1036 => ?_)
           refine RG.val' .plain (FV.assign rfl) rfl ?_
           refine RG.now .plain (Acts.store (j := 0) (old := [.int .u64 0]) (news := [.int .u64 (y1032.2.1.fState.toNat : Int)]) (new' := [.int .u64 (y1032.2.1.fState.toNat : Int)]) hS1035 .hd rfl rfl rfl rfl rfl rfl (ones_cons rfl ones_nil) rfl) (fun w1038 hS1039 hT1040 => ?_)
           refine RG.val' .plain (FV.assign rfl) rfl ?_
           refine RG.nil ?_
           refine MX.seq ?_
           refine MX.region ?_
           refine RG.val' .plain (FV.move rfl) rfl ?_
           refine RG.val' .plain (FV.loadN (cs := [.int .u64 (y1032.2.1.fState.toNat : Int)]) (by kernel_rfl) rfl (hS1039.memA .hd)) rfl ?_
           refine RG.val' .plain (FV.nilCheck rfl) rfl ?_
           refine RG.val' .plain (FV.fieldAddr (off := 0) (by kernel_rfl) rfl) rfl ?_
           refine RG.now .plain (Acts.store (j := 0) (old := [.int .u64 (u761.toNat : Int), .int .i64 a0.fN, v0_1, .int .u64 (a1.toNat : Int), .int .i64 s790]) (news := [.int .u64 (y1032.2.1.fState.toNat : Int)]) (new' := [.int .u64 (y1032.2.1.fState.toNat : Int), .int .i64 a0.fN, v0_1, .int .u64 (a1.toNat : Int), .int .i64 s790]) hS1039 (.tl (.tl (.tl (.tl (.tl (.tl .hd)))))) rfl rfl rfl rfl rfl rfl (ones_cons rfl ones_nil) rfl) (fun w1041 hS1042 hT1043 => ?_)
           refine RG.nil ?_
           refine MX.seq ?_
           refine MX.region ?_
           refine RG.val' .plain (FV.move rfl) rfl ?_
           refine RG.val' .plain (FV.move rfl) rfl ?_
           refine RG.val' .plain (FV.assign rfl) rfl ?_
           refine RG.val' .plain (FV.assign rfl) rfl ?_
           refine RG.nil ?_
           refine MX.ret rfl ?_
           refine RT.leave (u := .tuple #[.int .i64 y1032.1, .int .i64 y1032.2.2]) hb1030 Tryd.func61 rfl (.cons (.tmp rfl) (.cons (.tmp rfl) .nil)) rfl ?_
           refine RG.val' .plain (FV.move rfl) rfl ?_
           refine RG.val' .plain (FV.extract rfl rfl) rfl ?_
           refine RG.val' .plain (FV.extract rfl rfl) rfl ?_
           refine RG.val' .plain (FV.assign rfl) rfl ?_
           refine RG.val' .plain (FV.assign rfl) rfl ?_
           refine RG.nil ?_
           refine MX.seq ?_
           refine MX.seq ?_
           refine MX.region ?_
           refine RG.val' .plain (FV.move rfl) rfl ?_
           refine RG.val' .plain (FV.neq (i := y1032.2.2) (j := 0) rfl rfl) rfl ?_
           refine RG.nil ?_
           refine MX.ifn rfl h (fun c1044 h => ?_) (fun c1044 h => ?_)
           ·skip
            refine MX.skip ?_
            refine MX.seq ?_
            refine MX.region ?_
            refine RG.val' .plain (FV.move rfl) rfl ?_
            refine RG.val' .plain (FV.move rfl) rfl ?_
            obtain ⟨x1045, hx1045, h⟩ := bind_in h
            obtain ⟨hi1046, hx1047⟩ := idx_in hx1045
            have hm1055 := Cells.mv hc1002 (Tr.trans hT1016 (Tr.trans hT1018 (Tr.trans hT1021 (Tr.trans hT1023 (Tr.trans hT1036 (Tr.trans hT1040 hT1043))))))
            obtain ⟨A1048, c1049, he1050, hk1051, cs1052, hr1053, hm1054⟩ := St.nth (α := Int) hS1042 (.tl .hd) hm1055 hx1047
            obtain ⟨b1056, c1057, he1058⟩ := St.nthOwn (α := Int) hS1042 (.tl .hd) hk1051
            obtain rfl : A1048 = ⟨b1056, 0, none⟩ := by rw [he1058] at he1050; cases he1050; rfl
            have he1059 : cs1052 = [.int .i64 x1045] := hr1053; subst he1059
            refine RG.val' .plain (FV.idxAddr (m := 1) (i := y1032.1.toNat) (by kernel_rfl) rfl he1050 rfl hi1046 hk1051) rfl ?_
            refine RG.val' .plain (FV.load1 (by kernel_rfl) rfl (hm1054 0 _ rfl)) rfl ?_
            refine RG.val' .plain (FV.assign rfl) rfl ?_
            refine RG.val' .plain (FV.assign rfl) rfl ?_
            refine RG.nil ?_
            refine MX.ret rfl ?_
            refine RT.leave (u := .tuple #[.int .i64 x1045, .int .i64 0]) hb1024 Tryd.func62 rfl (.cons (.tmp rfl) (.cons (.tmp rfl) .nil)) rfl ?_
            refine RG.val' .plain (FV.move rfl) rfl ?_
            refine RG.val' .plain (FV.extract rfl rfl) rfl ?_
            refine RG.val' .plain (FV.extract rfl rfl) rfl ?_
            refine RG.val' .plain (FV.assign rfl) rfl ?_
            refine RG.val' .plain (FV.assign rfl) rfl ?_
            refine RG.nil ?_
            refine MX.seq ?_
            refine MX.seq ?_
            refine MX.region ?_
            refine RG.val' .plain (FV.move rfl) rfl ?_
            refine RG.val' .plain (FV.neqN (i := 0) (j := 0) rfl rfl) rfl ?_
            refine RG.nil ?_
            refine MX.cond_f rfl ?_
            refine MX.skip ?_
            refine MX.seq ?_
            refine MX.region ?_
            refine RG.val' .plain (FV.move rfl) rfl ?_
            refine RG.val' .plain (FV.assign rfl) rfl ?_
            refine RG.nil ?_
            refine MX.region ?_
            refine RG.val' .plain (FV.move rfl) rfl ?_
            refine RG.val' .plain (FV.move rfl) rfl ?_
            refine RG.new .plain rfl (Does.build (α := Int) (xs := ([x1045] : List Int)) (vs := [.int .i64 x1045]) (ds' := [.int .i64 x1045]) rfl hS1042 el22 rfl (evs_cons rfl evs_nil) (by kernel_rfl) rfl) (fun w1061 b1064 hS1062 hT1063 => ?_)
            have hc1065 : Cells w1061 (bl [.row w.heap.size 3 (Rep.size Int) (.slice (some ⟨b1064, 0, none⟩) 1 1) (([x1045] : List Int).length) [.int .i64 x1045], .cells b1037 [.int .u64 (y1032.2.1.fState.toNat : Int)] 37, .row w.heap.size 3 (Rep.size Int) v1003 xs1000.length cs1001, .cells b814 [v1003] 22, .cells b805 [.int .i64 z756] 3, .cells b800 [.pointer (some ⟨b99, 0, none⟩)] 72, .row w.heap.size 3 (Rep.size Int) v760 xs757.length cs758, .cells b99 [.int .u64 (y1032.2.1.fState.toNat : Int), .int .i64 a0.fN, v0_1, .int .u64 (a1.toNat : Int), .int .i64 s790] 74, .cells b15 [.int .u64 0] 37, .cells b10 [.int .u64 (a4.fState.toNat : Int)] 37, .cells b5 [.int .i64 a0.fN, v0_1] 40] ++ L) [.int .i64 x1045] (([x1045] : List Int) : List Int) := Cells.cons (cs := [.int .i64 x1045]) (ds := []) rfl (Cells.nil _ _)
            obtain ⟨xs1066, hxs1066, h⟩ := bind_in h
            have hm1067 := Cells.mv hc759 (Tr.trans hT793 (Tr.trans hT799 (Tr.trans hT804 (Tr.trans hT813 (Tr.trans hT817 (Tr.trans hT821 (Tr.trans hT880 (Tr.trans hT1005 (Tr.trans hT1016 (Tr.trans hT1018 (Tr.trans hT1021 (Tr.trans hT1023 (Tr.trans hT1036 (Tr.trans hT1040 (Tr.trans hT1043 hT1063)))))))))))))))
            refine RG.doesL .plain rfl (DoesL.app (α := Int) (ys := ([x1045] : List Int)) (F := fun v' cs' => [.row w.heap.size 3 (Rep.size Int) (.slice (some ⟨b1064, 0, none⟩) 1 1) (([x1045] : List Int).length) [.int .i64 x1045], .cells b1037 [.int .u64 (y1032.2.1.fState.toNat : Int)] 37, .row w.heap.size 3 (Rep.size Int) v1003 xs1000.length cs1001, .cells b814 [v1003] 22, .cells b805 [.int .i64 z756] 3, .cells b800 [.pointer (some ⟨b99, 0, none⟩)] 72, .row w.heap.size 3 (Rep.size Int) v' xs1066.length cs', .cells b99 [.int .u64 (y1032.2.1.fState.toNat : Int), .int .i64 a0.fN, v0_1, .int .u64 (a1.toNat : Int), .int .i64 s790] 74, .cells b15 [.int .u64 0] 37, .cells b10 [.int .u64 (a4.fState.toNat : Int)] 37, .cells b5 [.int .i64 a0.fN, v0_1] 40]) hxs1066 hS1062 (fun _ _ => (.tl (.tl (.tl (.tl (.tl (.tl .hd))))))) el22 rfl rfl hm1067 (Src.row (α := Int) hS1062 .hd hc1065)) (fun v1073 w1068 ⟨cs1072, hS1069, hT1070, hc1071⟩ => ?_)
            refine RG.val' .plain (FV.assign rfl) rfl ?_
            refine RG.nil ?_
            refine MX.inBlock ?_
            have hS1075 : St _ _ [.row w.heap.size 3 (Rep.size Int) v1073 xs1066.length cs1072, .cells b99 [.int .u64 (y1032.2.1.fState.toNat : Int), .int .i64 a0.fN, v0_1, .int .u64 (a1.toNat : Int), .int .i64 s790] 74, .cells b15 [.int .u64 0] 37, .cells b10 [.int .u64 (a4.fState.toNat : Int)] 37, .cells b5 [.int .i64 a0.fN, v0_1] 40] := hS1069.arr (.one (.tl (.tl (.tl (.tl (.tl (.tl .hd)))))) (.one (.tl (.tl (.tl (.tl (.tl (.tl .hd)))))) (.one (.tl (.tl (.tl (.tl (.tl (.tl .hd)))))) (.one (.tl (.tl (.tl (.tl (.tl (.tl .hd)))))) (.one (.tl (.tl (.tl (.tl (.tl (.tl .hd)))))) .done)))))
            have hT1076 : Tr w1068 _ w1068 [.row w.heap.size 3 (Rep.size Int) v1073 xs1066.length cs1072, .cells b99 [.int .u64 (y1032.2.1.fState.toNat : Int), .int .i64 a0.fN, v0_1, .int .u64 (a1.toNat : Int), .int .i64 s790] 74, .cells b15 [.int .u64 0] 37, .cells b10 [.int .u64 (a4.fState.toNat : Int)] 37, .cells b5 [.int .i64 a0.fN, v0_1] 40] := Tr.arr (St.arrOf hS1069 (.one (.tl (.tl (.tl (.tl (.tl (.tl .hd)))))) (.one (.tl (.tl (.tl (.tl (.tl (.tl .hd)))))) (.one (.tl (.tl (.tl (.tl (.tl (.tl .hd)))))) (.one (.tl (.tl (.tl (.tl (.tl (.tl .hd)))))) (.one (.tl (.tl (.tl (.tl (.tl (.tl .hd)))))) .done))))))
            have hm1077 := Cells.mv hc1071 hT1076
            exact hJ771 (x1045, xs1066, y1032.2.1.fState, s790, v1073, cs1072) _ _ ⟨rfl, rfl, rfl, rfl, rfl, trivial⟩ ⟨hS1075, (Tr.trans hT764 (Tr.trans hT793 (Tr.trans hT799 (Tr.trans hT804 (Tr.trans hT813 (Tr.trans hT817 (Tr.trans hT821 (Tr.trans hT880 (Tr.trans hT1005 (Tr.trans hT1016 (Tr.trans hT1018 (Tr.trans hT1021 (Tr.trans hT1023 (Tr.trans hT1036 (Tr.trans hT1040 (Tr.trans hT1043 (Tr.trans hT1063 (Tr.trans hT1070 hT1076)))))))))))))))))), hm1077⟩ h
           ·skip
            refine MX.seq ?_
            refine MX.region ?_
            refine RG.val' .plain (FV.assign rfl) rfl ?_
            refine RG.nil ?_
            refine MX.seq ?_
            refine MX.region ?_
            refine RG.val' .plain (FV.move rfl) rfl ?_
            refine RG.val' .plain (FV.move rfl) rfl ?_
            refine RG.val' .plain (FV.assign rfl) rfl ?_
            refine RG.val' .plain (FV.assign rfl) rfl ?_
            refine RG.nil ?_
            refine MX.ret rfl ?_
            refine RT.leave (u := .tuple #[.int .i64 0, .int .i64 y1032.2.2]) hb1024 Tryd.func62 rfl (.cons (.tmp rfl) (.cons (.tmp rfl) .nil)) rfl ?_
            refine RG.val' .plain (FV.move rfl) rfl ?_
            refine RG.val' .plain (FV.extract rfl rfl) rfl ?_
            refine RG.val' .plain (FV.extract rfl rfl) rfl ?_
            refine RG.val' .plain (FV.assign rfl) rfl ?_
            refine RG.val' .plain (FV.assign rfl) rfl ?_
            refine RG.nil ?_
            refine MX.seq ?_
            refine MX.seq ?_
            refine MX.region ?_
            refine RG.val' .plain (FV.move rfl) rfl ?_
            refine RG.val' .plain (FV.neq (i := y1032.2.2) (j := 0) rfl rfl) rfl ?_
            refine RG.nil ?_
            refine MX.cond_kt rfl (not_of (decide_eq_false c1044)) ?_
            refine MX.seq ?_
            refine MX.region ?_
            refine RG.val' .plain (FV.move rfl) rfl ?_
            refine RG.val' .plain (FV.assign rfl) rfl ?_
            refine RG.val' .plain (FV.assign rfl) rfl ?_
            refine RG.nil ?_
            have h := thn_inl h hh769
            refine MX.ret rfl ?_
            refine RT.leave (u := .tuple #[.slice none 0 0, .int .i64 y1032.2.2]) hb100 Tryd.func34 rfl (.cons (.tmp rfl) (.cons (.tmp rfl) .nil)) rfl ?_
            refine RG.val' .plain (FV.move rfl) rfl ?_
            refine RG.val' .plain (FV.extract rfl rfl) rfl ?_
            refine RG.val' .plain (FV.extract rfl rfl) rfl ?_
            refine RG.val' .plain (FV.assign rfl) rfl ?_
            refine RG.val' .plain (FV.assign rfl) rfl ?_
            refine RG.nil ?_
            refine MX.seq ?_
            refine MX.region ?_
            refine RG.val' .plain (FV.move rfl) rfl ?_
            refine RG.val' .plain (FV.neq (i := y1032.2.2) (j := 0) rfl rfl) rfl ?_
            refine RG.nil ?_
            refine MX.cond_kt rfl (not_of (decide_eq_false c1044)) ?_
            refine MX.seq ?_
            refine MX.region ?_
            refine RG.val' .plain (FV.buildV (vs := []) (u := .agg #[.int .u64 0]) evs_nil (fun w9 => by kernel_rfl)) rfl ?_
            refine RG.val' .plain (FV.move rfl) rfl ?_
            refine RG.val' .plain (FV.assign rfl) rfl ?_
            refine RG.now .plain (Acts.store (j := 0) (old := [.int .u64 0]) (news := [.int .u64 0]) (new' := [.int .u64 0]) hS1042 (.tl (.tl (.tl (.tl (.tl (.tl (.tl .hd))))))) rfl rfl rfl rfl rfl rfl (ones_cons rfl ones_nil) rfl) (fun w1078 hS1079 hT1080 => ?_)
            refine RG.val' .plain (FV.assign rfl) rfl ?_
            refine RG.nil ?_
            refine MX.ret rfl ?_
            have hr1081 : Rep.R w1078 (bl [.cells b1037 [.int .u64 (y1032.2.1.fState.toNat : Int)] 37, .row w.heap.size 3 (Rep.size Int) v1003 xs1000.length cs1001, .cells b814 [v1003] 22, .cells b805 [.int .i64 z756] 3, .cells b800 [.pointer (some ⟨b99, 0, none⟩)] 72, .row w.heap.size 3 (Rep.size Int) v760 xs757.length cs758, .cells b99 [.int .u64 (y1032.2.1.fState.toNat : Int), .int .i64 a0.fN, v0_1, .int .u64 (a1.toNat : Int), .int .i64 s790] 74, .cells b15 [.int .u64 0] 37, .cells b10 [.int .u64 (a4.fState.toNat : Int)] 37, .cells b5 [.int .i64 a0.fN, v0_1] 40] ++ L) [.slice none 0 0] ([] : List Int) := Rep.nilSlice _ _
            refine RT.leave (u := .tuple #[.slice none 0 0, .agg #[.int .u64 0], .int .i64 y1032.2.2]) hb0 Tryd.func15 rfl (.cons (.tmp rfl) (.cons (.many (cs := [.int .u64 0]) (by kernel_rfl) rfl (hS1079.memA (.tl (.tl (.tl (.tl (.tl (.tl (.tl .hd))))))))) (.cons (.tmp rfl) .nil))) rfl ?_
            obtain rfl := Option.some.inj h
            have hr1082 : Rep.R w1078 (bl [.cells b1037 [.int .u64 (y1032.2.1.fState.toNat : Int)] 37, .row w.heap.size 3 (Rep.size Int) v1003 xs1000.length cs1001, .cells b814 [v1003] 22, .cells b805 [.int .i64 z756] 3, .cells b800 [.pointer (some ⟨b99, 0, none⟩)] 72, .row w.heap.size 3 (Rep.size Int) v760 xs757.length cs758, .cells b99 [.int .u64 (y1032.2.1.fState.toNat : Int), .int .i64 a0.fN, v0_1, .int .u64 (a1.toNat : Int), .int .i64 s790] 74, .cells b15 [.int .u64 0] 37, .cells b10 [.int .u64 (a4.fState.toNat : Int)] 37, .cells b5 [.int .i64 a0.fN, v0_1] 40] ++ L) [.slice none 0 0] ([] : List Int) := Rep.nilSlice _ _
            exact ⟨hS1079.ag, fun w9 hw9 => ⟨(.slice none 0 0), rfl, Rep.keep0 (Rep.dropO (O := [.cells b1037 [.int .u64 (y1032.2.1.fState.toNat : Int)] 37, .row w.heap.size 3 (Rep.size Int) v1003 xs1000.length cs1001, .cells b814 [v1003] 22, .cells b805 [.int .i64 z756] 3, .cells b800 [.pointer (some ⟨b99, 0, none⟩)] 72, .row w.heap.size 3 (Rep.size Int) v760 xs757.length cs758, .cells b99 [.int .u64 (y1032.2.1.fState.toNat : Int), .int .i64 a0.fN, v0_1, .int .u64 (a1.toNat : Int), .int .i64 s790] 74, .cells b15 [.int .u64 0] 37, .cells b10 [.int .u64 (a4.fState.toNat : Int)] 37, .cells b5 [.int .i64 a0.fN, v0_1] 40]) hr1082) hw9⟩⟩
          ·skip
           refine MX.skip ?_
           refine MX.seq ?_
           refine MX.block ?_
           refine MX.seq ?_
           refine MX.region ?_
           refine RG.val' .plain (FV.move rfl) rfl ?_
           refine RG.val' .plain (FV.move rfl) rfl ?_
           obtain ⟨y1083, hy1083, h⟩ := bind_in h
           refine RG.callq' (v := .int .i64 y1083) (fst := []) (cap := []) .plain body77 rfl (evs_cons rfl evs_nil) (fun w9 hw9 => math_bits_TrailingZeros64_c n _ w9 (hS1004.hL0 hL hw9) u999 (hG0.keep (hS1004.ag.trans hw9)) hy1083) rfl ?_
           refine RG.yield (vs := [.int .i64 y1083]) .plain rfl (evs_cons rfl evs_nil) hS1004 .hd rec825 rfl rfl rfl (fun cs1085 hb1084 => ?_)
           refine MX.region ?_
           refine RG.val' .plain (FV.assign rfl) rfl ?_
           refine RG.nil ?_
           refine MX.begin hS1004 .hd (fun w1086 hS1087 hT1088 => ?_)
           refine MX.block ?_
           refine MX.region ?_
           refine RG.val' .plain (FV.load1 (by kernel_rfl) rfl ((hS1087.memA (.tl (.tl (.tl .hd)))) 0 _ rfl)) rfl ?_
           refine RG.val' .plain (FV.move rfl) rfl ?_
           refine RG.new .plain rfl (Does.build (α := Int) (xs := ([y1083] : List Int)) (vs := [.int .i64 y1083]) (ds' := [.int .i64 y1083]) rfl hS1087 el22 rfl (evs_cons rfl evs_nil) (by kernel_rfl) rfl) (fun w1090 b1093 hS1091 hT1092 => ?_)
           have hc1094 : Cells w1090 (bl [.row w.heap.size 3 (Rep.size Int) (.slice (some ⟨b1093, 0, none⟩) 1 1) (([y1083] : List Int).length) [.int .i64 y1083], .obj lk822 (lpO r824 .busy none), .obj D823 (.deferred (some [])), .row w.heap.size 3 (Rep.size Int) v1003 xs1000.length cs1001, .cells b814 [v1003] 22, .cells b805 [.int .i64 z756] 3, .cells b800 [.pointer (some ⟨b99, 0, none⟩)] 72, .row w.heap.size 3 (Rep.size Int) v760 xs757.length cs758, .cells b99 [.int .u64 (u761.toNat : Int), .int .i64 a0.fN, v0_1, .int .u64 (a1.toNat : Int), .int .i64 s790] 74, .cells b15 [.int .u64 0] 37, .cells b10 [.int .u64 (a4.fState.toNat : Int)] 37, .cells b5 [.int .i64 a0.fN, v0_1] 40] ++ L) [.int .i64 y1083] (([y1083] : List Int) : List Int) := Cells.cons (cs := [.int .i64 y1083]) (ds := []) rfl (Cells.nil _ _)
           obtain ⟨xs1095, hxs1095, h⟩ := bind_in h
           have hm1096 := Cells.mv hc1002 (Tr.trans hT1088 hT1092)
           refine RG.doesL .plain rfl (DoesL.app (α := Int) (ys := ([y1083] : List Int)) (F := fun v' cs' => [.row w.heap.size 3 (Rep.size Int) (.slice (some ⟨b1093, 0, none⟩) 1 1) (([y1083] : List Int).length) [.int .i64 y1083], .obj lk822 (lpO r824 .busy none), .obj D823 (.deferred (some [])), .row w.heap.size 3 (Rep.size Int) v' xs1095.length cs', .cells b814 [v1003] 22, .cells b805 [.int .i64 z756] 3, .cells b800 [.pointer (some ⟨b99, 0, none⟩)] 72, .row w.heap.size 3 (Rep.size Int) v760 xs757.length cs758, .cells b99 [.int .u64 (u761.toNat : Int), .int .i64 a0.fN, v0_1, .int .u64 (a1.toNat : Int), .int .i64 s790] 74, .cells b15 [.int .u64 0] 37, .cells b10 [.int .u64 (a4.fState.toNat : Int)] 37, .cells b5 [.int .i64 a0.fN, v0_1] 40]) hxs1095 hS1091 (fun _ _ => (.tl (.tl (.tl .hd)))) el22 rfl rfl hm1096 (Src.row (α := Int) hS1091 .hd hc1094)) (fun v1102 w1097 ⟨cs1101, hS1098, hT1099, hc1100⟩ => ?_)
           refine RG.now .plain (Acts.store (j := 0) (old := [v1003]) (news := [v1102]) (new' := [v1102]) hS1098 (.tl (.tl (.tl (.tl .hd)))) rfl rfl rfl (St.c1 (α := Int) hS1098 (.tl (.tl (.tl .hd)))) rfl rfl (ones_cons (St.o1 (α := Int) hS1098 (.tl (.tl (.tl .hd)))) ones_nil) rfl) (fun w1104 hS1105 hT1106 => ?_)
           refine RG.nil ?_
           refine MX.inBlock ?_
           refine MX.roundEnd hb1084 hS1105 (.tl .hd) (fun w1107 hS1108 hT1109 => ?_)
           refine RG.val' .plain (FV.not rfl) rfl ?_
           refine RG.nil ?_
           refine MX.cond_f rfl ?_
           refine MX.skip ?_
           refine MX.inBlock ?_
           refine MX.region ?_
           refine RG.val' .plain (FV.move rfl) rfl ?_
           refine RG.val' .plain (FV.move rfl) rfl ?_
           refine RG.val' .plain (FV.subU (a := u999) (b := (1 : UInt64)) rfl rfl) rfl ?_
           refine RG.val' .plain (FV.andU (a := u999) (b := u999 - (1 : UInt64)) rfl rfl) rfl ?_
           refine RG.val' .plain (FV.assign rfl) rfl ?_
           refine RG.nil ?_
           have hS1110 : St _ _ [.obj lk822 (lpO r824 .ready none), .obj D823 (.deferred (some [])), .row w.heap.size 3 (Rep.size Int) v1102 xs1095.length cs1101, .cells b814 [v1102] 22, .cells b805 [.int .i64 z756] 3, .cells b800 [.pointer (some ⟨b99, 0, none⟩)] 72, .row w.heap.size 3 (Rep.size Int) v760 xs757.length cs758, .cells b99 [.int .u64 (u761.toNat : Int), .int .i64 a0.fN, v0_1, .int .u64 (a1.toNat : Int), .int .i64 s790] 74, .cells b15 [.int .u64 0] 37, .cells b10 [.int .u64 (a4.fState.toNat : Int)] 37, .cells b5 [.int .i64 a0.fN, v0_1] 40] := hS1108.arr (.one (.tl .hd) (.one (.tl .hd) (.one (.tl .hd) (.one (.tl .hd) (.one (.tl .hd) (.one (.tl .hd) (.one (.tl .hd) (.one (.tl .hd) (.one (.tl .hd) (.one (.tl .hd) (.one (.tl .hd) .done)))))))))))
           have hT1111 : Tr w1107 _ w1107 [.obj lk822 (lpO r824 .ready none), .obj D823 (.deferred (some [])), .row w.heap.size 3 (Rep.size Int) v1102 xs1095.length cs1101, .cells b814 [v1102] 22, .cells b805 [.int .i64 z756] 3, .cells b800 [.pointer (some ⟨b99, 0, none⟩)] 72, .row w.heap.size 3 (Rep.size Int) v760 xs757.length cs758, .cells b99 [.int .u64 (u761.toNat : Int), .int .i64 a0.fN, v0_1, .int .u64 (a1.toNat : Int), .int .i64 s790] 74, .cells b15 [.int .u64 0] 37, .cells b10 [.int .u64 (a4.fState.toNat : Int)] 37, .cells b5 [.int .i64 a0.fN, v0_1] 40] := Tr.arr (St.arrOf hS1108 (.one (.tl .hd) (.one (.tl .hd) (.one (.tl .hd) (.one (.tl .hd) (.one (.tl .hd) (.one (.tl .hd) (.one (.tl .hd) (.one (.tl .hd) (.one (.tl .hd) (.one (.tl .hd) (.one (.tl .hd) .done))))))))))))
           have hm1112 := Cells.mv hc1100 (Tr.trans hT1106 (Tr.trans hT1109 hT1111))
           exact hJ1012 (u999 &&& (u999 - (1 : UInt64)), xs1095, v1102, cs1101) _ _ ⟨rfl, rfl, trivial⟩ ⟨hS1110, (Tr.trans hT1005 (Tr.trans hT1088 (Tr.trans hT1092 (Tr.trans hT1099 (Tr.trans hT1106 (Tr.trans hT1109 hT1111)))))), hm1112⟩ h
      ·skip
       refine MX.seq ?_
       refine MX.region ?_
       refine RG.val' .plain (FV.buildV (vs := []) (u := .agg #[.int .u64 0]) evs_nil (fun w9 => by kernel_rfl)) rfl ?_
       refine RG.val' .plain (FV.assign rfl) rfl ?_
       refine RG.now .plain (Acts.store (j := 0) (old := [.int .u64 0]) (news := [.int .u64 0]) (new' := [.int .u64 0]) hS68 .hd rfl rfl rfl rfl rfl rfl (ones_cons rfl ones_nil) rfl) (fun w1113 hS1114 hT1115 => ?_)
       refine RG.val' .plain (FV.assign rfl) rfl ?_
       refine RG.nil ?_
       refine MX.ret rfl ?_
       have hr1116 : Rep.R w1113 (bl [.cells b15 [.int .u64 0] 37, .cells b10 [.int .u64 (a4.fState.toNat : Int)] 37, .cells b5 [.int .i64 a0.fN, v0_1] 40] ++ L) [.slice none 0 0] ([] : List Int) := Rep.nilSlice _ _
       refine RT.leave (u := .tuple #[.slice none 0 0, .agg #[.int .u64 0], .int .i64 4]) hb0 Tryd.func15 rfl (.cons (.tmp rfl) (.cons (.many (cs := [.int .u64 0]) (by kernel_rfl) rfl (hS1114.memA .hd)) (.cons (.tmp rfl) .nil))) rfl ?_
       obtain rfl := Option.some.inj h
       have hr1117 : Rep.R w1113 (bl [.cells b15 [.int .u64 0] 37, .cells b10 [.int .u64 (a4.fState.toNat : Int)] 37, .cells b5 [.int .i64 a0.fN, v0_1] 40] ++ L) [.slice none 0 0] ([] : List Int) := Rep.nilSlice _ _
       exact ⟨hS1114.ag, fun w9 hw9 => ⟨(.slice none 0 0), rfl, Rep.keep0 (Rep.dropO (O := [.cells b15 [.int .u64 0] 37, .cells b10 [.int .u64 (a4.fState.toNat : Int)] 37, .cells b5 [.int .i64 a0.fN, v0_1] 40]) hr1117) hw9⟩⟩
   ·skip
    intro J30 hJ31 h
    try dsimp only at h
    refine MX.region ?_
    refine RG.val' .plain (FV.loadN (cs := [.int .i64 a0.fN, v0_1]) (by kernel_rfl) rfl (hS13.memA (.tl (.tl .hd)))) rfl ?_
    refine RG.val' .plain (FV.move rfl) rfl ?_
    obtain ⟨y1118, hy1118, h⟩ := bind_in h
    refine RG.callq' (v := .bool y1118) (fst := []) (cap := []) .plain body33 rfl (evs_cons rfl (evs_cons rfl evs_nil)) (fun w9 hw9 => wilson_fits_c n _ w9 (hS13.hL0 hL hw9) a0 (Rep.keep0 (Rep.dropO (O := [.cells b15 [.int .u64 0] 37, .cells b10 [.int .u64 (a4.fState.toNat : Int)] 37, .cells b5 [.int .i64 a0.fN, v0_1] 40]) hm17) hw9) a1 hy1118) rfl ?_
    refine RG.val' .plain (FV.not rfl) rfl ?_
    refine RG.val' .plain (FV.move rfl) rfl ?_
    refine RG.ifnb (s := 30) rfl h (fun c1119 h => ?_) (fun c1119 h => ?_)
    ·skip
     refine RG.val' (.yes rfl rfl) (FV.loadN (cs := [.int .i64 a0.fN, v0_1]) (by kernel_rfl) rfl (hS13.memA (.tl (.tl .hd)))) rfl ?_
     refine RG.val' (.yes rfl rfl) (FV.move rfl) rfl ?_
     obtain ⟨y1120, hy1120, h⟩ := bind_in h
     refine RG.callq' (v := .bool y1120) (fst := []) (cap := []) (.yes rfl rfl) body33 rfl (evs_cons rfl (evs_cons rfl evs_nil)) (fun w9 hw9 => wilson_fits_c n _ w9 (hS13.hL0 hL hw9) a0 (Rep.keep0 (Rep.dropO (O := [.cells b15 [.int .u64 0] 37, .cells b10 [.int .u64 (a4.fState.toNat : Int)] 37, .cells b5 [.int .i64 a0.fN, v0_1] 40]) hm17) hw9) a3 hy1120) rfl ?_
     refine RG.val' (.yes rfl rfl) (FV.not rfl) rfl ?_
     refine RG.val' .plain (FV.pick_f rfl rfl) rfl ?_
     refine RG.val' .plain (FV.move rfl) rfl ?_
     refine RG.ifnb (s := 36) rfl h (fun c1121 h => ?_) (fun c1121 h => ?_)
     ·skip
      refine RG.val' (.yes rfl rfl) (FV.move rfl) rfl ?_
      refine RG.val' (.yes rfl rfl) (FV.lss (i := a2) (j := 0) rfl rfl) rfl ?_
      refine RG.val' .plain (FV.pick_f rfl rfl) rfl ?_
      refine RG.val' .plain (FV.move rfl) rfl ?_
      refine RG.ifd (s := 40) rfl h (fun c1122 h => ?_) (fun c1122 h => ?_)
      ·skip
       refine RG.off (.no rfl rfl) rfl ?_
       refine RG.off (.no rfl rfl) rfl ?_
       refine RG.off (.no rfl rfl) rfl ?_
       refine RG.off (.no rfl rfl) rfl ?_
       refine RG.val' .plain (FV.pick_t rfl rfl) rfl ?_
       refine RG.val' .plain (FV.move rfl) rfl ?_
       refine RG.off (.no rfl rfl) rfl ?_
       refine RG.off (.no rfl rfl) rfl ?_
       refine RG.off (.no rfl rfl) rfl ?_
       refine RG.off (.no rfl rfl) rfl ?_
       refine RG.off (.no rfl rfl) rfl ?_
       refine RG.val' .plain (FV.pick_t rfl rfl) rfl ?_
       refine RG.nil ?_
       exact hJ31 true _ _ ⟨rfl, rfl, rfl, rfl, rfl, rfl, rfl, trivial⟩ ⟨hS13, Tr.refl _ _⟩ h
      ·skip
       refine RG.val' (.yes rfl rfl) (FV.move rfl) rfl ?_
       refine RG.val' (.yes rfl rfl) (FV.fieldAddr (off := 0) (by kernel_rfl) rfl) rfl ?_
       refine RG.val' (.yes rfl rfl) (FV.load1 (by kernel_rfl) rfl ((hS13.memA (.tl (.tl .hd))) 0 _ rfl)) rfl ?_
       refine RG.val' (.yes rfl rfl) (FV.geq (i := a2) (j := a0.fN) rfl rfl) rfl ?_
       refine RG.val' .plain (FV.pick_f rfl rfl) rfl ?_
       refine RG.val' .plain (FV.move rfl) rfl ?_
       refine RG.ifd (s := 46) rfl h (fun c1123 h => ?_) (fun c1123 h => ?_)
       ·skip
        refine RG.off (.no rfl rfl) rfl ?_
        refine RG.off (.no rfl rfl) rfl ?_
        refine RG.off (.no rfl rfl) rfl ?_
        refine RG.off (.no rfl rfl) rfl ?_
        refine RG.off (.no rfl rfl) rfl ?_
        refine RG.val' .plain (FV.pick_t rfl rfl) rfl ?_
        refine RG.nil ?_
        exact hJ31 true _ _ ⟨rfl, rfl, rfl, rfl, rfl, rfl, rfl, trivial⟩ ⟨hS13, Tr.refl _ _⟩ h
       ·skip
        refine RG.val' (.yes rfl rfl) (FV.move rfl) rfl ?_
        refine RG.val' (.yes rfl rfl) (FV.move rfl) rfl ?_
        obtain ⟨k1124, hk1124, h⟩ := bind_in h
        refine RG.val' (.yes rfl rfl) (FV.shrI (a := a1) (i := a2) rfl rfl hk1124) rfl ?_
        refine RG.val' (.yes rfl rfl) (FV.andU (a := shrU a1 k1124) (b := (1 : UInt64)) rfl rfl) rfl ?_
        refine RG.val' (.yes rfl rfl) (FV.eqlU (a := (shrU a1 k1124) &&& (1 : UInt64)) (b := (0 : UInt64)) rfl rfl) rfl ?_
        refine RG.val' .plain (FV.pick_f rfl rfl) rfl ?_
        refine RG.nil ?_
        exact hJ31 (decide (((shrU a1 k1124) &&& (1 : UInt64)) = (0 : UInt64))) _ _ ⟨rfl, rfl, rfl, rfl, rfl, rfl, rfl, trivial⟩ ⟨hS13, Tr.refl _ _⟩ h
     ·skip
      refine RG.off (.no rfl rfl) rfl ?_
      refine RG.off (.no rfl rfl) rfl ?_
      refine RG.val' .plain (FV.pick_t rfl rfl) rfl ?_
      refine RG.val' .plain (FV.move rfl) rfl ?_
      refine RG.off (.no rfl rfl) rfl ?_
      refine RG.off (.no rfl rfl) rfl ?_
      refine RG.off (.no rfl rfl) rfl ?_
      refine RG.off (.no rfl rfl) rfl ?_
      refine RG.val' .plain (FV.pick_t rfl rfl) rfl ?_
      refine RG.val' .plain (FV.move rfl) rfl ?_
      refine RG.off (.no rfl rfl) rfl ?_
      refine RG.off (.no rfl rfl) rfl ?_
      refine RG.off (.no rfl rfl) rfl ?_
      refine RG.off (.no rfl rfl) rfl ?_
      refine RG.off (.no rfl rfl) rfl ?_
      refine RG.val' .plain (FV.pick_t rfl rfl) rfl ?_
      refine RG.nil ?_
      exact hJ31 true _ _ ⟨rfl, rfl, rfl, rfl, rfl, rfl, rfl, trivial⟩ ⟨hS13, Tr.refl _ _⟩ h
    ·skip
     refine RG.off (.no rfl rfl) rfl ?_
     refine RG.off (.no rfl rfl) rfl ?_
     refine RG.off (.no rfl rfl) rfl ?_
     refine RG.off (.no rfl rfl) rfl ?_
     refine RG.val' .plain (FV.pick_t rfl rfl) rfl ?_
     refine RG.val' .plain (FV.move rfl) rfl ?_
     refine RG.off (.no rfl rfl) rfl ?_
     refine RG.off (.no rfl rfl) rfl ?_
     refine RG.val' .plain (FV.pick_t rfl rfl) rfl ?_
     refine RG.val' .plain (FV.move rfl) rfl ?_
     refine RG.off (.no rfl rfl) rfl ?_
     refine RG.off (.no rfl rfl) rfl ?_
     refine RG.off (.no rfl rfl) rfl ?_
     refine RG.off (.no rfl rfl) rfl ?_
     refine RG.val' .plain (FV.pick_t rfl rfl) rfl ?_
     refine RG.val' .plain (FV.move rfl) rfl ?_
     refine RG.off (.no rfl rfl) rfl ?_
     refine RG.off (.no rfl rfl) rfl ?_
     refine RG.off (.no rfl rfl) rfl ?_
     refine RG.off (.no rfl rfl) rfl ?_
     refine RG.off (.no rfl rfl) rfl ?_
     refine RG.val' .plain (FV.pick_t rfl rfl) rfl ?_
     refine RG.nil ?_
     exact hJ31 true _ _ ⟨rfl, rfl, rfl, rfl, rfl, rfl, rfl, trivial⟩ ⟨hS13, Tr.refl _ _⟩ h
  ·skip
   refine MX.seq ?_
   refine MX.region ?_
   refine RG.val' .plain (FV.buildV (vs := []) (u := .agg #[.int .u64 0]) evs_nil (fun w9 => by kernel_rfl)) rfl ?_
   refine RG.val' .plain (FV.move rfl) rfl ?_
   refine RG.val' .plain (FV.assign rfl) rfl ?_
   refine RG.now .plain (Acts.store (j := 0) (old := [.int .u64 0]) (news := [.int .u64 0]) (new' := [.int .u64 0]) hS13 .hd rfl rfl rfl rfl rfl rfl (ones_cons rfl ones_nil) rfl) (fun w1125 hS1126 hT1127 => ?_)
   refine RG.val' .plain (FV.assign rfl) rfl ?_
   refine RG.nil ?_
   refine MX.ret rfl ?_
   have hr1128 : Rep.R w1125 (bl [.cells b15 [.int .u64 0] 37, .cells b10 [.int .u64 (a4.fState.toNat : Int)] 37, .cells b5 [.int .i64 a0.fN, v0_1] 40] ++ L) [.slice none 0 0] ([] : List Int) := Rep.nilSlice _ _
   refine RT.leave (u := .tuple #[.slice none 0 0, .agg #[.int .u64 0], .int .i64 y16]) hb0 Tryd.func15 rfl (.cons (.tmp rfl) (.cons (.many (cs := [.int .u64 0]) (by kernel_rfl) rfl (hS1126.memA .hd)) (.cons (.tmp rfl) .nil))) rfl ?_
   obtain rfl := Option.some.inj h
   have hr1129 : Rep.R w1125 (bl [.cells b15 [.int .u64 0] 37, .cells b10 [.int .u64 (a4.fState.toNat : Int)] 37, .cells b5 [.int .i64 a0.fN, v0_1] 40] ++ L) [.slice none 0 0] ([] : List Int) := Rep.nilSlice _ _
   exact ⟨hS1126.ag, fun w9 hw9 => ⟨(.slice none 0 0), rfl, Rep.keep0 (Rep.dropO (O := [.cells b15 [.int .u64 0] 37, .cells b10 [.int .u64 (a4.fState.toNat : Int)] 37, .cells b5 [.int .i64 a0.fN, v0_1] 40]) hr1129) hw9⟩⟩
theorem el38 : ElT Tryd.prog 38 46 (Rep.size (Int × Int)) 16 (.agg #[.int .i64 0, .int .i64 0]) [.int .i64 0, .int .i64 0] := ⟨Tryd.underlying38, by kernel_rfl, rfl, rfl, rfl, rfl⟩
def wardmotelaw31_ring_p (_n : Nat) : Option TGraph :=
  some (⟨4, ([(0, 1), (0, 3), (1, 2), (2, 3)] : List (Int × Int))⟩ : TGraph)
set_option maxRecDepth 4000 in
set_option maxHeartbeats 4000000 in
theorem wardmotelaw31_ring_c (n : Nat) (L : List Nat) (w : World) (hL : ∀ b ∈ L, b < w.heap.size)  {r : TGraph} (h : wardmotelaw31_ring_p n = some r) :
    Calls Tryd.prog 18 #[] w (Gives w fun w' u => ∃ v0_1 : Value, u = .agg #[.int .i64 r.fN, v0_1] ∧ Rep.R w' L [v0_1] r.fEdges) := by
  unfold wardmotelaw31_ring_p at h
  have hS0 := St.start w
  refine MX.start Tryd.func18 rfl rfl rfl (fun _ cs0 hb0 => ?_)
  refine MX.seq ?_
  refine MX.region ?_
  refine RG.new .plain rfl (Does.alloc (zs := [.int .i64 0, .slice none 0 0]) hS0 (zB (by kernel_rfl))) (fun w2 b5 hS3 hT4 => ?_)
  refine RG.nil ?_
  refine MX.seq ?_
  refine MX.region ?_
  refine RG.val' .plain (FV.buildV (vs := [.int .i64 0, .int .i64 1]) (u := .agg #[.int .i64 0, .int .i64 1]) (evs_cons rfl (evs_cons rfl evs_nil)) (fun w9 => by kernel_rfl)) rfl ?_
  refine RG.val' .plain (FV.buildV (vs := [.int .i64 0, .int .i64 3]) (u := .agg #[.int .i64 0, .int .i64 3]) (evs_cons rfl (evs_cons rfl evs_nil)) (fun w9 => by kernel_rfl)) rfl ?_
  refine RG.val' .plain (FV.buildV (vs := [.int .i64 1, .int .i64 2]) (u := .agg #[.int .i64 1, .int .i64 2]) (evs_cons rfl (evs_cons rfl evs_nil)) (fun w9 => by kernel_rfl)) rfl ?_
  refine RG.val' .plain (FV.buildV (vs := [.int .i64 2, .int .i64 3]) (u := .agg #[.int .i64 2, .int .i64 3]) (evs_cons rfl (evs_cons rfl evs_nil)) (fun w9 => by kernel_rfl)) rfl ?_
  refine RG.new .plain rfl (Does.build (α := Int × Int) (xs := ([(0, 1), (0, 3), (1, 2), (2, 3)] : List (Int × Int))) (vs := [.agg #[.int .i64 0, .int .i64 1], .agg #[.int .i64 0, .int .i64 3], .agg #[.int .i64 1, .int .i64 2], .agg #[.int .i64 2, .int .i64 3]]) (ds' := [.int .i64 0, .int .i64 1, .int .i64 0, .int .i64 3, .int .i64 1, .int .i64 2, .int .i64 2, .int .i64 3]) rfl hS3 el38 rfl (evs_cons rfl (evs_cons rfl (evs_cons rfl (evs_cons rfl evs_nil)))) (by kernel_rfl) rfl) (fun w7 b10 hS8 hT9 => ?_)
  have hc11 : Cells w7 (bl [.row w.heap.size 46 (Rep.size (Int × Int)) (.slice (some ⟨b10, 0, none⟩) 4 4) (([(0, 1), (0, 3), (1, 2), (2, 3)] : List (Int × Int)).length) [.int .i64 0, .int .i64 1, .int .i64 0, .int .i64 3, .int .i64 1, .int .i64 2, .int .i64 2, .int .i64 3], .cells b5 [.int .i64 0, .slice none 0 0] 40] ++ L) [.int .i64 0, .int .i64 1, .int .i64 0, .int .i64 3, .int .i64 1, .int .i64 2, .int .i64 2, .int .i64 3] (([(0, 1), (0, 3), (1, 2), (2, 3)] : List (Int × Int)) : List (Int × Int)) := Cells.cons (cs := [.int .i64 0, .int .i64 1]) (ds := [.int .i64 0, .int .i64 3, .int .i64 1, .int .i64 2, .int .i64 2, .int .i64 3]) (mk_A46 0 1) (Cells.cons (cs := [.int .i64 0, .int .i64 3]) (ds := [.int .i64 1, .int .i64 2, .int .i64 2, .int .i64 3]) (mk_A46 0 3) (Cells.cons (cs := [.int .i64 1, .int .i64 2]) (ds := [.int .i64 2, .int .i64 3]) (mk_A46 1 2) (Cells.cons (cs := [.int .i64 2, .int .i64 3]) (ds := []) (mk_A46 2 3) (Cells.nil _ _))))
  refine RG.val' .plain (FV.buildV (vs := [.int .i64 4, (.slice (some ⟨b10, 0, none⟩) 4 4)]) (u := .agg #[.int .i64 4, (.slice (some ⟨b10, 0, none⟩) 4 4)]) (evs_cons rfl (evs_cons rfl evs_nil)) (fun w9 => by kernel_rfl)) rfl ?_
  refine RG.now .plain (Acts.store (j := 0) (old := [.int .i64 0, .slice none 0 0]) (news := [.int .i64 4, (.slice (some ⟨b10, 0, none⟩) 4 4)]) (new' := [.int .i64 4, (.slice (some ⟨b10, 0, none⟩) 4 4)]) hS8 (.tl .hd) rfl rfl rfl rfl rfl rfl (ones_cons rfl (ones_cons (St.o1 (α := Int × Int) hS8 .hd) ones_nil)) rfl) (fun w12 hS13 hT14 => ?_)
  refine RG.nil ?_
  refine MX.ret rfl ?_
  have hm18 := Cells.mv hc11 hT14
  have hr15 := St.freeze (α := Int × Int) hS13 .hd hm18 hL
  have hS16 := hS13.del (.hd : Out _ _ _).del
  have hT17 := Tr.del (w := w12) (.hd : Out [.row w.heap.size 46 (Rep.size (Int × Int)) (.slice (some ⟨b10, 0, none⟩) 4 4) (([(0, 1), (0, 3), (1, 2), (2, 3)] : List (Int × Int)).length) [.int .i64 0, .int .i64 1, .int .i64 0, .int .i64 3, .int .i64 1, .int .i64 2, .int .i64 2, .int .i64 3], .cells b5 [.int .i64 4, (.slice (some ⟨b10, 0, none⟩) 4 4)] 40] _ _).del
  have hr19 : Rep.R w12 (bl [.cells b5 [.int .i64 4, (.slice (some ⟨b10, 0, none⟩) 4 4)] 40] ++ L) [(.slice (some ⟨b10, 0, none⟩) 4 4)] ([(0, 1), (0, 3), (1, 2), (2, 3)] : List (Int × Int)) := hr15
  refine RT.leave (u := .agg #[.int .i64 4, (.slice (some ⟨b10, 0, none⟩) 4 4)]) hb0 Tryd.func18 rfl (.cons (.many (cs := [.int .i64 4, (.slice (some ⟨b10, 0, none⟩) 4 4)]) (by kernel_rfl) rfl (hS16.memA .hd)) .nil) rfl ?_
  obtain rfl := Option.some.inj h
  exact ⟨hS16.ag, fun w9 hw9 => ⟨(.slice (some ⟨b10, 0, none⟩) 4 4), rfl, Rep.keep0 (Rep.dropO (O := [.cells b5 [.int .i64 4, (.slice (some ⟨b10, 0, none⟩) 4 4)] 40]) hr19) hw9⟩⟩
def wardmotelaw31_fails_1_p (_n : Nat) (a0 : List Int) (a1 : Int) (a2 : Int) : Option Bool :=
  (if a0.length = 0 then some (decide (a1 = a2)) else some false)
set_option maxRecDepth 4000 in
set_option maxHeartbeats 4000000 in
theorem wardmotelaw31_fails_1_c (n : Nat) (L : List Nat) (w : World) (hL : ∀ b ∈ L, b < w.heap.size) (a0 : List Int) {v0_0 : Value} (h0_0 : Rep.R w L [v0_0] a0) (a1 : Int) (a2 : Int) {p2 : Nat} (m2 : ∀ j9 v9, ([.int .i64 a2] : List Value)[j9]? = some v9 → w.cell? ((⟨p2, 0, none⟩ : Addr).add j9) = some v9)  {r : Bool} (h : wardmotelaw31_fails_1_p n a0 a1 a2 = some r) :
    Calls Tryd.prog 37 #[v0_0, .int .i64 a1, .pointer (some ⟨p2, 0, none⟩)] w (Gives w fun _ u => u = .bool r) := by
  unfold wardmotelaw31_fails_1_p at h
  have hS0 := St.start w
  refine MX.start Tryd.func37 rfl rfl rfl (fun _ cs0 hb0 => ?_)
  refine MX.seq ?_
  refine MX.region ?_
  refine RG.val' .plain (FV.assign rfl) rfl ?_
  refine RG.nil ?_
  refine MX.seq ?_
  refine MX.region ?_
  refine RG.val' .plain (FV.move rfl) rfl ?_
  have hl1 : a0.length ≤ 281474976710656 := Rep.lenle h0_0
  refine RG.val' .plain (FV.len (xs := a0) Tryd.underlying22 rfl h0_0) rfl ?_
  refine RG.val' .plain (FV.eqlN (i := a0.length) (j := 0) rfl rfl) rfl ?_
  refine RG.val' .plain (FV.move rfl) rfl ?_
  refine RG.ifd (s := 9) rfl h (fun c2 h => ?_) (fun c2 h => ?_)
  ·skip
   refine RG.val' (.yes rfl rfl) (FV.move rfl) rfl ?_
   refine RG.val' (.yes rfl rfl) (FV.load1 (by kernel_rfl) rfl ((fun j9 v9 h9 => hS0.ag.cell0 (m2 j9 v9 h9)) 0 _ rfl)) rfl ?_
   refine RG.val' (.yes rfl rfl) (FV.eql (i := a1) (j := a2) rfl rfl) rfl ?_
   refine RG.val' .plain (FV.pick_t rfl rfl) rfl ?_
   refine RG.val' .plain (FV.assign rfl) rfl ?_
   refine RG.nil ?_
   refine MX.ret rfl ?_
   refine RT.leave (u := .bool (decide (a1 = a2))) hb0 Tryd.func37 rfl (.cons (.tmp rfl) .nil) rfl ?_
   obtain rfl := Option.some.inj h
   exact ⟨hS0.ag, fun w9 hw9 => rfl⟩
  ·skip
   refine RG.off (.no rfl rfl) rfl ?_
   refine RG.off (.no rfl rfl) rfl ?_
   refine RG.off (.no rfl rfl) rfl ?_
   refine RG.val' .plain (FV.pick_f rfl rfl) rfl ?_
   refine RG.val' .plain (FV.assign rfl) rfl ?_
   refine RG.nil ?_
   refine MX.ret rfl ?_
   refine RT.leave (u := .bool false) hb0 Tryd.func37 rfl (.cons (.tmp rfl) .nil) rfl ?_
   obtain rfl := Option.some.inj h
   exact ⟨hS0.ag, fun w9 hw9 => rfl⟩
set_option maxRecDepth 4000 in
set_option maxHeartbeats 4000000 in
theorem wardmotelaw31_fails_c (n : Nat) (L : List Nat) (w : World) (hL : ∀ b ∈ L, b < w.heap.size) (a0 : Int)  :
    Calls Tryd.prog 19 #[.int .i64 a0] w (Gives w fun w' u => ∃ b5 : Nat, u = .func (.func 37) #[] #[.pointer (some ⟨b5, 0, none⟩)] ∧ St w w' [.cells b5 [.int .i64 a0] 27]) := by
  have hS0 := St.start w
  refine MX.start Tryd.func19 rfl rfl rfl (fun _ cs0 hb0 => ?_)
  refine MX.seq ?_
  refine MX.region ?_
  refine RG.new .plain rfl (Does.box (vs := [.int .i64 a0]) hS0 rfl rfl) (fun w2 b5 hS3 hT4 => ?_)
  refine RG.val' .plain (FV.assign rfl) rfl ?_
  refine RG.nil ?_
  refine MX.seq ?_
  refine MX.region ?_
  refine RG.val' .plain (FV.makeFunc (vs := []) (us := [.pointer (some ⟨b5, 0, none⟩)]) evs_nil (evs_cons rfl evs_nil)) rfl ?_
  refine RG.val' .plain (FV.assign rfl) rfl ?_
  refine RG.nil ?_
  refine MX.ret rfl ?_
  refine RT.leave (u := .func (.func 37) #[] #[.pointer (some ⟨b5, 0, none⟩)]) hb0 Tryd.func19 rfl (.cons (.tmp rfl) .nil) rfl ?_
  exact ⟨hS3.ag, fun w9 hw9 => ⟨b5, rfl, hS3.agree hw9⟩⟩
def tb12_6 : List (Nat × Nat × Nat) := [(0, 65536, 1), (0, 131072, 32), (3, 262144, 196608), (4, 524288, 262144), (0, 1048576, 2), (0, 2097152, 32), (48, 4194304, 3145728), (64, 8388608, 4194304), (136, 16777216, 8912896)]
def slices_Equal_int_int_l1 (_n : Nat) (a0 : List Int) (a1 : List Int) (J40 : Nat → Option (Bool ⊕ Unit)) : Nat → Option (Bool ⊕ Unit)
  | i32 => (if i32 < a0.length then (a0[i32]?).bind fun x45 => (a1[i32]?).bind fun x55 => (if x45 = x55 then J40 (i32 + 1) else some (.inl false)) else some (.inr ()))
def slices_Equal_int_int_p (n : Nat) (a0 : List Int) (a1 : List Int) : Option Bool :=
  (if a0.length = a1.length then thn (loopF (slices_Equal_int_int_l1 n a0 a1) n 0) (fun _ => some true) else some false)
set_option maxRecDepth 4000 in
set_option maxHeartbeats 4000000 in
theorem slices_Equal_int_int_c (n : Nat) (L : List Nat) (w : World) (hL : ∀ b ∈ L, b < w.heap.size) (a0 : List Int) {v0_0 : Value} (h0_0 : Rep.R w L [v0_0] a0) (a1 : List Int) {v1_0 : Value} (h1_0 : Rep.R w L [v1_0] a1)  {r : Bool} (h : slices_Equal_int_int_p n a0 a1 = some r) :
    Calls Tryd.prog 12 #[v0_0, v1_0] w (Gives w fun _ u => u = .bool r) := by
  unfold slices_Equal_int_int_p at h
  have hS0 := St.start w
  refine MX.start Tryd.func12 rfl rfl rfl (fun _ cs0 hb0 => ?_)
  refine MX.seq ?_
  refine MX.region ?_
  refine RG.val' .plain (FV.assign rfl) rfl ?_
  refine RG.nil ?_
  refine MX.seq ?_
  refine MX.seq ?_
  refine MX.region ?_
  refine RG.val' .plain (FV.move rfl) rfl ?_
  have hl1 : a0.length ≤ 281474976710656 := Rep.lenle h0_0
  refine RG.val' .plain (FV.len (xs := a0) Tryd.underlying22 rfl h0_0) rfl ?_
  refine RG.val' .plain (FV.move rfl) rfl ?_
  have hl2 : a1.length ≤ 281474976710656 := Rep.lenle h1_0
  refine RG.val' .plain (FV.len (xs := a1) Tryd.underlying22 rfl h1_0) rfl ?_
  refine RG.val' .plain (FV.neqN (i := a0.length) (j := a1.length) rfl rfl) rfl ?_
  refine RG.nil ?_
  refine MX.ifn rfl h (fun c3 h => ?_) (fun c3 h => ?_)
  ·skip
   refine MX.skip ?_
   refine MX.seq ?_
   refine MX.seq ?_
   refine MX.region ?_
   refine RG.val' .plain (FV.move rfl) rfl ?_
   refine RG.val' .plain (FV.len (xs := a0) Tryd.underlying22 rfl h0_0) rfl ?_
   refine RG.val' .plain (FV.move rfl) rfl ?_
   refine RG.nil ?_
   refine MX.block ?_
   obtain ⟨o38, ho37, hh39⟩ := thn_in h
   refine MX.loop (α := Nat) (fun i32 => [(0, v0_0), (1, v1_0), (12, .int .i64 ((a0.length : Nat) : Int)), (13, .int .i64 ((i32 : Nat) : Int))]) (fun i32 wx32 => St w wx32 [] ∧ Tr w [] wx32 []) (fun i32 => i32) 0 ho37 ⟨rfl, rfl, rfl, rfl, trivial⟩ ⟨hS0, Tr.refl _ _⟩ ?_
   rintro J40 i32 wx32 hJ41 ⟨hS33, hT34⟩ h
   unfold slices_Equal_int_int_l1 at h
   try dsimp only at h
   refine MX.seq ?_
   refine MX.region ?_
   refine RG.val' .plain (FV.lssN (i := i32) (j := a0.length) rfl rfl) rfl ?_
   refine RG.nil ?_
   refine MX.seq ?_
   refine MX.ifd rfl h (fun c42 h => ?_) (fun c42 h => ?_)
   ·skip
    refine MX.skip ?_
    refine MX.seq ?_
    refine MX.block ?_
    refine MX.seq ?_
    refine MX.region ?_
    refine RG.val' .plain (FV.move rfl) rfl ?_
    refine RG.val' .plain (FV.assign rfl) rfl ?_
    refine RG.nil ?_
    refine MX.seq ?_
    refine MX.drawT 9 tb12_6 (by kernel_rfl) (by kernel_rfl) (by kernel_rfl) (fun kt43 kp44 => ?_)
    refine RD.vP 0 1 kt43 rfl kp44 .plain (fun _ => FV.move rfl) rfl ?_
    refine RD.vP 1 3 kt43 rfl kp44 .plain (fun _ => FV.move rfl) rfl ?_
    obtain ⟨x45, hx45, h⟩ := bind_in h
    have hm53 := Rep.mv h0_0 hT34
    obtain ⟨A46, c47, he48, hk49, cs50, hr51, hm52⟩ := Rep.nth hm53 hx45
    have he54 : cs50 = [.int .i64 x45] := hr51; subst he54
    refine RD.vP 2 7 kt43 rfl kp44 .plain (fun _ => FV.idxAddr (m := 1) (i := i32) (by kernel_rfl) rfl he48 rfl rfl hk49) rfl ?_
    refine RD.val (i := 3) (m' := 15) (W := 256) (takeC_ok kt43 (by kernel_rfl)) rfl kp44 .plain (FV.load1 (by kernel_rfl) rfl (hm52 0 _ rfl)) rfl ?_
    refine RD.vP 4 31 kt43 rfl kp44 .plain (fun _ => FV.move rfl) rfl ?_
    refine RD.vP 5 63 kt43 rfl kp44 .plain (fun _ => FV.move rfl) rfl ?_
    obtain ⟨x55, hx55, h⟩ := bind_in h
    have hm63 := Rep.mv h1_0 hT34
    obtain ⟨A56, c57, he58, hk59, cs60, hr61, hm62⟩ := Rep.nth hm63 hx55
    have he64 : cs60 = [.int .i64 x55] := hr61; subst he64
    refine RD.vP 6 127 kt43 rfl kp44 .plain (fun _ => FV.idxAddr (m := 1) (i := i32) (by kernel_rfl) rfl he58 rfl rfl hk59) rfl ?_
    refine RD.val (i := 7) (m' := 255) (W := 256) (takeC_ok kt43 (by kernel_rfl)) rfl kp44 .plain (FV.load1 (by kernel_rfl) rfl (hm62 0 _ rfl)) rfl ?_
    refine RD.vP 8 511 kt43 rfl kp44 .plain (fun _ => FV.neq (i := x45) (j := x55) rfl rfl) rfl ?_
    refine RD.done (doneD_ok kt43 (by kernel_rfl)) ?_
    refine MX.ifn rfl h (fun c65 h => ?_) (fun c65 h => ?_)
    ·skip
     refine MX.skip ?_
     refine MX.inBlock ?_
     refine MX.region ?_
     refine RG.val' .plain (FV.addN (i := i32) (j := 1) rfl rfl (by omega)) rfl ?_
     refine RG.val' .plain (FV.move rfl) rfl ?_
     refine RG.nil ?_
     exact hJ41 (i32 + 1) _ _ ⟨rfl, rfl, rfl, rfl, trivial⟩ ⟨hS33, hT34⟩ h
    ·skip
     refine MX.seq ?_
     refine MX.region ?_
     refine RG.val' .plain (FV.assign rfl) rfl ?_
     refine RG.nil ?_
     have h := thn_inl h hh39
     refine MX.ret rfl ?_
     refine RT.leave (u := .bool false) hb0 Tryd.func12 rfl (.cons (.tmp rfl) .nil) rfl ?_
     obtain rfl := Option.some.inj h
     exact ⟨hS33.ag, fun w9 hw9 => rfl⟩
   ·skip
    refine MX.exit rfl ?_
    have h := thn_inr h hh39
    try dsimp only at h
    refine MX.seq ?_
    refine MX.region ?_
    refine RG.val' .plain (FV.assign rfl) rfl ?_
    refine RG.nil ?_
    refine MX.ret rfl ?_
    refine RT.leave (u := .bool true) hb0 Tryd.func12 rfl (.cons (.tmp rfl) .nil) rfl ?_
    obtain rfl := Option.some.inj h
    exact ⟨hS33.ag, fun w9 hw9 => rfl⟩
  ·skip
   refine MX.seq ?_
   refine MX.region ?_
   refine RG.val' .plain (FV.assign rfl) rfl ?_
   refine RG.nil ?_
   refine MX.ret rfl ?_
   refine RT.leave (u := .bool false) hb0 Tryd.func12 rfl (.cons (.tmp rfl) .nil) rfl ?_
   obtain rfl := Option.some.inj h
   exact ⟨hS0.ag, fun w9 hw9 => rfl⟩
theorem body12 : bodyB Tryd.prog 12 = true := by kernel_rfl
def wardmotelaw31_lists_1_p (n : Nat) (a0 : List Int) (a1 : Int) (a2 : List Int) : Option Bool :=
  (slices_Equal_int_int_p n a0 a2).bind fun y1 => (if y1 = true then some (decide (a1 = 0)) else some false)
set_option maxRecDepth 4000 in
set_option maxHeartbeats 4000000 in
theorem wardmotelaw31_lists_1_c (n : Nat) (L : List Nat) (w : World) (hL : ∀ b ∈ L, b < w.heap.size) (a0 : List Int) {v0_0 : Value} (h0_0 : Rep.R w L [v0_0] a0) (a1 : Int) (a2 : List Int) {v2_0 : Value} (h2_0 : Rep.R w L [v2_0] a2) {p2 : Nat} (m2 : ∀ j9 v9, ([v2_0] : List Value)[j9]? = some v9 → w.cell? ((⟨p2, 0, none⟩ : Addr).add j9) = some v9)  {r : Bool} (h : wardmotelaw31_lists_1_p n a0 a1 a2 = some r) :
    Calls Tryd.prog 38 #[v0_0, .int .i64 a1, .pointer (some ⟨p2, 0, none⟩)] w (Gives w fun _ u => u = .bool r) := by
  unfold wardmotelaw31_lists_1_p at h
  have hS0 := St.start w
  refine MX.start Tryd.func38 rfl rfl rfl (fun _ cs0 hb0 => ?_)
  refine MX.seq ?_
  refine MX.region ?_
  refine RG.val' .plain (FV.assign rfl) rfl ?_
  refine RG.nil ?_
  refine MX.seq ?_
  refine MX.region ?_
  refine RG.val' .plain (FV.move rfl) rfl ?_
  refine RG.val' .plain (FV.load1 (by kernel_rfl) rfl ((fun j9 v9 h9 => hS0.ag.cell0 (m2 j9 v9 h9)) 0 _ rfl)) rfl ?_
  obtain ⟨y1, hy1, h⟩ := bind_in h
  refine RG.callq' (v := .bool y1) (fst := []) (cap := []) .plain body12 rfl (evs_cons rfl (evs_cons rfl evs_nil)) (fun w9 hw9 => slices_Equal_int_int_c n _ w9 (hS0.hL0 hL hw9) a0 (Rep.keep0 (Rep.dropO (O := []) h0_0) hw9) a2 (Rep.keep0 (Rep.dropO (O := []) h2_0) hw9) hy1) rfl ?_
  refine RG.val' .plain (FV.move rfl) rfl ?_
  refine RG.ifb (s := 9) rfl h (fun c2 h => ?_) (fun c2 h => ?_)
  ·skip
   refine RG.val' (.yes rfl rfl) (FV.move rfl) rfl ?_
   refine RG.val' (.yes rfl rfl) (FV.eql (i := a1) (j := 0) rfl rfl) rfl ?_
   refine RG.val' .plain (FV.pick_t rfl rfl) rfl ?_
   refine RG.val' .plain (FV.assign rfl) rfl ?_
   refine RG.nil ?_
   refine MX.ret rfl ?_
   refine RT.leave (u := .bool (decide (a1 = 0))) hb0 Tryd.func38 rfl (.cons (.tmp rfl) .nil) rfl ?_
   obtain rfl := Option.some.inj h
   exact ⟨hS0.ag, fun w9 hw9 => rfl⟩
  ·skip
   refine RG.off (.no rfl rfl) rfl ?_
   refine RG.off (.no rfl rfl) rfl ?_
   refine RG.val' .plain (FV.pick_f rfl rfl) rfl ?_
   refine RG.val' .plain (FV.assign rfl) rfl ?_
   refine RG.nil ?_
   refine MX.ret rfl ?_
   refine RT.leave (u := .bool false) hb0 Tryd.func38 rfl (.cons (.tmp rfl) .nil) rfl ?_
   obtain rfl := Option.some.inj h
   exact ⟨hS0.ag, fun w9 hw9 => rfl⟩
set_option maxRecDepth 4000 in
set_option maxHeartbeats 4000000 in
theorem wardmotelaw31_lists_c (n : Nat) (L : List Nat) (w : World) (hL : ∀ b ∈ L, b < w.heap.size) (a0 : List Int) {v0_0 : Value} (h0_0 : Rep.R w L [v0_0] a0)  :
    Calls Tryd.prog 20 #[v0_0] w (Gives w fun w' u => ∃ b5 : Nat, u = .func (.func 38) #[] #[.pointer (some ⟨b5, 0, none⟩)] ∧ St w w' [.cells b5 [v0_0] 22]) := by
  have hS0 := St.start w
  refine MX.start Tryd.func20 rfl rfl rfl (fun _ cs0 hb0 => ?_)
  refine MX.seq ?_
  refine MX.region ?_
  refine RG.new .plain rfl (Does.box (vs := [v0_0]) hS0 rfl (Rep.c1 h0_0)) (fun w2 b5 hS3 hT4 => ?_)
  refine RG.val' .plain (FV.assign rfl) rfl ?_
  refine RG.nil ?_
  refine MX.seq ?_
  refine MX.region ?_
  refine RG.val' .plain (FV.makeFunc (vs := []) (us := [.pointer (some ⟨b5, 0, none⟩)]) evs_nil (evs_cons rfl evs_nil)) rfl ?_
  refine RG.val' .plain (FV.assign rfl) rfl ?_
  refine RG.nil ?_
  refine MX.ret rfl ?_
  refine RT.leave (u := .func (.func 38) #[] #[.pointer (some ⟨b5, 0, none⟩)]) hb0 Tryd.func20 rfl (.cons (.tmp rfl) .nil) rfl ?_
  exact ⟨hS3.ag, fun w9 hw9 => ⟨b5, rfl, hS3.agree hw9⟩⟩
theorem eql1U_37 (a b : UInt64) (w9 : World) : (do eqGuard .eql 37 (.tmp 0) (.tmp 0) (.agg #[.int .u64 (a.toNat : Int)]) (.agg #[.int .u64 (b.toNat : Int)]); binOp .eql 37 (.agg #[.int .u64 (a.toNat : Int)]) (.agg #[.int .u64 (b.toNat : Int)]) : Sem Value).run Tryd.prog w9 = .ok (.bool (decide (a = b))) w9 := eqStr1 Tryd.underlying37 rfl rfl (by kernel_rfl) Tryd.underlying35 (by kernel_rfl) (by kernel_rfl) a b _ _ w9
def wardmotelaw31_stops_1_p (_n : Nat) (a0 : List Int) (a1 : TChance) (a2 : Int) (a3 : Int) : Option Bool :=
  (if a0.length = 0 then (if a1.fState = (0 : UInt64) then some (decide (a2 = a3)) else some false) else some false)
set_option maxRecDepth 4000 in
set_option maxHeartbeats 4000000 in
theorem wardmotelaw31_stops_1_c (n : Nat) (L : List Nat) (w : World) (hL : ∀ b ∈ L, b < w.heap.size) (a0 : List Int) {v0_0 : Value} (h0_0 : Rep.R w L [v0_0] a0) (a1 : TChance) (a2 : Int) (a3 : Int) {p3 : Nat} (m3 : ∀ j9 v9, ([.int .i64 a3] : List Value)[j9]? = some v9 → w.cell? ((⟨p3, 0, none⟩ : Addr).add j9) = some v9)  {r : Bool} (h : wardmotelaw31_stops_1_p n a0 a1 a2 a3 = some r) :
    Calls Tryd.prog 39 #[v0_0, .agg #[.int .u64 (a1.fState.toNat : Int)], .int .i64 a2, .pointer (some ⟨p3, 0, none⟩)] w (Gives w fun _ u => u = .bool r) := by
  unfold wardmotelaw31_stops_1_p at h
  have hS0 := St.start w
  refine MX.start Tryd.func39 rfl rfl rfl (fun _ cs0 hb0 => ?_)
  refine MX.seq ?_
  refine MX.region ?_
  refine RG.new .plain rfl (Does.box (vs := [.int .u64 (a1.fState.toNat : Int)]) hS0 rfl rfl) (fun w2 b5 hS3 hT4 => ?_)
  refine RG.val' .plain (FV.assign rfl) rfl ?_
  refine RG.nil ?_
  refine MX.seq ?_
  refine MX.region ?_
  refine RG.val' .plain (FV.move rfl) rfl ?_
  have hm7 := Rep.mv h0_0 hT4
  have hl6 : a0.length ≤ 281474976710656 := Rep.lenle hm7
  refine RG.val' .plain (FV.len (xs := a0) Tryd.underlying22 rfl hm7) rfl ?_
  refine RG.val' .plain (FV.eqlN (i := a0.length) (j := 0) rfl rfl) rfl ?_
  refine RG.val' .plain (FV.move rfl) rfl ?_
  refine RG.ifd (s := 11) rfl h (fun c8 h => ?_) (fun c8 h => ?_)
  ·skip
   refine RG.val' (.yes rfl rfl) (FV.loadN (cs := [.int .u64 (a1.fState.toNat : Int)]) (by kernel_rfl) rfl (hS3.memA .hd)) rfl ?_
   refine RG.val' (.yes rfl rfl) (FV.buildV (vs := []) (u := .agg #[.int .u64 0]) evs_nil (fun w9 => by kernel_rfl)) rfl ?_
   refine RG.val' (.yes rfl rfl) (FV.eqlV (v := .agg #[.int .u64 (a1.fState.toNat : Int)]) (u := .agg #[.int .u64 0]) rfl rfl (eql1U_37 a1.fState (0 : UInt64))) rfl ?_
   refine RG.val' .plain (FV.pick_t rfl rfl) rfl ?_
   refine RG.val' .plain (FV.move rfl) rfl ?_
   refine RG.ifd (s := 16) rfl h (fun c9 h => ?_) (fun c9 h => ?_)
   ·skip
    refine RG.val' (.yes rfl rfl) (FV.move rfl) rfl ?_
    refine RG.val' (.yes rfl rfl) (FV.load1 (by kernel_rfl) rfl ((fun j9 v9 h9 => hS3.ag.cell0 (m3 j9 v9 h9)) 0 _ rfl)) rfl ?_
    refine RG.val' (.yes rfl rfl) (FV.eql (i := a2) (j := a3) rfl rfl) rfl ?_
    refine RG.val' .plain (FV.pick_t rfl rfl) rfl ?_
    refine RG.val' .plain (FV.assign rfl) rfl ?_
    refine RG.nil ?_
    refine MX.ret rfl ?_
    refine RT.leave (u := .bool (decide (a2 = a3))) hb0 Tryd.func39 rfl (.cons (.tmp rfl) .nil) rfl ?_
    obtain rfl := Option.some.inj h
    exact ⟨hS3.ag, fun w9 hw9 => rfl⟩
   ·skip
    refine RG.off (.no rfl rfl) rfl ?_
    refine RG.off (.no rfl rfl) rfl ?_
    refine RG.off (.no rfl rfl) rfl ?_
    refine RG.val' .plain (FV.pick_f rfl rfl) rfl ?_
    refine RG.val' .plain (FV.assign rfl) rfl ?_
    refine RG.nil ?_
    refine MX.ret rfl ?_
    refine RT.leave (u := .bool false) hb0 Tryd.func39 rfl (.cons (.tmp rfl) .nil) rfl ?_
    obtain rfl := Option.some.inj h
    exact ⟨hS3.ag, fun w9 hw9 => rfl⟩
  ·skip
   refine RG.off (.no rfl rfl) rfl ?_
   refine RG.off (.no rfl rfl) rfl ?_
   refine RG.off (.no rfl rfl) rfl ?_
   refine RG.val' .plain (FV.pick_f rfl rfl) rfl ?_
   refine RG.val' .plain (FV.move rfl) rfl ?_
   refine RG.off (.no rfl rfl) rfl ?_
   refine RG.off (.no rfl rfl) rfl ?_
   refine RG.off (.no rfl rfl) rfl ?_
   refine RG.val' .plain (FV.pick_f rfl rfl) rfl ?_
   refine RG.val' .plain (FV.assign rfl) rfl ?_
   refine RG.nil ?_
   refine MX.ret rfl ?_
   refine RT.leave (u := .bool false) hb0 Tryd.func39 rfl (.cons (.tmp rfl) .nil) rfl ?_
   obtain rfl := Option.some.inj h
   exact ⟨hS3.ag, fun w9 hw9 => rfl⟩
set_option maxRecDepth 4000 in
set_option maxHeartbeats 4000000 in
theorem wardmotelaw31_stops_c (n : Nat) (L : List Nat) (w : World) (hL : ∀ b ∈ L, b < w.heap.size) (a0 : Int)  :
    Calls Tryd.prog 21 #[.int .i64 a0] w (Gives w fun w' u => ∃ b5 : Nat, u = .func (.func 39) #[] #[.pointer (some ⟨b5, 0, none⟩)] ∧ St w w' [.cells b5 [.int .i64 a0] 27]) := by
  have hS0 := St.start w
  refine MX.start Tryd.func21 rfl rfl rfl (fun _ cs0 hb0 => ?_)
  refine MX.seq ?_
  refine MX.region ?_
  refine RG.new .plain rfl (Does.box (vs := [.int .i64 a0]) hS0 rfl rfl) (fun w2 b5 hS3 hT4 => ?_)
  refine RG.val' .plain (FV.assign rfl) rfl ?_
  refine RG.nil ?_
  refine MX.seq ?_
  refine MX.region ?_
  refine RG.val' .plain (FV.makeFunc (vs := []) (us := [.pointer (some ⟨b5, 0, none⟩)]) evs_nil (evs_cons rfl evs_nil)) rfl ?_
  refine RG.val' .plain (FV.assign rfl) rfl ?_
  refine RG.nil ?_
  refine MX.ret rfl ?_
  refine RT.leave (u := .func (.func 39) #[] #[.pointer (some ⟨b5, 0, none⟩)]) hb0 Tryd.func21 rfl (.cons (.tmp rfl) .nil) rfl ?_
  exact ⟨hS3.ag, fun w9 hw9 => ⟨b5, rfl, hS3.agree hw9⟩⟩
def wardmotelaw31_goes_1_p (n : Nat) (a0 : List Int) (a1 : TChance) (a2 : Int) (a3 : List Int) (a4 : TChance) : Option Bool :=
  (slices_Equal_int_int_p n a0 a3).bind fun y6 => (if y6 = true then (if a1.fState = a4.fState then some (decide (a2 = 0)) else some false) else some false)
set_option maxRecDepth 4000 in
set_option maxHeartbeats 4000000 in
theorem wardmotelaw31_goes_1_c (n : Nat) (L : List Nat) (w : World) (hL : ∀ b ∈ L, b < w.heap.size) (a0 : List Int) {v0_0 : Value} (h0_0 : Rep.R w L [v0_0] a0) (a1 : TChance) (a2 : Int) (a3 : List Int) {v3_0 : Value} (h3_0 : Rep.R w L [v3_0] a3) {p3 : Nat} (m3 : ∀ j9 v9, ([v3_0] : List Value)[j9]? = some v9 → w.cell? ((⟨p3, 0, none⟩ : Addr).add j9) = some v9) (a4 : TChance) {p4 : Nat} (m4 : ∀ j9 v9, ([.int .u64 (a4.fState.toNat : Int)] : List Value)[j9]? = some v9 → w.cell? ((⟨p4, 0, none⟩ : Addr).add j9) = some v9)  {r : Bool} (h : wardmotelaw31_goes_1_p n a0 a1 a2 a3 a4 = some r) :
    Calls Tryd.prog 40 #[v0_0, .agg #[.int .u64 (a1.fState.toNat : Int)], .int .i64 a2, .pointer (some ⟨p3, 0, none⟩), .pointer (some ⟨p4, 0, none⟩)] w (Gives w fun _ u => u = .bool r) := by
  unfold wardmotelaw31_goes_1_p at h
  have hS0 := St.start w
  refine MX.start Tryd.func40 rfl rfl rfl (fun _ cs0 hb0 => ?_)
  refine MX.seq ?_
  refine MX.region ?_
  refine RG.new .plain rfl (Does.box (vs := [.int .u64 (a1.fState.toNat : Int)]) hS0 rfl rfl) (fun w2 b5 hS3 hT4 => ?_)
  refine RG.val' .plain (FV.assign rfl) rfl ?_
  refine RG.nil ?_
  refine MX.seq ?_
  refine MX.region ?_
  refine RG.val' .plain (FV.move rfl) rfl ?_
  refine RG.val' .plain (FV.load1 (by kernel_rfl) rfl ((fun j9 v9 h9 => hS3.ag.cell0 (m3 j9 v9 h9)) 0 _ rfl)) rfl ?_
  obtain ⟨y6, hy6, h⟩ := bind_in h
  have hm7 := Rep.mv h0_0 hT4
  have hm8 := Rep.mv h3_0 hT4
  refine RG.callq' (v := .bool y6) (fst := []) (cap := []) .plain body12 rfl (evs_cons rfl (evs_cons rfl evs_nil)) (fun w9 hw9 => slices_Equal_int_int_c n _ w9 (hS3.hL0 hL hw9) a0 (Rep.keep0 (Rep.dropO (O := [.cells b5 [.int .u64 (a1.fState.toNat : Int)] 37]) hm7) hw9) a3 (Rep.keep0 (Rep.dropO (O := [.cells b5 [.int .u64 (a1.fState.toNat : Int)] 37]) hm8) hw9) hy6) rfl ?_
  refine RG.val' .plain (FV.move rfl) rfl ?_
  refine RG.ifb (s := 12) rfl h (fun c9 h => ?_) (fun c9 h => ?_)
  ·skip
   refine RG.val' (.yes rfl rfl) (FV.loadN (cs := [.int .u64 (a1.fState.toNat : Int)]) (by kernel_rfl) rfl (hS3.memA .hd)) rfl ?_
   refine RG.val' (.yes rfl rfl) (FV.loadN (cs := [.int .u64 (a4.fState.toNat : Int)]) (by kernel_rfl) rfl (fun j9 v9 h9 => hS3.ag.cell0 (m4 j9 v9 h9))) rfl ?_
   refine RG.val' (.yes rfl rfl) (FV.eqlV (v := .agg #[.int .u64 (a1.fState.toNat : Int)]) (u := .agg #[.int .u64 (a4.fState.toNat : Int)]) rfl rfl (eql1U_37 a1.fState a4.fState)) rfl ?_
   refine RG.val' .plain (FV.pick_t rfl rfl) rfl ?_
   refine RG.val' .plain (FV.move rfl) rfl ?_
   refine RG.ifd (s := 17) rfl h (fun c10 h => ?_) (fun c10 h => ?_)
   ·skip
    refine RG.val' (.yes rfl rfl) (FV.move rfl) rfl ?_
    refine RG.val' (.yes rfl rfl) (FV.eql (i := a2) (j := 0) rfl rfl) rfl ?_
    refine RG.val' .plain (FV.pick_t rfl rfl) rfl ?_
    refine RG.val' .plain (FV.assign rfl) rfl ?_
    refine RG.nil ?_
    refine MX.ret rfl ?_
    refine RT.leave (u := .bool (decide (a2 = 0))) hb0 Tryd.func40 rfl (.cons (.tmp rfl) .nil) rfl ?_
    obtain rfl := Option.some.inj h
    exact ⟨hS3.ag, fun w9 hw9 => rfl⟩
   ·skip
    refine RG.off (.no rfl rfl) rfl ?_
    refine RG.off (.no rfl rfl) rfl ?_
    refine RG.val' .plain (FV.pick_f rfl rfl) rfl ?_
    refine RG.val' .plain (FV.assign rfl) rfl ?_
    refine RG.nil ?_
    refine MX.ret rfl ?_
    refine RT.leave (u := .bool false) hb0 Tryd.func40 rfl (.cons (.tmp rfl) .nil) rfl ?_
    obtain rfl := Option.some.inj h
    exact ⟨hS3.ag, fun w9 hw9 => rfl⟩
  ·skip
   refine RG.off (.no rfl rfl) rfl ?_
   refine RG.off (.no rfl rfl) rfl ?_
   refine RG.off (.no rfl rfl) rfl ?_
   refine RG.val' .plain (FV.pick_f rfl rfl) rfl ?_
   refine RG.val' .plain (FV.move rfl) rfl ?_
   refine RG.off (.no rfl rfl) rfl ?_
   refine RG.off (.no rfl rfl) rfl ?_
   refine RG.val' .plain (FV.pick_f rfl rfl) rfl ?_
   refine RG.val' .plain (FV.assign rfl) rfl ?_
   refine RG.nil ?_
   refine MX.ret rfl ?_
   refine RT.leave (u := .bool false) hb0 Tryd.func40 rfl (.cons (.tmp rfl) .nil) rfl ?_
   obtain rfl := Option.some.inj h
   exact ⟨hS3.ag, fun w9 hw9 => rfl⟩
set_option maxRecDepth 4000 in
set_option maxHeartbeats 4000000 in
theorem wardmotelaw31_goes_c (n : Nat) (L : List Nat) (w : World) (hL : ∀ b ∈ L, b < w.heap.size) (a0 : TChance) (a1 : List Int) {v1_0 : Value} (h1_0 : Rep.R w L [v1_0] a1)  :
    Calls Tryd.prog 22 #[.agg #[.int .u64 (a0.fState.toNat : Int)], v1_0] w (Gives w fun w' u => ∃ b11 b5 : Nat, u = .func (.func 40) #[] #[.pointer (some ⟨b11, 0, none⟩), .pointer (some ⟨b5, 0, none⟩)] ∧ St w w' [.cells b11 [v1_0] 22, .cells b5 [.int .u64 (a0.fState.toNat : Int)] 37]) := by
  have hS0 := St.start w
  refine MX.start Tryd.func22 rfl rfl rfl (fun _ cs0 hb0 => ?_)
  refine MX.seq ?_
  refine MX.region ?_
  refine RG.new .plain rfl (Does.box (vs := [.int .u64 (a0.fState.toNat : Int)]) hS0 rfl rfl) (fun w2 b5 hS3 hT4 => ?_)
  have hm7 := Rep.mv h1_0 hT4
  refine RG.new .plain rfl (Does.box (vs := [v1_0]) hS3 rfl (Rep.c1 hm7)) (fun w8 b11 hS9 hT10 => ?_)
  refine RG.val' .plain (FV.assign rfl) rfl ?_
  refine RG.nil ?_
  refine MX.seq ?_
  refine MX.region ?_
  refine RG.val' .plain (FV.makeFunc (vs := []) (us := [.pointer (some ⟨b11, 0, none⟩), .pointer (some ⟨b5, 0, none⟩)]) evs_nil (evs_cons rfl (evs_cons rfl evs_nil))) rfl ?_
  refine RG.val' .plain (FV.assign rfl) rfl ?_
  refine RG.nil ?_
  refine MX.ret rfl ?_
  refine RT.leave (u := .func (.func 40) #[] #[.pointer (some ⟨b11, 0, none⟩), .pointer (some ⟨b5, 0, none⟩)]) hb0 Tryd.func22 rfl (.cons (.tmp rfl) .nil) rfl ?_
  exact ⟨hS9.ag, fun w9 hw9 => ⟨b11, b5, rfl, hS9.agree hw9⟩⟩
end Go.Proofs.YtplkfbljncfdnaaDoor
