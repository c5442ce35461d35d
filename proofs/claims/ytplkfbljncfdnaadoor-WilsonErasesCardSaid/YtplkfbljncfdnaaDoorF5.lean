/- Functions of the program, and what they give: part 5. -/
import Derived.Test.YtplkfbljncfdnaaDoorF4
namespace Go.Proofs.YtplkfbljncfdnaaDoor
open Go Go.RowKit

def tb15_19 : List (Nat × Nat × Nat) := [(0, 1267650600228229401496703205376, 1024), (0, 2535301200456458802993406410752, 524288), (2, 5070602400912917605986812821504, 2535301200456458802993406410752), (4, 10141204801825835211973625643008, 5070602400912917605986812821504), (8, 20282409603651670423947251286016, 10141204801825835211973625643008), (1, 1024, 1267650600228229401496703205376), (63, 0, 20282409603651670423947251288064), (127, 4096, 0)]
theorem body24 : bodyB Tryd.prog 24 = true := by kernel_rfl
def wilson_Walk_l1 (n : Nat) (J1007 : UInt64 × (List Int) → Option (List Int)) : UInt64 × (List Int) → Option (List Int)
  | (u995, xs996) => (if u995 = (0 : UInt64) then some xs996 else (math_bits_TrailingZeros64_p n u995).bind fun y1079 => (app xs996 ([y1079] : List Int)).bind fun xs1091 => J1007 (u995 &&& (u995 - (1 : UInt64)), xs1091))
def wilson_Walk_l2 (n : Nat) (a0 : TGraph) (z752 : Int) (J882 : UInt64 × Nat → Option UInt64) : UInt64 × Nat → Option UInt64
  | (u873, i874) => (if i874 < a0.fEdges.length then (a0.fEdges[i874]?).bind fun x885 => (if x885.1 = z752 then (chk (x885.1 + x885.2)).bind fun s903 => (chk (s903 - z752)).bind fun s904 => (natOf s904).bind fun k905 => J882 (u873 ||| (shlU (1 : UInt64) k905), i874 + 1) else jn (fun u912 => J882 (u912, i874 + 1)) (fun J916 => (if x885.2 = z752 then (chk (x885.1 + x885.2)).bind fun s919 => (chk (s919 - z752)).bind fun s920 => (natOf s920).bind fun k921 => J916 (u873 ||| (shlU (1 : UInt64) k921)) else J916 u873))) else some u873)
def wilson_Walk_l3 (n : Nat) (a3 : UInt64) (a0 : TGraph) (a1 : UInt64) (J766 : Int × (List Int) × UInt64 × Int → Option (((List Int) × TChance × Int) ⊕ ((List Int) × UInt64))) : Int × (List Int) × UInt64 × Int → Option (((List Int) × TChance × Int) ⊕ ((List Int) × UInt64))
  | (z752, xs753, u757, z758) => (natOf z752).bind fun k768 => (if ((shrU a3 k768) &&& (1 : UInt64)) = (1 : UInt64) then some (.inr (xs753, u757)) else (if z758 = 0 then some (.inl (([] : List Int), (⟨(0 : UInt64)⟩ : TChance), 9)) else (chk (z758 - 1)).bind fun s786 => Option.bind (loopF (wilson_Walk_l2 n a0 z752) n ((0 : UInt64), 0)) (fun u873 => Option.bind (loopF (wilson_Walk_l1 n) n (u873 &&& a1, ([] : List Int))) (fun xs996 => (chance_Below_p n (⟨u757⟩ : TChance) ((xs996.length : Nat) : Int)).bind fun y1028 => (if y1028.2.2 = 0 then (idx xs996 y1028.1).bind fun x1041 => (app xs753 ([x1041] : List Int)).bind fun xs1062 => J766 (x1041, xs1062, y1028.2.1.fState, s786) else some (.inl (([] : List Int), (⟨(0 : UInt64)⟩ : TChance), y1028.2.2)))))))
def wilson_Walk_l4 (n : Nat) (y38 : (List Int) × Int) (a3 : UInt64) (J75 : Bool × Nat → Option Bool) : Bool × Nat → Option Bool
  | (q66, i67) => (if i67 < y38.1.length then (y38.1[i67]?).bind fun x78 => (if q66 = true then J75 (true, i67 + 1) else (if 0 ≤ x78 then J75 ((decide (((shrU a3 i67) &&& (1 : UInt64)) = (1 : UInt64))), i67 + 1) else J75 (false, i67 + 1))) else some q66)
def wilson_Walk_p (n : Nat) (a0 : TGraph) (a1 : UInt64) (a2 : Int) (a3 : UInt64) (a4 : TChance) : Option ((List Int) × TChance × Int) :=
  (graph_Check_p n a0).bind fun y16 => (if y16 = 0 then jn (fun q26 => (if q26 = true then some (([] : List Int), (⟨(0 : UInt64)⟩ : TChance), 2) else (graph_Distances_p n a0 a1 a2).bind fun y38 => Option.bind (loopF (wilson_Walk_l4 n y38 a3) n (false, 0)) (fun q66 => (if q66 = true then thn (loopF (wilson_Walk_l3 n a3 a0 a1) n (a2, ([a2] : List Int), a4.fState, 10000)) (fun (xs753, u757) => some (xs753, (⟨u757⟩ : TChance), 0)) else some (([] : List Int), (⟨(0 : UInt64)⟩ : TChance), 4))))) (fun J30 => (wilson_fits_p n a0 a1).bind fun y1114 => (if y1114 = true then (wilson_fits_p n a0 a3).bind fun y1116 => (if y1116 = true then (if a2 < 0 then J30 true else (if a0.fN ≤ a2 then J30 true else (natOf a2).bind fun k1120 => J30 (decide (((shrU a1 k1120) &&& (1 : UInt64)) = (0 : UInt64))))) else J30 true) else J30 true)) else some (([] : List Int), (⟨(0 : UInt64)⟩ : TChance), y16))
set_option maxRecDepth 4000 in
set_option maxHeartbeats 4000000 in
theorem wilson_Walk_c (n : Nat) (L : List Nat) (w : World) (hL : ∀ b ∈ L, b < w.heap.size) (a0 : TGraph) {v0_1 : Value} (h0_1 : Rep.R w L [v0_1] a0.fEdges) (a1 : UInt64) (a2 : Int) (a3 : UInt64) (a4 : TChance) (hG0 : Glob 0 tab0 w)  {r : (List Int) × TChance × Int} (h : wilson_Walk_p n a0 a1 a2 a3 a4 = some r) :
    Calls Tryd.prog 15 #[.agg #[.int .i64 a0.fN, v0_1], .int .u64 (a1.toNat : Int), .int .i64 a2, .int .u64 (a3.toNat : Int), .agg #[.int .u64 (a4.fState.toNat : Int)]] w (Gives w fun w' u => ∃ v0_0 : Value, u = .tuple #[v0_0, .agg #[.int .u64 (r.2.1.fState.toNat : Int)], .int .i64 r.2.2] ∧ Rep.R w' L [v0_0] r.1) := by
  unfold wilson_Walk_p at h
  have hS0 := St.start w
  refine MX.start Tryd.func15 rfl rfl rfl (fun _ cs0 hb0 => ?_)
  refine MX.seq ?_
  refine MX.region ?_
  refine RG.new .plain rfl (Does.box (vs := [.int .i64 a0.fN, v0_1]) hS0 rfl rfl) (fun w2 b5 hS3 hT4 => ?_)
  refine RG.new .plain rfl (Does.box (vs := [.int .u64 (a4.fState.toNat : Int)]) hS3 rfl rfl) (fun w7 b10 hS8 hT9 => ?_)
  refine RG.val' .plain (FV.assign rfl) rfl ?_
  refine RG.new .plain rfl (Does.alloc (zs := [.int .u64 0]) hS8 (zB (by kernel_rfl))) (fun w12 b15 hS13 hT14 => ?_)
  refine RG.val' .plain (FV.assign rfl) rfl ?_
  refine RG.nil ?_
  refine MX.seq ?_
  refine MX.seq ?_
  refine MX.region ?_
  refine RG.val' .plain (FV.loadN (cs := [.int .i64 a0.fN, v0_1]) (by kernel_rfl) rfl (hS13.memA (.tl (.tl .hd)))) rfl ?_
  obtain ⟨y16, hy16, h⟩ := bind_in h
  have hm17 := Rep.mv h0_1 (Tr.trans hT4 (Tr.trans hT9 hT14))
  refine RG.callq' (v := .int .i64 y16) (fst := []) (cap := []) .plain body32 rfl (evs_cons rfl evs_nil) (fun w9 hw9 => graph_Check_c n _ w9 (hS13.hL0 hL hw9) a0 (Rep.keep0 (Rep.dropO (O := [.cells b15 [.int .u64 0] 37, .cells b10 [.int .u64 (a4.fState.toNat : Int)] 37, .cells b5 [.int .i64 a0.fN, v0_1] 40]) hm17) hw9) hy16) rfl ?_
  refine RG.val' .plain (FV.assign rfl) rfl ?_
  refine RG.nil ?_
  refine MX.seq ?_
  refine MX.region ?_
  refine RG.val' .plain (FV.move rfl) rfl ?_
  refine RG.val' .plain (FV.neq (i := y16) (j := 0) rfl rfl) rfl ?_
  refine RG.nil ?_
  refine MX.ifn rfl h (fun c18 h => ?_) (fun c18 h => ?_)
  · skip
    refine MX.skip ?_
    refine MX.seq ?_
    refine MX.seq ?_
    refine MX.join (α := Bool) (fun q26 => [(1, .int .u64 (a1.toNat : Int)), (2, .int .i64 a2), (3, .int .u64 (a3.toNat : Int)), (5, .pointer (some ⟨b5, 0, none⟩)), (9, .pointer (some ⟨b10, 0, none⟩)), (11, .pointer (some ⟨b15, 0, none⟩)), (52, .bool q26)]) (fun q26 wx26 => St w wx26 [.cells b15 [.int .u64 0] 37, .cells b10 [.int .u64 (a4.fState.toNat : Int)] 37, .cells b5 [.int .i64 a0.fN, v0_1] 40] ∧ Tr w12 [.cells b15 [.int .u64 0] 37, .cells b10 [.int .u64 (a4.fState.toNat : Int)] 37, .cells b5 [.int .i64 a0.fN, v0_1] 40] wx26 [.cells b15 [.int .u64 0] 37, .cells b10 [.int .u64 (a4.fState.toNat : Int)] 37, .cells b5 [.int .i64 a0.fN, v0_1] 40]) (fun q26 => q26) h ?_ ?_
    · skip
      rintro q26 wx26 ⟨hS27, hT28⟩ h
      try dsimp only at h
      refine MX.ifb rfl h (fun c32 h => ?_) (fun c32 h => ?_)
      · skip
        refine MX.seq ?_
        refine MX.region ?_
        refine RG.val' .plain (FV.buildV (vs := []) (u := .agg #[.int .u64 0]) evs_nil (fun w9 => by kernel_rfl)) rfl ?_
        refine RG.val' .plain (FV.assign rfl) rfl ?_
        refine RG.now .plain (Acts.store (j := 0) (old := [.int .u64 0]) (news := [.int .u64 0]) (new' := [.int .u64 0]) hS27 .hd rfl rfl rfl rfl rfl rfl (ones_cons rfl ones_nil) rfl) (fun w33 hS34 hT35 => ?_)
        refine RG.val' .plain (FV.assign rfl) rfl ?_
        refine RG.nil ?_
        refine MX.ret rfl ?_
        have hr36 : Rep.R w33 (bl [.cells b15 [.int .u64 0] 37, .cells b10 [.int .u64 (a4.fState.toNat : Int)] 37, .cells b5 [.int .i64 a0.fN, v0_1] 40] ++ L) [.slice none 0 0] ([] : List Int) := Rep.nilSlice _ _
        refine RT.leave (u := .tuple #[.slice none 0 0, .agg #[.int .u64 0], .int .i64 2]) hb0 Tryd.func15 rfl (.cons (.tmp rfl) (.cons (.many (cs := [.int .u64 0]) (by kernel_rfl) rfl (hS34.memA .hd)) (.cons (.tmp rfl) .nil))) rfl ?_
        obtain rfl := Option.some.inj h
        have hr37 : Rep.R w33 (bl [.cells b15 [.int .u64 0] 37, .cells b10 [.int .u64 (a4.fState.toNat : Int)] 37, .cells b5 [.int .i64 a0.fN, v0_1] 40] ++ L) [.slice none 0 0] ([] : List Int) := Rep.nilSlice _ _
        exact ⟨hS34.ag, fun w9 hw9 => ⟨(.slice none 0 0), rfl, Rep.keep0 (Rep.dropO (O := [.cells b15 [.int .u64 0] 37, .cells b10 [.int .u64 (a4.fState.toNat : Int)] 37, .cells b5 [.int .i64 a0.fN, v0_1] 40]) hr37) hw9⟩⟩
      · skip
        refine MX.skip ?_
        refine MX.seq ?_
        refine MX.region ?_
        refine RG.val' .plain (FV.loadN (cs := [.int .i64 a0.fN, v0_1]) (by kernel_rfl) rfl (hS27.memA (.tl (.tl .hd)))) rfl ?_
        refine RG.val' .plain (FV.move rfl) rfl ?_
        refine RG.val' .plain (FV.move rfl) rfl ?_
        obtain ⟨y38, hy38, h⟩ := bind_in h
        have hm39 := Rep.mv h0_1 (Tr.trans hT4 (Tr.trans hT9 (Tr.trans hT14 hT28)))
        refine RG.call' (fst := []) (cap := []) .plain body24 rfl (evs_cons rfl (evs_cons rfl (evs_cons rfl evs_nil))) (fun w9 hw9 => graph_Distances_c n _ w9 (hS27.hL hL hw9) a0 (Rep.keep0 hm39 hw9) a1 a2 (hG0.keep (hS27.ag.trans hw9)) hy38) rfl (fun w40 vu41 hag42 ⟨v45, hu_, hr46⟩ => ?_)
        subst hu_
        have hS43 := hS27.agree hag42
        have hT44 := Tr.agree (O := [.cells b15 [.int .u64 0] 37, .cells b10 [.int .u64 (a4.fState.toNat : Int)] 37, .cells b5 [.int .i64 a0.fN, v0_1] 40]) hag42
        refine RG.val' .plain (FV.move rfl) rfl ?_
        refine RG.val' .plain (FV.extract rfl rfl) rfl ?_
        refine RG.val' .plain (FV.extract rfl rfl) rfl ?_
        refine RG.val' .plain (FV.assign rfl) rfl ?_
        refine RG.val' .plain (FV.assign rfl) rfl ?_
        refine RG.nil ?_
        refine MX.seq ?_
        refine MX.region ?_
        refine RG.val' .plain (FV.assign rfl) rfl ?_
        refine RG.nil ?_
        refine MX.seq ?_
        refine MX.seq ?_
        refine MX.region ?_
        refine RG.val' .plain (FV.move rfl) rfl ?_
        have hl47 : y38.1.length ≤ 281474976710656 := Rep.lenle hr46
        refine RG.val' .plain (FV.len (xs := y38.1) Tryd.underlying22 rfl hr46) rfl ?_
        refine RG.val' .plain (FV.move rfl) rfl ?_
        refine RG.nil ?_
        refine MX.block ?_
        obtain ⟨o73, ho72, hh74⟩ := bind_in2 h
        refine MX.loop (α := Bool × Nat) (fun ⟨q66, i67⟩ => [(1, .int .u64 (a1.toNat : Int)), (2, .int .i64 a2), (3, .int .u64 (a3.toNat : Int)), (5, .pointer (some ⟨b5, 0, none⟩)), (9, .pointer (some ⟨b10, 0, none⟩)), (11, .pointer (some ⟨b15, 0, none⟩)), (16, .bool q66), (61, v45), (62, .int .i64 ((y38.1.length : Nat) : Int)), (63, .int .i64 ((i67 : Nat) : Int))]) (fun ⟨q66, i67⟩ wx67 => St w wx67 [.cells b15 [.int .u64 0] 37, .cells b10 [.int .u64 (a4.fState.toNat : Int)] 37, .cells b5 [.int .i64 a0.fN, v0_1] 40] ∧ Tr w40 [.cells b15 [.int .u64 0] 37, .cells b10 [.int .u64 (a4.fState.toNat : Int)] 37, .cells b5 [.int .i64 a0.fN, v0_1] 40] wx67 [.cells b15 [.int .u64 0] 37, .cells b10 [.int .u64 (a4.fState.toNat : Int)] 37, .cells b5 [.int .i64 a0.fN, v0_1] 40]) (fun ⟨q66, i67⟩ => (q66, i67)) (false, 0) ho72 ⟨rfl, rfl, rfl, rfl, rfl, rfl, rfl, rfl, rfl, rfl, trivial⟩ ⟨hS43, Tr.refl _ _⟩ ?_
        rintro J75 ⟨q66, i67⟩ wx67 hJ76 ⟨hS68, hT69⟩ h
        unfold wilson_Walk_l4 at h
        try dsimp only at h
        refine MX.seq ?_
        refine MX.region ?_
        refine RG.val' .plain (FV.lssN (i := i67) (j := y38.1.length) rfl rfl) rfl ?_
        refine RG.nil ?_
        refine MX.seq ?_
        refine MX.ifd rfl h (fun c77 h => ?_) (fun c77 h => ?_)
        · skip
          refine MX.skip ?_
          refine MX.seq ?_
          refine MX.block ?_
          refine MX.seq ?_
          refine MX.region ?_
          refine RG.val' .plain (FV.move rfl) rfl ?_
          obtain ⟨x78, hx78, h⟩ := bind_in h
          have hm86 := Rep.mv hr46 hT69
          obtain ⟨A79, c80, he81, hk82, cs83, hr84, hm85⟩ := Rep.nth hm86 hx78
          have he87 : cs83 = [.int .i64 x78] := hr84; subst he87
          refine RG.val' .plain (FV.idxAddr (m := 1) (i := i67) (by kernel_rfl) rfl he81 rfl rfl hk82) rfl ?_
          refine RG.val' .plain (FV.load1 (by kernel_rfl) rfl (hm85 0 _ rfl)) rfl ?_
          refine RG.val' .plain (FV.assign rfl) rfl ?_
          refine RG.val' .plain (FV.assign rfl) rfl ?_
          refine RG.nil ?_
          refine MX.region ?_
          refine RG.val' .plain (FV.move rfl) rfl ?_
          refine RG.val' .plain (FV.move rfl) rfl ?_
          refine RG.ifb (s := 69) rfl h (fun c88 h => ?_) (fun c88 h => ?_)
          · skip
            refine RG.off (.no rfl rfl) rfl ?_
            refine RG.off (.no rfl rfl) rfl ?_
            refine RG.off (.no rfl rfl) rfl ?_
            refine RG.off (.undef rfl rfl) rfl ?_
            refine RG.off (.undef rfl rfl) rfl ?_
            refine RG.off (.undef rfl rfl) rfl ?_
            refine RG.off (.undef rfl rfl) rfl ?_
            refine RG.off (.undef rfl rfl) rfl ?_
            refine RG.off (.no rfl rfl) rfl ?_
            refine RG.val' .plain (FV.pick_t rfl rfl) rfl ?_
            refine RG.val' .plain (FV.assign rfl) rfl ?_
            refine RG.nil ?_
            refine MX.inBlock ?_
            refine MX.region ?_
            refine RG.val' .plain (FV.addN (i := i67) (j := 1) rfl rfl (by omega)) rfl ?_
            refine RG.val' .plain (FV.move rfl) rfl ?_
            refine RG.nil ?_
            exact hJ76 (true, i67 + 1) _ _ ⟨rfl, rfl, rfl, rfl, rfl, rfl, rfl, rfl, rfl, rfl, trivial⟩ ⟨hS68, hT69⟩ h
          · skip
            refine RG.val' (.yes rfl rfl) (FV.move rfl) rfl ?_
            refine RG.val' (.yes rfl rfl) (FV.geq (i := x78) (j := 0) rfl rfl) rfl ?_
            refine RG.val' (.yes rfl rfl) (FV.move rfl) rfl ?_
            refine RG.ifd (s := 72) rfl h (fun c89 h => ?_) (fun c89 h => ?_)
            · skip
              refine RG.val' (.yes rfl rfl) (FV.move rfl) rfl ?_
              refine RG.val' (.yes rfl rfl) (FV.move rfl) rfl ?_
              refine RG.val' (.yes rfl rfl) (FV.shrU (a := a3) (j := i67) rfl rfl) rfl ?_
              refine RG.val' (.yes rfl rfl) (FV.andU (a := shrU a3 i67) (b := (1 : UInt64)) rfl rfl) rfl ?_
              refine RG.val' (.yes rfl rfl) (FV.eqlU (a := (shrU a3 i67) &&& (1 : UInt64)) (b := (1 : UInt64)) rfl rfl) rfl ?_
              refine RG.val' (.yes rfl rfl) (FV.pick_t rfl rfl) rfl ?_
              refine RG.val' .plain (FV.pick_f rfl rfl) rfl ?_
              refine RG.val' .plain (FV.assign rfl) rfl ?_
              refine RG.nil ?_
              refine MX.inBlock ?_
              refine MX.region ?_
              refine RG.val' .plain (FV.addN (i := i67) (j := 1) rfl rfl (by omega)) rfl ?_
              refine RG.val' .plain (FV.move rfl) rfl ?_
              refine RG.nil ?_
              exact hJ76 ((decide (((shrU a3 i67) &&& (1 : UInt64)) = (1 : UInt64))), i67 + 1) _ _ ⟨rfl, rfl, rfl, rfl, rfl, rfl, rfl, rfl, rfl, rfl, trivial⟩ ⟨hS68, hT69⟩ h
            · skip
              refine RG.off (.no rfl rfl) rfl ?_
              refine RG.off (.no rfl rfl) rfl ?_
              refine RG.off (.no rfl rfl) rfl ?_
              refine RG.off (.no rfl rfl) rfl ?_
              refine RG.off (.no rfl rfl) rfl ?_
              refine RG.val' (.yes rfl rfl) (FV.pick_f rfl rfl) rfl ?_
              refine RG.val' .plain (FV.pick_f rfl rfl) rfl ?_
              refine RG.val' .plain (FV.assign rfl) rfl ?_
              refine RG.nil ?_
              refine MX.inBlock ?_
              refine MX.region ?_
              refine RG.val' .plain (FV.addN (i := i67) (j := 1) rfl rfl (by omega)) rfl ?_
              refine RG.val' .plain (FV.move rfl) rfl ?_
              refine RG.nil ?_
              exact hJ76 (false, i67 + 1) _ _ ⟨rfl, rfl, rfl, rfl, rfl, rfl, rfl, rfl, rfl, rfl, trivial⟩ ⟨hS68, hT69⟩ h
        · skip
          refine MX.exit rfl ?_
          have h := hh74 _ h
          try dsimp only at h
          refine MX.seq ?_
          refine MX.seq ?_
          refine MX.region ?_
          refine RG.val' .plain (FV.move rfl) rfl ?_
          refine RG.val' .plain (FV.not rfl) rfl ?_
          refine RG.nil ?_
          refine MX.ifnb rfl h (fun c90 h => ?_) (fun c90 h => ?_)
          · skip
            refine MX.skip ?_
            refine MX.seq ?_
            refine MX.region ?_
            refine RG.val' .plain (FV.loadN (cs := [.int .u64 (a4.fState.toNat : Int)]) (by kernel_rfl) rfl (hS68.memA (.tl .hd))) rfl ?_
            refine RG.val' .plain (FV.loadN (cs := [.int .i64 a0.fN, v0_1]) (by kernel_rfl) rfl (hS68.memA (.tl (.tl .hd)))) rfl ?_
            refine RG.val' .plain (FV.move rfl) rfl ?_
            refine RG.val' .plain (FV.buildV (vs := [.agg #[.int .u64 (a4.fState.toNat : Int)], .agg #[.int .i64 a0.fN, v0_1], .int .u64 (a1.toNat : Int), .int .i64 10000]) (u := .agg #[.int .u64 (a4.fState.toNat : Int), .int .i64 a0.fN, v0_1, .int .u64 (a1.toNat : Int), .int .i64 10000]) (evs_cons rfl (evs_cons rfl (evs_cons rfl (evs_cons rfl evs_nil)))) (fun w9 => by kernel_rfl)) rfl ?_
            refine RG.new .plain rfl (Does.box (vs := [.int .u64 (a4.fState.toNat : Int), .int .i64 a0.fN, v0_1, .int .u64 (a1.toNat : Int), .int .i64 10000]) hS68 rfl rfl) (fun w92 b95 hS93 hT94 => ?_)
            refine RG.val' .plain (FV.assign rfl) rfl ?_
            refine RG.nil ?_
            refine MX.seq ?_
            refine MX.seq ?_
            refine MX.region ?_
            refine RG.val' .plain (FV.move rfl) rfl ?_
            refine RG.val' .plain (FV.move rfl) rfl ?_
            refine RG.val' .plain (FV.move rfl) rfl ?_
            refine RG.enter (fst := []) (cap := []) (vs := [.pointer (some ⟨b95, 0, none⟩), .int .i64 a2, .int .u64 (a3.toNat : Int)]) .plain body34 Tryd.func34 rfl rfl rfl rfl (evs_cons rfl (evs_cons rfl (evs_cons rfl evs_nil))) rfl (fun cs97 hb96 => ?_)
            refine MX.seq ?_
            refine MX.region ?_
            refine RG.val' .plain (FV.assign rfl) rfl ?_
            refine RG.val' .plain (FV.assign rfl) rfl ?_
            refine RG.nil ?_
            refine MX.scope ?_
            refine MX.seq ?_
            refine MX.region ?_
            refine RG.val' .plain (FV.move rfl) rfl ?_
            refine RG.new .plain rfl (Does.build (α := Int) (xs := ([a2] : List Int)) (vs := [.int .i64 a2]) (ds' := [.int .i64 a2]) rfl hS93 el22 rfl (evs_cons rfl evs_nil) (by kernel_rfl) rfl) (fun w99 b102 hS100 hT101 => ?_)
            have hc103 : Cells w99 (bl [.row w.heap.size 3 (Rep.size Int) (.slice (some ⟨b102, 0, none⟩) 1 1) (([a2] : List Int).length) [.int .i64 a2], .cells b95 [.int .u64 (a4.fState.toNat : Int), .int .i64 a0.fN, v0_1, .int .u64 (a1.toNat : Int), .int .i64 10000] 74, .cells b15 [.int .u64 0] 37, .cells b10 [.int .u64 (a4.fState.toNat : Int)] 37, .cells b5 [.int .i64 a0.fN, v0_1] 40] ++ L) [.int .i64 a2] (([a2] : List Int) : List Int) := Cells.cons (cs := [.int .i64 a2]) (ds := []) rfl (Cells.nil _ _)
            refine RG.val' .plain (FV.assign rfl) rfl ?_
            refine RG.nil ?_
            refine MX.seq ?_
            refine MX.region ?_
            refine RG.val' .plain (FV.move rfl) rfl ?_
            refine RG.val' .plain (FV.makeFunc (vs := [.pointer (some ⟨b95, 0, none⟩)]) (us := []) (evs_cons rfl evs_nil) evs_nil) rfl ?_
            refine RG.val' .plain (FV.assign rfl) rfl ?_
            refine RG.nil ?_
            refine MX.seq ?_
            refine MX.label ?_
            refine MX.seq ?_
            refine MX.seq ?_
            refine MX.region ?_
            refine RG.val' .plain (FV.move rfl) rfl ?_
            refine RG.val' .plain (FV.assign rfl) rfl ?_
            refine RG.nil ?_
            refine MX.block ?_
            obtain ⟨o764, ho763, hh765⟩ := thn_in h
            refine MX.loop (α := Int × (List Int) × UInt64 × Int × Value × (List Value)) (fun ⟨z752, xs753, u757, z758, v756, cs754⟩ => [(0, .pointer (some ⟨b95, 0, none⟩)), (2, .int .u64 (a3.toNat : Int)), (8, v756), (9, .func (.func 61) #[.pointer (some ⟨b95, 0, none⟩)] #[]), (10, .int .i64 z752)]) (fun ⟨z752, xs753, u757, z758, v756, cs754⟩ wx758 => St w wx758 [.row w.heap.size 3 (Rep.size Int) v756 xs753.length cs754, .cells b95 [.int .u64 (u757.toNat : Int), .int .i64 a0.fN, v0_1, .int .u64 (a1.toNat : Int), .int .i64 z758] 74, .cells b15 [.int .u64 0] 37, .cells b10 [.int .u64 (a4.fState.toNat : Int)] 37, .cells b5 [.int .i64 a0.fN, v0_1] 40] ∧ Tr w99 [.row w.heap.size 3 (Rep.size Int) (.slice (some ⟨b102, 0, none⟩) 1 1) (([a2] : List Int).length) [.int .i64 a2], .cells b95 [.int .u64 (a4.fState.toNat : Int), .int .i64 a0.fN, v0_1, .int .u64 (a1.toNat : Int), .int .i64 10000] 74, .cells b15 [.int .u64 0] 37, .cells b10 [.int .u64 (a4.fState.toNat : Int)] 37, .cells b5 [.int .i64 a0.fN, v0_1] 40] wx758 [.row w.heap.size 3 (Rep.size Int) v756 xs753.length cs754, .cells b95 [.int .u64 (u757.toNat : Int), .int .i64 a0.fN, v0_1, .int .u64 (a1.toNat : Int), .int .i64 z758] 74, .cells b15 [.int .u64 0] 37, .cells b10 [.int .u64 (a4.fState.toNat : Int)] 37, .cells b5 [.int .i64 a0.fN, v0_1] 40] ∧ Cells wx758 (bl [.row w.heap.size 3 (Rep.size Int) v756 xs753.length cs754, .cells b95 [.int .u64 (u757.toNat : Int), .int .i64 a0.fN, v0_1, .int .u64 (a1.toNat : Int), .int .i64 z758] 74, .cells b15 [.int .u64 0] 37, .cells b10 [.int .u64 (a4.fState.toNat : Int)] 37, .cells b5 [.int .i64 a0.fN, v0_1] 40] ++ L) cs754 xs753) (fun ⟨z752, xs753, u757, z758, v756, cs754⟩ => (z752, xs753, u757, z758)) (a2, ([a2] : List Int), a4.fState, 10000, (.slice (some ⟨b102, 0, none⟩) 1 1), [.int .i64 a2]) ho763 ⟨rfl, rfl, rfl, rfl, rfl, trivial⟩ ⟨hS100, Tr.refl _ _, hc103⟩ ?_
            rintro J766 ⟨z752, xs753, u757, z758, v756, cs754⟩ wx758 hJ767 ⟨hS759, hT760, hc755⟩ h
            unfold wilson_Walk_l3 at h
            try dsimp only at h
            refine MX.block ?_
            refine MX.seq ?_
            refine MX.seq ?_
            refine MX.region ?_
            refine RG.val' .plain (FV.move rfl) rfl ?_
            refine RG.val' .plain (FV.move rfl) rfl ?_
            obtain ⟨k768, hk768, h⟩ := bind_in h
            refine RG.val' .plain (FV.shrI (a := a3) (i := z752) rfl rfl hk768) rfl ?_
            refine RG.val' .plain (FV.andU (a := shrU a3 k768) (b := (1 : UInt64)) rfl rfl) rfl ?_
            refine RG.val' .plain (FV.eqlU (a := (shrU a3 k768) &&& (1 : UInt64)) (b := (1 : UInt64)) rfl rfl) rfl ?_
            refine RG.nil ?_
            refine MX.ifd rfl h (fun c769 h => ?_) (fun c769 h => ?_)
            · skip
              refine MX.exit rfl ?_
              have h := thn_inr h hh765
              try dsimp only at h
              refine MX.seq ?_
              refine MX.region ?_
              refine RG.val' .plain (FV.move rfl) rfl ?_
              refine RG.val' .plain (FV.assign rfl) rfl ?_
              refine RG.val' .plain (FV.assign rfl) rfl ?_
              refine RG.nil ?_
              refine MX.ret rfl ?_
              refine RT.leave (u := .tuple #[v756, .int .i64 0]) hb96 Tryd.func34 rfl (.cons (.tmp rfl) (.cons (.tmp rfl) .nil)) rfl ?_
              refine RG.val' .plain (FV.move rfl) rfl ?_
              refine RG.val' .plain (FV.extract rfl rfl) rfl ?_
              refine RG.val' .plain (FV.extract rfl rfl) rfl ?_
              refine RG.val' .plain (FV.assign rfl) rfl ?_
              refine RG.val' .plain (FV.assign rfl) rfl ?_
              refine RG.nil ?_
              refine MX.seq ?_
              refine MX.region ?_
              refine RG.val' .plain (FV.move rfl) rfl ?_
              refine RG.val' .plain (FV.neqN (i := 0) (j := 0) rfl rfl) rfl ?_
              refine RG.nil ?_
              refine MX.cond_f rfl ?_
              refine MX.skip ?_
              refine MX.seq ?_
              refine MX.drawT 6 tb15_19 (by kernel_rfl) (by kernel_rfl) (by kernel_rfl) (fun kt770 kp771 => ?_)
              refine RD.valP (i := 0) (m' := 1) (takePC_ok kt770 (by kernel_rfl)) rfl kp771 .plain (fun _ => FV.move rfl) rfl ?_
              refine RD.valP (i := 1) (m' := 3) (takePC_ok kt770 (by kernel_rfl)) rfl kp771 .plain (fun _ => FV.move rfl) rfl ?_
              refine RD.valP (i := 2) (m' := 7) (takePC_ok kt770 (by kernel_rfl)) rfl kp771 .plain (fun _ => FV.nilCheck rfl) rfl ?_
              refine RD.valP (i := 3) (m' := 15) (takePC_ok kt770 (by kernel_rfl)) rfl kp771 .plain (fun _ => FV.fieldAddr (off := 0) (by kernel_rfl) rfl) rfl ?_
              refine RD.val (i := 4) (m' := 31) (W := 192) (takeC_ok kt770 (by kernel_rfl)) rfl kp771 .plain (FV.loadN (cs := [.int .u64 (u757.toNat : Int)]) (by kernel_rfl) rfl (mem_part (hS759.memA (.tl .hd)) 0 1)) rfl ?_
              refine RD.valP (i := 5) (m' := 63) (takePC_ok kt770 (by kernel_rfl)) rfl kp771 .plain (fun _ => FV.assign rfl) rfl ?_
              refine RD.one (i := 6) (readyD_ok kt770 (by kernel_rfl)) (RO.now (m' := 127) (stepC_ok kt770 (by kernel_rfl)) rfl rfl .plain (Acts.store (j := 0) (old := [.int .u64 0]) (news := [.int .u64 (u757.toNat : Int)]) (new' := [.int .u64 (u757.toNat : Int)]) hS759 (.tl (.tl .hd)) rfl rfl rfl rfl rfl rfl (ones_cons rfl ones_nil) rfl) (fun w772 hS773 hT774 => ?_))
              refine RD.one (i := 7) (readyD_ok kt770 (by kernel_rfl)) (RO.val (m' := 255) (stepC_ok kt770 (by kernel_rfl)) rfl .plain rfl (FV.assign rfl) ?_)
              refine RD.done (doneD_ok kt770 (by kernel_rfl)) ?_
              refine MX.ret rfl ?_
              have hm778 := Cells.mv hc755 hT774
              have hr775 := St.freeze (α := Int) hS773 .hd hm778 hL
              have hS776 := hS773.del (.hd : Out _ _ _).del
              have hT777 := Tr.del (w := w772) (.hd : Out [.row w.heap.size 3 (Rep.size Int) v756 xs753.length cs754, .cells b95 [.int .u64 (u757.toNat : Int), .int .i64 a0.fN, v0_1, .int .u64 (a1.toNat : Int), .int .i64 z758] 74, .cells b15 [.int .u64 (u757.toNat : Int)] 37, .cells b10 [.int .u64 (a4.fState.toNat : Int)] 37, .cells b5 [.int .i64 a0.fN, v0_1] 40] _ _).del
              have hr779 : Rep.R w772 (bl [.cells b95 [.int .u64 (u757.toNat : Int), .int .i64 a0.fN, v0_1, .int .u64 (a1.toNat : Int), .int .i64 z758] 74, .cells b15 [.int .u64 (u757.toNat : Int)] 37, .cells b10 [.int .u64 (a4.fState.toNat : Int)] 37, .cells b5 [.int .i64 a0.fN, v0_1] 40] ++ L) [v756] xs753 := hr775
              refine RT.leave (u := .tuple #[v756, .agg #[.int .u64 (u757.toNat : Int)], .int .i64 0]) hb0 Tryd.func15 rfl (.cons (.tmp rfl) (.cons (.many (cs := [.int .u64 (u757.toNat : Int)]) (by kernel_rfl) rfl (hS776.memA (.tl .hd))) (.cons (.tmp rfl) .nil))) rfl ?_
              obtain rfl := Option.some.inj h
              exact ⟨hS776.ag, fun w9 hw9 => ⟨v756, rfl, Rep.keep0 (Rep.dropO (O := [.cells b95 [.int .u64 (u757.toNat : Int), .int .i64 a0.fN, v0_1, .int .u64 (a1.toNat : Int), .int .i64 z758] 74, .cells b15 [.int .u64 (u757.toNat : Int)] 37, .cells b10 [.int .u64 (a4.fState.toNat : Int)] 37, .cells b5 [.int .i64 a0.fN, v0_1] 40]) hr779) hw9⟩⟩
            · skip
              refine MX.skip ?_
              refine MX.seq ?_
              refine MX.seq ?_
              refine MX.region ?_
              refine RG.val' .plain (FV.move rfl) rfl ?_
              refine RG.val' .plain (FV.nilCheck rfl) rfl ?_
              refine RG.val' .plain (FV.fieldAddr (off := 4) (by kernel_rfl) rfl) rfl ?_
              refine RG.val' .plain (FV.load1 (by kernel_rfl) rfl ((hS759.memA (.tl .hd)) 4 _ rfl)) rfl ?_
              refine RG.val' .plain (FV.eql (i := z758) (j := 0) rfl rfl) rfl ?_
              refine RG.nil ?_
              refine MX.ifd rfl h (fun c780 h => ?_) (fun c780 h => ?_)
              · skip
                refine MX.seq ?_
                refine MX.region ?_
                refine RG.val' .plain (FV.assign rfl) rfl ?_
                refine RG.val' .plain (FV.assign rfl) rfl ?_
                refine RG.nil ?_
                have h := thn_inl h hh765
                refine MX.ret rfl ?_
                refine RT.leave (u := .tuple #[.slice none 0 0, .int .i64 9]) hb96 Tryd.func34 rfl (.cons (.tmp rfl) (.cons (.tmp rfl) .nil)) rfl ?_
                refine RG.val' .plain (FV.move rfl) rfl ?_
                refine RG.val' .plain (FV.extract rfl rfl) rfl ?_
                refine RG.val' .plain (FV.extract rfl rfl) rfl ?_
                refine RG.val' .plain (FV.assign rfl) rfl ?_
                refine RG.val' .plain (FV.assign rfl) rfl ?_
                refine RG.nil ?_
                refine MX.seq ?_
                refine MX.region ?_
                refine RG.val' .plain (FV.move rfl) rfl ?_
                refine RG.val' .plain (FV.neqN (i := 9) (j := 0) rfl rfl) rfl ?_
                refine RG.nil ?_
                refine MX.cond_t rfl ?_
                refine MX.seq ?_
                refine MX.region ?_
                refine RG.val' .plain (FV.buildV (vs := []) (u := .agg #[.int .u64 0]) evs_nil (fun w9 => by kernel_rfl)) rfl ?_
                refine RG.val' .plain (FV.move rfl) rfl ?_
                refine RG.val' .plain (FV.assign rfl) rfl ?_
                refine RG.now .plain (Acts.store (j := 0) (old := [.int .u64 0]) (news := [.int .u64 0]) (new' := [.int .u64 0]) hS759 (.tl (.tl .hd)) rfl rfl rfl rfl rfl rfl (ones_cons rfl ones_nil) rfl) (fun w781 hS782 hT783 => ?_)
                refine RG.val' .plain (FV.assign rfl) rfl ?_
                refine RG.nil ?_
                refine MX.ret rfl ?_
                have hr784 : Rep.R w781 (bl [.row w.heap.size 3 (Rep.size Int) v756 xs753.length cs754, .cells b95 [.int .u64 (u757.toNat : Int), .int .i64 a0.fN, v0_1, .int .u64 (a1.toNat : Int), .int .i64 z758] 74, .cells b15 [.int .u64 0] 37, .cells b10 [.int .u64 (a4.fState.toNat : Int)] 37, .cells b5 [.int .i64 a0.fN, v0_1] 40] ++ L) [.slice none 0 0] ([] : List Int) := Rep.nilSlice _ _
                refine RT.leave (u := .tuple #[.slice none 0 0, .agg #[.int .u64 0], .int .i64 9]) hb0 Tryd.func15 rfl (.cons (.tmp rfl) (.cons (.many (cs := [.int .u64 0]) (by kernel_rfl) rfl (hS782.memA (.tl (.tl .hd)))) (.cons (.tmp rfl) .nil))) rfl ?_
                obtain rfl := Option.some.inj h
                have hr785 : Rep.R w781 (bl [.row w.heap.size 3 (Rep.size Int) v756 xs753.length cs754, .cells b95 [.int .u64 (u757.toNat : Int), .int .i64 a0.fN, v0_1, .int .u64 (a1.toNat : Int), .int .i64 z758] 74, .cells b15 [.int .u64 0] 37, .cells b10 [.int .u64 (a4.fState.toNat : Int)] 37, .cells b5 [.int .i64 a0.fN, v0_1] 40] ++ L) [.slice none 0 0] ([] : List Int) := Rep.nilSlice _ _
                exact ⟨hS782.ag, fun w9 hw9 => ⟨(.slice none 0 0), rfl, Rep.keep0 (Rep.dropO (O := [.row w.heap.size 3 (Rep.size Int) v756 xs753.length cs754, .cells b95 [.int .u64 (u757.toNat : Int), .int .i64 a0.fN, v0_1, .int .u64 (a1.toNat : Int), .int .i64 z758] 74, .cells b15 [.int .u64 0] 37, .cells b10 [.int .u64 (a4.fState.toNat : Int)] 37, .cells b5 [.int .i64 a0.fN, v0_1] 40]) hr785) hw9⟩⟩
              · skip
                refine MX.skip ?_
                refine MX.seq ?_
                refine MX.region ?_
                refine RG.val' .plain (FV.move rfl) rfl ?_
                refine RG.val' .plain (FV.nilCheck rfl) rfl ?_
                refine RG.val' .plain (FV.fieldAddr (off := 4) (by kernel_rfl) rfl) rfl ?_
                refine RG.val' .plain (FV.load1 (by kernel_rfl) rfl ((hS759.memA (.tl .hd)) 4 _ rfl)) rfl ?_
                obtain ⟨s786, hs786, h⟩ := bind_in h
                refine RG.val' .plain (FV.subc (i := z758) (j := 1) rfl rfl hs786) rfl ?_
                refine RG.val' .plain (FV.nilCheck rfl) rfl ?_
                refine RG.val' .plain (FV.fieldAddr (off := 4) (by kernel_rfl) rfl) rfl ?_
                refine RG.now .plain (Acts.store (j := 4) (old := [.int .u64 (u757.toNat : Int), .int .i64 a0.fN, v0_1, .int .u64 (a1.toNat : Int), .int .i64 z758]) (news := [.int .i64 s786]) (new' := [.int .u64 (u757.toNat : Int), .int .i64 a0.fN, v0_1, .int .u64 (a1.toNat : Int), .int .i64 s786]) hS759 (.tl .hd) rfl rfl rfl rfl rfl rfl (ones_cons rfl ones_nil) rfl) (fun w787 hS788 hT789 => ?_)
                refine RG.nil ?_
                refine MX.seq ?_
                refine MX.region ?_
                refine RG.val' .plain (FV.move rfl) rfl ?_
                refine RG.val' .plain (FV.move rfl) rfl ?_
                refine RG.enter (fst := []) (cap := []) (vs := [.pointer (some ⟨b95, 0, none⟩), .int .i64 z752]) .plain body64 Tryd.func64 rfl rfl rfl rfl (evs_cons rfl (evs_cons rfl evs_nil)) rfl (fun cs791 hb790 => ?_)
                refine MX.seq ?_
                refine MX.region ?_
                refine RG.new .plain rfl (Does.box (vs := [.pointer (some ⟨b95, 0, none⟩)]) hS788 rfl rfl) (fun w793 b796 hS794 hT795 => ?_)
                refine RG.new .plain rfl (Does.box (vs := [.int .i64 z752]) hS794 rfl rfl) (fun w798 b801 hS799 hT800 => ?_)
                refine RG.val' .plain (FV.assign rfl) rfl ?_
                refine RG.nil ?_
                refine MX.seq ?_
                refine MX.region ?_
                refine RG.val' .plain (FV.makeFunc (vs := []) (us := [.pointer (some ⟨b796, 0, none⟩), .pointer (some ⟨b801, 0, none⟩)]) evs_nil (evs_cons rfl (evs_cons rfl evs_nil))) rfl ?_
                refine RG.val' .plain (FV.assign rfl) rfl ?_
                refine RG.nil ?_
                refine MX.ret rfl ?_
                refine RT.leave (u := .func (.func 86) #[] #[.pointer (some ⟨b796, 0, none⟩), .pointer (some ⟨b801, 0, none⟩)]) hb790 Tryd.func64 rfl (.cons (.tmp rfl) .nil) rfl ?_
                refine RG.enter (fst := []) (cap := []) (vs := [.func (.func 86) #[] #[.pointer (some ⟨b796, 0, none⟩), .pointer (some ⟨b801, 0, none⟩)]]) .plain body63 Tryd.func63 rfl rfl rfl rfl (evs_cons rfl evs_nil) rfl (fun cs803 hb802 => ?_)
                refine MX.seq ?_
                refine MX.region ?_
                refine RG.val' .plain (FV.assign rfl) rfl ?_
                refine RG.nil ?_
                refine MX.seq ?_
                refine MX.region ?_
                refine RG.val' .plain (FV.move rfl) rfl ?_
                refine RG.enter (fst := []) (cap := []) (vs := [.slice none 0 0, .func (.func 86) #[] #[.pointer (some ⟨b796, 0, none⟩), .pointer (some ⟨b801, 0, none⟩)]]) .plain body85 Tryd.func85 rfl rfl rfl rfl (evs_cons rfl (evs_cons rfl evs_nil)) rfl (fun cs805 hb804 => ?_)
                refine MX.seq ?_
                refine MX.region ?_
                refine RG.new .plain rfl (Does.box (vs := [.slice none 0 0]) hS799 rfl rfl) (fun w807 b810 hS808 hT809 => ?_)
                refine RG.val' .plain (FV.assign rfl) rfl ?_
                refine RG.nil ?_
                refine MX.seq ?_
                refine MX.seq ?_
                refine MX.region ?_
                refine RG.val' .plain (FV.move rfl) rfl ?_
                refine RG.nil ?_
                refine MX.block ?_
                have hS812 := hS808.nilRow 3 (Rep.size Int)
                have hT813 := Tr.nilRow (w := w807) (O := [.cells b810 [.slice none 0 0] 22, .cells b801 [.int .i64 z752] 3, .cells b796 [.pointer (some ⟨b95, 0, none⟩)] 72, .row w.heap.size 3 (Rep.size Int) v756 xs753.length cs754, .cells b95 [.int .u64 (u757.toNat : Int), .int .i64 a0.fN, v0_1, .int .u64 (a1.toNat : Int), .int .i64 s786] 74, .cells b15 [.int .u64 0] 37, .cells b10 [.int .u64 (a4.fState.toNat : Int)] 37, .cells b5 [.int .i64 a0.fN, v0_1] 40]) w.heap.size 3 (Rep.size Int)
                have hc814 : Cells w807 (bl [.row w.heap.size 3 (Rep.size Int) (.slice none 0 0) (([] : List Int).length) [], .cells b810 [.slice none 0 0] 22, .cells b801 [.int .i64 z752] 3, .cells b796 [.pointer (some ⟨b95, 0, none⟩)] 72, .row w.heap.size 3 (Rep.size Int) v756 xs753.length cs754, .cells b95 [.int .u64 (u757.toNat : Int), .int .i64 a0.fN, v0_1, .int .u64 (a1.toNat : Int), .int .i64 s786] 74, .cells b15 [.int .u64 0] 37, .cells b10 [.int .u64 (a4.fState.toNat : Int)] 37, .cells b5 [.int .i64 a0.fN, v0_1] 40] ++ L) [] ([] : List Int) := Cells.nil _ _
                refine MX.range (lb := [.pointer (some ⟨b796, 0, none⟩), .pointer (some ⟨b801, 0, none⟩)]) rfl hS812 rfl body86 Tryd.func86 rfl rfl rfl (fun w815 lk818 D819 r820 cs823 hS816 hT817 rec821 hb822 => ?_)
                refine MX.seq ?_
                refine MX.region ?_
                refine RG.val' .plain (FV.assign rfl) rfl ?_
                refine RG.nil ?_
                refine MX.seq ?_
                refine MX.seq ?_
                refine MX.region ?_
                refine RG.val' .plain (FV.load1 (by kernel_rfl) rfl ((hS816.memA (.tl (.tl (.tl (.tl (.tl .hd)))))) 0 _ rfl)) rfl ?_
                refine RG.val' .plain (FV.nilCheck rfl) rfl ?_
                refine RG.val' .plain (FV.fieldAddr (off := 1) (by kernel_rfl) rfl) rfl ?_
                refine RG.val' .plain (FV.fieldAddr (off := 1) (by kernel_rfl) rfl) rfl ?_
                refine RG.val' .plain (FV.load1 (by kernel_rfl) rfl ((mem_from (hS816.memA (.tl (.tl (.tl (.tl (.tl (.tl (.tl .hd)))))))) 1) 1 _ rfl)) rfl ?_
                have hm827 := Rep.mv h0_1 (Tr.trans hT4 (Tr.trans hT9 (Tr.trans hT14 (Tr.trans hT28 (Tr.trans hT44 (Tr.trans hT69 (Tr.trans hT94 (Tr.trans hT101 (Tr.trans hT760 (Tr.trans hT789 (Tr.trans hT795 (Tr.trans hT800 (Tr.trans hT809 (Tr.trans hT813 hT817))))))))))))))
                have hl826 : a0.fEdges.length ≤ 281474976710656 := Rep.lenle hm827
                refine RG.val' .plain (FV.len (xs := a0.fEdges) Tryd.underlying38 rfl hm827) rfl ?_
                refine RG.val' .plain (FV.move rfl) rfl ?_
                refine RG.nil ?_
                refine MX.block ?_
                obtain ⟨o880, ho879, hh881⟩ := bind_in2 h
                refine MX.loop (α := UInt64 × Nat) (fun ⟨u873, i874⟩ => [(0, .func (.yield lk818) #[] #[]), (1, .pointer (some ⟨b796, 0, none⟩)), (2, .pointer (some ⟨b801, 0, none⟩)), (4, .int .u64 (u873.toNat : Int)), (11, v0_1), (12, .int .i64 ((a0.fEdges.length : Nat) : Int)), (13, .int .i64 ((i874 : Nat) : Int))]) (fun ⟨u873, i874⟩ wx874 => St w wx874 [.obj lk818 (lpO r820 .ready none), .obj D819 (.deferred (some [])), .row w.heap.size 3 (Rep.size Int) (.slice none 0 0) (([] : List Int).length) [], .cells b810 [(.slice none 0 0)] 22, .cells b801 [.int .i64 z752] 3, .cells b796 [.pointer (some ⟨b95, 0, none⟩)] 72, .row w.heap.size 3 (Rep.size Int) v756 xs753.length cs754, .cells b95 [.int .u64 (u757.toNat : Int), .int .i64 a0.fN, v0_1, .int .u64 (a1.toNat : Int), .int .i64 s786] 74, .cells b15 [.int .u64 0] 37, .cells b10 [.int .u64 (a4.fState.toNat : Int)] 37, .cells b5 [.int .i64 a0.fN, v0_1] 40] ∧ Tr w815 [.obj lk818 (lpO r820 .ready none), .obj D819 (.deferred (some [])), .row w.heap.size 3 (Rep.size Int) (.slice none 0 0) (([] : List Int).length) [], .cells b810 [(.slice none 0 0)] 22, .cells b801 [.int .i64 z752] 3, .cells b796 [.pointer (some ⟨b95, 0, none⟩)] 72, .row w.heap.size 3 (Rep.size Int) v756 xs753.length cs754, .cells b95 [.int .u64 (u757.toNat : Int), .int .i64 a0.fN, v0_1, .int .u64 (a1.toNat : Int), .int .i64 s786] 74, .cells b15 [.int .u64 0] 37, .cells b10 [.int .u64 (a4.fState.toNat : Int)] 37, .cells b5 [.int .i64 a0.fN, v0_1] 40] wx874 [.obj lk818 (lpO r820 .ready none), .obj D819 (.deferred (some [])), .row w.heap.size 3 (Rep.size Int) (.slice none 0 0) (([] : List Int).length) [], .cells b810 [(.slice none 0 0)] 22, .cells b801 [.int .i64 z752] 3, .cells b796 [.pointer (some ⟨b95, 0, none⟩)] 72, .row w.heap.size 3 (Rep.size Int) v756 xs753.length cs754, .cells b95 [.int .u64 (u757.toNat : Int), .int .i64 a0.fN, v0_1, .int .u64 (a1.toNat : Int), .int .i64 s786] 74, .cells b15 [.int .u64 0] 37, .cells b10 [.int .u64 (a4.fState.toNat : Int)] 37, .cells b5 [.int .i64 a0.fN, v0_1] 40]) (fun ⟨u873, i874⟩ => (u873, i874)) ((0 : UInt64), 0) ho879 ⟨rfl, rfl, rfl, rfl, rfl, rfl, rfl, trivial⟩ ⟨hS816, Tr.refl _ _⟩ ?_
                rintro J882 ⟨u873, i874⟩ wx874 hJ883 ⟨hS875, hT876⟩ h
                unfold wilson_Walk_l2 at h
                try dsimp only at h
                refine MX.seq ?_
                refine MX.region ?_
                refine RG.val' .plain (FV.lssN (i := i874) (j := a0.fEdges.length) rfl rfl) rfl ?_
                refine RG.nil ?_
                refine MX.seq ?_
                refine MX.ifd rfl h (fun c884 h => ?_) (fun c884 h => ?_)
                · skip
                  refine MX.skip ?_
                  refine MX.seq ?_
                  refine MX.block ?_
                  refine MX.seq ?_
                  refine MX.region ?_
                  obtain ⟨x885, hx885, h⟩ := bind_in h
                  have hm893 := Rep.mv h0_1 (Tr.trans hT4 (Tr.trans hT9 (Tr.trans hT14 (Tr.trans hT28 (Tr.trans hT44 (Tr.trans hT69 (Tr.trans hT94 (Tr.trans hT101 (Tr.trans hT760 (Tr.trans hT789 (Tr.trans hT795 (Tr.trans hT800 (Tr.trans hT809 (Tr.trans hT813 (Tr.trans hT817 hT876)))))))))))))))
                  obtain ⟨A886, c887, he888, hk889, cs890, hr891, hm892⟩ := Rep.nth hm893 hx885
                  obtain rfl := op_A46 hr891
                  refine RG.val' .plain (FV.idxAddr (m := 2) (i := i874) (by kernel_rfl) rfl he888 rfl rfl hk889) rfl ?_
                  refine RG.val' .plain (FV.loadN (cs := [.int .i64 x885.1, .int .i64 x885.2]) (by kernel_rfl) rfl hm892) rfl ?_
                  refine RG.new .plain rfl (Does.alloc (zs := [.int .i64 0, .int .i64 0]) hS875 (zB (by kernel_rfl))) (fun w895 b898 hS896 hT897 => ?_)
                  refine RG.now .plain (Acts.store (j := 0) (old := [.int .i64 0, .int .i64 0]) (news := [.int .i64 x885.1, .int .i64 x885.2]) (new' := [.int .i64 x885.1, .int .i64 x885.2]) hS896 .hd rfl rfl rfl rfl rfl rfl (ones_cons rfl (ones_cons rfl ones_nil)) rfl) (fun w899 hS900 hT901 => ?_)
                  refine RG.nil ?_
                  refine MX.seq ?_
                  refine MX.region ?_
                  refine RG.val' .plain (FV.indexArr (m := 1) (k := 0) (len := 2) (by kernel_rfl) rfl rfl rfl (by omega)) rfl ?_
                  refine RG.val' .plain (FV.load1 (by kernel_rfl) rfl ((hS900.memA .hd) 0 _ rfl)) rfl ?_
                  refine RG.val' .plain (FV.load1 (by kernel_rfl) rfl ((hS900.memA (.tl (.tl (.tl (.tl (.tl .hd)))))) 0 _ rfl)) rfl ?_
                  refine RG.val' .plain (FV.eql (i := x885.1) (j := z752) rfl rfl) rfl ?_
                  refine RG.val' .plain (FV.move rfl) rfl ?_
                  refine RG.ifd (s := 21) rfl h (fun c902 h => ?_) (fun c902 h => ?_)
                  · skip
                    refine RG.off (.no rfl rfl) rfl ?_
                    refine RG.off (.no rfl rfl) rfl ?_
                    refine RG.off (.no rfl rfl) rfl ?_
                    refine RG.off (.no rfl rfl) rfl ?_
                    refine RG.val' .plain (FV.pick_t rfl rfl) rfl ?_
                    refine RG.nil ?_
                    refine MX.cond_t rfl ?_
                    refine MX.region ?_
                    refine RG.val' .plain (FV.move rfl) rfl ?_
                    refine RG.val' .plain (FV.indexArr (m := 1) (k := 0) (len := 2) (by kernel_rfl) rfl rfl rfl (by omega)) rfl ?_
                    refine RG.val' .plain (FV.load1 (by kernel_rfl) rfl ((hS900.memA .hd) 0 _ rfl)) rfl ?_
                    refine RG.val' .plain (FV.indexArr (m := 1) (k := 1) (len := 2) (by kernel_rfl) rfl rfl rfl (by omega)) rfl ?_
                    refine RG.val' .plain (FV.load1 (by kernel_rfl) rfl ((hS900.memA .hd) 1 _ rfl)) rfl ?_
                    obtain ⟨s903, hs903, h⟩ := bind_in h
                    refine RG.val' .plain (FV.addc (i := x885.1) (j := x885.2) rfl rfl hs903) rfl ?_
                    refine RG.val' .plain (FV.load1 (by kernel_rfl) rfl ((hS900.memA (.tl (.tl (.tl (.tl (.tl .hd)))))) 0 _ rfl)) rfl ?_
                    obtain ⟨s904, hs904, h⟩ := bind_in h
                    refine RG.val' .plain (FV.subc (i := s903) (j := z752) rfl rfl hs904) rfl ?_
                    obtain ⟨k905, hk905, h⟩ := bind_in h
                    refine RG.val' .plain (FV.shlI (a := (1 : UInt64)) (i := s904) rfl rfl hk905) rfl ?_
                    refine RG.val' .plain (FV.orU (a := u873) (b := shlU (1 : UInt64) k905) rfl rfl) rfl ?_
                    refine RG.val' .plain (FV.assign rfl) rfl ?_
                    refine RG.nil ?_
                    refine MX.inBlock ?_
                    refine MX.region ?_
                    refine RG.val' .plain (FV.addN (i := i874) (j := 1) rfl rfl (by omega)) rfl ?_
                    refine RG.val' .plain (FV.move rfl) rfl ?_
                    refine RG.nil ?_
                    have hS906 : St _ _ [.obj lk818 (lpO r820 .ready none), .obj D819 (.deferred (some [])), .row w.heap.size 3 (Rep.size Int) (.slice none 0 0) (([] : List Int).length) [], .cells b810 [(.slice none 0 0)] 22, .cells b801 [.int .i64 z752] 3, .cells b796 [.pointer (some ⟨b95, 0, none⟩)] 72, .row w.heap.size 3 (Rep.size Int) v756 xs753.length cs754, .cells b95 [.int .u64 (u757.toNat : Int), .int .i64 a0.fN, v0_1, .int .u64 (a1.toNat : Int), .int .i64 s786] 74, .cells b15 [.int .u64 0] 37, .cells b10 [.int .u64 (a4.fState.toNat : Int)] 37, .cells b5 [.int .i64 a0.fN, v0_1] 40] := hS900.arr (.one (.tl .hd) (.one (.tl .hd) (.one (.tl .hd) (.one (.tl .hd) (.one (.tl .hd) (.one (.tl .hd) (.one (.tl .hd) (.one (.tl .hd) (.one (.tl .hd) (.one (.tl .hd) (.one (.tl .hd) .done)))))))))))
                    have hT907 : Tr w899 _ w899 [.obj lk818 (lpO r820 .ready none), .obj D819 (.deferred (some [])), .row w.heap.size 3 (Rep.size Int) (.slice none 0 0) (([] : List Int).length) [], .cells b810 [(.slice none 0 0)] 22, .cells b801 [.int .i64 z752] 3, .cells b796 [.pointer (some ⟨b95, 0, none⟩)] 72, .row w.heap.size 3 (Rep.size Int) v756 xs753.length cs754, .cells b95 [.int .u64 (u757.toNat : Int), .int .i64 a0.fN, v0_1, .int .u64 (a1.toNat : Int), .int .i64 s786] 74, .cells b15 [.int .u64 0] 37, .cells b10 [.int .u64 (a4.fState.toNat : Int)] 37, .cells b5 [.int .i64 a0.fN, v0_1] 40] := Tr.arr (St.arrOf hS900 (.one (.tl .hd) (.one (.tl .hd) (.one (.tl .hd) (.one (.tl .hd) (.one (.tl .hd) (.one (.tl .hd) (.one (.tl .hd) (.one (.tl .hd) (.one (.tl .hd) (.one (.tl .hd) (.one (.tl .hd) .done))))))))))))
                    exact hJ883 (u873 ||| (shlU (1 : UInt64) k905), i874 + 1) _ _ ⟨rfl, rfl, rfl, rfl, rfl, rfl, rfl, trivial⟩ ⟨hS906, (Tr.trans hT876 (Tr.trans hT897 (Tr.trans hT901 hT907)))⟩ h
                  · skip
                    refine RG.val' (.yes rfl rfl) (FV.indexArr (m := 1) (k := 1) (len := 2) (by kernel_rfl) rfl rfl rfl (by omega)) rfl ?_
                    refine RG.val' (.yes rfl rfl) (FV.load1 (by kernel_rfl) rfl ((hS900.memA .hd) 1 _ rfl)) rfl ?_
                    refine RG.val' (.yes rfl rfl) (FV.load1 (by kernel_rfl) rfl ((hS900.memA (.tl (.tl (.tl (.tl (.tl .hd)))))) 0 _ rfl)) rfl ?_
                    refine RG.val' (.yes rfl rfl) (FV.eql (i := x885.2) (j := z752) rfl rfl) rfl ?_
                    refine RG.val' .plain (FV.pick_f rfl rfl) rfl ?_
                    refine RG.nil ?_
                    refine MX.join (α := UInt64) (fun u912 => [(0, .func (.yield lk818) #[] #[]), (1, .pointer (some ⟨b796, 0, none⟩)), (2, .pointer (some ⟨b801, 0, none⟩)), (4, .int .u64 (u912.toNat : Int)), (11, v0_1), (12, .int .i64 ((a0.fEdges.length : Nat) : Int)), (13, .int .i64 ((i874 : Nat) : Int))]) (fun u912 wx912 => St w wx912 [.obj lk818 (lpO r820 .ready none), .obj D819 (.deferred (some [])), .row w.heap.size 3 (Rep.size Int) (.slice none 0 0) (([] : List Int).length) [], .cells b810 [(.slice none 0 0)] 22, .cells b801 [.int .i64 z752] 3, .cells b796 [.pointer (some ⟨b95, 0, none⟩)] 72, .row w.heap.size 3 (Rep.size Int) v756 xs753.length cs754, .cells b95 [.int .u64 (u757.toNat : Int), .int .i64 a0.fN, v0_1, .int .u64 (a1.toNat : Int), .int .i64 s786] 74, .cells b15 [.int .u64 0] 37, .cells b10 [.int .u64 (a4.fState.toNat : Int)] 37, .cells b5 [.int .i64 a0.fN, v0_1] 40] ∧ Tr w899 [.cells b898 [.int .i64 x885.1, .int .i64 x885.2] 46, .obj lk818 (lpO r820 .ready none), .obj D819 (.deferred (some [])), .row w.heap.size 3 (Rep.size Int) (.slice none 0 0) (([] : List Int).length) [], .cells b810 [(.slice none 0 0)] 22, .cells b801 [.int .i64 z752] 3, .cells b796 [.pointer (some ⟨b95, 0, none⟩)] 72, .row w.heap.size 3 (Rep.size Int) v756 xs753.length cs754, .cells b95 [.int .u64 (u757.toNat : Int), .int .i64 a0.fN, v0_1, .int .u64 (a1.toNat : Int), .int .i64 s786] 74, .cells b15 [.int .u64 0] 37, .cells b10 [.int .u64 (a4.fState.toNat : Int)] 37, .cells b5 [.int .i64 a0.fN, v0_1] 40] wx912 [.obj lk818 (lpO r820 .ready none), .obj D819 (.deferred (some [])), .row w.heap.size 3 (Rep.size Int) (.slice none 0 0) (([] : List Int).length) [], .cells b810 [(.slice none 0 0)] 22, .cells b801 [.int .i64 z752] 3, .cells b796 [.pointer (some ⟨b95, 0, none⟩)] 72, .row w.heap.size 3 (Rep.size Int) v756 xs753.length cs754, .cells b95 [.int .u64 (u757.toNat : Int), .int .i64 a0.fN, v0_1, .int .u64 (a1.toNat : Int), .int .i64 s786] 74, .cells b15 [.int .u64 0] 37, .cells b10 [.int .u64 (a4.fState.toNat : Int)] 37, .cells b5 [.int .i64 a0.fN, v0_1] 40]) (fun u912 => u912) h ?_ ?_
                    · skip
                      rintro u912 wx912 ⟨hS913, hT914⟩ h
                      try dsimp only at h
                      refine MX.inBlock ?_
                      refine MX.region ?_
                      refine RG.val' .plain (FV.addN (i := i874) (j := 1) rfl rfl (by omega)) rfl ?_
                      refine RG.val' .plain (FV.move rfl) rfl ?_
                      refine RG.nil ?_
                      exact hJ883 (u912, i874 + 1) _ _ ⟨rfl, rfl, rfl, rfl, rfl, rfl, rfl, trivial⟩ ⟨hS913, (Tr.trans hT876 (Tr.trans hT897 (Tr.trans hT901 hT914)))⟩ h
                    · skip
                      intro J916 hJ917 h
                      try dsimp only at h
                      refine MX.ifd rfl h (fun c918 h => ?_) (fun c918 h => ?_)
                      · skip
                        refine MX.region ?_
                        refine RG.val' .plain (FV.move rfl) rfl ?_
                        refine RG.val' .plain (FV.indexArr (m := 1) (k := 0) (len := 2) (by kernel_rfl) rfl rfl rfl (by omega)) rfl ?_
                        refine RG.val' .plain (FV.load1 (by kernel_rfl) rfl ((hS900.memA .hd) 0 _ rfl)) rfl ?_
                        refine RG.val' .plain (FV.indexArr (m := 1) (k := 1) (len := 2) (by kernel_rfl) rfl rfl rfl (by omega)) rfl ?_
                        refine RG.val' .plain (FV.load1 (by kernel_rfl) rfl ((hS900.memA .hd) 1 _ rfl)) rfl ?_
                        obtain ⟨s919, hs919, h⟩ := bind_in h
                        refine RG.val' .plain (FV.addc (i := x885.1) (j := x885.2) rfl rfl hs919) rfl ?_
                        refine RG.val' .plain (FV.load1 (by kernel_rfl) rfl ((hS900.memA (.tl (.tl (.tl (.tl (.tl .hd)))))) 0 _ rfl)) rfl ?_
                        obtain ⟨s920, hs920, h⟩ := bind_in h
                        refine RG.val' .plain (FV.subc (i := s919) (j := z752) rfl rfl hs920) rfl ?_
                        obtain ⟨k921, hk921, h⟩ := bind_in h
                        refine RG.val' .plain (FV.shlI (a := (1 : UInt64)) (i := s920) rfl rfl hk921) rfl ?_
                        refine RG.val' .plain (FV.orU (a := u873) (b := shlU (1 : UInt64) k921) rfl rfl) rfl ?_
                        refine RG.val' .plain (FV.assign rfl) rfl ?_
                        refine RG.nil ?_
                        have hS922 : St _ _ [.obj lk818 (lpO r820 .ready none), .obj D819 (.deferred (some [])), .row w.heap.size 3 (Rep.size Int) (.slice none 0 0) (([] : List Int).length) [], .cells b810 [(.slice none 0 0)] 22, .cells b801 [.int .i64 z752] 3, .cells b796 [.pointer (some ⟨b95, 0, none⟩)] 72, .row w.heap.size 3 (Rep.size Int) v756 xs753.length cs754, .cells b95 [.int .u64 (u757.toNat : Int), .int .i64 a0.fN, v0_1, .int .u64 (a1.toNat : Int), .int .i64 s786] 74, .cells b15 [.int .u64 0] 37, .cells b10 [.int .u64 (a4.fState.toNat : Int)] 37, .cells b5 [.int .i64 a0.fN, v0_1] 40] := hS900.arr (.one (.tl .hd) (.one (.tl .hd) (.one (.tl .hd) (.one (.tl .hd) (.one (.tl .hd) (.one (.tl .hd) (.one (.tl .hd) (.one (.tl .hd) (.one (.tl .hd) (.one (.tl .hd) (.one (.tl .hd) .done)))))))))))
                        have hT923 : Tr w899 _ w899 [.obj lk818 (lpO r820 .ready none), .obj D819 (.deferred (some [])), .row w.heap.size 3 (Rep.size Int) (.slice none 0 0) (([] : List Int).length) [], .cells b810 [(.slice none 0 0)] 22, .cells b801 [.int .i64 z752] 3, .cells b796 [.pointer (some ⟨b95, 0, none⟩)] 72, .row w.heap.size 3 (Rep.size Int) v756 xs753.length cs754, .cells b95 [.int .u64 (u757.toNat : Int), .int .i64 a0.fN, v0_1, .int .u64 (a1.toNat : Int), .int .i64 s786] 74, .cells b15 [.int .u64 0] 37, .cells b10 [.int .u64 (a4.fState.toNat : Int)] 37, .cells b5 [.int .i64 a0.fN, v0_1] 40] := Tr.arr (St.arrOf hS900 (.one (.tl .hd) (.one (.tl .hd) (.one (.tl .hd) (.one (.tl .hd) (.one (.tl .hd) (.one (.tl .hd) (.one (.tl .hd) (.one (.tl .hd) (.one (.tl .hd) (.one (.tl .hd) (.one (.tl .hd) .done))))))))))))
                        exact hJ917 (u873 ||| (shlU (1 : UInt64) k921)) _ _ ⟨rfl, rfl, rfl, rfl, rfl, rfl, rfl, trivial⟩ ⟨hS922, hT923⟩ h
                      · skip
                        refine MX.skip ?_
                        have hS924 : St _ _ [.obj lk818 (lpO r820 .ready none), .obj D819 (.deferred (some [])), .row w.heap.size 3 (Rep.size Int) (.slice none 0 0) (([] : List Int).length) [], .cells b810 [(.slice none 0 0)] 22, .cells b801 [.int .i64 z752] 3, .cells b796 [.pointer (some ⟨b95, 0, none⟩)] 72, .row w.heap.size 3 (Rep.size Int) v756 xs753.length cs754, .cells b95 [.int .u64 (u757.toNat : Int), .int .i64 a0.fN, v0_1, .int .u64 (a1.toNat : Int), .int .i64 s786] 74, .cells b15 [.int .u64 0] 37, .cells b10 [.int .u64 (a4.fState.toNat : Int)] 37, .cells b5 [.int .i64 a0.fN, v0_1] 40] := hS900.arr (.one (.tl .hd) (.one (.tl .hd) (.one (.tl .hd) (.one (.tl .hd) (.one (.tl .hd) (.one (.tl .hd) (.one (.tl .hd) (.one (.tl .hd) (.one (.tl .hd) (.one (.tl .hd) (.one (.tl .hd) .done)))))))))))
                        have hT925 : Tr w899 _ w899 [.obj lk818 (lpO r820 .ready none), .obj D819 (.deferred (some [])), .row w.heap.size 3 (Rep.size Int) (.slice none 0 0) (([] : List Int).length) [], .cells b810 [(.slice none 0 0)] 22, .cells b801 [.int .i64 z752] 3, .cells b796 [.pointer (some ⟨b95, 0, none⟩)] 72, .row w.heap.size 3 (Rep.size Int) v756 xs753.length cs754, .cells b95 [.int .u64 (u757.toNat : Int), .int .i64 a0.fN, v0_1, .int .u64 (a1.toNat : Int), .int .i64 s786] 74, .cells b15 [.int .u64 0] 37, .cells b10 [.int .u64 (a4.fState.toNat : Int)] 37, .cells b5 [.int .i64 a0.fN, v0_1] 40] := Tr.arr (St.arrOf hS900 (.one (.tl .hd) (.one (.tl .hd) (.one (.tl .hd) (.one (.tl .hd) (.one (.tl .hd) (.one (.tl .hd) (.one (.tl .hd) (.one (.tl .hd) (.one (.tl .hd) (.one (.tl .hd) (.one (.tl .hd) .done))))))))))))
                        exact hJ917 u873 _ _ ⟨rfl, rfl, rfl, rfl, rfl, rfl, rfl, trivial⟩ ⟨hS924, hT925⟩ h
                · skip
                  refine MX.exit rfl ?_
                  have h := hh881 _ h
                  try dsimp only at h
                  refine MX.seq ?_
                  refine MX.region ?_
                  refine RG.val' .plain (FV.move rfl) rfl ?_
                  refine RG.val' .plain (FV.load1 (by kernel_rfl) rfl ((hS875.memA (.tl (.tl (.tl (.tl (.tl .hd)))))) 0 _ rfl)) rfl ?_
                  refine RG.val' .plain (FV.nilCheck rfl) rfl ?_
                  refine RG.val' .plain (FV.fieldAddr (off := 3) (by kernel_rfl) rfl) rfl ?_
                  refine RG.val' .plain (FV.load1 (by kernel_rfl) rfl ((hS875.memA (.tl (.tl (.tl (.tl (.tl (.tl (.tl .hd)))))))) 3 _ rfl)) rfl ?_
                  refine RG.val' .plain (FV.andU (a := u873) (b := a1) rfl rfl) rfl ?_
                  refine RG.val' .plain (FV.assign rfl) rfl ?_
                  refine RG.nil ?_
                  refine MX.block ?_
                  have hm994 := Cells.mv hc814 (Tr.trans hT817 hT876)
                  obtain ⟨o1005, ho1004, hh1006⟩ := bind_in2 h
                  refine MX.loop (α := UInt64 × (List Int) × Value × (List Value)) (fun ⟨u995, xs996, v999, cs997⟩ => [(0, .func (.yield lk818) #[] #[]), (4, .int .u64 (u995.toNat : Int))]) (fun ⟨u995, xs996, v999, cs997⟩ wx999 => St w wx999 [.obj lk818 (lpO r820 .ready none), .obj D819 (.deferred (some [])), .row w.heap.size 3 (Rep.size Int) v999 xs996.length cs997, .cells b810 [v999] 22, .cells b801 [.int .i64 z752] 3, .cells b796 [.pointer (some ⟨b95, 0, none⟩)] 72, .row w.heap.size 3 (Rep.size Int) v756 xs753.length cs754, .cells b95 [.int .u64 (u757.toNat : Int), .int .i64 a0.fN, v0_1, .int .u64 (a1.toNat : Int), .int .i64 s786] 74, .cells b15 [.int .u64 0] 37, .cells b10 [.int .u64 (a4.fState.toNat : Int)] 37, .cells b5 [.int .i64 a0.fN, v0_1] 40] ∧ Tr wx874 [.obj lk818 (lpO r820 .ready none), .obj D819 (.deferred (some [])), .row w.heap.size 3 (Rep.size Int) (.slice none 0 0) (([] : List Int).length) [], .cells b810 [(.slice none 0 0)] 22, .cells b801 [.int .i64 z752] 3, .cells b796 [.pointer (some ⟨b95, 0, none⟩)] 72, .row w.heap.size 3 (Rep.size Int) v756 xs753.length cs754, .cells b95 [.int .u64 (u757.toNat : Int), .int .i64 a0.fN, v0_1, .int .u64 (a1.toNat : Int), .int .i64 s786] 74, .cells b15 [.int .u64 0] 37, .cells b10 [.int .u64 (a4.fState.toNat : Int)] 37, .cells b5 [.int .i64 a0.fN, v0_1] 40] wx999 [.obj lk818 (lpO r820 .ready none), .obj D819 (.deferred (some [])), .row w.heap.size 3 (Rep.size Int) v999 xs996.length cs997, .cells b810 [v999] 22, .cells b801 [.int .i64 z752] 3, .cells b796 [.pointer (some ⟨b95, 0, none⟩)] 72, .row w.heap.size 3 (Rep.size Int) v756 xs753.length cs754, .cells b95 [.int .u64 (u757.toNat : Int), .int .i64 a0.fN, v0_1, .int .u64 (a1.toNat : Int), .int .i64 s786] 74, .cells b15 [.int .u64 0] 37, .cells b10 [.int .u64 (a4.fState.toNat : Int)] 37, .cells b5 [.int .i64 a0.fN, v0_1] 40] ∧ Cells wx999 (bl [.obj lk818 (lpO r820 .ready none), .obj D819 (.deferred (some [])), .row w.heap.size 3 (Rep.size Int) v999 xs996.length cs997, .cells b810 [v999] 22, .cells b801 [.int .i64 z752] 3, .cells b796 [.pointer (some ⟨b95, 0, none⟩)] 72, .row w.heap.size 3 (Rep.size Int) v756 xs753.length cs754, .cells b95 [.int .u64 (u757.toNat : Int), .int .i64 a0.fN, v0_1, .int .u64 (a1.toNat : Int), .int .i64 s786] 74, .cells b15 [.int .u64 0] 37, .cells b10 [.int .u64 (a4.fState.toNat : Int)] 37, .cells b5 [.int .i64 a0.fN, v0_1] 40] ++ L) cs997 xs996) (fun ⟨u995, xs996, v999, cs997⟩ => (u995, xs996)) (u873 &&& a1, ([] : List Int), (.slice none 0 0), []) ho1004 ⟨rfl, rfl, trivial⟩ ⟨hS875, Tr.refl _ _, hm994⟩ ?_
                  rintro J1007 ⟨u995, xs996, v999, cs997⟩ wx999 hJ1008 ⟨hS1000, hT1001, hc998⟩ h
                  unfold wilson_Walk_l1 at h
                  try dsimp only at h
                  refine MX.seq ?_
                  refine MX.seq ?_
                  refine MX.region ?_
                  refine RG.val' .plain (FV.move rfl) rfl ?_
                  refine RG.val' .plain (FV.neqU (a := u995) (b := (0 : UInt64)) rfl rfl) rfl ?_
                  refine RG.nil ?_
                  refine MX.ifn rfl h (fun c1009 h => ?_) (fun c1009 h => ?_)
                  · skip
                    refine MX.exit rfl ?_
                    have h := hh1006 _ h
                    try dsimp only at h
                    refine MX.fin rfl ?_
                    refine RT.leave (u := .tuple #[]) hb822 Tryd.func86 rfl .nil rfl ?_
                    refine MX.endRange0 hS1000 .hd (by intro h9; cases h9) (fun w1010 hS1011 hT1012 => ?_)
                    have hS1013 : St _ _ [.obj D819 (.deferred (some [])), .row w.heap.size 3 (Rep.size Int) v999 xs996.length cs997, .cells b810 [v999] 22, .cells b801 [.int .i64 z752] 3, .cells b796 [.pointer (some ⟨b95, 0, none⟩)] 72, .row w.heap.size 3 (Rep.size Int) v756 xs753.length cs754, .cells b95 [.int .u64 (u757.toNat : Int), .int .i64 a0.fN, v0_1, .int .u64 (a1.toNat : Int), .int .i64 s786] 74, .cells b15 [.int .u64 0] 37, .cells b10 [.int .u64 (a4.fState.toNat : Int)] 37, .cells b5 [.int .i64 a0.fN, v0_1] 40] := hS1011.arr (.one (.tl .hd) (.one (.tl .hd) (.one (.tl .hd) (.one (.tl .hd) (.one (.tl .hd) (.one (.tl .hd) (.one (.tl .hd) (.one (.tl .hd) (.one (.tl .hd) (.one (.tl .hd) .done))))))))))
                    have hT1014 : Tr w1010 _ w1010 [.obj D819 (.deferred (some [])), .row w.heap.size 3 (Rep.size Int) v999 xs996.length cs997, .cells b810 [v999] 22, .cells b801 [.int .i64 z752] 3, .cells b796 [.pointer (some ⟨b95, 0, none⟩)] 72, .row w.heap.size 3 (Rep.size Int) v756 xs753.length cs754, .cells b95 [.int .u64 (u757.toNat : Int), .int .i64 a0.fN, v0_1, .int .u64 (a1.toNat : Int), .int .i64 s786] 74, .cells b15 [.int .u64 0] 37, .cells b10 [.int .u64 (a4.fState.toNat : Int)] 37, .cells b5 [.int .i64 a0.fN, v0_1] 40] := Tr.arr (St.arrOf hS1011 (.one (.tl .hd) (.one (.tl .hd) (.one (.tl .hd) (.one (.tl .hd) (.one (.tl .hd) (.one (.tl .hd) (.one (.tl .hd) (.one (.tl .hd) (.one (.tl .hd) (.one (.tl .hd) .done)))))))))))
                    refine MX.inBlock ?_
                    refine MX.seq ?_
                    refine MX.region ?_
                    refine RG.val' .plain (FV.load1 (by kernel_rfl) rfl ((hS1013.memA (.tl (.tl .hd))) 0 _ rfl)) rfl ?_
                    refine RG.val' .plain (FV.assign rfl) rfl ?_
                    refine RG.nil ?_
                    refine MX.ret rfl ?_
                    refine RT.take hS1013 .hd (fun w1015 hS1016 hT1017 => ?_)
                    have hS1018 : St _ _ [.row w.heap.size 3 (Rep.size Int) v999 xs996.length cs997, .cells b810 [v999] 22, .cells b801 [.int .i64 z752] 3, .cells b796 [.pointer (some ⟨b95, 0, none⟩)] 72, .row w.heap.size 3 (Rep.size Int) v756 xs753.length cs754, .cells b95 [.int .u64 (u757.toNat : Int), .int .i64 a0.fN, v0_1, .int .u64 (a1.toNat : Int), .int .i64 s786] 74, .cells b15 [.int .u64 0] 37, .cells b10 [.int .u64 (a4.fState.toNat : Int)] 37, .cells b5 [.int .i64 a0.fN, v0_1] 40] := hS1016.arr (.one (.tl .hd) (.one (.tl .hd) (.one (.tl .hd) (.one (.tl .hd) (.one (.tl .hd) (.one (.tl .hd) (.one (.tl .hd) (.one (.tl .hd) (.one (.tl .hd) .done)))))))))
                    have hT1019 : Tr w1015 _ w1015 [.row w.heap.size 3 (Rep.size Int) v999 xs996.length cs997, .cells b810 [v999] 22, .cells b801 [.int .i64 z752] 3, .cells b796 [.pointer (some ⟨b95, 0, none⟩)] 72, .row w.heap.size 3 (Rep.size Int) v756 xs753.length cs754, .cells b95 [.int .u64 (u757.toNat : Int), .int .i64 a0.fN, v0_1, .int .u64 (a1.toNat : Int), .int .i64 s786] 74, .cells b15 [.int .u64 0] 37, .cells b10 [.int .u64 (a4.fState.toNat : Int)] 37, .cells b5 [.int .i64 a0.fN, v0_1] 40] := Tr.arr (St.arrOf hS1016 (.one (.tl .hd) (.one (.tl .hd) (.one (.tl .hd) (.one (.tl .hd) (.one (.tl .hd) (.one (.tl .hd) (.one (.tl .hd) (.one (.tl .hd) (.one (.tl .hd) .done))))))))))
                    refine RT.leave (u := v999) hb804 Tryd.func85 rfl (.cons (.tmp rfl) .nil) rfl ?_
                    refine RG.val' .plain (FV.assign rfl) rfl ?_
                    refine RG.nil ?_
                    refine MX.ret rfl ?_
                    refine RT.leave (u := v999) hb802 Tryd.func63 rfl (.cons (.tmp rfl) .nil) rfl ?_
                    refine RG.val' .plain (FV.move rfl) rfl ?_
                    refine RG.enter (fst := []) (cap := []) (vs := [v999, .func (.func 61) #[.pointer (some ⟨b95, 0, none⟩)] #[]]) .plain body62 Tryd.func62 rfl rfl rfl rfl (evs_cons rfl (evs_cons rfl evs_nil)) rfl (fun cs1021 hb1020 => ?_)
                    refine MX.seq ?_
                    refine MX.region ?_
                    refine RG.val' .plain (FV.assign rfl) rfl ?_
                    refine RG.val' .plain (FV.assign rfl) rfl ?_
                    refine RG.nil ?_
                    refine MX.seq ?_
                    refine MX.region ?_
                    refine RG.val' .plain (FV.move rfl) rfl ?_
                    refine RG.val' .plain (FV.move rfl) rfl ?_
                    have hl1022 : xs996.length ≤ 4294967296 := St.rowLe (α := Int) hS1018 .hd
                    obtain ⟨A1023, c1024, he1025⟩ := St.rowV (α := Int) hS1018 .hd
                    refine RG.val' .plain (FV.lenV Tryd.underlying22 rfl he1025) rfl ?_
                    refine RG.enter (fst := [.pointer (some ⟨b95, 0, none⟩)]) (cap := []) (vs := [.int .i64 ((xs996.length : Nat) : Int)]) .plain body61 Tryd.func61 rfl rfl rfl rfl (evs_cons rfl evs_nil) rfl (fun cs1027 hb1026 => ?_)
                    refine MX.seq ?_
                    refine MX.region ?_
                    refine RG.val' .plain (FV.assign rfl) rfl ?_
                    refine RG.val' .plain (FV.assign rfl) rfl ?_
                    refine RG.nil ?_
                    refine MX.seq ?_
                    refine MX.region ?_
                    refine RG.val' .plain (FV.move rfl) rfl ?_
                    refine RG.val' .plain (FV.nilCheck rfl) rfl ?_
                    refine RG.val' .plain (FV.fieldAddr (off := 0) (by kernel_rfl) rfl) rfl ?_
                    refine RG.val' .plain (FV.loadN (cs := [.int .u64 (u757.toNat : Int)]) (by kernel_rfl) rfl (mem_part (hS1018.memA (.tl (.tl (.tl (.tl (.tl .hd)))))) 0 1)) rfl ?_
                    refine RG.val' .plain (FV.move rfl) rfl ?_
                    obtain ⟨y1028, hy1028, h⟩ := bind_in h
                    refine RG.callq' (v := .tuple #[.int .i64 y1028.1, .agg #[.int .u64 (y1028.2.1.fState.toNat : Int)], .int .i64 y1028.2.2]) (fst := []) (cap := []) .plain body29 rfl (evs_cons rfl (evs_cons rfl evs_nil)) (fun w9 hw9 => chance_Below_c n _ w9 (hS1018.hL0 hL hw9) (⟨u757⟩ : TChance) ((xs996.length : Nat) : Int) hy1028) rfl ?_
                    refine RG.val' .plain (FV.move rfl) rfl ?_
                    refine RG.val' .plain (FV.extract rfl rfl) rfl ?_
                    refine RG.val' .plain (FV.extract rfl rfl) rfl ?_
                    refine RG.val' .plain (FV.extract rfl rfl) rfl ?_
                    refine RG.new .plain rfl (Does.alloc (zs := [.int .u64 0]) hS1018 (zB (by kernel_rfl))) (fun w1030 b1033 hS1031 hT1032 => ?_)
                    refine RG.val' .plain (FV.assign rfl) rfl ?_
                    refine RG.now .plain (Acts.store (j := 0) (old := [.int .u64 0]) (news := [.int .u64 (y1028.2.1.fState.toNat : Int)]) (new' := [.int .u64 (y1028.2.1.fState.toNat : Int)]) hS1031 .hd rfl rfl rfl rfl rfl rfl (ones_cons rfl ones_nil) rfl) (fun w1034 hS1035 hT1036 => ?_)
                    refine RG.val' .plain (FV.assign rfl) rfl ?_
                    refine RG.nil ?_
                    refine MX.seq ?_
                    refine MX.region ?_
                    refine RG.val' .plain (FV.move rfl) rfl ?_
                    refine RG.val' .plain (FV.loadN (cs := [.int .u64 (y1028.2.1.fState.toNat : Int)]) (by kernel_rfl) rfl (hS1035.memA .hd)) rfl ?_
                    refine RG.val' .plain (FV.nilCheck rfl) rfl ?_
                    refine RG.val' .plain (FV.fieldAddr (off := 0) (by kernel_rfl) rfl) rfl ?_
                    refine RG.now .plain (Acts.store (j := 0) (old := [.int .u64 (u757.toNat : Int), .int .i64 a0.fN, v0_1, .int .u64 (a1.toNat : Int), .int .i64 s786]) (news := [.int .u64 (y1028.2.1.fState.toNat : Int)]) (new' := [.int .u64 (y1028.2.1.fState.toNat : Int), .int .i64 a0.fN, v0_1, .int .u64 (a1.toNat : Int), .int .i64 s786]) hS1035 (.tl (.tl (.tl (.tl (.tl (.tl .hd)))))) rfl rfl rfl rfl rfl rfl (ones_cons rfl ones_nil) rfl) (fun w1037 hS1038 hT1039 => ?_)
                    refine RG.nil ?_
                    refine MX.seq ?_
                    refine MX.region ?_
                    refine RG.val' .plain (FV.move rfl) rfl ?_
                    refine RG.val' .plain (FV.move rfl) rfl ?_
                    refine RG.val' .plain (FV.assign rfl) rfl ?_
                    refine RG.val' .plain (FV.assign rfl) rfl ?_
                    refine RG.nil ?_
                    refine MX.ret rfl ?_
                    refine RT.leave (u := .tuple #[.int .i64 y1028.1, .int .i64 y1028.2.2]) hb1026 Tryd.func61 rfl (.cons (.tmp rfl) (.cons (.tmp rfl) .nil)) rfl ?_
                    refine RG.val' .plain (FV.move rfl) rfl ?_
                    refine RG.val' .plain (FV.extract rfl rfl) rfl ?_
                    refine RG.val' .plain (FV.extract rfl rfl) rfl ?_
                    refine RG.val' .plain (FV.assign rfl) rfl ?_
                    refine RG.val' .plain (FV.assign rfl) rfl ?_
                    refine RG.nil ?_
                    refine MX.seq ?_
                    refine MX.seq ?_
                    refine MX.region ?_
                    refine RG.val' .plain (FV.move rfl) rfl ?_
                    refine RG.val' .plain (FV.neq (i := y1028.2.2) (j := 0) rfl rfl) rfl ?_
                    refine RG.nil ?_
                    refine MX.ifn rfl h (fun c1040 h => ?_) (fun c1040 h => ?_)
                    · skip
                      refine MX.skip ?_
                      refine MX.seq ?_
                      refine MX.region ?_
                      refine RG.val' .plain (FV.move rfl) rfl ?_
                      refine RG.val' .plain (FV.move rfl) rfl ?_
                      obtain ⟨x1041, hx1041, h⟩ := bind_in h
                      obtain ⟨hi1042, hx1043⟩ := idx_in hx1041
                      have hm1051 := Cells.mv hc998 (Tr.trans hT1012 (Tr.trans hT1014 (Tr.trans hT1017 (Tr.trans hT1019 (Tr.trans hT1032 (Tr.trans hT1036 hT1039))))))
                      obtain ⟨A1044, c1045, he1046, hk1047, cs1048, hr1049, hm1050⟩ := St.nth (α := Int) hS1038 (.tl .hd) hm1051 hx1043
                      obtain ⟨b1052, c1053, he1054⟩ := St.nthOwn (α := Int) hS1038 (.tl .hd) hk1047
                      obtain rfl : A1044 = ⟨b1052, 0, none⟩ := by rw [he1054] at he1046; cases he1046; rfl
                      have he1055 : cs1048 = [.int .i64 x1041] := hr1049; subst he1055
                      refine RG.val' .plain (FV.idxAddr (m := 1) (i := y1028.1.toNat) (by kernel_rfl) rfl he1046 rfl hi1042 hk1047) rfl ?_
                      refine RG.val' .plain (FV.load1 (by kernel_rfl) rfl (hm1050 0 _ rfl)) rfl ?_
                      refine RG.val' .plain (FV.assign rfl) rfl ?_
                      refine RG.val' .plain (FV.assign rfl) rfl ?_
                      refine RG.nil ?_
                      refine MX.ret rfl ?_
                      refine RT.leave (u := .tuple #[.int .i64 x1041, .int .i64 0]) hb1020 Tryd.func62 rfl (.cons (.tmp rfl) (.cons (.tmp rfl) .nil)) rfl ?_
                      refine RG.val' .plain (FV.move rfl) rfl ?_
                      refine RG.val' .plain (FV.extract rfl rfl) rfl ?_
                      refine RG.val' .plain (FV.extract rfl rfl) rfl ?_
                      refine RG.val' .plain (FV.assign rfl) rfl ?_
                      refine RG.val' .plain (FV.assign rfl) rfl ?_
                      refine RG.nil ?_
                      refine MX.seq ?_
                      refine MX.seq ?_
                      refine MX.region ?_
                      refine RG.val' .plain (FV.move rfl) rfl ?_
                      refine RG.val' .plain (FV.neqN (i := 0) (j := 0) rfl rfl) rfl ?_
                      refine RG.nil ?_
                      refine MX.cond_f rfl ?_
                      refine MX.skip ?_
                      refine MX.seq ?_
                      refine MX.region ?_
                      refine RG.val' .plain (FV.move rfl) rfl ?_
                      refine RG.val' .plain (FV.assign rfl) rfl ?_
                      refine RG.nil ?_
                      refine MX.region ?_
                      refine RG.val' .plain (FV.move rfl) rfl ?_
                      refine RG.val' .plain (FV.move rfl) rfl ?_
                      refine RG.new .plain rfl (Does.build (α := Int) (xs := ([x1041] : List Int)) (vs := [.int .i64 x1041]) (ds' := [.int .i64 x1041]) rfl hS1038 el22 rfl (evs_cons rfl evs_nil) (by kernel_rfl) rfl) (fun w1057 b1060 hS1058 hT1059 => ?_)
                      have hc1061 : Cells w1057 (bl [.row w.heap.size 3 (Rep.size Int) (.slice (some ⟨b1060, 0, none⟩) 1 1) (([x1041] : List Int).length) [.int .i64 x1041], .cells b1033 [.int .u64 (y1028.2.1.fState.toNat : Int)] 37, .row w.heap.size 3 (Rep.size Int) v999 xs996.length cs997, .cells b810 [v999] 22, .cells b801 [.int .i64 z752] 3, .cells b796 [.pointer (some ⟨b95, 0, none⟩)] 72, .row w.heap.size 3 (Rep.size Int) v756 xs753.length cs754, .cells b95 [.int .u64 (y1028.2.1.fState.toNat : Int), .int .i64 a0.fN, v0_1, .int .u64 (a1.toNat : Int), .int .i64 s786] 74, .cells b15 [.int .u64 0] 37, .cells b10 [.int .u64 (a4.fState.toNat : Int)] 37, .cells b5 [.int .i64 a0.fN, v0_1] 40] ++ L) [.int .i64 x1041] (([x1041] : List Int) : List Int) := Cells.cons (cs := [.int .i64 x1041]) (ds := []) rfl (Cells.nil _ _)
                      obtain ⟨xs1062, hxs1062, h⟩ := bind_in h
                      have hm1063 := Cells.mv hc755 (Tr.trans hT789 (Tr.trans hT795 (Tr.trans hT800 (Tr.trans hT809 (Tr.trans hT813 (Tr.trans hT817 (Tr.trans hT876 (Tr.trans hT1001 (Tr.trans hT1012 (Tr.trans hT1014 (Tr.trans hT1017 (Tr.trans hT1019 (Tr.trans hT1032 (Tr.trans hT1036 (Tr.trans hT1039 hT1059)))))))))))))))
                      refine RG.doesL .plain rfl (DoesL.app (α := Int) (ys := ([x1041] : List Int)) (F := fun v' cs' => [.row w.heap.size 3 (Rep.size Int) (.slice (some ⟨b1060, 0, none⟩) 1 1) (([x1041] : List Int).length) [.int .i64 x1041], .cells b1033 [.int .u64 (y1028.2.1.fState.toNat : Int)] 37, .row w.heap.size 3 (Rep.size Int) v999 xs996.length cs997, .cells b810 [v999] 22, .cells b801 [.int .i64 z752] 3, .cells b796 [.pointer (some ⟨b95, 0, none⟩)] 72, .row w.heap.size 3 (Rep.size Int) v' xs1062.length cs', .cells b95 [.int .u64 (y1028.2.1.fState.toNat : Int), .int .i64 a0.fN, v0_1, .int .u64 (a1.toNat : Int), .int .i64 s786] 74, .cells b15 [.int .u64 0] 37, .cells b10 [.int .u64 (a4.fState.toNat : Int)] 37, .cells b5 [.int .i64 a0.fN, v0_1] 40]) hxs1062 hS1058 (fun _ _ => (.tl (.tl (.tl (.tl (.tl (.tl .hd))))))) el22 rfl rfl hm1063 (Src.row (α := Int) hS1058 .hd hc1061)) (fun v1069 w1064 ⟨cs1068, hS1065, hT1066, hc1067⟩ => ?_)
                      refine RG.val' .plain (FV.assign rfl) rfl ?_
                      refine RG.nil ?_
                      refine MX.inBlock ?_
                      have hS1071 : St _ _ [.row w.heap.size 3 (Rep.size Int) v1069 xs1062.length cs1068, .cells b95 [.int .u64 (y1028.2.1.fState.toNat : Int), .int .i64 a0.fN, v0_1, .int .u64 (a1.toNat : Int), .int .i64 s786] 74, .cells b15 [.int .u64 0] 37, .cells b10 [.int .u64 (a4.fState.toNat : Int)] 37, .cells b5 [.int .i64 a0.fN, v0_1] 40] := hS1065.arr (.one (.tl (.tl (.tl (.tl (.tl (.tl .hd)))))) (.one (.tl (.tl (.tl (.tl (.tl (.tl .hd)))))) (.one (.tl (.tl (.tl (.tl (.tl (.tl .hd)))))) (.one (.tl (.tl (.tl (.tl (.tl (.tl .hd)))))) (.one (.tl (.tl (.tl (.tl (.tl (.tl .hd)))))) .done)))))
                      have hT1072 : Tr w1064 _ w1064 [.row w.heap.size 3 (Rep.size Int) v1069 xs1062.length cs1068, .cells b95 [.int .u64 (y1028.2.1.fState.toNat : Int), .int .i64 a0.fN, v0_1, .int .u64 (a1.toNat : Int), .int .i64 s786] 74, .cells b15 [.int .u64 0] 37, .cells b10 [.int .u64 (a4.fState.toNat : Int)] 37, .cells b5 [.int .i64 a0.fN, v0_1] 40] := Tr.arr (St.arrOf hS1065 (.one (.tl (.tl (.tl (.tl (.tl (.tl .hd)))))) (.one (.tl (.tl (.tl (.tl (.tl (.tl .hd)))))) (.one (.tl (.tl (.tl (.tl (.tl (.tl .hd)))))) (.one (.tl (.tl (.tl (.tl (.tl (.tl .hd)))))) (.one (.tl (.tl (.tl (.tl (.tl (.tl .hd)))))) .done))))))
                      have hm1073 := Cells.mv hc1067 hT1072
                      exact hJ767 (x1041, xs1062, y1028.2.1.fState, s786, v1069, cs1068) _ _ ⟨rfl, rfl, rfl, rfl, rfl, trivial⟩ ⟨hS1071, (Tr.trans hT760 (Tr.trans hT789 (Tr.trans hT795 (Tr.trans hT800 (Tr.trans hT809 (Tr.trans hT813 (Tr.trans hT817 (Tr.trans hT876 (Tr.trans hT1001 (Tr.trans hT1012 (Tr.trans hT1014 (Tr.trans hT1017 (Tr.trans hT1019 (Tr.trans hT1032 (Tr.trans hT1036 (Tr.trans hT1039 (Tr.trans hT1059 (Tr.trans hT1066 hT1072)))))))))))))))))), hm1073⟩ h
                    · skip
                      refine MX.seq ?_
                      refine MX.region ?_
                      refine RG.val' .plain (FV.assign rfl) rfl ?_
                      refine RG.nil ?_
                      refine MX.seq ?_
                      refine MX.region ?_
                      refine RG.val' .plain (FV.move rfl) rfl ?_
                      refine RG.val' .plain (FV.move rfl) rfl ?_
                      refine RG.val' .plain (FV.assign rfl) rfl ?_
                      refine RG.val' .plain (FV.assign rfl) rfl ?_
                      refine RG.nil ?_
                      refine MX.ret rfl ?_
                      refine RT.leave (u := .tuple #[.int .i64 0, .int .i64 y1028.2.2]) hb1020 Tryd.func62 rfl (.cons (.tmp rfl) (.cons (.tmp rfl) .nil)) rfl ?_
                      refine RG.val' .plain (FV.move rfl) rfl ?_
                      refine RG.val' .plain (FV.extract rfl rfl) rfl ?_
                      refine RG.val' .plain (FV.extract rfl rfl) rfl ?_
                      refine RG.val' .plain (FV.assign rfl) rfl ?_
                      refine RG.val' .plain (FV.assign rfl) rfl ?_
                      refine RG.nil ?_
                      refine MX.seq ?_
                      refine MX.seq ?_
                      refine MX.region ?_
                      refine RG.val' .plain (FV.move rfl) rfl ?_
                      refine RG.val' .plain (FV.neq (i := y1028.2.2) (j := 0) rfl rfl) rfl ?_
                      refine RG.nil ?_
                      refine MX.cond_kt rfl (not_of (decide_eq_false c1040)) ?_
                      refine MX.seq ?_
                      refine MX.region ?_
                      refine RG.val' .plain (FV.move rfl) rfl ?_
                      refine RG.val' .plain (FV.assign rfl) rfl ?_
                      refine RG.val' .plain (FV.assign rfl) rfl ?_
                      refine RG.nil ?_
                      have h := thn_inl h hh765
                      refine MX.ret rfl ?_
                      refine RT.leave (u := .tuple #[.slice none 0 0, .int .i64 y1028.2.2]) hb96 Tryd.func34 rfl (.cons (.tmp rfl) (.cons (.tmp rfl) .nil)) rfl ?_
                      refine RG.val' .plain (FV.move rfl) rfl ?_
                      refine RG.val' .plain (FV.extract rfl rfl) rfl ?_
                      refine RG.val' .plain (FV.extract rfl rfl) rfl ?_
                      refine RG.val' .plain (FV.assign rfl) rfl ?_
                      refine RG.val' .plain (FV.assign rfl) rfl ?_
                      refine RG.nil ?_
                      refine MX.seq ?_
                      refine MX.region ?_
                      refine RG.val' .plain (FV.move rfl) rfl ?_
                      refine RG.val' .plain (FV.neq (i := y1028.2.2) (j := 0) rfl rfl) rfl ?_
                      refine RG.nil ?_
                      refine MX.cond_kt rfl (not_of (decide_eq_false c1040)) ?_
                      refine MX.seq ?_
                      refine MX.region ?_
                      refine RG.val' .plain (FV.buildV (vs := []) (u := .agg #[.int .u64 0]) evs_nil (fun w9 => by kernel_rfl)) rfl ?_
                      refine RG.val' .plain (FV.move rfl) rfl ?_
                      refine RG.val' .plain (FV.assign rfl) rfl ?_
                      refine RG.now .plain (Acts.store (j := 0) (old := [.int .u64 0]) (news := [.int .u64 0]) (new' := [.int .u64 0]) hS1038 (.tl (.tl (.tl (.tl (.tl (.tl (.tl .hd))))))) rfl rfl rfl rfl rfl rfl (ones_cons rfl ones_nil) rfl) (fun w1074 hS1075 hT1076 => ?_)
                      refine RG.val' .plain (FV.assign rfl) rfl ?_
                      refine RG.nil ?_
                      refine MX.ret rfl ?_
                      have hr1077 : Rep.R w1074 (bl [.cells b1033 [.int .u64 (y1028.2.1.fState.toNat : Int)] 37, .row w.heap.size 3 (Rep.size Int) v999 xs996.length cs997, .cells b810 [v999] 22, .cells b801 [.int .i64 z752] 3, .cells b796 [.pointer (some ⟨b95, 0, none⟩)] 72, .row w.heap.size 3 (Rep.size Int) v756 xs753.length cs754, .cells b95 [.int .u64 (y1028.2.1.fState.toNat : Int), .int .i64 a0.fN, v0_1, .int .u64 (a1.toNat : Int), .int .i64 s786] 74, .cells b15 [.int .u64 0] 37, .cells b10 [.int .u64 (a4.fState.toNat : Int)] 37, .cells b5 [.int .i64 a0.fN, v0_1] 40] ++ L) [.slice none 0 0] ([] : List Int) := Rep.nilSlice _ _
                      refine RT.leave (u := .tuple #[.slice none 0 0, .agg #[.int .u64 0], .int .i64 y1028.2.2]) hb0 Tryd.func15 rfl (.cons (.tmp rfl) (.cons (.many (cs := [.int .u64 0]) (by kernel_rfl) rfl (hS1075.memA (.tl (.tl (.tl (.tl (.tl (.tl (.tl .hd))))))))) (.cons (.tmp rfl) .nil))) rfl ?_
                      obtain rfl := Option.some.inj h
                      have hr1078 : Rep.R w1074 (bl [.cells b1033 [.int .u64 (y1028.2.1.fState.toNat : Int)] 37, .row w.heap.size 3 (Rep.size Int) v999 xs996.length cs997, .cells b810 [v999] 22, .cells b801 [.int .i64 z752] 3, .cells b796 [.pointer (some ⟨b95, 0, none⟩)] 72, .row w.heap.size 3 (Rep.size Int) v756 xs753.length cs754, .cells b95 [.int .u64 (y1028.2.1.fState.toNat : Int), .int .i64 a0.fN, v0_1, .int .u64 (a1.toNat : Int), .int .i64 s786] 74, .cells b15 [.int .u64 0] 37, .cells b10 [.int .u64 (a4.fState.toNat : Int)] 37, .cells b5 [.int .i64 a0.fN, v0_1] 40] ++ L) [.slice none 0 0] ([] : List Int) := Rep.nilSlice _ _
                      exact ⟨hS1075.ag, fun w9 hw9 => ⟨(.slice none 0 0), rfl, Rep.keep0 (Rep.dropO (O := [.cells b1033 [.int .u64 (y1028.2.1.fState.toNat : Int)] 37, .row w.heap.size 3 (Rep.size Int) v999 xs996.length cs997, .cells b810 [v999] 22, .cells b801 [.int .i64 z752] 3, .cells b796 [.pointer (some ⟨b95, 0, none⟩)] 72, .row w.heap.size 3 (Rep.size Int) v756 xs753.length cs754, .cells b95 [.int .u64 (y1028.2.1.fState.toNat : Int), .int .i64 a0.fN, v0_1, .int .u64 (a1.toNat : Int), .int .i64 s786] 74, .cells b15 [.int .u64 0] 37, .cells b10 [.int .u64 (a4.fState.toNat : Int)] 37, .cells b5 [.int .i64 a0.fN, v0_1] 40]) hr1078) hw9⟩⟩
                  · skip
                    refine MX.skip ?_
                    refine MX.seq ?_
                    refine MX.block ?_
                    refine MX.seq ?_
                    refine MX.region ?_
                    refine RG.val' .plain (FV.move rfl) rfl ?_
                    refine RG.val' .plain (FV.move rfl) rfl ?_
                    obtain ⟨y1079, hy1079, h⟩ := bind_in h
                    refine RG.callq' (v := .int .i64 y1079) (fst := []) (cap := []) .plain body77 rfl (evs_cons rfl evs_nil) (fun w9 hw9 => math_bits_TrailingZeros64_c n _ w9 (hS1000.hL0 hL hw9) u995 (hG0.keep (hS1000.ag.trans hw9)) hy1079) rfl ?_
                    refine RG.yield (vs := [.int .i64 y1079]) .plain rfl (evs_cons rfl evs_nil) hS1000 .hd rec821 rfl rfl rfl (fun cs1081 hb1080 => ?_)
                    refine MX.region ?_
                    refine RG.val' .plain (FV.assign rfl) rfl ?_
                    refine RG.nil ?_
                    refine MX.begin hS1000 .hd (fun w1082 hS1083 hT1084 => ?_)
                    refine MX.block ?_
                    refine MX.region ?_
                    refine RG.val' .plain (FV.load1 (by kernel_rfl) rfl ((hS1083.memA (.tl (.tl (.tl .hd)))) 0 _ rfl)) rfl ?_
                    refine RG.val' .plain (FV.move rfl) rfl ?_
                    refine RG.new .plain rfl (Does.build (α := Int) (xs := ([y1079] : List Int)) (vs := [.int .i64 y1079]) (ds' := [.int .i64 y1079]) rfl hS1083 el22 rfl (evs_cons rfl evs_nil) (by kernel_rfl) rfl) (fun w1086 b1089 hS1087 hT1088 => ?_)
                    have hc1090 : Cells w1086 (bl [.row w.heap.size 3 (Rep.size Int) (.slice (some ⟨b1089, 0, none⟩) 1 1) (([y1079] : List Int).length) [.int .i64 y1079], .obj lk818 (lpO r820 .busy none), .obj D819 (.deferred (some [])), .row w.heap.size 3 (Rep.size Int) v999 xs996.length cs997, .cells b810 [v999] 22, .cells b801 [.int .i64 z752] 3, .cells b796 [.pointer (some ⟨b95, 0, none⟩)] 72, .row w.heap.size 3 (Rep.size Int) v756 xs753.length cs754, .cells b95 [.int .u64 (u757.toNat : Int), .int .i64 a0.fN, v0_1, .int .u64 (a1.toNat : Int), .int .i64 s786] 74, .cells b15 [.int .u64 0] 37, .cells b10 [.int .u64 (a4.fState.toNat : Int)] 37, .cells b5 [.int .i64 a0.fN, v0_1] 40] ++ L) [.int .i64 y1079] (([y1079] : List Int) : List Int) := Cells.cons (cs := [.int .i64 y1079]) (ds := []) rfl (Cells.nil _ _)
                    obtain ⟨xs1091, hxs1091, h⟩ := bind_in h
                    have hm1092 := Cells.mv hc998 (Tr.trans hT1084 hT1088)
                    refine RG.doesL .plain rfl (DoesL.app (α := Int) (ys := ([y1079] : List Int)) (F := fun v' cs' => [.row w.heap.size 3 (Rep.size Int) (.slice (some ⟨b1089, 0, none⟩) 1 1) (([y1079] : List Int).length) [.int .i64 y1079], .obj lk818 (lpO r820 .busy none), .obj D819 (.deferred (some [])), .row w.heap.size 3 (Rep.size Int) v' xs1091.length cs', .cells b810 [v999] 22, .cells b801 [.int .i64 z752] 3, .cells b796 [.pointer (some ⟨b95, 0, none⟩)] 72, .row w.heap.size 3 (Rep.size Int) v756 xs753.length cs754, .cells b95 [.int .u64 (u757.toNat : Int), .int .i64 a0.fN, v0_1, .int .u64 (a1.toNat : Int), .int .i64 s786] 74, .cells b15 [.int .u64 0] 37, .cells b10 [.int .u64 (a4.fState.toNat : Int)] 37, .cells b5 [.int .i64 a0.fN, v0_1] 40]) hxs1091 hS1087 (fun _ _ => (.tl (.tl (.tl .hd)))) el22 rfl rfl hm1092 (Src.row (α := Int) hS1087 .hd hc1090)) (fun v1098 w1093 ⟨cs1097, hS1094, hT1095, hc1096⟩ => ?_)
                    refine RG.now .plain (Acts.store (j := 0) (old := [v999]) (news := [v1098]) (new' := [v1098]) hS1094 (.tl (.tl (.tl (.tl .hd)))) rfl rfl rfl (St.c1 (α := Int) hS1094 (.tl (.tl (.tl .hd)))) rfl rfl (ones_cons (St.o1 (α := Int) hS1094 (.tl (.tl (.tl .hd)))) ones_nil) rfl) (fun w1100 hS1101 hT1102 => ?_)
                    refine RG.nil ?_
                    refine MX.inBlock ?_
                    refine MX.roundEnd hb1080 hS1101 (.tl .hd) (fun w1103 hS1104 hT1105 => ?_)
                    refine RG.val' .plain (FV.not rfl) rfl ?_
                    refine RG.nil ?_
                    refine MX.cond_f rfl ?_
                    refine MX.skip ?_
                    refine MX.inBlock ?_
                    refine MX.region ?_
                    refine RG.val' .plain (FV.move rfl) rfl ?_
                    refine RG.val' .plain (FV.move rfl) rfl ?_
                    refine RG.val' .plain (FV.subU (a := u995) (b := (1 : UInt64)) rfl rfl) rfl ?_
                    refine RG.val' .plain (FV.andU (a := u995) (b := u995 - (1 : UInt64)) rfl rfl) rfl ?_
                    refine RG.val' .plain (FV.assign rfl) rfl ?_
                    refine RG.nil ?_
                    have hS1106 : St _ _ [.obj lk818 (lpO r820 .ready none), .obj D819 (.deferred (some [])), .row w.heap.size 3 (Rep.size Int) v1098 xs1091.length cs1097, .cells b810 [v1098] 22, .cells b801 [.int .i64 z752] 3, .cells b796 [.pointer (some ⟨b95, 0, none⟩)] 72, .row w.heap.size 3 (Rep.size Int) v756 xs753.length cs754, .cells b95 [.int .u64 (u757.toNat : Int), .int .i64 a0.fN, v0_1, .int .u64 (a1.toNat : Int), .int .i64 s786] 74, .cells b15 [.int .u64 0] 37, .cells b10 [.int .u64 (a4.fState.toNat : Int)] 37, .cells b5 [.int .i64 a0.fN, v0_1] 40] := hS1104.arr (.one (.tl .hd) (.one (.tl .hd) (.one (.tl .hd) (.one (.tl .hd) (.one (.tl .hd) (.one (.tl .hd) (.one (.tl .hd) (.one (.tl .hd) (.one (.tl .hd) (.one (.tl .hd) (.one (.tl .hd) .done)))))))))))
                    have hT1107 : Tr w1103 _ w1103 [.obj lk818 (lpO r820 .ready none), .obj D819 (.deferred (some [])), .row w.heap.size 3 (Rep.size Int) v1098 xs1091.length cs1097, .cells b810 [v1098] 22, .cells b801 [.int .i64 z752] 3, .cells b796 [.pointer (some ⟨b95, 0, none⟩)] 72, .row w.heap.size 3 (Rep.size Int) v756 xs753.length cs754, .cells b95 [.int .u64 (u757.toNat : Int), .int .i64 a0.fN, v0_1, .int .u64 (a1.toNat : Int), .int .i64 s786] 74, .cells b15 [.int .u64 0] 37, .cells b10 [.int .u64 (a4.fState.toNat : Int)] 37, .cells b5 [.int .i64 a0.fN, v0_1] 40] := Tr.arr (St.arrOf hS1104 (.one (.tl .hd) (.one (.tl .hd) (.one (.tl .hd) (.one (.tl .hd) (.one (.tl .hd) (.one (.tl .hd) (.one (.tl .hd) (.one (.tl .hd) (.one (.tl .hd) (.one (.tl .hd) (.one (.tl .hd) .done))))))))))))
                    have hm1108 := Cells.mv hc1096 (Tr.trans hT1102 (Tr.trans hT1105 hT1107))
                    exact hJ1008 (u995 &&& (u995 - (1 : UInt64)), xs1091, v1098, cs1097) _ _ ⟨rfl, rfl, trivial⟩ ⟨hS1106, (Tr.trans hT1001 (Tr.trans hT1084 (Tr.trans hT1088 (Tr.trans hT1095 (Tr.trans hT1102 (Tr.trans hT1105 hT1107)))))), hm1108⟩ h
          · skip
            refine MX.seq ?_
            refine MX.region ?_
            refine RG.val' .plain (FV.buildV (vs := []) (u := .agg #[.int .u64 0]) evs_nil (fun w9 => by kernel_rfl)) rfl ?_
            refine RG.val' .plain (FV.assign rfl) rfl ?_
            refine RG.now .plain (Acts.store (j := 0) (old := [.int .u64 0]) (news := [.int .u64 0]) (new' := [.int .u64 0]) hS68 .hd rfl rfl rfl rfl rfl rfl (ones_cons rfl ones_nil) rfl) (fun w1109 hS1110 hT1111 => ?_)
            refine RG.val' .plain (FV.assign rfl) rfl ?_
            refine RG.nil ?_
            refine MX.ret rfl ?_
            have hr1112 : Rep.R w1109 (bl [.cells b15 [.int .u64 0] 37, .cells b10 [.int .u64 (a4.fState.toNat : Int)] 37, .cells b5 [.int .i64 a0.fN, v0_1] 40] ++ L) [.slice none 0 0] ([] : List Int) := Rep.nilSlice _ _
            refine RT.leave (u := .tuple #[.slice none 0 0, .agg #[.int .u64 0], .int .i64 4]) hb0 Tryd.func15 rfl (.cons (.tmp rfl) (.cons (.many (cs := [.int .u64 0]) (by kernel_rfl) rfl (hS1110.memA .hd)) (.cons (.tmp rfl) .nil))) rfl ?_
            obtain rfl := Option.some.inj h
            have hr1113 : Rep.R w1109 (bl [.cells b15 [.int .u64 0] 37, .cells b10 [.int .u64 (a4.fState.toNat : Int)] 37, .cells b5 [.int .i64 a0.fN, v0_1] 40] ++ L) [.slice none 0 0] ([] : List Int) := Rep.nilSlice _ _
            exact ⟨hS1110.ag, fun w9 hw9 => ⟨(.slice none 0 0), rfl, Rep.keep0 (Rep.dropO (O := [.cells b15 [.int .u64 0] 37, .cells b10 [.int .u64 (a4.fState.toNat : Int)] 37, .cells b5 [.int .i64 a0.fN, v0_1] 40]) hr1113) hw9⟩⟩
    · skip
      intro J30 hJ31 h
      try dsimp only at h
      refine MX.region ?_
      refine RG.val' .plain (FV.loadN (cs := [.int .i64 a0.fN, v0_1]) (by kernel_rfl) rfl (hS13.memA (.tl (.tl .hd)))) rfl ?_
      refine RG.val' .plain (FV.move rfl) rfl ?_
      obtain ⟨y1114, hy1114, h⟩ := bind_in h
      refine RG.callq' (v := .bool y1114) (fst := []) (cap := []) .plain body33 rfl (evs_cons rfl (evs_cons rfl evs_nil)) (fun w9 hw9 => wilson_fits_c n _ w9 (hS13.hL0 hL hw9) a0 (Rep.keep0 (Rep.dropO (O := [.cells b15 [.int .u64 0] 37, .cells b10 [.int .u64 (a4.fState.toNat : Int)] 37, .cells b5 [.int .i64 a0.fN, v0_1] 40]) hm17) hw9) a1 hy1114) rfl ?_
      refine RG.val' .plain (FV.not rfl) rfl ?_
      refine RG.val' .plain (FV.move rfl) rfl ?_
      refine RG.ifnb (s := 30) rfl h (fun c1115 h => ?_) (fun c1115 h => ?_)
      · skip
        refine RG.val' (.yes rfl rfl) (FV.loadN (cs := [.int .i64 a0.fN, v0_1]) (by kernel_rfl) rfl (hS13.memA (.tl (.tl .hd)))) rfl ?_
        refine RG.val' (.yes rfl rfl) (FV.move rfl) rfl ?_
        obtain ⟨y1116, hy1116, h⟩ := bind_in h
        refine RG.callq' (v := .bool y1116) (fst := []) (cap := []) (.yes rfl rfl) body33 rfl (evs_cons rfl (evs_cons rfl evs_nil)) (fun w9 hw9 => wilson_fits_c n _ w9 (hS13.hL0 hL hw9) a0 (Rep.keep0 (Rep.dropO (O := [.cells b15 [.int .u64 0] 37, .cells b10 [.int .u64 (a4.fState.toNat : Int)] 37, .cells b5 [.int .i64 a0.fN, v0_1] 40]) hm17) hw9) a3 hy1116) rfl ?_
        refine RG.val' (.yes rfl rfl) (FV.not rfl) rfl ?_
        refine RG.val' .plain (FV.pick_f rfl rfl) rfl ?_
        refine RG.val' .plain (FV.move rfl) rfl ?_
        refine RG.ifnb (s := 36) rfl h (fun c1117 h => ?_) (fun c1117 h => ?_)
        · skip
          refine RG.val' (.yes rfl rfl) (FV.move rfl) rfl ?_
          refine RG.val' (.yes rfl rfl) (FV.lss (i := a2) (j := 0) rfl rfl) rfl ?_
          refine RG.val' .plain (FV.pick_f rfl rfl) rfl ?_
          refine RG.val' .plain (FV.move rfl) rfl ?_
          refine RG.ifd (s := 40) rfl h (fun c1118 h => ?_) (fun c1118 h => ?_)
          · skip
            refine RG.off (.no rfl rfl) rfl ?_
            refine RG.off (.no rfl rfl) rfl ?_
            refine RG.off (.no rfl rfl) rfl ?_
            refine RG.off (.no rfl rfl) rfl ?_
            refine RG.val' .plain (FV.pick_t rfl rfl) rfl ?_
            refine RG.val' .plain (FV.move rfl) rfl ?_
            refine RG.off (.no rfl rfl) rfl ?_
            refine RG.off (.no rfl rfl) rfl ?_
            refine RG.off (.no rfl rfl) rfl ?_
            refine RG.off (.no rfl rfl) rfl ?_
            refine RG.off (.no rfl rfl) rfl ?_
            refine RG.val' .plain (FV.pick_t rfl rfl) rfl ?_
            refine RG.nil ?_
            exact hJ31 true _ _ ⟨rfl, rfl, rfl, rfl, rfl, rfl, rfl, trivial⟩ ⟨hS13, Tr.refl _ _⟩ h
          · skip
            refine RG.val' (.yes rfl rfl) (FV.move rfl) rfl ?_
            refine RG.val' (.yes rfl rfl) (FV.fieldAddr (off := 0) (by kernel_rfl) rfl) rfl ?_
            refine RG.val' (.yes rfl rfl) (FV.load1 (by kernel_rfl) rfl ((hS13.memA (.tl (.tl .hd))) 0 _ rfl)) rfl ?_
            refine RG.val' (.yes rfl rfl) (FV.geq (i := a2) (j := a0.fN) rfl rfl) rfl ?_
            refine RG.val' .plain (FV.pick_f rfl rfl) rfl ?_
            refine RG.val' .plain (FV.move rfl) rfl ?_
            refine RG.ifd (s := 46) rfl h (fun c1119 h => ?_) (fun c1119 h => ?_)
            · skip
              refine RG.off (.no rfl rfl) rfl ?_
              refine RG.off (.no rfl rfl) rfl ?_
              refine RG.off (.no rfl rfl) rfl ?_
              refine RG.off (.no rfl rfl) rfl ?_
              refine RG.off (.no rfl rfl) rfl ?_
              refine RG.val' .plain (FV.pick_t rfl rfl) rfl ?_
              refine RG.nil ?_
              exact hJ31 true _ _ ⟨rfl, rfl, rfl, rfl, rfl, rfl, rfl, trivial⟩ ⟨hS13, Tr.refl _ _⟩ h
            · skip
              refine RG.val' (.yes rfl rfl) (FV.move rfl) rfl ?_
              refine RG.val' (.yes rfl rfl) (FV.move rfl) rfl ?_
              obtain ⟨k1120, hk1120, h⟩ := bind_in h
              refine RG.val' (.yes rfl rfl) (FV.shrI (a := a1) (i := a2) rfl rfl hk1120) rfl ?_
              refine RG.val' (.yes rfl rfl) (FV.andU (a := shrU a1 k1120) (b := (1 : UInt64)) rfl rfl) rfl ?_
              refine RG.val' (.yes rfl rfl) (FV.eqlU (a := (shrU a1 k1120) &&& (1 : UInt64)) (b := (0 : UInt64)) rfl rfl) rfl ?_
              refine RG.val' .plain (FV.pick_f rfl rfl) rfl ?_
              refine RG.nil ?_
              exact hJ31 (decide (((shrU a1 k1120) &&& (1 : UInt64)) = (0 : UInt64))) _ _ ⟨rfl, rfl, rfl, rfl, rfl, rfl, rfl, trivial⟩ ⟨hS13, Tr.refl _ _⟩ h
        · skip
          refine RG.off (.no rfl rfl) rfl ?_
          refine RG.off (.no rfl rfl) rfl ?_
          refine RG.val' .plain (FV.pick_t rfl rfl) rfl ?_
          refine RG.val' .plain (FV.move rfl) rfl ?_
          refine RG.off (.no rfl rfl) rfl ?_
          refine RG.off (.no rfl rfl) rfl ?_
          refine RG.off (.no rfl rfl) rfl ?_
          refine RG.off (.no rfl rfl) rfl ?_
          refine RG.val' .plain (FV.pick_t rfl rfl) rfl ?_
          refine RG.val' .plain (FV.move rfl) rfl ?_
          refine RG.off (.no rfl rfl) rfl ?_
          refine RG.off (.no rfl rfl) rfl ?_
          refine RG.off (.no rfl rfl) rfl ?_
          refine RG.off (.no rfl rfl) rfl ?_
          refine RG.off (.no rfl rfl) rfl ?_
          refine RG.val' .plain (FV.pick_t rfl rfl) rfl ?_
          refine RG.nil ?_
          exact hJ31 true _ _ ⟨rfl, rfl, rfl, rfl, rfl, rfl, rfl, trivial⟩ ⟨hS13, Tr.refl _ _⟩ h
      · skip
        refine RG.off (.no rfl rfl) rfl ?_
        refine RG.off (.no rfl rfl) rfl ?_
        refine RG.off (.no rfl rfl) rfl ?_
        refine RG.off (.no rfl rfl) rfl ?_
        refine RG.val' .plain (FV.pick_t rfl rfl) rfl ?_
        refine RG.val' .plain (FV.move rfl) rfl ?_
        refine RG.off (.no rfl rfl) rfl ?_
        refine RG.off (.no rfl rfl) rfl ?_
        refine RG.val' .plain (FV.pick_t rfl rfl) rfl ?_
        refine RG.val' .plain (FV.move rfl) rfl ?_
        refine RG.off (.no rfl rfl) rfl ?_
        refine RG.off (.no rfl rfl) rfl ?_
        refine RG.off (.no rfl rfl) rfl ?_
        refine RG.off (.no rfl rfl) rfl ?_
        refine RG.val' .plain (FV.pick_t rfl rfl) rfl ?_
        refine RG.val' .plain (FV.move rfl) rfl ?_
        refine RG.off (.no rfl rfl) rfl ?_
        refine RG.off (.no rfl rfl) rfl ?_
        refine RG.off (.no rfl rfl) rfl ?_
        refine RG.off (.no rfl rfl) rfl ?_
        refine RG.off (.no rfl rfl) rfl ?_
        refine RG.val' .plain (FV.pick_t rfl rfl) rfl ?_
        refine RG.nil ?_
        exact hJ31 true _ _ ⟨rfl, rfl, rfl, rfl, rfl, rfl, rfl, trivial⟩ ⟨hS13, Tr.refl _ _⟩ h
  · skip
    refine MX.seq ?_
    refine MX.region ?_
    refine RG.val' .plain (FV.buildV (vs := []) (u := .agg #[.int .u64 0]) evs_nil (fun w9 => by kernel_rfl)) rfl ?_
    refine RG.val' .plain (FV.move rfl) rfl ?_
    refine RG.val' .plain (FV.assign rfl) rfl ?_
    refine RG.now .plain (Acts.store (j := 0) (old := [.int .u64 0]) (news := [.int .u64 0]) (new' := [.int .u64 0]) hS13 .hd rfl rfl rfl rfl rfl rfl (ones_cons rfl ones_nil) rfl) (fun w1121 hS1122 hT1123 => ?_)
    refine RG.val' .plain (FV.assign rfl) rfl ?_
    refine RG.nil ?_
    refine MX.ret rfl ?_
    have hr1124 : Rep.R w1121 (bl [.cells b15 [.int .u64 0] 37, .cells b10 [.int .u64 (a4.fState.toNat : Int)] 37, .cells b5 [.int .i64 a0.fN, v0_1] 40] ++ L) [.slice none 0 0] ([] : List Int) := Rep.nilSlice _ _
    refine RT.leave (u := .tuple #[.slice none 0 0, .agg #[.int .u64 0], .int .i64 y16]) hb0 Tryd.func15 rfl (.cons (.tmp rfl) (.cons (.many (cs := [.int .u64 0]) (by kernel_rfl) rfl (hS1122.memA .hd)) (.cons (.tmp rfl) .nil))) rfl ?_
    obtain rfl := Option.some.inj h
    have hr1125 : Rep.R w1121 (bl [.cells b15 [.int .u64 0] 37, .cells b10 [.int .u64 (a4.fState.toNat : Int)] 37, .cells b5 [.int .i64 a0.fN, v0_1] 40] ++ L) [.slice none 0 0] ([] : List Int) := Rep.nilSlice _ _
    exact ⟨hS1122.ag, fun w9 hw9 => ⟨(.slice none 0 0), rfl, Rep.keep0 (Rep.dropO (O := [.cells b15 [.int .u64 0] 37, .cells b10 [.int .u64 (a4.fState.toNat : Int)] 37, .cells b5 [.int .i64 a0.fN, v0_1] 40]) hr1125) hw9⟩⟩
theorem el38 : ElT Tryd.prog 38 46 (Rep.size (Int × Int)) 16 (.agg #[.int .i64 0, .int .i64 0]) [.int .i64 0, .int .i64 0] := ⟨Tryd.underlying38, by kernel_rfl, rfl, rfl, rfl, rfl⟩
def wardmotelaw31_ring_p (n : Nat) : Option TGraph :=
  some (⟨4, ([(0, 1), (0, 3), (1, 2), (2, 3)] : List (Int × Int))⟩ : TGraph)
set_option maxRecDepth 4000 in
set_option maxHeartbeats 4000000 in
theorem wardmotelaw31_ring_c (n : Nat) (L : List Nat) (w : World) (hL : ∀ b ∈ L, b < w.heap.size)  {r : TGraph} (h : wardmotelaw31_ring_p n = some r) :
    Calls Tryd.prog 18 #[] w (Gives w fun w' u => ∃ v0_1 : Value, u = .agg #[.int .i64 r.fN, v0_1] ∧ Rep.R w' L [v0_1] r.fEdges) := by
  unfold wardmotelaw31_ring_p at h
  have hS0 := St.start w
  refine MX.start Tryd.func18 rfl rfl rfl (fun _ cs0 hb0 => ?_)
  refine MX.seq ?_
  refine MX.region ?_
  refine RG.new .plain rfl (Does.alloc (zs := [.int .i64 0, .slice none 0 0]) hS0 (zB (by kernel_rfl))) (fun w2 b5 hS3 hT4 => ?_)
  refine RG.nil ?_
  refine MX.seq ?_
  refine MX.region ?_
  refine RG.val' .plain (FV.buildV (vs := [.int .i64 0, .int .i64 1]) (u := .agg #[.int .i64 0, .int .i64 1]) (evs_cons rfl (evs_cons rfl evs_nil)) (fun w9 => by kernel_rfl)) rfl ?_
  refine RG.val' .plain (FV.buildV (vs := [.int .i64 0, .int .i64 3]) (u := .agg #[.int .i64 0, .int .i64 3]) (evs_cons rfl (evs_cons rfl evs_nil)) (fun w9 => by kernel_rfl)) rfl ?_
  refine RG.val' .plain (FV.buildV (vs := [.int .i64 1, .int .i64 2]) (u := .agg #[.int .i64 1, .int .i64 2]) (evs_cons rfl (evs_cons rfl evs_nil)) (fun w9 => by kernel_rfl)) rfl ?_
  refine RG.val' .plain (FV.buildV (vs := [.int .i64 2, .int .i64 3]) (u := .agg #[.int .i64 2, .int .i64 3]) (evs_cons rfl (evs_cons rfl evs_nil)) (fun w9 => by kernel_rfl)) rfl ?_
  refine RG.new .plain rfl (Does.build (α := Int × Int) (xs := ([(0, 1), (0, 3), (1, 2), (2, 3)] : List (Int × Int))) (vs := [.agg #[.int .i64 0, .int .i64 1], .agg #[.int .i64 0, .int .i64 3], .agg #[.int .i64 1, .int .i64 2], .agg #[.int .i64 2, .int .i64 3]]) (ds' := [.int .i64 0, .int .i64 1, .int .i64 0, .int .i64 3, .int .i64 1, .int .i64 2, .int .i64 2, .int .i64 3]) rfl hS3 el38 rfl (evs_cons rfl (evs_cons rfl (evs_cons rfl (evs_cons rfl evs_nil)))) (by kernel_rfl) rfl) (fun w7 b10 hS8 hT9 => ?_)
  have hc11 : Cells w7 (bl [.row w.heap.size 46 (Rep.size (Int × Int)) (.slice (some ⟨b10, 0, none⟩) 4 4) (([(0, 1), (0, 3), (1, 2), (2, 3)] : List (Int × Int)).length) [.int .i64 0, .int .i64 1, .int .i64 0, .int .i64 3, .int .i64 1, .int .i64 2, .int .i64 2, .int .i64 3], .cells b5 [.int .i64 0, .slice none 0 0] 40] ++ L) [.int .i64 0, .int .i64 1, .int .i64 0, .int .i64 3, .int .i64 1, .int .i64 2, .int .i64 2, .int .i64 3] (([(0, 1), (0, 3), (1, 2), (2, 3)] : List (Int × Int)) : List (Int × Int)) := Cells.cons (cs := [.int .i64 0, .int .i64 1]) (ds := [.int .i64 0, .int .i64 3, .int .i64 1, .int .i64 2, .int .i64 2, .int .i64 3]) (mk_A46 0 1) (Cells.cons (cs := [.int .i64 0, .int .i64 3]) (ds := [.int .i64 1, .int .i64 2, .int .i64 2, .int .i64 3]) (mk_A46 0 3) (Cells.cons (cs := [.int .i64 1, .int .i64 2]) (ds := [.int .i64 2, .int .i64 3]) (mk_A46 1 2) (Cells.cons (cs := [.int .i64 2, .int .i64 3]) (ds := []) (mk_A46 2 3) (Cells.nil _ _))))
  refine RG.val' .plain (FV.buildV (vs := [.int .i64 4, (.slice (some ⟨b10, 0, none⟩) 4 4)]) (u := .agg #[.int .i64 4, (.slice (some ⟨b10, 0, none⟩) 4 4)]) (evs_cons rfl (evs_cons rfl evs_nil)) (fun w9 => by kernel_rfl)) rfl ?_
  refine RG.now .plain (Acts.store (j := 0) (old := [.int .i64 0, .slice none 0 0]) (news := [.int .i64 4, (.slice (some ⟨b10, 0, none⟩) 4 4)]) (new' := [.int .i64 4, (.slice (some ⟨b10, 0, none⟩) 4 4)]) hS8 (.tl .hd) rfl rfl rfl rfl rfl rfl (ones_cons rfl (ones_cons (St.o1 (α := Int × Int) hS8 .hd) ones_nil)) rfl) (fun w12 hS13 hT14 => ?_)
  refine RG.nil ?_
  refine MX.ret rfl ?_
  have hm18 := Cells.mv hc11 hT14
  have hr15 := St.freeze (α := Int × Int) hS13 .hd hm18 hL
  have hS16 := hS13.del (.hd : Out _ _ _).del
  have hT17 := Tr.del (w := w12) (.hd : Out [.row w.heap.size 46 (Rep.size (Int × Int)) (.slice (some ⟨b10, 0, none⟩) 4 4) (([(0, 1), (0, 3), (1, 2), (2, 3)] : List (Int × Int)).length) [.int .i64 0, .int .i64 1, .int .i64 0, .int .i64 3, .int .i64 1, .int .i64 2, .int .i64 2, .int .i64 3], .cells b5 [.int .i64 4, (.slice (some ⟨b10, 0, none⟩) 4 4)] 40] _ _).del
  have hr19 : Rep.R w12 (bl [.cells b5 [.int .i64 4, (.slice (some ⟨b10, 0, none⟩) 4 4)] 40] ++ L) [(.slice (some ⟨b10, 0, none⟩) 4 4)] ([(0, 1), (0, 3), (1, 2), (2, 3)] : List (Int × Int)) := hr15
  refine RT.leave (u := .agg #[.int .i64 4, (.slice (some ⟨b10, 0, none⟩) 4 4)]) hb0 Tryd.func18 rfl (.cons (.many (cs := [.int .i64 4, (.slice (some ⟨b10, 0, none⟩) 4 4)]) (by kernel_rfl) rfl (hS16.memA .hd)) .nil) rfl ?_
  obtain rfl := Option.some.inj h
  exact ⟨hS16.ag, fun w9 hw9 => ⟨(.slice (some ⟨b10, 0, none⟩) 4 4), rfl, Rep.keep0 (Rep.dropO (O := [.cells b5 [.int .i64 4, (.slice (some ⟨b10, 0, none⟩) 4 4)] 40]) hr19) hw9⟩⟩
def wardmotelaw31_fails_1_p (n : Nat) (a0 : List Int) (a1 : Int) (a2 : Int) : Option Bool :=
  (if a0.length = 0 then some (decide (a1 = a2)) else some false)
set_option maxRecDepth 4000 in
set_option maxHeartbeats 4000000 in
theorem wardmotelaw31_fails_1_c (n : Nat) (L : List Nat) (w : World) (hL : ∀ b ∈ L, b < w.heap.size) (a0 : List Int) {v0_0 : Value} (h0_0 : Rep.R w L [v0_0] a0) (a1 : Int) (a2 : Int) {p2 : Nat} (m2 : ∀ j9 v9, ([.int .i64 a2] : List Value)[j9]? = some v9 → w.cell? ((⟨p2, 0, none⟩ : Addr).add j9) = some v9)  {r : Bool} (h : wardmotelaw31_fails_1_p n a0 a1 a2 = some r) :
    Calls Tryd.prog 37 #[v0_0, .int .i64 a1, .pointer (some ⟨p2, 0, none⟩)] w (Gives w fun w' u => u = .bool r) := by
  unfold wardmotelaw31_fails_1_p at h
  have hS0 := St.start w
  refine MX.start Tryd.func37 rfl rfl rfl (fun _ cs0 hb0 => ?_)
  refine MX.seq ?_
  refine MX.region ?_
  refine RG.val' .plain (FV.assign rfl) rfl ?_
  refine RG.nil ?_
  refine MX.seq ?_
  refine MX.region ?_
  refine RG.val' .plain (FV.move rfl) rfl ?_
  have hl1 : a0.length ≤ 281474976710656 := Rep.lenle h0_0
  refine RG.val' .plain (FV.len (xs := a0) Tryd.underlying22 rfl h0_0) rfl ?_
  refine RG.val' .plain (FV.eqlN (i := a0.length) (j := 0) rfl rfl) rfl ?_
  refine RG.val' .plain (FV.move rfl) rfl ?_
  refine RG.ifd (s := 9) rfl h (fun c2 h => ?_) (fun c2 h => ?_)
  · skip
    refine RG.val' (.yes rfl rfl) (FV.move rfl) rfl ?_
    refine RG.val' (.yes rfl rfl) (FV.load1 (by kernel_rfl) rfl ((fun j9 v9 h9 => hS0.ag.cell0 (m2 j9 v9 h9)) 0 _ rfl)) rfl ?_
    refine RG.val' (.yes rfl rfl) (FV.eql (i := a1) (j := a2) rfl rfl) rfl ?_
    refine RG.val' .plain (FV.pick_t rfl rfl) rfl ?_
    refine RG.val' .plain (FV.assign rfl) rfl ?_
    refine RG.nil ?_
    refine MX.ret rfl ?_
    refine RT.leave (u := .bool (decide (a1 = a2))) hb0 Tryd.func37 rfl (.cons (.tmp rfl) .nil) rfl ?_
    obtain rfl := Option.some.inj h
    exact ⟨hS0.ag, fun w9 hw9 => rfl⟩
  · skip
    refine RG.off (.no rfl rfl) rfl ?_
    refine RG.off (.no rfl rfl) rfl ?_
    refine RG.off (.no rfl rfl) rfl ?_
    refine RG.val' .plain (FV.pick_f rfl rfl) rfl ?_
    refine RG.val' .plain (FV.assign rfl) rfl ?_
    refine RG.nil ?_
    refine MX.ret rfl ?_
    refine RT.leave (u := .bool false) hb0 Tryd.func37 rfl (.cons (.tmp rfl) .nil) rfl ?_
    obtain rfl := Option.some.inj h
    exact ⟨hS0.ag, fun w9 hw9 => rfl⟩
set_option maxRecDepth 4000 in
set_option maxHeartbeats 4000000 in
theorem wardmotelaw31_fails_c (n : Nat) (L : List Nat) (w : World) (hL : ∀ b ∈ L, b < w.heap.size) (a0 : Int)  :
    Calls Tryd.prog 19 #[.int .i64 a0] w (Gives w fun w' u => ∃ b5 : Nat, u = .func (.func 37) #[] #[.pointer (some ⟨b5, 0, none⟩)] ∧ St w w' [.cells b5 [.int .i64 a0] 27]) := by
  have hS0 := St.start w
  refine MX.start Tryd.func19 rfl rfl rfl (fun _ cs0 hb0 => ?_)
  refine MX.seq ?_
  refine MX.region ?_
  refine RG.new .plain rfl (Does.box (vs := [.int .i64 a0]) hS0 rfl rfl) (fun w2 b5 hS3 hT4 => ?_)
  refine RG.val' .plain (FV.assign rfl) rfl ?_
  refine RG.nil ?_
  refine MX.seq ?_
  refine MX.region ?_
  refine RG.val' .plain (FV.makeFunc (vs := []) (us := [.pointer (some ⟨b5, 0, none⟩)]) evs_nil (evs_cons rfl evs_nil)) rfl ?_
  refine RG.val' .plain (FV.assign rfl) rfl ?_
  refine RG.nil ?_
  refine MX.ret rfl ?_
  refine RT.leave (u := .func (.func 37) #[] #[.pointer (some ⟨b5, 0, none⟩)]) hb0 Tryd.func19 rfl (.cons (.tmp rfl) .nil) rfl ?_
  exact ⟨hS3.ag, fun w9 hw9 => ⟨b5, rfl, hS3.agree hw9⟩⟩
def tb12_6 : List (Nat × Nat × Nat) := [(0, 65536, 1), (0, 131072, 32), (3, 262144, 196608), (4, 524288, 262144), (0, 1048576, 2), (0, 2097152, 32), (48, 4194304, 3145728), (64, 8388608, 4194304), (136, 16777216, 8912896)]
def slices_Equal_int_int_l1 (n : Nat) (a0 : List Int) (a1 : List Int) (J40 : Nat → Option (Bool ⊕ Unit)) : Nat → Option (Bool ⊕ Unit)
  | i32 => (if i32 < a0.length then (a0[i32]?).bind fun x45 => (a1[i32]?).bind fun x55 => (if x45 = x55 then J40 (i32 + 1) else some (.inl false)) else some (.inr ()))
def slices_Equal_int_int_p (n : Nat) (a0 : List Int) (a1 : List Int) : Option Bool :=
  (if a0.length = a1.length then thn (loopF (slices_Equal_int_int_l1 n a0 a1) n 0) (fun _ => some true) else some false)
set_option maxRecDepth 4000 in
set_option maxHeartbeats 4000000 in
theorem slices_Equal_int_int_c (n : Nat) (L : List Nat) (w : World) (hL : ∀ b ∈ L, b < w.heap.size) (a0 : List Int) {v0_0 : Value} (h0_0 : Rep.R w L [v0_0] a0) (a1 : List Int) {v1_0 : Value} (h1_0 : Rep.R w L [v1_0] a1)  {r : Bool} (h : slices_Equal_int_int_p n a0 a1 = some r) :
    Calls Tryd.prog 12 #[v0_0, v1_0] w (Gives w fun w' u => u = .bool r) := by
  unfold slices_Equal_int_int_p at h
  have hS0 := St.start w
  refine MX.start Tryd.func12 rfl rfl rfl (fun _ cs0 hb0 => ?_)
  refine MX.seq ?_
  refine MX.region ?_
  refine RG.val' .plain (FV.assign rfl) rfl ?_
  refine RG.nil ?_
  refine MX.seq ?_
  refine MX.seq ?_
  refine MX.region ?_
  refine RG.val' .plain (FV.move rfl) rfl ?_
  have hl1 : a0.length ≤ 281474976710656 := Rep.lenle h0_0
  refine RG.val' .plain (FV.len (xs := a0) Tryd.underlying22 rfl h0_0) rfl ?_
  refine RG.val' .plain (FV.move rfl) rfl ?_
  have hl2 : a1.length ≤ 281474976710656 := Rep.lenle h1_0
  refine RG.val' .plain (FV.len (xs := a1) Tryd.underlying22 rfl h1_0) rfl ?_
  refine RG.val' .plain (FV.neqN (i := a0.length) (j := a1.length) rfl rfl) rfl ?_
  refine RG.nil ?_
  refine MX.ifn rfl h (fun c3 h => ?_) (fun c3 h => ?_)
  · skip
    refine MX.skip ?_
    refine MX.seq ?_
    refine MX.seq ?_
    refine MX.region ?_
    refine RG.val' .plain (FV.move rfl) rfl ?_
    refine RG.val' .plain (FV.len (xs := a0) Tryd.underlying22 rfl h0_0) rfl ?_
    refine RG.val' .plain (FV.move rfl) rfl ?_
    refine RG.nil ?_
    refine MX.block ?_
    obtain ⟨o38, ho37, hh39⟩ := thn_in h
    refine MX.loop (α := Nat) (fun i32 => [(0, v0_0), (1, v1_0), (12, .int .i64 ((a0.length : Nat) : Int)), (13, .int .i64 ((i32 : Nat) : Int))]) (fun i32 wx32 => St w wx32 [] ∧ Tr w [] wx32 []) (fun i32 => i32) 0 ho37 ⟨rfl, rfl, rfl, rfl, trivial⟩ ⟨hS0, Tr.refl _ _⟩ ?_
    rintro J40 i32 wx32 hJ41 ⟨hS33, hT34⟩ h
    unfold slices_Equal_int_int_l1 at h
    try dsimp only at h
    refine MX.seq ?_
    refine MX.region ?_
    refine RG.val' .plain (FV.lssN (i := i32) (j := a0.length) rfl rfl) rfl ?_
    refine RG.nil ?_
    refine MX.seq ?_
    refine MX.ifd rfl h (fun c42 h => ?_) (fun c42 h => ?_)
    · skip
      refine MX.skip ?_
      refine MX.seq ?_
      refine MX.block ?_
      refine MX.seq ?_
      refine MX.region ?_
      refine RG.val' .plain (FV.move rfl) rfl ?_
      refine RG.val' .plain (FV.assign rfl) rfl ?_
      refine RG.nil ?_
      refine MX.seq ?_
      refine MX.drawT 9 tb12_6 (by kernel_rfl) (by kernel_rfl) (by kernel_rfl) (fun kt43 kp44 => ?_)
      refine RD.valP (i := 0) (m' := 1) (takePC_ok kt43 (by kernel_rfl)) rfl kp44 .plain (fun _ => FV.move rfl) rfl ?_
      refine RD.valP (i := 1) (m' := 3) (takePC_ok kt43 (by kernel_rfl)) rfl kp44 .plain (fun _ => FV.move rfl) rfl ?_
      obtain ⟨x45, hx45, h⟩ := bind_in h
      have hm53 := Rep.mv h0_0 hT34
      obtain ⟨A46, c47, he48, hk49, cs50, hr51, hm52⟩ := Rep.nth hm53 hx45
      have he54 : cs50 = [.int .i64 x45] := hr51; subst he54
      refine RD.valP (i := 2) (m' := 7) (takePC_ok kt43 (by kernel_rfl)) rfl kp44 .plain (fun _ => FV.idxAddr (m := 1) (i := i32) (by kernel_rfl) rfl he48 rfl rfl hk49) rfl ?_
      refine RD.val (i := 3) (m' := 15) (W := 256) (takeC_ok kt43 (by kernel_rfl)) rfl kp44 .plain (FV.load1 (by kernel_rfl) rfl (hm52 0 _ rfl)) rfl ?_
      refine RD.valP (i := 4) (m' := 31) (takePC_ok kt43 (by kernel_rfl)) rfl kp44 .plain (fun _ => FV.move rfl) rfl ?_
      refine RD.valP (i := 5) (m' := 63) (takePC_ok kt43 (by kernel_rfl)) rfl kp44 .plain (fun _ => FV.move rfl) rfl ?_
      obtain ⟨x55, hx55, h⟩ := bind_in h
      have hm63 := Rep.mv h1_0 hT34
      obtain ⟨A56, c57, he58, hk59, cs60, hr61, hm62⟩ := Rep.nth hm63 hx55
      have he64 : cs60 = [.int .i64 x55] := hr61; subst he64
      refine RD.valP (i := 6) (m' := 127) (takePC_ok kt43 (by kernel_rfl)) rfl kp44 .plain (fun _ => FV.idxAddr (m := 1) (i := i32) (by kernel_rfl) rfl he58 rfl rfl hk59) rfl ?_
      refine RD.val (i := 7) (m' := 255) (W := 256) (takeC_ok kt43 (by kernel_rfl)) rfl kp44 .plain (FV.load1 (by kernel_rfl) rfl (hm62 0 _ rfl)) rfl ?_
      refine RD.valP (i := 8) (m' := 511) (takePC_ok kt43 (by kernel_rfl)) rfl kp44 .plain (fun _ => FV.neq (i := x45) (j := x55) rfl rfl) rfl ?_
      refine RD.done (doneD_ok kt43 (by kernel_rfl)) ?_
      refine MX.ifn rfl h (fun c65 h => ?_) (fun c65 h => ?_)
      · skip
        refine MX.skip ?_
        refine MX.inBlock ?_
        refine MX.region ?_
        refine RG.val' .plain (FV.addN (i := i32) (j := 1) rfl rfl (by omega)) rfl ?_
        refine RG.val' .plain (FV.move rfl) rfl ?_
        refine RG.nil ?_
        exact hJ41 (i32 + 1) _ _ ⟨rfl, rfl, rfl, rfl, trivial⟩ ⟨hS33, hT34⟩ h
      · skip
        refine MX.seq ?_
        refine MX.region ?_
        refine RG.val' .plain (FV.assign rfl) rfl ?_
        refine RG.nil ?_
        have h := thn_inl h hh39
        refine MX.ret rfl ?_
        refine RT.leave (u := .bool false) hb0 Tryd.func12 rfl (.cons (.tmp rfl) .nil) rfl ?_
        obtain rfl := Option.some.inj h
        exact ⟨hS33.ag, fun w9 hw9 => rfl⟩
    · skip
      refine MX.exit rfl ?_
      have h := thn_inr h hh39
      try dsimp only at h
      refine MX.seq ?_
      refine MX.region ?_
      refine RG.val' .plain (FV.assign rfl) rfl ?_
      refine RG.nil ?_
      refine MX.ret rfl ?_
      refine RT.leave (u := .bool true) hb0 Tryd.func12 rfl (.cons (.tmp rfl) .nil) rfl ?_
      obtain rfl := Option.some.inj h
      exact ⟨hS33.ag, fun w9 hw9 => rfl⟩
  · skip
    refine MX.seq ?_
    refine MX.region ?_
    refine RG.val' .plain (FV.assign rfl) rfl ?_
    refine RG.nil ?_
    refine MX.ret rfl ?_
    refine RT.leave (u := .bool false) hb0 Tryd.func12 rfl (.cons (.tmp rfl) .nil) rfl ?_
    obtain rfl := Option.some.inj h
    exact ⟨hS0.ag, fun w9 hw9 => rfl⟩
theorem body12 : bodyB Tryd.prog 12 = true := by kernel_rfl
def wardmotelaw31_lists_1_p (n : Nat) (a0 : List Int) (a1 : Int) (a2 : List Int) : Option Bool :=
  (slices_Equal_int_int_p n a0 a2).bind fun y1 => (if y1 = true then some (decide (a1 = 0)) else some false)
set_option maxRecDepth 4000 in
set_option maxHeartbeats 4000000 in
theorem wardmotelaw31_lists_1_c (n : Nat) (L : List Nat) (w : World) (hL : ∀ b ∈ L, b < w.heap.size) (a0 : List Int) {v0_0 : Value} (h0_0 : Rep.R w L [v0_0] a0) (a1 : Int) (a2 : List Int) {v2_0 : Value} (h2_0 : Rep.R w L [v2_0] a2) {p2 : Nat} (m2 : ∀ j9 v9, ([v2_0] : List Value)[j9]? = some v9 → w.cell? ((⟨p2, 0, none⟩ : Addr).add j9) = some v9)  {r : Bool} (h : wardmotelaw31_lists_1_p n a0 a1 a2 = some r) :
    Calls Tryd.prog 38 #[v0_0, .int .i64 a1, .pointer (some ⟨p2, 0, none⟩)] w (Gives w fun w' u => u = .bool r) := by
  unfold wardmotelaw31_lists_1_p at h
  have hS0 := St.start w
  refine MX.start Tryd.func38 rfl rfl rfl (fun _ cs0 hb0 => ?_)
  refine MX.seq ?_
  refine MX.region ?_
  refine RG.val' .plain (FV.assign rfl) rfl ?_
  refine RG.nil ?_
  refine MX.seq ?_
  refine MX.region ?_
  refine RG.val' .plain (FV.move rfl) rfl ?_
  refine RG.val' .plain (FV.load1 (by kernel_rfl) rfl ((fun j9 v9 h9 => hS0.ag.cell0 (m2 j9 v9 h9)) 0 _ rfl)) rfl ?_
  obtain ⟨y1, hy1, h⟩ := bind_in h
  refine RG.callq' (v := .bool y1) (fst := []) (cap := []) .plain body12 rfl (evs_cons rfl (evs_cons rfl evs_nil)) (fun w9 hw9 => slices_Equal_int_int_c n _ w9 (hS0.hL0 hL hw9) a0 (Rep.keep0 (Rep.dropO (O := []) h0_0) hw9) a2 (Rep.keep0 (Rep.dropO (O := []) h2_0) hw9) hy1) rfl ?_
  refine RG.val' .plain (FV.move rfl) rfl ?_
  refine RG.ifb (s := 9) rfl h (fun c2 h => ?_) (fun c2 h => ?_)
  · skip
    refine RG.val' (.yes rfl rfl) (FV.move rfl) rfl ?_
    refine RG.val' (.yes rfl rfl) (FV.eql (i := a1) (j := 0) rfl rfl) rfl ?_
    refine RG.val' .plain (FV.pick_t rfl rfl) rfl ?_
    refine RG.val' .plain (FV.assign rfl) rfl ?_
    refine RG.nil ?_
    refine MX.ret rfl ?_
    refine RT.leave (u := .bool (decide (a1 = 0))) hb0 Tryd.func38 rfl (.cons (.tmp rfl) .nil) rfl ?_
    obtain rfl := Option.some.inj h
    exact ⟨hS0.ag, fun w9 hw9 => rfl⟩
  · skip
    refine RG.off (.no rfl rfl) rfl ?_
    refine RG.off (.no rfl rfl) rfl ?_
    refine RG.val' .plain (FV.pick_f rfl rfl) rfl ?_
    refine RG.val' .plain (FV.assign rfl) rfl ?_
    refine RG.nil ?_
    refine MX.ret rfl ?_
    refine RT.leave (u := .bool false) hb0 Tryd.func38 rfl (.cons (.tmp rfl) .nil) rfl ?_
    obtain rfl := Option.some.inj h
    exact ⟨hS0.ag, fun w9 hw9 => rfl⟩
set_option maxRecDepth 4000 in
set_option maxHeartbeats 4000000 in
theorem wardmotelaw31_lists_c (n : Nat) (L : List Nat) (w : World) (hL : ∀ b ∈ L, b < w.heap.size) (a0 : List Int) {v0_0 : Value} (h0_0 : Rep.R w L [v0_0] a0)  :
    Calls Tryd.prog 20 #[v0_0] w (Gives w fun w' u => ∃ b5 : Nat, u = .func (.func 38) #[] #[.pointer (some ⟨b5, 0, none⟩)] ∧ St w w' [.cells b5 [v0_0] 22]) := by
  have hS0 := St.start w
  refine MX.start Tryd.func20 rfl rfl rfl (fun _ cs0 hb0 => ?_)
  refine MX.seq ?_
  refine MX.region ?_
  refine RG.new .plain rfl (Does.box (vs := [v0_0]) hS0 rfl (Rep.c1 h0_0)) (fun w2 b5 hS3 hT4 => ?_)
  refine RG.val' .plain (FV.assign rfl) rfl ?_
  refine RG.nil ?_
  refine MX.seq ?_
  refine MX.region ?_
  refine RG.val' .plain (FV.makeFunc (vs := []) (us := [.pointer (some ⟨b5, 0, none⟩)]) evs_nil (evs_cons rfl evs_nil)) rfl ?_
  refine RG.val' .plain (FV.assign rfl) rfl ?_
  refine RG.nil ?_
  refine MX.ret rfl ?_
  refine RT.leave (u := .func (.func 38) #[] #[.pointer (some ⟨b5, 0, none⟩)]) hb0 Tryd.func20 rfl (.cons (.tmp rfl) .nil) rfl ?_
  exact ⟨hS3.ag, fun w9 hw9 => ⟨b5, rfl, hS3.agree hw9⟩⟩
theorem eql1U_37 (a b : UInt64) (w9 : World) : (do eqGuard .eql 37 (.tmp 0) (.tmp 0) (.agg #[.int .u64 (a.toNat : Int)]) (.agg #[.int .u64 (b.toNat : Int)]); binOp .eql 37 (.agg #[.int .u64 (a.toNat : Int)]) (.agg #[.int .u64 (b.toNat : Int)]) : Sem Value).run Tryd.prog w9 = .ok (.bool (decide (a = b))) w9 := eqStr1 Tryd.underlying37 rfl rfl (by kernel_rfl) Tryd.underlying35 (by kernel_rfl) (by kernel_rfl) a b _ _ w9
def wardmotelaw31_stops_1_p (n : Nat) (a0 : List Int) (a1 : TChance) (a2 : Int) (a3 : Int) : Option Bool :=
  (if a0.length = 0 then (if a1.fState = (0 : UInt64) then some (decide (a2 = a3)) else some false) else some false)
set_option maxRecDepth 4000 in
set_option maxHeartbeats 4000000 in
theorem wardmotelaw31_stops_1_c (n : Nat) (L : List Nat) (w : World) (hL : ∀ b ∈ L, b < w.heap.size) (a0 : List Int) {v0_0 : Value} (h0_0 : Rep.R w L [v0_0] a0) (a1 : TChance) (a2 : Int) (a3 : Int) {p3 : Nat} (m3 : ∀ j9 v9, ([.int .i64 a3] : List Value)[j9]? = some v9 → w.cell? ((⟨p3, 0, none⟩ : Addr).add j9) = some v9)  {r : Bool} (h : wardmotelaw31_stops_1_p n a0 a1 a2 a3 = some r) :
    Calls Tryd.prog 39 #[v0_0, .agg #[.int .u64 (a1.fState.toNat : Int)], .int .i64 a2, .pointer (some ⟨p3, 0, none⟩)] w (Gives w fun w' u => u = .bool r) := by
  unfold wardmotelaw31_stops_1_p at h
  have hS0 := St.start w
  refine MX.start Tryd.func39 rfl rfl rfl (fun _ cs0 hb0 => ?_)
  refine MX.seq ?_
  refine MX.region ?_
  refine RG.new .plain rfl (Does.box (vs := [.int .u64 (a1.fState.toNat : Int)]) hS0 rfl rfl) (fun w2 b5 hS3 hT4 => ?_)
  refine RG.val' .plain (FV.assign rfl) rfl ?_
  refine RG.nil ?_
  refine MX.seq ?_
  refine MX.region ?_
  refine RG.val' .plain (FV.move rfl) rfl ?_
  have hm7 := Rep.mv h0_0 hT4
  have hl6 : a0.length ≤ 281474976710656 := Rep.lenle hm7
  refine RG.val' .plain (FV.len (xs := a0) Tryd.underlying22 rfl hm7) rfl ?_
  refine RG.val' .plain (FV.eqlN (i := a0.length) (j := 0) rfl rfl) rfl ?_
  refine RG.val' .plain (FV.move rfl) rfl ?_
  refine RG.ifd (s := 11) rfl h (fun c8 h => ?_) (fun c8 h => ?_)
  · skip
    refine RG.val' (.yes rfl rfl) (FV.loadN (cs := [.int .u64 (a1.fState.toNat : Int)]) (by kernel_rfl) rfl (hS3.memA .hd)) rfl ?_
    refine RG.val' (.yes rfl rfl) (FV.buildV (vs := []) (u := .agg #[.int .u64 0]) evs_nil (fun w9 => by kernel_rfl)) rfl ?_
    refine RG.val' (.yes rfl rfl) (FV.eqlV (v := .agg #[.int .u64 (a1.fState.toNat : Int)]) (u := .agg #[.int .u64 0]) rfl rfl (eql1U_37 a1.fState (0 : UInt64))) rfl ?_
    refine RG.val' .plain (FV.pick_t rfl rfl) rfl ?_
    refine RG.val' .plain (FV.move rfl) rfl ?_
    refine RG.ifd (s := 16) rfl h (fun c9 h => ?_) (fun c9 h => ?_)
    · skip
      refine RG.val' (.yes rfl rfl) (FV.move rfl) rfl ?_
      refine RG.val' (.yes rfl rfl) (FV.load1 (by kernel_rfl) rfl ((fun j9 v9 h9 => hS3.ag.cell0 (m3 j9 v9 h9)) 0 _ rfl)) rfl ?_
      refine RG.val' (.yes rfl rfl) (FV.eql (i := a2) (j := a3) rfl rfl) rfl ?_
      refine RG.val' .plain (FV.pick_t rfl rfl) rfl ?_
      refine RG.val' .plain (FV.assign rfl) rfl ?_
      refine RG.nil ?_
      refine MX.ret rfl ?_
      refine RT.leave (u := .bool (decide (a2 = a3))) hb0 Tryd.func39 rfl (.cons (.tmp rfl) .nil) rfl ?_
      obtain rfl := Option.some.inj h
      exact ⟨hS3.ag, fun w9 hw9 => rfl⟩
    · skip
      refine RG.off (.no rfl rfl) rfl ?_
      refine RG.off (.no rfl rfl) rfl ?_
      refine RG.off (.no rfl rfl) rfl ?_
      refine RG.val' .plain (FV.pick_f rfl rfl) rfl ?_
      refine RG.val' .plain (FV.assign rfl) rfl ?_
      refine RG.nil ?_
      refine MX.ret rfl ?_
      refine RT.leave (u := .bool false) hb0 Tryd.func39 rfl (.cons (.tmp rfl) .nil) rfl ?_
      obtain rfl := Option.some.inj h
      exact ⟨hS3.ag, fun w9 hw9 => rfl⟩
  · skip
    refine RG.off (.no rfl rfl) rfl ?_
    refine RG.off (.no rfl rfl) rfl ?_
    refine RG.off (.no rfl rfl) rfl ?_
    refine RG.val' .plain (FV.pick_f rfl rfl) rfl ?_
    refine RG.val' .plain (FV.move rfl) rfl ?_
    refine RG.off (.no rfl rfl) rfl ?_
    refine RG.off (.no rfl rfl) rfl ?_
    refine RG.off (.no rfl rfl) rfl ?_
    refine RG.val' .plain (FV.pick_f rfl rfl) rfl ?_
    refine RG.val' .plain (FV.assign rfl) rfl ?_
    refine RG.nil ?_
    refine MX.ret rfl ?_
    refine RT.leave (u := .bool false) hb0 Tryd.func39 rfl (.cons (.tmp rfl) .nil) rfl ?_
    obtain rfl := Option.some.inj h
    exact ⟨hS3.ag, fun w9 hw9 => rfl⟩
set_option maxRecDepth 4000 in
set_option maxHeartbeats 4000000 in
theorem wardmotelaw31_stops_c (n : Nat) (L : List Nat) (w : World) (hL : ∀ b ∈ L, b < w.heap.size) (a0 : Int)  :
    Calls Tryd.prog 21 #[.int .i64 a0] w (Gives w fun w' u => ∃ b5 : Nat, u = .func (.func 39) #[] #[.pointer (some ⟨b5, 0, none⟩)] ∧ St w w' [.cells b5 [.int .i64 a0] 27]) := by
  have hS0 := St.start w
  refine MX.start Tryd.func21 rfl rfl rfl (fun _ cs0 hb0 => ?_)
  refine MX.seq ?_
  refine MX.region ?_
  refine RG.new .plain rfl (Does.box (vs := [.int .i64 a0]) hS0 rfl rfl) (fun w2 b5 hS3 hT4 => ?_)
  refine RG.val' .plain (FV.assign rfl) rfl ?_
  refine RG.nil ?_
  refine MX.seq ?_
  refine MX.region ?_
  refine RG.val' .plain (FV.makeFunc (vs := []) (us := [.pointer (some ⟨b5, 0, none⟩)]) evs_nil (evs_cons rfl evs_nil)) rfl ?_
  refine RG.val' .plain (FV.assign rfl) rfl ?_
  refine RG.nil ?_
  refine MX.ret rfl ?_
  refine RT.leave (u := .func (.func 39) #[] #[.pointer (some ⟨b5, 0, none⟩)]) hb0 Tryd.func21 rfl (.cons (.tmp rfl) .nil) rfl ?_
  exact ⟨hS3.ag, fun w9 hw9 => ⟨b5, rfl, hS3.agree hw9⟩⟩
def wardmotelaw31_goes_1_p (n : Nat) (a0 : List Int) (a1 : TChance) (a2 : Int) (a3 : List Int) (a4 : TChance) : Option Bool :=
  (slices_Equal_int_int_p n a0 a3).bind fun y6 => (if y6 = true then (if a1.fState = a4.fState then some (decide (a2 = 0)) else some false) else some false)
set_option maxRecDepth 4000 in
set_option maxHeartbeats 4000000 in
theorem wardmotelaw31_goes_1_c (n : Nat) (L : List Nat) (w : World) (hL : ∀ b ∈ L, b < w.heap.size) (a0 : List Int) {v0_0 : Value} (h0_0 : Rep.R w L [v0_0] a0) (a1 : TChance) (a2 : Int) (a3 : List Int) {v3_0 : Value} (h3_0 : Rep.R w L [v3_0] a3) {p3 : Nat} (m3 : ∀ j9 v9, ([v3_0] : List Value)[j9]? = some v9 → w.cell? ((⟨p3, 0, none⟩ : Addr).add j9) = some v9) (a4 : TChance) {p4 : Nat} (m4 : ∀ j9 v9, ([.int .u64 (a4.fState.toNat : Int)] : List Value)[j9]? = some v9 → w.cell? ((⟨p4, 0, none⟩ : Addr).add j9) = some v9)  {r : Bool} (h : wardmotelaw31_goes_1_p n a0 a1 a2 a3 a4 = some r) :
    Calls Tryd.prog 40 #[v0_0, .agg #[.int .u64 (a1.fState.toNat : Int)], .int .i64 a2, .pointer (some ⟨p3, 0, none⟩), .pointer (some ⟨p4, 0, none⟩)] w (Gives w fun w' u => u = .bool r) := by
  unfold wardmotelaw31_goes_1_p at h
  have hS0 := St.start w
  refine MX.start Tryd.func40 rfl rfl rfl (fun _ cs0 hb0 => ?_)
  refine MX.seq ?_
  refine MX.region ?_
  refine RG.new .plain rfl (Does.box (vs := [.int .u64 (a1.fState.toNat : Int)]) hS0 rfl rfl) (fun w2 b5 hS3 hT4 => ?_)
  refine RG.val' .plain (FV.assign rfl) rfl ?_
  refine RG.nil ?_
  refine MX.seq ?_
  refine MX.region ?_
  refine RG.val' .plain (FV.move rfl) rfl ?_
  refine RG.val' .plain (FV.load1 (by kernel_rfl) rfl ((fun j9 v9 h9 => hS3.ag.cell0 (m3 j9 v9 h9)) 0 _ rfl)) rfl ?_
  obtain ⟨y6, hy6, h⟩ := bind_in h
  have hm7 := Rep.mv h0_0 hT4
  have hm8 := Rep.mv h3_0 hT4
  refine RG.callq' (v := .bool y6) (fst := []) (cap := []) .plain body12 rfl (evs_cons rfl (evs_cons rfl evs_nil)) (fun w9 hw9 => slices_Equal_int_int_c n _ w9 (hS3.hL0 hL hw9) a0 (Rep.keep0 (Rep.dropO (O := [.cells b5 [.int .u64 (a1.fState.toNat : Int)] 37]) hm7) hw9) a3 (Rep.keep0 (Rep.dropO (O := [.cells b5 [.int .u64 (a1.fState.toNat : Int)] 37]) hm8) hw9) hy6) rfl ?_
  refine RG.val' .plain (FV.move rfl) rfl ?_
  refine RG.ifb (s := 12) rfl h (fun c9 h => ?_) (fun c9 h => ?_)
  · skip
    refine RG.val' (.yes rfl rfl) (FV.loadN (cs := [.int .u64 (a1.fState.toNat : Int)]) (by kernel_rfl) rfl (hS3.memA .hd)) rfl ?_
    refine RG.val' (.yes rfl rfl) (FV.loadN (cs := [.int .u64 (a4.fState.toNat : Int)]) (by kernel_rfl) rfl (fun j9 v9 h9 => hS3.ag.cell0 (m4 j9 v9 h9))) rfl ?_
    refine RG.val' (.yes rfl rfl) (FV.eqlV (v := .agg #[.int .u64 (a1.fState.toNat : Int)]) (u := .agg #[.int .u64 (a4.fState.toNat : Int)]) rfl rfl (eql1U_37 a1.fState a4.fState)) rfl ?_
    refine RG.val' .plain (FV.pick_t rfl rfl) rfl ?_
    refine RG.val' .plain (FV.move rfl) rfl ?_
    refine RG.ifd (s := 17) rfl h (fun c10 h => ?_) (fun c10 h => ?_)
    · skip
      refine RG.val' (.yes rfl rfl) (FV.move rfl) rfl ?_
      refine RG.val' (.yes rfl rfl) (FV.eql (i := a2) (j := 0) rfl rfl) rfl ?_
      refine RG.val' .plain (FV.pick_t rfl rfl) rfl ?_
      refine RG.val' .plain (FV.assign rfl) rfl ?_
      refine RG.nil ?_
      refine MX.ret rfl ?_
      refine RT.leave (u := .bool (decide (a2 = 0))) hb0 Tryd.func40 rfl (.cons (.tmp rfl) .nil) rfl ?_
      obtain rfl := Option.some.inj h
      exact ⟨hS3.ag, fun w9 hw9 => rfl⟩
    · skip
      refine RG.off (.no rfl rfl) rfl ?_
      refine RG.off (.no rfl rfl) rfl ?_
      refine RG.val' .plain (FV.pick_f rfl rfl) rfl ?_
      refine RG.val' .plain (FV.assign rfl) rfl ?_
      refine RG.nil ?_
      refine MX.ret rfl ?_
      refine RT.leave (u := .bool false) hb0 Tryd.func40 rfl (.cons (.tmp rfl) .nil) rfl ?_
      obtain rfl := Option.some.inj h
      exact ⟨hS3.ag, fun w9 hw9 => rfl⟩
  · skip
    refine RG.off (.no rfl rfl) rfl ?_
    refine RG.off (.no rfl rfl) rfl ?_
    refine RG.off (.no rfl rfl) rfl ?_
    refine RG.val' .plain (FV.pick_f rfl rfl) rfl ?_
    refine RG.val' .plain (FV.move rfl) rfl ?_
    refine RG.off (.no rfl rfl) rfl ?_
    refine RG.off (.no rfl rfl) rfl ?_
    refine RG.val' .plain (FV.pick_f rfl rfl) rfl ?_
    refine RG.val' .plain (FV.assign rfl) rfl ?_
    refine RG.nil ?_
    refine MX.ret rfl ?_
    refine RT.leave (u := .bool false) hb0 Tryd.func40 rfl (.cons (.tmp rfl) .nil) rfl ?_
    obtain rfl := Option.some.inj h
    exact ⟨hS3.ag, fun w9 hw9 => rfl⟩
set_option maxRecDepth 4000 in
set_option maxHeartbeats 4000000 in
theorem wardmotelaw31_goes_c (n : Nat) (L : List Nat) (w : World) (hL : ∀ b ∈ L, b < w.heap.size) (a0 : TChance) (a1 : List Int) {v1_0 : Value} (h1_0 : Rep.R w L [v1_0] a1)  :
    Calls Tryd.prog 22 #[.agg #[.int .u64 (a0.fState.toNat : Int)], v1_0] w (Gives w fun w' u => ∃ b11 b5 : Nat, u = .func (.func 40) #[] #[.pointer (some ⟨b11, 0, none⟩), .pointer (some ⟨b5, 0, none⟩)] ∧ St w w' [.cells b11 [v1_0] 22, .cells b5 [.int .u64 (a0.fState.toNat : Int)] 37]) := by
  have hS0 := St.start w
  refine MX.start Tryd.func22 rfl rfl rfl (fun _ cs0 hb0 => ?_)
  refine MX.seq ?_
  refine MX.region ?_
  refine RG.new .plain rfl (Does.box (vs := [.int .u64 (a0.fState.toNat : Int)]) hS0 rfl rfl) (fun w2 b5 hS3 hT4 => ?_)
  have hm7 := Rep.mv h1_0 hT4
  refine RG.new .plain rfl (Does.box (vs := [v1_0]) hS3 rfl (Rep.c1 hm7)) (fun w8 b11 hS9 hT10 => ?_)
  refine RG.val' .plain (FV.assign rfl) rfl ?_
  refine RG.nil ?_
  refine MX.seq ?_
  refine MX.region ?_
  refine RG.val' .plain (FV.makeFunc (vs := []) (us := [.pointer (some ⟨b11, 0, none⟩), .pointer (some ⟨b5, 0, none⟩)]) evs_nil (evs_cons rfl (evs_cons rfl evs_nil))) rfl ?_
  refine RG.val' .plain (FV.assign rfl) rfl ?_
  refine RG.nil ?_
  refine MX.ret rfl ?_
  refine RT.leave (u := .func (.func 40) #[] #[.pointer (some ⟨b11, 0, none⟩), .pointer (some ⟨b5, 0, none⟩)]) hb0 Tryd.func22 rfl (.cons (.tmp rfl) .nil) rfl ?_
  exact ⟨hS9.ag, fun w9 hw9 => ⟨b11, b5, rfl, hS9.agree hw9⟩⟩
end Go.Proofs.YtplkfbljncfdnaaDoor
