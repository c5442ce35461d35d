/- Functions of the program, and what they give: part 2. -/
import Derived.Test.YtmpoojncffgjoaaGreatDoorPK1
namespace Go.Proofs.YtmpoojncffgjoaaGreatDoor
open Go Go.RowKit
set_option maxRecDepth 4000
set_option maxHeartbeats 4000000

theorem body99 : bodyB Tryz.prog 99 = true := by kernel_rfl
theorem body117 : bodyB Tryz.prog 117 = true := by kernel_rfl
def balance_count_check_l1 (n : Nat) (a1 : List Int) (a0 : Tcount) (J0 : Nat × (List (Int × Bool)) → Option ((Except Tbroken Unit) ⊕ (List (Int × Bool)))) : Nat × (List (Int × Bool)) → Option ((Except Tbroken Unit) ⊕ (List (Int × Bool)))
  | (i0, D0) => (if i0 < a1.length then (a1[i0]?).bind fun x0 => (if x0 < 0 then (balance_fail_p n true (220 : Int)).bind fun y0 => exc y0 (fun y1 => J0 (i0 + 1, mset D0 x0 true)) (fun e0 => some (.inl (.error e0))) else (balance_fail_p n (decide (a0.fk ≤ x0)) (220 : Int)).bind fun y2 => exc y2 (fun y3 => J0 (i0 + 1, mset D0 x0 true)) (fun e1 => some (.inl (.error e1)))) else some (.inr D0))
def balance_count_check_l2 (n : Nat) (a1 : List Int) (a0 : Tcount) (J0 : Nat × (List (Int × Bool)) → Option ((Except Tbroken Unit) ⊕ (List (Int × Bool)))) : Nat × (List (Int × Bool)) → Option ((Except Tbroken Unit) ⊕ (List (Int × Bool)))
  | (i0, D0) => (if i0 < a1.length then (a1[i0]?).bind fun x0 => (if x0 < 0 then (balance_fail_p n true (220 : Int)).bind fun y0 => exc y0 (fun y1 => J0 (i0 + 1, mset D0 x0 true)) (fun e0 => some (.inl (.error e0))) else (balance_fail_p n (decide (a0.fk ≤ x0)) (220 : Int)).bind fun y2 => exc y2 (fun y3 => J0 (i0 + 1, mset D0 x0 true)) (fun e1 => some (.inl (.error e1)))) else some (.inr D0))
def balance_count_check_l3 (n : Nat) (a0 : Tcount) (a1 : List Int) (J0 : Nat × Int → Option ((Except Tbroken Unit) ⊕ Int)) : Nat × Int → Option ((Except Tbroken Unit) ⊕ Int)
  | (i0, z0) => (if i0 < a0.fRoll.fUnits.length then (a0.fRoll.fUnits[i0]?).bind fun x0 => (if x0.fWater = true then ((balance_fail_p n (!(decide (((a1.length : Nat) : Int) = z0))) (220 : Int)).bind fun y0 => exc y0 (fun y1 => thn (loopF (balance_count_check_l1 n a1 a0) n (0, ([] : List (Int × Bool)))) (fun D0 => (balance_fail_p n (!(decide (((D0.length : Nat) : Int) = a0.fk))) (220 : Int)).bind fun y2 => exc y2 (fun y3 => some (.ok ())) (fun e0 => some (.error e0)))) (fun e1 => some (.error e1))).map .inl else (chk (z0 + 1)).bind fun s0 => J0 (i0 + 1, s0)) else some (.inr z0))
def balance_count_check_p (n : Nat) (a0 : Tcount) (a1 : List Int) : Option (Except Tbroken Unit) :=
  thn (loopF (balance_count_check_l3 n a0 a1) n (0, 0)) (fun z0 => (balance_fail_p n (!(decide (((a1.length : Nat) : Int) = z0))) (220 : Int)).bind fun y0 => exc y0 (fun y1 => thn (loopF (balance_count_check_l2 n a1 a0) n (0, ([] : List (Int × Bool)))) (fun D0 => (balance_fail_p n (!(decide (((D0.length : Nat) : Int) = a0.fk))) (220 : Int)).bind fun y2 => exc y2 (fun y3 => some (.ok ())) (fun e0 => some (.error e0)))) (fun e1 => some (.error e1)))
theorem balance_count_check_c (n : Nat) (L : List Nat) (w : World) (hL : ∀ b ∈ L, b < w.heap.size) (a0 : Tcount) {v0_3 : Value} (h0_3 : Rep.R w L [v0_3] a0.fRoll.fUnits) (a1 : List Int) {v1_0 : Value} (h1_0 : Rep.R w L [v1_0] a1)  {r : Except Tbroken Unit} (h : balance_count_check_p n a0 a1 = some r) :
    Calls Tryz.prog 98 #[.agg #[vI a0.fRoll.fGroups, vI a0.fRoll.fParties, vI a0.fRoll.fLevels, v0_3, vI a0.fk], v1_0] w (PGives w (fun (y : Unit) _ u => u = .tuple #[]) (fun e => .iface 142 (.agg #[vI e.fErrno])) r) := by
 unfold balance_count_check_p at h
 have hS0 := St.start w
 refine MX.startP Tryz.func98 rfl rfl rfl (fun _ cs0 hb0 hp0 => ?_)
 refine MX.sr <| RG.new .plain rfl (Does.box (vs := [vI a0.fRoll.fGroups, vI a0.fRoll.fParties, vI a0.fRoll.fLevels, v0_3, vI a0.fk]) hS0 rfl rfl) (fun w2 b5 hS3 hT4 => ?_)
 refine RG.nil <| MX.sr <| RG.new .plain rfl (Does.alloc (zs := [vI 0]) hS3 (zB (by kernel_rfl))) (fun w7 b0 hS8 hT9 => ?_)
 refine RG.now .plain (Acts.storeAll (news := [vI 0]) hS8 .hd rfl rfl rfl rfl rfl rfl (o1 rfl)) (fun w0 hS1 hT0 => ?_)
 refine RG.nil <| MX.seq <| MX.sr <| RG.va (FV.lN rfl (hS1.memA (.tl .hd))) <| RG.call' (fst := []) (cap := []) .plain body99 rfl (e1 rfl) (fun w9 hw9 => Calls.gives (balance_count_land_c n _ w9 (hS1.hL hL hw9) a0 (hS1.km h0_3 hw9)) fun (w8 : World) (u8 : Value) ⟨b0_, hu_, s_⟩ => (⟨b0_, hu_, s_.from hw9⟩ : ∃ b1 : Nat, u8 = Value.func (.func 117) #[] #[vP b1] ∧ St w0 w8 [.cells b1 [vI a0.fRoll.fGroups, vI a0.fRoll.fParties, vI a0.fRoll.fLevels, v0_3, vI a0.fk] 128])) rfl (fun w1 vu0 hag0 ⟨b1, hu0, s0⟩ => ?_)
 subst hu0
 have hS2 : St w w1 [.cells b1 [vI a0.fRoll.fGroups, vI a0.fRoll.fParties, vI a0.fRoll.fLevels, v0_3, vI a0.fk] 128, .cells b0 [vI 0] 3, .cells b5 [vI a0.fRoll.fGroups, vI a0.fRoll.fParties, vI a0.fRoll.fLevels, v0_3, vI a0.fk] 128] := St.merge hS1 s0
 have hT1 : Tr w0 [.cells b0 [vI 0] 3, .cells b5 [vI a0.fRoll.fGroups, vI a0.fRoll.fParties, vI a0.fRoll.fLevels, v0_3, vI a0.fk] 128] w1 [.cells b1 [vI a0.fRoll.fGroups, vI a0.fRoll.fParties, vI a0.fRoll.fLevels, v0_3, vI a0.fk] 128, .cells b0 [vI 0] 3, .cells b5 [vI a0.fRoll.fGroups, vI a0.fRoll.fParties, vI a0.fRoll.fLevels, v0_3, vI a0.fk] 128] := Tr.merge hS1 s0
 refine RG.nil <| MX.block <| MX.rangeP (lb := [vP b1]) rfl hS2 rfl body117 Tryz.func117 rfl rfl rfl (fun w3 lk26 D0 r28 cs1 hS4 hT2 rec29 hb1 hp1 => ?_)
 refine MX.sr <| RG.fa 0 rfl <| RG.fa 3 rfl <| RG.va (FV.l1 rfl ((mem_from (hS4.memA (.tl (.tl .hd))) 0) 3 _ rfl)) ?_
 have hm0 := Rep.mv0 h0_3 hS4
 have hl35 : a0.fRoll.fUnits.length ≤ 281474976710656 := Rep.lenle hm0
 refine RG.va (FV.len (xs := a0.fRoll.fUnits) Tryz.underlying23 rfl hm0) <| RG.mo rfl <| RG.nil <| MX.block ?_
 obtain ⟨o0, ho133, hh135⟩ := thn_in h
 refine MX.loop (α := Nat × Int) (fun ⟨i0, z0⟩ => [(0, .func (.yield lk26) #[] #[]), (7, v0_3), (8, vI ((a0.fRoll.fUnits.length : Nat) : Int)), (9, vI ((i0 : Nat) : Int))]) (fun ⟨i0, z0⟩ wx0 => St w wx0 [.obj lk26 (lpO r28 .ready none), .obj D0 (.deferred (some [])), .cells b1 [vI a0.fRoll.fGroups, vI a0.fRoll.fParties, vI a0.fRoll.fLevels, v0_3, vI a0.fk] 128, .cells b0 [vI z0] 3, .cells b5 [vI a0.fRoll.fGroups, vI a0.fRoll.fParties, vI a0.fRoll.fLevels, v0_3, vI a0.fk] 128] ∧ Tr w3 [.obj lk26 (lpO r28 .ready none), .obj D0 (.deferred (some [])), .cells b1 [vI a0.fRoll.fGroups, vI a0.fRoll.fParties, vI a0.fRoll.fLevels, v0_3, vI a0.fk] 128, .cells b0 [vI 0] 3, .cells b5 [vI a0.fRoll.fGroups, vI a0.fRoll.fParties, vI a0.fRoll.fLevels, v0_3, vI a0.fk] 128] wx0 [.obj lk26 (lpO r28 .ready none), .obj D0 (.deferred (some [])), .cells b1 [vI a0.fRoll.fGroups, vI a0.fRoll.fParties, vI a0.fRoll.fLevels, v0_3, vI a0.fk] 128, .cells b0 [vI z0] 3, .cells b5 [vI a0.fRoll.fGroups, vI a0.fRoll.fParties, vI a0.fRoll.fLevels, v0_3, vI a0.fk] 128]) (fun ⟨i0, z0⟩ => (i0, z0)) (0, 0) ho133 ⟨rfl, rfl, rfl, rfl, trivial⟩ ⟨hS4, Tr.refl _ _⟩ ?_
 rintro J0 ⟨i0, z0⟩ wx0 hJ137 ⟨hS5, hT3⟩ h
 unfold balance_count_check_l3 at h
 try dsimp only at h
 refine MX.sr <| RG.va (FV.lssN (i := i0) (j := a0.fRoll.fUnits.length) rfl rfl) <| RG.nil <| MX.seq <| MX.ifd rfl h (fun c0 h => ?_) (fun c0 h => ?_)
 refine MX.skip <| MX.seq <| MX.block <| MX.sr <| RG.mo rfl ?_
 obtain ⟨x0, hx0, h⟩ := bind_in h
 have hm1 := Rep.mv0 h0_3 hS5
 obtain ⟨A140, c1, he0, hk0, cs2, hr0, hm2⟩ := Rep.nth hm1 hx0
 obtain ⟨v0, v1, v2, rfl, hr1, hr2, hr3⟩ := op_TUnit hr0
 refine RG.va (FV.ia 6 i0 rfl he0 rfl rfl hk0) <| RG.va (FV.lN rfl hm2) <| RG.new .plain rfl (Does.alloc (zs := [.string ⟨#[]⟩, vI 0, vN, vN, vN, .bool false]) hS5 (zB (by kernel_rfl))) (fun w4 b2 hS6 hT5 => ?_)
 refine RG.so rfl ?_
 have hm3 := Rep.mv hr1 hT5
 have hm4 := Rep.mv hr2 hT5
 have hm5 := Rep.mv hr3 hT5
 refine RG.now .plain (Acts.storeAll (news := [.string x0.fName, vI x0.fPeople, v0, v1, v2, .bool x0.fWater]) hS6 .hd rfl rfl rfl rfl rfl rfl (o6 rfl rfl (Rep.o1 hm3) (Rep.o1 hm4) (Rep.o1 hm5) rfl)) (fun w5 hS7 hT6 => ?_)
 refine RG.nil <| MX.sr <| RG.fa 5 rfl <| RG.l1 rfl ((hS7.memA .hd) 5 _ rfl) <| RG.mo rfl <| RG.ifb (s := 16) rfl h (fun c2 h => ?_) (fun c2 h => ?_)
 refine RG.no <| RG.no <| RG.no <| RG.no <| RG.no <| RG.pt rfl rfl ?_
 refine RG.nil <| MX.cond_t rfl ?_
 have h := thn_map h hh135
 refine MX.ret rfl <| RT.leave (u := .tuple #[]) hb1 Tryz.func117 rfl .nil rfl <| MX.endRange0 hS7 (.tl .hd) (by intro h9; cases h9) (fun w6 hS9 hT7 => ?_)
 obtain ⟨hS10, hT8⟩ := St.arrB hS9 (.one .hd (.one (.tl .hd) (.one (.tl .hd) (.one (.tl .hd) (.one (.tl .hd) .done)))))
 refine MX.inBlock <| MX.sr <| RG.mo rfl ?_
 have hm6 := Rep.mv0 h1_0 hS10
 have hl171 : a1.length ≤ 281474976710656 := Rep.lenle hm6
 refine RG.va (FV.len (xs := a1) Tryz.underlying28 rfl hm6) <| RG.va (FV.l1 rfl ((hS10.memA (.tl (.tl (.tl .hd)))) 0 _ rfl)) <| RG.va (FV.neq (i := ((a1.length : Nat) : Int)) (j := z0) rfl rfl) ?_
 obtain ⟨y0, hy0, h⟩ := bind_in h
 rcases y0 with e0 | y1
 have h := exc_e h
 try dsimp only at h
 refine RG.callE (fst := []) (cap := []) .plain body97 rfl (e2 rfl rfl) (fun w9 hw9 => balance_fail_c n _ w9 (hS10.hL0 hL hw9) (!(decide (((a1.length : Nat) : Int) = z0))) (220 : Int) hy0) (fun w10 hag1 => ?_)
 obtain ⟨hS11, hT10⟩ := hS10.agr hag1
 refine PN.take hS11 (.tl .hd) (fun w12 hS13 hT11 => ?_)
 obtain ⟨hS14, hT12⟩ := St.arrB hS13 (.one .hd (.one (.tl .hd) (.one (.tl .hd) (.one (.tl .hd) .done))))
 cases h
 exact PN.leave hp0 Tryz.func98 ⟨hS14.ag, rfl⟩
 have h := exc_o h
 try dsimp only at h
 refine RG.cq (.tuple #[]) body97 rfl (e2 rfl rfl) (fun w9 hw9 => Calls.okp (balance_fail_c n _ w9 (hS10.hL0 hL hw9) (!(decide (((a1.length : Nat) : Int) = z0))) (220 : Int) hy0)) rfl <| RG.nil <| MX.sr <| RG.new .plain rfl (Does.makeMap (κ := Int) (ν := Bool) hS10) (fun w13 b3 hS15 hT14 => ?_)
 refine RG.so rfl <| RG.nil <| MX.seq <| MX.sr <| RG.mo rfl ?_
 have hm7 := Rep.mv0 h1_0 hS15
 refine RG.va (FV.len (xs := a1) Tryz.underlying28 rfl hm7) <| RG.mo rfl <| RG.nil <| MX.block ?_
 obtain ⟨hS16, hT15⟩ := St.arrB hS15 (.one .hd (.one (.tl .hd) (.one (.tl (.tl (.tl .hd))) .done)))
 obtain ⟨o2, ho261, hh263⟩ := thn_in h
 refine MX.loop (α := Nat × (List (Int × Bool))) (fun ⟨i1, D1⟩ => [(2, vP b5), (5, .map (some b3)), (20, v1_0), (21, vI ((a1.length : Nat) : Int)), (22, vI ((i1 : Nat) : Int))]) (fun ⟨i1, D1⟩ wx1 => St w wx1 [.obj b3 (mapO (D1 : List (Int × Bool))), .obj D0 (.deferred (some [])), .cells b5 [vI a0.fRoll.fGroups, vI a0.fRoll.fParties, vI a0.fRoll.fLevels, v0_3, vI a0.fk] 128] ∧ Tr w13 [.obj b3 (mapO ([] : List (Int × Bool))), .obj D0 (.deferred (some [])), .cells b5 [vI a0.fRoll.fGroups, vI a0.fRoll.fParties, vI a0.fRoll.fLevels, v0_3, vI a0.fk] 128] wx1 [.obj b3 (mapO (D1 : List (Int × Bool))), .obj D0 (.deferred (some [])), .cells b5 [vI a0.fRoll.fGroups, vI a0.fRoll.fParties, vI a0.fRoll.fLevels, v0_3, vI a0.fk] 128]) (fun ⟨i1, D1⟩ => (i1, D1)) (0, ([] : List (Int × Bool))) ho261 ⟨rfl, rfl, rfl, rfl, rfl, trivial⟩ ⟨hS16, Tr.refl _ _⟩ ?_
 rintro J1 ⟨i1, D1⟩ wx1 hJ265 ⟨hS17, hT16⟩ h
 unfold balance_count_check_l1 at h
 try dsimp only at h
 refine MX.sr <| RG.va (FV.lssN (i := i1) (j := a1.length) rfl rfl) <| RG.nil <| MX.seq <| MX.ifd rfl h (fun c3 h => ?_) (fun c3 h => ?_)
 refine MX.skip <| MX.seq <| MX.block <| MX.sr ?_
 obtain ⟨x1, hx1, h⟩ := bind_in h
 have hm8 := Rep.mv0 h1_0 hS17
 obtain ⟨A268, c4, he1, hk1, cs3, hr4, hm9⟩ := Rep.nth hm8 hx1
 have he2 : cs3 = [vI x1] := hr4; subst he2
 refine RG.va (FV.ia 1 i1 rfl he1 rfl rfl hk1) <| RG.l1 rfl (hm9 0 _ rfl) <| RG.so rfl <| RG.nil <| MX.sr <| RG.mo rfl ?_
 refine RG.va (FV.lss (i := x1) (j := 0) rfl rfl) <| RG.mo rfl <| RG.ifd (s := 28) rfl h (fun c5 h => ?_) (fun c5 h => ?_)
 refine RG.no <| RG.no <| RG.no <| RG.no <| RG.pt rfl rfl ?_
 obtain ⟨y2, hy1, h⟩ := bind_in h
 rcases y2 with e3 | y3
 have h := exc_e h
 try dsimp only at h
 have h := thn_inl h hh263
 refine RG.callE (fst := []) (cap := []) .plain body97 rfl (e2 rfl rfl) (fun w9 hw9 => balance_fail_c n _ w9 (hS17.hL0 hL hw9) true (220 : Int) hy1) (fun w14 hag2 => ?_)
 obtain ⟨hS18, hT17⟩ := hS17.agr hag2
 refine PN.take hS18 (.tl .hd) (fun w15 hS19 hT18 => ?_)
 obtain ⟨hS20, hT19⟩ := St.arrB hS19 (.one .hd (.one (.tl .hd) .done))
 cases h
 exact PN.leave hp0 Tryz.func98 ⟨hS20.ag, rfl⟩
 have h := exc_o h
 try dsimp only at h
 refine RG.cq (.tuple #[]) body97 rfl (e2 rfl rfl) (fun w9 hw9 => Calls.okp (balance_fail_c n _ w9 (hS17.hL0 hL hw9) true (220 : Int) hy1)) rfl <| RG.nil <| MX.region <| RG.mo rfl <| RG.mo rfl <| RG.now .plain (Acts.mapUpdate (kv := x1) (vv := true) hS17 .hd Tryz.underlying168 Tryz.underlying3 rfl rfl rfl rfl) (fun w17 hS22 hT20 => ?_)
 refine RG.nil <| MX.inBlock <| MX.region <| RG.va (FV.addN (i := i1) (j := 1) rfl rfl (by omega)) <| RG.mo rfl <| RG.nil ?_
 exact hJ265 (i1 + 1, mset D1 x1 true) _ _ ⟨rfl, rfl, rfl, rfl, rfl, trivial⟩ ⟨hS22, (Tr.trans hT16 hT20)⟩ h
 refine RG.ga (FV.move rfl) <| RG.fg 4 rfl <| RG.ga (FV.l1 rfl ((hS17.memA (.tl (.tl .hd))) 4 _ rfl)) <| RG.ga (FV.geq (i := x1) (j := a0.fk) rfl rfl) <| RG.pf rfl rfl ?_
 obtain ⟨y4, hy2, h⟩ := bind_in h
 rcases y4 with e4 | y5
 have h := exc_e h
 try dsimp only at h
 have h := thn_inl h hh263
 refine RG.callE (fst := []) (cap := []) .plain body97 rfl (e2 rfl rfl) (fun w9 hw9 => balance_fail_c n _ w9 (hS17.hL0 hL hw9) (decide (a0.fk ≤ x1)) (220 : Int) hy2) (fun w18 hag3 => ?_)
 obtain ⟨hS23, hT21⟩ := hS17.agr hag3
 refine PN.take hS23 (.tl .hd) (fun w19 hS25 hT23 => ?_)
 obtain ⟨hS26, hT24⟩ := St.arrB hS25 (.one .hd (.one (.tl .hd) .done))
 cases h
 exact PN.leave hp0 Tryz.func98 ⟨hS26.ag, rfl⟩
 have h := exc_o h
 try dsimp only at h
 refine RG.cq (.tuple #[]) body97 rfl (e2 rfl rfl) (fun w9 hw9 => Calls.okp (balance_fail_c n _ w9 (hS17.hL0 hL hw9) (decide (a0.fk ≤ x1)) (220 : Int) hy2)) rfl <| RG.nil <| MX.region <| RG.mo rfl <| RG.mo rfl <| RG.now .plain (Acts.mapUpdate (kv := x1) (vv := true) hS17 .hd Tryz.underlying168 Tryz.underlying3 rfl rfl rfl rfl) (fun w20 hS27 hT26 => ?_)
 refine RG.nil <| MX.inBlock <| MX.region <| RG.va (FV.addN (i := i1) (j := 1) rfl rfl (by omega)) <| RG.mo rfl <| RG.nil ?_
 exact hJ265 (i1 + 1, mset D1 x1 true) _ _ ⟨rfl, rfl, rfl, rfl, rfl, trivial⟩ ⟨hS27, (Tr.trans hT16 hT26)⟩ h
 refine MX.exit rfl ?_
 have h := thn_inr h hh263
 try dsimp only at h
 refine MX.region <| RG.mo rfl <| RG.va (FV.len_map (D := D1) hS17 .hd Tryz.underlying168 rfl) <| RG.fa 4 rfl <| RG.l1 rfl ((hS17.memA (.tl (.tl .hd))) 4 _ rfl) <| RG.va (FV.neq (i := ((D1.length : Nat) : Int)) (j := a0.fk) rfl rfl) ?_
 obtain ⟨y6, hy3, h⟩ := bind_in h
 rcases y6 with e5 | y7
 have h := exc_e h
 try dsimp only at h
 refine RG.callE (fst := []) (cap := []) .plain body97 rfl (e2 rfl rfl) (fun w9 hw9 => balance_fail_c n _ w9 (hS17.hL0 hL hw9) (!(decide (((D1.length : Nat) : Int) = a0.fk))) (220 : Int) hy3) (fun w21 hag4 => ?_)
 obtain ⟨hS28, hT27⟩ := hS17.agr hag4
 refine PN.take hS28 (.tl .hd) (fun w22 hS29 hT28 => ?_)
 obtain ⟨hS30, hT29⟩ := St.arrB hS29 (.one .hd (.one (.tl .hd) .done))
 cases h
 exact PN.leave hp0 Tryz.func98 ⟨hS30.ag, rfl⟩
 have h := exc_o h
 try dsimp only at h
 refine RG.cq (.tuple #[]) body97 rfl (e2 rfl rfl) (fun w9 hw9 => Calls.okp (balance_fail_c n _ w9 (hS17.hL0 hL hw9) (!(decide (((D1.length : Nat) : Int) = a0.fk))) (220 : Int) hy3)) rfl <| RG.nil <| MX.fin rfl <| RT.take hS17 (.tl .hd) (fun w24 hS31 hT30 => ?_)
 obtain ⟨hS32, hT31⟩ := St.arrB hS31 (.one .hd (.one (.tl .hd) .done))
 refine RT.leave hb0 Tryz.func98 rfl .nil rfl ?_
 cases h
 exact ⟨hS32.ag, fun w9 hw9 => okOf_in rfl⟩
 refine RG.ga (FV.move rfl) <| RG.ga (FV.move rfl) <| RG.ga (FV.lN rfl (hS7.memA .hd)) <| RG.yieldP (fd := 98) (vs := [vI ((i0 : Nat) : Int), .agg #[.string x0.fName, vI x0.fPeople, v0, v1, v2, .bool x0.fWater]]) (.yes rfl rfl) rfl (e2 rfl rfl) hS7 (.tl .hd) rec29 rfl rfl rfl (fun cs4 hb2 hp2 => ?_)
 refine MX.skip <| MX.begin hS7 (.tl .hd) (fun w25 hS33 hT32 => ?_)
 refine MX.block <| MX.region <| RG.va (FV.l1 rfl ((hS33.memA (.tl (.tl (.tl (.tl .hd))))) 0 _ rfl)) ?_
 obtain ⟨s1, hs0, h⟩ := bind_in h
 refine RG.va (FV.addc (i := z0) (j := 1) rfl rfl hs0) <| RG.now .plain (Acts.storeAll (news := [vI s1]) hS33 (.tl (.tl (.tl (.tl .hd)))) rfl rfl rfl rfl rfl rfl (o1 rfl)) (fun w26 hS34 hT33 => ?_)
 refine RG.nil <| MX.inBlock <| MX.roundEnd hb2 hS34 (.tl .hd) (fun w27 hS35 hT34 => ?_)
 refine RG.ga (FV.not rfl) <| RG.pf rfl rfl <| RG.nil <| MX.cond_f rfl <| MX.skip <| MX.inBlock ?_
 refine MX.region <| RG.va (FV.addN (i := i0) (j := 1) rfl rfl (by omega)) <| RG.mo rfl <| RG.nil ?_
 obtain ⟨hS36, hT35⟩ := St.arrB hS35 (.one (.tl .hd) (.one (.tl .hd) (.one (.tl .hd) (.one (.tl .hd) (.one (.tl .hd) .done)))))
 have hq343 := Tr.trans hT5 (Tr.trans hT6 (Tr.trans hT32 (Tr.trans hT33 (Tr.trans hT34 hT35))))
 exact hJ137 (i0 + 1, s1) _ _ ⟨rfl, rfl, rfl, rfl, trivial⟩ ⟨hS36, (Tr.trans hT3 hq343)⟩ h
 refine MX.exit rfl ?_
 have h := thn_inr h hh135
 try dsimp only at h
 refine MX.fin rfl <| RT.leave (u := .tuple #[]) hb1 Tryz.func117 rfl .nil rfl <| MX.endRange0 hS5 .hd (by intro h9; cases h9) (fun w28 hS37 hT36 => ?_)
 obtain ⟨hS38, hT37⟩ := St.arrB hS37 (.one (.tl .hd) (.one (.tl .hd) (.one (.tl .hd) (.one (.tl .hd) .done))))
 refine MX.inBlock <| MX.sr <| RG.mo rfl ?_
 have hm10 := Rep.mv0 h1_0 hS38
 have hl349 : a1.length ≤ 281474976710656 := Rep.lenle hm10
 refine RG.va (FV.len (xs := a1) Tryz.underlying28 rfl hm10) <| RG.l1 rfl ((hS38.memA (.tl (.tl .hd))) 0 _ rfl) <| RG.va (FV.neq (i := ((a1.length : Nat) : Int)) (j := z0) rfl rfl) ?_
 obtain ⟨y8, hy4, h⟩ := bind_in h
 rcases y8 with e6 | y9
 have h := exc_e h
 try dsimp only at h
 refine RG.callE (fst := []) (cap := []) .plain body97 rfl (e2 rfl rfl) (fun w9 hw9 => balance_fail_c n _ w9 (hS38.hL0 hL hw9) (!(decide (((a1.length : Nat) : Int) = z0))) (220 : Int) hy4) (fun w29 hag5 => ?_)
 obtain ⟨hS39, hT38⟩ := hS38.agr hag5
 refine PN.take hS39 .hd (fun w30 hS40 hT39 => ?_)
 obtain ⟨hS41, hT40⟩ := St.arrB hS40 (.one (.tl .hd) (.one (.tl .hd) (.one (.tl .hd) .done)))
 cases h
 exact PN.leave hp0 Tryz.func98 ⟨hS41.ag, rfl⟩
 have h := exc_o h
 try dsimp only at h
 refine RG.cq (.tuple #[]) body97 rfl (e2 rfl rfl) (fun w9 hw9 => Calls.okp (balance_fail_c n _ w9 (hS38.hL0 hL hw9) (!(decide (((a1.length : Nat) : Int) = z0))) (220 : Int) hy4)) rfl <| RG.nil <| MX.sr <| RG.new .plain rfl (Does.makeMap (κ := Int) (ν := Bool) hS38) (fun w31 b4 hS42 hT41 => ?_)
 refine RG.so rfl <| RG.nil <| MX.seq <| MX.sr <| RG.mo rfl ?_
 have hm11 := Rep.mv0 h1_0 hS42
 refine RG.va (FV.len (xs := a1) Tryz.underlying28 rfl hm11) <| RG.mo rfl <| RG.nil <| MX.block ?_
 obtain ⟨hS43, hT42⟩ := St.arrB hS42 (.one .hd (.one .hd (.one (.tl (.tl .hd)) .done)))
 obtain ⟨o3, ho439, hh441⟩ := thn_in h
 refine MX.loop (α := Nat × (List (Int × Bool))) (fun ⟨i2, D2⟩ => [(2, vP b5), (5, .map (some b4)), (20, v1_0), (21, vI ((a1.length : Nat) : Int)), (22, vI ((i2 : Nat) : Int))]) (fun ⟨i2, D2⟩ wx2 => St w wx2 [.obj b4 (mapO (D2 : List (Int × Bool))), .obj D0 (.deferred (some [])), .cells b5 [vI a0.fRoll.fGroups, vI a0.fRoll.fParties, vI a0.fRoll.fLevels, v0_3, vI a0.fk] 128] ∧ Tr w31 [.obj b4 (mapO ([] : List (Int × Bool))), .obj D0 (.deferred (some [])), .cells b5 [vI a0.fRoll.fGroups, vI a0.fRoll.fParties, vI a0.fRoll.fLevels, v0_3, vI a0.fk] 128] wx2 [.obj b4 (mapO (D2 : List (Int × Bool))), .obj D0 (.deferred (some [])), .cells b5 [vI a0.fRoll.fGroups, vI a0.fRoll.fParties, vI a0.fRoll.fLevels, v0_3, vI a0.fk] 128]) (fun ⟨i2, D2⟩ => (i2, D2)) (0, ([] : List (Int × Bool))) ho439 ⟨rfl, rfl, rfl, rfl, rfl, trivial⟩ ⟨hS43, Tr.refl _ _⟩ ?_
 rintro J2 ⟨i2, D2⟩ wx2 hJ443 ⟨hS44, hT43⟩ h
 unfold balance_count_check_l2 at h
 try dsimp only at h
 refine MX.sr <| RG.va (FV.lssN (i := i2) (j := a1.length) rfl rfl) <| RG.nil <| MX.seq <| MX.ifd rfl h (fun c6 h => ?_) (fun c6 h => ?_)
 refine MX.skip <| MX.seq <| MX.block <| MX.sr ?_
 obtain ⟨x2, hx2, h⟩ := bind_in h
 have hm12 := Rep.mv0 h1_0 hS44
 obtain ⟨A446, c7, he3, hk2, cs5, hr5, hm13⟩ := Rep.nth hm12 hx2
 have he4 : cs5 = [vI x2] := hr5; subst he4
 refine RG.va (FV.ia 1 i2 rfl he3 rfl rfl hk2) <| RG.l1 rfl (hm13 0 _ rfl) <| RG.so rfl <| RG.nil <| MX.sr <| RG.mo rfl ?_
 refine RG.va (FV.lss (i := x2) (j := 0) rfl rfl) <| RG.mo rfl <| RG.ifd (s := 28) rfl h (fun c8 h => ?_) (fun c8 h => ?_)
 refine RG.no <| RG.no <| RG.no <| RG.no <| RG.pt rfl rfl ?_
 obtain ⟨y10, hy5, h⟩ := bind_in h
 rcases y10 with e7 | y11
 have h := exc_e h
 try dsimp only at h
 have h := thn_inl h hh441
 refine RG.callE (fst := []) (cap := []) .plain body97 rfl (e2 rfl rfl) (fun w9 hw9 => balance_fail_c n _ w9 (hS44.hL0 hL hw9) true (220 : Int) hy5) (fun w32 hag6 => ?_)
 obtain ⟨hS45, hT44⟩ := hS44.agr hag6
 refine PN.take hS45 (.tl .hd) (fun w33 hS46 hT45 => ?_)
 obtain ⟨hS47, hT46⟩ := St.arrB hS46 (.one .hd (.one (.tl .hd) .done))
 cases h
 exact PN.leave hp0 Tryz.func98 ⟨hS47.ag, rfl⟩
 have h := exc_o h
 try dsimp only at h
 refine RG.cq (.tuple #[]) body97 rfl (e2 rfl rfl) (fun w9 hw9 => Calls.okp (balance_fail_c n _ w9 (hS44.hL0 hL hw9) true (220 : Int) hy5)) rfl <| RG.nil <| MX.region <| RG.mo rfl <| RG.mo rfl <| RG.now .plain (Acts.mapUpdate (kv := x2) (vv := true) hS44 .hd Tryz.underlying168 Tryz.underlying3 rfl rfl rfl rfl) (fun w34 hS48 hT47 => ?_)
 refine RG.nil <| MX.inBlock <| MX.region <| RG.va (FV.addN (i := i2) (j := 1) rfl rfl (by omega)) <| RG.mo rfl <| RG.nil ?_
 exact hJ443 (i2 + 1, mset D2 x2 true) _ _ ⟨rfl, rfl, rfl, rfl, rfl, trivial⟩ ⟨hS48, (Tr.trans hT43 hT47)⟩ h
 refine RG.ga (FV.move rfl) <| RG.fg 4 rfl <| RG.ga (FV.l1 rfl ((hS44.memA (.tl (.tl .hd))) 4 _ rfl)) <| RG.ga (FV.geq (i := x2) (j := a0.fk) rfl rfl) <| RG.pf rfl rfl ?_
 obtain ⟨y12, hy6, h⟩ := bind_in h
 rcases y12 with e8 | y13
 have h := exc_e h
 try dsimp only at h
 have h := thn_inl h hh441
 refine RG.callE (fst := []) (cap := []) .plain body97 rfl (e2 rfl rfl) (fun w9 hw9 => balance_fail_c n _ w9 (hS44.hL0 hL hw9) (decide (a0.fk ≤ x2)) (220 : Int) hy6) (fun w35 hag7 => ?_)
 obtain ⟨hS49, hT48⟩ := hS44.agr hag7
 refine PN.take hS49 (.tl .hd) (fun w36 hS50 hT49 => ?_)
 obtain ⟨hS51, hT50⟩ := St.arrB hS50 (.one .hd (.one (.tl .hd) .done))
 cases h
 exact PN.leave hp0 Tryz.func98 ⟨hS51.ag, rfl⟩
 have h := exc_o h
 try dsimp only at h
 refine RG.cq (.tuple #[]) body97 rfl (e2 rfl rfl) (fun w9 hw9 => Calls.okp (balance_fail_c n _ w9 (hS44.hL0 hL hw9) (decide (a0.fk ≤ x2)) (220 : Int) hy6)) rfl <| RG.nil <| MX.region <| RG.mo rfl <| RG.mo rfl <| RG.now .plain (Acts.mapUpdate (kv := x2) (vv := true) hS44 .hd Tryz.underlying168 Tryz.underlying3 rfl rfl rfl rfl) (fun w37 hS52 hT51 => ?_)
 refine RG.nil <| MX.inBlock <| MX.region <| RG.va (FV.addN (i := i2) (j := 1) rfl rfl (by omega)) <| RG.mo rfl <| RG.nil ?_
 exact hJ443 (i2 + 1, mset D2 x2 true) _ _ ⟨rfl, rfl, rfl, rfl, rfl, trivial⟩ ⟨hS52, (Tr.trans hT43 hT51)⟩ h
 refine MX.exit rfl ?_
 have h := thn_inr h hh441
 try dsimp only at h
 refine MX.region <| RG.mo rfl <| RG.va (FV.len_map (D := D2) hS44 .hd Tryz.underlying168 rfl) <| RG.fa 4 rfl <| RG.l1 rfl ((hS44.memA (.tl (.tl .hd))) 4 _ rfl) <| RG.va (FV.neq (i := ((D2.length : Nat) : Int)) (j := a0.fk) rfl rfl) ?_
 obtain ⟨y14, hy7, h⟩ := bind_in h
 rcases y14 with e9 | y15
 have h := exc_e h
 try dsimp only at h
 refine RG.callE (fst := []) (cap := []) .plain body97 rfl (e2 rfl rfl) (fun w9 hw9 => balance_fail_c n _ w9 (hS44.hL0 hL hw9) (!(decide (((D2.length : Nat) : Int) = a0.fk))) (220 : Int) hy7) (fun w38 hag8 => ?_)
 obtain ⟨hS53, hT52⟩ := hS44.agr hag8
 refine PN.take hS53 (.tl .hd) (fun w39 hS54 hT53 => ?_)
 obtain ⟨hS55, hT54⟩ := St.arrB hS54 (.one .hd (.one (.tl .hd) .done))
 cases h
 exact PN.leave hp0 Tryz.func98 ⟨hS55.ag, rfl⟩
 have h := exc_o h
 try dsimp only at h
 refine RG.cq (.tuple #[]) body97 rfl (e2 rfl rfl) (fun w9 hw9 => Calls.okp (balance_fail_c n _ w9 (hS44.hL0 hL hw9) (!(decide (((D2.length : Nat) : Int) = a0.fk))) (220 : Int) hy7)) rfl <| RG.nil <| MX.fin rfl <| RT.take hS44 (.tl .hd) (fun w40 hS56 hT55 => ?_)
 obtain ⟨hS57, hT56⟩ := St.arrB hS56 (.one .hd (.one (.tl .hd) .done))
 refine RT.leave hb0 Tryz.func98 rfl .nil rfl ?_
 cases h
 exact ⟨hS57.ag, fun w9 hw9 => okOf_in rfl⟩
def tb78_6 : List (Nat × Nat × Nat) := [(0, 262144, 32), (0, 524288, 8), (0, 1048576, 64), (6, 2097152, 1572864), (8, 4194304, 2097152), (17, 8388608, 4456448), (32, 16777216, 8388608), (0, 33554432, 128), (128, 67108864, 33554432), (320, 134217728, 83886080), (1023, 268435456, 4456448), (2047, 0, 402653184)]
theorem body98 : bodyB Tryz.prog 98 = true := by kernel_rfl
def balance_count_totals_l1 (_n : Nat) (a0 : Tcount) (a1 : List Int) (J0 : Nat × (List Int) → Option ((Except Tbroken (List Int)) ⊕ (List Int))) : Nat × (List Int) → Option ((Except Tbroken (List Int)) ⊕ (List Int))
  | (i0, xs0) => (if i0 < a0.fRoll.fUnits.length then (a0.fRoll.fUnits[i0]?).bind fun x0 => (if x0.fWater = true then some (.inl (.ok xs0)) else (a1[i0]?).bind fun x1 => (idx xs0 x1).bind fun x2 => (chk (x2 + x0.fPeople)).bind fun s0 => (put xs0 ((x1.toNat : Nat) : Int) s0).bind fun xs1 => J0 (i0 + 1, xs1)) else some (.inr xs0))
def balance_count_totals_p (n : Nat) (a0 : Tcount) (a1 : List Int) : Option (Except Tbroken (List Int)) :=
  (balance_count_check_p n a0 a1).bind fun y0 => exc y0 (fun y1 => (mk a0.fk (0 : Int)).bind fun xs0 => thn (loopF (balance_count_totals_l1 n a0 a1) n (0, xs0)) (fun xs1 => some (.ok xs1))) (fun e0 => some (.error e0))
theorem balance_count_totals_c (n : Nat) (L : List Nat) (w : World) (hL : ∀ b ∈ L, b < w.heap.size) (a0 : Tcount) {v0_3 : Value} (h0_3 : Rep.R w L [v0_3] a0.fRoll.fUnits) (a1 : List Int) {v1_0 : Value} (h1_0 : Rep.R w L [v1_0] a1)  {r : Except Tbroken (List Int)} (h : balance_count_totals_p n a0 a1 = some r) :
    Calls Tryz.prog 78 #[.agg #[vI a0.fRoll.fGroups, vI a0.fRoll.fParties, vI a0.fRoll.fLevels, v0_3, vI a0.fk], v1_0] w (PGives w (fun (y : List Int) w' u => ∃ v0_0 : Value, u = v0_0 ∧ Rep.R w' L [v0_0] y) (fun e => .iface 142 (.agg #[vI e.fErrno])) r) := by
 unfold balance_count_totals_p at h
 have hS0 := St.start w
 refine MX.startP Tryz.func78 rfl rfl rfl (fun _ cs0 hb0 hp0 => ?_)
 refine MX.sr <| RG.new .plain rfl (Does.box (vs := [vI a0.fRoll.fGroups, vI a0.fRoll.fParties, vI a0.fRoll.fLevels, v0_3, vI a0.fk]) hS0 rfl rfl) (fun w2 b5 hS3 hT4 => ?_)
 have hm7 := Rep.mv0 h1_0 hS3
 refine RG.new .plain rfl (Does.box (vs := [v1_0]) hS3 rfl (Rep.c1 hm7)) (fun w8 b0 hS9 hT0 => ?_)
 refine RG.so rfl <| RG.nil <| MX.sr <| RG.va (FV.lN rfl (hS9.memA (.tl .hd))) <| RG.l1 rfl ((hS9.memA .hd) 0 _ rfl) ?_
 obtain ⟨y0, hy0, h⟩ := bind_in h
 rcases y0 with e0 | y1
 have h := exc_e h
 try dsimp only at h
 refine RG.callE (fst := []) (cap := []) .plain body98 rfl (e2 rfl rfl) (fun w9 hw9 => balance_count_check_c n _ w9 (hS9.hL0 hL hw9) a0 (hS9.k0 h0_3 hw9) a1 (hS9.k0 h1_0 hw9) hy0) (fun w0 hag0 => ?_)
 obtain ⟨hS1, hT1⟩ := hS9.agr hag0
 cases h
 exact PN.leave hp0 Tryz.func78 ⟨hS1.ag, rfl⟩
 have h := exc_o h
 try dsimp only at h
 refine RG.cq (.tuple #[]) body98 rfl (e2 rfl rfl) (fun w9 hw9 => Calls.okp (balance_count_check_c n _ w9 (hS9.hL0 hL hw9) a0 (hS9.k0 h0_3 hw9) a1 (hS9.k0 h1_0 hw9) hy0)) rfl <| RG.nil <| MX.sr <| RG.fa 4 rfl <| RG.l1 rfl ((hS9.memA (.tl .hd)) 4 _ rfl) ?_
 obtain ⟨xs0, hxs21, h⟩ := bind_in h
 refine RG.new .plain rfl (Does.mk (α := Int) hxs21 hS9 el27 rfl) (fun w1 b1 hS2 hT2 => ?_)
 have hc0 := Cells.at_ (cs := (List.replicate a0.fk.toNat [vI 0]).flatten) (xs := xs0) hS2 L (Cells.mk hxs21 rfl)
 refine RG.new .plain rfl (Does.alloc (zs := [vN]) hS2 (zB (by kernel_rfl))) (fun w3 b2 hS4 hT3 => ?_)
 refine RG.now .plain (Acts.storeAll (news := [(.slice (some ⟨b1, 0, none⟩) a0.fk.toNat a0.fk.toNat)]) hS4 .hd rfl rfl rfl (St.c1 (α := Int) hS4 (.tl .hd)) rfl rfl (o1 (St.o1 (α := Int) hS4 (.tl .hd)))) (fun w4 hS5 hT5 => ?_)
 refine RG.nil <| MX.seq <| MX.sr <| RG.va (FV.lN rfl (hS5.memA (.tl (.tl (.tl .hd))))) <| RG.call' (fst := []) (cap := []) .plain body99 rfl (e1 rfl) (fun w9 hw9 => Calls.gives (balance_count_land_c n _ w9 (hS5.hL hL hw9) a0 (hS5.km h0_3 hw9)) fun (w8 : World) (u8 : Value) ⟨b0_, hu_, s_⟩ => (⟨b0_, hu_, s_.from hw9⟩ : ∃ b3 : Nat, u8 = Value.func (.func 117) #[] #[vP b3] ∧ St w4 w8 [.cells b3 [vI a0.fRoll.fGroups, vI a0.fRoll.fParties, vI a0.fRoll.fLevels, v0_3, vI a0.fk] 128])) rfl (fun w5 vu0 hag1 ⟨b3, hu0, s0⟩ => ?_)
 subst hu0
 have hS6 : St w w5 [.cells b3 [vI a0.fRoll.fGroups, vI a0.fRoll.fParties, vI a0.fRoll.fLevels, v0_3, vI a0.fk] 128, .cells b2 [(.slice (some ⟨b1, 0, none⟩) a0.fk.toNat a0.fk.toNat)] 27, .row w.heap.size 3 (Rep.size Int) (.slice (some ⟨b1, 0, none⟩) a0.fk.toNat a0.fk.toNat) xs0.length ((List.replicate a0.fk.toNat [vI 0]).flatten), .cells b0 [v1_0] 28, .cells b5 [vI a0.fRoll.fGroups, vI a0.fRoll.fParties, vI a0.fRoll.fLevels, v0_3, vI a0.fk] 128] := St.merge hS5 s0
 have hT6 : Tr w4 [.cells b2 [(.slice (some ⟨b1, 0, none⟩) a0.fk.toNat a0.fk.toNat)] 27, .row w.heap.size 3 (Rep.size Int) (.slice (some ⟨b1, 0, none⟩) a0.fk.toNat a0.fk.toNat) xs0.length ((List.replicate a0.fk.toNat [vI 0]).flatten), .cells b0 [v1_0] 28, .cells b5 [vI a0.fRoll.fGroups, vI a0.fRoll.fParties, vI a0.fRoll.fLevels, v0_3, vI a0.fk] 128] w5 [.cells b3 [vI a0.fRoll.fGroups, vI a0.fRoll.fParties, vI a0.fRoll.fLevels, v0_3, vI a0.fk] 128, .cells b2 [(.slice (some ⟨b1, 0, none⟩) a0.fk.toNat a0.fk.toNat)] 27, .row w.heap.size 3 (Rep.size Int) (.slice (some ⟨b1, 0, none⟩) a0.fk.toNat a0.fk.toNat) xs0.length ((List.replicate a0.fk.toNat [vI 0]).flatten), .cells b0 [v1_0] 28, .cells b5 [vI a0.fRoll.fGroups, vI a0.fRoll.fParties, vI a0.fRoll.fLevels, v0_3, vI a0.fk] 128] := Tr.merge hS5 s0
 refine RG.nil <| MX.block <| MX.rangeP (lb := [vP b3]) rfl hS6 rfl body117 Tryz.func117 rfl rfl rfl (fun w6 lk47 D0 r49 cs1 hS7 hT7 rec50 hb1 hp1 => ?_)
 refine MX.sr <| RG.fa 0 rfl <| RG.fa 3 rfl <| RG.va (FV.l1 rfl ((mem_from (hS7.memA (.tl (.tl .hd))) 0) 3 _ rfl)) ?_
 have hm0 := Rep.mv0 h0_3 hS7
 have hl56 : a0.fRoll.fUnits.length ≤ 281474976710656 := Rep.lenle hm0
 refine RG.va (FV.len (xs := a0.fRoll.fUnits) Tryz.underlying23 rfl hm0) <| RG.mo rfl <| RG.nil <| MX.block ?_
 have hq237 := Tr.trans hT3 (Tr.trans hT5 (Tr.trans hT6 hT7))
 have hm1 := Cells.mv hc0 hq237
 obtain ⟨o0, ho247, hh249⟩ := thn_in h
 refine MX.loop (α := Nat × (List Int) × (List Value)) (fun ⟨i0, xs1, cs2⟩ => [(0, .func (.yield lk47) #[] #[]), (7, v0_3), (8, vI ((a0.fRoll.fUnits.length : Nat) : Int)), (9, vI ((i0 : Nat) : Int))]) (fun ⟨i0, xs1, cs2⟩ wx0 => St w wx0 [.obj lk47 (lpO r49 .ready none), .obj D0 (.deferred (some [])), .cells b3 [vI a0.fRoll.fGroups, vI a0.fRoll.fParties, vI a0.fRoll.fLevels, v0_3, vI a0.fk] 128, .cells b2 [(.slice (some ⟨b1, 0, none⟩) a0.fk.toNat a0.fk.toNat)] 27, .row w.heap.size 3 (Rep.size Int) (.slice (some ⟨b1, 0, none⟩) a0.fk.toNat a0.fk.toNat) xs1.length cs2, .cells b0 [v1_0] 28, .cells b5 [vI a0.fRoll.fGroups, vI a0.fRoll.fParties, vI a0.fRoll.fLevels, v0_3, vI a0.fk] 128] ∧ Tr w6 [.obj lk47 (lpO r49 .ready none), .obj D0 (.deferred (some [])), .cells b3 [vI a0.fRoll.fGroups, vI a0.fRoll.fParties, vI a0.fRoll.fLevels, v0_3, vI a0.fk] 128, .cells b2 [(.slice (some ⟨b1, 0, none⟩) a0.fk.toNat a0.fk.toNat)] 27, .row w.heap.size 3 (Rep.size Int) (.slice (some ⟨b1, 0, none⟩) a0.fk.toNat a0.fk.toNat) xs0.length ((List.replicate a0.fk.toNat [vI 0]).flatten), .cells b0 [v1_0] 28, .cells b5 [vI a0.fRoll.fGroups, vI a0.fRoll.fParties, vI a0.fRoll.fLevels, v0_3, vI a0.fk] 128] wx0 [.obj lk47 (lpO r49 .ready none), .obj D0 (.deferred (some [])), .cells b3 [vI a0.fRoll.fGroups, vI a0.fRoll.fParties, vI a0.fRoll.fLevels, v0_3, vI a0.fk] 128, .cells b2 [(.slice (some ⟨b1, 0, none⟩) a0.fk.toNat a0.fk.toNat)] 27, .row w.heap.size 3 (Rep.size Int) (.slice (some ⟨b1, 0, none⟩) a0.fk.toNat a0.fk.toNat) xs1.length cs2, .cells b0 [v1_0] 28, .cells b5 [vI a0.fRoll.fGroups, vI a0.fRoll.fParties, vI a0.fRoll.fLevels, v0_3, vI a0.fk] 128] ∧ Cells wx0 (bl [.obj lk47 (lpO r49 .ready none), .obj D0 (.deferred (some [])), .cells b3 [vI a0.fRoll.fGroups, vI a0.fRoll.fParties, vI a0.fRoll.fLevels, v0_3, vI a0.fk] 128, .cells b2 [(.slice (some ⟨b1, 0, none⟩) a0.fk.toNat a0.fk.toNat)] 27, .row w.heap.size 3 (Rep.size Int) (.slice (some ⟨b1, 0, none⟩) a0.fk.toNat a0.fk.toNat) xs1.length cs2, .cells b0 [v1_0] 28, .cells b5 [vI a0.fRoll.fGroups, vI a0.fRoll.fParties, vI a0.fRoll.fLevels, v0_3, vI a0.fk] 128] ++ L) cs2 xs1) (fun ⟨i0, xs1, cs2⟩ => (i0, xs1)) (0, xs0, (List.replicate a0.fk.toNat [vI 0]).flatten) ho247 ⟨rfl, rfl, rfl, rfl, trivial⟩ ⟨hS7, Tr.refl _ _, hm1⟩ ?_
 rintro J0 ⟨i0, xs1, cs2⟩ wx0 hJ251 ⟨hS8, hT8, hc1⟩ h
 unfold balance_count_totals_l1 at h
 try dsimp only at h
 refine MX.sr <| RG.va (FV.lssN (i := i0) (j := a0.fRoll.fUnits.length) rfl rfl) <| RG.nil <| MX.seq <| MX.ifd rfl h (fun c0 h => ?_) (fun c0 h => ?_)
 refine MX.skip <| MX.seq <| MX.block <| MX.sr <| RG.mo rfl ?_
 obtain ⟨x0, hx0, h⟩ := bind_in h
 have hm2 := Rep.mv0 h0_3 hS8
 obtain ⟨A254, c1, he0, hk0, cs3, hr0, hm3⟩ := Rep.nth hm2 hx0
 obtain ⟨v0, v1, v2, rfl, hr1, hr2, hr3⟩ := op_TUnit hr0
 refine RG.va (FV.ia 6 i0 rfl he0 rfl rfl hk0) <| RG.va (FV.lN rfl hm3) <| RG.new .plain rfl (Does.alloc (zs := [.string ⟨#[]⟩, vI 0, vN, vN, vN, .bool false]) hS8 (zB (by kernel_rfl))) (fun w7 b4 hS10 hT9 => ?_)
 refine RG.so rfl ?_
 have hm4 := Rep.mv hr1 hT9
 have hm5 := Rep.mv hr2 hT9
 have hm6 := Rep.mv hr3 hT9
 refine RG.now .plain (Acts.storeAll (news := [.string x0.fName, vI x0.fPeople, v0, v1, v2, .bool x0.fWater]) hS10 .hd rfl rfl rfl rfl rfl rfl (o6 rfl rfl (Rep.o1 hm4) (Rep.o1 hm5) (Rep.o1 hm6) rfl)) (fun w10 hS11 hT11 => ?_)
 refine RG.nil <| MX.sr <| RG.fa 5 rfl <| RG.l1 rfl ((hS11.memA .hd) 5 _ rfl) <| RG.mo rfl <| RG.ifb (s := 16) rfl h (fun c2 h => ?_) (fun c2 h => ?_)
 refine RG.no <| RG.no <| RG.no <| RG.no <| RG.no <| RG.pt rfl rfl ?_
 refine RG.nil <| MX.cond_t rfl ?_
 have h := thn_inl h hh249
 refine MX.ret rfl <| RT.leave (u := .tuple #[]) hb1 Tryz.func117 rfl .nil rfl <| MX.endRange0 hS11 (.tl .hd) (by intro h9; cases h9) (fun w11 hS12 hT12 => ?_)
 obtain ⟨hS13, hT13⟩ := St.arrB hS12 (.one .hd (.one (.tl .hd) (.one (.tl .hd) (.one (.tl .hd) (.one (.tl .hd) (.one (.tl .hd) (.one (.tl .hd) .done)))))))
 refine MX.inBlock <| MX.sr <| RG.va (FV.l1 rfl ((hS13.memA (.tl (.tl (.tl .hd)))) 0 _ rfl)) <| RG.so rfl <| RG.nil <| MX.ret rfl ?_
 refine RT.take hS13 (.tl .hd) (fun w12 hS14 hT14 => ?_)
 obtain ⟨hS15, hT15⟩ := St.arrB hS14 (.one .hd (.one (.tl .hd) (.one (.tl .hd) (.one (.tl .hd) (.one (.tl .hd) (.one (.tl .hd) .done))))))
 have hq293 := Tr.trans hT9 (Tr.trans hT11 (Tr.trans hT12 (Tr.trans hT13 (Tr.trans hT14 hT15))))
 have hm8 := Cells.mv hc1 hq293
 have hr4 := St.freeze (α := Int) hS15 (.tl (.tl (.tl .hd))) hm8 hL
 have hS16 := St.delS hS15 (.tl (.tl (.tl .hd)))
 have hT16 := St.delT hS15 (.tl (.tl (.tl .hd)))
 have hr5 := Rep.at_ (α := Int) (v := (.slice (some ⟨b1, 0, none⟩) a0.fk.toNat a0.fk.toNat)) (xs := xs1) hS16 L hr4
 refine RT.t1 hb0 Tryz.func78 rfl rfl ?_
 cases h
 exact ⟨hS16.ag, fun w9 hw9 => okOf_in ⟨(.slice (some ⟨b1, 0, none⟩) a0.fk.toNat a0.fk.toNat), rfl, hS16.kd hr5 hw9⟩⟩
 refine RG.ga (FV.move rfl) <| RG.ga (FV.move rfl) <| RG.ga (FV.lN rfl (hS11.memA .hd)) <| RG.yieldP (fd := 78) (vs := [vI ((i0 : Nat) : Int), .agg #[.string x0.fName, vI x0.fPeople, v0, v1, v2, .bool x0.fWater]]) (.yes rfl rfl) rfl (e2 rfl rfl) hS11 (.tl .hd) rec50 rfl rfl rfl (fun cs4 hb2 hp2 => ?_)
 refine MX.sr <| RG.so rfl <| RG.nil <| MX.region <| RG.new .plain rfl (Does.alloc (zs := [.string ⟨#[]⟩, vI 0, vN, vN, vN, .bool false]) hS11 (zB (by kernel_rfl))) (fun w13 b6 hS18 hT17 => ?_)
 have hq304 := Tr.trans hT9 (Tr.trans hT11 hT17)
 have hm9 := Rep.mv hr1 hq304
 have hm10 := Rep.mv hr2 hq304
 have hm11 := Rep.mv hr3 hq304
 refine RG.now .plain (Acts.storeAll (news := [.string x0.fName, vI x0.fPeople, v0, v1, v2, .bool x0.fWater]) hS18 .hd rfl rfl rfl rfl rfl rfl (o6 rfl rfl (Rep.o1 hm9) (Rep.o1 hm10) (Rep.o1 hm11) rfl)) (fun w14 hS19 hT19 => ?_)
 refine RG.nil <| MX.begin hS19 (.tl (.tl .hd)) (fun w16 hS20 hT20 => ?_)
 refine MX.block <| MX.drawT 11 tb78_6 (by kernel_rfl) (by kernel_rfl) (by kernel_rfl) (fun kt0 kp0 => ?_)
 refine RD.vx 0 1 3680 kt0 rfl kp0 (FV.l1 rfl ((hS20.memA (.tl (.tl (.tl (.tl (.tl .hd)))))) 0 _ rfl)) rfl <| RD.vx 1 3 3704 kt0 rfl kp0 (FV.l1 rfl ((hS20.memA (.tl (.tl (.tl (.tl (.tl (.tl (.tl .hd)))))))) 0 _ rfl)) rfl <| RD.vw 2 7 kt0 rfl kp0 (fun _ => FV.move rfl) rfl ?_
 obtain ⟨x1, hx1, h⟩ := bind_in h
 have hm12 := Rep.mv0 h1_0 hS20
 obtain ⟨A317, c3, he1, hk1, cs5, hr6, hm13⟩ := Rep.nth hm12 hx1
 have he2 : cs5 = [vI x1] := hr6; subst he2
 refine RD.vw 3 15 kt0 rfl kp0 (fun _ => FV.ia 1 i0 rfl he1 rfl rfl hk1) rfl <| RD.vx 4 31 3680 kt0 rfl kp0 (FV.l1 rfl (hm13 0 _ rfl)) rfl ?_
 obtain ⟨x2, hx2, h⟩ := bind_in h
 obtain ⟨hi0, hx3⟩ := idx_in hx2
 have hq336 := Tr.trans hq304 (Tr.trans hT19 hT20)
 have hm14 := Cells.mv hc1 hq336
 obtain ⟨A329, c4, he3, hk2, cs6, hr7, hm15⟩ := St.nth (α := Int) hS20 (.tl (.tl (.tl (.tl (.tl (.tl .hd)))))) hm14 hx3
 obtain ⟨b7, c5, he4⟩ := St.nthOwn (α := Int) hS20 (.tl (.tl (.tl (.tl (.tl (.tl .hd)))))) hk2
 obtain rfl : A329 = ⟨b7, 0, none⟩ := by rw [he4] at he3; cases he3; rfl
 have he5 : cs6 = [vI x2] := hr7; subst he5
 refine RD.vw 5 63 kt0 rfl kp0 (fun _ => FV.ia 1 (x1.toNat) rfl he3 rfl hi0 hk2) rfl <| RD.vx 6 127 3584 kt0 rfl kp0 (FV.l1 rfl (hm15 0 _ rfl)) rfl <| RD.vw 7 255 kt0 rfl kp0 (fun _ => FV.fa 1 rfl) rfl <| RD.vx 8 511 3584 kt0 rfl kp0 (FV.l1 rfl ((hS20.memA .hd) 1 _ rfl)) rfl ?_
 obtain ⟨s1, hs0, h⟩ := bind_in h
 refine RD.vw 9 1023 kt0 rfl kp0 (fun _ => FV.addc (i := x2) (j := x0.fPeople) rfl rfl hs0) rfl <| RD.vw 10 2047 kt0 rfl kp0 (fun _ => FV.ia 1 (x1.toNat) rfl he3 rfl hi0 hk2) rfl ?_
 obtain ⟨xs2, hxs343, h⟩ := bind_in h
 refine RD.one (i := 11) (readyD_ok kt0 (by kernel_rfl)) (RO.acts (m' := 4095) (stepC_ok kt0 (by kernel_rfl)) rfl rfl .plain (Acts.set (α := Int) (i := x1.toNat) hxs343 hS20 he4 (fun _ => (.tl (.tl (.tl (.tl (.tl (.tl .hd))))))) hm14 rfl rfl rfl rfl rfl (by kernel_rfl)) (fun w17 ⟨cs7, hS21, hT21, hc2⟩ => ?_))
 refine RD.done (doneD_ok kt0 (by kernel_rfl)) <| MX.inBlock <| MX.roundEnd hb2 hS21 (.tl (.tl .hd)) (fun w18 hS22 hT22 => ?_)
 refine RG.ga (FV.not rfl) <| RG.pf rfl rfl <| RG.nil <| MX.cond_f rfl <| MX.skip <| MX.inBlock ?_
 refine MX.region <| RG.va (FV.addN (i := i0) (j := 1) rfl rfl (by omega)) <| RG.mo rfl <| RG.nil ?_
 obtain ⟨hS24, hT23⟩ := St.arrB hS22 (.one (.tl (.tl .hd)) (.one (.tl (.tl .hd)) (.one (.tl (.tl .hd)) (.one (.tl (.tl .hd)) (.one (.tl (.tl .hd)) (.one (.tl (.tl .hd)) (.one (.tl (.tl .hd)) .done)))))))
 have hm16 := Cells.mv hc2 (Tr.trans hT22 hT23)
 have hq355 := Tr.trans hq336 (Tr.trans hT21 (Tr.trans hT22 hT23))
 exact hJ251 (i0 + 1, xs2, cs7) _ _ ⟨rfl, rfl, rfl, rfl, trivial⟩ ⟨hS24, (Tr.trans hT8 hq355), hm16⟩ h
 refine MX.exit rfl ?_
 have h := thn_inr h hh249
 try dsimp only at h
 refine MX.fin rfl <| RT.leave (u := .tuple #[]) hb1 Tryz.func117 rfl .nil rfl <| MX.endRange0 hS8 .hd (by intro h9; cases h9) (fun w19 hS25 hT25 => ?_)
 obtain ⟨hS26, hT26⟩ := St.arrB hS25 (.one (.tl .hd) (.one (.tl .hd) (.one (.tl .hd) (.one (.tl .hd) (.one (.tl .hd) (.one (.tl .hd) .done))))))
 refine MX.inBlock <| MX.sr <| RG.l1 rfl ((hS26.memA (.tl (.tl .hd))) 0 _ rfl) <| RG.so rfl <| RG.nil <| MX.ret rfl ?_
 refine RT.take hS26 .hd (fun w20 hS27 hT27 => ?_)
 obtain ⟨hS28, hT28⟩ := St.arrB hS27 (.one (.tl .hd) (.one (.tl .hd) (.one (.tl .hd) (.one (.tl .hd) (.one (.tl .hd) .done)))))
 have hq369 := Tr.trans hT25 (Tr.trans hT26 (Tr.trans hT27 hT28))
 have hm17 := Cells.mv hc1 hq369
 have hr8 := St.freeze (α := Int) hS28 (.tl (.tl .hd)) hm17 hL
 have hS30 := St.delS hS28 (.tl (.tl .hd))
 have hT29 := St.delT hS28 (.tl (.tl .hd))
 have hr9 := Rep.at_ (α := Int) (v := (.slice (some ⟨b1, 0, none⟩) a0.fk.toNat a0.fk.toNat)) (xs := xs1) hS30 L hr8
 refine RT.t1 hb0 Tryz.func78 rfl rfl ?_
 cases h
 exact ⟨hS30.ag, fun w9 hw9 => okOf_in ⟨(.slice (some ⟨b1, 0, none⟩) a0.fk.toNat a0.fk.toNat), rfl, hS30.kd hr9 hw9⟩⟩
def tb76_1 : List (Nat × Nat × Nat) := [(0, 16, 1), (0, 32, 2), (3, 64, 48), (0, 128, 4), (12, 256, 192), (31, 8, 256)]
theorem body77 : bodyB Tryz.prog 77 = true := by kernel_rfl
theorem body78 : bodyB Tryz.prog 78 = true := by kernel_rfl
def balance_Totals_1_p (n : Nat) (a0 : TRoll) (a1 : Int) (a2 : List Int) : Option (Except Tbroken (List Int)) :=
  (balance_counted_p n a0 a1).bind fun y3 => exc y3 (fun y5 => (balance_count_totals_p n y5 a2).bind fun y0 => exc y0 (fun y1 => some (.ok y1)) (fun e0 => some (.error e0))) (fun e4 => some (.error e4))
theorem balance_Totals_1_c (n : Nat) (L : List Nat) (w : World) (hL : ∀ b ∈ L, b < w.heap.size) (a0 : TRoll) {v0_3 : Value} (h0_3 : Rep.R w L [v0_3] a0.fUnits) {p0 : Nat} (m0 : ∀ j9 v9, ([vI a0.fGroups, vI a0.fParties, vI a0.fLevels, v0_3] : List Value)[j9]? = some v9 → w.cell? ((⟨p0, 0, none⟩ : Addr).add j9) = some v9) (a1 : Int) {p1 : Nat} (m1 : ∀ j9 v9, ([vI a1] : List Value)[j9]? = some v9 → w.cell? ((⟨p1, 0, none⟩ : Addr).add j9) = some v9) (a2 : List Int) {v2_0 : Value} (h2_0 : Rep.R w L [v2_0] a2) {p2 : Nat} (m2 : ∀ j9 v9, ([v2_0] : List Value)[j9]? = some v9 → w.cell? ((⟨p2, 0, none⟩ : Addr).add j9) = some v9)  {r : Except Tbroken (List Int)} (h : balance_Totals_1_p n a0 a1 a2 = some r) :
    Calls Tryz.prog 76 #[.pointer (some ⟨p0, 0, none⟩), .pointer (some ⟨p1, 0, none⟩), .pointer (some ⟨p2, 0, none⟩)] w (PGives w (fun (y : List Int) w' u => ∃ v0_0 : Value, u = v0_0 ∧ Rep.R w' L [v0_0] y) (fun e => .iface 142 (.agg #[vI e.fErrno])) r) := by
 unfold balance_Totals_1_p at h
 have hS0 := St.start w
 refine MX.startP Tryz.func76 rfl rfl rfl (fun _ cs0 hb0 hp0 => ?_)
 refine MX.sr <| RG.so rfl <| RG.nil <| MX.seq <| MX.drawT 6 tb76_1 (by kernel_rfl) (by kernel_rfl) (by kernel_rfl) (fun kt1 kp2 => ?_)
 refine RD.vx 0 1 52 kt1 rfl kp2 (FV.lN rfl (fun j9 v9 h9 => hS0.ag.cell0 (m0 j9 v9 h9))) rfl <| RD.vx 1 3 52 kt1 rfl kp2 (FV.l1 rfl ((fun j9 v9 h9 => hS0.ag.cell0 (m1 j9 v9 h9)) 0 _ rfl)) rfl ?_
 obtain ⟨y3, hy3, h⟩ := bind_in h
 rcases y3 with e4 | y5
 have h := exc_e h
 try dsimp only at h
 refine RD.vx 3 11 48 kt1 rfl kp2 (FV.l1 rfl ((fun j9 v9 h9 => hS0.ag.cell0 (m2 j9 v9 h9)) 0 _ rfl)) rfl <| RD.one (i := 2) (readyD_ok kt1 (by kernel_rfl)) (RO.callE (fst := []) (cap := []) rfl .plain body77 rfl (e2 rfl rfl) (fun w9 hw9 => balance_counted_c n _ w9 (hS0.hL hL hw9) a0 (Rep.keep0 h0_3 hw9) a1 hy3) (fun w6 hag7 => ?_))
 obtain ⟨hS8, hT9⟩ := hS0.agr hag7
 cases h
 exact PN.leave hp0 Tryz.func76 ⟨hS8.ag, rfl⟩
 have h := exc_o h
 try dsimp only at h
 refine RD.vx 3 11 48 kt1 rfl kp2 (FV.l1 rfl ((fun j9 v9 h9 => hS0.ag.cell0 (m2 j9 v9 h9)) 0 _ rfl)) rfl <| RD.cl 2 15 kt1 rfl .plain body77 rfl (e2 rfl rfl) (fun w9 hw9 => Calls.okp (balance_counted_c n _ w9 (hS0.hL hL hw9) a0 (Rep.keep0 h0_3 hw9) a1 hy3)) rfl (fun w0 vu0 hag0 ⟨v0, hu_, hr0⟩ => ?_)
 subst hu_
 obtain ⟨hS1, hT0⟩ := hS0.agr hag0
 obtain ⟨y0, hy0, h⟩ := bind_in h
 rcases y0 with e0 | y1
 have h := exc_e h
 try dsimp only at h
 refine RD.one (i := 4) (readyD_ok kt1 (by kernel_rfl)) (RO.callE (fst := []) (cap := []) rfl .plain body78 rfl (e2 rfl rfl) (fun w9 hw9 => balance_count_totals_c n _ w9 (hS1.hL hL hw9) y5 (Rep.keep0 hr0 hw9) a2 (hS1.km h2_0 hw9) hy0) (fun w1 hag1 => ?_))
 obtain ⟨hS2, hT1⟩ := hS1.agr hag1
 cases h
 exact PN.leave hp0 Tryz.func76 ⟨hS2.ag, rfl⟩
 have h := exc_o h
 try dsimp only at h
 refine RD.cl 4 31 kt1 rfl .plain body78 rfl (e2 rfl rfl) (fun w9 hw9 => Calls.okp (balance_count_totals_c n _ w9 (hS1.hL hL hw9) y5 (Rep.keep0 hr0 hw9) a2 (hS1.km h2_0 hw9) hy0)) rfl (fun w2 vu1 hag2 ⟨v1, hu_, hr1⟩ => ?_)
 subst hu_
 obtain ⟨hS3, hT2⟩ := hS1.agr hag2
 refine RD.vw 5 63 kt1 rfl kp2 (fun _ => FV.assign rfl) rfl <| RD.done (doneD_ok kt1 (by kernel_rfl)) <| MX.ret rfl <| RT.t1 hb0 Tryz.func76 rfl rfl ?_
 cases h
 exact ⟨hS3.ag, fun w9 hw9 => okOf_in ⟨vu1, rfl, hS3.kd hr1 hw9⟩⟩
def tb95_6 : List (Nat × Nat × Nat) := [(0, 131072, 32), (0, 262144, 8), (2, 524288, 262144), (1, 0, 131073), (15, 0, 524290)]
theorem body75 : bodyB Tryz.prog 75 = true := by kernel_rfl
theorem body76 : bodyB Tryz.prog 76 = true := by kernel_rfl
theorem body95 : bodyB Tryz.prog 95 = true := by kernel_rfl
def balance_Totals_p (n : Nat) (a0 : TRoll) (a1 : List Int) (a2 : Int) : Option ((List Int) × Int) :=
  (balance_Totals_1_p n a0 a2 a1).bind fun y0 => exc y0 (fun y1 => some (y1, (0 : Int))) (fun e0 => some (([] : List Int), e0.fErrno))
theorem balance_Totals_c (n : Nat) (L : List Nat) (w : World) (hL : ∀ b ∈ L, b < w.heap.size) (a0 : TRoll) {v0_3 : Value} (h0_3 : Rep.R w L [v0_3] a0.fUnits) (a1 : List Int) {v1_0 : Value} (h1_0 : Rep.R w L [v1_0] a1) (a2 : Int)  {r : (List Int) × Int} (h : balance_Totals_p n a0 a1 a2 = some r) :
    Calls Tryz.prog 50 #[.agg #[vI a0.fGroups, vI a0.fParties, vI a0.fLevels, v0_3], v1_0, vI a2] w (Gives w fun w' u => ∃ v0_0 : Value, u = .tuple #[v0_0, vI r.2] ∧ Rep.R w' L [v0_0] r.1) := by
 unfold balance_Totals_p at h
 have hS0 := St.start w
 refine MX.start Tryz.func50 rfl rfl rfl (fun _ cs0 hb0 => ?_)
 refine MX.sr <| RG.new .plain rfl (Does.box (vs := [vI a0.fGroups, vI a0.fParties, vI a0.fLevels, v0_3]) hS0 rfl rfl) (fun w2 b5 hS3 hT4 => ?_)
 have hm7 := Rep.mv0 h1_0 hS3
 refine RG.new .plain rfl (Does.box (vs := [v1_0]) hS3 rfl (Rep.c1 hm7)) (fun w8 b0 hS9 hT0 => ?_)
 refine RG.new .plain rfl (Does.box (vs := [vI a2]) hS9 rfl rfl) (fun w0 b1 hS1 hT1 => ?_)
 refine RG.so rfl <| RG.so rfl <| RG.nil <| MX.sr <| RG.va (FV.makeFunc (vs := []) (us := [vP b5, vP b1, vP b0]) evs_nil (e3 rfl rfl rfl)) <| RG.enterP (fst := []) (cap := []) (vs := [.func (.func 76) #[] #[vP b5, vP b1, vP b0]]) .plain body75 Tryz.func75 rfl rfl rfl rfl (e1 rfl) rfl (fun cs1 hb1 hp0 => ?_)
 refine MX.sr <| RG.new .plain rfl (Does.alloc (zs := [vN]) hS1 (zB (by kernel_rfl))) (fun w1 b2 hS2 hT2 => ?_)
 refine RG.new .plain rfl (Does.alloc (zs := [vI 0]) hS2 (zB (by kernel_rfl))) (fun w3 b3 hS4 hT3 => ?_)
 refine RG.nil <| MX.sr <| RG.va (FV.makeFunc (vs := []) (us := [vP b2, vP b3]) evs_nil (e2 rfl rfl)) <| RG.defer (fst := []) (cap := [vP b2, vP b3]) (vs := []) rfl .plain rfl evs_nil <| RG.nil <| MX.sr ?_
 refine RG.mo rfl ?_
 obtain ⟨y0, hy0, h⟩ := bind_in h
 rcases y0 with e0 | y1
 have h := exc_e h
 try dsimp only at h
 refine RG.callE (fst := []) (cap := [vP b5, vP b1, vP b0]) .plain body76 rfl evs_nil (fun w9 hw9 => balance_Totals_1_c n _ w9 (hS4.hL hL hw9) a0 (hS4.km h0_3 hw9) (fun j9 v9 h9 => hw9.cell0 ((hS4.memA (.tl (.tl (.tl (.tl .hd))))) j9 v9 h9)) a2 (fun j9 v9 h9 => hw9.cell0 ((hS4.memA (.tl (.tl .hd))) j9 v9 h9)) a1 (hS4.km h1_0 hw9) (fun j9 v9 h9 => hw9.cell0 ((hS4.memA (.tl (.tl (.tl .hd)))) j9 v9 h9)) hy0) (fun w4 hag0 => ?_)
 obtain ⟨hS5, hT5⟩ := hS4.agr hag0
 refine PN.callD (vs := []) (cap := [vP b2, vP b3]) body95 Tryz.func95 rfl rfl rfl (fun c0 hc0 hk0 => ?_)
 refine MX.sr <| RG.recover1 .plain hc0 rfl <| RG.so rfl <| RG.nil <| MX.sr <| RG.mo rfl ?_
 refine RG.va (FV.neqI Tryz.underlying20 rfl rfl) <| RG.nil <| MX.cond_t rfl <| MX.sr <| RG.mo rfl <| RG.va (FV.assertT (by kernel_rfl) rfl) ?_
 refine RG.mo rfl <| RG.va (FV.extract rfl rfl) <| RG.va (FV.extract rfl rfl) <| RG.new .plain rfl (Does.alloc (zs := [vI 0]) hS5 (zB (by kernel_rfl))) (fun w5 b4 hS6 hT6 => ?_)
 refine RG.now .plain (Acts.storeAll (news := [vI e0.fErrno]) hS6 .hd rfl rfl rfl rfl rfl rfl (o1 rfl)) (fun w6 hS7 hT7 => ?_)
 refine RG.so rfl <| RG.nil <| MX.seq <| MX.sr <| RG.mo rfl <| RG.va (FV.not rfl) ?_
 refine RG.nil <| MX.cond_f rfl <| MX.skip <| MX.sr <| RG.so rfl <| RG.nil ?_
 refine MX.drawT 3 tb95_6 (by kernel_rfl) (by kernel_rfl) (by kernel_rfl) (fun kt0 kp0 => ?_)
 refine RD.vw 0 1 kt0 rfl kp0 (fun _ => FV.move rfl) rfl <| RD.vw 1 3 kt0 rfl kp0 (fun _ => FV.fa 0 rfl) rfl <| RD.meet (α := Unit) (fun () => [(1, vP b3), (19, vI e0.fErrno)]) (fun () wx0 => St w wx0 [.cells b3 [vI 0] 32, .cells b2 [vN] 27, .cells b1 [vI a2] 3, .cells b0 [v1_0] 28, .cells b5 [vI a0.fGroups, vI a0.fParties, vI a0.fLevels, v0_3] 25] ∧ Tr w6 [.cells b4 [vI e0.fErrno] 142, .cells b3 [vI 0] 32, .cells b2 [vN] 27, .cells b1 [vI a2] 3, .cells b0 [v1_0] 28, .cells b5 [vI a0.fGroups, vI a0.fParties, vI a0.fLevels, v0_3] 25] wx0 [.cells b3 [vI 0] 32, .cells b2 [vN] 27, .cells b1 [vI a2] 3, .cells b0 [v1_0] 28, .cells b5 [vI a0.fGroups, vI a0.fParties, vI a0.fLevels, v0_3] 25]) 1 15 ?_ ?_
 rintro ⟨⟩ wx0 ⟨hS8, hT8⟩
 try dsimp only
 refine RD.nw 4 31 kt0 rfl rfl .plain (Acts.storeAll (news := [vI e0.fErrno]) hS8 .hd rfl rfl rfl rfl rfl rfl (o1 rfl)) (fun w7 hS10 hT9 => ?_)
 refine RD.done (doneD_ok kt0 (by kernel_rfl)) <| MX.fin rfl <| RT.leaveD1 hk0 Tryz.func95 rfl .nil <| RT.leave (u := .tuple #[vN, vI e0.fErrno]) hb1 Tryz.func75 rfl (.cons (.one (by kernel_rfl) rfl ((hS10.memA (.tl .hd)) 0 _ rfl)) (.cons (.one (by kernel_rfl) rfl ((hS10.memA .hd) 0 _ rfl)) .nil)) rfl <| RG.va (FV.extract rfl rfl) <| RG.va (FV.extract rfl rfl) ?_
 refine RG.so rfl <| RG.so rfl <| RG.nil <| MX.ret rfl ?_
 have hr0 := Rep.nilAt (α := Int) hS10 L
 refine RT.leave hb0 Tryz.func50 rfl (.cons (.tmp rfl) (.cons (.tmp rfl) .nil)) rfl ?_
 cases h
 exact ⟨hS10.ag, fun w9 hw9 => ⟨vN, rfl, hS10.kd hr0 hw9⟩⟩
 intro hJ1260
 refine RD.each [2, 3] (readyD_ok kt0 (by kernel_rfl)) ⟨?_, ?_, trivial⟩
 refine RO.val (m' := 7) (stepC_ok kt0 (by kernel_rfl)) rfl .plain rfl (FV.l1 rfl ((hS7.memA .hd) 0 _ rfl)) <| RD.nw 3 15 kt0 rfl rfl .plain (Acts.storeAll (news := [vN]) hS7 (.tl (.tl .hd)) rfl rfl rfl rfl rfl rfl (o1 rfl)) (fun w10 hS11 hT11 => ?_)
 obtain ⟨hS12, hT12⟩ := St.arrB hS11 (.one (.tl .hd) (.one (.tl .hd) (.one (.tl .hd) (.one (.tl .hd) (.one (.tl .hd) .done)))))
 exact hJ1260 () _ _ ⟨rfl, rfl, trivial⟩ ⟨hS12, (Tr.trans hT11 hT12)⟩
 refine RO.now (m' := 11) (stepC_ok kt0 (by kernel_rfl)) rfl rfl .plain (Acts.storeAll (news := [vN]) hS7 (.tl (.tl .hd)) rfl rfl rfl rfl rfl rfl (o1 rfl)) (fun w10 hS11 hT11 => ?_)
 refine RD.vx 2 15 16 kt0 rfl kp0 (FV.l1 rfl ((hS11.memA .hd) 0 _ rfl)) rfl ?_
 obtain ⟨hS13, hT13⟩ := St.arrB hS11 (.one (.tl .hd) (.one (.tl .hd) (.one (.tl .hd) (.one (.tl .hd) (.one (.tl .hd) .done)))))
 exact hJ1260 () _ _ ⟨rfl, rfl, trivial⟩ ⟨hS13, (Tr.trans hT11 hT13)⟩
 have h := exc_o h
 try dsimp only at h
 refine RG.call' (fst := []) (cap := [vP b5, vP b1, vP b0]) .plain body76 rfl evs_nil (fun w9 hw9 => Calls.okp (balance_Totals_1_c n _ w9 (hS4.hL hL hw9) a0 (hS4.km h0_3 hw9) (fun j9 v9 h9 => hw9.cell0 ((hS4.memA (.tl (.tl (.tl (.tl .hd))))) j9 v9 h9)) a2 (fun j9 v9 h9 => hw9.cell0 ((hS4.memA (.tl (.tl .hd))) j9 v9 h9)) a1 (hS4.km h1_0 hw9) (fun j9 v9 h9 => hw9.cell0 ((hS4.memA (.tl (.tl (.tl .hd)))) j9 v9 h9)) hy0)) rfl (fun w11 vu0 hag1 ⟨v0, hu_, hr1⟩ => ?_)
 subst hu_
 obtain ⟨hS15, hT14⟩ := hS4.agr hag1
 refine RG.now .plain (Acts.storeAll (news := [vu0]) hS15 (.tl .hd) rfl rfl rfl (Rep.c1 hr1) rfl rfl (o1 (Rep.o1 hr1))) (fun w12 hS16 hT16 => ?_)
 refine RG.now .plain (Acts.storeAll (news := [vI 0]) hS16 .hd rfl rfl rfl rfl rfl rfl (o1 rfl)) (fun w14 hS17 hT17 => ?_)
 refine RG.nil <| MX.ret rfl <| RT.callD (vs := []) (cap := [vP b2, vP b3]) body95 Tryz.func95 rfl rfl rfl (fun c1 hc1 hk1 => ?_)
 refine MX.sr <| RG.recover0 .plain hc1 rfl <| RG.so rfl <| RG.nil <| MX.sr <| RG.mo rfl ?_
 refine RG.va (FV.neqI0 Tryz.underlying20 rfl rfl) <| RG.nil <| MX.cond_f rfl <| MX.skip <| MX.fin rfl <| RT.leaveD0 hc1 hk1 Tryz.func95 rfl .nil ?_
 refine RT.leave (u := .tuple #[vu0, vI 0]) hb1 Tryz.func75 rfl (.cons (.one (by kernel_rfl) rfl ((hS17.memA (.tl .hd)) 0 _ rfl)) (.cons (.one (by kernel_rfl) rfl ((hS17.memA .hd) 0 _ rfl)) .nil)) rfl <| RG.va (FV.extract rfl rfl) <| RG.va (FV.extract rfl rfl) <| RG.so rfl <| RG.so rfl <| RG.nil ?_
 refine MX.ret rfl <| RT.leave hb0 Tryz.func50 rfl (.cons (.tmp rfl) (.cons (.tmp rfl) .nil)) rfl ?_
 cases h
 have hm0 := Rep.mv hr1 (Tr.trans hT16 hT17)
 exact ⟨hS17.ag, fun w9 hw9 => ⟨vu0, rfl, hS17.kd hm0 hw9⟩⟩
structure Tpart where
  fgroup : Int
  fall : Int
  deriving DecidableEq
instance : Rep Tpart := Rep.via (β := Int × Int) fun x => (x.fgroup, x.fall)
def tb19_12 : List (Nat × Nat × Nat) := [(0, 9007199254740992, 1024), (0, 18014398509481984, 16384), (3, 36028797018963968, 27021597764222976), (4, 72057594037927936, 36028797018963968), (8, 144115188075855872, 72057594037927936), (0, 288230376151711744, 16), (32, 576460752303423488, 288230376151711744), (0, 1152921504606846976, 8192), (192, 2305843009213693952, 1729382256910270464), (256, 4611686018427387904, 2305843009213693952), (512, 9223372036854775808, 4611686018427387904), (0, 18446744073709551616, 8), (3072, 36893488147419103232, 27670116110564327424), (4096, 73786976294838206464, 36893488147419103232), (8208, 147573952589676412928, 73931091482914062336), (32767, 295147905179352825856, 27021597764222976), (65535, 590295810358705651712, 295147905179352825856), (98303, 0, 737869762948382064640)]
theorem op_Tpart {w : World} {L : List Nat} {cs : List Value} {x : Tpart} (h : Rep.R w L cs x) : cs = [vI x.fgroup, vI x.fall] := by
  obtain ⟨c0, r0, rfl, h0, h⟩ := h
  have e0 : c0 = [vI x.fgroup] := h0; subst e0
  have e1 : r0 = [vI x.fall] := h; subst e1
  rfl
theorem mk_Tpart {w : World} {L : List Nat} (a0 : Int) (a1 : Int) : Rep.R w L [vI a0, vI a1] (⟨a0, a1⟩ : Tpart) := ⟨[vI a0], [vI a1], rfl, rfl, rfl⟩
theorem el59 : ElT Tryz.prog 59 62 (Rep.size Tpart) 16 (.agg #[vI 0, vI 0]) [vI 0, vI 0] := ⟨Tryz.underlying59, by kernel_rfl, rfl, rfl, rfl, rfl⟩
theorem body23 : bodyB Tryz.prog 23 = true := by kernel_rfl
theorem body32 : bodyB Tryz.prog 32 = true := by kernel_rfl
theorem body49 : bodyB Tryz.prog 49 = true := by kernel_rfl
theorem body50 : bodyB Tryz.prog 50 = true := by kernel_rfl
def minority_grouped_l1 (_n : Nat) (a1 : List Int) (a0 : TRoll) (a3 : Int) (J0 : Nat × (List Tpart) → Option (List Tpart)) : Nat × (List Tpart) → Option (List Tpart)
  | (i0, xs0) => (if i0 < a1.length then (a1[i0]?).bind fun x0 => (idx xs0 x0).bind fun x1 => (a0.fUnits[i0]?).bind fun x2 => (idx x2.fGroups a3).bind fun x3 => (chk (x1.fgroup + x3)).bind fun s0 => (put xs0 ((x0.toNat : Nat) : Int) (⟨s0, x1.fall⟩ : Tpart)).bind fun xs1 => J0 (i0 + 1, xs1) else some xs0)
def minority_grouped_l2 (_n : Nat) (y0 : List Int) (J0 : Nat × (List Tpart) → Option (List Tpart)) : Nat × (List Tpart) → Option (List Tpart)
  | (i0, xs0) => (if i0 < y0.length then (y0[i0]?).bind fun x0 => (xs0[i0]?).bind fun x1 => (put xs0 ((i0 : Nat) : Int) (⟨x1.fgroup, x0⟩ : Tpart)).bind fun xs1 => J0 (i0 + 1, xs1) else some xs0)
def minority_grouped_p (n : Nat) (a0 : TRoll) (a1 : List Int) (a2 : Int) (a3 : Int) : Option (Except Tbroken (List Tpart)) :=
  (balance_Totals_p n a0 a1 a2).bind fun y6 => (minority_must_list_int_p n y6.1 y6.2).bind fun y0 => exc y0 (fun y1 => (if a3 < 0 then some (.error (⟨(2 : Int)⟩ : Tbroken)) else (if a0.fGroups ≤ a3 then some (.error (⟨(2 : Int)⟩ : Tbroken)) else (mk a2 (⟨(0 : Int), (0 : Int)⟩ : Tpart)).bind fun xs0 => Option.bind (loopF (minority_grouped_l2 n y1) n (0, xs0)) (fun xs1 => Option.bind (loopF (minority_grouped_l1 n a1 a0 a3) n (0, xs1)) (fun xs2 => some (.ok xs2)))))) (fun e0 => some (.error e0))
theorem minority_grouped_c (n : Nat) (L : List Nat) (w : World) (hL : ∀ b ∈ L, b < w.heap.size) (a0 : TRoll) {v0_3 : Value} (h0_3 : Rep.R w L [v0_3] a0.fUnits) (a1 : List Int) {v1_0 : Value} (h1_0 : Rep.R w L [v1_0] a1) (a2 : Int) (a3 : Int)  {r : Except Tbroken (List Tpart)} (h : minority_grouped_p n a0 a1 a2 a3 = some r) :
    Calls Tryz.prog 19 #[.agg #[vI a0.fGroups, vI a0.fParties, vI a0.fLevels, v0_3], v1_0, vI a2, vI a3] w (PGives w (fun (y : List Tpart) w' u => ∃ v0_0 : Value, u = v0_0 ∧ Rep.R w' L [v0_0] y) (fun e => .iface 93 (.agg #[vI e.fErrno])) r) := by
 unfold minority_grouped_p at h
 have hS0 := St.start w
 refine MX.startP Tryz.func19 rfl rfl rfl (fun _ cs0 hb0 hp0 => ?_)
 refine MX.sr <| RG.new .plain rfl (Does.box (vs := [vI a0.fGroups, vI a0.fParties, vI a0.fLevels, v0_3]) hS0 rfl rfl) (fun w2 b5 hS3 hT4 => ?_)
 refine RG.so rfl <| RG.nil <| MX.sr <| RG.va (FV.lN rfl (hS3.memA .hd)) <| RG.mo rfl <| RG.mo rfl ?_
 obtain ⟨y6, hy6, h⟩ := bind_in h
 refine RG.call' (fst := []) (cap := []) .plain body50 rfl (e3 rfl rfl rfl) (fun w9 hw9 => balance_Totals_c n _ w9 (hS3.hL hL hw9) a0 (hS3.km h0_3 hw9) a1 (hS3.km h1_0 hw9) a2 hy6) rfl (fun w7 vu8 hag9 ⟨v0, hu_, hr0⟩ => ?_)
 subst hu_
 obtain ⟨hS1, hT0⟩ := hS3.agr hag9
 refine RG.va (FV.extract rfl rfl) <| RG.va (FV.extract rfl rfl) ?_
 obtain ⟨y0, hy0, h⟩ := bind_in h
 rcases y0 with e0 | y1
 have h := exc_e h
 try dsimp only at h
 refine RG.callE (fst := []) (cap := []) .plain body49 rfl (e2 rfl rfl) (fun w9 hw9 => minority_must_list_int_c n _ w9 (hS1.hL hL hw9) y6.1 (Rep.keep0 hr0 hw9) y6.2 hy0) (fun w0 hag0 => ?_)
 obtain ⟨hS2, hT1⟩ := hS1.agr hag0
 cases h
 exact PN.leave hp0 Tryz.func19 ⟨hS2.ag, rfl⟩
 have h := exc_o h
 try dsimp only at h
 refine RG.call' (fst := []) (cap := []) .plain body49 rfl (e2 rfl rfl) (fun w9 hw9 => Calls.okp (minority_must_list_int_c n _ w9 (hS1.hL hL hw9) y6.1 (Rep.keep0 hr0 hw9) y6.2 hy0)) rfl (fun w1 vu0 hag1 ⟨v1, hu_, hr1⟩ => ?_)
 subst hu_
 obtain ⟨hS4, hT2⟩ := hS1.agr hag1
 refine RG.so rfl <| RG.nil <| MX.sr <| RG.mo rfl <| RG.va (FV.lss (i := a3) (j := 0) rfl rfl) <| RG.mo rfl ?_
 refine RG.ifd (s := 24) rfl h (fun c0 h => ?_) (fun c0 h => ?_)
 refine RG.no <| RG.no <| RG.no <| RG.no <| RG.pt rfl rfl <| RG.enterP (fst := []) (cap := []) (vs := [.bool true, vI 2]) .plain body23 Tryz.func23 rfl rfl rfl rfl (e2 rfl rfl) rfl (fun cs1 hb1 hp1 => ?_)
 refine MX.sr <| RG.mo rfl <| RG.nil <| MX.cond_t rfl <| MX.region <| RG.mo rfl ?_
 refine RG.enterP (fst := []) (cap := []) (vs := [vI 2]) .plain body32 Tryz.func32 rfl rfl rfl rfl (e1 rfl) rfl (fun cs2 hb2 hp2 => ?_)
 refine MX.sr <| RG.mo rfl <| RG.va (FV.neqN (i := 2) (j := 0) rfl rfl) <| RG.nil <| MX.cond_t rfl <| MX.region ?_
 refine RG.mo rfl <| RG.va (FV.buildV (vs := [vI 2]) (u := .agg #[vI 2]) (e1 rfl) (fun w9 => by kernel_rfl)) <| RG.va (FV.makeInterface (by kernel_rfl) rfl) <| RG.panic .plain rfl <| PN.leave hp2 Tryz.func32 <| PN.leave hp1 Tryz.func23 ?_
 cases h
 exact PN.leave hp0 Tryz.func19 ⟨hS4.ag, rfl⟩
 refine RG.ga (FV.move rfl) <| RG.fg 0 rfl <| RG.ga (FV.l1 rfl ((hS4.memA .hd) 0 _ rfl)) <| RG.ga (FV.geq (i := a3) (j := a0.fGroups) rfl rfl) <| RG.pf rfl rfl <| RG.enterP (fst := []) (cap := []) (vs := [.bool (decide (a0.fGroups ≤ a3)), vI 2]) .plain body23 Tryz.func23 rfl rfl rfl rfl (e2 rfl rfl) rfl (fun cs3 hb3 hp3 => ?_)
 refine MX.sr <| RG.mo rfl <| RG.nil <| MX.ifd rfl h (fun c1 h => ?_) (fun c1 h => ?_)
 refine MX.region <| RG.mo rfl <| RG.enterP (fst := []) (cap := []) (vs := [vI 2]) .plain body32 Tryz.func32 rfl rfl rfl rfl (e1 rfl) rfl (fun cs4 hb4 hp4 => ?_)
 refine MX.sr <| RG.mo rfl <| RG.va (FV.neqN (i := 2) (j := 0) rfl rfl) <| RG.nil <| MX.cond_t rfl <| MX.region ?_
 refine RG.mo rfl <| RG.va (FV.buildV (vs := [vI 2]) (u := .agg #[vI 2]) (e1 rfl) (fun w9 => by kernel_rfl)) <| RG.va (FV.makeInterface (by kernel_rfl) rfl) <| RG.panic .plain rfl <| PN.leave hp4 Tryz.func32 <| PN.leave hp3 Tryz.func23 ?_
 cases h
 exact PN.leave hp0 Tryz.func19 ⟨hS4.ag, rfl⟩
 refine MX.skip <| MX.fin rfl <| RT.leave (u := .tuple #[]) hb3 Tryz.func23 rfl .nil rfl <| RG.nil <| MX.sr <| RG.mo rfl ?_
 obtain ⟨xs0, hxs44, h⟩ := bind_in h
 refine RG.new .plain rfl (Does.mk (α := Tpart) hxs44 hS4 el59 rfl) (fun w3 b0 hS5 hT3 => ?_)
 have hc0 := Cells.at_ (cs := (List.replicate a2.toNat [vI 0, vI 0]).flatten) (xs := xs0) hS5 L (Cells.mk hxs44 (mk_Tpart (0 : Int) (0 : Int)))
 refine RG.so rfl <| RG.nil <| MX.seq <| MX.sr <| RG.mo rfl ?_
 have hm0 := Rep.mv hr1 hT3
 have hl50 : y1.length ≤ 281474976710656 := Rep.lenle hm0
 refine RG.va (FV.len (xs := y1) Tryz.underlying27 rfl hm0) <| RG.mo rfl <| RG.nil <| MX.block ?_
 obtain ⟨o0, ho142, hh144⟩ := bind_in2 h
 refine MX.loop (α := Nat × (List Tpart) × (List Value)) (fun ⟨i0, xs1, cs5⟩ => [(1, v1_0), (3, vI a3), (4, vP b5), (10, (.slice (some ⟨b0, 0, none⟩) a2.toNat a2.toNat)), (33, vu0), (34, vI ((y1.length : Nat) : Int)), (35, vI ((i0 : Nat) : Int))]) (fun ⟨i0, xs1, cs5⟩ wx0 => St w wx0 [.row w.heap.size 62 (Rep.size Tpart) (.slice (some ⟨b0, 0, none⟩) a2.toNat a2.toNat) xs1.length cs5, .cells b5 [vI a0.fGroups, vI a0.fParties, vI a0.fLevels, v0_3] 25] ∧ Tr w3 [.row w.heap.size 62 (Rep.size Tpart) (.slice (some ⟨b0, 0, none⟩) a2.toNat a2.toNat) xs0.length ((List.replicate a2.toNat [vI 0, vI 0]).flatten), .cells b5 [vI a0.fGroups, vI a0.fParties, vI a0.fLevels, v0_3] 25] wx0 [.row w.heap.size 62 (Rep.size Tpart) (.slice (some ⟨b0, 0, none⟩) a2.toNat a2.toNat) xs1.length cs5, .cells b5 [vI a0.fGroups, vI a0.fParties, vI a0.fLevels, v0_3] 25] ∧ Cells wx0 (bl [.row w.heap.size 62 (Rep.size Tpart) (.slice (some ⟨b0, 0, none⟩) a2.toNat a2.toNat) xs1.length cs5, .cells b5 [vI a0.fGroups, vI a0.fParties, vI a0.fLevels, v0_3] 25] ++ L) cs5 xs1) (fun ⟨i0, xs1, cs5⟩ => (i0, xs1)) (0, xs0, (List.replicate a2.toNat [vI 0, vI 0]).flatten) ho142 ⟨rfl, rfl, rfl, rfl, rfl, rfl, rfl, trivial⟩ ⟨hS5, Tr.refl _ _, hc0⟩ ?_
 rintro J0 ⟨i0, xs1, cs5⟩ wx0 hJ146 ⟨hS6, hT5, hc1⟩ h
 unfold minority_grouped_l2 at h
 try dsimp only at h
 refine MX.sr <| RG.va (FV.lssN (i := i0) (j := y1.length) rfl rfl) <| RG.nil <| MX.seq <| MX.ifd rfl h (fun c2 h => ?_) (fun c2 h => ?_)
 refine MX.skip <| MX.seq <| MX.block <| MX.sr <| RG.mo rfl ?_
 obtain ⟨x0, hx0, h⟩ := bind_in h
 have hm1 := Rep.mv hr1 (Tr.trans hT3 hT5)
 obtain ⟨A149, c3, he0, hk0, cs6, hr2, hm2⟩ := Rep.nth hm1 hx0
 have he1 : cs6 = [vI x0] := hr2; subst he1
 refine RG.va (FV.ia 1 i0 rfl he0 rfl rfl hk0) <| RG.l1 rfl (hm2 0 _ rfl) <| RG.so rfl <| RG.so rfl <| RG.nil <| MX.region ?_
 refine RG.mo rfl <| RG.mo rfl <| RG.mo rfl ?_
 obtain ⟨x1, hx1, h⟩ := bind_in h
 obtain ⟨A159, c4, he2, hk1, cs7, hr3, hm3⟩ := St.nth (α := Tpart) hS6 .hd hc1 hx1
 obtain ⟨b1, c5, he3⟩ := St.nthOwn (α := Tpart) hS6 .hd hk1
 obtain rfl : A159 = ⟨b1, 0, none⟩ := by rw [he3] at he2; cases he2; rfl
 obtain rfl := op_Tpart hr3
 refine RG.va (FV.ia 2 i0 rfl he2 rfl rfl hk1) <| RG.fa 1 rfl ?_
 obtain ⟨c6, he4, hk2, cs8, hr4, hm4, hch0⟩ := St.nthAt (α := Tpart) hS6 .hd hc1 hx1 he3
 obtain rfl := op_Tpart hr4
 obtain ⟨xs2, hxs176, h⟩ := bind_in h
 refine RG.acts' .plain (Acts.setPart (α := Tpart) (i := i0) (tot := 1) (ds := [vI x1.fgroup, vI x1.fall]) (news := [vI x0]) (full := [vI x1.fgroup, vI x0]) hxs176 hS6 he4 (fun _ => .hd) hc1 hch0 rfl (by kernel_rfl) rfl rfl rfl rfl (mk_Tpart x1.fgroup x0) (by kernel_rfl) (o1 rfl)) (fun w4 ⟨cs9, hS7, hT6, hc2⟩ => ?_)
 refine RG.nil <| MX.inBlock <| MX.region <| RG.va (FV.addN (i := i0) (j := 1) rfl rfl (by omega)) <| RG.mo rfl <| RG.nil ?_
 exact hJ146 (i0 + 1, xs2, cs9) _ _ ⟨rfl, rfl, rfl, rfl, rfl, rfl, rfl, trivial⟩ ⟨hS7, (Tr.trans hT5 hT6), hc2⟩ h
 refine MX.exit rfl ?_
 have h := hh144 _ h
 try dsimp only at h
 refine MX.seq <| MX.sr <| RG.mo rfl ?_
 have hm5 := Rep.mv0 h1_0 hS6
 have hl182 : a1.length ≤ 281474976710656 := Rep.lenle hm5
 refine RG.va (FV.len (xs := a1) Tryz.underlying28 rfl hm5) <| RG.mo rfl <| RG.nil <| MX.block ?_
 obtain ⟨o2, ho336, hh338⟩ := bind_in2 h
 refine MX.loop (α := Nat × (List Tpart) × (List Value)) (fun ⟨i1, xs3, cs10⟩ => [(3, vI a3), (4, vP b5), (10, (.slice (some ⟨b0, 0, none⟩) a2.toNat a2.toNat)), (46, v1_0), (47, vI ((a1.length : Nat) : Int)), (48, vI ((i1 : Nat) : Int))]) (fun ⟨i1, xs3, cs10⟩ wx1 => St w wx1 [.row w.heap.size 62 (Rep.size Tpart) (.slice (some ⟨b0, 0, none⟩) a2.toNat a2.toNat) xs3.length cs10, .cells b5 [vI a0.fGroups, vI a0.fParties, vI a0.fLevels, v0_3] 25] ∧ Tr wx0 [.row w.heap.size 62 (Rep.size Tpart) (.slice (some ⟨b0, 0, none⟩) a2.toNat a2.toNat) xs1.length cs5, .cells b5 [vI a0.fGroups, vI a0.fParties, vI a0.fLevels, v0_3] 25] wx1 [.row w.heap.size 62 (Rep.size Tpart) (.slice (some ⟨b0, 0, none⟩) a2.toNat a2.toNat) xs3.length cs10, .cells b5 [vI a0.fGroups, vI a0.fParties, vI a0.fLevels, v0_3] 25] ∧ Cells wx1 (bl [.row w.heap.size 62 (Rep.size Tpart) (.slice (some ⟨b0, 0, none⟩) a2.toNat a2.toNat) xs3.length cs10, .cells b5 [vI a0.fGroups, vI a0.fParties, vI a0.fLevels, v0_3] 25] ++ L) cs10 xs3) (fun ⟨i1, xs3, cs10⟩ => (i1, xs3)) (0, xs1, cs5) ho336 ⟨rfl, rfl, rfl, rfl, rfl, rfl, trivial⟩ ⟨hS6, Tr.refl _ _, hc1⟩ ?_
 rintro J1 ⟨i1, xs3, cs10⟩ wx1 hJ340 ⟨hS8, hT7, hc3⟩ h
 unfold minority_grouped_l1 at h
 try dsimp only at h
 refine MX.sr <| RG.va (FV.lssN (i := i1) (j := a1.length) rfl rfl) <| RG.nil <| MX.seq <| MX.ifd rfl h (fun c7 h => ?_) (fun c7 h => ?_)
 refine MX.skip <| MX.seq <| MX.block <| MX.sr <| RG.mo rfl ?_
 obtain ⟨x2, hx2, h⟩ := bind_in h
 have hm6 := Rep.mv0 h1_0 hS8
 obtain ⟨A343, c8, he5, hk3, cs11, hr5, hm7⟩ := Rep.nth hm6 hx2
 have he6 : cs11 = [vI x2] := hr5; subst he6
 refine RG.va (FV.ia 1 i1 rfl he5 rfl rfl hk3) <| RG.l1 rfl (hm7 0 _ rfl) <| RG.so rfl <| RG.so rfl <| RG.nil <| MX.drawT 17 tb19_12 (by kernel_rfl) (by kernel_rfl) (by kernel_rfl) (fun kt0 kp0 => ?_)
 refine RD.vw 0 1 kt0 rfl kp0 (fun _ => FV.move rfl) rfl <| RD.vw 1 3 kt0 rfl kp0 (fun _ => FV.move rfl) rfl ?_
 obtain ⟨x3, hx3, h⟩ := bind_in h
 obtain ⟨hi0, hx4⟩ := idx_in hx3
 obtain ⟨A357, c9, he7, hk4, cs12, hr6, hm8⟩ := St.nth (α := Tpart) hS8 .hd hc3 hx4
 obtain ⟨b2, c10, he8⟩ := St.nthOwn (α := Tpart) hS8 .hd hk4
 obtain rfl : A357 = ⟨b2, 0, none⟩ := by rw [he8] at he7; cases he7; rfl
 obtain rfl := op_Tpart hr6
 refine RD.vw 2 7 kt0 rfl kp0 (fun _ => FV.ia 2 (x2.toNat) rfl he7 rfl hi0 hk4) rfl <| RD.vw 3 15 kt0 rfl kp0 (fun _ => FV.fa 0 rfl) rfl <| RD.vx 4 31 245760 kt0 rfl kp0 (FV.l1 rfl (hm8 0 _ rfl)) rfl <| RD.vw 5 63 kt0 rfl kp0 (fun _ => FV.fa 3 rfl) rfl <| RD.vx 6 127 259840 kt0 rfl kp0 (FV.l1 rfl ((hS8.memA (.tl .hd)) 3 _ rfl)) rfl <| RD.vw 7 255 kt0 rfl kp0 (fun _ => FV.move rfl) rfl ?_
 obtain ⟨x4, hx5, h⟩ := bind_in h
 have hm9 := Rep.mv0 h0_3 hS8
 obtain ⟨A368, c11, he9, hk5, cs13, hr7, hm10⟩ := Rep.nth hm9 hx5
 obtain ⟨v2, v3, v4, rfl, hr8, hr9, hr10⟩ := op_TUnit hr7
 refine RD.vw 8 511 kt0 rfl kp0 (fun _ => FV.ia 6 i1 rfl he9 rfl rfl hk5) rfl <| RD.vw 9 1023 kt0 rfl kp0 (fun _ => FV.fa 2 rfl) rfl <| RD.vx 10 2047 258048 kt0 rfl kp0 (FV.l1 rfl (hm10 2 _ rfl)) rfl <| RD.vw 11 4095 kt0 rfl kp0 (fun _ => FV.move rfl) rfl ?_
 obtain ⟨x5, hx6, h⟩ := bind_in h
 obtain ⟨hi1, hx7⟩ := idx_in hx6
 obtain ⟨A385, c12, he10, hk6, cs14, hr11, hm11⟩ := Rep.nth hr8 hx7
 have he11 : cs14 = [vI x5] := hr11; subst he11
 refine RD.vw 12 8191 kt0 rfl kp0 (fun _ => FV.ia 1 (a3.toNat) rfl he10 rfl hi1 hk6) rfl <| RD.vx 13 16383 245760 kt0 rfl kp0 (FV.l1 rfl (hm11 0 _ rfl)) rfl ?_
 obtain ⟨s0, hs0, h⟩ := bind_in h
 refine RD.vw 14 32767 kt0 rfl kp0 (fun _ => FV.addc (i := x3.fgroup) (j := x5) rfl rfl hs0) rfl <| RD.vw 15 65535 kt0 rfl kp0 (fun _ => FV.ia 2 (x2.toNat) rfl he7 rfl hi0 hk4) rfl <| RD.vw 16 131071 kt0 rfl kp0 (fun _ => FV.fa 0 rfl) rfl ?_
 obtain ⟨c13, he12, hk7, cs15, hr12, hm12, hch1⟩ := St.nthAt (α := Tpart) hS8 .hd hc3 hx4 he8
 obtain rfl := op_Tpart hr12
 obtain ⟨xs4, hxs401, h⟩ := bind_in h
 refine RD.one (i := 17) (readyD_ok kt0 (by kernel_rfl)) (RO.acts (m' := 262143) (stepC_ok kt0 (by kernel_rfl)) rfl rfl .plain (Acts.setPart (α := Tpart) (i := x2.toNat) (tot := 0) (ds := [vI x3.fgroup, vI x3.fall]) (news := [vI s0]) (full := [vI s0, vI x3.fall]) hxs401 hS8 he12 (fun _ => .hd) hc3 hch1 rfl (by kernel_rfl) rfl rfl rfl rfl (mk_Tpart s0 x3.fall) (by kernel_rfl) (o1 rfl)) (fun w5 ⟨cs16, hS9, hT8, hc4⟩ => ?_))
 refine RD.done (doneD_ok kt0 (by kernel_rfl)) <| MX.inBlock <| MX.region <| RG.va (FV.addN (i := i1) (j := 1) rfl rfl (by omega)) <| RG.mo rfl <| RG.nil ?_
 exact hJ340 (i1 + 1, xs4, cs16) _ _ ⟨rfl, rfl, rfl, rfl, rfl, rfl, trivial⟩ ⟨hS9, (Tr.trans hT7 hT8), hc4⟩ h
 refine MX.exit rfl ?_
 have h := hh338 _ h
 try dsimp only at h
 refine MX.sr <| RG.mo rfl <| RG.so rfl <| RG.nil <| MX.ret rfl ?_
 have hr14 := St.freeze (α := Tpart) hS8 .hd hc3 hL
 have hS11 := St.delS hS8 .hd
 have hT9 := St.delT hS8 .hd
 have hr15 := Rep.at_ (α := Tpart) (v := (.slice (some ⟨b0, 0, none⟩) a2.toNat a2.toNat)) (xs := xs3) hS11 L hr14
 refine RT.t1 hb0 Tryz.func19 rfl rfl ?_
 cases h
 exact ⟨hS11.ag, fun w9 hw9 => okOf_in ⟨(.slice (some ⟨b0, 0, none⟩) a2.toNat a2.toNat), rfl, hS11.kd hr15 hw9⟩⟩
def cs_TShare (x : TShare) : List Value := [.int .u64 (x.fN.1.toNat : Int), .int .u64 (x.fN.2.1.toNat : Int), .int .u64 (x.fN.2.2.1.toNat : Int), .int .u64 (x.fN.2.2.2.1.toNat : Int), .int .u64 (x.fN.2.2.2.2.1.toNat : Int), .int .u64 (x.fN.2.2.2.2.2.1.toNat : Int), .int .u64 (x.fN.2.2.2.2.2.2.1.toNat : Int), .int .u64 (x.fN.2.2.2.2.2.2.2.toNat : Int), .int .u64 (x.fD.1.toNat : Int), .int .u64 (x.fD.2.1.toNat : Int), .int .u64 (x.fD.2.2.1.toNat : Int), .int .u64 (x.fD.2.2.2.1.toNat : Int), .int .u64 (x.fD.2.2.2.2.1.toNat : Int), .int .u64 (x.fD.2.2.2.2.2.1.toNat : Int), .int .u64 (x.fD.2.2.2.2.2.2.1.toNat : Int), .int .u64 (x.fD.2.2.2.2.2.2.2.toNat : Int)]
def minority_must_api_Share_p (_n : Nat) (a0 : TShare) (a1 : Int) : Option (Except Tbroken TShare) :=
  (if a1 = 0 then some (.ok a0) else some (.error (⟨a1⟩ : Tbroken)))
theorem minority_must_api_Share_c (n : Nat) (L : List Nat) (w : World) (_hL : ∀ b ∈ L, b < w.heap.size) (a0 : TShare) (a1 : Int)  {r : Except Tbroken TShare} (h : minority_must_api_Share_p n a0 a1 = some r) :
    Calls Tryz.prog 24 #[.agg ((cs_TShare a0)).toArray, vI a1] w (PGives w (fun (y : TShare) _ u => u = .agg ((cs_TShare y)).toArray) (fun e => .iface 93 (.agg #[vI e.fErrno])) r) := by
 unfold minority_must_api_Share_p at h
 have hS0 := St.start w
 refine MX.startP Tryz.func24 rfl rfl rfl (fun _ cs0 hb0 hp0 => ?_)
 refine MX.sr <| RG.new .plain rfl (Does.box (vs := (cs_TShare a0)) hS0 rfl rfl) (fun w2 b5 hS3 hT4 => ?_)
 refine RG.new .plain rfl (Does.alloc (zs := [.int .u64 0, .int .u64 0, .int .u64 0, .int .u64 0, .int .u64 0, .int .u64 0, .int .u64 0, .int .u64 0, .int .u64 0, .int .u64 0, .int .u64 0, .int .u64 0, .int .u64 0, .int .u64 0, .int .u64 0, .int .u64 0]) hS3 (zB (by kernel_rfl))) (fun w7 b0 hS8 hT9 => ?_)
 refine RG.nil <| MX.seq <| MX.sr <| RG.mo rfl <| RG.va (FV.neq (i := a1) (j := 0) rfl rfl) <| RG.nil ?_
 refine MX.ifn rfl h (fun c0 h => ?_) (fun c0 h => ?_)
 refine MX.skip <| MX.sr <| RG.va (FV.lN rfl (hS8.memA (.tl .hd))) <| RG.now .plain (Acts.storeAll (news := (cs_TShare a0)) hS8 .hd rfl rfl rfl rfl rfl rfl (onesB rfl)) (fun w0 hS1 hT0 => ?_)
 refine RG.nil <| MX.ret rfl <| RT.leave hb0 Tryz.func24 rfl (.cons (.many (cs := (cs_TShare a0)) (by kernel_rfl) rfl (hS1.memA .hd)) .nil) rfl ?_
 cases h
 exact ⟨hS1.ag, fun w9 hw9 => okOf_in rfl⟩
 refine MX.region <| RG.mo rfl <| RG.va (FV.buildV (vs := [vI a1]) (u := .agg #[vI a1]) (e1 rfl) (fun w9 => by kernel_rfl)) <| RG.va (FV.makeInterface (by kernel_rfl) rfl) <| RG.panic .plain rfl ?_
 cases h
 exact PN.leave hp0 Tryz.func24 ⟨hS8.ag, rfl⟩
def cs_A36 (x : UInt64 × UInt64 × UInt64 × UInt64 × UInt64 × UInt64 × UInt64 × UInt64) : List Value := [.int .u64 (x.1.toNat : Int), .int .u64 (x.2.1.toNat : Int), .int .u64 (x.2.2.1.toNat : Int), .int .u64 (x.2.2.2.1.toNat : Int), .int .u64 (x.2.2.2.2.1.toNat : Int), .int .u64 (x.2.2.2.2.2.1.toNat : Int), .int .u64 (x.2.2.2.2.2.2.1.toNat : Int), .int .u64 (x.2.2.2.2.2.2.2.toNat : Int)]
def tb119_5 : List (Nat × Nat × Nat) := [(0, 4096, 128), (0, 8192, 128), (2, 16384, 8196), (4, 32768, 16384), (0, 65536, 128), (16, 131072, 65544), (32, 262144, 131072), (0, 524288, 64), (200, 1048576, 819200), (256, 2048, 1048576), (512, 2097152, 2048), (512, 4194304, 2048), (2047, 8388608, 4100), (6143, 0, 10485760), (16383, 64, 4194304)]
def wide_Size_minus_p (_n : Nat) (a0 : UInt64 × UInt64 × UInt64 × UInt64 × UInt64 × UInt64 × UInt64 × UInt64) (a1 : UInt64 × UInt64 × UInt64 × UInt64 × UInt64 × UInt64 × UInt64 × UInt64) : Option ((UInt64 × UInt64 × UInt64 × UInt64 × UInt64 × UInt64 × UInt64 × UInt64) × UInt64) :=
  (sub64 a0.1 a1.1 (0 : UInt64)).bind fun z0 => (sub64 a0.2.1 a1.2.1 z0.2).bind fun z1 => (sub64 a0.2.2.1 a1.2.2.1 z1.2).bind fun z2 => (sub64 a0.2.2.2.1 a1.2.2.2.1 z2.2).bind fun z3 => (sub64 a0.2.2.2.2.1 a1.2.2.2.2.1 z3.2).bind fun z4 => (sub64 a0.2.2.2.2.2.1 a1.2.2.2.2.2.1 z4.2).bind fun z5 => (sub64 a0.2.2.2.2.2.2.1 a1.2.2.2.2.2.2.1 z5.2).bind fun z6 => (sub64 a0.2.2.2.2.2.2.2 a1.2.2.2.2.2.2.2 z6.2).bind fun z7 => some ((z0.1, z1.1, z2.1, z3.1, z4.1, z5.1, z6.1, z7.1), z7.2)
theorem wide_Size_minus_c (n : Nat) (L : List Nat) (w : World) (_hL : ∀ b ∈ L, b < w.heap.size) (a0 : UInt64 × UInt64 × UInt64 × UInt64 × UInt64 × UInt64 × UInt64 × UInt64) (a1 : UInt64 × UInt64 × UInt64 × UInt64 × UInt64 × UInt64 × UInt64 × UInt64)  {r : (UInt64 × UInt64 × UInt64 × UInt64 × UInt64 × UInt64 × UInt64 × UInt64) × UInt64} (h : wide_Size_minus_p n a0 a1 = some r) :
    Calls Tryz.prog 119 #[.agg ((cs_A36 a0)).toArray, .agg ((cs_A36 a1)).toArray] w (Gives w fun _ u => u = .tuple #[.agg ((cs_A36 r.1)).toArray, .int .u64 (r.2.toNat : Int)]) := by
 unfold wide_Size_minus_p at h
 have hS0 := St.start w
 refine MX.start Tryz.func119 rfl rfl rfl (fun _ cs0 hb0 => ?_)
 refine MX.sr <| RG.new .plain rfl (Does.box (vs := (cs_A36 a0)) hS0 rfl rfl) (fun w2 b5 hS3 hT4 => ?_)
 refine RG.new .plain rfl (Does.box (vs := (cs_A36 a1)) hS3 rfl rfl) (fun w7 b0 hS8 hT9 => ?_)
 refine RG.new .plain rfl (Does.alloc (zs := [.int .u64 0, .int .u64 0, .int .u64 0, .int .u64 0, .int .u64 0, .int .u64 0, .int .u64 0, .int .u64 0]) hS8 (zB (by kernel_rfl))) (fun w0 b1 hS1 hT0 => ?_)
 refine RG.so rfl <| RG.nil <| MX.sr <| RG.so rfl <| RG.nil <| MX.seq ?_
 refine MX.sr <| RG.mo rfl <| RG.nil <| MX.block <| MX.loop1 <| MX.sr ?_
 refine RG.va (FV.lssN (i := 0) (j := 8) rfl rfl) <| RG.nil <| MX.seq <| MX.cond_t rfl <| MX.skip <| MX.seq ?_
 refine MX.block <| MX.sr <| RG.mo rfl <| RG.so rfl <| RG.nil <| MX.drawT 13 tb119_5 (by kernel_rfl) (by kernel_rfl) (by kernel_rfl) (fun kt0 kp0 => ?_)
 refine RD.vw 0 1 kt0 rfl kp0 (fun _ => FV.move rfl) rfl <| RD.vw 1 3 kt0 rfl kp0 (fun _ => FV.move rfl) rfl <| RD.vw 2 7 kt0 rfl kp0 (fun _ => FV.indexArr (m := 1) (k := 0) (len := 8) (by kernel_rfl) rfl rfl rfl (by omega)) rfl <| RD.vx 3 15 32512 kt0 rfl kp0 (FV.l1 rfl ((hS1.memA (.tl (.tl .hd))) 0 _ rfl)) rfl <| RD.vw 4 31 kt0 rfl kp0 (fun _ => FV.move rfl) rfl <| RD.vw 5 63 kt0 rfl kp0 (fun _ => FV.indexArr (m := 1) (k := 0) (len := 8) (by kernel_rfl) rfl rfl rfl (by omega)) rfl ?_
 refine RD.vx 6 127 32512 kt0 rfl kp0 (FV.l1 rfl ((hS1.memA (.tl .hd)) 0 _ rfl)) rfl <| RD.vw 7 255 kt0 rfl kp0 (fun _ => FV.move rfl) rfl ?_
 obtain ⟨z0, hz18, h⟩ := bind_in h
 refine RD.vw 8 511 kt0 rfl kp0 (fun _ => FV.sub64 (a := a0.1) (b := a1.1) (c := (0 : UInt64)) Tryz.func121 rfl (by kernel_rfl) (by kernel_rfl) (by kernel_rfl) rfl rfl rfl hz18) rfl <| RD.vw 9 1023 kt0 rfl kp0 (fun _ => FV.move rfl) rfl <| RD.vw 10 2047 kt0 rfl kp0 (fun _ => FV.extract rfl rfl) rfl <| RD.vw 11 4095 kt0 rfl kp0 (fun _ => FV.extract rfl rfl) rfl <| RD.vw 12 8191 kt0 rfl kp0 (fun _ => FV.indexArr (m := 1) (k := 0) (len := 8) (by kernel_rfl) rfl rfl rfl (by omega)) rfl <| RD.nw 13 16383 kt0 rfl rfl .plain (Acts.store (j := 0) (old := (cs_A36 a0)) (news := [.int .u64 (z0.1.toNat : Int)]) (new' := [.int .u64 (z0.1.toNat : Int), .int .u64 (a0.2.1.toNat : Int), .int .u64 (a0.2.2.1.toNat : Int), .int .u64 (a0.2.2.2.1.toNat : Int), .int .u64 (a0.2.2.2.2.1.toNat : Int), .int .u64 (a0.2.2.2.2.2.1.toNat : Int), .int .u64 (a0.2.2.2.2.2.2.1.toNat : Int), .int .u64 (a0.2.2.2.2.2.2.2.toNat : Int)]) hS1 (.tl (.tl .hd)) rfl rfl rfl rfl rfl rfl (o1 rfl) rfl) (fun w1 hS2 hT1 => ?_)
 refine RD.one (i := 14) (readyD_ok kt0 (by kernel_rfl)) (RO.val (m' := 32767) (stepC_ok kt0 (by kernel_rfl)) rfl .plain rfl (FV.assign rfl) ?_)
 refine RD.done (doneD_ok kt0 (by kernel_rfl)) <| MX.inBlock <| MX.region <| RG.va (FV.add (i := 0) (j := 1) (r := 1) rfl rfl (by decide)) <| RG.mo rfl <| RG.nil ?_
 refine MX.again1 <| MX.sr <| RG.va (FV.lssN (i := 1) (j := 8) rfl rfl) <| RG.nil <| MX.seq <| MX.cond_t rfl ?_
 refine MX.skip <| MX.seq <| MX.block <| MX.sr <| RG.mo rfl <| RG.so rfl ?_
 refine RG.nil <| MX.drawT 13 tb119_5 (by kernel_rfl) (by kernel_rfl) (by kernel_rfl) (fun kt1 kp1 => ?_)
 refine RD.vw 0 1 kt1 rfl kp1 (fun _ => FV.move rfl) rfl <| RD.vw 1 3 kt1 rfl kp1 (fun _ => FV.move rfl) rfl <| RD.vw 2 7 kt1 rfl kp1 (fun _ => FV.indexArr (m := 1) (k := 1) (len := 8) (by kernel_rfl) rfl rfl rfl (by omega)) rfl <| RD.vx 3 15 32512 kt1 rfl kp1 (FV.l1 rfl ((hS2.memA (.tl (.tl .hd))) 1 _ rfl)) rfl <| RD.vw 4 31 kt1 rfl kp1 (fun _ => FV.move rfl) rfl <| RD.vw 5 63 kt1 rfl kp1 (fun _ => FV.indexArr (m := 1) (k := 1) (len := 8) (by kernel_rfl) rfl rfl rfl (by omega)) rfl ?_
 refine RD.vx 6 127 32512 kt1 rfl kp1 (FV.l1 rfl ((hS2.memA (.tl .hd)) 1 _ rfl)) rfl <| RD.vw 7 255 kt1 rfl kp1 (fun _ => FV.move rfl) rfl ?_
 obtain ⟨z1, hz24, h⟩ := bind_in h
 refine RD.vw 8 511 kt1 rfl kp1 (fun _ => FV.sub64 (a := a0.2.1) (b := a1.2.1) (c := z0.2) Tryz.func121 rfl (by kernel_rfl) (by kernel_rfl) (by kernel_rfl) rfl rfl rfl hz24) rfl <| RD.vw 9 1023 kt1 rfl kp1 (fun _ => FV.move rfl) rfl <| RD.vw 10 2047 kt1 rfl kp1 (fun _ => FV.extract rfl rfl) rfl <| RD.vw 11 4095 kt1 rfl kp1 (fun _ => FV.extract rfl rfl) rfl <| RD.vw 12 8191 kt1 rfl kp1 (fun _ => FV.indexArr (m := 1) (k := 1) (len := 8) (by kernel_rfl) rfl rfl rfl (by omega)) rfl <| RD.nw 13 16383 kt1 rfl rfl .plain (Acts.store (j := 1) (old := [.int .u64 (z0.1.toNat : Int), .int .u64 (a0.2.1.toNat : Int), .int .u64 (a0.2.2.1.toNat : Int), .int .u64 (a0.2.2.2.1.toNat : Int), .int .u64 (a0.2.2.2.2.1.toNat : Int), .int .u64 (a0.2.2.2.2.2.1.toNat : Int), .int .u64 (a0.2.2.2.2.2.2.1.toNat : Int), .int .u64 (a0.2.2.2.2.2.2.2.toNat : Int)]) (news := [.int .u64 (z1.1.toNat : Int)]) (new' := [.int .u64 (z0.1.toNat : Int), .int .u64 (z1.1.toNat : Int), .int .u64 (a0.2.2.1.toNat : Int), .int .u64 (a0.2.2.2.1.toNat : Int), .int .u64 (a0.2.2.2.2.1.toNat : Int), .int .u64 (a0.2.2.2.2.2.1.toNat : Int), .int .u64 (a0.2.2.2.2.2.2.1.toNat : Int), .int .u64 (a0.2.2.2.2.2.2.2.toNat : Int)]) hS2 (.tl (.tl .hd)) rfl rfl rfl rfl rfl rfl (o1 rfl) rfl) (fun w3 hS4 hT2 => ?_)
 refine RD.one (i := 14) (readyD_ok kt1 (by kernel_rfl)) (RO.val (m' := 32767) (stepC_ok kt1 (by kernel_rfl)) rfl .plain rfl (FV.assign rfl) ?_)
 refine RD.done (doneD_ok kt1 (by kernel_rfl)) <| MX.inBlock <| MX.region <| RG.va (FV.add (i := 1) (j := 1) (r := 2) rfl rfl (by decide)) <| RG.mo rfl <| RG.nil ?_
 refine MX.again1 <| MX.sr <| RG.va (FV.lssN (i := 2) (j := 8) rfl rfl) <| RG.nil <| MX.seq <| MX.cond_t rfl ?_
 refine MX.skip <| MX.seq <| MX.block <| MX.sr <| RG.mo rfl <| RG.so rfl ?_
 refine RG.nil <| MX.drawT 13 tb119_5 (by kernel_rfl) (by kernel_rfl) (by kernel_rfl) (fun kt2 kp2 => ?_)
 refine RD.vw 0 1 kt2 rfl kp2 (fun _ => FV.move rfl) rfl <| RD.vw 1 3 kt2 rfl kp2 (fun _ => FV.move rfl) rfl <| RD.vw 2 7 kt2 rfl kp2 (fun _ => FV.indexArr (m := 1) (k := 2) (len := 8) (by kernel_rfl) rfl rfl rfl (by omega)) rfl <| RD.vx 3 15 32512 kt2 rfl kp2 (FV.l1 rfl ((hS4.memA (.tl (.tl .hd))) 2 _ rfl)) rfl <| RD.vw 4 31 kt2 rfl kp2 (fun _ => FV.move rfl) rfl <| RD.vw 5 63 kt2 rfl kp2 (fun _ => FV.indexArr (m := 1) (k := 2) (len := 8) (by kernel_rfl) rfl rfl rfl (by omega)) rfl ?_
 refine RD.vx 6 127 32512 kt2 rfl kp2 (FV.l1 rfl ((hS4.memA (.tl .hd)) 2 _ rfl)) rfl <| RD.vw 7 255 kt2 rfl kp2 (fun _ => FV.move rfl) rfl ?_
 obtain ⟨z2, hz30, h⟩ := bind_in h
 refine RD.vw 8 511 kt2 rfl kp2 (fun _ => FV.sub64 (a := a0.2.2.1) (b := a1.2.2.1) (c := z1.2) Tryz.func121 rfl (by kernel_rfl) (by kernel_rfl) (by kernel_rfl) rfl rfl rfl hz30) rfl <| RD.vw 9 1023 kt2 rfl kp2 (fun _ => FV.move rfl) rfl <| RD.vw 10 2047 kt2 rfl kp2 (fun _ => FV.extract rfl rfl) rfl <| RD.vw 11 4095 kt2 rfl kp2 (fun _ => FV.extract rfl rfl) rfl <| RD.vw 12 8191 kt2 rfl kp2 (fun _ => FV.indexArr (m := 1) (k := 2) (len := 8) (by kernel_rfl) rfl rfl rfl (by omega)) rfl <| RD.nw 13 16383 kt2 rfl rfl .plain (Acts.store (j := 2) (old := [.int .u64 (z0.1.toNat : Int), .int .u64 (z1.1.toNat : Int), .int .u64 (a0.2.2.1.toNat : Int), .int .u64 (a0.2.2.2.1.toNat : Int), .int .u64 (a0.2.2.2.2.1.toNat : Int), .int .u64 (a0.2.2.2.2.2.1.toNat : Int), .int .u64 (a0.2.2.2.2.2.2.1.toNat : Int), .int .u64 (a0.2.2.2.2.2.2.2.toNat : Int)]) (news := [.int .u64 (z2.1.toNat : Int)]) (new' := [.int .u64 (z0.1.toNat : Int), .int .u64 (z1.1.toNat : Int), .int .u64 (z2.1.toNat : Int), .int .u64 (a0.2.2.2.1.toNat : Int), .int .u64 (a0.2.2.2.2.1.toNat : Int), .int .u64 (a0.2.2.2.2.2.1.toNat : Int), .int .u64 (a0.2.2.2.2.2.2.1.toNat : Int), .int .u64 (a0.2.2.2.2.2.2.2.toNat : Int)]) hS4 (.tl (.tl .hd)) rfl rfl rfl rfl rfl rfl (o1 rfl) rfl) (fun w4 hS5 hT3 => ?_)
 refine RD.one (i := 14) (readyD_ok kt2 (by kernel_rfl)) (RO.val (m' := 32767) (stepC_ok kt2 (by kernel_rfl)) rfl .plain rfl (FV.assign rfl) ?_)
 refine RD.done (doneD_ok kt2 (by kernel_rfl)) <| MX.inBlock <| MX.region <| RG.va (FV.add (i := 2) (j := 1) (r := 3) rfl rfl (by decide)) <| RG.mo rfl <| RG.nil ?_
 refine MX.again1 <| MX.sr <| RG.va (FV.lssN (i := 3) (j := 8) rfl rfl) <| RG.nil <| MX.seq <| MX.cond_t rfl ?_
 refine MX.skip <| MX.seq <| MX.block <| MX.sr <| RG.mo rfl <| RG.so rfl ?_
 refine RG.nil <| MX.drawT 13 tb119_5 (by kernel_rfl) (by kernel_rfl) (by kernel_rfl) (fun kt3 kp3 => ?_)
 refine RD.vw 0 1 kt3 rfl kp3 (fun _ => FV.move rfl) rfl <| RD.vw 1 3 kt3 rfl kp3 (fun _ => FV.move rfl) rfl <| RD.vw 2 7 kt3 rfl kp3 (fun _ => FV.indexArr (m := 1) (k := 3) (len := 8) (by kernel_rfl) rfl rfl rfl (by omega)) rfl <| RD.vx 3 15 32512 kt3 rfl kp3 (FV.l1 rfl ((hS5.memA (.tl (.tl .hd))) 3 _ rfl)) rfl <| RD.vw 4 31 kt3 rfl kp3 (fun _ => FV.move rfl) rfl <| RD.vw 5 63 kt3 rfl kp3 (fun _ => FV.indexArr (m := 1) (k := 3) (len := 8) (by kernel_rfl) rfl rfl rfl (by omega)) rfl ?_
 refine RD.vx 6 127 32512 kt3 rfl kp3 (FV.l1 rfl ((hS5.memA (.tl .hd)) 3 _ rfl)) rfl <| RD.vw 7 255 kt3 rfl kp3 (fun _ => FV.move rfl) rfl ?_
 obtain ⟨z3, hz36, h⟩ := bind_in h
 refine RD.vw 8 511 kt3 rfl kp3 (fun _ => FV.sub64 (a := a0.2.2.2.1) (b := a1.2.2.2.1) (c := z2.2) Tryz.func121 rfl (by kernel_rfl) (by kernel_rfl) (by kernel_rfl) rfl rfl rfl hz36) rfl <| RD.vw 9 1023 kt3 rfl kp3 (fun _ => FV.move rfl) rfl <| RD.vw 10 2047 kt3 rfl kp3 (fun _ => FV.extract rfl rfl) rfl <| RD.vw 11 4095 kt3 rfl kp3 (fun _ => FV.extract rfl rfl) rfl <| RD.vw 12 8191 kt3 rfl kp3 (fun _ => FV.indexArr (m := 1) (k := 3) (len := 8) (by kernel_rfl) rfl rfl rfl (by omega)) rfl <| RD.nw 13 16383 kt3 rfl rfl .plain (Acts.store (j := 3) (old := [.int .u64 (z0.1.toNat : Int), .int .u64 (z1.1.toNat : Int), .int .u64 (z2.1.toNat : Int), .int .u64 (a0.2.2.2.1.toNat : Int), .int .u64 (a0.2.2.2.2.1.toNat : Int), .int .u64 (a0.2.2.2.2.2.1.toNat : Int), .int .u64 (a0.2.2.2.2.2.2.1.toNat : Int), .int .u64 (a0.2.2.2.2.2.2.2.toNat : Int)]) (news := [.int .u64 (z3.1.toNat : Int)]) (new' := [.int .u64 (z0.1.toNat : Int), .int .u64 (z1.1.toNat : Int), .int .u64 (z2.1.toNat : Int), .int .u64 (z3.1.toNat : Int), .int .u64 (a0.2.2.2.2.1.toNat : Int), .int .u64 (a0.2.2.2.2.2.1.toNat : Int), .int .u64 (a0.2.2.2.2.2.2.1.toNat : Int), .int .u64 (a0.2.2.2.2.2.2.2.toNat : Int)]) hS5 (.tl (.tl .hd)) rfl rfl rfl rfl rfl rfl (o1 rfl) rfl) (fun w5 hS6 hT5 => ?_)
 refine RD.one (i := 14) (readyD_ok kt3 (by kernel_rfl)) (RO.val (m' := 32767) (stepC_ok kt3 (by kernel_rfl)) rfl .plain rfl (FV.assign rfl) ?_)
 refine RD.done (doneD_ok kt3 (by kernel_rfl)) <| MX.inBlock <| MX.region <| RG.va (FV.add (i := 3) (j := 1) (r := 4) rfl rfl (by decide)) <| RG.mo rfl <| RG.nil ?_
 refine MX.again1 <| MX.sr <| RG.va (FV.lssN (i := 4) (j := 8) rfl rfl) <| RG.nil <| MX.seq <| MX.cond_t rfl ?_
 refine MX.skip <| MX.seq <| MX.block <| MX.sr <| RG.mo rfl <| RG.so rfl ?_
 refine RG.nil <| MX.drawT 13 tb119_5 (by kernel_rfl) (by kernel_rfl) (by kernel_rfl) (fun kt4 kp4 => ?_)
 refine RD.vw 0 1 kt4 rfl kp4 (fun _ => FV.move rfl) rfl <| RD.vw 1 3 kt4 rfl kp4 (fun _ => FV.move rfl) rfl <| RD.vw 2 7 kt4 rfl kp4 (fun _ => FV.indexArr (m := 1) (k := 4) (len := 8) (by kernel_rfl) rfl rfl rfl (by omega)) rfl <| RD.vx 3 15 32512 kt4 rfl kp4 (FV.l1 rfl ((hS6.memA (.tl (.tl .hd))) 4 _ rfl)) rfl <| RD.vw 4 31 kt4 rfl kp4 (fun _ => FV.move rfl) rfl <| RD.vw 5 63 kt4 rfl kp4 (fun _ => FV.indexArr (m := 1) (k := 4) (len := 8) (by kernel_rfl) rfl rfl rfl (by omega)) rfl ?_
 refine RD.vx 6 127 32512 kt4 rfl kp4 (FV.l1 rfl ((hS6.memA (.tl .hd)) 4 _ rfl)) rfl <| RD.vw 7 255 kt4 rfl kp4 (fun _ => FV.move rfl) rfl ?_
 obtain ⟨z4, hz42, h⟩ := bind_in h
 refine RD.vw 8 511 kt4 rfl kp4 (fun _ => FV.sub64 (a := a0.2.2.2.2.1) (b := a1.2.2.2.2.1) (c := z3.2) Tryz.func121 rfl (by kernel_rfl) (by kernel_rfl) (by kernel_rfl) rfl rfl rfl hz42) rfl <| RD.vw 9 1023 kt4 rfl kp4 (fun _ => FV.move rfl) rfl <| RD.vw 10 2047 kt4 rfl kp4 (fun _ => FV.extract rfl rfl) rfl <| RD.vw 11 4095 kt4 rfl kp4 (fun _ => FV.extract rfl rfl) rfl <| RD.vw 12 8191 kt4 rfl kp4 (fun _ => FV.indexArr (m := 1) (k := 4) (len := 8) (by kernel_rfl) rfl rfl rfl (by omega)) rfl <| RD.nw 13 16383 kt4 rfl rfl .plain (Acts.store (j := 4) (old := [.int .u64 (z0.1.toNat : Int), .int .u64 (z1.1.toNat : Int), .int .u64 (z2.1.toNat : Int), .int .u64 (z3.1.toNat : Int), .int .u64 (a0.2.2.2.2.1.toNat : Int), .int .u64 (a0.2.2.2.2.2.1.toNat : Int), .int .u64 (a0.2.2.2.2.2.2.1.toNat : Int), .int .u64 (a0.2.2.2.2.2.2.2.toNat : Int)]) (news := [.int .u64 (z4.1.toNat : Int)]) (new' := [.int .u64 (z0.1.toNat : Int), .int .u64 (z1.1.toNat : Int), .int .u64 (z2.1.toNat : Int), .int .u64 (z3.1.toNat : Int), .int .u64 (z4.1.toNat : Int), .int .u64 (a0.2.2.2.2.2.1.toNat : Int), .int .u64 (a0.2.2.2.2.2.2.1.toNat : Int), .int .u64 (a0.2.2.2.2.2.2.2.toNat : Int)]) hS6 (.tl (.tl .hd)) rfl rfl rfl rfl rfl rfl (o1 rfl) rfl) (fun w6 hS7 hT6 => ?_)
 refine RD.one (i := 14) (readyD_ok kt4 (by kernel_rfl)) (RO.val (m' := 32767) (stepC_ok kt4 (by kernel_rfl)) rfl .plain rfl (FV.assign rfl) ?_)
 refine RD.done (doneD_ok kt4 (by kernel_rfl)) <| MX.inBlock <| MX.region <| RG.va (FV.add (i := 4) (j := 1) (r := 5) rfl rfl (by decide)) <| RG.mo rfl <| RG.nil ?_
 refine MX.again1 <| MX.sr <| RG.va (FV.lssN (i := 5) (j := 8) rfl rfl) <| RG.nil <| MX.seq <| MX.cond_t rfl ?_
 refine MX.skip <| MX.seq <| MX.block <| MX.sr <| RG.mo rfl <| RG.so rfl ?_
 refine RG.nil <| MX.drawT 13 tb119_5 (by kernel_rfl) (by kernel_rfl) (by kernel_rfl) (fun kt5 kp5 => ?_)
 refine RD.vw 0 1 kt5 rfl kp5 (fun _ => FV.move rfl) rfl <| RD.vw 1 3 kt5 rfl kp5 (fun _ => FV.move rfl) rfl <| RD.vw 2 7 kt5 rfl kp5 (fun _ => FV.indexArr (m := 1) (k := 5) (len := 8) (by kernel_rfl) rfl rfl rfl (by omega)) rfl <| RD.vx 3 15 32512 kt5 rfl kp5 (FV.l1 rfl ((hS7.memA (.tl (.tl .hd))) 5 _ rfl)) rfl <| RD.vw 4 31 kt5 rfl kp5 (fun _ => FV.move rfl) rfl <| RD.vw 5 63 kt5 rfl kp5 (fun _ => FV.indexArr (m := 1) (k := 5) (len := 8) (by kernel_rfl) rfl rfl rfl (by omega)) rfl ?_
 refine RD.vx 6 127 32512 kt5 rfl kp5 (FV.l1 rfl ((hS7.memA (.tl .hd)) 5 _ rfl)) rfl <| RD.vw 7 255 kt5 rfl kp5 (fun _ => FV.move rfl) rfl ?_
 obtain ⟨z5, hz48, h⟩ := bind_in h
 refine RD.vw 8 511 kt5 rfl kp5 (fun _ => FV.sub64 (a := a0.2.2.2.2.2.1) (b := a1.2.2.2.2.2.1) (c := z4.2) Tryz.func121 rfl (by kernel_rfl) (by kernel_rfl) (by kernel_rfl) rfl rfl rfl hz48) rfl <| RD.vw 9 1023 kt5 rfl kp5 (fun _ => FV.move rfl) rfl <| RD.vw 10 2047 kt5 rfl kp5 (fun _ => FV.extract rfl rfl) rfl <| RD.vw 11 4095 kt5 rfl kp5 (fun _ => FV.extract rfl rfl) rfl <| RD.vw 12 8191 kt5 rfl kp5 (fun _ => FV.indexArr (m := 1) (k := 5) (len := 8) (by kernel_rfl) rfl rfl rfl (by omega)) rfl <| RD.nw 13 16383 kt5 rfl rfl .plain (Acts.store (j := 5) (old := [.int .u64 (z0.1.toNat : Int), .int .u64 (z1.1.toNat : Int), .int .u64 (z2.1.toNat : Int), .int .u64 (z3.1.toNat : Int), .int .u64 (z4.1.toNat : Int), .int .u64 (a0.2.2.2.2.2.1.toNat : Int), .int .u64 (a0.2.2.2.2.2.2.1.toNat : Int), .int .u64 (a0.2.2.2.2.2.2.2.toNat : Int)]) (news := [.int .u64 (z5.1.toNat : Int)]) (new' := [.int .u64 (z0.1.toNat : Int), .int .u64 (z1.1.toNat : Int), .int .u64 (z2.1.toNat : Int), .int .u64 (z3.1.toNat : Int), .int .u64 (z4.1.toNat : Int), .int .u64 (z5.1.toNat : Int), .int .u64 (a0.2.2.2.2.2.2.1.toNat : Int), .int .u64 (a0.2.2.2.2.2.2.2.toNat : Int)]) hS7 (.tl (.tl .hd)) rfl rfl rfl rfl rfl rfl (o1 rfl) rfl) (fun w8 hS9 hT7 => ?_)
 refine RD.one (i := 14) (readyD_ok kt5 (by kernel_rfl)) (RO.val (m' := 32767) (stepC_ok kt5 (by kernel_rfl)) rfl .plain rfl (FV.assign rfl) ?_)
 refine RD.done (doneD_ok kt5 (by kernel_rfl)) <| MX.inBlock <| MX.region <| RG.va (FV.add (i := 5) (j := 1) (r := 6) rfl rfl (by decide)) <| RG.mo rfl <| RG.nil ?_
 refine MX.again1 <| MX.sr <| RG.va (FV.lssN (i := 6) (j := 8) rfl rfl) <| RG.nil <| MX.seq <| MX.cond_t rfl ?_
 refine MX.skip <| MX.seq <| MX.block <| MX.sr <| RG.mo rfl <| RG.so rfl ?_
 refine RG.nil <| MX.drawT 13 tb119_5 (by kernel_rfl) (by kernel_rfl) (by kernel_rfl) (fun kt6 kp6 => ?_)
 refine RD.vw 0 1 kt6 rfl kp6 (fun _ => FV.move rfl) rfl <| RD.vw 1 3 kt6 rfl kp6 (fun _ => FV.move rfl) rfl <| RD.vw 2 7 kt6 rfl kp6 (fun _ => FV.indexArr (m := 1) (k := 6) (len := 8) (by kernel_rfl) rfl rfl rfl (by omega)) rfl <| RD.vx 3 15 32512 kt6 rfl kp6 (FV.l1 rfl ((hS9.memA (.tl (.tl .hd))) 6 _ rfl)) rfl <| RD.vw 4 31 kt6 rfl kp6 (fun _ => FV.move rfl) rfl <| RD.vw 5 63 kt6 rfl kp6 (fun _ => FV.indexArr (m := 1) (k := 6) (len := 8) (by kernel_rfl) rfl rfl rfl (by omega)) rfl ?_
 refine RD.vx 6 127 32512 kt6 rfl kp6 (FV.l1 rfl ((hS9.memA (.tl .hd)) 6 _ rfl)) rfl <| RD.vw 7 255 kt6 rfl kp6 (fun _ => FV.move rfl) rfl ?_
 obtain ⟨z6, hz54, h⟩ := bind_in h
 refine RD.vw 8 511 kt6 rfl kp6 (fun _ => FV.sub64 (a := a0.2.2.2.2.2.2.1) (b := a1.2.2.2.2.2.2.1) (c := z5.2) Tryz.func121 rfl (by kernel_rfl) (by kernel_rfl) (by kernel_rfl) rfl rfl rfl hz54) rfl <| RD.vw 9 1023 kt6 rfl kp6 (fun _ => FV.move rfl) rfl <| RD.vw 10 2047 kt6 rfl kp6 (fun _ => FV.extract rfl rfl) rfl <| RD.vw 11 4095 kt6 rfl kp6 (fun _ => FV.extract rfl rfl) rfl <| RD.vw 12 8191 kt6 rfl kp6 (fun _ => FV.indexArr (m := 1) (k := 6) (len := 8) (by kernel_rfl) rfl rfl rfl (by omega)) rfl <| RD.nw 13 16383 kt6 rfl rfl .plain (Acts.store (j := 6) (old := [.int .u64 (z0.1.toNat : Int), .int .u64 (z1.1.toNat : Int), .int .u64 (z2.1.toNat : Int), .int .u64 (z3.1.toNat : Int), .int .u64 (z4.1.toNat : Int), .int .u64 (z5.1.toNat : Int), .int .u64 (a0.2.2.2.2.2.2.1.toNat : Int), .int .u64 (a0.2.2.2.2.2.2.2.toNat : Int)]) (news := [.int .u64 (z6.1.toNat : Int)]) (new' := [.int .u64 (z0.1.toNat : Int), .int .u64 (z1.1.toNat : Int), .int .u64 (z2.1.toNat : Int), .int .u64 (z3.1.toNat : Int), .int .u64 (z4.1.toNat : Int), .int .u64 (z5.1.toNat : Int), .int .u64 (z6.1.toNat : Int), .int .u64 (a0.2.2.2.2.2.2.2.toNat : Int)]) hS9 (.tl (.tl .hd)) rfl rfl rfl rfl rfl rfl (o1 rfl) rfl) (fun w9 hS56 hT8 => ?_)
 refine RD.one (i := 14) (readyD_ok kt6 (by kernel_rfl)) (RO.val (m' := 32767) (stepC_ok kt6 (by kernel_rfl)) rfl .plain rfl (FV.assign rfl) ?_)
 refine RD.done (doneD_ok kt6 (by kernel_rfl)) <| MX.inBlock <| MX.region <| RG.va (FV.add (i := 6) (j := 1) (r := 7) rfl rfl (by decide)) <| RG.mo rfl <| RG.nil ?_
 refine MX.again1 <| MX.sr <| RG.va (FV.lssN (i := 7) (j := 8) rfl rfl) <| RG.nil <| MX.seq <| MX.cond_t rfl ?_
 refine MX.skip <| MX.seq <| MX.block <| MX.sr <| RG.mo rfl <| RG.so rfl ?_
 refine RG.nil <| MX.drawT 13 tb119_5 (by kernel_rfl) (by kernel_rfl) (by kernel_rfl) (fun kt7 kp7 => ?_)
 refine RD.vw 0 1 kt7 rfl kp7 (fun _ => FV.move rfl) rfl <| RD.vw 1 3 kt7 rfl kp7 (fun _ => FV.move rfl) rfl <| RD.vw 2 7 kt7 rfl kp7 (fun _ => FV.indexArr (m := 1) (k := 7) (len := 8) (by kernel_rfl) rfl rfl rfl (by omega)) rfl <| RD.vx 3 15 32512 kt7 rfl kp7 (FV.l1 rfl ((hS56.memA (.tl (.tl .hd))) 7 _ rfl)) rfl <| RD.vw 4 31 kt7 rfl kp7 (fun _ => FV.move rfl) rfl <| RD.vw 5 63 kt7 rfl kp7 (fun _ => FV.indexArr (m := 1) (k := 7) (len := 8) (by kernel_rfl) rfl rfl rfl (by omega)) rfl ?_
 refine RD.vx 6 127 32512 kt7 rfl kp7 (FV.l1 rfl ((hS56.memA (.tl .hd)) 7 _ rfl)) rfl <| RD.vw 7 255 kt7 rfl kp7 (fun _ => FV.move rfl) rfl ?_
 obtain ⟨z7, hz60, h⟩ := bind_in h
 refine RD.vw 8 511 kt7 rfl kp7 (fun _ => FV.sub64 (a := a0.2.2.2.2.2.2.2) (b := a1.2.2.2.2.2.2.2) (c := z6.2) Tryz.func121 rfl (by kernel_rfl) (by kernel_rfl) (by kernel_rfl) rfl rfl rfl hz60) rfl <| RD.vw 9 1023 kt7 rfl kp7 (fun _ => FV.move rfl) rfl <| RD.vw 10 2047 kt7 rfl kp7 (fun _ => FV.extract rfl rfl) rfl <| RD.vw 11 4095 kt7 rfl kp7 (fun _ => FV.extract rfl rfl) rfl <| RD.vw 12 8191 kt7 rfl kp7 (fun _ => FV.indexArr (m := 1) (k := 7) (len := 8) (by kernel_rfl) rfl rfl rfl (by omega)) rfl <| RD.nw 13 16383 kt7 rfl rfl .plain (Acts.store (j := 7) (old := [.int .u64 (z0.1.toNat : Int), .int .u64 (z1.1.toNat : Int), .int .u64 (z2.1.toNat : Int), .int .u64 (z3.1.toNat : Int), .int .u64 (z4.1.toNat : Int), .int .u64 (z5.1.toNat : Int), .int .u64 (z6.1.toNat : Int), .int .u64 (a0.2.2.2.2.2.2.2.toNat : Int)]) (news := [.int .u64 (z7.1.toNat : Int)]) (new' := [.int .u64 (z0.1.toNat : Int), .int .u64 (z1.1.toNat : Int), .int .u64 (z2.1.toNat : Int), .int .u64 (z3.1.toNat : Int), .int .u64 (z4.1.toNat : Int), .int .u64 (z5.1.toNat : Int), .int .u64 (z6.1.toNat : Int), .int .u64 (z7.1.toNat : Int)]) hS56 (.tl (.tl .hd)) rfl rfl rfl rfl rfl rfl (o1 rfl) rfl) (fun w61 hS62 hT63 => ?_)
 refine RD.one (i := 14) (readyD_ok kt7 (by kernel_rfl)) (RO.val (m' := 32767) (stepC_ok kt7 (by kernel_rfl)) rfl .plain rfl (FV.assign rfl) ?_)
 refine RD.done (doneD_ok kt7 (by kernel_rfl)) <| MX.inBlock <| MX.region <| RG.va (FV.add (i := 7) (j := 1) (r := 8) rfl rfl (by decide)) <| RG.mo rfl <| RG.nil ?_
 refine MX.again1 <| MX.sr <| RG.va (FV.lssN (i := 8) (j := 8) rfl rfl) <| RG.nil <| MX.seq <| MX.cond_f rfl ?_
 refine MX.exit rfl <| MX.sr <| RG.va (FV.lN rfl (hS62.memA (.tl (.tl .hd)))) <| RG.mo rfl <| RG.now .plain (Acts.storeAll (news := [.int .u64 (z0.1.toNat : Int), .int .u64 (z1.1.toNat : Int), .int .u64 (z2.1.toNat : Int), .int .u64 (z3.1.toNat : Int), .int .u64 (z4.1.toNat : Int), .int .u64 (z5.1.toNat : Int), .int .u64 (z6.1.toNat : Int), .int .u64 (z7.1.toNat : Int)]) hS62 .hd rfl rfl rfl rfl rfl rfl (onesB rfl)) (fun w64 hS65 hT66 => ?_)
 refine RG.so rfl <| RG.nil <| MX.ret rfl <| RT.leave hb0 Tryz.func119 rfl (.cons (.many (cs := [.int .u64 (z0.1.toNat : Int), .int .u64 (z1.1.toNat : Int), .int .u64 (z2.1.toNat : Int), .int .u64 (z3.1.toNat : Int), .int .u64 (z4.1.toNat : Int), .int .u64 (z5.1.toNat : Int), .int .u64 (z6.1.toNat : Int), .int .u64 (z7.1.toNat : Int)]) (by kernel_rfl) rfl (hS65.memA .hd)) (.cons (.tmp rfl) .nil)) rfl ?_
 cases h
 exact hS65.gv
def tb135_4 : List (Nat × Nat × Nat) := [(0, 1024, 32), (1, 2048, 1028), (2, 4096, 2048), (0, 8192, 32), (8, 16384, 8200), (16, 32768, 16384), (36, 65536, 36864)]
def tb135_5 : List (Nat × Nat × Nat) := [(0, 131072, 32), (1, 262144, 131076), (2, 524288, 262144), (0, 1048576, 32), (8, 2097152, 1048584), (16, 4194304, 2097152), (36, 8388608, 4718592)]
def wide_Size_order_l1 (_n : Nat) (a0 : UInt64 × UInt64 × UInt64 × UInt64 × UInt64 × UInt64 × UInt64 × UInt64) (a1 : UInt64 × UInt64 × UInt64 × UInt64 × UInt64 × UInt64 × UInt64 × UInt64) (J0 : Int → Option (Int ⊕ Unit)) : Int → Option (Int ⊕ Unit)
  | z0 => (if 0 ≤ z0 then (idx ([a0.1, a0.2.1, a0.2.2.1, a0.2.2.2.1, a0.2.2.2.2.1, a0.2.2.2.2.2.1, a0.2.2.2.2.2.2.1, a0.2.2.2.2.2.2.2] : List UInt64) z0).bind fun z1 => (idx ([a1.1, a1.2.1, a1.2.2.1, a1.2.2.2.1, a1.2.2.2.2.1, a1.2.2.2.2.2.1, a1.2.2.2.2.2.2.1, a1.2.2.2.2.2.2.2] : List UInt64) z0).bind fun z2 => (if z1 = z2 then (chk (z0 - 1)).bind fun s0 => J0 s0 else (if z1 < z2 then some (.inl (-1 : Int)) else some (.inl (1 : Int)))) else some (.inr ()))
def wide_Size_order_p (n : Nat) (a0 : UInt64 × UInt64 × UInt64 × UInt64 × UInt64 × UInt64 × UInt64 × UInt64) (a1 : UInt64 × UInt64 × UInt64 × UInt64 × UInt64 × UInt64 × UInt64 × UInt64) : Option Int :=
  thn (loopF (wide_Size_order_l1 n a0 a1) n 7) (fun _ => some (0 : Int))
theorem wide_Size_order_c (n : Nat) (L : List Nat) (w : World) (_hL : ∀ b ∈ L, b < w.heap.size) (a0 : UInt64 × UInt64 × UInt64 × UInt64 × UInt64 × UInt64 × UInt64 × UInt64) (a1 : UInt64 × UInt64 × UInt64 × UInt64 × UInt64 × UInt64 × UInt64 × UInt64)  {r : Int} (h : wide_Size_order_p n a0 a1 = some r) :
    Calls Tryz.prog 135 #[.agg ((cs_A36 a0)).toArray, .agg ((cs_A36 a1)).toArray] w (Gives w fun _ u => u = vI r) := by
 unfold wide_Size_order_p at h
 have hS0 := St.start w
 refine MX.start Tryz.func135 rfl rfl rfl (fun _ cs0 hb0 => ?_)
 refine MX.sr <| RG.new .plain rfl (Does.box (vs := (cs_A36 a0)) hS0 rfl rfl) (fun w2 b5 hS3 hT4 => ?_)
 refine RG.new .plain rfl (Does.box (vs := (cs_A36 a1)) hS3 rfl rfl) (fun w7 b0 hS8 hT9 => ?_)
 refine RG.so rfl <| RG.nil <| MX.seq <| MX.sr <| RG.so rfl <| RG.nil ?_
 refine MX.block ?_
 obtain ⟨o0, ho56, hh58⟩ := thn_in h
 refine MX.loop (α := Int) (fun z0 => [(2, vP b5), (3, vP b0), (5, vI z0)]) (fun z0 wx0 => St w wx0 [.cells b0 (cs_A36 a1) 152, .cells b5 (cs_A36 a0) 152] ∧ Tr w7 [.cells b0 (cs_A36 a1) 152, .cells b5 (cs_A36 a0) 152] wx0 [.cells b0 (cs_A36 a1) 152, .cells b5 (cs_A36 a0) 152]) (fun z0 => z0) 7 ho56 ⟨rfl, rfl, rfl, trivial⟩ ⟨hS8, Tr.refl _ _⟩ ?_
 rintro J0 z0 wx0 hJ60 ⟨hS1, hT0⟩ h
 unfold wide_Size_order_l1 at h
 try dsimp only at h
 refine MX.seq <| MX.sr <| RG.mo rfl <| RG.va (FV.geq (i := z0) (j := 0) rfl rfl) <| RG.nil <| MX.ifd rfl h (fun c0 h => ?_) (fun c0 h => ?_)
 refine MX.skip <| MX.seq <| MX.block <| MX.seq <| MX.drawT 7 tb135_4 (by kernel_rfl) (by kernel_rfl) (by kernel_rfl) (fun kt0 kp0 => ?_)
 refine RD.vw 0 1 kt0 rfl kp0 (fun _ => FV.move rfl) rfl ?_
 obtain ⟨z1, hz64, h⟩ := bind_in h
 obtain ⟨hi0, hx0⟩ := idx_in hz64
 have hm0 := mem_elem1 (p := ⟨b5, 0, none⟩) (cs := ([a0.1, a0.2.1, a0.2.2.1, a0.2.2.2.1, a0.2.2.2.2.1, a0.2.2.2.2.2.1, a0.2.2.2.2.2.2.1, a0.2.2.2.2.2.2.2] : List UInt64).map (fun z9 : UInt64 => (.int .u64 (z9.toNat : Int) : Value)) ++ []) (i := z0.toNat) (hS1.memA (.tl .hd)) (arr_get (fun z9 : UInt64 => (.int .u64 (z9.toNat : Int) : Value)) hx0)
 refine RD.vw 1 3 kt0 rfl kp0 (fun _ => FV.indexArr (m := 1) (k := z0.toNat) (len := 8) (by kernel_rfl) rfl rfl hi0 (arr_lt hx0 rfl)) rfl <| RD.vx 2 7 64 kt0 rfl kp0 (FV.l1 rfl (hm0 0 _ rfl)) rfl <| RD.vw 3 15 kt0 rfl kp0 (fun _ => FV.move rfl) rfl ?_
 obtain ⟨z2, hz68, h⟩ := bind_in h
 obtain ⟨hi1, hx1⟩ := idx_in hz68
 have hm1 := mem_elem1 (p := ⟨b0, 0, none⟩) (cs := ([a1.1, a1.2.1, a1.2.2.1, a1.2.2.2.1, a1.2.2.2.2.1, a1.2.2.2.2.2.1, a1.2.2.2.2.2.2.1, a1.2.2.2.2.2.2.2] : List UInt64).map (fun z9 : UInt64 => (.int .u64 (z9.toNat : Int) : Value)) ++ []) (i := z0.toNat) (hS1.memA .hd) (arr_get (fun z9 : UInt64 => (.int .u64 (z9.toNat : Int) : Value)) hx1)
 refine RD.vw 4 31 kt0 rfl kp0 (fun _ => FV.indexArr (m := 1) (k := z0.toNat) (len := 8) (by kernel_rfl) rfl rfl hi1 (arr_lt hx1 rfl)) rfl <| RD.vx 5 63 64 kt0 rfl kp0 (FV.l1 rfl (hm1 0 _ rfl)) rfl <| RD.vw 6 127 kt0 rfl kp0 (fun _ => FV.neqU (a := z1) (b := z2) rfl rfl) rfl <| RD.done (doneD_ok kt0 (by kernel_rfl)) <| MX.ifn rfl h (fun c1 h => ?_) (fun c1 h => ?_)
 refine MX.skip <| MX.inBlock <| MX.region <| RG.mo rfl ?_
 obtain ⟨s0, hs0, h⟩ := bind_in h
 refine RG.va (FV.subc (i := z0) (j := 1) rfl rfl hs0) <| RG.so rfl <| RG.nil ?_
 exact hJ60 s0 _ _ ⟨rfl, rfl, rfl, trivial⟩ ⟨hS1, hT0⟩ h
 refine MX.seq <| MX.seq <| MX.drawT 7 tb135_5 (by kernel_rfl) (by kernel_rfl) (by kernel_rfl) (fun kt1 kp1 => ?_)
 refine RD.vw 0 1 kt1 rfl kp1 (fun _ => FV.move rfl) rfl ?_
 have hm2 := mem_elem1 (p := ⟨b5, 0, none⟩) (cs := ([a0.1, a0.2.1, a0.2.2.1, a0.2.2.2.1, a0.2.2.2.2.1, a0.2.2.2.2.2.1, a0.2.2.2.2.2.2.1, a0.2.2.2.2.2.2.2] : List UInt64).map (fun z9 : UInt64 => (.int .u64 (z9.toNat : Int) : Value)) ++ []) (i := z0.toNat) (hS1.memA (.tl .hd)) (arr_get (fun z9 : UInt64 => (.int .u64 (z9.toNat : Int) : Value)) hx0)
 refine RD.vw 1 3 kt1 rfl kp1 (fun _ => FV.indexArr (m := 1) (k := z0.toNat) (len := 8) (by kernel_rfl) rfl rfl hi0 (arr_lt hx0 rfl)) rfl <| RD.vx 2 7 64 kt1 rfl kp1 (FV.l1 rfl (hm2 0 _ rfl)) rfl <| RD.vw 3 15 kt1 rfl kp1 (fun _ => FV.move rfl) rfl ?_
 have hm3 := mem_elem1 (p := ⟨b0, 0, none⟩) (cs := ([a1.1, a1.2.1, a1.2.2.1, a1.2.2.2.1, a1.2.2.2.2.1, a1.2.2.2.2.2.1, a1.2.2.2.2.2.2.1, a1.2.2.2.2.2.2.2] : List UInt64).map (fun z9 : UInt64 => (.int .u64 (z9.toNat : Int) : Value)) ++ []) (i := z0.toNat) (hS1.memA .hd) (arr_get (fun z9 : UInt64 => (.int .u64 (z9.toNat : Int) : Value)) hx1)
 refine RD.vw 4 31 kt1 rfl kp1 (fun _ => FV.indexArr (m := 1) (k := z0.toNat) (len := 8) (by kernel_rfl) rfl rfl hi1 (arr_lt hx1 rfl)) rfl <| RD.vx 5 63 64 kt1 rfl kp1 (FV.l1 rfl (hm3 0 _ rfl)) rfl <| RD.vw 6 127 kt1 rfl kp1 (fun _ => FV.lssU (a := z1) (b := z2) rfl rfl) rfl <| RD.done (doneD_ok kt1 (by kernel_rfl)) <| MX.ifd rfl h (fun c2 h => ?_) (fun c2 h => ?_)
 refine MX.sr <| RG.so rfl <| RG.nil ?_
 have h := thn_inl h hh58
 refine MX.ret rfl <| RT.t1 hb0 Tryz.func135 rfl rfl ?_
 cases h
 exact hS1.gv
 refine MX.skip <| MX.sr <| RG.so rfl <| RG.nil ?_
 have h := thn_inl h hh58
 refine MX.ret rfl <| RT.t1 hb0 Tryz.func135 rfl rfl ?_
 cases h
 exact hS1.gv
 refine MX.exit rfl ?_
 have h := thn_inr h hh58
 try dsimp only at h
 refine MX.sr <| RG.so rfl <| RG.nil <| MX.ret rfl <| RT.t1 hb0 Tryz.func135 rfl rfl ?_
 cases h
 exact hS1.gv
structure TNumber where
  fBelow : Bool
  fSize : UInt64 × UInt64 × UInt64 × UInt64 × UInt64 × UInt64 × UInt64 × UInt64
  deriving DecidableEq
instance : Rep TNumber := Rep.via (β := Bool × (UInt64 × UInt64 × UInt64 × UInt64 × UInt64 × UInt64 × UInt64 × UInt64)) fun x => (x.fBelow, x.fSize)
def cs_TNumber (x : TNumber) : List Value := [.bool x.fBelow, .int .u64 (x.fSize.1.toNat : Int), .int .u64 (x.fSize.2.1.toNat : Int), .int .u64 (x.fSize.2.2.1.toNat : Int), .int .u64 (x.fSize.2.2.2.1.toNat : Int), .int .u64 (x.fSize.2.2.2.2.1.toNat : Int), .int .u64 (x.fSize.2.2.2.2.2.1.toNat : Int), .int .u64 (x.fSize.2.2.2.2.2.2.1.toNat : Int), .int .u64 (x.fSize.2.2.2.2.2.2.2.toNat : Int)]
theorem body119 : bodyB Tryz.prog 119 = true := by kernel_rfl
theorem body135 : bodyB Tryz.prog 135 = true := by kernel_rfl
def wide_Number_Told_p (n : Nat) (a0 : TNumber) : Option ((UInt64 × UInt64 × UInt64 × UInt64 × UInt64 × UInt64 × UInt64 × UInt64) × Int) :=
  (wide_Size_order_p n a0.fSize ((0 : UInt64), (0 : UInt64), (0 : UInt64), (0 : UInt64), (0 : UInt64), (0 : UInt64), (0 : UInt64), (9223372036854775808 : UInt64))).bind fun y0 => (if 0 < y0 then some (((0 : UInt64), (0 : UInt64), (0 : UInt64), (0 : UInt64), (0 : UInt64), (0 : UInt64), (0 : UInt64), (0 : UInt64)), (6 : Int)) else (if y0 = 0 then (if a0.fBelow = true then (wide_Size_minus_p n ((0 : UInt64), (0 : UInt64), (0 : UInt64), (0 : UInt64), (0 : UInt64), (0 : UInt64), (0 : UInt64), (0 : UInt64)) a0.fSize).bind fun y1 => some (y1.1, (0 : Int)) else some (((0 : UInt64), (0 : UInt64), (0 : UInt64), (0 : UInt64), (0 : UInt64), (0 : UInt64), (0 : UInt64), (0 : UInt64)), (6 : Int))) else (if a0.fBelow = true then (wide_Size_minus_p n ((0 : UInt64), (0 : UInt64), (0 : UInt64), (0 : UInt64), (0 : UInt64), (0 : UInt64), (0 : UInt64), (0 : UInt64)) a0.fSize).bind fun y2 => some (y2.1, (0 : Int)) else some (a0.fSize, (0 : Int)))))
theorem wide_Number_Told_c (n : Nat) (L : List Nat) (w : World) (hL : ∀ b ∈ L, b < w.heap.size) (a0 : TNumber)  {r : (UInt64 × UInt64 × UInt64 × UInt64 × UInt64 × UInt64 × UInt64 × UInt64) × Int} (h : wide_Number_Told_p n a0 = some r) :
    Calls Tryz.prog 118 #[.agg ((cs_TNumber a0)).toArray] w (Gives w fun _ u => u = .tuple #[.agg ((cs_A36 r.1)).toArray, vI r.2]) := by
 unfold wide_Number_Told_p at h
 have hS0 := St.start w
 refine MX.start Tryz.func118 rfl rfl rfl (fun _ cs0 hb0 => ?_)
 refine MX.sr <| RG.new .plain rfl (Does.box (vs := (cs_TNumber a0)) hS0 rfl rfl) (fun w2 b5 hS3 hT4 => ?_)
 refine RG.new .plain rfl (Does.alloc (zs := [.int .u64 0, .int .u64 0, .int .u64 0, .int .u64 0, .int .u64 0, .int .u64 0, .int .u64 0, .int .u64 0]) hS3 (zB (by kernel_rfl))) (fun w7 b0 hS8 hT9 => ?_)
 refine RG.so rfl <| RG.nil <| MX.sr <| RG.va (FV.buildV (vs := [.int .u64 9223372036854775808]) (u := .agg #[.int .u64 0, .int .u64 0, .int .u64 0, .int .u64 0, .int .u64 0, .int .u64 0, .int .u64 0, .int .u64 9223372036854775808]) (e1 rfl) (fun w9 => by kernel_rfl)) <| RG.new .plain rfl (Does.alloc (zs := [.int .u64 0, .int .u64 0, .int .u64 0, .int .u64 0, .int .u64 0, .int .u64 0, .int .u64 0, .int .u64 0]) hS8 (zB (by kernel_rfl))) (fun w0 b1 hS1 hT0 => ?_)
 refine RG.now .plain (Acts.storeAll (news := [.int .u64 0, .int .u64 0, .int .u64 0, .int .u64 0, .int .u64 0, .int .u64 0, .int .u64 0, .int .u64 9223372036854775808]) hS1 .hd rfl rfl rfl rfl rfl rfl (onesB rfl)) (fun w1 hS2 hT1 => ?_)
 refine RG.nil <| MX.seq <| MX.sr <| RG.fa 1 rfl <| RG.va (FV.loadN (cs := (cs_A36 a0.fSize)) (by kernel_rfl) rfl (mem_part (hS2.memA (.tl (.tl .hd))) 1 8)) <| RG.va (FV.lN rfl (hS2.memA .hd)) ?_
 obtain ⟨y0, hy0, h⟩ := bind_in h
 refine RG.cq (vI y0) body135 rfl (e2 rfl rfl) (fun w9 hw9 => wide_Size_order_c n _ w9 (hS2.hL0 hL hw9) a0.fSize ((0 : UInt64), (0 : UInt64), (0 : UInt64), (0 : UInt64), (0 : UInt64), (0 : UInt64), (0 : UInt64), (9223372036854775808 : UInt64)) hy0) rfl <| RG.so rfl <| RG.nil <| MX.sr <| RG.mo rfl <| RG.va (FV.gtr (i := y0) (j := 0) rfl rfl) ?_
 refine RG.mo rfl <| RG.ifd (s := 13) rfl h (fun c0 h => ?_) (fun c0 h => ?_)
 refine RG.no <| RG.no <| RG.no <| RG.un <| RG.un <| RG.un ?_
 refine RG.no <| RG.pt rfl rfl <| RG.nil <| MX.cond_t rfl <| MX.sr <| RG.va (FV.buildV (vs := []) (u := .agg #[.int .u64 0, .int .u64 0, .int .u64 0, .int .u64 0, .int .u64 0, .int .u64 0, .int .u64 0, .int .u64 0]) evs_nil (fun w9 => by kernel_rfl)) ?_
 refine RG.now .plain (Acts.storeAll (news := [.int .u64 0, .int .u64 0, .int .u64 0, .int .u64 0, .int .u64 0, .int .u64 0, .int .u64 0, .int .u64 0]) hS2 (.tl .hd) rfl rfl rfl rfl rfl rfl (onesB rfl)) (fun w3 hS4 hT2 => ?_)
 refine RG.so rfl <| RG.nil <| MX.ret rfl <| RT.leave hb0 Tryz.func118 rfl (.cons (.many (cs := [.int .u64 0, .int .u64 0, .int .u64 0, .int .u64 0, .int .u64 0, .int .u64 0, .int .u64 0, .int .u64 0]) (by kernel_rfl) rfl (hS4.memA (.tl .hd))) (.cons (.tmp rfl) .nil)) rfl ?_
 cases h
 exact hS4.gv
 refine RG.ga (FV.move rfl) <| RG.ga (FV.eql (i := y0) (j := 0) rfl rfl) <| RG.ga (FV.move rfl) <| RG.ifd (s := 16) rfl h (fun c1 h => ?_) (fun c1 h => ?_)
 refine RG.fg 0 rfl <| RG.ga (FV.l1 rfl ((hS2.memA (.tl (.tl .hd))) 0 _ rfl)) <| RG.ga (FV.not rfl) <| RG.ga (FV.pick_t rfl rfl) <| RG.pf rfl rfl <| RG.nil ?_
 refine MX.ifnb rfl h (fun c2 h => ?_) (fun c2 h => ?_)
 refine MX.skip <| MX.seq <| MX.sr <| RG.fa 0 rfl <| RG.l1 rfl ((hS2.memA (.tl (.tl .hd))) 0 _ rfl) <| RG.nil ?_
 refine MX.cond_kt rfl c2 <| MX.region <| RG.va (FV.buildV (vs := []) (u := .agg #[.int .u64 0, .int .u64 0, .int .u64 0, .int .u64 0, .int .u64 0, .int .u64 0, .int .u64 0, .int .u64 0]) evs_nil (fun w9 => by kernel_rfl)) <| RG.fa 1 rfl <| RG.va (FV.loadN (cs := (cs_A36 a0.fSize)) (by kernel_rfl) rfl (mem_part (hS2.memA (.tl (.tl .hd))) 1 8)) ?_
 obtain ⟨y1, hy1, h⟩ := bind_in h
 refine RG.cq (.tuple #[.agg ((cs_A36 y1.1)).toArray, .int .u64 (y1.2.toNat : Int)]) body119 rfl (e2 rfl rfl) (fun w9 hw9 => wide_Size_minus_c n _ w9 (hS2.hL0 hL hw9) ((0 : UInt64), (0 : UInt64), (0 : UInt64), (0 : UInt64), (0 : UInt64), (0 : UInt64), (0 : UInt64), (0 : UInt64)) a0.fSize hy1) rfl <| RG.mo rfl <| RG.va (FV.extract rfl rfl) <| RG.va (FV.extract rfl rfl) <| RG.fa 1 rfl <| RG.now .plain (Acts.store (j := 1) (old := (cs_TNumber a0)) (news := (cs_A36 y1.1)) (new' := (([.bool a0.fBelow] : List Value) ++ cs_A36 y1.1)) hS2 (.tl (.tl .hd)) rfl rfl rfl rfl rfl rfl (onesB rfl) rfl) (fun w4 hS5 hT3 => ?_)
 refine RG.nil <| MX.sr <| RG.fa 1 rfl <| RG.va (FV.loadN (cs := (cs_A36 y1.1)) (by kernel_rfl) rfl (mem_part (hS5.memA (.tl (.tl .hd))) 1 8)) <| RG.now .plain (Acts.storeAll (news := (cs_A36 y1.1)) hS5 (.tl .hd) rfl rfl rfl rfl rfl rfl (onesB rfl)) (fun w5 hS6 hT5 => ?_)
 refine RG.so rfl <| RG.nil <| MX.ret rfl <| RT.leave hb0 Tryz.func118 rfl (.cons (.many (cs := (cs_A36 y1.1)) (by kernel_rfl) rfl (hS6.memA (.tl .hd))) (.cons (.tmp rfl) .nil)) rfl ?_
 cases h
 exact hS6.gv
 refine MX.sr <| RG.va (FV.buildV (vs := []) (u := .agg #[.int .u64 0, .int .u64 0, .int .u64 0, .int .u64 0, .int .u64 0, .int .u64 0, .int .u64 0, .int .u64 0]) evs_nil (fun w9 => by kernel_rfl)) <| RG.now .plain (Acts.storeAll (news := [.int .u64 0, .int .u64 0, .int .u64 0, .int .u64 0, .int .u64 0, .int .u64 0, .int .u64 0, .int .u64 0]) hS2 (.tl .hd) rfl rfl rfl rfl rfl rfl (onesB rfl)) (fun w6 hS7 hT6 => ?_)
 refine RG.so rfl <| RG.nil <| MX.ret rfl <| RT.leave hb0 Tryz.func118 rfl (.cons (.many (cs := [.int .u64 0, .int .u64 0, .int .u64 0, .int .u64 0, .int .u64 0, .int .u64 0, .int .u64 0, .int .u64 0]) (by kernel_rfl) rfl (hS7.memA (.tl .hd))) (.cons (.tmp rfl) .nil)) rfl ?_
 cases h
 exact hS7.gv
 refine RG.no <| RG.no <| RG.no <| RG.ga (FV.pick_f rfl rfl) <| RG.pf rfl rfl <| RG.nil ?_
 refine MX.cond_f rfl <| MX.skip <| MX.seq <| MX.sr <| RG.fa 0 rfl <| RG.l1 rfl ((hS2.memA (.tl (.tl .hd))) 0 _ rfl) ?_
 refine RG.nil <| MX.ifb rfl h (fun c3 h => ?_) (fun c3 h => ?_)
 refine MX.region <| RG.va (FV.buildV (vs := []) (u := .agg #[.int .u64 0, .int .u64 0, .int .u64 0, .int .u64 0, .int .u64 0, .int .u64 0, .int .u64 0, .int .u64 0]) evs_nil (fun w9 => by kernel_rfl)) <| RG.fa 1 rfl <| RG.va (FV.loadN (cs := (cs_A36 a0.fSize)) (by kernel_rfl) rfl (mem_part (hS2.memA (.tl (.tl .hd))) 1 8)) ?_
 obtain ⟨y2, hy2, h⟩ := bind_in h
 refine RG.cq (.tuple #[.agg ((cs_A36 y2.1)).toArray, .int .u64 (y2.2.toNat : Int)]) body119 rfl (e2 rfl rfl) (fun w9 hw9 => wide_Size_minus_c n _ w9 (hS2.hL0 hL hw9) ((0 : UInt64), (0 : UInt64), (0 : UInt64), (0 : UInt64), (0 : UInt64), (0 : UInt64), (0 : UInt64), (0 : UInt64)) a0.fSize hy2) rfl <| RG.mo rfl <| RG.va (FV.extract rfl rfl) <| RG.va (FV.extract rfl rfl) <| RG.fa 1 rfl <| RG.now .plain (Acts.store (j := 1) (old := (cs_TNumber a0)) (news := (cs_A36 y2.1)) (new' := (([.bool a0.fBelow] : List Value) ++ cs_A36 y2.1)) hS2 (.tl (.tl .hd)) rfl rfl rfl rfl rfl rfl (onesB rfl) rfl) (fun w8 hS9 hT7 => ?_)
 refine RG.nil <| MX.sr <| RG.fa 1 rfl <| RG.va (FV.loadN (cs := (cs_A36 y2.1)) (by kernel_rfl) rfl (mem_part (hS9.memA (.tl (.tl .hd))) 1 8)) <| RG.now .plain (Acts.storeAll (news := (cs_A36 y2.1)) hS9 (.tl .hd) rfl rfl rfl rfl rfl rfl (onesB rfl)) (fun w41 hS42 hT8 => ?_)
 refine RG.so rfl <| RG.nil <| MX.ret rfl <| RT.leave hb0 Tryz.func118 rfl (.cons (.many (cs := (cs_A36 y2.1)) (by kernel_rfl) rfl (hS42.memA (.tl .hd))) (.cons (.tmp rfl) .nil)) rfl ?_
 cases h
 exact hS42.gv
 refine MX.skip <| MX.sr <| RG.fa 1 rfl <| RG.va (FV.loadN (cs := (cs_A36 a0.fSize)) (by kernel_rfl) rfl (mem_part (hS2.memA (.tl (.tl .hd))) 1 8)) <| RG.now .plain (Acts.storeAll (news := (cs_A36 a0.fSize)) hS2 (.tl .hd) rfl rfl rfl rfl rfl rfl (onesB rfl)) (fun w44 hS45 hT46 => ?_)
 refine RG.so rfl <| RG.nil <| MX.ret rfl <| RT.leave hb0 Tryz.func118 rfl (.cons (.many (cs := (cs_A36 a0.fSize)) (by kernel_rfl) rfl (hS45.memA (.tl .hd))) (.cons (.tmp rfl) .nil)) rfl ?_
 cases h
 exact hS45.gv
structure TLong where
  fBelow : Bool
  fWords : List UInt64
  deriving DecidableEq
instance : Rep TLong := Rep.via (β := Bool × (List UInt64)) fun x => (x.fBelow, x.fWords)
def tb100_4 : List (Nat × Nat × Nat) := [(0, 8192, 16), (1, 16384, 8192), (0, 32768, 2), (4, 65536, 32768), (10, 131072, 81920)]
theorem body118 : bodyB Tryz.prog 118 = true := by kernel_rfl
def wide_Long_Told_p (n : Nat) (a0 : TLong) : Option ((UInt64 × UInt64 × UInt64 × UInt64 × UInt64 × UInt64 × UInt64 × UInt64) × Int) :=
  (if 8 < a0.fWords.length then some (((0 : UInt64), (0 : UInt64), (0 : UInt64), (0 : UInt64), (0 : UInt64), (0 : UInt64), (0 : UInt64), (0 : UInt64)), (6 : Int)) else (wide_Number_Told_p n (⟨a0.fBelow, (getA a0.fWords 0 (0 : UInt64), getA a0.fWords 1 (0 : UInt64), getA a0.fWords 2 (0 : UInt64), getA a0.fWords 3 (0 : UInt64), getA a0.fWords 4 (0 : UInt64), getA a0.fWords 5 (0 : UInt64), getA a0.fWords 6 (0 : UInt64), getA a0.fWords 7 (0 : UInt64))⟩ : TNumber)).bind fun y0 => some (y0.1, y0.2))
theorem wide_Long_Told_c (n : Nat) (L : List Nat) (w : World) (hL : ∀ b ∈ L, b < w.heap.size) (a0 : TLong) {v0_1 : Value} (h0_1 : Rep.R w L [v0_1] a0.fWords)  {r : (UInt64 × UInt64 × UInt64 × UInt64 × UInt64 × UInt64 × UInt64 × UInt64) × Int} (h : wide_Long_Told_p n a0 = some r) :
    Calls Tryz.prog 100 #[.agg #[.bool a0.fBelow, v0_1]] w (Gives w fun _ u => u = .tuple #[.agg ((cs_A36 r.1)).toArray, vI r.2]) := by
 unfold wide_Long_Told_p at h
 have hS0 := St.start w
 refine MX.start Tryz.func100 rfl rfl rfl (fun _ cs0 hb0 => ?_)
 refine MX.sr <| RG.new .plain rfl (Does.box (vs := [.bool a0.fBelow, v0_1]) hS0 rfl rfl) (fun w2 b5 hS3 hT4 => ?_)
 refine RG.new .plain rfl (Does.alloc (zs := [.int .u64 0, .int .u64 0, .int .u64 0, .int .u64 0, .int .u64 0, .int .u64 0, .int .u64 0, .int .u64 0]) hS3 (zB (by kernel_rfl))) (fun w7 b0 hS8 hT9 => ?_)
 refine RG.so rfl <| RG.nil <| MX.seq <| MX.sr <| RG.fa 1 rfl <| RG.l1 rfl ((hS8.memA (.tl .hd)) 1 _ rfl) ?_
 have hm0 := Rep.mv0 h0_1 hS8
 have hl11 : a0.fWords.length ≤ 281474976710656 := Rep.lenle hm0
 refine RG.va (FV.len (xs := a0.fWords) Tryz.underlying98 rfl hm0) <| RG.va (FV.gtrN (i := a0.fWords.length) (j := 8) rfl rfl) <| RG.nil <| MX.ifd rfl h (fun c0 h => ?_) (fun c0 h => ?_)
 refine MX.sr <| RG.va (FV.buildV (vs := []) (u := .agg #[.int .u64 0, .int .u64 0, .int .u64 0, .int .u64 0, .int .u64 0, .int .u64 0, .int .u64 0, .int .u64 0]) evs_nil (fun w9 => by kernel_rfl)) <| RG.now .plain (Acts.storeAll (news := [.int .u64 0, .int .u64 0, .int .u64 0, .int .u64 0, .int .u64 0, .int .u64 0, .int .u64 0, .int .u64 0]) hS8 .hd rfl rfl rfl rfl rfl rfl (onesB rfl)) (fun w0 hS1 hT0 => ?_)
 refine RG.so rfl <| RG.nil <| MX.ret rfl <| RT.leave hb0 Tryz.func100 rfl (.cons (.many (cs := [.int .u64 0, .int .u64 0, .int .u64 0, .int .u64 0, .int .u64 0, .int .u64 0, .int .u64 0, .int .u64 0]) (by kernel_rfl) rfl (hS1.memA .hd)) (.cons (.tmp rfl) .nil)) rfl ?_
 cases h
 exact hS1.gv
 refine MX.skip <| MX.sr <| RG.fa 0 rfl <| RG.l1 rfl ((hS8.memA (.tl .hd)) 0 _ rfl) <| RG.va (FV.buildV (vs := [.bool a0.fBelow]) (u := .agg #[.bool a0.fBelow, .int .u64 0, .int .u64 0, .int .u64 0, .int .u64 0, .int .u64 0, .int .u64 0, .int .u64 0, .int .u64 0]) (e1 rfl) (fun w9 => by kernel_rfl)) <| RG.new .plain rfl (Does.alloc (zs := [.bool false, .int .u64 0, .int .u64 0, .int .u64 0, .int .u64 0, .int .u64 0, .int .u64 0, .int .u64 0, .int .u64 0]) hS8 (zB (by kernel_rfl))) (fun w1 b1 hS2 hT1 => ?_)
 refine RG.now .plain (Acts.storeAll (news := [.bool a0.fBelow, .int .u64 0, .int .u64 0, .int .u64 0, .int .u64 0, .int .u64 0, .int .u64 0, .int .u64 0, .int .u64 0]) hS2 .hd rfl rfl rfl rfl rfl rfl (onesB rfl)) (fun w3 hS4 hT2 => ?_)
 refine RG.nil <| MX.seq <| MX.drawT 4 tb100_4 (by kernel_rfl) (by kernel_rfl) (by kernel_rfl) (fun kt0 kp0 => ?_)
 refine RD.vw 0 1 kt0 rfl kp0 (fun _ => FV.fa 1 rfl) rfl <| RD.vx 1 3 16 kt0 rfl kp0 (FV.sliceA (len := 8) (m := 1) (p := Addr.add ⟨b1, 0, none⟩ 1) (by kernel_rfl) rfl) rfl <| RD.vw 2 7 kt0 rfl kp0 (fun _ => FV.fa 1 rfl) rfl <| RD.vx 3 15 16 kt0 rfl kp0 (FV.l1 rfl ((hS4.memA (.tl (.tl .hd))) 1 _ rfl)) rfl ?_
 have hm1 := Rep.mv0 h0_1 hS4
 refine RD.one (i := 4) (readyD_ok kt0 (by kernel_rfl)) (RO.doesL (m' := 31) (stepC_ok kt0 (by kernel_rfl)) rfl rfl .plain rfl (DoesL.copyArr (fun z9 : UInt64 => (.int .u64 (z9.toNat : Int) : Value)) (olds := ([(0 : UInt64), (0 : UInt64), (0 : UInt64), (0 : UInt64), (0 : UInt64), (0 : UInt64), (0 : UInt64), (0 : UInt64)] : List UInt64)) (ys := a0.fWords) (pre := [.bool a0.fBelow]) (post := []) (old := [.bool a0.fBelow, .int .u64 0, .int .u64 0, .int .u64 0, .int .u64 0, .int .u64 0, .int .u64 0, .int .u64 0, .int .u64 0]) (new' := [.bool a0.fBelow, .int .u64 ((getA a0.fWords 0 (0 : UInt64)).toNat : Int), .int .u64 ((getA a0.fWords 1 (0 : UInt64)).toNat : Int), .int .u64 ((getA a0.fWords 2 (0 : UInt64)).toNat : Int), .int .u64 ((getA a0.fWords 3 (0 : UInt64)).toNat : Int), .int .u64 ((getA a0.fWords 4 (0 : UInt64)).toNat : Int), .int .u64 ((getA a0.fWords 5 (0 : UInt64)).toNat : Int), .int .u64 ((getA a0.fWords 6 (0 : UInt64)).toNat : Int), .int .u64 ((getA a0.fWords 7 (0 : UInt64)).toNat : Int)]) rfl (fun _ _ _ _ h9 => h9) hS4 .hd (by kernel_rfl) rfl rfl rfl rfl rfl rfl rfl (Src.rep hm1)) (fun u0 w4 ⟨hu0, hS5, hT3⟩ => ?_))
 subst hu0
 refine RD.done (doneD_ok kt0 (by kernel_rfl)) <| MX.sr <| RG.va (FV.lN rfl (hS5.memA .hd)) ?_
 obtain ⟨y0, hy0, h⟩ := bind_in h
 refine RG.cq (.tuple #[.agg ((cs_A36 y0.1)).toArray, vI y0.2]) body118 rfl (e1 rfl) (fun w9 hw9 => wide_Number_Told_c n _ w9 (hS5.hL0 hL hw9) (⟨a0.fBelow, (getA a0.fWords 0 (0 : UInt64), getA a0.fWords 1 (0 : UInt64), getA a0.fWords 2 (0 : UInt64), getA a0.fWords 3 (0 : UInt64), getA a0.fWords 4 (0 : UInt64), getA a0.fWords 5 (0 : UInt64), getA a0.fWords 6 (0 : UInt64), getA a0.fWords 7 (0 : UInt64))⟩ : TNumber) hy0) rfl <| RG.va (FV.extract rfl rfl) <| RG.va (FV.extract rfl rfl) <| RG.now .plain (Acts.storeAll (news := (cs_A36 y0.1)) hS5 (.tl .hd) rfl rfl rfl rfl rfl rfl (onesB rfl)) (fun w5 hS6 hT5 => ?_)
 refine RG.so rfl <| RG.nil <| MX.ret rfl <| RT.leave hb0 Tryz.func100 rfl (.cons (.many (cs := (cs_A36 y0.1)) (by kernel_rfl) rfl (hS6.memA (.tl .hd))) (.cons (.tmp rfl) .nil)) rfl ?_
 cases h
 exact hS6.gv
structure TRatio where
  fLong : TLong
  fUnder : TLong
  deriving DecidableEq
instance : Rep TRatio := Rep.via (β := TLong × TLong) fun x => (x.fLong, x.fUnder)
theorem body100 : bodyB Tryz.prog 100 = true := by kernel_rfl
def share_Ratio_Told_p (n : Nat) (a0 : TRatio) : Option (TShare × Int) :=
  (wide_Long_Told_p n a0.fLong).bind fun y0 => (wide_Long_Told_p n a0.fUnder).bind fun y1 => (if y0.2 = 0 then (if y1.2 = 0 then some ((⟨y0.1, y1.1⟩ : TShare), (0 : Int)) else some ((⟨((0 : UInt64), (0 : UInt64), (0 : UInt64), (0 : UInt64), (0 : UInt64), (0 : UInt64), (0 : UInt64), (0 : UInt64)), ((0 : UInt64), (0 : UInt64), (0 : UInt64), (0 : UInt64), (0 : UInt64), (0 : UInt64), (0 : UInt64), (0 : UInt64))⟩ : TShare), (6 : Int))) else some ((⟨((0 : UInt64), (0 : UInt64), (0 : UInt64), (0 : UInt64), (0 : UInt64), (0 : UInt64), (0 : UInt64), (0 : UInt64)), ((0 : UInt64), (0 : UInt64), (0 : UInt64), (0 : UInt64), (0 : UInt64), (0 : UInt64), (0 : UInt64), (0 : UInt64))⟩ : TShare), (6 : Int)))
theorem share_Ratio_Told_c (n : Nat) (L : List Nat) (w : World) (hL : ∀ b ∈ L, b < w.heap.size) (a0 : TRatio) {v0_1 : Value} (h0_1 : Rep.R w L [v0_1] a0.fLong.fWords) {v0_3 : Value} (h0_3 : Rep.R w L [v0_3] a0.fUnder.fWords)  {r : TShare × Int} (h : share_Ratio_Told_p n a0 = some r) :
    Calls Tryz.prog 79 #[.agg #[.bool a0.fLong.fBelow, v0_1, .bool a0.fUnder.fBelow, v0_3]] w (Gives w fun _ u => u = .tuple #[.agg ((cs_TShare r.1)).toArray, vI r.2]) := by
 unfold share_Ratio_Told_p at h
 have hS0 := St.start w
 refine MX.start Tryz.func79 rfl rfl rfl (fun _ cs0 hb0 => ?_)
 refine MX.sr <| RG.new .plain rfl (Does.box (vs := [.bool a0.fLong.fBelow, v0_1, .bool a0.fUnder.fBelow, v0_3]) hS0 rfl rfl) (fun w2 b5 hS3 hT4 => ?_)
 refine RG.new .plain rfl (Does.alloc (zs := [.int .u64 0, .int .u64 0, .int .u64 0, .int .u64 0, .int .u64 0, .int .u64 0, .int .u64 0, .int .u64 0, .int .u64 0, .int .u64 0, .int .u64 0, .int .u64 0, .int .u64 0, .int .u64 0, .int .u64 0, .int .u64 0]) hS3 (zB (by kernel_rfl))) (fun w7 b0 hS8 hT9 => ?_)
 refine RG.so rfl <| RG.nil <| MX.sr <| RG.fa 0 rfl <| RG.va (FV.loadN (cs := [.bool a0.fLong.fBelow, v0_1]) (by kernel_rfl) rfl (mem_part (hS8.memA (.tl .hd)) 0 2)) ?_
 obtain ⟨y0, hy0, h⟩ := bind_in h
 refine RG.cq (.tuple #[.agg ((cs_A36 y0.1)).toArray, vI y0.2]) body100 rfl (e1 rfl) (fun w9 hw9 => wide_Long_Told_c n _ w9 (hS8.hL0 hL hw9) a0.fLong (hS8.k0 h0_1 hw9) hy0) rfl <| RG.mo rfl <| RG.va (FV.extract rfl rfl) <| RG.va (FV.extract rfl rfl) <| RG.new .plain rfl (Does.alloc (zs := [.int .u64 0, .int .u64 0, .int .u64 0, .int .u64 0, .int .u64 0, .int .u64 0, .int .u64 0, .int .u64 0]) hS8 (zB (by kernel_rfl))) (fun w0 b1 hS1 hT0 => ?_)
 refine RG.now .plain (Acts.storeAll (news := (cs_A36 y0.1)) hS1 .hd rfl rfl rfl rfl rfl rfl (onesB rfl)) (fun w1 hS2 hT1 => ?_)
 refine RG.so rfl <| RG.nil <| MX.sr <| RG.fa 2 rfl <| RG.va (FV.loadN (cs := [.bool a0.fUnder.fBelow, v0_3]) (by kernel_rfl) rfl (mem_part (hS2.memA (.tl (.tl .hd))) 2 2)) ?_
 obtain ⟨y1, hy1, h⟩ := bind_in h
 refine RG.cq (.tuple #[.agg ((cs_A36 y1.1)).toArray, vI y1.2]) body100 rfl (e1 rfl) (fun w9 hw9 => wide_Long_Told_c n _ w9 (hS2.hL0 hL hw9) a0.fUnder (hS2.k0 h0_3 hw9) hy1) rfl <| RG.mo rfl <| RG.va (FV.extract rfl rfl) <| RG.va (FV.extract rfl rfl) <| RG.new .plain rfl (Does.alloc (zs := [.int .u64 0, .int .u64 0, .int .u64 0, .int .u64 0, .int .u64 0, .int .u64 0, .int .u64 0, .int .u64 0]) hS2 (zB (by kernel_rfl))) (fun w3 b2 hS4 hT2 => ?_)
 refine RG.now .plain (Acts.storeAll (news := (cs_A36 y1.1)) hS4 .hd rfl rfl rfl rfl rfl rfl (onesB rfl)) (fun w4 hS5 hT3 => ?_)
 refine RG.so rfl <| RG.nil <| MX.seq <| MX.sr <| RG.mo rfl <| RG.va (FV.neq (i := y0.2) (j := 0) rfl rfl) ?_
 refine RG.mo rfl <| RG.ifn (s := 22) rfl h (fun c0 h => ?_) (fun c0 h => ?_)
 refine RG.ga (FV.move rfl) <| RG.ga (FV.neq (i := y1.2) (j := 0) rfl rfl) <| RG.pf rfl rfl <| RG.nil <| MX.ifn rfl h (fun c1 h => ?_) (fun c1 h => ?_)
 refine MX.skip <| MX.sr <| RG.va (FV.lN rfl (hS5.memA (.tl .hd))) <| RG.va (FV.lN rfl (hS5.memA .hd)) <| RG.va (FV.buildV (vs := [.agg ((cs_A36 y0.1)).toArray, .agg ((cs_A36 y1.1)).toArray]) (u := .agg ((cs_A36 y0.1 ++ cs_A36 y1.1)).toArray) (e2 rfl rfl) (fun w9 => by kernel_rfl)) <| RG.now .plain (Acts.storeAll (news := (cs_A36 y0.1 ++ cs_A36 y1.1)) hS5 (.tl (.tl .hd)) rfl rfl rfl rfl rfl rfl (onesB rfl)) (fun w5 hS6 hT5 => ?_)
 refine RG.so rfl <| RG.nil <| MX.ret rfl <| RT.leave hb0 Tryz.func79 rfl (.cons (.many (cs := (cs_A36 y0.1 ++ cs_A36 y1.1)) (by kernel_rfl) rfl (hS6.memA (.tl (.tl .hd)))) (.cons (.tmp rfl) .nil)) rfl ?_
 cases h
 exact hS6.gv
 refine MX.sr <| RG.va (FV.buildV (vs := []) (u := .agg #[.int .u64 0, .int .u64 0, .int .u64 0, .int .u64 0, .int .u64 0, .int .u64 0, .int .u64 0, .int .u64 0, .int .u64 0, .int .u64 0, .int .u64 0, .int .u64 0, .int .u64 0, .int .u64 0, .int .u64 0, .int .u64 0]) evs_nil (fun w9 => by kernel_rfl)) <| RG.now .plain (Acts.storeAll (news := [.int .u64 0, .int .u64 0, .int .u64 0, .int .u64 0, .int .u64 0, .int .u64 0, .int .u64 0, .int .u64 0, .int .u64 0, .int .u64 0, .int .u64 0, .int .u64 0, .int .u64 0, .int .u64 0, .int .u64 0, .int .u64 0]) hS5 (.tl (.tl .hd)) rfl rfl rfl rfl rfl rfl (onesB rfl)) (fun w6 hS7 hT6 => ?_)
 refine RG.so rfl <| RG.nil <| MX.ret rfl <| RT.leave hb0 Tryz.func79 rfl (.cons (.many (cs := [.int .u64 0, .int .u64 0, .int .u64 0, .int .u64 0, .int .u64 0, .int .u64 0, .int .u64 0, .int .u64 0, .int .u64 0, .int .u64 0, .int .u64 0, .int .u64 0, .int .u64 0, .int .u64 0, .int .u64 0, .int .u64 0]) (by kernel_rfl) rfl (hS7.memA (.tl (.tl .hd)))) (.cons (.tmp rfl) .nil)) rfl ?_
 cases h
 exact hS7.gv
 refine RG.no <| RG.no <| RG.pt rfl rfl <| RG.nil <| MX.cond_t rfl <| MX.sr ?_
 refine RG.va (FV.buildV (vs := []) (u := .agg #[.int .u64 0, .int .u64 0, .int .u64 0, .int .u64 0, .int .u64 0, .int .u64 0, .int .u64 0, .int .u64 0, .int .u64 0, .int .u64 0, .int .u64 0, .int .u64 0, .int .u64 0, .int .u64 0, .int .u64 0, .int .u64 0]) evs_nil (fun w9 => by kernel_rfl)) <| RG.now .plain (Acts.storeAll (news := [.int .u64 0, .int .u64 0, .int .u64 0, .int .u64 0, .int .u64 0, .int .u64 0, .int .u64 0, .int .u64 0, .int .u64 0, .int .u64 0, .int .u64 0, .int .u64 0, .int .u64 0, .int .u64 0, .int .u64 0, .int .u64 0]) hS5 (.tl (.tl .hd)) rfl rfl rfl rfl rfl rfl (onesB rfl)) (fun w8 hS9 hT7 => ?_)
 refine RG.so rfl <| RG.nil <| MX.ret rfl <| RT.leave hb0 Tryz.func79 rfl (.cons (.many (cs := [.int .u64 0, .int .u64 0, .int .u64 0, .int .u64 0, .int .u64 0, .int .u64 0, .int .u64 0, .int .u64 0, .int .u64 0, .int .u64 0, .int .u64 0, .int .u64 0, .int .u64 0, .int .u64 0, .int .u64 0, .int .u64 0]) (by kernel_rfl) rfl (hS9.memA (.tl (.tl .hd)))) (.cons (.tmp rfl) .nil)) rfl ?_
 cases h
 exact hS9.gv
def wide_trimmed_l1 (_n : Nat) (a1 : List UInt64) (J0 : Int → Option Int) : Int → Option Int
  | z0 => (if 0 < z0 then (chk (z0 - 1)).bind fun s0 => (idx a1 s0).bind fun x0 => (if x0 = (0 : UInt64) then (chk (z0 - 1)).bind fun s1 => J0 s1 else some z0) else some z0)
def wide_trimmed_p (n : Nat) (a0 : Bool) (a1 : List UInt64) : Option TLong :=
  jn (fun z0 => (if a0 = true then (cut a1 0 z0).bind fun xs0 => some (⟨(decide (0 < z0)), xs0⟩ : TLong) else (cut a1 0 z0).bind fun xs1 => some (⟨false, xs1⟩ : TLong))) (fun J0 => Option.bind (loopF (wide_trimmed_l1 n a1) n ((a1.length : Nat) : Int)) (J0))
theorem wide_trimmed_c (n : Nat) (L : List Nat) (w : World) (_hL : ∀ b ∈ L, b < w.heap.size) (a0 : Bool) (a1 : List UInt64) {v1_0 : Value} (h1_0 : Rep.R w L [v1_0] a1)  {r : TLong} (h : wide_trimmed_p n a0 a1 = some r) :
    Calls Tryz.prog 103 #[.bool a0, v1_0] w (Gives w fun w' u => ∃ v0_1 : Value, u = .agg #[.bool r.fBelow, v0_1] ∧ Rep.R w' L [v0_1] r.fWords) := by
 unfold wide_trimmed_p at h
 have hS0 := St.start w
 refine MX.start Tryz.func103 rfl rfl rfl (fun _ cs0 hb0 => ?_)
 refine MX.sr <| RG.new .plain rfl (Does.alloc (zs := [.bool false, vN]) hS0 (zB (by kernel_rfl))) (fun w2 b5 hS3 hT4 => ?_)
 refine RG.nil <| MX.sr <| RG.mo rfl ?_
 have hm7 := Rep.mv0 h1_0 hS3
 have hl6 : a1.length ≤ 281474976710656 := Rep.lenle hm7
 refine RG.va (FV.len (xs := a1) Tryz.underlying98 rfl hm7) <| RG.so rfl <| RG.nil <| MX.seq <| MX.block <| MX.joinx (α := Int) (fun z0 => [(0, .bool a0), (1, v1_0), (4, vP b5), (5, vI z0)]) (fun z0 wx0 => St w wx0 [.cells b5 [.bool false, vN] 100] ∧ Tr w2 [.cells b5 [.bool false, vN] 100] wx0 [.cells b5 [.bool false, vN] 100]) (fun z0 => z0) (id := 0) rfl h ?_ ?_
 rintro z0 wx0 ⟨hS1, hT0⟩ h
 try dsimp only at h
 refine MX.sr <| RG.mo rfl <| RG.mo rfl <| RG.ifb (s := 21) rfl h (fun c0 h => ?_) (fun c0 h => ?_)
 refine RG.ga (FV.move rfl) <| RG.ga (FV.gtr (i := z0) (j := 0) rfl rfl) <| RG.pt rfl rfl <| RG.mo rfl <| RG.mo rfl ?_
 obtain ⟨xs0, hxs121, h⟩ := bind_in h
 have hm0 := Rep.mv0 h1_0 hS1
 refine RG.valE .plain rfl (FV.cutL (α := UInt64) hxs121 (by kernel_rfl) rfl hm0 rfl ⟨_, rfl⟩) (fun v0 hr0 => ?_)
 obtain ⟨A125, c1, hv127, _⟩ := Rep.sl hr0
 refine RG.va (FV.buildV (vs := [.bool (decide (0 < z0)), v0]) (u := .agg #[.bool (decide (0 < z0)), v0]) (e2 rfl rfl) (fun w9 => by rw [hv127]; try kernel_rfl)) <| RG.now .plain (Acts.storeAll (news := [.bool (decide (0 < z0)), v0]) hS1 .hd rfl rfl rfl rfl rfl rfl (o2 rfl (Rep.o1 hr0))) (fun w0 hS2 hT1 => ?_)
 refine RG.nil <| MX.ret rfl <| RT.leave hb0 Tryz.func103 rfl (.cons (.many (cs := [.bool (decide (0 < z0)), v0]) (by kernel_rfl) rfl (hS2.memA .hd)) .nil) rfl ?_
 cases h
 have hm1 := Rep.mv hr0 hT1
 exact ⟨hS2.ag, fun w9 hw9 => ⟨v0, rfl, hS2.kd hm1 hw9⟩⟩
 refine RG.no <| RG.no <| RG.pf rfl rfl <| RG.mo rfl <| RG.mo rfl ?_
 obtain ⟨xs1, hxs132, h⟩ := bind_in h
 have hm2 := Rep.mv0 h1_0 hS1
 refine RG.valE .plain rfl (FV.cutL (α := UInt64) hxs132 (by kernel_rfl) rfl hm2 rfl ⟨_, rfl⟩) (fun v1 hr1 => ?_)
 obtain ⟨A136, c2, hv138, _⟩ := Rep.sl hr1
 refine RG.va (FV.buildV (vs := [.bool false, v1]) (u := .agg #[.bool false, v1]) (e2 rfl rfl) (fun w9 => by rw [hv138]; try kernel_rfl)) <| RG.now .plain (Acts.storeAll (news := [.bool false, v1]) hS1 .hd rfl rfl rfl rfl rfl rfl (o2 rfl (Rep.o1 hr1))) (fun w1 hS4 hT2 => ?_)
 refine RG.nil <| MX.ret rfl <| RT.leave hb0 Tryz.func103 rfl (.cons (.many (cs := [.bool false, v1]) (by kernel_rfl) rfl (hS4.memA .hd)) .nil) rfl ?_
 cases h
 have hm3 := Rep.mv hr1 hT2
 exact ⟨hS4.ag, fun w9 hw9 => ⟨v1, rfl, hS4.kd hm3 hw9⟩⟩
 intro J0 hJ119 h
 try dsimp only at h
 obtain ⟨o0, ho188, hh190⟩ := bind_in2 h
 refine MX.loop (α := Int) (fun z1 => [(0, .bool a0), (1, v1_0), (4, vP b5), (5, vI z1)]) (fun z1 wx1 => St w wx1 [.cells b5 [.bool false, vN] 100] ∧ Tr w2 [.cells b5 [.bool false, vN] 100] wx1 [.cells b5 [.bool false, vN] 100]) (fun z1 => z1) ((a1.length : Nat) : Int) ho188 ⟨rfl, rfl, rfl, rfl, trivial⟩ ⟨hS3, Tr.refl _ _⟩ ?_
 rintro J1 z1 wx1 hJ192 ⟨hS5, hT3⟩ h
 unfold wide_trimmed_l1 at h
 try dsimp only at h
 refine MX.seq <| MX.sr <| RG.mo rfl <| RG.va (FV.gtr (i := z1) (j := 0) rfl rfl) <| RG.mo rfl <| RG.ifd (s := 10) rfl h (fun c3 h => ?_) (fun c3 h => ?_)
 refine RG.ga (FV.move rfl) <| RG.ga (FV.move rfl) ?_
 obtain ⟨s0, hs0, h⟩ := bind_in h
 refine RG.ga (FV.subc (i := z1) (j := 1) rfl rfl hs0) ?_
 obtain ⟨x0, hx0, h⟩ := bind_in h
 obtain ⟨hi0, hx1⟩ := idx_in hx0
 have hm4 := Rep.mv0 h1_0 hS5
 obtain ⟨A198, c4, he0, hk0, cs1, hr2, hm5⟩ := Rep.nth hm4 hx1
 have he1 : cs1 = [.int .u64 (x0.toNat : Int)] := hr2; subst he1
 refine RG.ga (FV.ia 1 (s0.toNat) rfl he0 rfl hi0 hk0) <| RG.ga (FV.l1 rfl (hm5 0 _ rfl)) <| RG.ga (FV.eqlU (a := x0) (b := (0 : UInt64)) rfl rfl) <| RG.pt rfl rfl <| RG.nil <| MX.ifd rfl h (fun c5 h => ?_) (fun c5 h => ?_)
 refine MX.skip <| MX.block <| MX.region <| RG.mo rfl ?_
 obtain ⟨s1, hs1, h⟩ := bind_in h
 refine RG.va (FV.subc (i := z1) (j := 1) rfl rfl hs1) <| RG.so rfl <| RG.nil <| MX.inBlock ?_
 exact hJ192 s1 _ _ ⟨rfl, rfl, rfl, rfl, trivial⟩ ⟨hS5, hT3⟩ h
 refine MX.exit rfl ?_
 have h := hh190 _ h
 try dsimp only at h
 exact hJ119 z1 _ _ ⟨rfl, rfl, rfl, rfl, trivial⟩ ⟨hS5, hT3⟩ h
 refine RG.no <| RG.no <| RG.no <| RG.no <| RG.no <| RG.no ?_
 refine RG.pf rfl rfl <| RG.nil <| MX.cond_f rfl <| MX.exit rfl ?_
 have h := hh190 _ h
 try dsimp only at h
 exact hJ119 z1 _ _ ⟨rfl, rfl, rfl, rfl, trivial⟩ ⟨hS5, hT3⟩ h
def wide_Read_p (n : Nat) (a0 : UInt64 × UInt64 × UInt64 × UInt64 × UInt64 × UInt64 × UInt64 × UInt64) : Option TNumber :=
  (if (shrU a0.2.2.2.2.2.2.2 63) = (1 : UInt64) then (wide_Size_minus_p n ((0 : UInt64), (0 : UInt64), (0 : UInt64), (0 : UInt64), (0 : UInt64), (0 : UInt64), (0 : UInt64), (0 : UInt64)) a0).bind fun y0 => some (⟨(decide ((shrU a0.2.2.2.2.2.2.2 63) = (1 : UInt64))), y0.1⟩ : TNumber) else some (⟨(decide ((shrU a0.2.2.2.2.2.2.2 63) = (1 : UInt64))), a0⟩ : TNumber))
theorem wide_Read_c (n : Nat) (L : List Nat) (w : World) (hL : ∀ b ∈ L, b < w.heap.size) (a0 : UInt64 × UInt64 × UInt64 × UInt64 × UInt64 × UInt64 × UInt64 × UInt64)  {r : TNumber} (h : wide_Read_p n a0 = some r) :
    Calls Tryz.prog 105 #[.agg ((cs_A36 a0)).toArray] w (Gives w fun _ u => u = .agg ((cs_TNumber r)).toArray) := by
 unfold wide_Read_p at h
 have hS0 := St.start w
 refine MX.start Tryz.func105 rfl rfl rfl (fun _ cs0 hb0 => ?_)
 refine MX.sr <| RG.new .plain rfl (Does.box (vs := (cs_A36 a0)) hS0 rfl rfl) (fun w2 b5 hS3 hT4 => ?_)
 refine RG.new .plain rfl (Does.alloc (zs := [.bool false, .int .u64 0, .int .u64 0, .int .u64 0, .int .u64 0, .int .u64 0, .int .u64 0, .int .u64 0, .int .u64 0]) hS3 (zB (by kernel_rfl))) (fun w7 b0 hS8 hT9 => ?_)
 refine RG.nil <| MX.sr <| RG.va (FV.indexArr (m := 1) (k := 7) (len := 8) (by kernel_rfl) rfl rfl rfl (by omega)) <| RG.l1 rfl ((hS8.memA (.tl .hd)) 7 _ rfl) <| RG.va (FV.shrU (a := a0.2.2.2.2.2.2.2) (j := 63) rfl rfl) <| RG.va (FV.eqlU (a := shrU a0.2.2.2.2.2.2.2 63) (b := (1 : UInt64)) rfl rfl) ?_
 refine RG.va (FV.lN rfl (hS8.memA (.tl .hd))) <| RG.va (FV.buildV (vs := [.bool (decide ((shrU a0.2.2.2.2.2.2.2 63) = (1 : UInt64))), .agg ((cs_A36 a0)).toArray]) (u := .agg ((([.bool (decide ((shrU a0.2.2.2.2.2.2.2 63) = (1 : UInt64)))] : List Value) ++ cs_A36 a0)).toArray) (e2 rfl rfl) (fun w9 => by kernel_rfl)) <| RG.new .plain rfl (Does.alloc (zs := [.bool false, .int .u64 0, .int .u64 0, .int .u64 0, .int .u64 0, .int .u64 0, .int .u64 0, .int .u64 0, .int .u64 0]) hS8 (zB (by kernel_rfl))) (fun w0 b1 hS1 hT0 => ?_)
 refine RG.now .plain (Acts.storeAll (news := (([.bool (decide ((shrU a0.2.2.2.2.2.2.2 63) = (1 : UInt64)))] : List Value) ++ cs_A36 a0)) hS1 .hd rfl rfl rfl rfl rfl rfl (onesB rfl)) (fun w1 hS2 hT1 => ?_)
 refine RG.nil <| MX.seq <| MX.sr <| RG.fa 0 rfl <| RG.l1 rfl ((hS2.memA .hd) 0 _ rfl) <| RG.nil ?_
 refine MX.ifd rfl h (fun c0 h => ?_) (fun c0 h => ?_)
 refine MX.region <| RG.va (FV.buildV (vs := []) (u := .agg #[.int .u64 0, .int .u64 0, .int .u64 0, .int .u64 0, .int .u64 0, .int .u64 0, .int .u64 0, .int .u64 0]) evs_nil (fun w9 => by kernel_rfl)) <| RG.fa 1 rfl <| RG.va (FV.loadN (cs := (cs_A36 a0)) (by kernel_rfl) rfl (mem_part (hS2.memA .hd) 1 8)) ?_
 obtain ⟨y0, hy0, h⟩ := bind_in h
 refine RG.cq (.tuple #[.agg ((cs_A36 y0.1)).toArray, .int .u64 (y0.2.toNat : Int)]) body119 rfl (e2 rfl rfl) (fun w9 hw9 => wide_Size_minus_c n _ w9 (hS2.hL0 hL hw9) ((0 : UInt64), (0 : UInt64), (0 : UInt64), (0 : UInt64), (0 : UInt64), (0 : UInt64), (0 : UInt64), (0 : UInt64)) a0 hy0) rfl <| RG.mo rfl <| RG.va (FV.extract rfl rfl) <| RG.va (FV.extract rfl rfl) <| RG.fa 1 rfl <| RG.now .plain (Acts.store (j := 1) (old := (([.bool (decide ((shrU a0.2.2.2.2.2.2.2 63) = (1 : UInt64)))] : List Value) ++ cs_A36 a0)) (news := (cs_A36 y0.1)) (new' := (([.bool (decide ((shrU a0.2.2.2.2.2.2.2 63) = (1 : UInt64)))] : List Value) ++ cs_A36 y0.1)) hS2 .hd rfl rfl rfl rfl rfl rfl (onesB rfl) rfl) (fun w3 hS4 hT2 => ?_)
 refine RG.nil <| MX.sr <| RG.va (FV.lN rfl (hS4.memA .hd)) <| RG.now .plain (Acts.storeAll (news := (([.bool (decide ((shrU a0.2.2.2.2.2.2.2 63) = (1 : UInt64)))] : List Value) ++ cs_A36 y0.1)) hS4 (.tl .hd) rfl rfl rfl rfl rfl rfl (onesB rfl)) (fun w4 hS5 hT3 => ?_)
 refine RG.nil <| MX.ret rfl <| RT.leave hb0 Tryz.func105 rfl (.cons (.many (cs := (([.bool (decide ((shrU a0.2.2.2.2.2.2.2 63) = (1 : UInt64)))] : List Value) ++ cs_A36 y0.1)) (by kernel_rfl) rfl (hS5.memA (.tl .hd))) .nil) rfl ?_
 cases h
 exact hS5.gv
 refine MX.skip <| MX.sr <| RG.va (FV.lN rfl (hS2.memA .hd)) <| RG.now .plain (Acts.storeAll (news := (([.bool (decide ((shrU a0.2.2.2.2.2.2.2 63) = (1 : UInt64)))] : List Value) ++ cs_A36 a0)) hS2 (.tl .hd) rfl rfl rfl rfl rfl rfl (onesB rfl)) (fun w5 hS6 hT5 => ?_)
 refine RG.nil <| MX.ret rfl <| RT.leave hb0 Tryz.func105 rfl (.cons (.many (cs := (([.bool (decide ((shrU a0.2.2.2.2.2.2.2 63) = (1 : UInt64)))] : List Value) ++ cs_A36 a0)) (by kernel_rfl) rfl (hS6.memA (.tl .hd))) .nil) rfl ?_
 cases h
 exact hS6.gv
end Go.Proofs.YtmpoojncffgjoaaGreatDoor
