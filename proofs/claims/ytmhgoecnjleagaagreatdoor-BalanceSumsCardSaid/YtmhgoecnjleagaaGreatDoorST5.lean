/- Functions of the program, and what they give: part 5. -/
import Derived.Test.YtmhgoecnjleagaaGreatDoorST4
namespace Go.Proofs.YtmhgoecnjleagaaGreatDoor
open Go Go.RowKit
set_option maxRecDepth 4000
set_option maxHeartbeats 4000000

def balance_count_check_l1 (n : Nat) (a1 : List Int) (a0 : Tcount) (J0 : Nat × (List (Int × Bool)) → Option ((Except Tbroken Unit) ⊕ (List (Int × Bool)))) : Nat × (List (Int × Bool)) → Option ((Except Tbroken Unit) ⊕ (List (Int × Bool)))
  | (i0, D0) => (if i0 < a1.length then (a1[i0]?).bind fun x0 => (if x0 < 0 then (balance_fail_p n true (220 : Int)).bind fun y0 => exc y0 (fun y1 => J0 (i0 + 1, mset D0 x0 true)) (fun e0 => some (.inl (.error e0))) else (balance_fail_p n (decide (a0.fk ≤ x0)) (220 : Int)).bind fun y2 => exc y2 (fun y3 => J0 (i0 + 1, mset D0 x0 true)) (fun e1 => some (.inl (.error e1)))) else some (.inr D0))
def balance_count_check_l2 (n : Nat) (a1 : List Int) (a0 : Tcount) (J0 : Nat × (List (Int × Bool)) → Option ((Except Tbroken Unit) ⊕ (List (Int × Bool)))) : Nat × (List (Int × Bool)) → Option ((Except Tbroken Unit) ⊕ (List (Int × Bool)))
  | (i0, D0) => (if i0 < a1.length then (a1[i0]?).bind fun x0 => (if x0 < 0 then (balance_fail_p n true (220 : Int)).bind fun y0 => exc y0 (fun y1 => J0 (i0 + 1, mset D0 x0 true)) (fun e0 => some (.inl (.error e0))) else (balance_fail_p n (decide (a0.fk ≤ x0)) (220 : Int)).bind fun y2 => exc y2 (fun y3 => J0 (i0 + 1, mset D0 x0 true)) (fun e1 => some (.inl (.error e1)))) else some (.inr D0))
def balance_count_check_l3 (n : Nat) (a0 : Tcount) (a1 : List Int) (J0 : Nat × Int → Option ((Except Tbroken Unit) ⊕ Int)) : Nat × Int → Option ((Except Tbroken Unit) ⊕ Int)
  | (i0, z0) => (if i0 < a0.fRoll.fUnits.length then (a0.fRoll.fUnits[i0]?).bind fun x0 => (if x0.fWater = true then ((balance_fail_p n (!(decide (((a1.length : Nat) : Int) = z0))) (220 : Int)).bind fun y0 => exc y0 (fun y1 => thn (loopF (balance_count_check_l1 n a1 a0) n (0, ([] : List (Int × Bool)))) (fun D0 => (balance_fail_p n (!(decide (((D0.length : Nat) : Int) = a0.fk))) (220 : Int)).bind fun y2 => exc y2 (fun y3 => some (.ok ())) (fun e0 => some (.error e0)))) (fun e1 => some (.error e1))).map .inl else (chk (z0 + 1)).bind fun s0 => J0 (i0 + 1, s0)) else some (.inr z0))
def balance_count_check_p (n : Nat) (a0 : Tcount) (a1 : List Int) : Option (Except Tbroken Unit) :=
  thn (loopF (balance_count_check_l3 n a0 a1) n (0, 0)) (fun z0 => (balance_fail_p n (!(decide (((a1.length : Nat) : Int) = z0))) (220 : Int)).bind fun y0 => exc y0 (fun y1 => thn (loopF (balance_count_check_l2 n a1 a0) n (0, ([] : List (Int × Bool)))) (fun D0 => (balance_fail_p n (!(decide (((D0.length : Nat) : Int) = a0.fk))) (220 : Int)).bind fun y2 => exc y2 (fun y3 => some (.ok ())) (fun e0 => some (.error e0)))) (fun e1 => some (.error e1)))
theorem balance_count_check_c (n : Nat) (L : List Nat) (w : World) (hL : ∀ b ∈ L, b < w.heap.size) (a0 : Tcount) {v0_3 : Value} (h0_3 : Rep.R w L [v0_3] a0.fRoll.fUnits) (a1 : List Int) {v1_0 : Value} (h1_0 : Rep.R w L [v1_0] a1)  {r : Except Tbroken Unit} (h : balance_count_check_p n a0 a1 = some r) :
    Calls Tryz.prog 87 #[.agg #[.int .i64 a0.fRoll.fGroups, .int .i64 a0.fRoll.fParties, .int .i64 a0.fRoll.fLevels, v0_3, .int .i64 a0.fk], v1_0] w (PGives w (fun (y : Unit) _ u => u = .tuple #[]) (fun e => .iface 140 (.agg #[.int .i64 e.fErrno])) r) := by
  unfold balance_count_check_p at h
  have hS0 := St.start w
  refine MX.startP Tryz.func87 rfl rfl rfl (fun _ cs0 hb0 hp0 => ?_)
  refine MX.sr <| RG.new .plain rfl (Does.box (vs := [.int .i64 a0.fRoll.fGroups, .int .i64 a0.fRoll.fParties, .int .i64 a0.fRoll.fLevels, v0_3, .int .i64 a0.fk]) hS0 rfl rfl) (fun w2 b5 hS3 hT4 => ?_)
  refine RG.nil <| MX.sr <| RG.new .plain rfl (Does.alloc (zs := [.int .i64 0]) hS3 (zB (by kernel_rfl))) (fun w7 b0 hS8 hT9 => ?_)
  refine RG.now .plain (Acts.storeAll (news := [.int .i64 0]) hS8 .hd rfl rfl rfl rfl rfl rfl (ones_cons rfl ones_nil)) (fun w0 hS1 hT0 => ?_)
  refine RG.nil <| MX.seq <| MX.sr <| RG.vv (FV.loadN (by kernel_rfl) rfl (hS1.memA (.tl .hd))) rfl ?_
  have hm0 := Rep.mv h0_3 (Tr.trans hT4 (Tr.trans hT9 hT0))
  refine RG.call' (fst := []) (cap := []) .plain body120 rfl (evs_cons rfl evs_nil) (fun w9 hw9 => Calls.gives (balance_count_land_c n _ w9 (hS1.hL hL hw9) a0 (Rep.keep0 hm0 hw9)) fun (w8 : World) (u8 : Value) ⟨b0_, hu_, s_⟩ => (⟨b0_, hu_, s_.from hw9⟩ : ∃ b1 : Nat, u8 = Value.func (.func 161) #[] #[.pointer (some ⟨b1, 0, none⟩)] ∧ St w0 w8 [.cells b1 [.int .i64 a0.fRoll.fGroups, .int .i64 a0.fRoll.fParties, .int .i64 a0.fRoll.fLevels, v0_3, .int .i64 a0.fk] 97])) rfl (fun w1 vu0 hag0 ⟨b1, hu0, s0⟩ => ?_)
  subst hu0
  have hS2 : St w w1 [.cells b1 [.int .i64 a0.fRoll.fGroups, .int .i64 a0.fRoll.fParties, .int .i64 a0.fRoll.fLevels, v0_3, .int .i64 a0.fk] 97, .cells b0 [.int .i64 0] 3, .cells b5 [.int .i64 a0.fRoll.fGroups, .int .i64 a0.fRoll.fParties, .int .i64 a0.fRoll.fLevels, v0_3, .int .i64 a0.fk] 97] := St.merge hS1 s0
  have hT1 : Tr w0 [.cells b0 [.int .i64 0] 3, .cells b5 [.int .i64 a0.fRoll.fGroups, .int .i64 a0.fRoll.fParties, .int .i64 a0.fRoll.fLevels, v0_3, .int .i64 a0.fk] 97] w1 [.cells b1 [.int .i64 a0.fRoll.fGroups, .int .i64 a0.fRoll.fParties, .int .i64 a0.fRoll.fLevels, v0_3, .int .i64 a0.fk] 97, .cells b0 [.int .i64 0] 3, .cells b5 [.int .i64 a0.fRoll.fGroups, .int .i64 a0.fRoll.fParties, .int .i64 a0.fRoll.fLevels, v0_3, .int .i64 a0.fk] 97] := Tr.merge hS1 s0
  refine RG.nil <| MX.block <| MX.rangeP (lb := [.pointer (some ⟨b1, 0, none⟩)]) rfl hS2 rfl body161 Tryz.func161 rfl rfl rfl (fun w3 lk27 D0 r29 cs1 hS4 hT2 rec30 hb1 hp1 => ?_)
  refine MX.sr <| RG.vv (FV.fieldAddr (off := 0) (by kernel_rfl) rfl) rfl <| RG.vv (FV.fieldAddr (off := 3) (by kernel_rfl) rfl) rfl <| RG.vv (FV.load1 (by kernel_rfl) rfl ((mem_from (hS4.memA (.tl (.tl .hd))) 0) 3 _ rfl)) rfl ?_
  have hm1 := Rep.mv h0_3 (Tr.trans hT4 (Tr.trans hT9 (Tr.trans hT0 (Tr.trans hT1 hT2))))
  have hl36 : a0.fRoll.fUnits.length ≤ 281474976710656 := Rep.lenle hm1
  refine RG.vv (FV.len (xs := a0.fRoll.fUnits) Tryz.underlying42 rfl hm1) rfl <| RG.mv rfl rfl <| RG.nil <| MX.block ?_
  obtain ⟨o0, ho134, hh136⟩ := thn_in h
  refine MX.loop (α := Nat × Int) (fun ⟨i0, z0⟩ => [(0, .func (.yield lk27) #[] #[]), (7, v0_3), (8, .int .i64 ((a0.fRoll.fUnits.length : Nat) : Int)), (9, .int .i64 ((i0 : Nat) : Int))]) (fun ⟨i0, z0⟩ wx0 => St w wx0 [.obj lk27 (lpO r29 .ready none), .obj D0 (.deferred (some [])), .cells b1 [.int .i64 a0.fRoll.fGroups, .int .i64 a0.fRoll.fParties, .int .i64 a0.fRoll.fLevels, v0_3, .int .i64 a0.fk] 97, .cells b0 [.int .i64 z0] 3, .cells b5 [.int .i64 a0.fRoll.fGroups, .int .i64 a0.fRoll.fParties, .int .i64 a0.fRoll.fLevels, v0_3, .int .i64 a0.fk] 97] ∧ Tr w3 [.obj lk27 (lpO r29 .ready none), .obj D0 (.deferred (some [])), .cells b1 [.int .i64 a0.fRoll.fGroups, .int .i64 a0.fRoll.fParties, .int .i64 a0.fRoll.fLevels, v0_3, .int .i64 a0.fk] 97, .cells b0 [.int .i64 0] 3, .cells b5 [.int .i64 a0.fRoll.fGroups, .int .i64 a0.fRoll.fParties, .int .i64 a0.fRoll.fLevels, v0_3, .int .i64 a0.fk] 97] wx0 [.obj lk27 (lpO r29 .ready none), .obj D0 (.deferred (some [])), .cells b1 [.int .i64 a0.fRoll.fGroups, .int .i64 a0.fRoll.fParties, .int .i64 a0.fRoll.fLevels, v0_3, .int .i64 a0.fk] 97, .cells b0 [.int .i64 z0] 3, .cells b5 [.int .i64 a0.fRoll.fGroups, .int .i64 a0.fRoll.fParties, .int .i64 a0.fRoll.fLevels, v0_3, .int .i64 a0.fk] 97]) (fun ⟨i0, z0⟩ => (i0, z0)) (0, 0) ho134 ⟨rfl, rfl, rfl, rfl, trivial⟩ ⟨hS4, Tr.refl _ _⟩ ?_
  rintro J0 ⟨i0, z0⟩ wx0 hJ138 ⟨hS5, hT3⟩ h
  unfold balance_count_check_l3 at h
  try dsimp only at h
  refine MX.sr <| RG.vv (FV.lssN (i := i0) (j := a0.fRoll.fUnits.length) rfl rfl) rfl <| RG.nil <| MX.seq <| MX.ifd rfl h (fun c0 h => ?_) (fun c0 h => ?_)
  ·skip
   refine MX.skip <| MX.seq <| MX.block <| MX.sr <| RG.mv rfl rfl ?_
   obtain ⟨x0, hx0, h⟩ := bind_in h
   have hm2 := Rep.mv h0_3 (Tr.trans hT4 (Tr.trans hT9 (Tr.trans hT0 (Tr.trans hT1 (Tr.trans hT2 hT3)))))
   obtain ⟨A141, c1, he0, hk0, cs2, hr0, hm3⟩ := Rep.nth hm2 hx0
   obtain ⟨v0, v1, v2, rfl, hr1, hr2, hr3⟩ := op_TUnit hr0
   refine RG.vv (FV.idxAddr (m := 6) (i := i0) (by kernel_rfl) rfl he0 rfl rfl hk0) rfl <| RG.vv (FV.loadN (by kernel_rfl) rfl hm3) rfl <| RG.new .plain rfl (Does.alloc (zs := [.string ⟨#[]⟩, .int .i64 0, .slice none 0 0, .slice none 0 0, .slice none 0 0, .bool false]) hS5 (zB (by kernel_rfl))) (fun w4 b2 hS6 hT5 => ?_)
   refine RG.sg rfl rfl ?_
   have hm4 := Rep.mv hr1 hT5
   have hm5 := Rep.mv hr2 hT5
   have hm6 := Rep.mv hr3 hT5
   refine RG.now .plain (Acts.storeAll (news := [.string x0.fName, .int .i64 x0.fPeople, v0, v1, v2, .bool x0.fWater]) hS6 .hd rfl rfl rfl rfl rfl rfl (ones_cons rfl (ones_cons rfl (ones_cons (Rep.o1 hm4) (ones_cons (Rep.o1 hm5) (ones_cons (Rep.o1 hm6) (ones_cons rfl ones_nil))))))) (fun w5 hS7 hT6 => ?_)
   refine RG.nil <| MX.sr <| RG.vv (FV.fieldAddr (off := 5) (by kernel_rfl) rfl) rfl <| RG.vv (FV.load1 (by kernel_rfl) rfl ((hS7.memA .hd) 5 _ rfl)) rfl <| RG.mv rfl rfl <| RG.ifb (s := 16) rfl h (fun c2 h => ?_) (fun c2 h => ?_)
   ·skip
    refine RG.off (.no rfl rfl) rfl <| RG.off (.no rfl rfl) rfl <| RG.off (.no rfl rfl) rfl <| RG.off (.no rfl rfl) rfl <| RG.off (.no rfl rfl) rfl <| RG.vv (FV.pick_t rfl rfl) rfl ?_
    refine RG.nil <| MX.cond_t rfl ?_
    have h := thn_map h hh136
    refine MX.ret rfl <| RT.leave (u := .tuple #[]) hb1 Tryz.func161 rfl .nil rfl <| MX.endRange0 hS7 (.tl .hd) (by intro h9; cases h9) (fun w6 hS9 hT7 => ?_)
    obtain ⟨hS10, hT8⟩ := St.arrB hS9 (.one .hd (.one (.tl .hd) (.one (.tl .hd) (.one (.tl .hd) (.one (.tl .hd) .done)))))
    refine MX.inBlock <| MX.sr <| RG.mv rfl rfl ?_
    have hm7 := Rep.mv h1_0 (Tr.trans hT4 (Tr.trans hT9 (Tr.trans hT0 (Tr.trans hT1 (Tr.trans hT2 (Tr.trans hT3 (Tr.trans hT5 (Tr.trans hT6 (Tr.trans hT7 hT8)))))))))
    have hl172 : a1.length ≤ 281474976710656 := Rep.lenle hm7
    refine RG.vv (FV.len (xs := a1) Tryz.underlying46 rfl hm7) rfl <| RG.vv (FV.load1 (by kernel_rfl) rfl ((hS10.memA (.tl (.tl (.tl .hd)))) 0 _ rfl)) rfl <| RG.vv (FV.neq (i := ((a1.length : Nat) : Int)) (j := z0) rfl rfl) rfl ?_
    obtain ⟨y0, hy0, h⟩ := bind_in h
    rcases y0 with e0 | y1
    ·skip
     have h := exc_e h
     try dsimp only at h
     refine RG.callE (fst := []) (cap := []) .plain body75 rfl (evs_cons rfl (evs_cons rfl evs_nil)) (fun w9 hw9 => balance_fail_c n _ w9 (hS10.hL0 hL hw9) (!(decide (((a1.length : Nat) : Int) = z0))) (220 : Int) hy0) (fun w10 hag1 => ?_)
     obtain ⟨hS11, hT10⟩ := hS10.agr hag1
     refine PN.take hS11 (.tl .hd) (fun w12 hS13 hT11 => ?_)
     obtain ⟨hS14, hT12⟩ := St.arrB hS13 (.one .hd (.one (.tl .hd) (.one (.tl .hd) (.one (.tl .hd) .done))))
     obtain rfl := Option.some.inj h
     exact PN.leave hp0 Tryz.func87 ⟨hS14.ag, rfl⟩
    have h := exc_o h
    try dsimp only at h
    refine RG.cq (.tuple #[]) body75 rfl (evs_cons rfl (evs_cons rfl evs_nil)) (fun w9 hw9 => Calls.okp (balance_fail_c n _ w9 (hS10.hL0 hL hw9) (!(decide (((a1.length : Nat) : Int) = z0))) (220 : Int) hy0)) rfl <| RG.nil <| MX.sr <| RG.new .plain rfl (Does.makeMap (κ := Int) (ν := Bool) hS10) (fun w13 b3 hS15 hT14 => ?_)
    refine RG.sg rfl rfl <| RG.nil <| MX.seq <| MX.sr <| RG.mv rfl rfl ?_
    have hm8 := Rep.mv h1_0 (Tr.trans hT4 (Tr.trans hT9 (Tr.trans hT0 (Tr.trans hT1 (Tr.trans hT2 (Tr.trans hT3 (Tr.trans hT5 (Tr.trans hT6 (Tr.trans hT7 (Tr.trans hT8 hT14))))))))))
    refine RG.vv (FV.len (xs := a1) Tryz.underlying46 rfl hm8) rfl <| RG.mv rfl rfl <| RG.nil <| MX.block ?_
    obtain ⟨hS16, hT15⟩ := St.arrB hS15 (.one .hd (.one (.tl .hd) (.one (.tl (.tl (.tl .hd))) .done)))
    obtain ⟨o1, ho262, hh264⟩ := thn_in h
    refine MX.loop (α := Nat × (List (Int × Bool))) (fun ⟨i1, D1⟩ => [(2, .pointer (some ⟨b5, 0, none⟩)), (5, .map (some b3)), (20, v1_0), (21, .int .i64 ((a1.length : Nat) : Int)), (22, .int .i64 ((i1 : Nat) : Int))]) (fun ⟨i1, D1⟩ wx1 => St w wx1 [.obj b3 (mapO (D1 : List (Int × Bool))), .obj D0 (.deferred (some [])), .cells b5 [.int .i64 a0.fRoll.fGroups, .int .i64 a0.fRoll.fParties, .int .i64 a0.fRoll.fLevels, v0_3, .int .i64 a0.fk] 97] ∧ Tr w13 [.obj b3 (mapO ([] : List (Int × Bool))), .obj D0 (.deferred (some [])), .cells b5 [.int .i64 a0.fRoll.fGroups, .int .i64 a0.fRoll.fParties, .int .i64 a0.fRoll.fLevels, v0_3, .int .i64 a0.fk] 97] wx1 [.obj b3 (mapO (D1 : List (Int × Bool))), .obj D0 (.deferred (some [])), .cells b5 [.int .i64 a0.fRoll.fGroups, .int .i64 a0.fRoll.fParties, .int .i64 a0.fRoll.fLevels, v0_3, .int .i64 a0.fk] 97]) (fun ⟨i1, D1⟩ => (i1, D1)) (0, ([] : List (Int × Bool))) ho262 ⟨rfl, rfl, rfl, rfl, rfl, trivial⟩ ⟨hS16, Tr.refl _ _⟩ ?_
    rintro J1 ⟨i1, D1⟩ wx1 hJ266 ⟨hS17, hT16⟩ h
    unfold balance_count_check_l1 at h
    try dsimp only at h
    refine MX.sr <| RG.vv (FV.lssN (i := i1) (j := a1.length) rfl rfl) rfl <| RG.nil <| MX.seq <| MX.ifd rfl h (fun c3 h => ?_) (fun c3 h => ?_)
    ·skip
     refine MX.skip <| MX.seq <| MX.block <| MX.sr ?_
     obtain ⟨x1, hx1, h⟩ := bind_in h
     have hm9 := Rep.mv h1_0 (Tr.trans hT4 (Tr.trans hT9 (Tr.trans hT0 (Tr.trans hT1 (Tr.trans hT2 (Tr.trans hT3 (Tr.trans hT5 (Tr.trans hT6 (Tr.trans hT7 (Tr.trans hT8 (Tr.trans hT14 (Tr.trans hT15 hT16))))))))))))
     obtain ⟨A269, c4, he1, hk1, cs3, hr4, hm10⟩ := Rep.nth hm9 hx1
     have he2 : cs3 = [.int .i64 x1] := hr4; subst he2
     refine RG.vv (FV.idxAddr (m := 1) (i := i1) (by kernel_rfl) rfl he1 rfl rfl hk1) rfl <| RG.vv (FV.load1 (by kernel_rfl) rfl (hm10 0 _ rfl)) rfl <| RG.sg rfl rfl <| RG.nil <| MX.sr <| RG.mv rfl rfl ?_
     refine RG.vv (FV.lss (i := x1) (j := 0) rfl rfl) rfl <| RG.mv rfl rfl <| RG.ifd (s := 28) rfl h (fun c5 h => ?_) (fun c5 h => ?_)
     ·skip
      refine RG.off (.no rfl rfl) rfl <| RG.off (.no rfl rfl) rfl <| RG.off (.no rfl rfl) rfl <| RG.off (.no rfl rfl) rfl <| RG.vv (FV.pick_t rfl rfl) rfl ?_
      obtain ⟨y2, hy1, h⟩ := bind_in h
      rcases y2 with e1 | y3
      ·skip
       have h := exc_e h
       try dsimp only at h
       have h := thn_inl h hh264
       refine RG.callE (fst := []) (cap := []) .plain body75 rfl (evs_cons rfl (evs_cons rfl evs_nil)) (fun w9 hw9 => balance_fail_c n _ w9 (hS17.hL0 hL hw9) true (220 : Int) hy1) (fun w14 hag2 => ?_)
       obtain ⟨hS18, hT17⟩ := hS17.agr hag2
       refine PN.take hS18 (.tl .hd) (fun w15 hS19 hT18 => ?_)
       obtain ⟨hS20, hT19⟩ := St.arrB hS19 (.one .hd (.one (.tl .hd) .done))
       obtain rfl := Option.some.inj h
       exact PN.leave hp0 Tryz.func87 ⟨hS20.ag, rfl⟩
      have h := exc_o h
      try dsimp only at h
      refine RG.cq (.tuple #[]) body75 rfl (evs_cons rfl (evs_cons rfl evs_nil)) (fun w9 hw9 => Calls.okp (balance_fail_c n _ w9 (hS17.hL0 hL hw9) true (220 : Int) hy1)) rfl <| RG.nil <| MX.region <| RG.mv rfl rfl <| RG.mv rfl rfl <| RG.now .plain (Acts.mapUpdate (kv := x1) (vv := true) hS17 .hd Tryz.underlying168 Tryz.underlying3 rfl rfl rfl rfl) (fun w16 hS21 hT20 => ?_)
      refine RG.nil <| MX.inBlock <| MX.region <| RG.vv (FV.addN (i := i1) (j := 1) rfl rfl (by omega)) rfl <| RG.mv rfl rfl <| RG.nil ?_
      exact hJ266 (i1 + 1, mset D1 x1 true) _ _ ⟨rfl, rfl, rfl, rfl, rfl, trivial⟩ ⟨hS21, (Tr.trans hT16 hT20)⟩ h
     refine RG.val' (.yes rfl rfl) (FV.move rfl) rfl <| RG.val' (.yes rfl rfl) (FV.fieldAddr (off := 4) (by kernel_rfl) rfl) rfl <| RG.val' (.yes rfl rfl) (FV.load1 (by kernel_rfl) rfl ((hS17.memA (.tl (.tl .hd))) 4 _ rfl)) rfl <| RG.val' (.yes rfl rfl) (FV.geq (i := x1) (j := a0.fk) rfl rfl) rfl <| RG.vv (FV.pick_f rfl rfl) rfl ?_
     obtain ⟨y4, hy2, h⟩ := bind_in h
     rcases y4 with e2 | y5
     ·skip
      have h := exc_e h
      try dsimp only at h
      have h := thn_inl h hh264
      refine RG.callE (fst := []) (cap := []) .plain body75 rfl (evs_cons rfl (evs_cons rfl evs_nil)) (fun w9 hw9 => balance_fail_c n _ w9 (hS17.hL0 hL hw9) (decide (a0.fk ≤ x1)) (220 : Int) hy2) (fun w18 hag3 => ?_)
      obtain ⟨hS23, hT21⟩ := hS17.agr hag3
      refine PN.take hS23 (.tl .hd) (fun w19 hS24 hT22 => ?_)
      obtain ⟨hS26, hT24⟩ := St.arrB hS24 (.one .hd (.one (.tl .hd) .done))
      obtain rfl := Option.some.inj h
      exact PN.leave hp0 Tryz.func87 ⟨hS26.ag, rfl⟩
     have h := exc_o h
     try dsimp only at h
     refine RG.cq (.tuple #[]) body75 rfl (evs_cons rfl (evs_cons rfl evs_nil)) (fun w9 hw9 => Calls.okp (balance_fail_c n _ w9 (hS17.hL0 hL hw9) (decide (a0.fk ≤ x1)) (220 : Int) hy2)) rfl <| RG.nil <| MX.region <| RG.mv rfl rfl <| RG.mv rfl rfl <| RG.now .plain (Acts.mapUpdate (kv := x1) (vv := true) hS17 .hd Tryz.underlying168 Tryz.underlying3 rfl rfl rfl rfl) (fun w20 hS27 hT25 => ?_)
     refine RG.nil <| MX.inBlock <| MX.region <| RG.vv (FV.addN (i := i1) (j := 1) rfl rfl (by omega)) rfl <| RG.mv rfl rfl <| RG.nil ?_
     exact hJ266 (i1 + 1, mset D1 x1 true) _ _ ⟨rfl, rfl, rfl, rfl, rfl, trivial⟩ ⟨hS27, (Tr.trans hT16 hT25)⟩ h
    refine MX.exit rfl ?_
    have h := thn_inr h hh264
    try dsimp only at h
    refine MX.region <| RG.mv rfl rfl <| RG.vv (FV.len_map (D := D1) hS17 .hd Tryz.underlying168 rfl) rfl <| RG.vv (FV.fieldAddr (off := 4) (by kernel_rfl) rfl) rfl <| RG.vv (FV.load1 (by kernel_rfl) rfl ((hS17.memA (.tl (.tl .hd))) 4 _ rfl)) rfl <| RG.vv (FV.neq (i := ((D1.length : Nat) : Int)) (j := a0.fk) rfl rfl) rfl ?_
    obtain ⟨y6, hy3, h⟩ := bind_in h
    rcases y6 with e3 | y7
    ·skip
     have h := exc_e h
     try dsimp only at h
     refine RG.callE (fst := []) (cap := []) .plain body75 rfl (evs_cons rfl (evs_cons rfl evs_nil)) (fun w9 hw9 => balance_fail_c n _ w9 (hS17.hL0 hL hw9) (!(decide (((D1.length : Nat) : Int) = a0.fk))) (220 : Int) hy3) (fun w21 hag4 => ?_)
     obtain ⟨hS28, hT27⟩ := hS17.agr hag4
     refine PN.take hS28 (.tl .hd) (fun w22 hS29 hT28 => ?_)
     obtain ⟨hS30, hT29⟩ := St.arrB hS29 (.one .hd (.one (.tl .hd) .done))
     obtain rfl := Option.some.inj h
     exact PN.leave hp0 Tryz.func87 ⟨hS30.ag, rfl⟩
    have h := exc_o h
    try dsimp only at h
    refine RG.cq (.tuple #[]) body75 rfl (evs_cons rfl (evs_cons rfl evs_nil)) (fun w9 hw9 => Calls.okp (balance_fail_c n _ w9 (hS17.hL0 hL hw9) (!(decide (((D1.length : Nat) : Int) = a0.fk))) (220 : Int) hy3)) rfl <| RG.nil <| MX.fin rfl <| RT.take hS17 (.tl .hd) (fun w23 hS31 hT30 => ?_)
    obtain ⟨hS32, hT31⟩ := St.arrB hS31 (.one .hd (.one (.tl .hd) .done))
    refine RT.leave hb0 Tryz.func87 rfl .nil rfl ?_
    obtain rfl := Option.some.inj h
    exact ⟨hS32.ag, fun w9 hw9 => okOf_in rfl⟩
   refine RG.val' (.yes rfl rfl) (FV.move rfl) rfl <| RG.val' (.yes rfl rfl) (FV.move rfl) rfl <| RG.val' (.yes rfl rfl) (FV.loadN (by kernel_rfl) rfl (hS7.memA .hd)) rfl <| RG.yieldP (vs := [.int .i64 ((i0 : Nat) : Int), .agg #[.string x0.fName, .int .i64 x0.fPeople, v0, v1, v2, .bool x0.fWater]]) (.yes rfl rfl) rfl (evs_cons rfl (evs_cons rfl evs_nil)) hS7 (.tl .hd) rec30 rfl rfl rfl (fun cs4 hb2 hp2 => ?_)
   refine MX.skip <| MX.begin hS7 (.tl .hd) (fun w25 hS33 hT32 => ?_)
   refine MX.block <| MX.region <| RG.vv (FV.load1 (by kernel_rfl) rfl ((hS33.memA (.tl (.tl (.tl (.tl .hd))))) 0 _ rfl)) rfl ?_
   obtain ⟨s1, hs0, h⟩ := bind_in h
   refine RG.vv (FV.addc (i := z0) (j := 1) rfl rfl hs0) rfl <| RG.now .plain (Acts.storeAll (news := [.int .i64 s1]) hS33 (.tl (.tl (.tl (.tl .hd)))) rfl rfl rfl rfl rfl rfl (ones_cons rfl ones_nil)) (fun w26 hS34 hT33 => ?_)
   refine RG.nil <| MX.inBlock <| MX.roundEnd hb2 hS34 (.tl .hd) (fun w27 hS35 hT34 => ?_)
   refine RG.val' (.yes rfl rfl) (FV.not rfl) rfl <| RG.vv (FV.pick_f rfl rfl) rfl <| RG.nil <| MX.cond_f rfl <| MX.skip <| MX.inBlock ?_
   refine MX.region <| RG.vv (FV.addN (i := i0) (j := 1) rfl rfl (by omega)) rfl <| RG.mv rfl rfl <| RG.nil ?_
   obtain ⟨hS36, hT35⟩ := St.arrB hS35 (.one (.tl .hd) (.one (.tl .hd) (.one (.tl .hd) (.one (.tl .hd) (.one (.tl .hd) .done)))))
   exact hJ138 (i0 + 1, s1) _ _ ⟨rfl, rfl, rfl, rfl, trivial⟩ ⟨hS36, (Tr.trans hT3 (Tr.trans hT5 (Tr.trans hT6 (Tr.trans hT32 (Tr.trans hT33 (Tr.trans hT34 hT35))))))⟩ h
  refine MX.exit rfl ?_
  have h := thn_inr h hh136
  try dsimp only at h
  refine MX.fin rfl <| RT.leave (u := .tuple #[]) hb1 Tryz.func161 rfl .nil rfl <| MX.endRange0 hS5 .hd (by intro h9; cases h9) (fun w28 hS37 hT36 => ?_)
  obtain ⟨hS38, hT37⟩ := St.arrB hS37 (.one (.tl .hd) (.one (.tl .hd) (.one (.tl .hd) (.one (.tl .hd) .done))))
  refine MX.inBlock <| MX.sr <| RG.mv rfl rfl ?_
  have hm11 := Rep.mv h1_0 (Tr.trans hT4 (Tr.trans hT9 (Tr.trans hT0 (Tr.trans hT1 (Tr.trans hT2 (Tr.trans hT3 (Tr.trans hT36 hT37)))))))
  have hl349 : a1.length ≤ 281474976710656 := Rep.lenle hm11
  refine RG.vv (FV.len (xs := a1) Tryz.underlying46 rfl hm11) rfl <| RG.vv (FV.load1 (by kernel_rfl) rfl ((hS38.memA (.tl (.tl .hd))) 0 _ rfl)) rfl <| RG.vv (FV.neq (i := ((a1.length : Nat) : Int)) (j := z0) rfl rfl) rfl ?_
  obtain ⟨y8, hy4, h⟩ := bind_in h
  rcases y8 with e4 | y9
  ·skip
   have h := exc_e h
   try dsimp only at h
   refine RG.callE (fst := []) (cap := []) .plain body75 rfl (evs_cons rfl (evs_cons rfl evs_nil)) (fun w9 hw9 => balance_fail_c n _ w9 (hS38.hL0 hL hw9) (!(decide (((a1.length : Nat) : Int) = z0))) (220 : Int) hy4) (fun w29 hag5 => ?_)
   obtain ⟨hS39, hT38⟩ := hS38.agr hag5
   refine PN.take hS39 .hd (fun w30 hS40 hT39 => ?_)
   obtain ⟨hS41, hT40⟩ := St.arrB hS40 (.one (.tl .hd) (.one (.tl .hd) (.one (.tl .hd) .done)))
   obtain rfl := Option.some.inj h
   exact PN.leave hp0 Tryz.func87 ⟨hS41.ag, rfl⟩
  have h := exc_o h
  try dsimp only at h
  refine RG.cq (.tuple #[]) body75 rfl (evs_cons rfl (evs_cons rfl evs_nil)) (fun w9 hw9 => Calls.okp (balance_fail_c n _ w9 (hS38.hL0 hL hw9) (!(decide (((a1.length : Nat) : Int) = z0))) (220 : Int) hy4)) rfl <| RG.nil <| MX.sr <| RG.new .plain rfl (Does.makeMap (κ := Int) (ν := Bool) hS38) (fun w31 b4 hS42 hT41 => ?_)
  refine RG.sg rfl rfl <| RG.nil <| MX.seq <| MX.sr <| RG.mv rfl rfl ?_
  have hm12 := Rep.mv h1_0 (Tr.trans hT4 (Tr.trans hT9 (Tr.trans hT0 (Tr.trans hT1 (Tr.trans hT2 (Tr.trans hT3 (Tr.trans hT36 (Tr.trans hT37 hT41))))))))
  refine RG.vv (FV.len (xs := a1) Tryz.underlying46 rfl hm12) rfl <| RG.mv rfl rfl <| RG.nil <| MX.block ?_
  obtain ⟨hS43, hT42⟩ := St.arrB hS42 (.one .hd (.one .hd (.one (.tl (.tl .hd)) .done)))
  obtain ⟨o2, ho439, hh441⟩ := thn_in h
  refine MX.loop (α := Nat × (List (Int × Bool))) (fun ⟨i2, D2⟩ => [(2, .pointer (some ⟨b5, 0, none⟩)), (5, .map (some b4)), (20, v1_0), (21, .int .i64 ((a1.length : Nat) : Int)), (22, .int .i64 ((i2 : Nat) : Int))]) (fun ⟨i2, D2⟩ wx2 => St w wx2 [.obj b4 (mapO (D2 : List (Int × Bool))), .obj D0 (.deferred (some [])), .cells b5 [.int .i64 a0.fRoll.fGroups, .int .i64 a0.fRoll.fParties, .int .i64 a0.fRoll.fLevels, v0_3, .int .i64 a0.fk] 97] ∧ Tr w31 [.obj b4 (mapO ([] : List (Int × Bool))), .obj D0 (.deferred (some [])), .cells b5 [.int .i64 a0.fRoll.fGroups, .int .i64 a0.fRoll.fParties, .int .i64 a0.fRoll.fLevels, v0_3, .int .i64 a0.fk] 97] wx2 [.obj b4 (mapO (D2 : List (Int × Bool))), .obj D0 (.deferred (some [])), .cells b5 [.int .i64 a0.fRoll.fGroups, .int .i64 a0.fRoll.fParties, .int .i64 a0.fRoll.fLevels, v0_3, .int .i64 a0.fk] 97]) (fun ⟨i2, D2⟩ => (i2, D2)) (0, ([] : List (Int × Bool))) ho439 ⟨rfl, rfl, rfl, rfl, rfl, trivial⟩ ⟨hS43, Tr.refl _ _⟩ ?_
  rintro J2 ⟨i2, D2⟩ wx2 hJ443 ⟨hS44, hT43⟩ h
  unfold balance_count_check_l2 at h
  try dsimp only at h
  refine MX.sr <| RG.vv (FV.lssN (i := i2) (j := a1.length) rfl rfl) rfl <| RG.nil <| MX.seq <| MX.ifd rfl h (fun c6 h => ?_) (fun c6 h => ?_)
  ·skip
   refine MX.skip <| MX.seq <| MX.block <| MX.sr ?_
   obtain ⟨x2, hx2, h⟩ := bind_in h
   have hm13 := Rep.mv h1_0 (Tr.trans hT4 (Tr.trans hT9 (Tr.trans hT0 (Tr.trans hT1 (Tr.trans hT2 (Tr.trans hT3 (Tr.trans hT36 (Tr.trans hT37 (Tr.trans hT41 (Tr.trans hT42 hT43))))))))))
   obtain ⟨A446, c7, he3, hk2, cs5, hr5, hm15⟩ := Rep.nth hm13 hx2
   have he4 : cs5 = [.int .i64 x2] := hr5; subst he4
   refine RG.vv (FV.idxAddr (m := 1) (i := i2) (by kernel_rfl) rfl he3 rfl rfl hk2) rfl <| RG.vv (FV.load1 (by kernel_rfl) rfl (hm15 0 _ rfl)) rfl <| RG.sg rfl rfl <| RG.nil <| MX.sr <| RG.mv rfl rfl ?_
   refine RG.vv (FV.lss (i := x2) (j := 0) rfl rfl) rfl <| RG.mv rfl rfl <| RG.ifd (s := 28) rfl h (fun c8 h => ?_) (fun c8 h => ?_)
   ·skip
    refine RG.off (.no rfl rfl) rfl <| RG.off (.no rfl rfl) rfl <| RG.off (.no rfl rfl) rfl <| RG.off (.no rfl rfl) rfl <| RG.vv (FV.pick_t rfl rfl) rfl ?_
    obtain ⟨y10, hy5, h⟩ := bind_in h
    rcases y10 with e5 | y11
    ·skip
     have h := exc_e h
     try dsimp only at h
     have h := thn_inl h hh441
     refine RG.callE (fst := []) (cap := []) .plain body75 rfl (evs_cons rfl (evs_cons rfl evs_nil)) (fun w9 hw9 => balance_fail_c n _ w9 (hS44.hL0 hL hw9) true (220 : Int) hy5) (fun w32 hag6 => ?_)
     obtain ⟨hS45, hT44⟩ := hS44.agr hag6
     refine PN.take hS45 (.tl .hd) (fun w33 hS46 hT45 => ?_)
     obtain ⟨hS47, hT46⟩ := St.arrB hS46 (.one .hd (.one (.tl .hd) .done))
     obtain rfl := Option.some.inj h
     exact PN.leave hp0 Tryz.func87 ⟨hS47.ag, rfl⟩
    have h := exc_o h
    try dsimp only at h
    refine RG.cq (.tuple #[]) body75 rfl (evs_cons rfl (evs_cons rfl evs_nil)) (fun w9 hw9 => Calls.okp (balance_fail_c n _ w9 (hS44.hL0 hL hw9) true (220 : Int) hy5)) rfl <| RG.nil <| MX.region <| RG.mv rfl rfl <| RG.mv rfl rfl <| RG.now .plain (Acts.mapUpdate (kv := x2) (vv := true) hS44 .hd Tryz.underlying168 Tryz.underlying3 rfl rfl rfl rfl) (fun w34 hS48 hT47 => ?_)
    refine RG.nil <| MX.inBlock <| MX.region <| RG.vv (FV.addN (i := i2) (j := 1) rfl rfl (by omega)) rfl <| RG.mv rfl rfl <| RG.nil ?_
    exact hJ443 (i2 + 1, mset D2 x2 true) _ _ ⟨rfl, rfl, rfl, rfl, rfl, trivial⟩ ⟨hS48, (Tr.trans hT43 hT47)⟩ h
   refine RG.val' (.yes rfl rfl) (FV.move rfl) rfl <| RG.val' (.yes rfl rfl) (FV.fieldAddr (off := 4) (by kernel_rfl) rfl) rfl <| RG.val' (.yes rfl rfl) (FV.load1 (by kernel_rfl) rfl ((hS44.memA (.tl (.tl .hd))) 4 _ rfl)) rfl <| RG.val' (.yes rfl rfl) (FV.geq (i := x2) (j := a0.fk) rfl rfl) rfl <| RG.vv (FV.pick_f rfl rfl) rfl ?_
   obtain ⟨y12, hy6, h⟩ := bind_in h
   rcases y12 with e6 | y13
   ·skip
    have h := exc_e h
    try dsimp only at h
    have h := thn_inl h hh441
    refine RG.callE (fst := []) (cap := []) .plain body75 rfl (evs_cons rfl (evs_cons rfl evs_nil)) (fun w9 hw9 => balance_fail_c n _ w9 (hS44.hL0 hL hw9) (decide (a0.fk ≤ x2)) (220 : Int) hy6) (fun w35 hag7 => ?_)
    obtain ⟨hS49, hT48⟩ := hS44.agr hag7
    refine PN.take hS49 (.tl .hd) (fun w36 hS50 hT49 => ?_)
    obtain ⟨hS51, hT50⟩ := St.arrB hS50 (.one .hd (.one (.tl .hd) .done))
    obtain rfl := Option.some.inj h
    exact PN.leave hp0 Tryz.func87 ⟨hS51.ag, rfl⟩
   have h := exc_o h
   try dsimp only at h
   refine RG.cq (.tuple #[]) body75 rfl (evs_cons rfl (evs_cons rfl evs_nil)) (fun w9 hw9 => Calls.okp (balance_fail_c n _ w9 (hS44.hL0 hL hw9) (decide (a0.fk ≤ x2)) (220 : Int) hy6)) rfl <| RG.nil <| MX.region <| RG.mv rfl rfl <| RG.mv rfl rfl <| RG.now .plain (Acts.mapUpdate (kv := x2) (vv := true) hS44 .hd Tryz.underlying168 Tryz.underlying3 rfl rfl rfl rfl) (fun w37 hS52 hT51 => ?_)
   refine RG.nil <| MX.inBlock <| MX.region <| RG.vv (FV.addN (i := i2) (j := 1) rfl rfl (by omega)) rfl <| RG.mv rfl rfl <| RG.nil ?_
   exact hJ443 (i2 + 1, mset D2 x2 true) _ _ ⟨rfl, rfl, rfl, rfl, rfl, trivial⟩ ⟨hS52, (Tr.trans hT43 hT51)⟩ h
  refine MX.exit rfl ?_
  have h := thn_inr h hh441
  try dsimp only at h
  refine MX.region <| RG.mv rfl rfl <| RG.vv (FV.len_map (D := D2) hS44 .hd Tryz.underlying168 rfl) rfl <| RG.vv (FV.fieldAddr (off := 4) (by kernel_rfl) rfl) rfl <| RG.vv (FV.load1 (by kernel_rfl) rfl ((hS44.memA (.tl (.tl .hd))) 4 _ rfl)) rfl <| RG.vv (FV.neq (i := ((D2.length : Nat) : Int)) (j := a0.fk) rfl rfl) rfl ?_
  obtain ⟨y14, hy7, h⟩ := bind_in h
  rcases y14 with e7 | y15
  ·skip
   have h := exc_e h
   try dsimp only at h
   refine RG.callE (fst := []) (cap := []) .plain body75 rfl (evs_cons rfl (evs_cons rfl evs_nil)) (fun w9 hw9 => balance_fail_c n _ w9 (hS44.hL0 hL hw9) (!(decide (((D2.length : Nat) : Int) = a0.fk))) (220 : Int) hy7) (fun w38 hag8 => ?_)
   obtain ⟨hS53, hT52⟩ := hS44.agr hag8
   refine PN.take hS53 (.tl .hd) (fun w39 hS54 hT53 => ?_)
   obtain ⟨hS55, hT54⟩ := St.arrB hS54 (.one .hd (.one (.tl .hd) .done))
   obtain rfl := Option.some.inj h
   exact PN.leave hp0 Tryz.func87 ⟨hS55.ag, rfl⟩
  have h := exc_o h
  try dsimp only at h
  refine RG.cq (.tuple #[]) body75 rfl (evs_cons rfl (evs_cons rfl evs_nil)) (fun w9 hw9 => Calls.okp (balance_fail_c n _ w9 (hS44.hL0 hL hw9) (!(decide (((D2.length : Nat) : Int) = a0.fk))) (220 : Int) hy7)) rfl <| RG.nil <| MX.fin rfl <| RT.take hS44 (.tl .hd) (fun w40 hS56 hT55 => ?_)
  obtain ⟨hS57, hT56⟩ := St.arrB hS56 (.one .hd (.one (.tl .hd) .done))
  refine RT.leave hb0 Tryz.func87 rfl .nil rfl ?_
  obtain rfl := Option.some.inj h
  exact ⟨hS57.ag, fun w9 hw9 => okOf_in rfl⟩
def tb58_6 : List (Nat × Nat × Nat) := [(0, 262144, 32), (0, 524288, 8), (0, 1048576, 64), (6, 2097152, 1572864), (8, 4194304, 2097152), (17, 8388608, 4456448), (32, 16777216, 8388608), (0, 33554432, 128), (128, 67108864, 33554432), (320, 134217728, 83886080), (1023, 268435456, 4456448), (2047, 0, 402653184)]
theorem el45 : ElT Tryz.prog 45 3 (Rep.size Int) 8 (.int .i64 0) [.int .i64 0] := ⟨Tryz.underlying45, by kernel_rfl, rfl, rfl, rfl, rfl⟩
theorem body87 : bodyB Tryz.prog 87 = true := by kernel_rfl
def balance_count_totals_l1 (_n : Nat) (a0 : Tcount) (a1 : List Int) (J0 : Nat × (List Int) → Option ((Except Tbroken (List Int)) ⊕ (List Int))) : Nat × (List Int) → Option ((Except Tbroken (List Int)) ⊕ (List Int))
  | (i0, xs0) => (if i0 < a0.fRoll.fUnits.length then (a0.fRoll.fUnits[i0]?).bind fun x0 => (if x0.fWater = true then some (.inl (.ok xs0)) else (a1[i0]?).bind fun x1 => (idx xs0 x1).bind fun x2 => (chk (x2 + x0.fPeople)).bind fun s0 => (put xs0 ((x1.toNat : Nat) : Int) s0).bind fun xs1 => J0 (i0 + 1, xs1)) else some (.inr xs0))
def balance_count_totals_p (n : Nat) (a0 : Tcount) (a1 : List Int) : Option (Except Tbroken (List Int)) :=
  (balance_count_check_p n a0 a1).bind fun y0 => exc y0 (fun y1 => (mk a0.fk (0 : Int)).bind fun xs0 => thn (loopF (balance_count_totals_l1 n a0 a1) n (0, xs0)) (fun xs1 => some (.ok xs1))) (fun e0 => some (.error e0))
theorem balance_count_totals_c (n : Nat) (L : List Nat) (w : World) (hL : ∀ b ∈ L, b < w.heap.size) (a0 : Tcount) {v0_3 : Value} (h0_3 : Rep.R w L [v0_3] a0.fRoll.fUnits) (a1 : List Int) {v1_0 : Value} (h1_0 : Rep.R w L [v1_0] a1)  {r : Except Tbroken (List Int)} (h : balance_count_totals_p n a0 a1 = some r) :
    Calls Tryz.prog 58 #[.agg #[.int .i64 a0.fRoll.fGroups, .int .i64 a0.fRoll.fParties, .int .i64 a0.fRoll.fLevels, v0_3, .int .i64 a0.fk], v1_0] w (PGives w (fun (y : List Int) w' u => ∃ v0_0 : Value, u = v0_0 ∧ Rep.R w' L [v0_0] y) (fun e => .iface 140 (.agg #[.int .i64 e.fErrno])) r) := by
  unfold balance_count_totals_p at h
  have hS0 := St.start w
  refine MX.startP Tryz.func58 rfl rfl rfl (fun _ cs0 hb0 hp0 => ?_)
  refine MX.sr <| RG.new .plain rfl (Does.box (vs := [.int .i64 a0.fRoll.fGroups, .int .i64 a0.fRoll.fParties, .int .i64 a0.fRoll.fLevels, v0_3, .int .i64 a0.fk]) hS0 rfl rfl) (fun w2 b5 hS3 hT4 => ?_)
  have hm7 := Rep.mv h1_0 hT4
  refine RG.new .plain rfl (Does.box (vs := [v1_0]) hS3 rfl (Rep.c1 hm7)) (fun w8 b0 hS9 hT0 => ?_)
  refine RG.sg rfl rfl <| RG.nil <| MX.sr <| RG.vv (FV.loadN (by kernel_rfl) rfl (hS9.memA (.tl .hd))) rfl <| RG.vv (FV.load1 (by kernel_rfl) rfl ((hS9.memA .hd) 0 _ rfl)) rfl ?_
  obtain ⟨y0, hy0, h⟩ := bind_in h
  rcases y0 with e0 | y1
  ·skip
   have h := exc_e h
   try dsimp only at h
   have hm0 := Rep.mv h0_3 (Tr.trans hT4 hT0)
   have hm1 := Rep.mv h1_0 (Tr.trans hT4 hT0)
   refine RG.callE (fst := []) (cap := []) .plain body87 rfl (evs_cons rfl (evs_cons rfl evs_nil)) (fun w9 hw9 => balance_count_check_c n _ w9 (hS9.hL0 hL hw9) a0 (Rep.keep0 (Rep.dropS hS9 hm0) hw9) a1 (Rep.keep0 (Rep.dropS hS9 hm1) hw9) hy0) (fun w0 hag0 => ?_)
   obtain ⟨hS1, hT1⟩ := hS9.agr hag0
   obtain rfl := Option.some.inj h
   exact PN.leave hp0 Tryz.func58 ⟨hS1.ag, rfl⟩
  have h := exc_o h
  try dsimp only at h
  have hm2 := Rep.mv h0_3 (Tr.trans hT4 hT0)
  have hm3 := Rep.mv h1_0 (Tr.trans hT4 hT0)
  refine RG.cq (.tuple #[]) body87 rfl (evs_cons rfl (evs_cons rfl evs_nil)) (fun w9 hw9 => Calls.okp (balance_count_check_c n _ w9 (hS9.hL0 hL hw9) a0 (Rep.keep0 (Rep.dropS hS9 hm2) hw9) a1 (Rep.keep0 (Rep.dropS hS9 hm3) hw9) hy0)) rfl <| RG.nil <| MX.sr <| RG.vv (FV.fieldAddr (off := 4) (by kernel_rfl) rfl) rfl <| RG.vv (FV.load1 (by kernel_rfl) rfl ((hS9.memA (.tl .hd)) 4 _ rfl)) rfl ?_
  obtain ⟨xs0, hxs25, h⟩ := bind_in h
  refine RG.new .plain rfl (Does.mk (α := Int) hxs25 hS9 el45 rfl) (fun w1 b1 hS2 hT2 => ?_)
  have hc0 := Cells.at_ (cs := (List.replicate a0.fk.toNat [.int .i64 0]).flatten) (xs := xs0) hS2 L (Cells.mk hxs25 rfl)
  refine RG.new .plain rfl (Does.alloc (zs := [.slice none 0 0]) hS2 (zB (by kernel_rfl))) (fun w3 b2 hS4 hT3 => ?_)
  refine RG.now .plain (Acts.storeAll (news := [(.slice (some ⟨b1, 0, none⟩) a0.fk.toNat a0.fk.toNat)]) hS4 .hd rfl rfl rfl (St.c1 (α := Int) hS4 (.tl .hd)) rfl rfl (ones_cons (St.o1 (α := Int) hS4 (.tl .hd)) ones_nil)) (fun w4 hS5 hT5 => ?_)
  refine RG.nil <| MX.seq <| MX.sr <| RG.vv (FV.loadN (by kernel_rfl) rfl (hS5.memA (.tl (.tl (.tl .hd))))) rfl ?_
  have hm4 := Rep.mv h0_3 (Tr.trans hT4 (Tr.trans hT0 (Tr.trans hT2 (Tr.trans hT3 hT5))))
  refine RG.call' (fst := []) (cap := []) .plain body120 rfl (evs_cons rfl evs_nil) (fun w9 hw9 => Calls.gives (balance_count_land_c n _ w9 (hS5.hL hL hw9) a0 (Rep.keep0 hm4 hw9)) fun (w8 : World) (u8 : Value) ⟨b0_, hu_, s_⟩ => (⟨b0_, hu_, s_.from hw9⟩ : ∃ b3 : Nat, u8 = Value.func (.func 161) #[] #[.pointer (some ⟨b3, 0, none⟩)] ∧ St w4 w8 [.cells b3 [.int .i64 a0.fRoll.fGroups, .int .i64 a0.fRoll.fParties, .int .i64 a0.fRoll.fLevels, v0_3, .int .i64 a0.fk] 97])) rfl (fun w5 vu0 hag1 ⟨b3, hu0, s0⟩ => ?_)
  subst hu0
  have hS6 : St w w5 [.cells b3 [.int .i64 a0.fRoll.fGroups, .int .i64 a0.fRoll.fParties, .int .i64 a0.fRoll.fLevels, v0_3, .int .i64 a0.fk] 97, .cells b2 [(.slice (some ⟨b1, 0, none⟩) a0.fk.toNat a0.fk.toNat)] 45, .row w.heap.size 3 (Rep.size Int) (.slice (some ⟨b1, 0, none⟩) a0.fk.toNat a0.fk.toNat) xs0.length ((List.replicate a0.fk.toNat [.int .i64 0]).flatten), .cells b0 [v1_0] 46, .cells b5 [.int .i64 a0.fRoll.fGroups, .int .i64 a0.fRoll.fParties, .int .i64 a0.fRoll.fLevels, v0_3, .int .i64 a0.fk] 97] := St.merge hS5 s0
  have hT6 : Tr w4 [.cells b2 [(.slice (some ⟨b1, 0, none⟩) a0.fk.toNat a0.fk.toNat)] 45, .row w.heap.size 3 (Rep.size Int) (.slice (some ⟨b1, 0, none⟩) a0.fk.toNat a0.fk.toNat) xs0.length ((List.replicate a0.fk.toNat [.int .i64 0]).flatten), .cells b0 [v1_0] 46, .cells b5 [.int .i64 a0.fRoll.fGroups, .int .i64 a0.fRoll.fParties, .int .i64 a0.fRoll.fLevels, v0_3, .int .i64 a0.fk] 97] w5 [.cells b3 [.int .i64 a0.fRoll.fGroups, .int .i64 a0.fRoll.fParties, .int .i64 a0.fRoll.fLevels, v0_3, .int .i64 a0.fk] 97, .cells b2 [(.slice (some ⟨b1, 0, none⟩) a0.fk.toNat a0.fk.toNat)] 45, .row w.heap.size 3 (Rep.size Int) (.slice (some ⟨b1, 0, none⟩) a0.fk.toNat a0.fk.toNat) xs0.length ((List.replicate a0.fk.toNat [.int .i64 0]).flatten), .cells b0 [v1_0] 46, .cells b5 [.int .i64 a0.fRoll.fGroups, .int .i64 a0.fRoll.fParties, .int .i64 a0.fRoll.fLevels, v0_3, .int .i64 a0.fk] 97] := Tr.merge hS5 s0
  refine RG.nil <| MX.block <| MX.rangeP (lb := [.pointer (some ⟨b3, 0, none⟩)]) rfl hS6 rfl body161 Tryz.func161 rfl rfl rfl (fun w6 lk52 D0 r54 cs1 hS7 hT7 rec55 hb1 hp1 => ?_)
  refine MX.sr <| RG.vv (FV.fieldAddr (off := 0) (by kernel_rfl) rfl) rfl <| RG.vv (FV.fieldAddr (off := 3) (by kernel_rfl) rfl) rfl <| RG.vv (FV.load1 (by kernel_rfl) rfl ((mem_from (hS7.memA (.tl (.tl .hd))) 0) 3 _ rfl)) rfl ?_
  have hm5 := Rep.mv h0_3 (Tr.trans hT4 (Tr.trans hT0 (Tr.trans hT2 (Tr.trans hT3 (Tr.trans hT5 (Tr.trans hT6 hT7))))))
  have hl61 : a0.fRoll.fUnits.length ≤ 281474976710656 := Rep.lenle hm5
  refine RG.vv (FV.len (xs := a0.fRoll.fUnits) Tryz.underlying42 rfl hm5) rfl <| RG.mv rfl rfl <| RG.nil <| MX.block ?_
  have hm6 := Cells.mv hc0 (Tr.trans hT3 (Tr.trans hT5 (Tr.trans hT6 hT7)))
  obtain ⟨o0, ho247, hh249⟩ := thn_in h
  refine MX.loop (α := Nat × (List Int) × (List Value)) (fun ⟨i0, xs1, cs2⟩ => [(0, .func (.yield lk52) #[] #[]), (7, v0_3), (8, .int .i64 ((a0.fRoll.fUnits.length : Nat) : Int)), (9, .int .i64 ((i0 : Nat) : Int))]) (fun ⟨i0, xs1, cs2⟩ wx0 => St w wx0 [.obj lk52 (lpO r54 .ready none), .obj D0 (.deferred (some [])), .cells b3 [.int .i64 a0.fRoll.fGroups, .int .i64 a0.fRoll.fParties, .int .i64 a0.fRoll.fLevels, v0_3, .int .i64 a0.fk] 97, .cells b2 [(.slice (some ⟨b1, 0, none⟩) a0.fk.toNat a0.fk.toNat)] 45, .row w.heap.size 3 (Rep.size Int) (.slice (some ⟨b1, 0, none⟩) a0.fk.toNat a0.fk.toNat) xs1.length cs2, .cells b0 [v1_0] 46, .cells b5 [.int .i64 a0.fRoll.fGroups, .int .i64 a0.fRoll.fParties, .int .i64 a0.fRoll.fLevels, v0_3, .int .i64 a0.fk] 97] ∧ Tr w6 [.obj lk52 (lpO r54 .ready none), .obj D0 (.deferred (some [])), .cells b3 [.int .i64 a0.fRoll.fGroups, .int .i64 a0.fRoll.fParties, .int .i64 a0.fRoll.fLevels, v0_3, .int .i64 a0.fk] 97, .cells b2 [(.slice (some ⟨b1, 0, none⟩) a0.fk.toNat a0.fk.toNat)] 45, .row w.heap.size 3 (Rep.size Int) (.slice (some ⟨b1, 0, none⟩) a0.fk.toNat a0.fk.toNat) xs0.length ((List.replicate a0.fk.toNat [.int .i64 0]).flatten), .cells b0 [v1_0] 46, .cells b5 [.int .i64 a0.fRoll.fGroups, .int .i64 a0.fRoll.fParties, .int .i64 a0.fRoll.fLevels, v0_3, .int .i64 a0.fk] 97] wx0 [.obj lk52 (lpO r54 .ready none), .obj D0 (.deferred (some [])), .cells b3 [.int .i64 a0.fRoll.fGroups, .int .i64 a0.fRoll.fParties, .int .i64 a0.fRoll.fLevels, v0_3, .int .i64 a0.fk] 97, .cells b2 [(.slice (some ⟨b1, 0, none⟩) a0.fk.toNat a0.fk.toNat)] 45, .row w.heap.size 3 (Rep.size Int) (.slice (some ⟨b1, 0, none⟩) a0.fk.toNat a0.fk.toNat) xs1.length cs2, .cells b0 [v1_0] 46, .cells b5 [.int .i64 a0.fRoll.fGroups, .int .i64 a0.fRoll.fParties, .int .i64 a0.fRoll.fLevels, v0_3, .int .i64 a0.fk] 97] ∧ Cells wx0 (bl [.obj lk52 (lpO r54 .ready none), .obj D0 (.deferred (some [])), .cells b3 [.int .i64 a0.fRoll.fGroups, .int .i64 a0.fRoll.fParties, .int .i64 a0.fRoll.fLevels, v0_3, .int .i64 a0.fk] 97, .cells b2 [(.slice (some ⟨b1, 0, none⟩) a0.fk.toNat a0.fk.toNat)] 45, .row w.heap.size 3 (Rep.size Int) (.slice (some ⟨b1, 0, none⟩) a0.fk.toNat a0.fk.toNat) xs1.length cs2, .cells b0 [v1_0] 46, .cells b5 [.int .i64 a0.fRoll.fGroups, .int .i64 a0.fRoll.fParties, .int .i64 a0.fRoll.fLevels, v0_3, .int .i64 a0.fk] 97] ++ L) cs2 xs1) (fun ⟨i0, xs1, cs2⟩ => (i0, xs1)) (0, xs0, (List.replicate a0.fk.toNat [.int .i64 0]).flatten) ho247 ⟨rfl, rfl, rfl, rfl, trivial⟩ ⟨hS7, Tr.refl _ _, hm6⟩ ?_
  rintro J0 ⟨i0, xs1, cs2⟩ wx0 hJ251 ⟨hS8, hT8, hc1⟩ h
  unfold balance_count_totals_l1 at h
  try dsimp only at h
  refine MX.sr <| RG.vv (FV.lssN (i := i0) (j := a0.fRoll.fUnits.length) rfl rfl) rfl <| RG.nil <| MX.seq <| MX.ifd rfl h (fun c0 h => ?_) (fun c0 h => ?_)
  ·skip
   refine MX.skip <| MX.seq <| MX.block <| MX.sr <| RG.mv rfl rfl ?_
   obtain ⟨x0, hx0, h⟩ := bind_in h
   have hm8 := Rep.mv h0_3 (Tr.trans hT4 (Tr.trans hT0 (Tr.trans hT2 (Tr.trans hT3 (Tr.trans hT5 (Tr.trans hT6 (Tr.trans hT7 hT8)))))))
   obtain ⟨A254, c1, he0, hk0, cs3, hr0, hm9⟩ := Rep.nth hm8 hx0
   obtain ⟨v0, v1, v2, rfl, hr1, hr2, hr3⟩ := op_TUnit hr0
   refine RG.vv (FV.idxAddr (m := 6) (i := i0) (by kernel_rfl) rfl he0 rfl rfl hk0) rfl <| RG.vv (FV.loadN (by kernel_rfl) rfl hm9) rfl <| RG.new .plain rfl (Does.alloc (zs := [.string ⟨#[]⟩, .int .i64 0, .slice none 0 0, .slice none 0 0, .slice none 0 0, .bool false]) hS8 (zB (by kernel_rfl))) (fun w7 b4 hS10 hT9 => ?_)
   refine RG.sg rfl rfl ?_
   have hm10 := Rep.mv hr1 hT9
   have hm11 := Rep.mv hr2 hT9
   have hm12 := Rep.mv hr3 hT9
   refine RG.now .plain (Acts.storeAll (news := [.string x0.fName, .int .i64 x0.fPeople, v0, v1, v2, .bool x0.fWater]) hS10 .hd rfl rfl rfl rfl rfl rfl (ones_cons rfl (ones_cons rfl (ones_cons (Rep.o1 hm10) (ones_cons (Rep.o1 hm11) (ones_cons (Rep.o1 hm12) (ones_cons rfl ones_nil))))))) (fun w10 hS11 hT11 => ?_)
   refine RG.nil <| MX.sr <| RG.vv (FV.fieldAddr (off := 5) (by kernel_rfl) rfl) rfl <| RG.vv (FV.load1 (by kernel_rfl) rfl ((hS11.memA .hd) 5 _ rfl)) rfl <| RG.mv rfl rfl <| RG.ifb (s := 16) rfl h (fun c2 h => ?_) (fun c2 h => ?_)
   ·skip
    refine RG.off (.no rfl rfl) rfl <| RG.off (.no rfl rfl) rfl <| RG.off (.no rfl rfl) rfl <| RG.off (.no rfl rfl) rfl <| RG.off (.no rfl rfl) rfl <| RG.vv (FV.pick_t rfl rfl) rfl ?_
    refine RG.nil <| MX.cond_t rfl ?_
    have h := thn_inl h hh249
    refine MX.ret rfl <| RT.leave (u := .tuple #[]) hb1 Tryz.func161 rfl .nil rfl <| MX.endRange0 hS11 (.tl .hd) (by intro h9; cases h9) (fun w11 hS12 hT12 => ?_)
    obtain ⟨hS13, hT13⟩ := St.arrB hS12 (.one .hd (.one (.tl .hd) (.one (.tl .hd) (.one (.tl .hd) (.one (.tl .hd) (.one (.tl .hd) (.one (.tl .hd) .done)))))))
    refine MX.inBlock <| MX.sr <| RG.vv (FV.load1 (by kernel_rfl) rfl ((hS13.memA (.tl (.tl (.tl .hd)))) 0 _ rfl)) rfl <| RG.sg rfl rfl <| RG.nil <| MX.ret rfl ?_
    refine RT.take hS13 (.tl .hd) (fun w12 hS14 hT14 => ?_)
    obtain ⟨hS15, hT15⟩ := St.arrB hS14 (.one .hd (.one (.tl .hd) (.one (.tl .hd) (.one (.tl .hd) (.one (.tl .hd) (.one (.tl .hd) .done))))))
    have hm13 := Cells.mv hc1 (Tr.trans hT9 (Tr.trans hT11 (Tr.trans hT12 (Tr.trans hT13 (Tr.trans hT14 hT15)))))
    have hr4 := St.freeze (α := Int) hS15 (.tl (.tl (.tl .hd))) hm13 hL
    have hS16 := St.delS hS15 (.tl (.tl (.tl .hd)))
    have hT16 := St.delT hS15 (.tl (.tl (.tl .hd)))
    have hr5 := Rep.at_ (α := Int) (v := (.slice (some ⟨b1, 0, none⟩) a0.fk.toNat a0.fk.toNat)) (xs := xs1) hS16 L hr4
    refine RT.leave hb0 Tryz.func58 rfl (.cons (.tmp rfl) .nil) rfl ?_
    obtain rfl := Option.some.inj h
    exact ⟨hS16.ag, fun w9 hw9 => okOf_in ⟨(.slice (some ⟨b1, 0, none⟩) a0.fk.toNat a0.fk.toNat), rfl, Rep.keep0 (Rep.dropS hS16 hr5) hw9⟩⟩
   refine RG.val' (.yes rfl rfl) (FV.move rfl) rfl <| RG.val' (.yes rfl rfl) (FV.move rfl) rfl <| RG.val' (.yes rfl rfl) (FV.loadN (by kernel_rfl) rfl (hS11.memA .hd)) rfl <| RG.yieldP (vs := [.int .i64 ((i0 : Nat) : Int), .agg #[.string x0.fName, .int .i64 x0.fPeople, v0, v1, v2, .bool x0.fWater]]) (.yes rfl rfl) rfl (evs_cons rfl (evs_cons rfl evs_nil)) hS11 (.tl .hd) rec55 rfl rfl rfl (fun cs4 hb2 hp2 => ?_)
   refine MX.sr <| RG.sg rfl rfl <| RG.nil <| MX.region <| RG.new .plain rfl (Does.alloc (zs := [.string ⟨#[]⟩, .int .i64 0, .slice none 0 0, .slice none 0 0, .slice none 0 0, .bool false]) hS11 (zB (by kernel_rfl))) (fun w13 b6 hS17 hT17 => ?_)
   have hm14 := Rep.mv hr1 (Tr.trans hT9 (Tr.trans hT11 hT17))
   have hm17 := Rep.mv hr2 (Tr.trans hT9 (Tr.trans hT11 hT17))
   have hm18 := Rep.mv hr3 (Tr.trans hT9 (Tr.trans hT11 hT17))
   refine RG.now .plain (Acts.storeAll (news := [.string x0.fName, .int .i64 x0.fPeople, v0, v1, v2, .bool x0.fWater]) hS17 .hd rfl rfl rfl rfl rfl rfl (ones_cons rfl (ones_cons rfl (ones_cons (Rep.o1 hm14) (ones_cons (Rep.o1 hm17) (ones_cons (Rep.o1 hm18) (ones_cons rfl ones_nil))))))) (fun w14 hS18 hT18 => ?_)
   refine RG.nil <| MX.begin hS18 (.tl (.tl .hd)) (fun w15 hS20 hT19 => ?_)
   refine MX.block <| MX.drawT 11 tb58_6 (by kernel_rfl) (by kernel_rfl) (by kernel_rfl) (fun kt0 kp0 => ?_)
   refine RD.vx 0 1 3680 kt0 rfl kp0 (FV.load1 (by kernel_rfl) rfl ((hS20.memA (.tl (.tl (.tl (.tl (.tl .hd)))))) 0 _ rfl)) rfl <| RD.vx 1 3 3704 kt0 rfl kp0 (FV.load1 (by kernel_rfl) rfl ((hS20.memA (.tl (.tl (.tl (.tl (.tl (.tl (.tl .hd)))))))) 0 _ rfl)) rfl <| RD.vw 2 7 kt0 rfl kp0 (fun _ => FV.move rfl) rfl ?_
   obtain ⟨x1, hx1, h⟩ := bind_in h
   have hm19 := Rep.mv h1_0 (Tr.trans hT4 (Tr.trans hT0 (Tr.trans hT2 (Tr.trans hT3 (Tr.trans hT5 (Tr.trans hT6 (Tr.trans hT7 (Tr.trans hT8 (Tr.trans hT9 (Tr.trans hT11 (Tr.trans hT17 (Tr.trans hT18 hT19))))))))))))
   obtain ⟨A315, c3, he1, hk1, cs5, hr6, hm20⟩ := Rep.nth hm19 hx1
   have he2 : cs5 = [.int .i64 x1] := hr6; subst he2
   refine RD.vw 3 15 kt0 rfl kp0 (fun _ => FV.idxAddr (m := 1) (i := i0) (by kernel_rfl) rfl he1 rfl rfl hk1) rfl <| RD.vx 4 31 3680 kt0 rfl kp0 (FV.load1 (by kernel_rfl) rfl (hm20 0 _ rfl)) rfl ?_
   obtain ⟨x2, hx2, h⟩ := bind_in h
   obtain ⟨hi0, hx3⟩ := idx_in hx2
   have hm21 := Cells.mv hc1 (Tr.trans hT9 (Tr.trans hT11 (Tr.trans hT17 (Tr.trans hT18 hT19))))
   obtain ⟨A327, c4, he3, hk2, cs6, hr7, hm24⟩ := St.nth (α := Int) hS20 (.tl (.tl (.tl (.tl (.tl (.tl .hd)))))) hm21 hx3
   obtain ⟨b7, c5, he4⟩ := St.nthOwn (α := Int) hS20 (.tl (.tl (.tl (.tl (.tl (.tl .hd)))))) hk2
   obtain rfl : A327 = ⟨b7, 0, none⟩ := by rw [he4] at he3; cases he3; rfl
   have he5 : cs6 = [.int .i64 x2] := hr7; subst he5
   refine RD.vw 5 63 kt0 rfl kp0 (fun _ => FV.idxAddr (m := 1) (i := x1.toNat) (by kernel_rfl) rfl he3 rfl hi0 hk2) rfl <| RD.vx 6 127 3584 kt0 rfl kp0 (FV.load1 (by kernel_rfl) rfl (hm24 0 _ rfl)) rfl <| RD.vw 7 255 kt0 rfl kp0 (fun _ => FV.fieldAddr (off := 1) (by kernel_rfl) rfl) rfl <| RD.vx 8 511 3584 kt0 rfl kp0 (FV.load1 (by kernel_rfl) rfl ((hS20.memA .hd) 1 _ rfl)) rfl ?_
   obtain ⟨s1, hs0, h⟩ := bind_in h
   refine RD.vw 9 1023 kt0 rfl kp0 (fun _ => FV.addc (i := x2) (j := x0.fPeople) rfl rfl hs0) rfl <| RD.vw 10 2047 kt0 rfl kp0 (fun _ => FV.idxAddr (m := 1) (i := x1.toNat) (by kernel_rfl) rfl he3 rfl hi0 hk2) rfl ?_
   obtain ⟨xs2, hxs340, h⟩ := bind_in h
   refine RD.one (i := 11) (readyD_ok kt0 (by kernel_rfl)) (RO.acts (m' := 4095) (stepC_ok kt0 (by kernel_rfl)) rfl rfl .plain (Acts.set (α := Int) (i := x1.toNat) (F := fun cs' => [.cells b6 [.string x0.fName, .int .i64 x0.fPeople, v0, v1, v2, .bool x0.fWater] 65, .cells b4 [.string x0.fName, .int .i64 x0.fPeople, v0, v1, v2, .bool x0.fWater] 65, .obj lk52 (lpO r54 .busy none), .obj D0 (.deferred (some [])), .cells b3 [.int .i64 a0.fRoll.fGroups, .int .i64 a0.fRoll.fParties, .int .i64 a0.fRoll.fLevels, v0_3, .int .i64 a0.fk] 97, .cells b2 [(.slice (some ⟨b1, 0, none⟩) a0.fk.toNat a0.fk.toNat)] 45, .row w.heap.size 3 (Rep.size Int) (.slice (some ⟨b1, 0, none⟩) a0.fk.toNat a0.fk.toNat) xs2.length cs', .cells b0 [v1_0] 46, .cells b5 [.int .i64 a0.fRoll.fGroups, .int .i64 a0.fRoll.fParties, .int .i64 a0.fRoll.fLevels, v0_3, .int .i64 a0.fk] 97]) hxs340 hS20 he4 (fun _ => (.tl (.tl (.tl (.tl (.tl (.tl .hd))))))) hm21 rfl rfl rfl rfl rfl (by kernel_rfl)) (fun w16 ⟨cs7, hS21, hT21, hc2⟩ => ?_))
   refine RD.done (doneD_ok kt0 (by kernel_rfl)) <| MX.inBlock <| MX.roundEnd hb2 hS21 (.tl (.tl .hd)) (fun w18 hS22 hT22 => ?_)
   refine RG.val' (.yes rfl rfl) (FV.not rfl) rfl <| RG.vv (FV.pick_f rfl rfl) rfl <| RG.nil <| MX.cond_f rfl <| MX.skip <| MX.inBlock ?_
   refine MX.region <| RG.vv (FV.addN (i := i0) (j := 1) rfl rfl (by omega)) rfl <| RG.mv rfl rfl <| RG.nil ?_
   obtain ⟨hS23, hT23⟩ := St.arrB hS22 (.one (.tl (.tl .hd)) (.one (.tl (.tl .hd)) (.one (.tl (.tl .hd)) (.one (.tl (.tl .hd)) (.one (.tl (.tl .hd)) (.one (.tl (.tl .hd)) (.one (.tl (.tl .hd)) .done)))))))
   have hm25 := Cells.mv hc2 (Tr.trans hT22 hT23)
   exact hJ251 (i0 + 1, xs2, cs7) _ _ ⟨rfl, rfl, rfl, rfl, trivial⟩ ⟨hS23, (Tr.trans hT8 (Tr.trans hT9 (Tr.trans hT11 (Tr.trans hT17 (Tr.trans hT18 (Tr.trans hT19 (Tr.trans hT21 (Tr.trans hT22 hT23)))))))), hm25⟩ h
  refine MX.exit rfl ?_
  have h := thn_inr h hh249
  try dsimp only at h
  refine MX.fin rfl <| RT.leave (u := .tuple #[]) hb1 Tryz.func161 rfl .nil rfl <| MX.endRange0 hS8 .hd (by intro h9; cases h9) (fun w19 hS24 hT24 => ?_)
  obtain ⟨hS25, hT25⟩ := St.arrB hS24 (.one (.tl .hd) (.one (.tl .hd) (.one (.tl .hd) (.one (.tl .hd) (.one (.tl .hd) (.one (.tl .hd) .done))))))
  refine MX.inBlock <| MX.sr <| RG.vv (FV.load1 (by kernel_rfl) rfl ((hS25.memA (.tl (.tl .hd))) 0 _ rfl)) rfl <| RG.sg rfl rfl <| RG.nil <| MX.ret rfl ?_
  refine RT.take hS25 .hd (fun w20 hS26 hT26 => ?_)
  obtain ⟨hS28, hT27⟩ := St.arrB hS26 (.one (.tl .hd) (.one (.tl .hd) (.one (.tl .hd) (.one (.tl .hd) (.one (.tl .hd) .done)))))
  have hm26 := Cells.mv hc1 (Tr.trans hT24 (Tr.trans hT25 (Tr.trans hT26 hT27)))
  have hr8 := St.freeze (α := Int) hS28 (.tl (.tl .hd)) hm26 hL
  have hS29 := St.delS hS28 (.tl (.tl .hd))
  have hT29 := St.delT hS28 (.tl (.tl .hd))
  have hr9 := Rep.at_ (α := Int) (v := (.slice (some ⟨b1, 0, none⟩) a0.fk.toNat a0.fk.toNat)) (xs := xs1) hS29 L hr8
  refine RT.leave hb0 Tryz.func58 rfl (.cons (.tmp rfl) .nil) rfl ?_
  obtain rfl := Option.some.inj h
  exact ⟨hS29.ag, fun w9 hw9 => okOf_in ⟨(.slice (some ⟨b1, 0, none⟩) a0.fk.toNat a0.fk.toNat), rfl, Rep.keep0 (Rep.dropS hS29 hr9) hw9⟩⟩
def balance_least_l1 (_n : Nat) (a1 : List Int) (J0 : Int × Nat → Option Int) : Int × Nat → Option Int
  | (z0, i0) => (if i0 < a1.length then (a1[i0]?).bind fun x0 => J0 (min z0 x0, i0 + 1) else some z0)
def balance_least_p (n : Nat) (a0 : Int) (a1 : List Int) : Option Int :=
  Option.bind (loopF (balance_least_l1 n a1) n (a0, 0)) (fun z0 => some z0)
theorem balance_least_c (n : Nat) (L : List Nat) (w : World) (_hL : ∀ b ∈ L, b < w.heap.size) (a0 : Int) (a1 : List Int) {v1_0 : Value} (h1_0 : Rep.R w L [v1_0] a1)  {r : Int} (h : balance_least_p n a0 a1 = some r) :
    Calls Tryz.prog 59 #[.int .i64 a0, v1_0] w (Gives w fun _ u => u = .int .i64 r) := by
  unfold balance_least_p at h
  have hS0 := St.start w
  refine MX.start Tryz.func59 rfl rfl rfl (fun _ cs0 hb0 => ?_)
  refine MX.sr <| RG.sg rfl rfl <| RG.nil <| MX.seq <| MX.sr <| RG.mv rfl rfl ?_
  have hl1 : a1.length ≤ 281474976710656 := Rep.lenle h1_0
  refine RG.vv (FV.len (xs := a1) Tryz.underlying45 rfl h1_0) rfl <| RG.mv rfl rfl <| RG.nil <| MX.block ?_
  obtain ⟨o0, ho24, hh26⟩ := bind_in2 h
  refine MX.loop (α := Int × Nat) (fun ⟨z0, i0⟩ => [(0, .int .i64 z0), (7, v1_0), (8, .int .i64 ((a1.length : Nat) : Int)), (9, .int .i64 ((i0 : Nat) : Int))]) (fun ⟨z0, i0⟩ wx0 => St w wx0 [] ∧ Tr w [] wx0 []) (fun ⟨z0, i0⟩ => (z0, i0)) (a0, 0) ho24 ⟨rfl, rfl, rfl, rfl, trivial⟩ ⟨hS0, Tr.refl _ _⟩ ?_
  rintro J0 ⟨z0, i0⟩ wx0 hJ28 ⟨hS1, hT0⟩ h
  unfold balance_least_l1 at h
  try dsimp only at h
  refine MX.sr <| RG.vv (FV.lssN (i := i0) (j := a1.length) rfl rfl) rfl <| RG.nil <| MX.seq <| MX.ifd rfl h (fun c0 h => ?_) (fun c0 h => ?_)
  ·skip
   refine MX.skip <| MX.seq <| MX.block <| MX.sr ?_
   obtain ⟨x0, hx0, h⟩ := bind_in h
   have hm0 := Rep.mv h1_0 hT0
   obtain ⟨A31, c1, he0, hk0, cs1, hr0, hm1⟩ := Rep.nth hm0 hx0
   have he1 : cs1 = [.int .i64 x0] := hr0; subst he1
   refine RG.vv (FV.idxAddr (m := 1) (i := i0) (by kernel_rfl) rfl he0 rfl rfl hk0) rfl <| RG.vv (FV.load1 (by kernel_rfl) rfl (hm1 0 _ rfl)) rfl <| RG.sg rfl rfl <| RG.nil <| MX.region <| RG.mv rfl rfl ?_
   refine RG.mv rfl rfl <| RG.vv (FV.min2 (i := z0) (j := x0) rfl rfl) rfl <| RG.sg rfl rfl <| RG.nil <| MX.inBlock <| MX.region ?_
   refine RG.vv (FV.addN (i := i0) (j := 1) rfl rfl (by omega)) rfl <| RG.mv rfl rfl <| RG.nil ?_
   exact hJ28 (min z0 x0, i0 + 1) _ _ ⟨rfl, rfl, rfl, rfl, trivial⟩ ⟨hS1, hT0⟩ h
  refine MX.exit rfl ?_
  have h := hh26 _ h
  try dsimp only at h
  refine MX.sr <| RG.mv rfl rfl <| RG.sg rfl rfl <| RG.nil <| MX.ret rfl <| RT.leave hb0 Tryz.func59 rfl (.cons (.tmp rfl) .nil) rfl ?_
  obtain rfl := Option.some.inj h
  exact ⟨hS1.ag, fun w9 hw9 => rfl⟩
def balance_greatest_l1 (_n : Nat) (a1 : List Int) (J0 : Int × Nat → Option Int) : Int × Nat → Option Int
  | (z0, i0) => (if i0 < a1.length then (a1[i0]?).bind fun x0 => J0 (max z0 x0, i0 + 1) else some z0)
def balance_greatest_p (n : Nat) (a0 : Int) (a1 : List Int) : Option Int :=
  Option.bind (loopF (balance_greatest_l1 n a1) n (a0, 0)) (fun z0 => some z0)
theorem balance_greatest_c (n : Nat) (L : List Nat) (w : World) (_hL : ∀ b ∈ L, b < w.heap.size) (a0 : Int) (a1 : List Int) {v1_0 : Value} (h1_0 : Rep.R w L [v1_0] a1)  {r : Int} (h : balance_greatest_p n a0 a1 = some r) :
    Calls Tryz.prog 60 #[.int .i64 a0, v1_0] w (Gives w fun _ u => u = .int .i64 r) := by
  unfold balance_greatest_p at h
  have hS0 := St.start w
  refine MX.start Tryz.func60 rfl rfl rfl (fun _ cs0 hb0 => ?_)
  refine MX.sr <| RG.sg rfl rfl <| RG.nil <| MX.seq <| MX.sr <| RG.mv rfl rfl ?_
  have hl1 : a1.length ≤ 281474976710656 := Rep.lenle h1_0
  refine RG.vv (FV.len (xs := a1) Tryz.underlying45 rfl h1_0) rfl <| RG.mv rfl rfl <| RG.nil <| MX.block ?_
  obtain ⟨o0, ho24, hh26⟩ := bind_in2 h
  refine MX.loop (α := Int × Nat) (fun ⟨z0, i0⟩ => [(0, .int .i64 z0), (7, v1_0), (8, .int .i64 ((a1.length : Nat) : Int)), (9, .int .i64 ((i0 : Nat) : Int))]) (fun ⟨z0, i0⟩ wx0 => St w wx0 [] ∧ Tr w [] wx0 []) (fun ⟨z0, i0⟩ => (z0, i0)) (a0, 0) ho24 ⟨rfl, rfl, rfl, rfl, trivial⟩ ⟨hS0, Tr.refl _ _⟩ ?_
  rintro J0 ⟨z0, i0⟩ wx0 hJ28 ⟨hS1, hT0⟩ h
  unfold balance_greatest_l1 at h
  try dsimp only at h
  refine MX.sr <| RG.vv (FV.lssN (i := i0) (j := a1.length) rfl rfl) rfl <| RG.nil <| MX.seq <| MX.ifd rfl h (fun c0 h => ?_) (fun c0 h => ?_)
  ·skip
   refine MX.skip <| MX.seq <| MX.block <| MX.sr ?_
   obtain ⟨x0, hx0, h⟩ := bind_in h
   have hm0 := Rep.mv h1_0 hT0
   obtain ⟨A31, c1, he0, hk0, cs1, hr0, hm1⟩ := Rep.nth hm0 hx0
   have he1 : cs1 = [.int .i64 x0] := hr0; subst he1
   refine RG.vv (FV.idxAddr (m := 1) (i := i0) (by kernel_rfl) rfl he0 rfl rfl hk0) rfl <| RG.vv (FV.load1 (by kernel_rfl) rfl (hm1 0 _ rfl)) rfl <| RG.sg rfl rfl <| RG.nil <| MX.region <| RG.mv rfl rfl ?_
   refine RG.mv rfl rfl <| RG.vv (FV.max2 (i := z0) (j := x0) rfl rfl) rfl <| RG.sg rfl rfl <| RG.nil <| MX.inBlock <| MX.region ?_
   refine RG.vv (FV.addN (i := i0) (j := 1) rfl rfl (by omega)) rfl <| RG.mv rfl rfl <| RG.nil ?_
   exact hJ28 (max z0 x0, i0 + 1) _ _ ⟨rfl, rfl, rfl, rfl, trivial⟩ ⟨hS1, hT0⟩ h
  refine MX.exit rfl ?_
  have h := hh26 _ h
  try dsimp only at h
  refine MX.sr <| RG.mv rfl rfl <| RG.sg rfl rfl <| RG.nil <| MX.ret rfl <| RT.leave hb0 Tryz.func60 rfl (.cons (.tmp rfl) .nil) rfl ?_
  obtain rfl := Option.some.inj h
  exact ⟨hS1.ag, fun w9 hw9 => rfl⟩
def tb57_4 : List (Nat × Nat × Nat) := [(0, 131072, 64), (1, 262144, 131072), (2, 524288, 262144), (0, 1048576, 64), (12, 2097152, 1572864), (0, 4194304, 128), (32, 8388608, 4194304), (80, 16777216, 10485760), (144, 33554432, 16777216), (256, 67108864, 33554496), (768, 134217728, 100663296), (1280, 268435456, 167772160), (256, 536870912, 33554496), (6400, 1073741824, 838860800), (256, 2147483648, 33554560), (16640, 4294967296, 2181038080), (41216, 8589934592, 5402263552), (65792, 17179869184, 8623489024), (262143, 16, 17179869184)]
theorem body58 : bodyB Tryz.prog 58 = true := by kernel_rfl
theorem body59 : bodyB Tryz.prog 59 = true := by kernel_rfl
theorem body60 : bodyB Tryz.prog 60 = true := by kernel_rfl
def balance_Within_1_p (n : Nat) (a0 : TRoll) (a1 : Int) (a2 : List Int) (a3 : TShare) : Option (Except Tbroken Bool) :=
  (balance_counted_p n a0 a1).bind fun y1 => exc y1 (fun y3 => (balance_count_totals_p n y3 a2).bind fun y0 => exc y0 (fun y2 => (balance_count_within_p n y3 a3).bind fun y4 => exc y4 (fun y5 => (y2[0]?).bind fun x0 => (balance_least_p n x0 y2).bind fun y6 => (if y5.flow ≤ y6 then (balance_greatest_p n x0 y2).bind fun y7 => some (.ok (decide (y7 ≤ y5.fhigh))) else some (.ok false))) (fun e0 => some (.error e0))) (fun e1 => some (.error e1))) (fun e2 => some (.error e2))
theorem balance_Within_1_c (n : Nat) (L : List Nat) (w : World) (hL : ∀ b ∈ L, b < w.heap.size) (a0 : TRoll) {v0_3 : Value} (h0_3 : Rep.R w L [v0_3] a0.fUnits) {p0 : Nat} (m0 : ∀ j9 v9, ([.int .i64 a0.fGroups, .int .i64 a0.fParties, .int .i64 a0.fLevels, v0_3] : List Value)[j9]? = some v9 → w.cell? ((⟨p0, 0, none⟩ : Addr).add j9) = some v9) (a1 : Int) {p1 : Nat} (m1 : ∀ j9 v9, ([.int .i64 a1] : List Value)[j9]? = some v9 → w.cell? ((⟨p1, 0, none⟩ : Addr).add j9) = some v9) (a2 : List Int) {v2_0 : Value} (h2_0 : Rep.R w L [v2_0] a2) {p2 : Nat} (m2 : ∀ j9 v9, ([v2_0] : List Value)[j9]? = some v9 → w.cell? ((⟨p2, 0, none⟩ : Addr).add j9) = some v9) (a3 : TShare) {p3 : Nat} (m3 : ∀ j9 v9, ((cs_TShare a3) : List Value)[j9]? = some v9 → w.cell? ((⟨p3, 0, none⟩ : Addr).add j9) = some v9)  {r : Except Tbroken Bool} (h : balance_Within_1_p n a0 a1 a2 a3 = some r) :
    Calls Tryz.prog 57 #[.pointer (some ⟨p0, 0, none⟩), .pointer (some ⟨p1, 0, none⟩), .pointer (some ⟨p2, 0, none⟩), .pointer (some ⟨p3, 0, none⟩)] w (PGives w (fun (y : Bool) _ u => u = .bool y) (fun e => .iface 140 (.agg #[.int .i64 e.fErrno])) r) := by
  unfold balance_Within_1_p at h
  have hS0 := St.start w
  refine MX.startP Tryz.func57 rfl rfl rfl (fun _ cs0 hb0 hp0 => ?_)
  refine MX.sr <| RG.sg rfl rfl <| RG.nil <| MX.sr <| RG.vv (FV.loadN (by kernel_rfl) rfl (fun j9 v9 h9 => hS0.ag.cell0 (m0 j9 v9 h9))) rfl <| RG.vv (FV.load1 (by kernel_rfl) rfl ((fun j9 v9 h9 => hS0.ag.cell0 (m1 j9 v9 h9)) 0 _ rfl)) rfl ?_
  obtain ⟨y1, hy1, h⟩ := bind_in h
  rcases y1 with e2 | y3
  ·skip
   have h := exc_e h
   try dsimp only at h
   refine RG.callE (fst := []) (cap := []) .plain body50 rfl (evs_cons rfl (evs_cons rfl evs_nil)) (fun w9 hw9 => balance_counted_c n _ w9 (hS0.hL hL hw9) a0 (Rep.keep0 h0_3 hw9) a1 hy1) (fun w4 hag5 => ?_)
   obtain ⟨hS6, hT7⟩ := hS0.agr hag5
   obtain rfl := Option.some.inj h
   exact PN.leave hp0 Tryz.func57 ⟨hS6.ag, rfl⟩
  have h := exc_o h
  try dsimp only at h
  refine RG.call' (fst := []) (cap := []) .plain body50 rfl (evs_cons rfl (evs_cons rfl evs_nil)) (fun w9 hw9 => Calls.okp (balance_counted_c n _ w9 (hS0.hL hL hw9) a0 (Rep.keep0 h0_3 hw9) a1 hy1)) rfl (fun w9 vu0 hag0 ⟨v0, hu_, hr0⟩ => ?_)
  subst hu_
  obtain ⟨hS1, hT0⟩ := hS0.agr hag0
  refine RG.new .plain rfl (Does.alloc (zs := [.int .i64 0, .int .i64 0, .int .i64 0, .slice none 0 0, .int .i64 0]) hS1 (zB (by kernel_rfl))) (fun w0 b0 hS2 hT1 => ?_)
  have hm0 := Rep.mv hr0 hT1
  refine RG.now .plain (Acts.storeAll (news := [.int .i64 y3.fRoll.fGroups, .int .i64 y3.fRoll.fParties, .int .i64 y3.fRoll.fLevels, v0, .int .i64 y3.fk]) hS2 .hd rfl rfl rfl rfl rfl rfl (ones_cons rfl (ones_cons rfl (ones_cons rfl (ones_cons (Rep.o1 hm0) (ones_cons rfl ones_nil)))))) (fun w1 hS3 hT2 => ?_)
  refine RG.nil <| MX.sr <| RG.vv (FV.loadN (by kernel_rfl) rfl (hS3.memA .hd)) rfl <| RG.vv (FV.load1 (by kernel_rfl) rfl ((fun j9 v9 h9 => hS3.ag.cell0 (m2 j9 v9 h9)) 0 _ rfl)) rfl ?_
  obtain ⟨y0, hy0, h⟩ := bind_in h
  rcases y0 with e0 | y2
  ·skip
   have h := exc_e h
   try dsimp only at h
   have hm1 := Rep.mv hr0 (Tr.trans hT1 hT2)
   have hm2 := Rep.mv h2_0 (Tr.trans hT0 (Tr.trans hT1 hT2))
   refine RG.callE (fst := []) (cap := []) .plain body58 rfl (evs_cons rfl (evs_cons rfl evs_nil)) (fun w9 hw9 => balance_count_totals_c n _ w9 (hS3.hL hL hw9) y3 (Rep.keep0 hm1 hw9) a2 (Rep.keep0 hm2 hw9) hy0) (fun w2 hag1 => ?_)
   obtain ⟨hS4, hT3⟩ := hS3.agr hag1
   obtain rfl := Option.some.inj h
   exact PN.leave hp0 Tryz.func57 ⟨hS4.ag, rfl⟩
  have h := exc_o h
  try dsimp only at h
  have hm3 := Rep.mv hr0 (Tr.trans hT1 hT2)
  have hm4 := Rep.mv h2_0 (Tr.trans hT0 (Tr.trans hT1 hT2))
  refine RG.call' (fst := []) (cap := []) .plain body58 rfl (evs_cons rfl (evs_cons rfl evs_nil)) (fun w9 hw9 => Calls.okp (balance_count_totals_c n _ w9 (hS3.hL hL hw9) y3 (Rep.keep0 hm3 hw9) a2 (Rep.keep0 hm4 hw9) hy0)) rfl (fun w3 vu1 hag2 ⟨v1, hu_, hr1⟩ => ?_)
  subst hu_
  obtain ⟨hS5, hT4⟩ := hS3.agr hag2
  refine RG.sg rfl rfl <| RG.nil <| MX.sr <| RG.vv (FV.loadN (by kernel_rfl) rfl (hS5.memA .hd)) rfl <| RG.vv (FV.loadN (by kernel_rfl) rfl (fun j9 v9 h9 => hS5.ag.cell0 (m3 j9 v9 h9))) rfl ?_
  obtain ⟨y4, hy2, h⟩ := bind_in h
  rcases y4 with e1 | y5
  ·skip
   have h := exc_e h
   try dsimp only at h
   have hm5 := Rep.mv hr0 (Tr.trans hT1 (Tr.trans hT2 hT4))
   refine RG.callE (fst := []) (cap := []) .plain body51 rfl (evs_cons rfl (evs_cons rfl evs_nil)) (fun w9 hw9 => balance_count_within_c n _ w9 (hS5.hL0 hL hw9) y3 (Rep.keep0 (Rep.dropS hS5 hm5) hw9) a3 hy2) (fun w5 hag3 => ?_)
   obtain ⟨hS7, hT5⟩ := hS5.agr hag3
   obtain rfl := Option.some.inj h
   exact PN.leave hp0 Tryz.func57 ⟨hS7.ag, rfl⟩
  have h := exc_o h
  try dsimp only at h
  have hm6 := Rep.mv hr0 (Tr.trans hT1 (Tr.trans hT2 hT4))
  refine RG.cq (.agg #[.int .i64 y5.flow, .int .i64 y5.fhigh]) body51 rfl (evs_cons rfl (evs_cons rfl evs_nil)) (fun w9 hw9 => Calls.okp (balance_count_within_c n _ w9 (hS5.hL0 hL hw9) y3 (Rep.keep0 (Rep.dropS hS5 hm6) hw9) a3 hy2)) rfl <| RG.new .plain rfl (Does.alloc (zs := [.int .i64 0, .int .i64 0]) hS5 (zB (by kernel_rfl))) (fun w6 b1 hS8 hT6 => ?_)
  refine RG.now .plain (Acts.storeAll (news := [.int .i64 y5.flow, .int .i64 y5.fhigh]) hS8 .hd rfl rfl rfl rfl rfl rfl (onesB rfl)) (fun w7 hS9 hT8 => ?_)
  refine RG.nil <| MX.seq <| MX.drawT 19 tb57_4 (by kernel_rfl) (by kernel_rfl) (by kernel_rfl) (fun kt0 kp0 => ?_)
  refine RD.vw 0 1 kt0 rfl kp0 (fun _ => FV.move rfl) rfl ?_
  obtain ⟨x0, hx0, h⟩ := bind_in h
  have hm7 := Rep.mv hr1 (Tr.trans hT6 hT8)
  obtain ⟨A65, c0, he0, hk0, cs1, hr2, hm8⟩ := Rep.nth hm7 hx0
  have he1 : cs1 = [.int .i64 x0] := hr2; subst he1
  refine RD.vw 1 3 kt0 rfl kp0 (fun _ => FV.idxAddr (m := 1) (i := 0) (by kernel_rfl) rfl he0 rfl rfl hk0) rfl <| RD.vx 2 7 524176 kt0 rfl kp0 (FV.load1 (by kernel_rfl) rfl (hm8 0 _ rfl)) rfl <| RD.vw 3 15 kt0 rfl kp0 (fun _ => FV.move rfl) rfl ?_
  obtain ⟨y6, hy3, h⟩ := bind_in h
  refine RD.cq 4 31 524160 (.int .i64 y6) kt0 rfl kp0 body59 rfl (evs_cons rfl (evs_cons rfl evs_nil)) (fun w9 hw9 => balance_least_c n _ w9 (hS9.hL0 hL hw9) x0 y2 (Rep.keep0 (Rep.dropS hS9 hm7) hw9) hy3) rfl <| RD.vw 5 63 kt0 rfl kp0 (fun _ => FV.fieldAddr (off := 0) (by kernel_rfl) rfl) rfl <| RD.vx 6 127 524160 kt0 rfl kp0 (FV.load1 (by kernel_rfl) rfl ((hS9.memA .hd) 0 _ rfl)) rfl <| RD.vw 7 255 kt0 rfl kp0 (fun _ => FV.geq (i := y6) (j := y5.flow) rfl rfl) rfl <| RD.vw 8 511 kt0 rfl kp0 (fun _ => FV.move rfl) rfl <| RD.ifd (s := 25) rfl h (fun c1 h => ?_) (fun c1 h => ?_)
  ·skip
   refine RD.vP 9 1023 kt0 rfl kp0 (.yes rfl rfl) (fun _ => FV.move rfl) rfl <| RD.vP 10 2047 kt0 rfl kp0 (.yes rfl rfl) (fun _ => FV.idxAddr (m := 1) (i := 0) (by kernel_rfl) rfl he0 rfl rfl hk0) rfl <| RD.val (i := 11) (m' := 4095) (W := 466944) (takeC_ok kt0 (by kernel_rfl)) rfl kp0 (.yes rfl rfl) (FV.load1 (by kernel_rfl) rfl (hm8 0 _ rfl)) rfl <| RD.vP 12 8191 kt0 rfl kp0 (.yes rfl rfl) (fun _ => FV.move rfl) rfl ?_
   obtain ⟨y7, hy4, h⟩ := bind_in h
   refine RD.callq (i := 13) (m' := 16383) (W := 458752) (takeC_ok kt0 (by kernel_rfl)) rfl kp0 (v := .int .i64 y7) (fst := []) (cap := []) (.yes rfl rfl) body60 rfl (evs_cons rfl (evs_cons rfl evs_nil)) (fun w9 hw9 => balance_greatest_c n _ w9 (hS9.hL0 hL hw9) x0 y2 (Rep.keep0 (Rep.dropS hS9 hm7) hw9) hy4) rfl <| RD.vP 14 32767 kt0 rfl kp0 (.yes rfl rfl) (fun _ => FV.fieldAddr (off := 1) (by kernel_rfl) rfl) rfl <| RD.val (i := 15) (m' := 65535) (W := 458752) (takeC_ok kt0 (by kernel_rfl)) rfl kp0 (.yes rfl rfl) (FV.load1 (by kernel_rfl) rfl ((hS9.memA .hd) 1 _ rfl)) rfl <| RD.vP 16 131071 kt0 rfl kp0 (.yes rfl rfl) (fun _ => FV.leq (i := y7) (j := y5.fhigh) rfl rfl) rfl <| RD.vw 17 262143 kt0 rfl kp0 (fun _ => FV.pick_t rfl rfl) rfl <| RD.vw 18 524287 kt0 rfl kp0 (fun _ => FV.assign rfl) rfl ?_
   refine RD.done (doneD_ok kt0 (by kernel_rfl)) <| MX.ret rfl <| RT.leave hb0 Tryz.func57 rfl (.cons (.tmp rfl) .nil) rfl ?_
   obtain rfl := Option.some.inj h
   exact ⟨hS9.ag, fun w9 hw9 => okOf_in rfl⟩
  refine RD.offs 131071 2 [(9, 26), (10, 27), (11, 28), (12, 29), (13, 30), (14, 31), (15, 32), (16, 33)] (F := [(25, false)]) (U := []) kt0 kp0 (.cons rfl .nil) .nil ?_
  dsimp only [offS, List.map]
  refine RD.vw 17 262143 kt0 rfl kp0 (fun _ => FV.pick_f rfl rfl) rfl <| RD.vw 18 524287 kt0 rfl kp0 (fun _ => FV.assign rfl) rfl <| RD.done (doneD_ok kt0 (by kernel_rfl)) <| MX.ret rfl <| RT.leave hb0 Tryz.func57 rfl (.cons (.tmp rfl) .nil) rfl ?_
  obtain rfl := Option.some.inj h
  exact ⟨hS9.ag, fun w9 hw9 => okOf_in rfl⟩
def tb119_6 : List (Nat × Nat × Nat) := [(0, 131072, 32), (0, 262144, 8), (2, 524288, 262144), (1, 0, 131073), (15, 0, 524290)]
theorem body56 : bodyB Tryz.prog 56 = true := by kernel_rfl
theorem body57 : bodyB Tryz.prog 57 = true := by kernel_rfl
theorem body119 : bodyB Tryz.prog 119 = true := by kernel_rfl
def balance_Within_p (n : Nat) (a0 : TRoll) (a1 : List Int) (a2 : Int) (a3 : TShare) : Option (Bool × Int) :=
  (balance_Within_1_p n a0 a2 a1 a3).bind fun y0 => exc y0 (fun y1 => some (y1, (0 : Int))) (fun e0 => some (false, e0.fErrno))
theorem balance_Within_c (n : Nat) (L : List Nat) (w : World) (hL : ∀ b ∈ L, b < w.heap.size) (a0 : TRoll) {v0_3 : Value} (h0_3 : Rep.R w L [v0_3] a0.fUnits) (a1 : List Int) {v1_0 : Value} (h1_0 : Rep.R w L [v1_0] a1) (a2 : Int) (a3 : TShare)  {r : Bool × Int} (h : balance_Within_p n a0 a1 a2 a3 = some r) :
    Calls Tryz.prog 15 #[.agg #[.int .i64 a0.fGroups, .int .i64 a0.fParties, .int .i64 a0.fLevels, v0_3], v1_0, .int .i64 a2, .agg ((cs_TShare a3)).toArray] w (Gives w fun _ u => u = .tuple #[.bool r.1, .int .i64 r.2]) := by
  unfold balance_Within_p at h
  have hS0 := St.start w
  refine MX.start Tryz.func15 rfl rfl rfl (fun _ cs0 hb0 => ?_)
  refine MX.sr <| RG.new .plain rfl (Does.box (vs := [.int .i64 a0.fGroups, .int .i64 a0.fParties, .int .i64 a0.fLevels, v0_3]) hS0 rfl rfl) (fun w2 b5 hS3 hT4 => ?_)
  have hm7 := Rep.mv h1_0 hT4
  refine RG.new .plain rfl (Does.box (vs := [v1_0]) hS3 rfl (Rep.c1 hm7)) (fun w8 b0 hS9 hT0 => ?_)
  refine RG.new .plain rfl (Does.box (vs := [.int .i64 a2]) hS9 rfl rfl) (fun w0 b1 hS1 hT1 => ?_)
  refine RG.new .plain rfl (Does.box (vs := (cs_TShare a3)) hS1 rfl rfl) (fun w1 b2 hS2 hT2 => ?_)
  refine RG.sg rfl rfl <| RG.sg rfl rfl <| RG.nil <| MX.sr <| RG.vv (FV.makeFunc (vs := []) (us := [.pointer (some ⟨b5, 0, none⟩), .pointer (some ⟨b1, 0, none⟩), .pointer (some ⟨b0, 0, none⟩), .pointer (some ⟨b2, 0, none⟩)]) evs_nil (evs_cons rfl (evs_cons rfl (evs_cons rfl (evs_cons rfl evs_nil))))) rfl <| RG.enterP (fst := []) (cap := []) (vs := [.func (.func 57) #[] #[.pointer (some ⟨b5, 0, none⟩), .pointer (some ⟨b1, 0, none⟩), .pointer (some ⟨b0, 0, none⟩), .pointer (some ⟨b2, 0, none⟩)]]) .plain body56 Tryz.func56 rfl rfl rfl rfl (evs_cons rfl evs_nil) rfl (fun cs1 hb1 hp0 => ?_)
  refine MX.sr <| RG.new .plain rfl (Does.alloc (zs := [.bool false]) hS2 (zB (by kernel_rfl))) (fun w3 b3 hS4 hT3 => ?_)
  refine RG.new .plain rfl (Does.alloc (zs := [.int .i64 0]) hS4 (zB (by kernel_rfl))) (fun w4 b4 hS5 hT5 => ?_)
  refine RG.nil <| MX.sr <| RG.vv (FV.makeFunc (vs := []) (us := [.pointer (some ⟨b3, 0, none⟩), .pointer (some ⟨b4, 0, none⟩)]) evs_nil (evs_cons rfl (evs_cons rfl evs_nil))) rfl <| RG.defer (fst := []) (cap := [.pointer (some ⟨b3, 0, none⟩), .pointer (some ⟨b4, 0, none⟩)]) (vs := []) rfl .plain rfl evs_nil <| RG.nil <| MX.sr ?_
  refine RG.mv rfl rfl ?_
  obtain ⟨y0, hy0, h⟩ := bind_in h
  rcases y0 with e0 | y1
  ·skip
   have h := exc_e h
   try dsimp only at h
   have hm0 := Rep.mv h0_3 (Tr.trans hT4 (Tr.trans hT0 (Tr.trans hT1 (Tr.trans hT2 (Tr.trans hT3 hT5)))))
   have hm1 := Rep.mv h1_0 (Tr.trans hT4 (Tr.trans hT0 (Tr.trans hT1 (Tr.trans hT2 (Tr.trans hT3 hT5)))))
   refine RG.callE (fst := []) (cap := [.pointer (some ⟨b5, 0, none⟩), .pointer (some ⟨b1, 0, none⟩), .pointer (some ⟨b0, 0, none⟩), .pointer (some ⟨b2, 0, none⟩)]) .plain body57 rfl evs_nil (fun w9 hw9 => balance_Within_1_c n _ w9 (hS5.hL0 hL hw9) a0 (Rep.keep0 (Rep.dropS hS5 hm0) hw9) (fun j9 v9 h9 => hw9.cell0 ((hS5.memA (.tl (.tl (.tl (.tl (.tl .hd)))))) j9 v9 h9)) a2 (fun j9 v9 h9 => hw9.cell0 ((hS5.memA (.tl (.tl (.tl .hd)))) j9 v9 h9)) a1 (Rep.keep0 (Rep.dropS hS5 hm1) hw9) (fun j9 v9 h9 => hw9.cell0 ((hS5.memA (.tl (.tl (.tl (.tl .hd))))) j9 v9 h9)) a3 (fun j9 v9 h9 => hw9.cell0 ((hS5.memA (.tl (.tl .hd))) j9 v9 h9)) hy0) (fun w5 hag0 => ?_)
   obtain ⟨hS6, hT6⟩ := hS5.agr hag0
   refine PN.callD (vs := []) (cap := [.pointer (some ⟨b3, 0, none⟩), .pointer (some ⟨b4, 0, none⟩)]) body119 Tryz.func119 rfl rfl rfl (fun c0 hc0 hk0 => ?_)
   refine MX.sr <| RG.recover1 .plain hc0 rfl <| RG.sg rfl rfl <| RG.nil <| MX.sr <| RG.mv rfl rfl ?_
   refine RG.vv (FV.neqI Tryz.underlying20 rfl rfl) rfl <| RG.nil <| MX.cond_t rfl <| MX.sr <| RG.mv rfl rfl <| RG.vv (FV.assertT (by kernel_rfl) rfl) rfl ?_
   refine RG.mv rfl rfl <| RG.vv (FV.extract rfl rfl) rfl <| RG.vv (FV.extract rfl rfl) rfl <| RG.new .plain rfl (Does.alloc (zs := [.int .i64 0]) hS6 (zB (by kernel_rfl))) (fun w6 b6 hS7 hT7 => ?_)
   refine RG.now .plain (Acts.storeAll (news := [.int .i64 e0.fErrno]) hS7 .hd rfl rfl rfl rfl rfl rfl (ones_cons rfl ones_nil)) (fun w7 hS8 hT8 => ?_)
   refine RG.sg rfl rfl <| RG.nil <| MX.seq <| MX.sr <| RG.mv rfl rfl <| RG.vv (FV.not rfl) rfl ?_
   refine RG.nil <| MX.cond_f rfl <| MX.skip <| MX.sr <| RG.sg rfl rfl <| RG.nil ?_
   refine MX.drawT 3 tb119_6 (by kernel_rfl) (by kernel_rfl) (by kernel_rfl) (fun kt0 kp0 => ?_)
   refine RD.vw 0 1 kt0 rfl kp0 (fun _ => FV.move rfl) rfl <| RD.vw 1 3 kt0 rfl kp0 (fun _ => FV.fieldAddr (off := 0) (by kernel_rfl) rfl) rfl <| RD.meet (α := Unit) (fun () => [(1, .pointer (some ⟨b4, 0, none⟩)), (19, .int .i64 e0.fErrno)]) (fun () wx0 => St w wx0 [.cells b4 [.int .i64 0] 51, .cells b3 [.bool false] 4, .cells b2 (cs_TShare a3) 37, .cells b1 [.int .i64 a2] 3, .cells b0 [v1_0] 46, .cells b5 [.int .i64 a0.fGroups, .int .i64 a0.fParties, .int .i64 a0.fLevels, v0_3] 44] ∧ Tr w7 [.cells b6 [.int .i64 e0.fErrno] 140, .cells b4 [.int .i64 0] 51, .cells b3 [.bool false] 4, .cells b2 (cs_TShare a3) 37, .cells b1 [.int .i64 a2] 3, .cells b0 [v1_0] 46, .cells b5 [.int .i64 a0.fGroups, .int .i64 a0.fParties, .int .i64 a0.fLevels, v0_3] 44] wx0 [.cells b4 [.int .i64 0] 51, .cells b3 [.bool false] 4, .cells b2 (cs_TShare a3) 37, .cells b1 [.int .i64 a2] 3, .cells b0 [v1_0] 46, .cells b5 [.int .i64 a0.fGroups, .int .i64 a0.fParties, .int .i64 a0.fLevels, v0_3] 44]) 1 15 ?_ ?_
   ·skip
    rintro ⟨⟩ wx0 ⟨hS10, hT9⟩
    try dsimp only
    refine RD.nw 4 31 kt0 rfl rfl .plain (Acts.storeAll (news := [.int .i64 e0.fErrno]) hS10 .hd rfl rfl rfl rfl rfl rfl (ones_cons rfl ones_nil)) (fun w10 hS11 hT11 => ?_)
    refine RD.done (doneD_ok kt0 (by kernel_rfl)) <| MX.fin rfl <| RT.leaveD1 hk0 Tryz.func119 rfl .nil <| RT.leave (u := .tuple #[.bool false, .int .i64 e0.fErrno]) hb1 Tryz.func56 rfl (.cons (.one (by kernel_rfl) rfl ((hS11.memA (.tl .hd)) 0 _ rfl)) (.cons (.one (by kernel_rfl) rfl ((hS11.memA .hd) 0 _ rfl)) .nil)) rfl <| RG.vv (FV.extract rfl rfl) rfl <| RG.vv (FV.extract rfl rfl) rfl ?_
    refine RG.sg rfl rfl <| RG.sg rfl rfl <| RG.nil <| MX.ret rfl <| RT.leave hb0 Tryz.func15 rfl (.cons (.tmp rfl) (.cons (.tmp rfl) .nil)) rfl ?_
    obtain rfl := Option.some.inj h
    exact ⟨hS11.ag, fun w9 hw9 => rfl⟩
   ·skip
    intro hJ1266
    refine RD.each [2, 3] (readyD_ok kt0 (by kernel_rfl)) ⟨?_, ?_, trivial⟩
    ·skip
     refine RO.val (m' := 7) (stepC_ok kt0 (by kernel_rfl)) rfl .plain rfl (FV.load1 (by kernel_rfl) rfl ((hS8.memA .hd) 0 _ rfl)) <| RD.nw 3 15 kt0 rfl rfl .plain (Acts.storeAll (news := [.bool false]) hS8 (.tl (.tl .hd)) rfl rfl rfl rfl rfl rfl (ones_cons rfl ones_nil)) (fun w11 hS12 hT12 => ?_)
     obtain ⟨hS13, hT13⟩ := St.arrB hS12 (.one (.tl .hd) (.one (.tl .hd) (.one (.tl .hd) (.one (.tl .hd) (.one (.tl .hd) (.one (.tl .hd) .done))))))
     exact hJ1266 () _ _ ⟨rfl, rfl, trivial⟩ ⟨hS13, (Tr.trans hT12 hT13)⟩
    ·skip
     refine RO.now (m' := 11) (stepC_ok kt0 (by kernel_rfl)) rfl rfl .plain (Acts.storeAll (news := [.bool false]) hS8 (.tl (.tl .hd)) rfl rfl rfl rfl rfl rfl (ones_cons rfl ones_nil)) (fun w11 hS12 hT12 => ?_)
     refine RD.vx 2 15 16 kt0 rfl kp0 (FV.load1 (by kernel_rfl) rfl ((hS12.memA .hd) 0 _ rfl)) rfl ?_
     obtain ⟨hS15, hT14⟩ := St.arrB hS12 (.one (.tl .hd) (.one (.tl .hd) (.one (.tl .hd) (.one (.tl .hd) (.one (.tl .hd) (.one (.tl .hd) .done))))))
     exact hJ1266 () _ _ ⟨rfl, rfl, trivial⟩ ⟨hS15, (Tr.trans hT12 hT14)⟩
  have h := exc_o h
  try dsimp only at h
  have hm2 := Rep.mv h0_3 (Tr.trans hT4 (Tr.trans hT0 (Tr.trans hT1 (Tr.trans hT2 (Tr.trans hT3 hT5)))))
  have hm3 := Rep.mv h1_0 (Tr.trans hT4 (Tr.trans hT0 (Tr.trans hT1 (Tr.trans hT2 (Tr.trans hT3 hT5)))))
  refine RG.callq' (v := .bool y1) (fst := []) (cap := [.pointer (some ⟨b5, 0, none⟩), .pointer (some ⟨b1, 0, none⟩), .pointer (some ⟨b0, 0, none⟩), .pointer (some ⟨b2, 0, none⟩)]) .plain body57 rfl evs_nil (fun w9 hw9 => Calls.okp (balance_Within_1_c n _ w9 (hS5.hL0 hL hw9) a0 (Rep.keep0 (Rep.dropS hS5 hm2) hw9) (fun j9 v9 h9 => hw9.cell0 ((hS5.memA (.tl (.tl (.tl (.tl (.tl .hd)))))) j9 v9 h9)) a2 (fun j9 v9 h9 => hw9.cell0 ((hS5.memA (.tl (.tl (.tl .hd)))) j9 v9 h9)) a1 (Rep.keep0 (Rep.dropS hS5 hm3) hw9) (fun j9 v9 h9 => hw9.cell0 ((hS5.memA (.tl (.tl (.tl (.tl .hd))))) j9 v9 h9)) a3 (fun j9 v9 h9 => hw9.cell0 ((hS5.memA (.tl (.tl .hd))) j9 v9 h9)) hy0)) rfl <| RG.now .plain (Acts.storeAll (news := [.bool y1]) hS5 (.tl .hd) rfl rfl rfl rfl rfl rfl (ones_cons rfl ones_nil)) (fun w12 hS16 hT16 => ?_)
  refine RG.now .plain (Acts.storeAll (news := [.int .i64 0]) hS16 .hd rfl rfl rfl rfl rfl rfl (ones_cons rfl ones_nil)) (fun w14 hS17 hT17 => ?_)
  refine RG.nil <| MX.ret rfl <| RT.callD (vs := []) (cap := [.pointer (some ⟨b3, 0, none⟩), .pointer (some ⟨b4, 0, none⟩)]) body119 Tryz.func119 rfl rfl rfl (fun c1 hc1 hk1 => ?_)
  refine MX.sr <| RG.recover0 .plain hc1 rfl <| RG.sg rfl rfl <| RG.nil <| MX.sr <| RG.mv rfl rfl ?_
  refine RG.vv (FV.neqI0 Tryz.underlying20 rfl rfl) rfl <| RG.nil <| MX.cond_f rfl <| MX.skip <| MX.fin rfl <| RT.leaveD0 hc1 hk1 Tryz.func119 rfl .nil ?_
  refine RT.leave (u := .tuple #[.bool y1, .int .i64 0]) hb1 Tryz.func56 rfl (.cons (.one (by kernel_rfl) rfl ((hS17.memA (.tl .hd)) 0 _ rfl)) (.cons (.one (by kernel_rfl) rfl ((hS17.memA .hd) 0 _ rfl)) .nil)) rfl <| RG.vv (FV.extract rfl rfl) rfl <| RG.vv (FV.extract rfl rfl) rfl <| RG.sg rfl rfl <| RG.sg rfl rfl <| RG.nil ?_
  refine MX.ret rfl <| RT.leave hb0 Tryz.func15 rfl (.cons (.tmp rfl) (.cons (.tmp rfl) .nil)) rfl ?_
  obtain rfl := Option.some.inj h
  exact ⟨hS17.ag, fun w9 hw9 => rfl⟩
def tb67_1 : List (Nat × Nat × Nat) := [(0, 16, 1), (0, 32, 2), (3, 64, 48), (0, 128, 4), (12, 256, 192), (31, 8, 256)]
def balance_Totals_1_p (n : Nat) (a0 : TRoll) (a1 : Int) (a2 : List Int) : Option (Except Tbroken (List Int)) :=
  (balance_counted_p n a0 a1).bind fun y3 => exc y3 (fun y5 => (balance_count_totals_p n y5 a2).bind fun y0 => exc y0 (fun y1 => some (.ok y1)) (fun e0 => some (.error e0))) (fun e4 => some (.error e4))
theorem balance_Totals_1_c (n : Nat) (L : List Nat) (w : World) (hL : ∀ b ∈ L, b < w.heap.size) (a0 : TRoll) {v0_3 : Value} (h0_3 : Rep.R w L [v0_3] a0.fUnits) {p0 : Nat} (m0 : ∀ j9 v9, ([.int .i64 a0.fGroups, .int .i64 a0.fParties, .int .i64 a0.fLevels, v0_3] : List Value)[j9]? = some v9 → w.cell? ((⟨p0, 0, none⟩ : Addr).add j9) = some v9) (a1 : Int) {p1 : Nat} (m1 : ∀ j9 v9, ([.int .i64 a1] : List Value)[j9]? = some v9 → w.cell? ((⟨p1, 0, none⟩ : Addr).add j9) = some v9) (a2 : List Int) {v2_0 : Value} (h2_0 : Rep.R w L [v2_0] a2) {p2 : Nat} (m2 : ∀ j9 v9, ([v2_0] : List Value)[j9]? = some v9 → w.cell? ((⟨p2, 0, none⟩ : Addr).add j9) = some v9)  {r : Except Tbroken (List Int)} (h : balance_Totals_1_p n a0 a1 a2 = some r) :
    Calls Tryz.prog 67 #[.pointer (some ⟨p0, 0, none⟩), .pointer (some ⟨p1, 0, none⟩), .pointer (some ⟨p2, 0, none⟩)] w (PGives w (fun (y : List Int) w' u => ∃ v0_0 : Value, u = v0_0 ∧ Rep.R w' L [v0_0] y) (fun e => .iface 140 (.agg #[.int .i64 e.fErrno])) r) := by
  unfold balance_Totals_1_p at h
  have hS0 := St.start w
  refine MX.startP Tryz.func67 rfl rfl rfl (fun _ cs0 hb0 hp0 => ?_)
  refine MX.sr <| RG.sg rfl rfl <| RG.nil <| MX.seq <| MX.drawT 6 tb67_1 (by kernel_rfl) (by kernel_rfl) (by kernel_rfl) (fun kt1 kp2 => ?_)
  refine RD.vx 0 1 52 kt1 rfl kp2 (FV.loadN (by kernel_rfl) rfl (fun j9 v9 h9 => hS0.ag.cell0 (m0 j9 v9 h9))) rfl <| RD.vx 1 3 52 kt1 rfl kp2 (FV.load1 (by kernel_rfl) rfl ((fun j9 v9 h9 => hS0.ag.cell0 (m1 j9 v9 h9)) 0 _ rfl)) rfl ?_
  obtain ⟨y3, hy3, h⟩ := bind_in h
  rcases y3 with e4 | y5
  ·skip
   have h := exc_e h
   try dsimp only at h
   refine RD.vx 3 11 48 kt1 rfl kp2 (FV.load1 (by kernel_rfl) rfl ((fun j9 v9 h9 => hS0.ag.cell0 (m2 j9 v9 h9)) 0 _ rfl)) rfl <| RD.one (i := 2) (readyD_ok kt1 (by kernel_rfl)) (RO.callE (fst := []) (cap := []) rfl .plain body50 rfl (evs_cons rfl (evs_cons rfl evs_nil)) (fun w9 hw9 => balance_counted_c n _ w9 (hS0.hL hL hw9) a0 (Rep.keep0 h0_3 hw9) a1 hy3) (fun w6 hag7 => ?_))
   obtain ⟨hS8, hT9⟩ := hS0.agr hag7
   obtain rfl := Option.some.inj h
   exact PN.leave hp0 Tryz.func67 ⟨hS8.ag, rfl⟩
  have h := exc_o h
  try dsimp only at h
  refine RD.vx 3 11 48 kt1 rfl kp2 (FV.load1 (by kernel_rfl) rfl ((fun j9 v9 h9 => hS0.ag.cell0 (m2 j9 v9 h9)) 0 _ rfl)) rfl <| RD.cl 2 15 kt1 rfl .plain body50 rfl (evs_cons rfl (evs_cons rfl evs_nil)) (fun w9 hw9 => Calls.okp (balance_counted_c n _ w9 (hS0.hL hL hw9) a0 (Rep.keep0 h0_3 hw9) a1 hy3)) rfl (fun w0 vu0 hag0 ⟨v0, hu_, hr0⟩ => ?_)
  subst hu_
  obtain ⟨hS1, hT0⟩ := hS0.agr hag0
  obtain ⟨y0, hy0, h⟩ := bind_in h
  rcases y0 with e0 | y1
  ·skip
   have h := exc_e h
   try dsimp only at h
   have hm0 := Rep.mv h2_0 hT0
   refine RD.one (i := 4) (readyD_ok kt1 (by kernel_rfl)) (RO.callE (fst := []) (cap := []) rfl .plain body58 rfl (evs_cons rfl (evs_cons rfl evs_nil)) (fun w9 hw9 => balance_count_totals_c n _ w9 (hS1.hL hL hw9) y5 (Rep.keep0 hr0 hw9) a2 (Rep.keep0 hm0 hw9) hy0) (fun w1 hag1 => ?_))
   obtain ⟨hS2, hT1⟩ := hS1.agr hag1
   obtain rfl := Option.some.inj h
   exact PN.leave hp0 Tryz.func67 ⟨hS2.ag, rfl⟩
  have h := exc_o h
  try dsimp only at h
  have hm1 := Rep.mv h2_0 hT0
  refine RD.cl 4 31 kt1 rfl .plain body58 rfl (evs_cons rfl (evs_cons rfl evs_nil)) (fun w9 hw9 => Calls.okp (balance_count_totals_c n _ w9 (hS1.hL hL hw9) y5 (Rep.keep0 hr0 hw9) a2 (Rep.keep0 hm1 hw9) hy0)) rfl (fun w2 vu1 hag2 ⟨v1, hu_, hr1⟩ => ?_)
  subst hu_
  obtain ⟨hS3, hT2⟩ := hS1.agr hag2
  refine RD.vw 5 63 kt1 rfl kp2 (fun _ => FV.assign rfl) rfl <| RD.done (doneD_ok kt1 (by kernel_rfl)) <| MX.ret rfl <| RT.leave hb0 Tryz.func67 rfl (.cons (.tmp rfl) .nil) rfl ?_
  obtain rfl := Option.some.inj h
  exact ⟨hS3.ag, fun w9 hw9 => okOf_in ⟨vu1, rfl, Rep.keep0 (Rep.dropS hS3 hr1) hw9⟩⟩
def tb122_6 : List (Nat × Nat × Nat) := [(0, 131072, 32), (0, 262144, 8), (2, 524288, 262144), (1, 0, 131073), (15, 0, 524290)]
theorem body66 : bodyB Tryz.prog 66 = true := by kernel_rfl
theorem body67 : bodyB Tryz.prog 67 = true := by kernel_rfl
theorem body122 : bodyB Tryz.prog 122 = true := by kernel_rfl
def balance_Totals_p (n : Nat) (a0 : TRoll) (a1 : List Int) (a2 : Int) : Option ((List Int) × Int) :=
  (balance_Totals_1_p n a0 a2 a1).bind fun y0 => exc y0 (fun y1 => some (y1, (0 : Int))) (fun e0 => some (([] : List Int), e0.fErrno))
theorem balance_Totals_c (n : Nat) (L : List Nat) (w : World) (hL : ∀ b ∈ L, b < w.heap.size) (a0 : TRoll) {v0_3 : Value} (h0_3 : Rep.R w L [v0_3] a0.fUnits) (a1 : List Int) {v1_0 : Value} (h1_0 : Rep.R w L [v1_0] a1) (a2 : Int)  {r : (List Int) × Int} (h : balance_Totals_p n a0 a1 a2 = some r) :
    Calls Tryz.prog 19 #[.agg #[.int .i64 a0.fGroups, .int .i64 a0.fParties, .int .i64 a0.fLevels, v0_3], v1_0, .int .i64 a2] w (Gives w fun w' u => ∃ v0_0 : Value, u = .tuple #[v0_0, .int .i64 r.2] ∧ Rep.R w' L [v0_0] r.1) := by
  unfold balance_Totals_p at h
  have hS0 := St.start w
  refine MX.start Tryz.func19 rfl rfl rfl (fun _ cs0 hb0 => ?_)
  refine MX.sr <| RG.new .plain rfl (Does.box (vs := [.int .i64 a0.fGroups, .int .i64 a0.fParties, .int .i64 a0.fLevels, v0_3]) hS0 rfl rfl) (fun w2 b5 hS3 hT4 => ?_)
  have hm7 := Rep.mv h1_0 hT4
  refine RG.new .plain rfl (Does.box (vs := [v1_0]) hS3 rfl (Rep.c1 hm7)) (fun w8 b0 hS9 hT0 => ?_)
  refine RG.new .plain rfl (Does.box (vs := [.int .i64 a2]) hS9 rfl rfl) (fun w0 b1 hS1 hT1 => ?_)
  refine RG.sg rfl rfl <| RG.sg rfl rfl <| RG.nil <| MX.sr <| RG.vv (FV.makeFunc (vs := []) (us := [.pointer (some ⟨b5, 0, none⟩), .pointer (some ⟨b1, 0, none⟩), .pointer (some ⟨b0, 0, none⟩)]) evs_nil (evs_cons rfl (evs_cons rfl (evs_cons rfl evs_nil)))) rfl <| RG.enterP (fst := []) (cap := []) (vs := [.func (.func 67) #[] #[.pointer (some ⟨b5, 0, none⟩), .pointer (some ⟨b1, 0, none⟩), .pointer (some ⟨b0, 0, none⟩)]]) .plain body66 Tryz.func66 rfl rfl rfl rfl (evs_cons rfl evs_nil) rfl (fun cs1 hb1 hp0 => ?_)
  refine MX.sr <| RG.new .plain rfl (Does.alloc (zs := [.slice none 0 0]) hS1 (zB (by kernel_rfl))) (fun w1 b2 hS2 hT2 => ?_)
  refine RG.new .plain rfl (Does.alloc (zs := [.int .i64 0]) hS2 (zB (by kernel_rfl))) (fun w3 b3 hS4 hT3 => ?_)
  refine RG.nil <| MX.sr <| RG.vv (FV.makeFunc (vs := []) (us := [.pointer (some ⟨b2, 0, none⟩), .pointer (some ⟨b3, 0, none⟩)]) evs_nil (evs_cons rfl (evs_cons rfl evs_nil))) rfl <| RG.defer (fst := []) (cap := [.pointer (some ⟨b2, 0, none⟩), .pointer (some ⟨b3, 0, none⟩)]) (vs := []) rfl .plain rfl evs_nil <| RG.nil <| MX.sr ?_
  refine RG.mv rfl rfl ?_
  obtain ⟨y0, hy0, h⟩ := bind_in h
  rcases y0 with e0 | y1
  ·skip
   have h := exc_e h
   try dsimp only at h
   have hm0 := Rep.mv h0_3 (Tr.trans hT4 (Tr.trans hT0 (Tr.trans hT1 (Tr.trans hT2 hT3))))
   have hm1 := Rep.mv h1_0 (Tr.trans hT4 (Tr.trans hT0 (Tr.trans hT1 (Tr.trans hT2 hT3))))
   refine RG.callE (fst := []) (cap := [.pointer (some ⟨b5, 0, none⟩), .pointer (some ⟨b1, 0, none⟩), .pointer (some ⟨b0, 0, none⟩)]) .plain body67 rfl evs_nil (fun w9 hw9 => balance_Totals_1_c n _ w9 (hS4.hL hL hw9) a0 (Rep.keep0 hm0 hw9) (fun j9 v9 h9 => hw9.cell0 ((hS4.memA (.tl (.tl (.tl (.tl .hd))))) j9 v9 h9)) a2 (fun j9 v9 h9 => hw9.cell0 ((hS4.memA (.tl (.tl .hd))) j9 v9 h9)) a1 (Rep.keep0 hm1 hw9) (fun j9 v9 h9 => hw9.cell0 ((hS4.memA (.tl (.tl (.tl .hd)))) j9 v9 h9)) hy0) (fun w4 hag0 => ?_)
   obtain ⟨hS5, hT5⟩ := hS4.agr hag0
   refine PN.callD (vs := []) (cap := [.pointer (some ⟨b2, 0, none⟩), .pointer (some ⟨b3, 0, none⟩)]) body122 Tryz.func122 rfl rfl rfl (fun c0 hc0 hk0 => ?_)
   refine MX.sr <| RG.recover1 .plain hc0 rfl <| RG.sg rfl rfl <| RG.nil <| MX.sr <| RG.mv rfl rfl ?_
   refine RG.vv (FV.neqI Tryz.underlying20 rfl rfl) rfl <| RG.nil <| MX.cond_t rfl <| MX.sr <| RG.mv rfl rfl <| RG.vv (FV.assertT (by kernel_rfl) rfl) rfl ?_
   refine RG.mv rfl rfl <| RG.vv (FV.extract rfl rfl) rfl <| RG.vv (FV.extract rfl rfl) rfl <| RG.new .plain rfl (Does.alloc (zs := [.int .i64 0]) hS5 (zB (by kernel_rfl))) (fun w5 b4 hS6 hT6 => ?_)
   refine RG.now .plain (Acts.storeAll (news := [.int .i64 e0.fErrno]) hS6 .hd rfl rfl rfl rfl rfl rfl (ones_cons rfl ones_nil)) (fun w6 hS7 hT7 => ?_)
   refine RG.sg rfl rfl <| RG.nil <| MX.seq <| MX.sr <| RG.mv rfl rfl <| RG.vv (FV.not rfl) rfl ?_
   refine RG.nil <| MX.cond_f rfl <| MX.skip <| MX.sr <| RG.sg rfl rfl <| RG.nil ?_
   refine MX.drawT 3 tb122_6 (by kernel_rfl) (by kernel_rfl) (by kernel_rfl) (fun kt0 kp0 => ?_)
   refine RD.vw 0 1 kt0 rfl kp0 (fun _ => FV.move rfl) rfl <| RD.vw 1 3 kt0 rfl kp0 (fun _ => FV.fieldAddr (off := 0) (by kernel_rfl) rfl) rfl <| RD.meet (α := Unit) (fun () => [(1, .pointer (some ⟨b3, 0, none⟩)), (19, .int .i64 e0.fErrno)]) (fun () wx0 => St w wx0 [.cells b3 [.int .i64 0] 51, .cells b2 [.slice none 0 0] 45, .cells b1 [.int .i64 a2] 3, .cells b0 [v1_0] 46, .cells b5 [.int .i64 a0.fGroups, .int .i64 a0.fParties, .int .i64 a0.fLevels, v0_3] 44] ∧ Tr w6 [.cells b4 [.int .i64 e0.fErrno] 140, .cells b3 [.int .i64 0] 51, .cells b2 [.slice none 0 0] 45, .cells b1 [.int .i64 a2] 3, .cells b0 [v1_0] 46, .cells b5 [.int .i64 a0.fGroups, .int .i64 a0.fParties, .int .i64 a0.fLevels, v0_3] 44] wx0 [.cells b3 [.int .i64 0] 51, .cells b2 [.slice none 0 0] 45, .cells b1 [.int .i64 a2] 3, .cells b0 [v1_0] 46, .cells b5 [.int .i64 a0.fGroups, .int .i64 a0.fParties, .int .i64 a0.fLevels, v0_3] 44]) 1 15 ?_ ?_
   ·skip
    rintro ⟨⟩ wx0 ⟨hS8, hT8⟩
    try dsimp only
    refine RD.nw 4 31 kt0 rfl rfl .plain (Acts.storeAll (news := [.int .i64 e0.fErrno]) hS8 .hd rfl rfl rfl rfl rfl rfl (ones_cons rfl ones_nil)) (fun w7 hS10 hT9 => ?_)
    refine RD.done (doneD_ok kt0 (by kernel_rfl)) <| MX.fin rfl <| RT.leaveD1 hk0 Tryz.func122 rfl .nil <| RT.leave (u := .tuple #[.slice none 0 0, .int .i64 e0.fErrno]) hb1 Tryz.func66 rfl (.cons (.one (by kernel_rfl) rfl ((hS10.memA (.tl .hd)) 0 _ rfl)) (.cons (.one (by kernel_rfl) rfl ((hS10.memA .hd) 0 _ rfl)) .nil)) rfl <| RG.vv (FV.extract rfl rfl) rfl <| RG.vv (FV.extract rfl rfl) rfl ?_
    refine RG.sg rfl rfl <| RG.sg rfl rfl <| RG.nil <| MX.ret rfl ?_
    have hr0 := Rep.nilAt (α := Int) hS10 L
    refine RT.leave hb0 Tryz.func19 rfl (.cons (.tmp rfl) (.cons (.tmp rfl) .nil)) rfl ?_
    obtain rfl := Option.some.inj h
    have hr1 := Rep.nilAt (α := Int) hS10 L
    exact ⟨hS10.ag, fun w9 hw9 => ⟨(.slice none 0 0), rfl, Rep.keep0 (Rep.dropS hS10 hr1) hw9⟩⟩
   ·skip
    intro hJ1263
    refine RD.each [2, 3] (readyD_ok kt0 (by kernel_rfl)) ⟨?_, ?_, trivial⟩
    ·skip
     refine RO.val (m' := 7) (stepC_ok kt0 (by kernel_rfl)) rfl .plain rfl (FV.load1 (by kernel_rfl) rfl ((hS7.memA .hd) 0 _ rfl)) <| RD.nw 3 15 kt0 rfl rfl .plain (Acts.storeAll (news := [.slice none 0 0]) hS7 (.tl (.tl .hd)) rfl rfl rfl rfl rfl rfl (ones_cons rfl ones_nil)) (fun w10 hS11 hT11 => ?_)
     obtain ⟨hS12, hT12⟩ := St.arrB hS11 (.one (.tl .hd) (.one (.tl .hd) (.one (.tl .hd) (.one (.tl .hd) (.one (.tl .hd) .done)))))
     exact hJ1263 () _ _ ⟨rfl, rfl, trivial⟩ ⟨hS12, (Tr.trans hT11 hT12)⟩
    ·skip
     refine RO.now (m' := 11) (stepC_ok kt0 (by kernel_rfl)) rfl rfl .plain (Acts.storeAll (news := [.slice none 0 0]) hS7 (.tl (.tl .hd)) rfl rfl rfl rfl rfl rfl (ones_cons rfl ones_nil)) (fun w10 hS11 hT11 => ?_)
     refine RD.vx 2 15 16 kt0 rfl kp0 (FV.load1 (by kernel_rfl) rfl ((hS11.memA .hd) 0 _ rfl)) rfl ?_
     obtain ⟨hS13, hT13⟩ := St.arrB hS11 (.one (.tl .hd) (.one (.tl .hd) (.one (.tl .hd) (.one (.tl .hd) (.one (.tl .hd) .done)))))
     exact hJ1263 () _ _ ⟨rfl, rfl, trivial⟩ ⟨hS13, (Tr.trans hT11 hT13)⟩
  have h := exc_o h
  try dsimp only at h
  have hm2 := Rep.mv h0_3 (Tr.trans hT4 (Tr.trans hT0 (Tr.trans hT1 (Tr.trans hT2 hT3))))
  have hm3 := Rep.mv h1_0 (Tr.trans hT4 (Tr.trans hT0 (Tr.trans hT1 (Tr.trans hT2 hT3))))
  refine RG.call' (fst := []) (cap := [.pointer (some ⟨b5, 0, none⟩), .pointer (some ⟨b1, 0, none⟩), .pointer (some ⟨b0, 0, none⟩)]) .plain body67 rfl evs_nil (fun w9 hw9 => Calls.okp (balance_Totals_1_c n _ w9 (hS4.hL hL hw9) a0 (Rep.keep0 hm2 hw9) (fun j9 v9 h9 => hw9.cell0 ((hS4.memA (.tl (.tl (.tl (.tl .hd))))) j9 v9 h9)) a2 (fun j9 v9 h9 => hw9.cell0 ((hS4.memA (.tl (.tl .hd))) j9 v9 h9)) a1 (Rep.keep0 hm3 hw9) (fun j9 v9 h9 => hw9.cell0 ((hS4.memA (.tl (.tl (.tl .hd)))) j9 v9 h9)) hy0)) rfl (fun w11 vu0 hag1 ⟨v0, hu_, hr2⟩ => ?_)
  subst hu_
  obtain ⟨hS15, hT14⟩ := hS4.agr hag1
  refine RG.now .plain (Acts.storeAll (news := [vu0]) hS15 (.tl .hd) rfl rfl rfl (Rep.c1 hr2) rfl rfl (ones_cons (Rep.o1 hr2) ones_nil)) (fun w12 hS16 hT16 => ?_)
  refine RG.now .plain (Acts.storeAll (news := [.int .i64 0]) hS16 .hd rfl rfl rfl rfl rfl rfl (ones_cons rfl ones_nil)) (fun w14 hS17 hT17 => ?_)
  refine RG.nil <| MX.ret rfl <| RT.callD (vs := []) (cap := [.pointer (some ⟨b2, 0, none⟩), .pointer (some ⟨b3, 0, none⟩)]) body122 Tryz.func122 rfl rfl rfl (fun c1 hc1 hk1 => ?_)
  refine MX.sr <| RG.recover0 .plain hc1 rfl <| RG.sg rfl rfl <| RG.nil <| MX.sr <| RG.mv rfl rfl ?_
  refine RG.vv (FV.neqI0 Tryz.underlying20 rfl rfl) rfl <| RG.nil <| MX.cond_f rfl <| MX.skip <| MX.fin rfl <| RT.leaveD0 hc1 hk1 Tryz.func122 rfl .nil ?_
  refine RT.leave (u := .tuple #[vu0, .int .i64 0]) hb1 Tryz.func66 rfl (.cons (.one (by kernel_rfl) rfl ((hS17.memA (.tl .hd)) 0 _ rfl)) (.cons (.one (by kernel_rfl) rfl ((hS17.memA .hd) 0 _ rfl)) .nil)) rfl <| RG.vv (FV.extract rfl rfl) rfl <| RG.vv (FV.extract rfl rfl) rfl <| RG.sg rfl rfl <| RG.sg rfl rfl <| RG.nil ?_
  refine MX.ret rfl <| RT.leave hb0 Tryz.func19 rfl (.cons (.tmp rfl) (.cons (.tmp rfl) .nil)) rfl ?_
  obtain rfl := Option.some.inj h
  have hm4 := Rep.mv hr2 (Tr.trans hT16 hT17)
  exact ⟨hS17.ag, fun w9 hw9 => ⟨vu0, rfl, Rep.keep0 (Rep.dropS hS17 hm4) hw9⟩⟩
def tb69_1 : List (Nat × Nat × Nat) := [(0, 8, 1), (0, 16, 2), (3, 32, 24), (4, 64, 32), (0, 128, 2), (24, 256, 192), (63, 0, 260)]
def balance_Ideal_1_p (n : Nat) (a0 : TRoll) (a1 : Int) : Option (Except Tbroken TShare) :=
  (balance_counted_p n a0 a1).bind fun y8 => exc y8 (fun y0 => (balance_count_people_p n y0).bind fun y1 => (balance_of_p n y1 a1).bind fun y2 => exc y2 (fun y3 => some (.ok y3)) (fun e0 => some (.error e0))) (fun e9 => some (.error e9))
theorem balance_Ideal_1_c (n : Nat) (L : List Nat) (w : World) (hL : ∀ b ∈ L, b < w.heap.size) (a0 : TRoll) {v0_3 : Value} (h0_3 : Rep.R w L [v0_3] a0.fUnits) {p0 : Nat} (m0 : ∀ j9 v9, ([.int .i64 a0.fGroups, .int .i64 a0.fParties, .int .i64 a0.fLevels, v0_3] : List Value)[j9]? = some v9 → w.cell? ((⟨p0, 0, none⟩ : Addr).add j9) = some v9) (a1 : Int) {p1 : Nat} (m1 : ∀ j9 v9, ([.int .i64 a1] : List Value)[j9]? = some v9 → w.cell? ((⟨p1, 0, none⟩ : Addr).add j9) = some v9)  {r : Except Tbroken TShare} (h : balance_Ideal_1_p n a0 a1 = some r) :
    Calls Tryz.prog 69 #[.pointer (some ⟨p0, 0, none⟩), .pointer (some ⟨p1, 0, none⟩)] w (PGives w (fun (y : TShare) _ u => u = .agg ((cs_TShare y)).toArray) (fun e => .iface 140 (.agg #[.int .i64 e.fErrno])) r) := by
  unfold balance_Ideal_1_p at h
  have hS0 := St.start w
  refine MX.startP Tryz.func69 rfl rfl rfl (fun _ cs0 hb0 hp0 => ?_)
  refine MX.sr <| RG.new .plain rfl (Does.alloc (zs := [.int .u64 0, .int .u64 0, .int .u64 0, .int .u64 0, .int .u64 0, .int .u64 0, .int .u64 0, .int .u64 0, .int .u64 0, .int .u64 0, .int .u64 0, .int .u64 0, .int .u64 0, .int .u64 0, .int .u64 0, .int .u64 0]) hS0 (zB (by kernel_rfl))) (fun w2 b5 hS3 hT4 => ?_)
  refine RG.nil <| MX.seq <| MX.drawT 6 tb69_1 (by kernel_rfl) (by kernel_rfl) (by kernel_rfl) (fun kt6 kp7 => ?_)
  refine RD.vx 0 1 108 kt6 rfl kp7 (FV.loadN (by kernel_rfl) rfl (fun j9 v9 h9 => hS3.ag.cell0 (m0 j9 v9 h9))) rfl <| RD.vx 1 3 108 kt6 rfl kp7 (FV.load1 (by kernel_rfl) rfl ((fun j9 v9 h9 => hS3.ag.cell0 (m1 j9 v9 h9)) 0 _ rfl)) rfl ?_
  obtain ⟨y8, hy8, h⟩ := bind_in h
  rcases y8 with e9 | y0
  ·skip
   have h := exc_e h
   try dsimp only at h
   refine RD.vx 4 19 96 kt6 rfl kp7 (FV.load1 (by kernel_rfl) rfl ((fun j9 v9 h9 => hS3.ag.cell0 (m1 j9 v9 h9)) 0 _ rfl)) rfl ?_
   have hm0 := Rep.mv h0_3 hT4
   refine RD.one (i := 2) (readyD_ok kt6 (by kernel_rfl)) (RO.callE (fst := []) (cap := []) rfl .plain body50 rfl (evs_cons rfl (evs_cons rfl evs_nil)) (fun w9 hw9 => balance_counted_c n _ w9 (hS3.hL hL hw9) a0 (Rep.keep0 hm0 hw9) a1 hy8) (fun w0 hag0 => ?_))
   obtain ⟨hS1, hT0⟩ := hS3.agr hag0
   obtain rfl := Option.some.inj h
   exact PN.leave hp0 Tryz.func69 ⟨hS1.ag, rfl⟩
  have h := exc_o h
  try dsimp only at h
  refine RD.vx 4 19 96 kt6 rfl kp7 (FV.load1 (by kernel_rfl) rfl ((fun j9 v9 h9 => hS3.ag.cell0 (m1 j9 v9 h9)) 0 _ rfl)) rfl ?_
  have hm1 := Rep.mv h0_3 hT4
  refine RD.cl 2 23 kt6 rfl .plain body50 rfl (evs_cons rfl (evs_cons rfl evs_nil)) (fun w9 hw9 => Calls.okp (balance_counted_c n _ w9 (hS3.hL hL hw9) a0 (Rep.keep0 hm1 hw9) a1 hy8)) rfl (fun w1 vu0 hag1 ⟨v0, hu_, hr0⟩ => ?_)
  subst hu_
  obtain ⟨hS2, hT1⟩ := hS3.agr hag1
  obtain ⟨y1, hy0, h⟩ := bind_in h
  refine RD.cq 3 31 96 (.int .i64 y1) kt6 rfl kp7 body71 rfl (evs_cons rfl evs_nil) (fun w9 hw9 => balance_count_people_c n _ w9 (hS2.hL0 hL hw9) y0 (Rep.keep0 (Rep.dropS hS2 hr0) hw9) hy0) rfl ?_
  obtain ⟨y2, hy1, h⟩ := bind_in h
  rcases y2 with e0 | y3
  ·skip
   have h := exc_e h
   try dsimp only at h
   refine RD.one (i := 5) (readyD_ok kt6 (by kernel_rfl)) (RO.callE (fst := []) (cap := []) rfl .plain body70 rfl (evs_cons rfl (evs_cons rfl evs_nil)) (fun w9 hw9 => balance_of_c n _ w9 (hS2.hL0 hL hw9) y1 a1 hy1) (fun w3 hag2 => ?_))
   obtain ⟨hS4, hT2⟩ := hS2.agr hag2
   obtain rfl := Option.some.inj h
   exact PN.leave hp0 Tryz.func69 ⟨hS4.ag, rfl⟩
  have h := exc_o h
  try dsimp only at h
  refine RD.cq 5 63 64 (.agg ((cs_TShare y3)).toArray) kt6 rfl kp7 body70 rfl (evs_cons rfl (evs_cons rfl evs_nil)) (fun w9 hw9 => Calls.okp (balance_of_c n _ w9 (hS2.hL0 hL hw9) y1 a1 hy1)) rfl <| RD.nw 6 127 kt6 rfl rfl .plain (Acts.storeAll (news := (cs_TShare y3)) hS2 .hd rfl rfl rfl rfl rfl rfl (onesB rfl)) (fun w4 hS5 hT3 => ?_)
  refine RD.done (doneD_ok kt6 (by kernel_rfl)) <| MX.ret rfl <| RT.leave hb0 Tryz.func69 rfl (.cons (.many (cs := (cs_TShare y3)) (by kernel_rfl) rfl (hS5.memA .hd)) .nil) rfl ?_
  obtain rfl := Option.some.inj h
  exact ⟨hS5.ag, fun w9 hw9 => okOf_in rfl⟩
def tb123_6 : List (Nat × Nat × Nat) := [(0, 131072, 32), (0, 262144, 8), (2, 524288, 262144), (1, 0, 131073), (15, 0, 524290)]
theorem body68 : bodyB Tryz.prog 68 = true := by kernel_rfl
theorem body69 : bodyB Tryz.prog 69 = true := by kernel_rfl
theorem body123 : bodyB Tryz.prog 123 = true := by kernel_rfl
def balance_Ideal_p (n : Nat) (a0 : TRoll) (a1 : Int) : Option (TShare × Int) :=
  (balance_Ideal_1_p n a0 a1).bind fun y0 => exc y0 (fun y1 => some (y1, (0 : Int))) (fun e0 => some ((⟨((0 : UInt64), (0 : UInt64), (0 : UInt64), (0 : UInt64), (0 : UInt64), (0 : UInt64), (0 : UInt64), (0 : UInt64)), ((0 : UInt64), (0 : UInt64), (0 : UInt64), (0 : UInt64), (0 : UInt64), (0 : UInt64), (0 : UInt64), (0 : UInt64))⟩ : TShare), e0.fErrno))
theorem balance_Ideal_c (n : Nat) (L : List Nat) (w : World) (hL : ∀ b ∈ L, b < w.heap.size) (a0 : TRoll) {v0_3 : Value} (h0_3 : Rep.R w L [v0_3] a0.fUnits) (a1 : Int)  {r : TShare × Int} (h : balance_Ideal_p n a0 a1 = some r) :
    Calls Tryz.prog 20 #[.agg #[.int .i64 a0.fGroups, .int .i64 a0.fParties, .int .i64 a0.fLevels, v0_3], .int .i64 a1] w (Gives w fun _ u => u = .tuple #[.agg ((cs_TShare r.1)).toArray, .int .i64 r.2]) := by
  unfold balance_Ideal_p at h
  have hS0 := St.start w
  refine MX.start Tryz.func20 rfl rfl rfl (fun _ cs0 hb0 => ?_)
  refine MX.sr <| RG.new .plain rfl (Does.box (vs := [.int .i64 a0.fGroups, .int .i64 a0.fParties, .int .i64 a0.fLevels, v0_3]) hS0 rfl rfl) (fun w2 b5 hS3 hT4 => ?_)
  refine RG.new .plain rfl (Does.box (vs := [.int .i64 a1]) hS3 rfl rfl) (fun w7 b0 hS8 hT9 => ?_)
  refine RG.new .plain rfl (Does.alloc (zs := [.int .u64 0, .int .u64 0, .int .u64 0, .int .u64 0, .int .u64 0, .int .u64 0, .int .u64 0, .int .u64 0, .int .u64 0, .int .u64 0, .int .u64 0, .int .u64 0, .int .u64 0, .int .u64 0, .int .u64 0, .int .u64 0]) hS8 (zB (by kernel_rfl))) (fun w0 b1 hS1 hT0 => ?_)
  refine RG.sg rfl rfl <| RG.nil <| MX.sr <| RG.vv (FV.makeFunc (vs := []) (us := [.pointer (some ⟨b5, 0, none⟩), .pointer (some ⟨b0, 0, none⟩)]) evs_nil (evs_cons rfl (evs_cons rfl evs_nil))) rfl <| RG.enterP (fst := []) (cap := []) (vs := [.func (.func 69) #[] #[.pointer (some ⟨b5, 0, none⟩), .pointer (some ⟨b0, 0, none⟩)]]) .plain body68 Tryz.func68 rfl rfl rfl rfl (evs_cons rfl evs_nil) rfl (fun cs1 hb1 hp0 => ?_)
  refine MX.sr <| RG.new .plain rfl (Does.alloc (zs := [.int .u64 0, .int .u64 0, .int .u64 0, .int .u64 0, .int .u64 0, .int .u64 0, .int .u64 0, .int .u64 0, .int .u64 0, .int .u64 0, .int .u64 0, .int .u64 0, .int .u64 0, .int .u64 0, .int .u64 0, .int .u64 0]) hS1 (zB (by kernel_rfl))) (fun w1 b2 hS2 hT1 => ?_)
  refine RG.new .plain rfl (Does.alloc (zs := [.int .i64 0]) hS2 (zB (by kernel_rfl))) (fun w3 b3 hS4 hT2 => ?_)
  refine RG.nil <| MX.sr <| RG.vv (FV.makeFunc (vs := []) (us := [.pointer (some ⟨b2, 0, none⟩), .pointer (some ⟨b3, 0, none⟩)]) evs_nil (evs_cons rfl (evs_cons rfl evs_nil))) rfl <| RG.defer (fst := []) (cap := [.pointer (some ⟨b2, 0, none⟩), .pointer (some ⟨b3, 0, none⟩)]) (vs := []) rfl .plain rfl evs_nil <| RG.nil <| MX.sr ?_
  refine RG.mv rfl rfl ?_
  obtain ⟨y0, hy0, h⟩ := bind_in h
  rcases y0 with e0 | y1
  ·skip
   have h := exc_e h
   try dsimp only at h
   have hm0 := Rep.mv h0_3 (Tr.trans hT4 (Tr.trans hT9 (Tr.trans hT0 (Tr.trans hT1 hT2))))
   refine RG.callE (fst := []) (cap := [.pointer (some ⟨b5, 0, none⟩), .pointer (some ⟨b0, 0, none⟩)]) .plain body69 rfl evs_nil (fun w9 hw9 => balance_Ideal_1_c n _ w9 (hS4.hL0 hL hw9) a0 (Rep.keep0 (Rep.dropS hS4 hm0) hw9) (fun j9 v9 h9 => hw9.cell0 ((hS4.memA (.tl (.tl (.tl (.tl .hd))))) j9 v9 h9)) a1 (fun j9 v9 h9 => hw9.cell0 ((hS4.memA (.tl (.tl (.tl .hd)))) j9 v9 h9)) hy0) (fun w4 hag0 => ?_)
   obtain ⟨hS5, hT3⟩ := hS4.agr hag0
   refine PN.callD (vs := []) (cap := [.pointer (some ⟨b2, 0, none⟩), .pointer (some ⟨b3, 0, none⟩)]) body123 Tryz.func123 rfl rfl rfl (fun c0 hc0 hk0 => ?_)
   refine MX.sr <| RG.recover1 .plain hc0 rfl <| RG.sg rfl rfl <| RG.nil <| MX.sr <| RG.mv rfl rfl ?_
   refine RG.vv (FV.neqI Tryz.underlying20 rfl rfl) rfl <| RG.nil <| MX.cond_t rfl <| MX.sr <| RG.mv rfl rfl <| RG.vv (FV.assertT (by kernel_rfl) rfl) rfl ?_
   refine RG.mv rfl rfl <| RG.vv (FV.extract rfl rfl) rfl <| RG.vv (FV.extract rfl rfl) rfl <| RG.new .plain rfl (Does.alloc (zs := [.int .i64 0]) hS5 (zB (by kernel_rfl))) (fun w5 b4 hS6 hT5 => ?_)
   refine RG.now .plain (Acts.storeAll (news := [.int .i64 e0.fErrno]) hS6 .hd rfl rfl rfl rfl rfl rfl (ones_cons rfl ones_nil)) (fun w6 hS7 hT6 => ?_)
   refine RG.sg rfl rfl <| RG.nil <| MX.seq <| MX.sr <| RG.mv rfl rfl <| RG.vv (FV.not rfl) rfl ?_
   refine RG.nil <| MX.cond_f rfl <| MX.skip <| MX.sr <| RG.new .plain rfl (Does.alloc (zs := [.int .u64 0, .int .u64 0, .int .u64 0, .int .u64 0, .int .u64 0, .int .u64 0, .int .u64 0, .int .u64 0, .int .u64 0, .int .u64 0, .int .u64 0, .int .u64 0, .int .u64 0, .int .u64 0, .int .u64 0, .int .u64 0]) hS7 (zB (by kernel_rfl))) (fun w8 b6 hS9 hT7 => ?_)
   refine RG.nil <| MX.drawT 3 tb123_6 (by kernel_rfl) (by kernel_rfl) (by kernel_rfl) (fun kt0 kp0 => ?_)
   refine RD.vx 0 1 24 kt0 rfl kp0 (FV.loadN (by kernel_rfl) rfl (hS9.memA .hd)) rfl <| RD.vw 1 3 kt0 rfl kp0 (fun _ => FV.fieldAddr (off := 0) (by kernel_rfl) rfl) rfl <| RD.meet (α := Unit) (fun () => [(1, .pointer (some ⟨b3, 0, none⟩)), (19, .int .i64 e0.fErrno)]) (fun () wx0 => St w wx0 [.cells b3 [.int .i64 0] 51, .cells b2 [.int .u64 0, .int .u64 0, .int .u64 0, .int .u64 0, .int .u64 0, .int .u64 0, .int .u64 0, .int .u64 0, .int .u64 0, .int .u64 0, .int .u64 0, .int .u64 0, .int .u64 0, .int .u64 0, .int .u64 0, .int .u64 0] 37, .cells b1 [.int .u64 0, .int .u64 0, .int .u64 0, .int .u64 0, .int .u64 0, .int .u64 0, .int .u64 0, .int .u64 0, .int .u64 0, .int .u64 0, .int .u64 0, .int .u64 0, .int .u64 0, .int .u64 0, .int .u64 0, .int .u64 0] 37, .cells b0 [.int .i64 a1] 3, .cells b5 [.int .i64 a0.fGroups, .int .i64 a0.fParties, .int .i64 a0.fLevels, v0_3] 44] ∧ Tr w8 [.cells b6 [.int .u64 0, .int .u64 0, .int .u64 0, .int .u64 0, .int .u64 0, .int .u64 0, .int .u64 0, .int .u64 0, .int .u64 0, .int .u64 0, .int .u64 0, .int .u64 0, .int .u64 0, .int .u64 0, .int .u64 0, .int .u64 0] 37, .cells b4 [.int .i64 e0.fErrno] 140, .cells b3 [.int .i64 0] 51, .cells b2 [.int .u64 0, .int .u64 0, .int .u64 0, .int .u64 0, .int .u64 0, .int .u64 0, .int .u64 0, .int .u64 0, .int .u64 0, .int .u64 0, .int .u64 0, .int .u64 0, .int .u64 0, .int .u64 0, .int .u64 0, .int .u64 0] 37, .cells b1 [.int .u64 0, .int .u64 0, .int .u64 0, .int .u64 0, .int .u64 0, .int .u64 0, .int .u64 0, .int .u64 0, .int .u64 0, .int .u64 0, .int .u64 0, .int .u64 0, .int .u64 0, .int .u64 0, .int .u64 0, .int .u64 0] 37, .cells b0 [.int .i64 a1] 3, .cells b5 [.int .i64 a0.fGroups, .int .i64 a0.fParties, .int .i64 a0.fLevels, v0_3] 44] wx0 [.cells b3 [.int .i64 0] 51, .cells b2 [.int .u64 0, .int .u64 0, .int .u64 0, .int .u64 0, .int .u64 0, .int .u64 0, .int .u64 0, .int .u64 0, .int .u64 0, .int .u64 0, .int .u64 0, .int .u64 0, .int .u64 0, .int .u64 0, .int .u64 0, .int .u64 0] 37, .cells b1 [.int .u64 0, .int .u64 0, .int .u64 0, .int .u64 0, .int .u64 0, .int .u64 0, .int .u64 0, .int .u64 0, .int .u64 0, .int .u64 0, .int .u64 0, .int .u64 0, .int .u64 0, .int .u64 0, .int .u64 0, .int .u64 0] 37, .cells b0 [.int .i64 a1] 3, .cells b5 [.int .i64 a0.fGroups, .int .i64 a0.fParties, .int .i64 a0.fLevels, v0_3] 44]) 1 15 ?_ ?_
   ·skip
    rintro ⟨⟩ wx0 ⟨hS10, hT8⟩
    try dsimp only
    refine RD.nw 4 31 kt0 rfl rfl .plain (Acts.storeAll (news := [.int .i64 e0.fErrno]) hS10 .hd rfl rfl rfl rfl rfl rfl (ones_cons rfl ones_nil)) (fun w10 hS11 hT10 => ?_)
    refine RD.done (doneD_ok kt0 (by kernel_rfl)) <| MX.fin rfl <| RT.leaveD1 hk0 Tryz.func123 rfl .nil <| RT.leave (u := .tuple #[.agg #[.int .u64 0, .int .u64 0, .int .u64 0, .int .u64 0, .int .u64 0, .int .u64 0, .int .u64 0, .int .u64 0, .int .u64 0, .int .u64 0, .int .u64 0, .int .u64 0, .int .u64 0, .int .u64 0, .int .u64 0, .int .u64 0], .int .i64 e0.fErrno]) hb1 Tryz.func68 rfl (.cons (.many (cs := [.int .u64 0, .int .u64 0, .int .u64 0, .int .u64 0, .int .u64 0, .int .u64 0, .int .u64 0, .int .u64 0, .int .u64 0, .int .u64 0, .int .u64 0, .int .u64 0, .int .u64 0, .int .u64 0, .int .u64 0, .int .u64 0]) (by kernel_rfl) rfl (hS11.memA (.tl .hd))) (.cons (.one (by kernel_rfl) rfl ((hS11.memA .hd) 0 _ rfl)) .nil)) rfl <| RG.vv (FV.extract rfl rfl) rfl <| RG.vv (FV.extract rfl rfl) rfl ?_
    refine RG.now .plain (Acts.storeAll (news := [.int .u64 0, .int .u64 0, .int .u64 0, .int .u64 0, .int .u64 0, .int .u64 0, .int .u64 0, .int .u64 0, .int .u64 0, .int .u64 0, .int .u64 0, .int .u64 0, .int .u64 0, .int .u64 0, .int .u64 0, .int .u64 0]) hS11 (.tl (.tl .hd)) rfl rfl rfl rfl rfl rfl (onesB rfl)) (fun w11 hS12 hT11 => ?_)
    refine RG.sg rfl rfl <| RG.nil <| MX.ret rfl <| RT.leave hb0 Tryz.func20 rfl (.cons (.many (cs := [.int .u64 0, .int .u64 0, .int .u64 0, .int .u64 0, .int .u64 0, .int .u64 0, .int .u64 0, .int .u64 0, .int .u64 0, .int .u64 0, .int .u64 0, .int .u64 0, .int .u64 0, .int .u64 0, .int .u64 0, .int .u64 0]) (by kernel_rfl) rfl (hS12.memA (.tl (.tl .hd)))) (.cons (.tmp rfl) .nil)) rfl ?_
    obtain rfl := Option.some.inj h
    exact ⟨hS12.ag, fun w9 hw9 => rfl⟩
   ·skip
    intro hJ1267
    refine RD.each [2, 3] (readyD_ok kt0 (by kernel_rfl)) ⟨?_, ?_, trivial⟩
    ·skip
     refine RO.val (m' := 7) (stepC_ok kt0 (by kernel_rfl)) rfl .plain rfl (FV.load1 (by kernel_rfl) rfl ((hS9.memA (.tl .hd)) 0 _ rfl)) <| RD.nw 3 15 kt0 rfl rfl .plain (Acts.storeAll (news := [.int .u64 0, .int .u64 0, .int .u64 0, .int .u64 0, .int .u64 0, .int .u64 0, .int .u64 0, .int .u64 0, .int .u64 0, .int .u64 0, .int .u64 0, .int .u64 0, .int .u64 0, .int .u64 0, .int .u64 0, .int .u64 0]) hS9 (.tl (.tl (.tl .hd))) rfl rfl rfl rfl rfl rfl (onesB rfl)) (fun w13 hS14 hT12 => ?_)
     obtain ⟨hS15, hT13⟩ := St.arrB hS14 (.one (.tl (.tl .hd)) (.one (.tl (.tl .hd)) (.one (.tl (.tl .hd)) (.one (.tl (.tl .hd)) (.one (.tl (.tl .hd)) .done)))))
     exact hJ1267 () _ _ ⟨rfl, rfl, trivial⟩ ⟨hS15, (Tr.trans hT12 hT13)⟩
    ·skip
     refine RO.now (m' := 11) (stepC_ok kt0 (by kernel_rfl)) rfl rfl .plain (Acts.storeAll (news := [.int .u64 0, .int .u64 0, .int .u64 0, .int .u64 0, .int .u64 0, .int .u64 0, .int .u64 0, .int .u64 0, .int .u64 0, .int .u64 0, .int .u64 0, .int .u64 0, .int .u64 0, .int .u64 0, .int .u64 0, .int .u64 0]) hS9 (.tl (.tl (.tl .hd))) rfl rfl rfl rfl rfl rfl (onesB rfl)) (fun w13 hS14 hT12 => ?_)
     refine RD.vx 2 15 16 kt0 rfl kp0 (FV.load1 (by kernel_rfl) rfl ((hS14.memA (.tl .hd)) 0 _ rfl)) rfl ?_
     obtain ⟨hS16, hT15⟩ := St.arrB hS14 (.one (.tl (.tl .hd)) (.one (.tl (.tl .hd)) (.one (.tl (.tl .hd)) (.one (.tl (.tl .hd)) (.one (.tl (.tl .hd)) .done)))))
     exact hJ1267 () _ _ ⟨rfl, rfl, trivial⟩ ⟨hS16, (Tr.trans hT12 hT15)⟩
  have h := exc_o h
  try dsimp only at h
  have hm1 := Rep.mv h0_3 (Tr.trans hT4 (Tr.trans hT9 (Tr.trans hT0 (Tr.trans hT1 hT2))))
  refine RG.callq' (v := .agg ((cs_TShare y1)).toArray) (fst := []) (cap := [.pointer (some ⟨b5, 0, none⟩), .pointer (some ⟨b0, 0, none⟩)]) .plain body69 rfl evs_nil (fun w9 hw9 => Calls.okp (balance_Ideal_1_c n _ w9 (hS4.hL0 hL hw9) a0 (Rep.keep0 (Rep.dropS hS4 hm1) hw9) (fun j9 v9 h9 => hw9.cell0 ((hS4.memA (.tl (.tl (.tl (.tl .hd))))) j9 v9 h9)) a1 (fun j9 v9 h9 => hw9.cell0 ((hS4.memA (.tl (.tl (.tl .hd)))) j9 v9 h9)) hy0)) rfl <| RG.now .plain (Acts.storeAll (news := (cs_TShare y1)) hS4 (.tl .hd) rfl rfl rfl rfl rfl rfl (onesB rfl)) (fun w14 hS17 hT16 => ?_)
  refine RG.now .plain (Acts.storeAll (news := [.int .i64 0]) hS17 .hd rfl rfl rfl rfl rfl rfl (ones_cons rfl ones_nil)) (fun w15 hS18 hT17 => ?_)
  refine RG.nil <| MX.ret rfl <| RT.callD (vs := []) (cap := [.pointer (some ⟨b2, 0, none⟩), .pointer (some ⟨b3, 0, none⟩)]) body123 Tryz.func123 rfl rfl rfl (fun c1 hc1 hk1 => ?_)
  refine MX.sr <| RG.recover0 .plain hc1 rfl <| RG.sg rfl rfl <| RG.nil <| MX.sr <| RG.mv rfl rfl ?_
  refine RG.vv (FV.neqI0 Tryz.underlying20 rfl rfl) rfl <| RG.nil <| MX.cond_f rfl <| MX.skip <| MX.fin rfl <| RT.leaveD0 hc1 hk1 Tryz.func123 rfl .nil ?_
  refine RT.leave (u := .tuple #[.agg ((cs_TShare y1)).toArray, .int .i64 0]) hb1 Tryz.func68 rfl (.cons (.many (cs := (cs_TShare y1)) (by kernel_rfl) rfl (hS18.memA (.tl .hd))) (.cons (.one (by kernel_rfl) rfl ((hS18.memA .hd) 0 _ rfl)) .nil)) rfl <| RG.vv (FV.extract rfl rfl) rfl <| RG.vv (FV.extract rfl rfl) rfl <| RG.now .plain (Acts.storeAll (news := (cs_TShare y1)) hS18 (.tl (.tl .hd)) rfl rfl rfl rfl rfl rfl (onesB rfl)) (fun w16 hS19 hT18 => ?_)
  refine RG.sg rfl rfl <| RG.nil <| MX.ret rfl <| RT.leave hb0 Tryz.func20 rfl (.cons (.many (cs := (cs_TShare y1)) (by kernel_rfl) rfl (hS19.memA (.tl (.tl .hd)))) (.cons (.tmp rfl) .nil)) rfl ?_
  obtain rfl := Option.some.inj h
  exact ⟨hS19.ag, fun w9 hw9 => rfl⟩
def wardmotelaw22_of_p (n : Nat) (a0 : Int) (a1 : Int) : Option TShare :=
  (share_Of_p n a0 a1).bind fun y6 => some y6.1
theorem wardmotelaw22_of_c (n : Nat) (L : List Nat) (w : World) (hL : ∀ b ∈ L, b < w.heap.size) (a0 : Int) (a1 : Int)  {r : TShare} (h : wardmotelaw22_of_p n a0 a1 = some r) :
    Calls Tryz.prog 23 #[.int .i64 a0, .int .i64 a1] w (Gives w fun _ u => u = .agg ((cs_TShare r)).toArray) := by
  unfold wardmotelaw22_of_p at h
  have hS0 := St.start w
  refine MX.start Tryz.func23 rfl rfl rfl (fun _ cs0 hb0 => ?_)
  refine MX.sr <| RG.new .plain rfl (Does.alloc (zs := [.int .u64 0, .int .u64 0, .int .u64 0, .int .u64 0, .int .u64 0, .int .u64 0, .int .u64 0, .int .u64 0, .int .u64 0, .int .u64 0, .int .u64 0, .int .u64 0, .int .u64 0, .int .u64 0, .int .u64 0, .int .u64 0]) hS0 (zB (by kernel_rfl))) (fun w2 b5 hS3 hT4 => ?_)
  refine RG.nil <| MX.sr <| RG.mv rfl rfl <| RG.mv rfl rfl ?_
  obtain ⟨y6, hy6, h⟩ := bind_in h
  refine RG.cq (.tuple #[.agg ((cs_TShare y6.1)).toArray, .int .i64 y6.2]) body78 rfl (evs_cons rfl (evs_cons rfl evs_nil)) (fun w9 hw9 => share_Of_c n _ w9 (hS3.hL0 hL hw9) a0 a1 hy6) rfl <| RG.mv rfl rfl <| RG.vv (FV.extract rfl rfl) rfl <| RG.vv (FV.extract rfl rfl) rfl <| RG.new .plain rfl (Does.alloc (zs := [.int .u64 0, .int .u64 0, .int .u64 0, .int .u64 0, .int .u64 0, .int .u64 0, .int .u64 0, .int .u64 0, .int .u64 0, .int .u64 0, .int .u64 0, .int .u64 0, .int .u64 0, .int .u64 0, .int .u64 0, .int .u64 0]) hS3 (zB (by kernel_rfl))) (fun w8 b0 hS9 hT0 => ?_)
  refine RG.now .plain (Acts.storeAll (news := (cs_TShare y6.1)) hS9 .hd rfl rfl rfl rfl rfl rfl (onesB rfl)) (fun w0 hS1 hT1 => ?_)
  refine RG.sg rfl rfl <| RG.nil <| MX.sr <| RG.vv (FV.loadN (by kernel_rfl) rfl (hS1.memA .hd)) rfl <| RG.now .plain (Acts.storeAll (news := (cs_TShare y6.1)) hS1 (.tl .hd) rfl rfl rfl rfl rfl rfl (onesB rfl)) (fun w1 hS2 hT2 => ?_)
  refine RG.nil <| MX.ret rfl <| RT.leave hb0 Tryz.func23 rfl (.cons (.many (cs := (cs_TShare y6.1)) (by kernel_rfl) rfl (hS2.memA (.tl .hd))) .nil) rfl ?_
  obtain rfl := Option.some.inj h
  exact ⟨hS2.ag, fun w9 hw9 => rfl⟩
def tb72_1 : List (Nat × Nat × Nat) := [(0, 128, 16), (0, 256, 4), (0, 512, 8), (6, 1024, 768), (9, 2048, 1152), (24, 4096, 2048), (32, 8192, 4098), (96, 16384, 12288), (160, 32768, 20480), (511, 64, 32768)]
theorem body23 : bodyB Tryz.prog 23 = true := by kernel_rfl
theorem ex_TShare {a b : TShare} (h0 : a.fN.1 = b.fN.1) (h1 : a.fN.2.1 = b.fN.2.1) (h2 : a.fN.2.2.1 = b.fN.2.2.1) (h3 : a.fN.2.2.2.1 = b.fN.2.2.2.1) (h4 : a.fN.2.2.2.2.1 = b.fN.2.2.2.2.1) (h5 : a.fN.2.2.2.2.2.1 = b.fN.2.2.2.2.2.1) (h6 : a.fN.2.2.2.2.2.2.1 = b.fN.2.2.2.2.2.2.1) (h7 : a.fN.2.2.2.2.2.2.2 = b.fN.2.2.2.2.2.2.2) (h8 : a.fD.1 = b.fD.1) (h9 : a.fD.2.1 = b.fD.2.1) (h10 : a.fD.2.2.1 = b.fD.2.2.1) (h11 : a.fD.2.2.2.1 = b.fD.2.2.2.1) (h12 : a.fD.2.2.2.2.1 = b.fD.2.2.2.2.1) (h13 : a.fD.2.2.2.2.2.1 = b.fD.2.2.2.2.2.1) (h14 : a.fD.2.2.2.2.2.2.1 = b.fD.2.2.2.2.2.2.1) (h15 : a.fD.2.2.2.2.2.2.2 = b.fD.2.2.2.2.2.2.2) : a = b := congr (congrArg TShare.mk (ex_A34 (a := a.fN) (b := b.fN) h0 h1 h2 h3 h4 h5 h6 h7)) (ex_A34 (a := a.fD) (b := b.fD) h8 h9 h10 h11 h12 h13 h14 h15)
theorem eqlD_37 (a b : TShare) (w9 : World) : (do eqGuard .eql 37 (.tmp 0) (.tmp 0) (.agg #[.int .u64 (a.fN.1.toNat : Int), .int .u64 (a.fN.2.1.toNat : Int), .int .u64 (a.fN.2.2.1.toNat : Int), .int .u64 (a.fN.2.2.2.1.toNat : Int), .int .u64 (a.fN.2.2.2.2.1.toNat : Int), .int .u64 (a.fN.2.2.2.2.2.1.toNat : Int), .int .u64 (a.fN.2.2.2.2.2.2.1.toNat : Int), .int .u64 (a.fN.2.2.2.2.2.2.2.toNat : Int), .int .u64 (a.fD.1.toNat : Int), .int .u64 (a.fD.2.1.toNat : Int), .int .u64 (a.fD.2.2.1.toNat : Int), .int .u64 (a.fD.2.2.2.1.toNat : Int), .int .u64 (a.fD.2.2.2.2.1.toNat : Int), .int .u64 (a.fD.2.2.2.2.2.1.toNat : Int), .int .u64 (a.fD.2.2.2.2.2.2.1.toNat : Int), .int .u64 (a.fD.2.2.2.2.2.2.2.toNat : Int)]) (.agg #[.int .u64 (b.fN.1.toNat : Int), .int .u64 (b.fN.2.1.toNat : Int), .int .u64 (b.fN.2.2.1.toNat : Int), .int .u64 (b.fN.2.2.2.1.toNat : Int), .int .u64 (b.fN.2.2.2.2.1.toNat : Int), .int .u64 (b.fN.2.2.2.2.2.1.toNat : Int), .int .u64 (b.fN.2.2.2.2.2.2.1.toNat : Int), .int .u64 (b.fN.2.2.2.2.2.2.2.toNat : Int), .int .u64 (b.fD.1.toNat : Int), .int .u64 (b.fD.2.1.toNat : Int), .int .u64 (b.fD.2.2.1.toNat : Int), .int .u64 (b.fD.2.2.2.1.toNat : Int), .int .u64 (b.fD.2.2.2.2.1.toNat : Int), .int .u64 (b.fD.2.2.2.2.2.1.toNat : Int), .int .u64 (b.fD.2.2.2.2.2.2.1.toNat : Int), .int .u64 (b.fD.2.2.2.2.2.2.2.toNat : Int)]); binOp .eql 37 (.agg #[.int .u64 (a.fN.1.toNat : Int), .int .u64 (a.fN.2.1.toNat : Int), .int .u64 (a.fN.2.2.1.toNat : Int), .int .u64 (a.fN.2.2.2.1.toNat : Int), .int .u64 (a.fN.2.2.2.2.1.toNat : Int), .int .u64 (a.fN.2.2.2.2.2.1.toNat : Int), .int .u64 (a.fN.2.2.2.2.2.2.1.toNat : Int), .int .u64 (a.fN.2.2.2.2.2.2.2.toNat : Int), .int .u64 (a.fD.1.toNat : Int), .int .u64 (a.fD.2.1.toNat : Int), .int .u64 (a.fD.2.2.1.toNat : Int), .int .u64 (a.fD.2.2.2.1.toNat : Int), .int .u64 (a.fD.2.2.2.2.1.toNat : Int), .int .u64 (a.fD.2.2.2.2.2.1.toNat : Int), .int .u64 (a.fD.2.2.2.2.2.2.1.toNat : Int), .int .u64 (a.fD.2.2.2.2.2.2.2.toNat : Int)]) (.agg #[.int .u64 (b.fN.1.toNat : Int), .int .u64 (b.fN.2.1.toNat : Int), .int .u64 (b.fN.2.2.1.toNat : Int), .int .u64 (b.fN.2.2.2.1.toNat : Int), .int .u64 (b.fN.2.2.2.2.1.toNat : Int), .int .u64 (b.fN.2.2.2.2.2.1.toNat : Int), .int .u64 (b.fN.2.2.2.2.2.2.1.toNat : Int), .int .u64 (b.fN.2.2.2.2.2.2.2.toNat : Int), .int .u64 (b.fD.1.toNat : Int), .int .u64 (b.fD.2.1.toNat : Int), .int .u64 (b.fD.2.2.1.toNat : Int), .int .u64 (b.fD.2.2.2.1.toNat : Int), .int .u64 (b.fD.2.2.2.2.1.toNat : Int), .int .u64 (b.fD.2.2.2.2.2.1.toNat : Int), .int .u64 (b.fD.2.2.2.2.2.2.1.toNat : Int), .int .u64 (b.fD.2.2.2.2.2.2.2.toNat : Int)]) : Sem Value).run Tryz.prog w9 = .ok (.bool (decide (a = b))) w9 :=
  eqAgg (ks := [.int .u64, .int .u64, .int .u64, .int .u64, .int .u64, .int .u64, .int .u64, .int .u64, .int .u64, .int .u64, .int .u64, .int .u64, .int .u64, .int .u64, .int .u64, .int .u64]) (xs := [.int .u64 (a.fN.1.toNat : Int), .int .u64 (a.fN.2.1.toNat : Int), .int .u64 (a.fN.2.2.1.toNat : Int), .int .u64 (a.fN.2.2.2.1.toNat : Int), .int .u64 (a.fN.2.2.2.2.1.toNat : Int), .int .u64 (a.fN.2.2.2.2.2.1.toNat : Int), .int .u64 (a.fN.2.2.2.2.2.2.1.toNat : Int), .int .u64 (a.fN.2.2.2.2.2.2.2.toNat : Int), .int .u64 (a.fD.1.toNat : Int), .int .u64 (a.fD.2.1.toNat : Int), .int .u64 (a.fD.2.2.1.toNat : Int), .int .u64 (a.fD.2.2.2.1.toNat : Int), .int .u64 (a.fD.2.2.2.2.1.toNat : Int), .int .u64 (a.fD.2.2.2.2.2.1.toNat : Int), .int .u64 (a.fD.2.2.2.2.2.2.1.toNat : Int), .int .u64 (a.fD.2.2.2.2.2.2.2.toNat : Int)]) (ys := [.int .u64 (b.fN.1.toNat : Int), .int .u64 (b.fN.2.1.toNat : Int), .int .u64 (b.fN.2.2.1.toNat : Int), .int .u64 (b.fN.2.2.2.1.toNat : Int), .int .u64 (b.fN.2.2.2.2.1.toNat : Int), .int .u64 (b.fN.2.2.2.2.2.1.toNat : Int), .int .u64 (b.fN.2.2.2.2.2.2.1.toNat : Int), .int .u64 (b.fN.2.2.2.2.2.2.2.toNat : Int), .int .u64 (b.fD.1.toNat : Int), .int .u64 (b.fD.2.1.toNat : Int), .int .u64 (b.fD.2.2.1.toNat : Int), .int .u64 (b.fD.2.2.2.1.toNat : Int), .int .u64 (b.fD.2.2.2.2.1.toNat : Int), .int .u64 (b.fD.2.2.2.2.2.1.toNat : Int), .int .u64 (b.fD.2.2.2.2.2.2.1.toNat : Int), .int .u64 (b.fD.2.2.2.2.2.2.2.toNat : Int)]) (by kernel_rfl) (by kernel_rfl) (by kernel_rfl) rfl rfl ⟨fun h => by
    simp only [allEq, veq, Bool.and_eq_true, beq_iff_eq, and_true] at h
    obtain ⟨h0, h1, h2, h3, h4, h5, h6, h7, h8, h9, h10, h11, h12, h13, h14, h15⟩ := h
    exact ex_TShare (UInt_inj64 h0) (UInt_inj64 h1) (UInt_inj64 h2) (UInt_inj64 h3) (UInt_inj64 h4) (UInt_inj64 h5) (UInt_inj64 h6) (UInt_inj64 h7) (UInt_inj64 h8) (UInt_inj64 h9) (UInt_inj64 h10) (UInt_inj64 h11) (UInt_inj64 h12) (UInt_inj64 h13) (UInt_inj64 h14) (UInt_inj64 h15), fun h => by subst h; simp [allEq, veq]⟩ _ _ w9
def wardmotelaw22_part_1_p (n : Nat) (a0 : TShare) (a1 : Int) (a2 : Int) (a3 : Int) : Option Bool :=
  (wardmotelaw22_of_p n a2 a3).bind fun y8 => (if a0 = y8 then some (decide (a1 = 0)) else some false)
theorem wardmotelaw22_part_1_c (n : Nat) (L : List Nat) (w : World) (hL : ∀ b ∈ L, b < w.heap.size) (a0 : TShare) (a1 : Int) (a2 : Int) {p2 : Nat} (m2 : ∀ j9 v9, ([.int .i64 a2] : List Value)[j9]? = some v9 → w.cell? ((⟨p2, 0, none⟩ : Addr).add j9) = some v9) (a3 : Int) {p3 : Nat} (m3 : ∀ j9 v9, ([.int .i64 a3] : List Value)[j9]? = some v9 → w.cell? ((⟨p3, 0, none⟩ : Addr).add j9) = some v9)  {r : Bool} (h : wardmotelaw22_part_1_p n a0 a1 a2 a3 = some r) :
    Calls Tryz.prog 72 #[.agg ((cs_TShare a0)).toArray, .int .i64 a1, .pointer (some ⟨p2, 0, none⟩), .pointer (some ⟨p3, 0, none⟩)] w (Gives w fun _ u => u = .bool r) := by
  unfold wardmotelaw22_part_1_p at h
  have hS0 := St.start w
  refine MX.start Tryz.func72 rfl rfl rfl (fun _ cs0 hb0 => ?_)
  refine MX.sr <| RG.new .plain rfl (Does.box (vs := (cs_TShare a0)) hS0 rfl rfl) (fun w2 b5 hS3 hT4 => ?_)
  refine RG.sg rfl rfl <| RG.nil <| MX.seq <| MX.drawT 10 tb72_1 (by kernel_rfl) (by kernel_rfl) (by kernel_rfl) (fun kt6 kp7 => ?_)
  refine RD.vx 0 1 1008 kt6 rfl kp7 (FV.loadN (by kernel_rfl) rfl (hS3.memA .hd)) rfl <| RD.vx 1 3 1016 kt6 rfl kp7 (FV.load1 (by kernel_rfl) rfl ((fun j9 v9 h9 => hS3.ag.cell0 (m2 j9 v9 h9)) 0 _ rfl)) rfl <| RD.vx 2 7 1016 kt6 rfl kp7 (FV.load1 (by kernel_rfl) rfl ((fun j9 v9 h9 => hS3.ag.cell0 (m3 j9 v9 h9)) 0 _ rfl)) rfl ?_
  obtain ⟨y8, hy8, h⟩ := bind_in h
  refine RD.cq 3 15 1008 (.agg ((cs_TShare y8)).toArray) kt6 rfl kp7 body23 rfl (evs_cons rfl (evs_cons rfl evs_nil)) (fun w9 hw9 => wardmotelaw22_of_c n _ w9 (hS3.hL0 hL hw9) a2 a3 hy8) rfl <| RD.vw 4 31 kt6 rfl kp7 (fun _ => FV.eqlV (v := .agg ((cs_TShare a0)).toArray) (u := .agg ((cs_TShare y8)).toArray) rfl rfl (eqlD_37 a0 y8)) rfl <| RD.vw 5 63 kt6 rfl kp7 (fun _ => FV.move rfl) rfl <| RD.ifd (s := 12) rfl h (fun c9 h => ?_) (fun c9 h => ?_)
  ·skip
   refine RD.vP 6 127 kt6 rfl kp7 (.yes rfl rfl) (fun _ => FV.move rfl) rfl <| RD.vP 7 255 kt6 rfl kp7 (.yes rfl rfl) (fun _ => FV.eql (i := a1) (j := 0) rfl rfl) rfl <| RD.vw 8 511 kt6 rfl kp7 (fun _ => FV.pick_t rfl rfl) rfl <| RD.vw 9 1023 kt6 rfl kp7 (fun _ => FV.assign rfl) rfl <| RD.done (doneD_ok kt6 (by kernel_rfl)) <| MX.ret rfl ?_
   refine RT.leave hb0 Tryz.func72 rfl (.cons (.tmp rfl) .nil) rfl ?_
   obtain rfl := Option.some.inj h
   exact ⟨hS3.ag, fun w9 hw9 => rfl⟩
  refine RD.offs 255 2 [(6, 13), (7, 14)] (F := [(12, false)]) (U := []) kt6 kp7 (.cons rfl .nil) .nil ?_
  dsimp only [offS, List.map]
  refine RD.vw 8 511 kt6 rfl kp7 (fun _ => FV.pick_f rfl rfl) rfl <| RD.vw 9 1023 kt6 rfl kp7 (fun _ => FV.assign rfl) rfl <| RD.done (doneD_ok kt6 (by kernel_rfl)) <| MX.ret rfl <| RT.leave hb0 Tryz.func72 rfl (.cons (.tmp rfl) .nil) rfl ?_
  obtain rfl := Option.some.inj h
  exact ⟨hS3.ag, fun w9 hw9 => rfl⟩
theorem wardmotelaw22_part_c (n : Nat) (L : List Nat) (w : World) (_hL : ∀ b ∈ L, b < w.heap.size) (a0 : Int) (a1 : Int)  :
    Calls Tryz.prog 21 #[.int .i64 a0, .int .i64 a1] w (Gives w fun w' u => ∃ b5 b0 : Nat, u = .func (.func 72) #[] #[.pointer (some ⟨b5, 0, none⟩), .pointer (some ⟨b0, 0, none⟩)] ∧ St w w' [.cells b5 [.int .i64 a0] 3, .cells b0 [.int .i64 a1] 3]) := by
  have hS0 := St.start w
  refine MX.start Tryz.func21 rfl rfl rfl (fun _ cs0 hb0 => ?_)
  refine MX.sr <| RG.new .plain rfl (Does.box (vs := [.int .i64 a0]) hS0 rfl rfl) (fun w2 b5 hS3 hT4 => ?_)
  refine RG.new .plain rfl (Does.box (vs := [.int .i64 a1]) hS3 rfl rfl) (fun w7 b0 hS8 hT9 => ?_)
  refine RG.sg rfl rfl <| RG.nil <| MX.sr <| RG.vv (FV.makeFunc (vs := []) (us := [.pointer (some ⟨b5, 0, none⟩), .pointer (some ⟨b0, 0, none⟩)]) evs_nil (evs_cons rfl (evs_cons rfl evs_nil))) rfl <| RG.sg rfl rfl <| RG.nil ?_
  refine MX.ret rfl <| RT.leave (u := .func (.func 72) #[] #[.pointer (some ⟨b5, 0, none⟩), .pointer (some ⟨b0, 0, none⟩)]) hb0 Tryz.func21 rfl (.cons (.tmp rfl) .nil) rfl ?_
  obtain ⟨hS1, hT0⟩ := St.arrB hS8 (.one (.tl .hd) (.one .hd .done))
  exact ⟨hS1.ag, fun w9 hw9 => ⟨b5, b0, rfl, hS1.agree hw9⟩⟩
def tb126_1 : List (Nat × Nat × Nat) := [(0, 32, 4), (1, 64, 32), (0, 128, 8), (4, 256, 128), (10, 512, 320), (0, 1024, 4), (32, 2048, 1024), (0, 4096, 8), (128, 8192, 4096), (336, 16384, 10240), (528, 32768, 16896), (2047, 0, 32784)]
def share_Ratio_Over_p (n : Nat) (a0 : TRatio) (a1 : TRatio) : Option TRatio :=
  (wide_Long_Times_p n a0.fLong a1.fUnder).bind fun y0 => (wide_Long_Times_p n a0.fUnder a1.fLong).bind fun y1 => (share_Lowest_p n y0 y1).bind fun y2 => some y2
theorem share_Ratio_Over_c (n : Nat) (L : List Nat) (w : World) (hL : ∀ b ∈ L, b < w.heap.size) (a0 : TRatio) {v0_1 : Value} (h0_1 : Rep.R w L [v0_1] a0.fLong.fWords) {v0_3 : Value} (h0_3 : Rep.R w L [v0_3] a0.fUnder.fWords) (a1 : TRatio) {v1_1 : Value} (h1_1 : Rep.R w L [v1_1] a1.fLong.fWords) {v1_3 : Value} (h1_3 : Rep.R w L [v1_3] a1.fUnder.fWords)  {r : TRatio} (h : share_Ratio_Over_p n a0 a1 = some r) :
    Calls Tryz.prog 126 #[.agg #[.bool a0.fLong.fBelow, v0_1, .bool a0.fUnder.fBelow, v0_3], .agg #[.bool a1.fLong.fBelow, v1_1, .bool a1.fUnder.fBelow, v1_3]] w (Gives w fun w' u => ∃ v0_1 v0_3 : Value, u = .agg #[.bool r.fLong.fBelow, v0_1, .bool r.fUnder.fBelow, v0_3] ∧ Rep.R w' L [v0_1] r.fLong.fWords ∧ Rep.R w' L [v0_3] r.fUnder.fWords) := by
  unfold share_Ratio_Over_p at h
  have hS0 := St.start w
  refine MX.start Tryz.func126 rfl rfl rfl (fun _ cs0 hb0 => ?_)
  refine MX.sr <| RG.new .plain rfl (Does.box (vs := [.bool a0.fLong.fBelow, v0_1, .bool a0.fUnder.fBelow, v0_3]) hS0 rfl rfl) (fun w2 b5 hS3 hT4 => ?_)
  refine RG.new .plain rfl (Does.box (vs := [.bool a1.fLong.fBelow, v1_1, .bool a1.fUnder.fBelow, v1_3]) hS3 rfl rfl) (fun w7 b0 hS8 hT9 => ?_)
  refine RG.new .plain rfl (Does.alloc (zs := [.bool false, .slice none 0 0, .bool false, .slice none 0 0]) hS8 (zB (by kernel_rfl))) (fun w0 b1 hS1 hT0 => ?_)
  refine RG.nil <| MX.seq <| MX.drawT 11 tb126_1 (by kernel_rfl) (by kernel_rfl) (by kernel_rfl) (fun kt0 kp0 => ?_)
  refine RD.vw 0 1 kt0 rfl kp0 (fun _ => FV.fieldAddr (off := 0) (by kernel_rfl) rfl) rfl <| RD.vx 1 3 3600 kt0 rfl kp0 (FV.loadN (cs := [.bool a0.fLong.fBelow, v0_1]) (by kernel_rfl) rfl (mem_part (hS1.memA (.tl (.tl .hd))) 0 2)) rfl <| RD.vw 2 7 kt0 rfl kp0 (fun _ => FV.fieldAddr (off := 2) (by kernel_rfl) rfl) rfl <| RD.vx 3 15 3600 kt0 rfl kp0 (FV.loadN (cs := [.bool a1.fUnder.fBelow, v1_3]) (by kernel_rfl) rfl (mem_part (hS1.memA (.tl .hd)) 2 2)) rfl <| RD.vw 5 47 kt0 rfl kp0 (fun _ => FV.fieldAddr (off := 2) (by kernel_rfl) rfl) rfl <| RD.vx 6 111 3584 kt0 rfl kp0 (FV.loadN (cs := [.bool a0.fUnder.fBelow, v0_3]) (by kernel_rfl) rfl (mem_part (hS1.memA (.tl (.tl .hd))) 2 2)) rfl ?_
  refine RD.vw 7 239 kt0 rfl kp0 (fun _ => FV.fieldAddr (off := 0) (by kernel_rfl) rfl) rfl <| RD.vx 8 495 3584 kt0 rfl kp0 (FV.loadN (cs := [.bool a1.fLong.fBelow, v1_1]) (by kernel_rfl) rfl (mem_part (hS1.memA (.tl .hd)) 0 2)) rfl ?_
  obtain ⟨y0, hy0, h⟩ := bind_in h
  have hm0 := Rep.mv h0_1 (Tr.trans hT4 (Tr.trans hT9 hT0))
  have hm1 := Rep.mv h1_3 (Tr.trans hT4 (Tr.trans hT9 hT0))
  refine RD.cl 4 511 kt0 rfl .plain body132 rfl (evs_cons rfl (evs_cons rfl evs_nil)) (fun w9 hw9 => wide_Long_Times_c n _ w9 (hS1.hL hL hw9) a0.fLong (Rep.keep0 hm0 hw9) a1.fUnder (Rep.keep0 hm1 hw9) hy0) rfl (fun w1 vu0 hag0 ⟨v0, hu_, hr0⟩ => ?_)
  subst hu_
  obtain ⟨hS2, hT1⟩ := hS1.agr hag0
  obtain ⟨y1, hy1, h⟩ := bind_in h
  have hm2 := Rep.mv h0_3 (Tr.trans hT4 (Tr.trans hT9 (Tr.trans hT0 hT1)))
  have hm3 := Rep.mv h1_1 (Tr.trans hT4 (Tr.trans hT9 (Tr.trans hT0 hT1)))
  refine RD.cl 9 1023 kt0 rfl .plain body132 rfl (evs_cons rfl (evs_cons rfl evs_nil)) (fun w9 hw9 => wide_Long_Times_c n _ w9 (hS2.hL hL hw9) a0.fUnder (Rep.keep0 hm2 hw9) a1.fLong (Rep.keep0 hm3 hw9) hy1) rfl (fun w3 vu1 hag1 ⟨v1, hu_, hr1⟩ => ?_)
  subst hu_
  obtain ⟨hS4, hT2⟩ := hS2.agr hag1
  obtain ⟨y2, hy2, h⟩ := bind_in h
  have hm4 := Rep.mv hr0 hT2
  refine RD.cl 10 2047 kt0 rfl .plain body131 rfl (evs_cons rfl (evs_cons rfl evs_nil)) (fun w9 hw9 => share_Lowest_c n _ w9 (hS4.hL hL hw9) y0 (Rep.keep0 hm4 hw9) y1 (Rep.keep0 hr1 hw9) hy2) rfl (fun w4 vu2 hag2 ⟨v2, v3, hu_, hr2, hr3⟩ => ?_)
  subst hu_
  obtain ⟨hS5, hT3⟩ := hS4.agr hag2
  refine RD.nw 11 4095 kt0 rfl rfl .plain (Acts.storeAll (news := [.bool y2.fLong.fBelow, v2, .bool y2.fUnder.fBelow, v3]) hS5 .hd rfl rfl rfl rfl rfl rfl (ones_cons rfl (ones_cons (Rep.o1 hr2) (ones_cons rfl (ones_cons (Rep.o1 hr3) ones_nil))))) (fun w5 hS6 hT5 => ?_)
  refine RD.done (doneD_ok kt0 (by kernel_rfl)) <| MX.ret rfl <| RT.leave hb0 Tryz.func126 rfl (.cons (.many (cs := [.bool y2.fLong.fBelow, v2, .bool y2.fUnder.fBelow, v3]) (by kernel_rfl) rfl (hS6.memA .hd)) .nil) rfl ?_
  obtain rfl := Option.some.inj h
  have hm5 := Rep.mv hr2 hT5
  have hm6 := Rep.mv hr3 hT5
  exact ⟨hS6.ag, fun w9 hw9 => ⟨v2, v3, rfl, Rep.keep0 (Rep.dropS hS6 hm5) hw9, Rep.keep0 (Rep.dropS hS6 hm6) hw9⟩⟩
theorem body126 : bodyB Tryz.prog 126 = true := by kernel_rfl
def share_Div_p (n : Nat) (a0 : TShare) (a1 : TShare) : Option (TShare × Int) :=
  (share_valid_p n ([a0, a1] : List TShare)).bind fun y0 => (if y0 = true then (if a1.fN = ((0 : UInt64), (0 : UInt64), (0 : UInt64), (0 : UInt64), (0 : UInt64), (0 : UInt64), (0 : UInt64), (0 : UInt64)) then some ((⟨((0 : UInt64), (0 : UInt64), (0 : UInt64), (0 : UInt64), (0 : UInt64), (0 : UInt64), (0 : UInt64), (0 : UInt64)), ((0 : UInt64), (0 : UInt64), (0 : UInt64), (0 : UInt64), (0 : UInt64), (0 : UInt64), (0 : UInt64), (0 : UInt64))⟩ : TShare), (7 : Int)) else (share_valid_p n ([a0, a1] : List TShare)).bind fun y1 => (if y1 = true then (share_Read_p n a0).bind fun y2 => (share_Read_p n a1).bind fun y3 => (share_Ratio_Over_p n y2 y3).bind fun y4 => (share_told_p n y4 (0 : Int)).bind fun y5 => some (y5.1, y5.2) else (share_told_p n (⟨(⟨false, ([] : List UInt64)⟩ : TLong), (⟨false, ([] : List UInt64)⟩ : TLong)⟩ : TRatio) (20 : Int)).bind fun y6 => some (y6.1, y6.2))) else (share_valid_p n ([a0, a1] : List TShare)).bind fun y7 => (if y7 = true then (share_Read_p n a0).bind fun y8 => (share_Read_p n a1).bind fun y9 => (share_Ratio_Over_p n y8 y9).bind fun y10 => (share_told_p n y10 (0 : Int)).bind fun y11 => some (y11.1, y11.2) else (share_told_p n (⟨(⟨false, ([] : List UInt64)⟩ : TLong), (⟨false, ([] : List UInt64)⟩ : TLong)⟩ : TRatio) (20 : Int)).bind fun y12 => some (y12.1, y12.2)))
theorem share_Div_c (n : Nat) (L : List Nat) (w : World) (hL : ∀ b ∈ L, b < w.heap.size) (a0 : TShare) (a1 : TShare)  {r : TShare × Int} (h : share_Div_p n a0 a1 = some r) :
    Calls Tryz.prog 77 #[.agg ((cs_TShare a0)).toArray, .agg ((cs_TShare a1)).toArray] w (Gives w fun _ u => u = .tuple #[.agg ((cs_TShare r.1)).toArray, .int .i64 r.2]) := by
  unfold share_Div_p at h
  have hS0 := St.start w
  refine MX.start Tryz.func77 rfl rfl rfl (fun _ cs0 hb0 => ?_)
  refine MX.sr <| RG.new .plain rfl (Does.box (vs := (cs_TShare a0)) hS0 rfl rfl) (fun w2 b5 hS3 hT4 => ?_)
  refine RG.new .plain rfl (Does.box (vs := (cs_TShare a1)) hS3 rfl rfl) (fun w7 b0 hS8 hT9 => ?_)
  refine RG.new .plain rfl (Does.alloc (zs := [.int .u64 0, .int .u64 0, .int .u64 0, .int .u64 0, .int .u64 0, .int .u64 0, .int .u64 0, .int .u64 0, .int .u64 0, .int .u64 0, .int .u64 0, .int .u64 0, .int .u64 0, .int .u64 0, .int .u64 0, .int .u64 0]) hS8 (zB (by kernel_rfl))) (fun w0 b1 hS1 hT0 => ?_)
  refine RG.sg rfl rfl <| RG.nil <| MX.seq <| MX.sr <| RG.vv (FV.loadN (by kernel_rfl) rfl (hS1.memA (.tl (.tl .hd)))) rfl <| RG.vv (FV.loadN (by kernel_rfl) rfl (hS1.memA (.tl .hd))) rfl ?_
  refine RG.new .plain rfl (Does.build (α := TShare) (xs := ([a0, a1] : List TShare)) (vs := [.agg ((cs_TShare a0)).toArray, .agg ((cs_TShare a1)).toArray]) (ds' := (cs_TShare a0 ++ cs_TShare a1)) rfl hS1 el68 rfl (evs_cons rfl (evs_cons rfl evs_nil)) (by kernel_rfl) rfl) (fun w1 b2 hS2 hT1 => ?_)
  have hc0 := Cells.at_ (cs := (cs_TShare a0 ++ cs_TShare a1)) (xs := (([a0, a1] : List TShare) : List TShare)) hS2 L (Cells.cons (cs := (cs_TShare a0)) (ds := (cs_TShare a1)) (mk_TShare a0.fN a0.fD) (Cells.cons (cs := (cs_TShare a1)) (ds := []) (mk_TShare a1.fN a1.fD) (Cells.nil _ _)))
  obtain ⟨y0, hy0, h⟩ := bind_in h
  refine RG.cq (.bool y0) body125 rfl (evs_cons rfl evs_nil) (fun w9 hw9 => share_valid_c n _ w9 (hS2.hL0 hL hw9) ([a0, a1] : List TShare) (Rep.keep0 (St.lend (α := TShare) (L := L) hS2 .hd hc0 hL) hw9) hy0) rfl <| RG.mv rfl rfl <| RG.ifb (s := 10) rfl h (fun c0 h => ?_) (fun c0 h => ?_)
  ·skip
   refine RG.val' (.yes rfl rfl) (FV.fieldAddr (off := 0) (by kernel_rfl) rfl) rfl <| RG.val' (.yes rfl rfl) (FV.loadN (cs := (cs_A34 a1.fN)) (by kernel_rfl) rfl (mem_part (hS2.memA (.tl (.tl .hd))) 0 8)) rfl <| RG.val' (.yes rfl rfl) (FV.buildV (vs := []) (u := .agg #[.int .u64 0, .int .u64 0, .int .u64 0, .int .u64 0, .int .u64 0, .int .u64 0, .int .u64 0, .int .u64 0]) evs_nil (fun w9 => by kernel_rfl)) rfl <| RG.val' (.yes rfl rfl) (FV.eqlV (v := .agg ((cs_A34 a1.fN)).toArray) (u := .agg #[.int .u64 0, .int .u64 0, .int .u64 0, .int .u64 0, .int .u64 0, .int .u64 0, .int .u64 0, .int .u64 0]) rfl rfl (eqlD_35 a1.fN ((0 : UInt64), (0 : UInt64), (0 : UInt64), (0 : UInt64), (0 : UInt64), (0 : UInt64), (0 : UInt64), (0 : UInt64)))) rfl <| RG.vv (FV.pick_t rfl rfl) rfl <| RG.nil ?_
   refine MX.ifd rfl h (fun c1 h => ?_) (fun c1 h => ?_)
   ·skip
    refine MX.sr <| RG.vv (FV.buildV (vs := []) (u := .agg #[.int .u64 0, .int .u64 0, .int .u64 0, .int .u64 0, .int .u64 0, .int .u64 0, .int .u64 0, .int .u64 0, .int .u64 0, .int .u64 0, .int .u64 0, .int .u64 0, .int .u64 0, .int .u64 0, .int .u64 0, .int .u64 0]) evs_nil (fun w9 => by kernel_rfl)) rfl <| RG.now .plain (Acts.storeAll (news := [.int .u64 0, .int .u64 0, .int .u64 0, .int .u64 0, .int .u64 0, .int .u64 0, .int .u64 0, .int .u64 0, .int .u64 0, .int .u64 0, .int .u64 0, .int .u64 0, .int .u64 0, .int .u64 0, .int .u64 0, .int .u64 0]) hS2 (.tl .hd) rfl rfl rfl rfl rfl rfl (onesB rfl)) (fun w3 hS4 hT2 => ?_)
    refine RG.sg rfl rfl <| RG.nil <| MX.ret rfl <| RT.leave hb0 Tryz.func77 rfl (.cons (.many (cs := [.int .u64 0, .int .u64 0, .int .u64 0, .int .u64 0, .int .u64 0, .int .u64 0, .int .u64 0, .int .u64 0, .int .u64 0, .int .u64 0, .int .u64 0, .int .u64 0, .int .u64 0, .int .u64 0, .int .u64 0, .int .u64 0]) (by kernel_rfl) rfl (hS4.memA (.tl .hd))) (.cons (.tmp rfl) .nil)) rfl ?_
    obtain rfl := Option.some.inj h
    exact ⟨hS4.ag, fun w9 hw9 => rfl⟩
   refine MX.skip <| MX.sr <| RG.vv (FV.loadN (by kernel_rfl) rfl (hS2.memA (.tl (.tl (.tl .hd))))) rfl <| RG.vv (FV.loadN (by kernel_rfl) rfl (hS2.memA (.tl (.tl .hd)))) rfl <| RG.enterP (fst := []) (cap := []) (vs := [.agg ((cs_TShare a0)).toArray, .agg ((cs_TShare a1)).toArray, .func (.func 126) #[] #[]]) .plain body80 Tryz.func80 rfl rfl rfl rfl (evs_cons rfl (evs_cons rfl (evs_cons rfl evs_nil))) rfl (fun cs1 hb1 hp0 => ?_)
   refine MX.sr <| RG.new .plain rfl (Does.box (vs := (cs_TShare a0)) hS2 rfl rfl) (fun w4 b3 hS5 hT3 => ?_)
   refine RG.new .plain rfl (Does.box (vs := (cs_TShare a1)) hS5 rfl rfl) (fun w5 b4 hS6 hT5 => ?_)
   refine RG.new .plain rfl (Does.alloc (zs := [.bool false, .slice none 0 0, .bool false, .slice none 0 0]) hS6 (zB (by kernel_rfl))) (fun w6 b6 hS7 hT6 => ?_)
   refine RG.sg rfl rfl <| RG.nil <| MX.seq <| MX.sr <| RG.vv (FV.loadN (by kernel_rfl) rfl (hS7.memA (.tl (.tl .hd)))) rfl <| RG.vv (FV.loadN (by kernel_rfl) rfl (hS7.memA (.tl .hd))) rfl ?_
   refine RG.new .plain rfl (Does.build (α := TShare) (xs := ([a0, a1] : List TShare)) (vs := [.agg ((cs_TShare a0)).toArray, .agg ((cs_TShare a1)).toArray]) (ds' := (cs_TShare a0 ++ cs_TShare a1)) rfl hS7 el68 rfl (evs_cons rfl (evs_cons rfl evs_nil)) (by kernel_rfl) rfl) (fun w8 b7 hS9 hT7 => ?_)
   have hc1 := Cells.at_ (cs := (cs_TShare a0 ++ cs_TShare a1)) (xs := (([a0, a1] : List TShare) : List TShare)) hS9 L (Cells.cons (cs := (cs_TShare a0)) (ds := (cs_TShare a1)) (mk_TShare a0.fN a0.fD) (Cells.cons (cs := (cs_TShare a1)) (ds := []) (mk_TShare a1.fN a1.fD) (Cells.nil _ _)))
   obtain ⟨y1, hy1, h⟩ := bind_in h
   refine RG.cq (.bool y1) body125 rfl (evs_cons rfl evs_nil) (fun w9 hw9 => share_valid_c n _ w9 (hS9.hL0 hL hw9) ([a0, a1] : List TShare) (Rep.keep0 (St.lend (α := TShare) (L := L) hS9 .hd hc1 hL) hw9) hy1) rfl <| RG.vv (FV.not rfl) rfl <| RG.nil <| MX.ifnb rfl h (fun c2 h => ?_) (fun c2 h => ?_)
   ·skip
    refine MX.skip <| MX.seq <| MX.drawT 6 tb80_4 (by kernel_rfl) (by kernel_rfl) (by kernel_rfl) (fun kt0 kp0 => ?_)
    refine RD.vw 0 1 kt0 rfl kp0 (fun _ => FV.move rfl) rfl <| RD.vx 1 3 244 kt0 rfl kp0 (FV.loadN (by kernel_rfl) rfl (hS9.memA (.tl (.tl (.tl .hd))))) rfl <| RD.vx 3 11 240 kt0 rfl kp0 (FV.loadN (by kernel_rfl) rfl (hS9.memA (.tl (.tl .hd)))) rfl ?_
    obtain ⟨y2, hy2, h⟩ := bind_in h
    refine RD.cl 2 15 kt0 rfl .plain body130 rfl (evs_cons rfl evs_nil) (fun w9 hw9 => share_Read_c n _ w9 (hS9.hL hL hw9) a0 hy2) rfl (fun w57 vu0 hag0 ⟨v0, v1, hu_, hr0, hr1⟩ => ?_)
    subst hu_
    obtain ⟨hS60, hT8⟩ := hS9.agr hag0
    obtain ⟨y3, hy3, h⟩ := bind_in h
    refine RD.cl 4 31 kt0 rfl .plain body130 rfl (evs_cons rfl evs_nil) (fun w9 hw9 => share_Read_c n _ w9 (hS60.hL hL hw9) a1 hy3) rfl (fun w67 vu1 hag1 ⟨v2, v3, hu_, hr2, hr3⟩ => ?_)
    subst hu_
    obtain ⟨hS70, hT71⟩ := hS60.agr hag1
    obtain ⟨y4, hy4, h⟩ := bind_in h
    have hm0 := Rep.mv hr0 hT71
    have hm1 := Rep.mv hr1 hT71
    refine RD.cl 5 63 kt0 rfl .plain body126 rfl (evs_cons rfl (evs_cons rfl evs_nil)) (fun w9 hw9 => share_Ratio_Over_c n _ w9 (hS70.hL hL hw9) y2 (Rep.keep0 hm0 hw9) (Rep.keep0 hm1 hw9) y3 (Rep.keep0 hr2 hw9) (Rep.keep0 hr3 hw9) hy4) rfl (fun w79 vu2 hag2 ⟨v4, v5, hu_, hr4, hr5⟩ => ?_)
    subst hu_
    obtain ⟨hS82, hT83⟩ := hS70.agr hag2
    refine RD.nw 6 127 kt0 rfl rfl .plain (Acts.storeAll (news := [.bool y4.fLong.fBelow, v4, .bool y4.fUnder.fBelow, v5]) hS82 (.tl .hd) rfl rfl rfl rfl rfl rfl (ones_cons rfl (ones_cons (Rep.o1 hr4) (ones_cons rfl (ones_cons (Rep.o1 hr5) ones_nil))))) (fun w88 hS89 hT90 => ?_)
    refine RD.one (i := 7) (readyD_ok kt0 (by kernel_rfl)) (RO.val (m' := 255) (stepC_ok kt0 (by kernel_rfl)) rfl .plain rfl (FV.assign rfl) ?_)
    refine RD.done (doneD_ok kt0 (by kernel_rfl)) <| MX.ret rfl <| RT.leave (u := .tuple #[.agg #[.bool y4.fLong.fBelow, v4, .bool y4.fUnder.fBelow, v5], .int .i64 0]) hb1 Tryz.func80 rfl (.cons (.many (cs := [.bool y4.fLong.fBelow, v4, .bool y4.fUnder.fBelow, v5]) (by kernel_rfl) rfl (hS89.memA (.tl .hd))) (.cons (.tmp rfl) .nil)) rfl <| RG.vv (FV.extract rfl rfl) rfl <| RG.vv (FV.extract rfl rfl) rfl ?_
    obtain ⟨y5, hy5, h⟩ := bind_in h
    have hm2 := Rep.mv hr4 hT90
    have hm3 := Rep.mv hr5 hT90
    refine RG.cq (.tuple #[.agg ((cs_TShare y5.1)).toArray, .int .i64 y5.2]) body79 rfl (evs_cons rfl (evs_cons rfl evs_nil)) (fun w9 hw9 => share_told_c n _ w9 (hS89.hL0 hL hw9) y4 (Rep.keep0 (Rep.dropS hS89 hm2) hw9) (Rep.keep0 (Rep.dropS hS89 hm3) hw9) (0 : Int) hy5) rfl <| RG.vv (FV.extract rfl rfl) rfl <| RG.vv (FV.extract rfl rfl) rfl <| RG.now .plain (Acts.storeAll (news := (cs_TShare y5.1)) hS89 (.tl (.tl (.tl (.tl (.tl .hd))))) rfl rfl rfl rfl rfl rfl (onesB rfl)) (fun w94 hS95 hT96 => ?_)
    refine RG.sg rfl rfl <| RG.nil <| MX.ret rfl <| RT.leave hb0 Tryz.func77 rfl (.cons (.many (cs := (cs_TShare y5.1)) (by kernel_rfl) rfl (hS95.memA (.tl (.tl (.tl (.tl (.tl .hd))))))) (.cons (.tmp rfl) .nil)) rfl ?_
    obtain rfl := Option.some.inj h
    exact ⟨hS95.ag, fun w9 hw9 => rfl⟩
   refine MX.sr <| RG.new .plain rfl (Does.alloc (zs := [.bool false, .slice none 0 0, .bool false, .slice none 0 0]) hS9 (zB (by kernel_rfl))) (fun w98 b8 hS99 hT10 => ?_)
   refine RG.nil <| MX.sr <| RG.vv (FV.loadN (by kernel_rfl) rfl (hS99.memA .hd)) rfl <| RG.now .plain (Acts.storeAll (news := [.bool false, .slice none 0 0, .bool false, .slice none 0 0]) hS99 (.tl (.tl .hd)) rfl rfl rfl rfl rfl rfl (onesB rfl)) (fun w10 hS10 hT11 => ?_)
   refine RG.sg rfl rfl <| RG.nil <| MX.ret rfl <| RT.leave (u := .tuple #[.agg #[.bool false, .slice none 0 0, .bool false, .slice none 0 0], .int .i64 20]) hb1 Tryz.func80 rfl (.cons (.many (cs := [.bool false, .slice none 0 0, .bool false, .slice none 0 0]) (by kernel_rfl) rfl (hS10.memA (.tl (.tl .hd)))) (.cons (.tmp rfl) .nil)) rfl <| RG.vv (FV.extract rfl rfl) rfl <| RG.vv (FV.extract rfl rfl) rfl ?_
   obtain ⟨y6, hy6, h⟩ := bind_in h
   refine RG.cq (.tuple #[.agg ((cs_TShare y6.1)).toArray, .int .i64 y6.2]) body79 rfl (evs_cons rfl (evs_cons rfl evs_nil)) (fun w9 hw9 => share_told_c n _ w9 (hS10.hL0 hL hw9) (⟨(⟨false, ([] : List UInt64)⟩ : TLong), (⟨false, ([] : List UInt64)⟩ : TLong)⟩ : TRatio) (Rep.keep0 (Rep.nilSlice _ _) hw9) (Rep.keep0 (Rep.nilSlice _ _) hw9) (20 : Int) hy6) rfl <| RG.vv (FV.extract rfl rfl) rfl <| RG.vv (FV.extract rfl rfl) rfl <| RG.now .plain (Acts.storeAll (news := (cs_TShare y6.1)) hS10 (.tl (.tl (.tl (.tl (.tl (.tl .hd)))))) rfl rfl rfl rfl rfl rfl (onesB rfl)) (fun w11 hS11 hT12 => ?_)
   refine RG.sg rfl rfl <| RG.nil <| MX.ret rfl <| RT.leave hb0 Tryz.func77 rfl (.cons (.many (cs := (cs_TShare y6.1)) (by kernel_rfl) rfl (hS11.memA (.tl (.tl (.tl (.tl (.tl (.tl .hd)))))))) (.cons (.tmp rfl) .nil)) rfl ?_
   obtain rfl := Option.some.inj h
   exact ⟨hS11.ag, fun w9 hw9 => rfl⟩
  refine RG.off (.no rfl rfl) rfl <| RG.off (.no rfl rfl) rfl <| RG.off (.no rfl rfl) rfl <| RG.off (.no rfl rfl) rfl <| RG.vv (FV.pick_f rfl rfl) rfl <| RG.nil ?_
  refine MX.cond_f rfl <| MX.skip <| MX.sr <| RG.vv (FV.loadN (by kernel_rfl) rfl (hS2.memA (.tl (.tl (.tl .hd))))) rfl <| RG.vv (FV.loadN (by kernel_rfl) rfl (hS2.memA (.tl (.tl .hd)))) rfl <| RG.enterP (fst := []) (cap := []) (vs := [.agg ((cs_TShare a0)).toArray, .agg ((cs_TShare a1)).toArray, .func (.func 126) #[] #[]]) .plain body80 Tryz.func80 rfl rfl rfl rfl (evs_cons rfl (evs_cons rfl (evs_cons rfl evs_nil))) rfl (fun cs2 hb2 hp1 => ?_)
  refine MX.sr <| RG.new .plain rfl (Does.box (vs := (cs_TShare a0)) hS2 rfl rfl) (fun w13 b9 hS12 hT13 => ?_)
  refine RG.new .plain rfl (Does.box (vs := (cs_TShare a1)) hS12 rfl rfl) (fun w14 b11 hS14 hT15 => ?_)
  refine RG.new .plain rfl (Does.alloc (zs := [.bool false, .slice none 0 0, .bool false, .slice none 0 0]) hS14 (zB (by kernel_rfl))) (fun w15 b12 hS15 hT16 => ?_)
  refine RG.sg rfl rfl <| RG.nil <| MX.seq <| MX.sr <| RG.vv (FV.loadN (by kernel_rfl) rfl (hS15.memA (.tl (.tl .hd)))) rfl <| RG.vv (FV.loadN (by kernel_rfl) rfl (hS15.memA (.tl .hd))) rfl ?_
  refine RG.new .plain rfl (Does.build (α := TShare) (xs := ([a0, a1] : List TShare)) (vs := [.agg ((cs_TShare a0)).toArray, .agg ((cs_TShare a1)).toArray]) (ds' := (cs_TShare a0 ++ cs_TShare a1)) rfl hS15 el68 rfl (evs_cons rfl (evs_cons rfl evs_nil)) (by kernel_rfl) rfl) (fun w16 b13 hS16 hT17 => ?_)
  have hc2 := Cells.at_ (cs := (cs_TShare a0 ++ cs_TShare a1)) (xs := (([a0, a1] : List TShare) : List TShare)) hS16 L (Cells.cons (cs := (cs_TShare a0)) (ds := (cs_TShare a1)) (mk_TShare a0.fN a0.fD) (Cells.cons (cs := (cs_TShare a1)) (ds := []) (mk_TShare a1.fN a1.fD) (Cells.nil _ _)))
  obtain ⟨y7, hy7, h⟩ := bind_in h
  refine RG.cq (.bool y7) body125 rfl (evs_cons rfl evs_nil) (fun w9 hw9 => share_valid_c n _ w9 (hS16.hL0 hL hw9) ([a0, a1] : List TShare) (Rep.keep0 (St.lend (α := TShare) (L := L) hS16 .hd hc2 hL) hw9) hy7) rfl <| RG.vv (FV.not rfl) rfl <| RG.nil <| MX.ifnb rfl h (fun c3 h => ?_) (fun c3 h => ?_)
  ·skip
   refine MX.skip <| MX.seq <| MX.drawT 6 tb80_4 (by kernel_rfl) (by kernel_rfl) (by kernel_rfl) (fun kt1 kp1 => ?_)
   refine RD.vw 0 1 kt1 rfl kp1 (fun _ => FV.move rfl) rfl <| RD.vx 1 3 244 kt1 rfl kp1 (FV.loadN (by kernel_rfl) rfl (hS16.memA (.tl (.tl (.tl .hd))))) rfl <| RD.vx 3 11 240 kt1 rfl kp1 (FV.loadN (by kernel_rfl) rfl (hS16.memA (.tl (.tl .hd)))) rfl ?_
   obtain ⟨y8, hy8, h⟩ := bind_in h
   refine RD.cl 2 15 kt1 rfl .plain body130 rfl (evs_cons rfl evs_nil) (fun w9 hw9 => share_Read_c n _ w9 (hS16.hL hL hw9) a0 hy8) rfl (fun w18 vu3 hag3 ⟨v6, v7, hu_, hr6, hr7⟩ => ?_)
   subst hu_
   obtain ⟨hS17, hT18⟩ := hS16.agr hag3
   obtain ⟨y9, hy9, h⟩ := bind_in h
   refine RD.cl 4 31 kt1 rfl .plain body130 rfl (evs_cons rfl evs_nil) (fun w9 hw9 => share_Read_c n _ w9 (hS17.hL hL hw9) a1 hy9) rfl (fun w19 vu4 hag4 ⟨v8, v9, hu_, hr8, hr9⟩ => ?_)
   subst hu_
   obtain ⟨hS19, hT20⟩ := hS17.agr hag4
   obtain ⟨y10, hy10, h⟩ := bind_in h
   have hm4 := Rep.mv hr6 hT20
   have hm5 := Rep.mv hr7 hT20
   refine RD.cl 5 63 kt1 rfl .plain body126 rfl (evs_cons rfl (evs_cons rfl evs_nil)) (fun w9 hw9 => share_Ratio_Over_c n _ w9 (hS19.hL hL hw9) y8 (Rep.keep0 hm4 hw9) (Rep.keep0 hm5 hw9) y9 (Rep.keep0 hr8 hw9) (Rep.keep0 hr9 hw9) hy10) rfl (fun w20 vu5 hag5 ⟨v10, v11, hu_, hr10, hr11⟩ => ?_)
   subst hu_
   obtain ⟨hS20, hT21⟩ := hS19.agr hag5
   refine RD.nw 6 127 kt1 rfl rfl .plain (Acts.storeAll (news := [.bool y10.fLong.fBelow, v10, .bool y10.fUnder.fBelow, v11]) hS20 (.tl .hd) rfl rfl rfl rfl rfl rfl (ones_cons rfl (ones_cons (Rep.o1 hr10) (ones_cons rfl (ones_cons (Rep.o1 hr11) ones_nil))))) (fun w21 hS21 hT22 => ?_)
   refine RD.one (i := 7) (readyD_ok kt1 (by kernel_rfl)) (RO.val (m' := 255) (stepC_ok kt1 (by kernel_rfl)) rfl .plain rfl (FV.assign rfl) ?_)
   refine RD.done (doneD_ok kt1 (by kernel_rfl)) <| MX.ret rfl <| RT.leave (u := .tuple #[.agg #[.bool y10.fLong.fBelow, v10, .bool y10.fUnder.fBelow, v11], .int .i64 0]) hb2 Tryz.func80 rfl (.cons (.many (cs := [.bool y10.fLong.fBelow, v10, .bool y10.fUnder.fBelow, v11]) (by kernel_rfl) rfl (hS21.memA (.tl .hd))) (.cons (.tmp rfl) .nil)) rfl <| RG.vv (FV.extract rfl rfl) rfl <| RG.vv (FV.extract rfl rfl) rfl ?_
   obtain ⟨y11, hy11, h⟩ := bind_in h
   have hm6 := Rep.mv hr10 hT22
   have hm7 := Rep.mv hr11 hT22
   refine RG.cq (.tuple #[.agg ((cs_TShare y11.1)).toArray, .int .i64 y11.2]) body79 rfl (evs_cons rfl (evs_cons rfl evs_nil)) (fun w9 hw9 => share_told_c n _ w9 (hS21.hL0 hL hw9) y10 (Rep.keep0 (Rep.dropS hS21 hm6) hw9) (Rep.keep0 (Rep.dropS hS21 hm7) hw9) (0 : Int) hy11) rfl <| RG.vv (FV.extract rfl rfl) rfl <| RG.vv (FV.extract rfl rfl) rfl <| RG.now .plain (Acts.storeAll (news := (cs_TShare y11.1)) hS21 (.tl (.tl (.tl (.tl (.tl .hd))))) rfl rfl rfl rfl rfl rfl (onesB rfl)) (fun w22 hS22 hT23 => ?_)
   refine RG.sg rfl rfl <| RG.nil <| MX.ret rfl <| RT.leave hb0 Tryz.func77 rfl (.cons (.many (cs := (cs_TShare y11.1)) (by kernel_rfl) rfl (hS22.memA (.tl (.tl (.tl (.tl (.tl .hd))))))) (.cons (.tmp rfl) .nil)) rfl ?_
   obtain rfl := Option.some.inj h
   exact ⟨hS22.ag, fun w9 hw9 => rfl⟩
  refine MX.sr <| RG.new .plain rfl (Does.alloc (zs := [.bool false, .slice none 0 0, .bool false, .slice none 0 0]) hS16 (zB (by kernel_rfl))) (fun w23 b14 hS23 hT24 => ?_)
  refine RG.nil <| MX.sr <| RG.vv (FV.loadN (by kernel_rfl) rfl (hS23.memA .hd)) rfl <| RG.now .plain (Acts.storeAll (news := [.bool false, .slice none 0 0, .bool false, .slice none 0 0]) hS23 (.tl (.tl .hd)) rfl rfl rfl rfl rfl rfl (onesB rfl)) (fun w24 hS24 hT25 => ?_)
  refine RG.sg rfl rfl <| RG.nil <| MX.ret rfl <| RT.leave (u := .tuple #[.agg #[.bool false, .slice none 0 0, .bool false, .slice none 0 0], .int .i64 20]) hb2 Tryz.func80 rfl (.cons (.many (cs := [.bool false, .slice none 0 0, .bool false, .slice none 0 0]) (by kernel_rfl) rfl (hS24.memA (.tl (.tl .hd)))) (.cons (.tmp rfl) .nil)) rfl <| RG.vv (FV.extract rfl rfl) rfl <| RG.vv (FV.extract rfl rfl) rfl ?_
  obtain ⟨y12, hy12, h⟩ := bind_in h
  refine RG.cq (.tuple #[.agg ((cs_TShare y12.1)).toArray, .int .i64 y12.2]) body79 rfl (evs_cons rfl (evs_cons rfl evs_nil)) (fun w9 hw9 => share_told_c n _ w9 (hS24.hL0 hL hw9) (⟨(⟨false, ([] : List UInt64)⟩ : TLong), (⟨false, ([] : List UInt64)⟩ : TLong)⟩ : TRatio) (Rep.keep0 (Rep.nilSlice _ _) hw9) (Rep.keep0 (Rep.nilSlice _ _) hw9) (20 : Int) hy12) rfl <| RG.vv (FV.extract rfl rfl) rfl <| RG.vv (FV.extract rfl rfl) rfl <| RG.now .plain (Acts.storeAll (news := (cs_TShare y12.1)) hS24 (.tl (.tl (.tl (.tl (.tl (.tl .hd)))))) rfl rfl rfl rfl rfl rfl (onesB rfl)) (fun w26 hS25 hT26 => ?_)
  refine RG.sg rfl rfl <| RG.nil <| MX.ret rfl <| RT.leave hb0 Tryz.func77 rfl (.cons (.many (cs := (cs_TShare y12.1)) (by kernel_rfl) rfl (hS25.memA (.tl (.tl (.tl (.tl (.tl (.tl .hd)))))))) (.cons (.tmp rfl) .nil)) rfl ?_
  obtain rfl := Option.some.inj h
  exact ⟨hS25.ag, fun w9 hw9 => rfl⟩
end Go.Proofs.YtmhgoecnjleagaaGreatDoor
