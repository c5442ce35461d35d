/- Functions of the program, and what they give: part 1. -/
import Derived.Test.YtmpoojncffgjoaaGreatDoorProg
import Derived.Test.YtmpoojncffgjoaaGreatDoorPMk
namespace Go.Proofs.YtmpoojncffgjoaaGreatDoor
open Go Go.RowKit
set_option maxRecDepth 4000
set_option maxHeartbeats 4000000

structure TUnit where
  fName : ByteArray
  fPeople : Int
  fGroups : List Int
  fVotes : List Int
  fParents : List Int
  fWater : Bool
  deriving DecidableEq
instance : Rep TUnit := Rep.via (β := ByteArray × Int × (List Int) × (List Int) × (List Int) × Bool) fun x => (x.fName, x.fPeople, x.fGroups, x.fVotes, x.fParents, x.fWater)
structure TRoll where
  fGroups : Int
  fParties : Int
  fLevels : Int
  fUnits : List TUnit
  deriving DecidableEq
instance : Rep TRoll := Rep.via (β := Int × Int × Int × (List TUnit)) fun x => (x.fGroups, x.fParties, x.fLevels, x.fUnits)
theorem op_TUnit {w : World} {L : List Nat} {cs : List Value} {x : TUnit} (h : Rep.R w L cs x) : ∃ v2 v3 v4 : Value, cs = [.string x.fName, vI x.fPeople, v2, v3, v4, .bool x.fWater] ∧ Rep.R w L [v2] x.fGroups ∧ Rep.R w L [v3] x.fVotes ∧ Rep.R w L [v4] x.fParents := by
  obtain ⟨c0, r0, rfl, h0, h⟩ := h
  have e0 : c0 = [.string x.fName] := h0; subst e0
  obtain ⟨c1, r1, rfl, h1, h⟩ := h
  have e1 : c1 = [vI x.fPeople] := h1; subst e1
  obtain ⟨c2, r2, rfl, h2, h⟩ := h
  obtain ⟨v2, rfl, kv2⟩ := lst_one (xs := x.fGroups) h2
  obtain ⟨c3, r3, rfl, h3, h⟩ := h
  obtain ⟨v3, rfl, kv3⟩ := lst_one (xs := x.fVotes) h3
  obtain ⟨c4, r4, rfl, h4, h⟩ := h
  obtain ⟨v4, rfl, kv4⟩ := lst_one (xs := x.fParents) h4
  have e5 : r4 = [.bool x.fWater] := h; subst e5
  exact ⟨v2, v3, v4, rfl, kv2, kv3, kv4⟩
theorem mk_TUnit {w : World} {L : List Nat} (a0 : ByteArray) (a1 : Int) (a2 : List Int) {u2 : Value} (h2 : Rep.R w L [u2] a2) (a3 : List Int) {u3 : Value} (h3 : Rep.R w L [u3] a3) (a4 : List Int) {u4 : Value} (h4 : Rep.R w L [u4] a4) (a5 : Bool) : Rep.R w L [.string a0, vI a1, u2, u3, u4, .bool a5] (⟨a0, a1, a2, a3, a4, a5⟩ : TUnit) := ⟨[.string a0], [vI a1, u2, u3, u4, .bool a5], rfl, rfl, ⟨[vI a1], [u2, u3, u4, .bool a5], rfl, rfl, ⟨[u2], [u3, u4, .bool a5], rfl, h2, ⟨[u3], [u4, .bool a5], rfl, h3, ⟨[u4], [.bool a5], rfl, h4, rfl⟩⟩⟩⟩⟩
theorem el27 : ElT Tryz.prog 27 3 (Rep.size Int) 8 (vI 0) [vI 0] := ⟨Tryz.underlying27, by kernel_rfl, rfl, rfl, rfl, rfl⟩
theorem el23 : ElT Tryz.prog 23 30 (Rep.size TUnit) 104 (.agg #[.string ⟨#[]⟩, vI 0, vN, vN, vN, .bool false]) [.string ⟨#[]⟩, vI 0, vN, vN, vN, .bool false] := ⟨Tryz.underlying23, by kernel_rfl, rfl, rfl, rfl, rfl⟩
def wardmotelaw29_example_p (_n : Nat) : Option TRoll :=
  (sadd ⟨#[117]⟩ ⟨#[97]⟩).bind fun s0 => (app ([] : List TUnit) ([(⟨s0, (10 : Int), ([(1 : Int)] : List Int), ([(2 : Int), (8 : Int)] : List Int), ([] : List Int), false⟩ : TUnit)] : List TUnit)).bind fun xs0 => (sadd ⟨#[117]⟩ ⟨#[98]⟩).bind fun s1 => (app xs0 ([(⟨s1, (10 : Int), ([(4 : Int)] : List Int), ([(3 : Int), (2 : Int)] : List Int), ([] : List Int), false⟩ : TUnit)] : List TUnit)).bind fun xs1 => (sadd ⟨#[117]⟩ ⟨#[99]⟩).bind fun s2 => (app xs1 ([(⟨s2, (20 : Int), ([(2 : Int)] : List Int), ([(1 : Int), (9 : Int)] : List Int), ([] : List Int), false⟩ : TUnit)] : List TUnit)).bind fun xs2 => some (⟨(1 : Int), (2 : Int), (0 : Int), xs2⟩ : TRoll)
theorem wardmotelaw29_example_c (n : Nat) (L : List Nat) (w : World) (hL : ∀ b ∈ L, b < w.heap.size)  {r : TRoll} (h : wardmotelaw29_example_p n = some r) :
    Calls Tryz.prog 5 #[] w (Gives w fun w' u => ∃ (v0_3 : Value) (cs0_3 : List Value), u = .agg #[vI r.fGroups, vI r.fParties, vI r.fLevels, v0_3] ∧ St w w' (rowsOf w.heap.size [(30, Rep.size TUnit, v0_3, r.fUnits.length, cs0_3)]) ∧ Cells w' (bl (rowsOf w.heap.size [(30, Rep.size TUnit, v0_3, r.fUnits.length, cs0_3)]) ++ L) cs0_3 (r.fUnits : List TUnit)) := by
 unfold wardmotelaw29_example_p at h
 have hS0 := St.start w
 refine MX.start Tryz.func5 rfl rfl rfl (fun _ cs0 hb0 => ?_)
 refine MX.sr <| RG.new .plain rfl (Does.alloc (zs := [vI 0, vI 0, vI 0, vN]) hS0 (zB (by kernel_rfl))) (fun w2 b5 hS3 hT4 => ?_)
 refine RG.nil <| MX.sr <| RG.va (FV.buildV (vs := [vI 1, vI 2]) (u := .agg #[vI 1, vI 2, vI 0, vN]) (e2 rfl rfl) (fun w9 => by kernel_rfl)) <| RG.new .plain rfl (Does.alloc (zs := [vI 0, vI 0, vI 0, vN]) hS3 (zB (by kernel_rfl))) (fun w7 b0 hS8 hT9 => ?_)
 refine RG.now .plain (Acts.storeAll (news := [vI 1, vI 2, vI 0, vN]) hS8 .hd rfl rfl rfl rfl rfl rfl (onesB rfl)) (fun w0 hS1 hT0 => ?_)
 refine RG.nil <| MX.seq <| MX.sr <| RG.va (FV.buildV (vs := [vI 10, vI 1, vI 2, vI 8]) (u := .agg #[vI 10, vI 1, vI 2, vI 8]) (e4 rfl rfl rfl rfl) (fun w9 => by kernel_rfl)) <| RG.va (FV.buildV (vs := [vI 10, vI 4, vI 3, vI 2]) (u := .agg #[vI 10, vI 4, vI 3, vI 2]) (e4 rfl rfl rfl rfl) (fun w9 => by kernel_rfl)) <| RG.va (FV.buildV (vs := [vI 20, vI 2, vI 1, vI 9]) (u := .agg #[vI 20, vI 2, vI 1, vI 9]) (e4 rfl rfl rfl rfl) (fun w9 => by kernel_rfl)) ?_
 refine RG.va (FV.buildV (vs := [.agg #[vI 10, vI 1, vI 2, vI 8], .agg #[vI 10, vI 4, vI 3, vI 2], .agg #[vI 20, vI 2, vI 1, vI 9]]) (u := .agg #[vI 10, vI 1, vI 2, vI 8, vI 10, vI 4, vI 3, vI 2, vI 20, vI 2, vI 1, vI 9]) (e3 rfl rfl rfl) (fun w9 => by kernel_rfl)) <| RG.mo rfl <| RG.nil <| MX.block <| MX.loop1 <| MX.sr ?_
 refine RG.va (FV.lssN (i := 0) (j := 3) rfl rfl) <| RG.nil <| MX.seq <| MX.cond_t rfl <| MX.skip <| MX.seq ?_
 refine MX.block <| MX.sr <| RG.mo rfl <| RG.va (FV.idxN (cs := [vI 10, vI 1, vI 2, vI 8, vI 10, vI 4, vI 3, vI 2, vI 20, vI 2, vI 1, vI 9]) (k := 0) (m := 4) (len := 3) (by kernel_rfl) (by kernel_rfl) rfl rfl rfl (by omega) rfl) <| RG.new .plain rfl (Does.alloc (zs := [vI 0, vI 0, vI 0, vI 0]) hS1 (zB (by kernel_rfl))) (fun w1 b1 hS2 hT1 => ?_)
 refine RG.so rfl <| RG.now .plain (Acts.storeAll (news := [vI 10, vI 1, vI 2, vI 8]) hS2 .hd rfl rfl rfl rfl rfl rfl (onesB rfl)) (fun w3 hS4 hT2 => ?_)
 refine RG.nil <| MX.region <| RG.fa 3 rfl <| RG.l1 rfl ((hS4.memA (.tl .hd)) 3 _ rfl) <| RG.mo rfl <| RG.va (FV.add (i := 97) (j := 0) (r := 97) rfl rfl (by decide)) ?_
 refine RG.va (FV.conv (i := 97) Tryz.underlying3 Tryz.underlying21 rfl (by decide)) <| RG.va (FV.convIS (i := 97) (r := ⟨#[97]⟩) Tryz.underlying21 Tryz.underlying9 rfl (by kernel_rfl)) ?_
 obtain ⟨s0, hs0, h⟩ := bind_in h
 refine RG.va (FV.addS hs0 rfl rfl) <| RG.va (FV.indexArr (m := 1) (k := 0) (len := 4) (by kernel_rfl) rfl rfl rfl (by omega)) <| RG.l1 rfl ((hS4.memA .hd) 0 _ rfl) <| RG.va (FV.indexArr (m := 1) (k := 1) (len := 4) (by kernel_rfl) rfl rfl rfl (by omega)) <| RG.l1 rfl ((hS4.memA .hd) 1 _ rfl) <| RG.new .plain rfl (Does.build (α := Int) (xs := ([(1 : Int)] : List Int)) (vs := [vI 1]) (ds' := [vI 1]) rfl hS4 el27 rfl (e1 rfl) (by kernel_rfl) rfl) (fun w4 b2 hS5 hT3 => ?_)
 have hc0 := Cells.at_ (cs := [vI 1]) (xs := (([(1 : Int)] : List Int) : List Int)) hS5 L (Cells.cons (cs := [vI 1]) (ds := []) rfl (Cells.nil _ _))
 refine RG.va (FV.indexArr (m := 1) (k := 2) (len := 4) (by kernel_rfl) rfl rfl rfl (by omega)) <| RG.l1 rfl ((hS5.memA (.tl .hd)) 2 _ rfl) <| RG.va (FV.indexArr (m := 1) (k := 3) (len := 4) (by kernel_rfl) rfl rfl rfl (by omega)) <| RG.l1 rfl ((hS5.memA (.tl .hd)) 3 _ rfl) <| RG.new .plain rfl (Does.build (α := Int) (xs := ([(2 : Int), (8 : Int)] : List Int)) (vs := [vI 2, vI 8]) (ds' := [vI 2, vI 8]) rfl hS5 el27 rfl (e2 rfl rfl) (by kernel_rfl) rfl) (fun w5 b3 hS6 hT5 => ?_)
 have hc1 := Cells.at_ (cs := [vI 2, vI 8]) (xs := (([(2 : Int), (8 : Int)] : List Int) : List Int)) hS6 L (Cells.cons (cs := [vI 2]) (ds := [vI 8]) rfl (Cells.cons (cs := [vI 8]) (ds := []) rfl (Cells.nil _ _)))
 refine RG.va (FV.buildV (vs := [.string s0, vI 10, (vS b2 1), (vS b3 2)]) (u := .agg #[.string s0, vI 10, (vS b2 1), (vS b3 2), vN, .bool false]) (e4 rfl rfl rfl rfl) (fun w9 => by kernel_rfl)) ?_
 have hm0 := Cells.mv hc0 hT5
 have hr0 := St.freeze (α := Int) hS6 (.tl .hd) hm0 hL
 have hS7 := St.delS hS6 (.tl .hd)
 have hT6 := St.delT hS6 (.tl .hd)
 have hr1 := Rep.at_ (α := Int) (v := (vS b2 1)) (xs := ([(1 : Int)] : List Int)) hS7 L hr0
 have hm1 := Cells.mv hc1 hT6
 have hr2 := St.freeze (α := Int) hS7 .hd hm1 hL
 have hS9 := St.delS hS7 .hd
 have hT7 := St.delT hS7 .hd
 have hr3 := Rep.at_ (α := Int) (v := (vS b3 2)) (xs := ([(2 : Int), (8 : Int)] : List Int)) hS9 L hr2
 have hr4 := Rep.nilAt (α := Int) hS9 L
 have hm2 := Rep.mv hr1 hT7
 refine RG.new .plain rfl (Does.build (α := TUnit) (xs := ([(⟨s0, (10 : Int), ([(1 : Int)] : List Int), ([(2 : Int), (8 : Int)] : List Int), ([] : List Int), false⟩ : TUnit)] : List TUnit)) (vs := [.agg #[.string s0, vI 10, (vS b2 1), (vS b3 2), vN, .bool false]]) (ds' := [.string s0, vI 10, (vS b2 1), (vS b3 2), vN, .bool false]) rfl hS9 el23 rfl (e1 rfl) (by kernel_rfl) rfl) (fun w6 b4 hS49 hT8 => ?_)
 have hm3 := Rep.mv hr1 (Tr.trans hT7 hT8)
 have hm4 := Rep.mv hr3 hT8
 have hr5 := Rep.nilAt (α := Int) hS49 L
 have hc2 := Cells.at_ (cs := [.string s0, vI 10, (vS b2 1), (vS b3 2), vN, .bool false]) (xs := (([(⟨s0, (10 : Int), ([(1 : Int)] : List Int), ([(2 : Int), (8 : Int)] : List Int), ([] : List Int), false⟩ : TUnit)] : List TUnit) : List TUnit)) hS49 L (Cells.cons (cs := [.string s0, vI 10, (vS b2 1), (vS b3 2), vN, .bool false]) (ds := []) (mk_TUnit s0 (10 : Int) ([(1 : Int)] : List Int) hm3 ([(2 : Int), (8 : Int)] : List Int) hm4 ([] : List Int) hr5 false) (Cells.nil _ _))
 have hS57 := hS49.nilRow 30 (Rep.size TUnit)
 have hT58 := St.nilRowT hS49 30 (Rep.size TUnit)
 have hc3 := Cells.at_ (cs := []) (xs := ([] : List TUnit)) hS57 L (Cells.nil _ _)
 obtain ⟨xs0, hxs60, h⟩ := bind_in h
 have hm5 := Cells.mv hc2 hT58
 refine RG.doesL .plain rfl (DoesL.app (α := TUnit) (ys := ([(⟨s0, (10 : Int), ([(1 : Int)] : List Int), ([(2 : Int), (8 : Int)] : List Int), ([] : List Int), false⟩ : TUnit)] : List TUnit)) hxs60 hS57 (fun _ _ => .hd) el23 rfl rfl hc3 (Src.row (α := TUnit) hS57 (.tl .hd) hm5)) (fun v0 w8 ⟨cs1, hS63, hT64, hc4⟩ => ?_)
 refine RG.fa 3 rfl <| RG.now .plain (Acts.store (j := 3) (old := [vI 1, vI 2, vI 0, vN]) (news := [v0]) (new' := [vI 1, vI 2, vI 0, v0]) hS63 (.tl (.tl (.tl .hd))) rfl rfl rfl (St.c1 (α := TUnit) hS63 .hd) rfl rfl (o1 (St.o1 (α := TUnit) hS63 .hd)) rfl) (fun w69 hS70 hT71 => ?_)
 refine RG.nil <| MX.inBlock <| MX.region <| RG.va (FV.add (i := 0) (j := 1) (r := 1) rfl rfl (by decide)) <| RG.mo rfl <| RG.nil ?_
 refine MX.again1 <| MX.sr <| RG.va (FV.lssN (i := 1) (j := 3) rfl rfl) <| RG.nil <| MX.seq <| MX.cond_t rfl ?_
 refine MX.skip <| MX.seq <| MX.block <| MX.sr <| RG.mo rfl <| RG.va (FV.idxN (cs := [vI 10, vI 1, vI 2, vI 8, vI 10, vI 4, vI 3, vI 2, vI 20, vI 2, vI 1, vI 9]) (k := 1) (m := 4) (len := 3) (by kernel_rfl) (by kernel_rfl) rfl rfl rfl (by omega) rfl) ?_
 refine RG.new .plain rfl (Does.alloc (zs := [vI 0, vI 0, vI 0, vI 0]) hS70 (zB (by kernel_rfl))) (fun w73 b6 hS74 hT75 => ?_)
 refine RG.so rfl <| RG.now .plain (Acts.storeAll (news := [vI 10, vI 4, vI 3, vI 2]) hS74 .hd rfl rfl rfl rfl rfl rfl (onesB rfl)) (fun w77 hS78 hT79 => ?_)
 refine RG.nil <| MX.region <| RG.fa 3 rfl <| RG.va (FV.l1 rfl ((hS78.memA (.tl (.tl (.tl (.tl .hd))))) 3 _ rfl)) <| RG.mo rfl <| RG.va (FV.add (i := 97) (j := 1) (r := 98) rfl rfl (by decide)) ?_
 refine RG.va (FV.conv (i := 98) Tryz.underlying3 Tryz.underlying21 rfl (by decide)) <| RG.va (FV.convIS (i := 98) (r := ⟨#[98]⟩) Tryz.underlying21 Tryz.underlying9 rfl (by kernel_rfl)) ?_
 obtain ⟨s1, hs1, h⟩ := bind_in h
 refine RG.va (FV.addS hs1 rfl rfl) <| RG.va (FV.indexArr (m := 1) (k := 0) (len := 4) (by kernel_rfl) rfl rfl rfl (by omega)) <| RG.l1 rfl ((hS78.memA .hd) 0 _ rfl) <| RG.va (FV.indexArr (m := 1) (k := 1) (len := 4) (by kernel_rfl) rfl rfl rfl (by omega)) <| RG.l1 rfl ((hS78.memA .hd) 1 _ rfl) <| RG.new .plain rfl (Does.build (α := Int) (xs := ([(4 : Int)] : List Int)) (vs := [vI 4]) (ds' := [vI 4]) rfl hS78 el27 rfl (e1 rfl) (by kernel_rfl) rfl) (fun w82 b7 hS83 hT84 => ?_)
 have hc5 := Cells.at_ (cs := [vI 4]) (xs := (([(4 : Int)] : List Int) : List Int)) hS83 L (Cells.cons (cs := [vI 4]) (ds := []) rfl (Cells.nil _ _))
 refine RG.va (FV.indexArr (m := 1) (k := 2) (len := 4) (by kernel_rfl) rfl rfl rfl (by omega)) <| RG.l1 rfl ((hS83.memA (.tl .hd)) 2 _ rfl) <| RG.va (FV.indexArr (m := 1) (k := 3) (len := 4) (by kernel_rfl) rfl rfl rfl (by omega)) <| RG.l1 rfl ((hS83.memA (.tl .hd)) 3 _ rfl) <| RG.new .plain rfl (Does.build (α := Int) (xs := ([(3 : Int), (2 : Int)] : List Int)) (vs := [vI 3, vI 2]) (ds' := [vI 3, vI 2]) rfl hS83 el27 rfl (e2 rfl rfl) (by kernel_rfl) rfl) (fun w88 b8 hS89 hT90 => ?_)
 have hc6 := Cells.at_ (cs := [vI 3, vI 2]) (xs := (([(3 : Int), (2 : Int)] : List Int) : List Int)) hS89 L (Cells.cons (cs := [vI 3]) (ds := [vI 2]) rfl (Cells.cons (cs := [vI 2]) (ds := []) rfl (Cells.nil _ _)))
 refine RG.va (FV.buildV (vs := [.string s1, vI 10, (vS b7 1), (vS b8 2)]) (u := .agg #[.string s1, vI 10, (vS b7 1), (vS b8 2), vN, .bool false]) (e4 rfl rfl rfl rfl) (fun w9 => by kernel_rfl)) ?_
 have hm6 := Cells.mv hc5 hT90
 have hr6 := St.freeze (α := Int) hS89 (.tl .hd) hm6 hL
 have hS95 := St.delS hS89 (.tl .hd)
 have hT96 := St.delT hS89 (.tl .hd)
 have hr7 := Rep.at_ (α := Int) (v := (vS b7 1)) (xs := ([(4 : Int)] : List Int)) hS95 L hr6
 have hm7 := Cells.mv hc6 hT96
 have hr8 := St.freeze (α := Int) hS95 .hd hm7 hL
 have hS10 := St.delS hS95 .hd
 have hT10 := St.delT hS95 .hd
 have hr9 := Rep.at_ (α := Int) (v := (vS b8 2)) (xs := ([(3 : Int), (2 : Int)] : List Int)) hS10 L hr8
 have hr10 := Rep.nilAt (α := Int) hS10 L
 have hm8 := Rep.mv hr7 hT10
 refine RG.new .plain rfl (Does.build (α := TUnit) (xs := ([(⟨s1, (10 : Int), ([(4 : Int)] : List Int), ([(3 : Int), (2 : Int)] : List Int), ([] : List Int), false⟩ : TUnit)] : List TUnit)) (vs := [.agg #[.string s1, vI 10, (vS b7 1), (vS b8 2), vN, .bool false]]) (ds' := [.string s1, vI 10, (vS b7 1), (vS b8 2), vN, .bool false]) rfl hS10 el23 rfl (e1 rfl) (by kernel_rfl) rfl) (fun w10 b9 hS11 hT11 => ?_)
 have hm9 := Rep.mv hr7 (Tr.trans hT10 hT11)
 have hm10 := Rep.mv hr9 hT11
 have hr11 := Rep.nilAt (α := Int) hS11 L
 have hc7 := Cells.at_ (cs := [.string s1, vI 10, (vS b7 1), (vS b8 2), vN, .bool false]) (xs := (([(⟨s1, (10 : Int), ([(4 : Int)] : List Int), ([(3 : Int), (2 : Int)] : List Int), ([] : List Int), false⟩ : TUnit)] : List TUnit) : List TUnit)) hS11 L (Cells.cons (cs := [.string s1, vI 10, (vS b7 1), (vS b8 2), vN, .bool false]) (ds := []) (mk_TUnit s1 (10 : Int) ([(4 : Int)] : List Int) hm9 ([(3 : Int), (2 : Int)] : List Int) hm10 ([] : List Int) hr11 false) (Cells.nil _ _))
 obtain ⟨xs1, hxs114, h⟩ := bind_in h
 have hq115 := Tr.trans hT71 (Tr.trans hT75 (Tr.trans hT79 (Tr.trans hT84 (Tr.trans hT90 (Tr.trans hT96 (Tr.trans hT10 hT11))))))
 have hm11 := Cells.mv hc4 hq115
 refine RG.doesL .plain rfl (DoesL.app (α := TUnit) (ys := ([(⟨s1, (10 : Int), ([(4 : Int)] : List Int), ([(3 : Int), (2 : Int)] : List Int), ([] : List Int), false⟩ : TUnit)] : List TUnit)) hxs114 hS11 (fun _ _ => (.tl (.tl .hd))) el23 rfl rfl hm11 (Src.row (α := TUnit) hS11 .hd hc7)) (fun v1 w12 ⟨cs2, hS13, hT12, hc8⟩ => ?_)
 refine RG.fa 3 rfl <| RG.now .plain (Acts.store (j := 3) (old := [vI 1, vI 2, vI 0, v0]) (news := [v1]) (new' := [vI 1, vI 2, vI 0, v1]) hS13 (.tl (.tl (.tl (.tl (.tl .hd))))) rfl rfl rfl (St.c1 (α := TUnit) hS13 (.tl (.tl .hd))) rfl rfl (o1 (St.o1 (α := TUnit) hS13 (.tl (.tl .hd)))) rfl) (fun w13 hS14 hT14 => ?_)
 refine RG.nil <| MX.inBlock <| MX.region <| RG.va (FV.add (i := 1) (j := 1) (r := 2) rfl rfl (by decide)) <| RG.mo rfl <| RG.nil ?_
 refine MX.again1 <| MX.sr <| RG.va (FV.lssN (i := 2) (j := 3) rfl rfl) <| RG.nil <| MX.seq <| MX.cond_t rfl ?_
 refine MX.skip <| MX.seq <| MX.block <| MX.sr <| RG.mo rfl <| RG.va (FV.idxN (cs := [vI 10, vI 1, vI 2, vI 8, vI 10, vI 4, vI 3, vI 2, vI 20, vI 2, vI 1, vI 9]) (k := 2) (m := 4) (len := 3) (by kernel_rfl) (by kernel_rfl) rfl rfl rfl (by omega) rfl) ?_
 refine RG.new .plain rfl (Does.alloc (zs := [vI 0, vI 0, vI 0, vI 0]) hS14 (zB (by kernel_rfl))) (fun w14 b11 hS15 hT15 => ?_)
 refine RG.so rfl <| RG.now .plain (Acts.storeAll (news := [vI 20, vI 2, vI 1, vI 9]) hS15 .hd rfl rfl rfl rfl rfl rfl (onesB rfl)) (fun w16 hS17 hT16 => ?_)
 refine RG.nil <| MX.region <| RG.fa 3 rfl <| RG.va (FV.l1 rfl ((hS17.memA (.tl (.tl (.tl (.tl (.tl (.tl .hd))))))) 3 _ rfl)) <| RG.mo rfl <| RG.va (FV.add (i := 97) (j := 2) (r := 99) rfl rfl (by decide)) ?_
 refine RG.va (FV.conv (i := 99) Tryz.underlying3 Tryz.underlying21 rfl (by decide)) <| RG.va (FV.convIS (i := 99) (r := ⟨#[99]⟩) Tryz.underlying21 Tryz.underlying9 rfl (by kernel_rfl)) ?_
 obtain ⟨s2, hs2, h⟩ := bind_in h
 refine RG.va (FV.addS hs2 rfl rfl) <| RG.va (FV.indexArr (m := 1) (k := 0) (len := 4) (by kernel_rfl) rfl rfl rfl (by omega)) <| RG.l1 rfl ((hS17.memA .hd) 0 _ rfl) <| RG.va (FV.indexArr (m := 1) (k := 1) (len := 4) (by kernel_rfl) rfl rfl rfl (by omega)) <| RG.l1 rfl ((hS17.memA .hd) 1 _ rfl) <| RG.new .plain rfl (Does.build (α := Int) (xs := ([(2 : Int)] : List Int)) (vs := [vI 2]) (ds' := [vI 2]) rfl hS17 el27 rfl (e1 rfl) (by kernel_rfl) rfl) (fun w17 b12 hS18 hT18 => ?_)
 have hc9 := Cells.at_ (cs := [vI 2]) (xs := (([(2 : Int)] : List Int) : List Int)) hS18 L (Cells.cons (cs := [vI 2]) (ds := []) rfl (Cells.nil _ _))
 refine RG.va (FV.indexArr (m := 1) (k := 2) (len := 4) (by kernel_rfl) rfl rfl rfl (by omega)) <| RG.l1 rfl ((hS18.memA (.tl .hd)) 2 _ rfl) <| RG.va (FV.indexArr (m := 1) (k := 3) (len := 4) (by kernel_rfl) rfl rfl rfl (by omega)) <| RG.l1 rfl ((hS18.memA (.tl .hd)) 3 _ rfl) <| RG.new .plain rfl (Does.build (α := Int) (xs := ([(1 : Int), (9 : Int)] : List Int)) (vs := [vI 1, vI 9]) (ds' := [vI 1, vI 9]) rfl hS18 el27 rfl (e2 rfl rfl) (by kernel_rfl) rfl) (fun w18 b13 hS19 hT19 => ?_)
 have hc10 := Cells.at_ (cs := [vI 1, vI 9]) (xs := (([(1 : Int), (9 : Int)] : List Int) : List Int)) hS19 L (Cells.cons (cs := [vI 1]) (ds := [vI 9]) rfl (Cells.cons (cs := [vI 9]) (ds := []) rfl (Cells.nil _ _)))
 refine RG.va (FV.buildV (vs := [.string s2, vI 20, (vS b12 1), (vS b13 2)]) (u := .agg #[.string s2, vI 20, (vS b12 1), (vS b13 2), vN, .bool false]) (e4 rfl rfl rfl rfl) (fun w9 => by kernel_rfl)) ?_
 have hm12 := Cells.mv hc9 hT19
 have hr12 := St.freeze (α := Int) hS19 (.tl .hd) hm12 hL
 have hS21 := St.delS hS19 (.tl .hd)
 have hT20 := St.delT hS19 (.tl .hd)
 have hr13 := Rep.at_ (α := Int) (v := (vS b12 1)) (xs := ([(2 : Int)] : List Int)) hS21 L hr12
 have hm13 := Cells.mv hc10 hT20
 have hr14 := St.freeze (α := Int) hS21 .hd hm13 hL
 have hS22 := St.delS hS21 .hd
 have hT22 := St.delT hS21 .hd
 have hr15 := Rep.at_ (α := Int) (v := (vS b13 2)) (xs := ([(1 : Int), (9 : Int)] : List Int)) hS22 L hr14
 have hr16 := Rep.nilAt (α := Int) hS22 L
 have hm14 := Rep.mv hr13 hT22
 refine RG.new .plain rfl (Does.build (α := TUnit) (xs := ([(⟨s2, (20 : Int), ([(2 : Int)] : List Int), ([(1 : Int), (9 : Int)] : List Int), ([] : List Int), false⟩ : TUnit)] : List TUnit)) (vs := [.agg #[.string s2, vI 20, (vS b12 1), (vS b13 2), vN, .bool false]]) (ds' := [.string s2, vI 20, (vS b12 1), (vS b13 2), vN, .bool false]) rfl hS22 el23 rfl (e1 rfl) (by kernel_rfl) rfl) (fun w20 b14 hS23 hT23 => ?_)
 have hm15 := Rep.mv hr13 (Tr.trans hT22 hT23)
 have hm16 := Rep.mv hr15 hT23
 have hr17 := Rep.nilAt (α := Int) hS23 L
 have hc11 := Cells.at_ (cs := [.string s2, vI 20, (vS b12 1), (vS b13 2), vN, .bool false]) (xs := (([(⟨s2, (20 : Int), ([(2 : Int)] : List Int), ([(1 : Int), (9 : Int)] : List Int), ([] : List Int), false⟩ : TUnit)] : List TUnit) : List TUnit)) hS23 L (Cells.cons (cs := [.string s2, vI 20, (vS b12 1), (vS b13 2), vN, .bool false]) (ds := []) (mk_TUnit s2 (20 : Int) ([(2 : Int)] : List Int) hm15 ([(1 : Int), (9 : Int)] : List Int) hm16 ([] : List Int) hr17 false) (Cells.nil _ _))
 obtain ⟨xs2, hxs169, h⟩ := bind_in h
 have hq170 := Tr.trans hT14 (Tr.trans hT15 (Tr.trans hT16 (Tr.trans hT18 (Tr.trans hT19 (Tr.trans hT20 (Tr.trans hT22 hT23))))))
 have hm17 := Cells.mv hc8 hq170
 refine RG.doesL .plain rfl (DoesL.app (α := TUnit) (ys := ([(⟨s2, (20 : Int), ([(2 : Int)] : List Int), ([(1 : Int), (9 : Int)] : List Int), ([] : List Int), false⟩ : TUnit)] : List TUnit)) hxs169 hS23 (fun _ _ => (.tl (.tl (.tl (.tl .hd))))) el23 rfl rfl hm17 (Src.row (α := TUnit) hS23 .hd hc11)) (fun v2 w21 ⟨cs3, hS24, hT24, hc12⟩ => ?_)
 refine RG.fa 3 rfl <| RG.now .plain (Acts.store (j := 3) (old := [vI 1, vI 2, vI 0, v1]) (news := [v2]) (new' := [vI 1, vI 2, vI 0, v2]) hS24 (.tl (.tl (.tl (.tl (.tl (.tl (.tl .hd))))))) rfl rfl rfl (St.c1 (α := TUnit) hS24 (.tl (.tl (.tl (.tl .hd))))) rfl rfl (o1 (St.o1 (α := TUnit) hS24 (.tl (.tl (.tl (.tl .hd)))))) rfl) (fun w22 hS26 hT25 => ?_)
 refine RG.nil <| MX.inBlock <| MX.region <| RG.va (FV.add (i := 2) (j := 1) (r := 3) rfl rfl (by decide)) <| RG.mo rfl <| RG.nil ?_
 refine MX.again1 <| MX.sr <| RG.va (FV.lssN (i := 3) (j := 3) rfl rfl) <| RG.nil <| MX.seq <| MX.cond_f rfl ?_
 refine MX.exit rfl <| MX.sr <| RG.va (FV.lN rfl (hS26.memA (.tl (.tl (.tl (.tl (.tl (.tl (.tl .hd))))))))) <| RG.now .plain (Acts.storeAll (news := [vI 1, vI 2, vI 0, v2]) hS26 (.tl (.tl (.tl (.tl (.tl (.tl (.tl (.tl .hd)))))))) rfl rfl rfl rfl rfl rfl (o4 rfl rfl rfl (St.o1 (α := TUnit) hS26 (.tl (.tl (.tl (.tl .hd))))))) (fun w23 hS27 hT27 => ?_)
 refine RG.nil <| MX.ret rfl <| RT.leave (u := .agg #[vI 1, vI 2, vI 0, v2]) hb0 Tryz.func5 rfl (.cons (.many (cs := [vI 1, vI 2, vI 0, v2]) (by kernel_rfl) rfl (hS27.memA (.tl (.tl (.tl (.tl (.tl (.tl (.tl (.tl .hd)))))))))) .nil) rfl ?_
 obtain ⟨hS28, hT28⟩ := St.arrB hS27 (.one (.tl (.tl (.tl (.tl .hd)))) .done)
 cases h
 have hq187 := Tr.trans hT25 (Tr.trans hT27 hT28)
 have hm18 := Cells.mv hc12 hq187
 exact ⟨hS28.ag, fun w9 hw9 => ⟨v2, cs3, rfl, hS28.agree hw9, Cells.keep0 hm18 hw9⟩⟩
structure TShare where
  fN : UInt64 × UInt64 × UInt64 × UInt64 × UInt64 × UInt64 × UInt64 × UInt64
  fD : UInt64 × UInt64 × UInt64 × UInt64 × UInt64 × UInt64 × UInt64 × UInt64
  deriving DecidableEq
instance : Rep TShare := Rep.via (β := (UInt64 × UInt64 × UInt64 × UInt64 × UInt64 × UInt64 × UInt64 × UInt64) × (UInt64 × UInt64 × UInt64 × UInt64 × UInt64 × UInt64 × UInt64 × UInt64)) fun x => (x.fN, x.fD)
structure Tbroken where
  fErrno : Int
  deriving DecidableEq
instance : Rep Tbroken := Rep.via (β := Int) fun x => x.fErrno
def minority_must_list_int_p (_n : Nat) (a0 : List Int) (a1 : Int) : Option (Except Tbroken (List Int)) :=
  (if a1 = 0 then some (.ok a0) else some (.error (⟨a1⟩ : Tbroken)))
theorem minority_must_list_int_c (n : Nat) (L : List Nat) (w : World) (_hL : ∀ b ∈ L, b < w.heap.size) (a0 : List Int) {v0_0 : Value} (h0_0 : Rep.R w L [v0_0] a0) (a1 : Int)  {r : Except Tbroken (List Int)} (h : minority_must_list_int_p n a0 a1 = some r) :
    Calls Tryz.prog 49 #[v0_0, vI a1] w (PGives w (fun (y : List Int) w' u => ∃ v0_0 : Value, u = v0_0 ∧ Rep.R w' L [v0_0] y) (fun e => .iface 93 (.agg #[vI e.fErrno])) r) := by
 unfold minority_must_list_int_p at h
 have hS0 := St.start w
 refine MX.startP Tryz.func49 rfl rfl rfl (fun _ cs0 hb0 hp0 => ?_)
 refine MX.sr <| RG.so rfl <| RG.nil <| MX.seq <| MX.sr <| RG.mo rfl ?_
 refine RG.va (FV.neq (i := a1) (j := 0) rfl rfl) <| RG.nil <| MX.ifn rfl h (fun c1 h => ?_) (fun c1 h => ?_)
 refine MX.skip <| MX.sr <| RG.mo rfl <| RG.so rfl <| RG.nil <| MX.ret rfl ?_
 refine RT.t1 hb0 Tryz.func49 rfl rfl ?_
 cases h
 exact ⟨hS0.ag, fun w9 hw9 => okOf_in ⟨v0_0, rfl, hS0.kd h0_0 hw9⟩⟩
 refine MX.region <| RG.mo rfl <| RG.va (FV.buildV (vs := [vI a1]) (u := .agg #[vI a1]) (e1 rfl) (fun w9 => by kernel_rfl)) <| RG.va (FV.makeInterface (by kernel_rfl) rfl) <| RG.panic .plain rfl ?_
 cases h
 exact PN.leave hp0 Tryz.func49 ⟨hS0.ag, rfl⟩
def slices_Index_bool_bool_l1 (_n : Nat) (a0 : List Bool) (a1 : Bool) (J0 : Nat → Option (Int ⊕ Unit)) : Nat → Option (Int ⊕ Unit)
  | i0 => (if i0 < a0.length then (a0[i0]?).bind fun x0 => (if (a1 == x0) = true then some (.inl ((i0 : Nat) : Int)) else J0 (i0 + 1)) else some (.inr ()))
def slices_Index_bool_bool_p (n : Nat) (a0 : List Bool) (a1 : Bool) : Option Int :=
  thn (loopF (slices_Index_bool_bool_l1 n a0 a1) n 0) (fun _ => some (-1 : Int))
theorem slices_Index_bool_bool_c (n : Nat) (L : List Nat) (w : World) (_hL : ∀ b ∈ L, b < w.heap.size) (a0 : List Bool) {v0_0 : Value} (h0_0 : Rep.R w L [v0_0] a0) (a1 : Bool)  {r : Int} (h : slices_Index_bool_bool_p n a0 a1 = some r) :
    Calls Tryz.prog 125 #[v0_0, .bool a1] w (Gives w fun _ u => u = vI r) := by
 unfold slices_Index_bool_bool_p at h
 have hS0 := St.start w
 refine MX.start Tryz.func125 rfl rfl rfl (fun _ cs0 hb0 => ?_)
 refine MX.sr <| RG.so rfl <| RG.nil <| MX.seq <| MX.sr <| RG.mo rfl ?_
 have hl1 : a0.length ≤ 281474976710656 := Rep.lenle h0_0
 refine RG.va (FV.len (xs := a0) Tryz.underlying162 rfl h0_0) <| RG.mo rfl <| RG.nil <| MX.block ?_
 obtain ⟨o0, ho23, hh25⟩ := thn_in h
 refine MX.loop (α := Nat) (fun i0 => [(0, v0_0), (1, .bool a1), (7, vI ((a0.length : Nat) : Int)), (8, vI ((i0 : Nat) : Int))]) (fun i0 wx0 => St w wx0 [] ∧ Tr w [] wx0 []) (fun i0 => i0) 0 ho23 ⟨rfl, rfl, rfl, rfl, trivial⟩ ⟨hS0, Tr.refl _ _⟩ ?_
 rintro J0 i0 wx0 hJ27 ⟨hS1, hT0⟩ h
 unfold slices_Index_bool_bool_l1 at h
 try dsimp only at h
 refine MX.sr <| RG.va (FV.lssN (i := i0) (j := a0.length) rfl rfl) <| RG.nil <| MX.seq <| MX.ifd rfl h (fun c0 h => ?_) (fun c0 h => ?_)
 refine MX.skip <| MX.seq <| MX.block <| MX.sr <| RG.mo rfl <| RG.so rfl ?_
 refine RG.nil <| MX.sr <| RG.mo rfl <| RG.mo rfl <| RG.mo rfl ?_
 obtain ⟨x0, hx0, h⟩ := bind_in h
 have hm0 := Rep.mv0 h0_0 hS1
 obtain ⟨A30, c1, he0, hk0, cs1, hr0, hm1⟩ := Rep.nth hm0 hx0
 have he1 : cs1 = [.bool x0] := hr0; subst he1
 refine RG.va (FV.ia 1 i0 rfl he0 rfl rfl hk0) <| RG.l1 rfl (hm1 0 _ rfl) <| RG.va (FV.eqlB (a := a1) (b := x0) Tryz.underlying4 rfl rfl) <| RG.nil <| MX.ifb rfl h (fun c2 h => ?_) (fun c2 h => ?_)
 refine MX.sr <| RG.mo rfl <| RG.so rfl <| RG.nil ?_
 have h := thn_inl h hh25
 refine MX.ret rfl <| RT.t1 hb0 Tryz.func125 rfl rfl ?_
 cases h
 exact hS1.gv
 refine MX.skip <| MX.inBlock <| MX.region <| RG.va (FV.addN (i := i0) (j := 1) rfl rfl (by omega)) <| RG.mo rfl <| RG.nil ?_
 exact hJ27 (i0 + 1) _ _ ⟨rfl, rfl, rfl, rfl, trivial⟩ ⟨hS1, hT0⟩ h
 refine MX.exit rfl ?_
 have h := thn_inr h hh25
 try dsimp only at h
 refine MX.sr <| RG.so rfl <| RG.nil <| MX.ret rfl <| RT.t1 hb0 Tryz.func125 rfl rfl ?_
 cases h
 exact hS1.gv
theorem body125 : bodyB Tryz.prog 125 = true := by kernel_rfl
def slices_Contains_bool_bool_p (n : Nat) (a0 : List Bool) (a1 : Bool) : Option Bool :=
  (slices_Index_bool_bool_p n a0 a1).bind fun y1 => some (decide (0 ≤ y1))
theorem slices_Contains_bool_bool_c (n : Nat) (L : List Nat) (w : World) (hL : ∀ b ∈ L, b < w.heap.size) (a0 : List Bool) {v0_0 : Value} (h0_0 : Rep.R w L [v0_0] a0) (a1 : Bool)  {r : Bool} (h : slices_Contains_bool_bool_p n a0 a1 = some r) :
    Calls Tryz.prog 113 #[v0_0, .bool a1] w (Gives w fun _ u => u = .bool r) := by
 unfold slices_Contains_bool_bool_p at h
 have hS0 := St.start w
 refine MX.start Tryz.func113 rfl rfl rfl (fun _ cs0 hb0 => ?_)
 refine MX.sr <| RG.so rfl <| RG.nil <| MX.sr <| RG.mo rfl <| RG.mo rfl ?_
 obtain ⟨y1, hy1, h⟩ := bind_in h
 refine RG.cq (vI y1) body125 rfl (e2 rfl rfl) (fun w9 hw9 => slices_Index_bool_bool_c n _ w9 (hS0.hL0 hL hw9) a0 (hS0.kd h0_0 hw9) a1 hy1) rfl <| RG.va (FV.geq (i := y1) (j := 0) rfl rfl) <| RG.so rfl <| RG.nil <| MX.ret rfl <| RT.t1 hb0 Tryz.func113 rfl rfl ?_
 cases h
 exact hS0.gv
theorem body113 : bodyB Tryz.prog 113 = true := by kernel_rfl
def units_every_p (n : Nat) (a0 : List Bool) : Option Bool :=
  (slices_Contains_bool_bool_p n a0 false).bind fun y1 => some (!y1)
theorem units_every_c (n : Nat) (L : List Nat) (w : World) (hL : ∀ b ∈ L, b < w.heap.size) (a0 : List Bool) {v0_0 : Value} (h0_0 : Rep.R w L [v0_0] a0)  {r : Bool} (h : units_every_p n a0 = some r) :
    Calls Tryz.prog 90 #[v0_0] w (Gives w fun _ u => u = .bool r) := by
 unfold units_every_p at h
 have hS0 := St.start w
 refine MX.start Tryz.func90 rfl rfl rfl (fun _ cs0 hb0 => ?_)
 refine MX.sr <| RG.so rfl <| RG.nil <| MX.sr <| RG.mo rfl ?_
 obtain ⟨y1, hy1, h⟩ := bind_in h
 refine RG.cq (.bool y1) body113 rfl (e2 rfl rfl) (fun w9 hw9 => slices_Contains_bool_bool_c n _ w9 (hS0.hL0 hL hw9) a0 (hS0.kd h0_0 hw9) false hy1) rfl <| RG.va (FV.not rfl) <| RG.so rfl <| RG.nil <| MX.ret rfl <| RT.t1 hb0 Tryz.func90 rfl rfl ?_
 cases h
 exact hS0.gv
def strings_trimLeftByte_l1 (_n : Nat) (a1 : UInt8) (J0 : ByteArray → Option ByteArray) : ByteArray → Option ByteArray
  | s0 => (if 0 < s0.size then (s0.data[0]?).bind fun z0 => (if z0.toNat = a1.toNat then (scut s0 1 (s0.size : Int)).bind fun s1 => J0 s1 else some s0) else some s0)
def strings_trimLeftByte_p (n : Nat) (a0 : ByteArray) (a1 : UInt8) : Option ByteArray :=
  jn (fun s0 => some s0) (fun J0 => Option.bind (loopF (strings_trimLeftByte_l1 n a1) n a0) (J0))
theorem strings_trimLeftByte_c (n : Nat) (L : List Nat) (w : World) (_hL : ∀ b ∈ L, b < w.heap.size) (a0 : ByteArray) (a1 : UInt8)  {r : ByteArray} (h : strings_trimLeftByte_p n a0 a1 = some r) :
    Calls Tryz.prog 126 #[.string a0, .int .u8 (a1.toNat : Int)] w (Gives w fun _ u => u = .string r) := by
 unfold strings_trimLeftByte_p at h
 have hS0 := St.start w
 refine MX.start Tryz.func126 rfl rfl rfl (fun _ cs0 hb0 => ?_)
 refine MX.sr <| RG.so rfl <| RG.nil <| MX.seq <| MX.block <| MX.joinx (α := ByteArray) (fun s0 => [(0, .string s0)]) (fun s0 wx0 => St w wx0 [] ∧ Tr w [] wx0 []) (fun s0 => s0) (id := 0) rfl h ?_ ?_
 rintro s0 wx0 ⟨hS1, hT0⟩ h
 try dsimp only at h
 refine MX.sr <| RG.mo rfl <| RG.so rfl <| RG.nil <| MX.ret rfl <| RT.t1 hb0 Tryz.func126 rfl rfl ?_
 cases h
 exact hS1.gv
 intro J0 hJ36 h
 try dsimp only at h
 obtain ⟨o0, ho50, hh52⟩ := bind_in2 h
 refine MX.loop (α := ByteArray) (fun s1 => [(0, .string s1), (1, .int .u8 (a1.toNat : Int))]) (fun s1 wx1 => St w wx1 [] ∧ Tr w [] wx1 []) (fun s1 => s1) a0 ho50 ⟨rfl, rfl, trivial⟩ ⟨hS0, Tr.refl _ _⟩ ?_
 rintro J1 s1 wx1 hJ54 ⟨hS2, hT1⟩ h
 unfold strings_trimLeftByte_l1 at h
 try dsimp only at h
 refine MX.seq <| MX.sr <| RG.mo rfl <| RG.va (FV.len_string Tryz.underlying9 rfl) <| RG.va (FV.gtrN (i := s1.size) (j := 0) rfl rfl) <| RG.mo rfl ?_
 refine RG.ifd (s := 8) rfl h (fun c0 h => ?_) (fun c0 h => ?_)
 refine RG.ga (FV.move rfl) ?_
 obtain ⟨z0, hz56, h⟩ := bind_in h
 refine RG.ga (FV.strAt (k := 0) Tryz.underlying9 rfl rfl rfl hz56) <| RG.ga (FV.move rfl) <| RG.ga (FV.eqlN (i := z0.toNat) (j := a1.toNat) rfl rfl) <| RG.pt rfl rfl <| RG.nil <| MX.ifd rfl h (fun c1 h => ?_) (fun c1 h => ?_)
 refine MX.skip <| MX.block <| MX.region <| RG.mo rfl ?_
 obtain ⟨s2, hs0, h⟩ := bind_in h
 refine RG.va (FV.strCut hs0 Tryz.underlying9 rfl ⟨_, rfl⟩ rfl) <| RG.so rfl <| RG.nil <| MX.inBlock ?_
 exact hJ54 s2 _ _ ⟨rfl, rfl, trivial⟩ ⟨hS2, hT1⟩ h
 refine MX.exit rfl ?_
 have h := hh52 _ h
 try dsimp only at h
 exact hJ36 s1 _ _ ⟨rfl, trivial⟩ ⟨hS2, hT1⟩ h
 refine RG.no <| RG.no <| RG.no <| RG.no <| RG.pf rfl rfl <| RG.nil ?_
 refine MX.cond_f rfl <| MX.exit rfl ?_
 have h := hh52 _ h
 try dsimp only at h
 exact hJ36 s1 _ _ ⟨rfl, trivial⟩ ⟨hS2, hT1⟩ h
def strings_trimRightByte_l1 (_n : Nat) (a1 : UInt8) (J0 : ByteArray → Option ByteArray) : ByteArray → Option ByteArray
  | s0 => (if 0 < s0.size then (chk (((s0.size : Nat) : Int) - 1)).bind fun s1 => (sidx s0 s1).bind fun z0 => (if z0.toNat = a1.toNat then (chk (((s0.size : Nat) : Int) - 1)).bind fun s2 => (scut s0 0 s2).bind fun s3 => J0 s3 else some s0) else some s0)
def strings_trimRightByte_p (n : Nat) (a0 : ByteArray) (a1 : UInt8) : Option ByteArray :=
  jn (fun s0 => some s0) (fun J0 => Option.bind (loopF (strings_trimRightByte_l1 n a1) n a0) (J0))
theorem strings_trimRightByte_c (n : Nat) (L : List Nat) (w : World) (_hL : ∀ b ∈ L, b < w.heap.size) (a0 : ByteArray) (a1 : UInt8)  {r : ByteArray} (h : strings_trimRightByte_p n a0 a1 = some r) :
    Calls Tryz.prog 127 #[.string a0, .int .u8 (a1.toNat : Int)] w (Gives w fun _ u => u = .string r) := by
 unfold strings_trimRightByte_p at h
 have hS0 := St.start w
 refine MX.start Tryz.func127 rfl rfl rfl (fun _ cs0 hb0 => ?_)
 refine MX.sr <| RG.so rfl <| RG.nil <| MX.seq <| MX.block <| MX.joinx (α := ByteArray) (fun s0 => [(0, .string s0)]) (fun s0 wx0 => St w wx0 [] ∧ Tr w [] wx0 []) (fun s0 => s0) (id := 0) rfl h ?_ ?_
 rintro s0 wx0 ⟨hS1, hT0⟩ h
 try dsimp only at h
 refine MX.sr <| RG.mo rfl <| RG.so rfl <| RG.nil <| MX.ret rfl <| RT.t1 hb0 Tryz.func127 rfl rfl ?_
 cases h
 exact hS1.gv
 intro J0 hJ48 h
 try dsimp only at h
 obtain ⟨o0, ho66, hh68⟩ := bind_in2 h
 refine MX.loop (α := ByteArray) (fun s1 => [(0, .string s1), (1, .int .u8 (a1.toNat : Int))]) (fun s1 wx1 => St w wx1 [] ∧ Tr w [] wx1 []) (fun s1 => s1) a0 ho66 ⟨rfl, rfl, trivial⟩ ⟨hS0, Tr.refl _ _⟩ ?_
 rintro J1 s1 wx1 hJ70 ⟨hS2, hT1⟩ h
 unfold strings_trimRightByte_l1 at h
 try dsimp only at h
 refine MX.seq <| MX.sr <| RG.mo rfl <| RG.va (FV.len_string Tryz.underlying9 rfl) <| RG.va (FV.gtrN (i := s1.size) (j := 0) rfl rfl) <| RG.mo rfl ?_
 refine RG.ifd (s := 8) rfl h (fun c0 h => ?_) (fun c0 h => ?_)
 refine RG.ga (FV.move rfl) <| RG.ga (FV.move rfl) <| RG.ga (FV.len_string Tryz.underlying9 rfl) ?_
 obtain ⟨s2, hs0, h⟩ := bind_in h
 refine RG.ga (FV.subc (i := ((s1.size : Nat) : Int)) (j := 1) rfl rfl hs0) ?_
 obtain ⟨z0, hz73, h⟩ := bind_in h
 obtain ⟨hi0, hx0⟩ := sidx_in hz73
 refine RG.ga (FV.strAt (k := s2.toNat) Tryz.underlying9 rfl rfl hi0 hx0) <| RG.ga (FV.move rfl) <| RG.ga (FV.eqlN (i := z0.toNat) (j := a1.toNat) rfl rfl) <| RG.pt rfl rfl <| RG.nil <| MX.ifd rfl h (fun c1 h => ?_) (fun c1 h => ?_)
 refine MX.skip <| MX.block <| MX.region <| RG.mo rfl <| RG.mo rfl <| RG.va (FV.len_string Tryz.underlying9 rfl) ?_
 obtain ⟨s3, hs1, h⟩ := bind_in h
 refine RG.va (FV.subc (i := ((s1.size : Nat) : Int)) (j := 1) rfl rfl hs1) ?_
 obtain ⟨s4, hs2, h⟩ := bind_in h
 refine RG.va (FV.strCut hs2 Tryz.underlying9 rfl rfl ⟨_, rfl⟩) <| RG.so rfl <| RG.nil <| MX.inBlock ?_
 exact hJ70 s4 _ _ ⟨rfl, rfl, trivial⟩ ⟨hS2, hT1⟩ h
 refine MX.exit rfl ?_
 have h := hh68 _ h
 try dsimp only at h
 exact hJ48 s1 _ _ ⟨rfl, trivial⟩ ⟨hS2, hT1⟩ h
 refine RG.no <| RG.no <| RG.no <| RG.no <| RG.no <| RG.no ?_
 refine RG.no <| RG.pf rfl rfl <| RG.nil <| MX.cond_f rfl <| MX.exit rfl ?_
 have h := hh68 _ h
 try dsimp only at h
 exact hJ48 s1 _ _ ⟨rfl, trivial⟩ ⟨hS2, hT1⟩ h
def internal_stringslite_IndexByte_p (_n : Nat) (_a0 : ByteArray) (_a1 : UInt8) : Option Int :=
  none
theorem internal_stringslite_IndexByte_c (n : Nat) (L : List Nat) (w : World) (_hL : ∀ b ∈ L, b < w.heap.size) (a0 : ByteArray) (a1 : UInt8)  {r : Int} (h : internal_stringslite_IndexByte_p n a0 a1 = some r) :
    Calls Tryz.prog 149 #[.string a0, .int .u8 (a1.toNat : Int)] w (Gives w fun _ u => u = vI r) := by
 unfold internal_stringslite_IndexByte_p at h
 have hS0 := St.start w
 refine MX.start Tryz.func149 rfl rfl rfl (fun _ cs0 hb0 => ?_)
 refine MX.sr <| RG.so rfl <| RG.nil <| MX.sr <| RG.mo rfl <| RG.mo rfl ?_
 cases h
theorem body149 : bodyB Tryz.prog 149 = true := by kernel_rfl
def strings_IndexByte_p (n : Nat) (a0 : ByteArray) (a1 : UInt8) : Option Int :=
  (internal_stringslite_IndexByte_p n a0 a1).bind fun y1 => some y1
theorem strings_IndexByte_c (n : Nat) (L : List Nat) (w : World) (hL : ∀ b ∈ L, b < w.heap.size) (a0 : ByteArray) (a1 : UInt8)  {r : Int} (h : strings_IndexByte_p n a0 a1 = some r) :
    Calls Tryz.prog 145 #[.string a0, .int .u8 (a1.toNat : Int)] w (Gives w fun _ u => u = vI r) := by
 unfold strings_IndexByte_p at h
 have hS0 := St.start w
 refine MX.start Tryz.func145 rfl rfl rfl (fun _ cs0 hb0 => ?_)
 refine MX.sr <| RG.so rfl <| RG.nil <| MX.sr <| RG.mo rfl <| RG.mo rfl ?_
 obtain ⟨y1, hy1, h⟩ := bind_in h
 refine RG.cq (vI y1) body149 rfl (e2 rfl rfl) (fun w9 hw9 => internal_stringslite_IndexByte_c n _ w9 (hS0.hL0 hL hw9) a0 a1 hy1) rfl <| RG.so rfl <| RG.nil <| MX.ret rfl <| RT.t1 hb0 Tryz.func145 rfl rfl ?_
 cases h
 exact hS0.gv
def unicode_utf8_ValidRune_p (_n : Nat) (a0 : Int) : Option Bool :=
  (if 0 ≤ a0 then (if a0 < 55296 then some true else (if 57343 < a0 then (if a0 ≤ 1114111 then some true else some false) else some false)) else (if 57343 < a0 then (if a0 ≤ 1114111 then some true else some false) else some false))
theorem unicode_utf8_ValidRune_c (n : Nat) (L : List Nat) (w : World) (_hL : ∀ b ∈ L, b < w.heap.size) (a0 : Int)  {r : Bool} (h : unicode_utf8_ValidRune_p n a0 = some r) :
    Calls Tryz.prog 146 #[.int .i32 a0] w (Gives w fun _ u => u = .bool r) := by
 unfold unicode_utf8_ValidRune_p at h
 have hS0 := St.start w
 refine MX.start Tryz.func146 rfl rfl rfl (fun _ cs0 hb0 => ?_)
 refine MX.sr <| RG.so rfl <| RG.nil <| MX.seq <| MX.block <| MX.sr ?_
 refine RG.mo rfl <| RG.va (FV.leq (i := 0) (j := a0) rfl rfl) <| RG.mo rfl <| RG.ifd (s := 6) rfl h (fun c1 h => ?_) (fun c1 h => ?_)
 refine RG.ga (FV.move rfl) <| RG.ga (FV.lss (i := a0) (j := 55296) rfl rfl) <| RG.pt rfl rfl <| RG.so rfl <| RG.nil <| MX.ifd rfl h (fun c2 h => ?_) (fun c2 h => ?_)
 refine MX.sr <| RG.so rfl <| RG.nil <| MX.ret rfl <| RT.t1 hb0 Tryz.func146 rfl rfl ?_
 cases h
 exact hS0.gv
 refine MX.sr <| RG.mo rfl <| RG.va (FV.lss (i := 57343) (j := a0) rfl rfl) <| RG.mo rfl <| RG.ifd (s := 13) rfl h (fun c3 h => ?_) (fun c3 h => ?_)
 refine RG.ga (FV.move rfl) <| RG.ga (FV.leq (i := a0) (j := 1114111) rfl rfl) <| RG.pt rfl rfl <| RG.so rfl <| RG.nil <| MX.ifd rfl h (fun c4 h => ?_) (fun c4 h => ?_)
 refine MX.sr <| RG.so rfl <| RG.nil <| MX.ret rfl <| RT.t1 hb0 Tryz.func146 rfl rfl ?_
 cases h
 exact hS0.gv
 refine MX.skip <| MX.inBlock <| MX.sr <| RG.so rfl <| RG.nil <| MX.ret rfl ?_
 refine RT.t1 hb0 Tryz.func146 rfl rfl ?_
 cases h
 exact hS0.gv
 refine RG.no <| RG.no <| RG.pf rfl rfl <| RG.so rfl <| RG.nil <| MX.cond_f rfl ?_
 refine MX.skip <| MX.inBlock <| MX.sr <| RG.so rfl <| RG.nil <| MX.ret rfl ?_
 refine RT.t1 hb0 Tryz.func146 rfl rfl ?_
 cases h
 exact hS0.gv
 refine RG.no <| RG.no <| RG.pf rfl rfl <| RG.so rfl <| RG.nil <| MX.cond_f rfl ?_
 refine MX.sr <| RG.mo rfl <| RG.va (FV.lss (i := 57343) (j := a0) rfl rfl) <| RG.mo rfl <| RG.ifd (s := 13) rfl h (fun c5 h => ?_) (fun c5 h => ?_)
 refine RG.ga (FV.move rfl) <| RG.ga (FV.leq (i := a0) (j := 1114111) rfl rfl) <| RG.pt rfl rfl <| RG.so rfl <| RG.nil <| MX.ifd rfl h (fun c6 h => ?_) (fun c6 h => ?_)
 refine MX.sr <| RG.so rfl <| RG.nil <| MX.ret rfl <| RT.t1 hb0 Tryz.func146 rfl rfl ?_
 cases h
 exact hS0.gv
 refine MX.skip <| MX.inBlock <| MX.sr <| RG.so rfl <| RG.nil <| MX.ret rfl ?_
 refine RT.t1 hb0 Tryz.func146 rfl rfl ?_
 cases h
 exact hS0.gv
 refine RG.no <| RG.no <| RG.pf rfl rfl <| RG.so rfl <| RG.nil <| MX.cond_f rfl ?_
 refine MX.skip <| MX.inBlock <| MX.sr <| RG.so rfl <| RG.nil <| MX.ret rfl ?_
 refine RT.t1 hb0 Tryz.func146 rfl rfl ?_
 cases h
 exact hS0.gv
def internal_bytealg_Cutover_p (_n : Nat) (a0 : Int) : Option Int :=
  (chk (a0 + 16)).bind fun s1 => (quoI s1 8).bind fun s2 => some s2
theorem internal_bytealg_Cutover_c (n : Nat) (L : List Nat) (w : World) (_hL : ∀ b ∈ L, b < w.heap.size) (a0 : Int)  {r : Int} (h : internal_bytealg_Cutover_p n a0 = some r) :
    Calls Tryz.prog 147 #[vI a0] w (Gives w fun _ u => u = vI r) := by
 unfold internal_bytealg_Cutover_p at h
 have hS0 := St.start w
 refine MX.start Tryz.func147 rfl rfl rfl (fun _ cs0 hb0 => ?_)
 refine MX.sr <| RG.so rfl <| RG.nil <| MX.sr <| RG.mo rfl ?_
 obtain ⟨s1, hs1, h⟩ := bind_in h
 refine RG.va (FV.addc (i := a0) (j := 16) rfl rfl hs1) ?_
 obtain ⟨s2, hs2, h⟩ := bind_in h
 refine RG.va (FV.quoc (i := s1) (j := 8) rfl rfl hs2) <| RG.so rfl <| RG.nil <| MX.ret rfl <| RT.t1 hb0 Tryz.func147 rfl rfl ?_
 cases h
 exact hS0.gv
def unicode_utf8_RuneStart_p (_n : Nat) (a0 : UInt8) : Option Bool :=
  some (!(decide (((a0 &&& (192 : UInt8)).toNat) = 128)))
theorem unicode_utf8_RuneStart_c (n : Nat) (L : List Nat) (w : World) (_hL : ∀ b ∈ L, b < w.heap.size) (a0 : UInt8)  {r : Bool} (h : unicode_utf8_RuneStart_p n a0 = some r) :
    Calls Tryz.prog 144 #[.int .u8 (a0.toNat : Int)] w (Gives w fun _ u => u = .bool r) := by
 unfold unicode_utf8_RuneStart_p at h
 have hS0 := St.start w
 refine MX.start Tryz.func144 rfl rfl rfl (fun _ cs0 hb0 => ?_)
 refine MX.sr <| RG.so rfl <| RG.nil <| MX.sr <| RG.mo rfl <| RG.va (FV.and8 (a := a0) (b := (192 : UInt8)) rfl rfl) ?_
 refine RG.va (FV.neqN (i := (a0 &&& (192 : UInt8)).toNat) (j := 128) rfl rfl) <| RG.so rfl <| RG.nil <| MX.ret rfl <| RT.t1 hb0 Tryz.func144 rfl rfl ?_
 cases h
 exact hS0.gv
def tb114_4 : List (Nat × Nat × Nat) := [(0, 4194304, 1), (0, 8388608, 2), (2, 16777216, 8388608), (5, 33554432, 20971520), (0, 67108864, 2), (16, 134217728, 67108864), (40, 268435456, 167772160), (127, 16, 268435456)]
theorem body126 : bodyB Tryz.prog 126 = true := by kernel_rfl
theorem body127 : bodyB Tryz.prog 127 = true := by kernel_rfl
theorem body128 : bodyB Tryz.prog 128 = true := by kernel_rfl
theorem body129 : bodyB Tryz.prog 129 = true := by kernel_rfl
theorem body130 : bodyB Tryz.prog 130 = true := by kernel_rfl
theorem body137 : bodyB Tryz.prog 137 = true := by kernel_rfl
def strings_Trim_l1 (_n : Nat) (xs0 : List Bool) (J0 : ByteArray → Option ByteArray) : ByteArray → Option ByteArray
  | s0 => (if 0 < s0.size then (s0.data[0]?).bind fun z0 => (xs0[z0.toNat]?).bind fun z1 => (if z1 = true then (scut s0 1 (s0.size : Int)).bind fun s1 => J0 s1 else some s0) else some s0)
def strings_Trim_l2 (_n : Nat) (xs0 : List Bool) (J0 : ByteArray → Option ByteArray) : ByteArray → Option ByteArray
  | s0 => (if 0 < s0.size then (chk (((s0.size : Nat) : Int) - 1)).bind fun s1 => (sidx s0 s1).bind fun z0 => (xs0[z0.toNat]?).bind fun z1 => (if z1 = true then (chk (((s0.size : Nat) : Int) - 1)).bind fun s2 => (scut s0 0 s2).bind fun s3 => J0 s3 else some s0) else some s0)
def strings_Trim_l3 (_n : Nat) (a1 : ByteArray) (J0 : Nat × (List Bool) → Option (ByteArray ⊕ (List Bool))) : Nat × (List Bool) → Option (ByteArray ⊕ (List Bool))
  | (i0, xs0) => (if i0 < a1.size then (a1.data[i0]?).bind fun z0 => (if 128 ≤ z0.toNat then (none).map .inl else (xs0[z0.toNat]?).bind fun z1 => J0 (i0 + 1, (xs0.set z0.toNat true))) else some (.inr xs0))
def strings_Trim_l4 (_n : Nat) (xs0 : List Bool) (J0 : ByteArray → Option ByteArray) : ByteArray → Option ByteArray
  | s0 => (if 0 < s0.size then (s0.data[0]?).bind fun z0 => (xs0[z0.toNat]?).bind fun z1 => (if z1 = true then (scut s0 1 (s0.size : Int)).bind fun s1 => J0 s1 else some s0) else some s0)
def strings_Trim_l5 (_n : Nat) (xs0 : List Bool) (J0 : ByteArray → Option ByteArray) : ByteArray → Option ByteArray
  | s0 => (if 0 < s0.size then (chk (((s0.size : Nat) : Int) - 1)).bind fun s1 => (sidx s0 s1).bind fun z0 => (xs0[z0.toNat]?).bind fun z1 => (if z1 = true then (chk (((s0.size : Nat) : Int) - 1)).bind fun s2 => (scut s0 0 s2).bind fun s3 => J0 s3 else some s0) else some s0)
def strings_Trim_l6 (_n : Nat) (a1 : ByteArray) (J0 : Int × (List Bool) → Option (ByteArray ⊕ (List Bool))) : Int × (List Bool) → Option (ByteArray ⊕ (List Bool))
  | (z0, xs0) => (if z0 < ((a1.size : Nat) : Int) then (sidx a1 z0).bind fun z1 => (if 128 ≤ z1.toNat then (none).map .inl else (xs0[z1.toNat]?).bind fun z2 => (chk (z0 + 1)).bind fun s0 => J0 (s0, (xs0.set z1.toNat true))) else some (.inr xs0))
def strings_Trim_p (n : Nat) (a0 : ByteArray) (a1 : ByteArray) : Option ByteArray :=
  (if a0 = ⟨#[]⟩ then some a0 else (if a1 = ⟨#[]⟩ then some a0 else (if a1.size = 1 then (a1.data[0]?).bind fun z4 => (if z4.toNat < 128 then (a1.data[0]?).bind fun z8 => (strings_trimRightByte_p n a0 z8).bind fun y9 => (a1.data[0]?).bind fun z0 => (strings_trimLeftByte_p n y9 z0).bind fun y0 => some y0 else thn (loopF (strings_Trim_l3 n a1) n (0, (List.replicate 256 false))) (fun xs0 => jn (fun s0 => jn (fun s1 => some s1) (fun J0 => Option.bind (loopF (strings_Trim_l1 n xs0) n s0) (J0))) (fun J1 => Option.bind (loopF (strings_Trim_l2 n xs0) n a0) (J1)))) else thn (loopF (strings_Trim_l6 n a1) n (0, (List.replicate 256 false))) (fun xs1 => jn (fun s2 => jn (fun s3 => some s3) (fun J2 => Option.bind (loopF (strings_Trim_l4 n xs1) n s2) (J2))) (fun J3 => Option.bind (loopF (strings_Trim_l5 n xs1) n a0) (J3))))))
theorem strings_Trim_c (n : Nat) (L : List Nat) (w : World) (hL : ∀ b ∈ L, b < w.heap.size) (a0 : ByteArray) (a1 : ByteArray)  {r : ByteArray} (h : strings_Trim_p n a0 a1 = some r) :
    Calls Tryz.prog 114 #[.string a0, .string a1] w (Gives w fun _ u => u = .string r) := by
 unfold strings_Trim_p at h
 have hS0 := St.start w
 refine MX.start Tryz.func114 rfl rfl rfl (fun _ cs0 hb0 => ?_)
 refine MX.sr <| RG.so rfl <| RG.nil <| MX.seq <| MX.sr <| RG.mo rfl ?_
 refine RG.va (FV.eqlS rfl rfl) <| RG.mo rfl <| RG.ifd (s := 9) rfl h (fun c1 h => ?_) (fun c1 h => ?_)
 refine RG.no <| RG.no <| RG.pt rfl rfl <| RG.nil <| MX.cond_t rfl <| MX.sr ?_
 refine RG.mo rfl <| RG.so rfl <| RG.nil <| MX.ret rfl <| RT.t1 hb0 Tryz.func114 rfl rfl ?_
 cases h
 exact hS0.gv
 refine RG.ga (FV.move rfl) <| RG.ga (FV.eqlS rfl rfl) <| RG.pf rfl rfl <| RG.nil <| MX.ifd rfl h (fun c2 h => ?_) (fun c2 h => ?_)
 refine MX.sr <| RG.mo rfl <| RG.so rfl <| RG.nil <| MX.ret rfl <| RT.t1 hb0 Tryz.func114 rfl rfl ?_
 cases h
 exact hS0.gv
 refine MX.skip <| MX.seq <| MX.sr <| RG.mo rfl <| RG.va (FV.len_string Tryz.underlying9 rfl) <| RG.va (FV.eqlN (i := a1.size) (j := 1) rfl rfl) ?_
 refine RG.mo rfl <| RG.ifd (s := 17) rfl h (fun c3 h => ?_) (fun c3 h => ?_)
 refine RG.ga (FV.move rfl) ?_
 obtain ⟨z4, hz4, h⟩ := bind_in h
 refine RG.ga (FV.strAt (k := 0) Tryz.underlying9 rfl rfl rfl hz4) <| RG.ga (FV.lssN (i := z4.toNat) (j := 128) rfl rfl) <| RG.pt rfl rfl <| RG.nil <| MX.ifd rfl h (fun c5 h => ?_) (fun c5 h => ?_)
 refine MX.seq <| MX.drawT 8 tb114_4 (by kernel_rfl) (by kernel_rfl) (by kernel_rfl) (fun kt6 kp7 => ?_)
 refine RD.vw 0 1 kt6 rfl kp7 (fun _ => FV.move rfl) rfl <| RD.vw 1 3 kt6 rfl kp7 (fun _ => FV.move rfl) rfl ?_
 obtain ⟨z8, hz8, h⟩ := bind_in h
 refine RD.vw 2 7 kt6 rfl kp7 (fun _ => FV.strAt (k := 0) Tryz.underlying9 rfl rfl rfl hz8) rfl ?_
 obtain ⟨y9, hy9, h⟩ := bind_in h
 refine RD.cq 3 15 192 (.string y9) kt6 rfl kp7 body127 rfl (e2 rfl rfl) (fun w9 hw9 => strings_trimRightByte_c n _ w9 (hS0.hL0 hL hw9) a0 z8 hy9) rfl <| RD.vw 4 31 kt6 rfl kp7 (fun _ => FV.move rfl) rfl ?_
 obtain ⟨z0, hz10, h⟩ := bind_in h
 refine RD.vw 5 63 kt6 rfl kp7 (fun _ => FV.strAt (k := 0) Tryz.underlying9 rfl rfl rfl hz10) rfl ?_
 obtain ⟨y0, hy0, h⟩ := bind_in h
 refine RD.cq 6 127 128 (.string y0) kt6 rfl kp7 body126 rfl (e2 rfl rfl) (fun w9 hw9 => strings_trimLeftByte_c n _ w9 (hS0.hL0 hL hw9) y9 z0 hy0) rfl <| RD.vw 7 255 kt6 rfl kp7 (fun _ => FV.assign rfl) rfl <| RD.done (doneD_ok kt6 (by kernel_rfl)) <| MX.ret rfl <| RT.t1 hb0 Tryz.func114 rfl rfl ?_
 cases h
 exact hS0.gv
 refine MX.skip <| MX.seq <| MX.sr <| RG.mo rfl <| RG.enterP (fst := []) (cap := []) (vs := [.string a1]) .plain body128 Tryz.func128 rfl rfl rfl rfl (e1 rfl) rfl (fun cs1 hb1 hp0 => ?_)
 refine MX.sr ?_
 have hl16 : (List.replicate 256 false).length = 256 := List.length_replicate
 refine RG.new .plain rfl (Does.alloc (zs := (List.replicate 256 false).map (fun z9 : Bool => (.bool z9 : Value))) hS0 (zB (by kernel_rfl))) (fun w0 b0 hS1 hT0 => ?_)
 refine RG.so rfl <| RG.nil <| MX.seq <| MX.sr <| RG.so rfl <| RG.nil ?_
 refine MX.block ?_
 obtain ⟨o0, ho62, hh64⟩ := thn_in h
 refine MX.loop (α := Nat × (List Bool)) (fun ⟨i0, xs0⟩ => [(0, .string a1), (2, vP b0), (4, vI ((i0 : Nat) : Int))]) (fun ⟨i0, xs0⟩ wx0 => St w wx0 [.cells b0 (xs0.map (fun z9 : Bool => (.bool z9 : Value))) 180] ∧ Tr w0 [.cells b0 ((List.replicate 256 false).map (fun z9 : Bool => (.bool z9 : Value))) 180] wx0 [.cells b0 (xs0.map (fun z9 : Bool => (.bool z9 : Value))) 180] ∧ xs0.length = 256) (fun ⟨i0, xs0⟩ => (i0, xs0)) (0, (List.replicate 256 false)) ho62 ⟨rfl, rfl, rfl, trivial⟩ ⟨hS1, Tr.refl _ _, hl16⟩ ?_
 rintro J0 ⟨i0, xs0⟩ wx0 hJ66 ⟨hS2, hT1, hl57⟩ h
 unfold strings_Trim_l3 at h
 try dsimp only at h
 refine MX.seq <| MX.sr <| RG.mo rfl <| RG.mo rfl <| RG.va (FV.len_string Tryz.underlying9 rfl) <| RG.va (FV.lssN (i := i0) (j := a1.size) rfl rfl) ?_
 refine RG.nil <| MX.ifd rfl h (fun c0 h => ?_) (fun c0 h => ?_)
 refine MX.skip <| MX.seq <| MX.block <| MX.sr <| RG.mo rfl <| RG.mo rfl ?_
 obtain ⟨z1, hz68, h⟩ := bind_in h
 refine RG.va (FV.strAt (k := i0) Tryz.underlying9 rfl rfl rfl hz68) <| RG.so rfl <| RG.nil <| MX.seq <| MX.sr <| RG.mo rfl ?_
 refine RG.va (FV.geqN (i := z1.toNat) (j := 128) rfl rfl) <| RG.nil <| MX.ifd rfl h (fun c4 h => ?_) (fun c4 h => ?_)
 refine MX.sr <| RG.va (FV.loadN (cs := xs0.map (fun z9 : Bool => (.bool z9 : Value))) (by rw [List.length_map, hl57]; kernel_rfl) rfl (hS2.memA .hd)) <| RG.now .plain (Acts.storeBig (fun z9 : Bool => (.bool z9 : Value)) (m := 256) hl57 hl57 hS2 .hd rfl rfl (by kernel_rfl) (fun _ => rfl)) (fun w1 hS3 hT2 => ?_)
 refine RG.so rfl <| RG.nil ?_
 have h := thn_map h hh64
 refine MX.ret rfl <| RT.leave (u := .tuple #[.agg (xs0.map (fun z9 : Bool => (.bool z9 : Value))).toArray, .bool false]) hb1 Tryz.func128 rfl (.cons (.many (cs := xs0.map (fun z9 : Bool => (.bool z9 : Value))) (by rw [List.length_map, hl57]; kernel_rfl) rfl (hS3.memA .hd)) (.cons (.tmp rfl) .nil)) rfl <| RG.mo rfl <| RG.va (FV.extract rfl rfl) <| RG.va (FV.extract rfl rfl) ?_
 have hl74 : (List.replicate 256 false).length = 256 := List.length_replicate
 refine RG.new .plain rfl (Does.alloc (zs := (List.replicate 256 false).map (fun z9 : Bool => (.bool z9 : Value))) hS3 (zB (by kernel_rfl))) (fun w2 b1 hS4 hT3 => ?_)
 refine RG.now .plain (Acts.storeBig (fun z9 : Bool => (.bool z9 : Value)) (m := 256) hl74 hl57 hS4 .hd rfl rfl (by kernel_rfl) (fun _ => rfl)) (fun w3 hS5 hT4 => ?_)
 refine RG.so rfl <| RG.nil <| MX.sr <| RG.mo rfl <| RG.nil <| MX.cond_f rfl ?_
 refine MX.skip <| MX.sr <| RG.mo rfl <| RG.mo rfl ?_
 cases h
 refine MX.skip <| MX.region <| RG.mo rfl ?_
 obtain ⟨z2, hz82, h⟩ := bind_in h
 have hm0 := mem_elem1 (p := ⟨b0, 0, none⟩) (cs := xs0.map (fun z9 : Bool => (.bool z9 : Value))) (i := z1.toNat) (hS2.memA .hd) (arr_get0 (fun z9 : Bool => (.bool z9 : Value)) hz82)
 refine RG.va (FV.indexArr (m := 1) (k := z1.toNat) (len := 256) (by kernel_rfl) rfl rfl rfl (arr_lt hz82 hl57)) ?_
 have hl84 : (xs0.set z1.toNat true).length = 256 := by rw [List.length_set]; exact hl57
 refine RG.now .plain (Acts.setBig (fun z9 : Bool => (.bool z9 : Value)) (i := z1.toNat) (x := true) (m := 256) hl57 (arr_lt hz82 hl57) hS2 .hd rfl (addr_at _ _ _) rfl (by kernel_rfl) (fun _ => ⟨rfl, rfl⟩)) (fun w4 hS6 hT5 => ?_)
 refine RG.nil <| MX.inBlock <| MX.region <| RG.mo rfl <| RG.va (FV.addN (i := i0) (j := 1) rfl rfl (by omega)) <| RG.so rfl ?_
 refine RG.nil ?_
 exact hJ66 (i0 + 1, (xs0.set z1.toNat true)) _ _ ⟨rfl, rfl, rfl, trivial⟩ ⟨hS6, (Tr.trans hT1 hT5), hl84⟩ h
 refine MX.exit rfl ?_
 have h := thn_inr h hh64
 try dsimp only at h
 refine MX.sr <| RG.va (FV.loadN (cs := xs0.map (fun z9 : Bool => (.bool z9 : Value))) (by rw [List.length_map, hl57]; kernel_rfl) rfl (hS2.memA .hd)) <| RG.now .plain (Acts.storeBig (fun z9 : Bool => (.bool z9 : Value)) (m := 256) hl57 hl57 hS2 .hd rfl rfl (by kernel_rfl) (fun _ => rfl)) (fun w5 hS7 hT6 => ?_)
 refine RG.so rfl <| RG.nil <| MX.ret rfl <| RT.leave (u := .tuple #[.agg (xs0.map (fun z9 : Bool => (.bool z9 : Value))).toArray, .bool true]) hb1 Tryz.func128 rfl (.cons (.many (cs := xs0.map (fun z9 : Bool => (.bool z9 : Value))) (by rw [List.length_map, hl57]; kernel_rfl) rfl (hS7.memA .hd)) (.cons (.tmp rfl) .nil)) rfl <| RG.mo rfl <| RG.va (FV.extract rfl rfl) ?_
 refine RG.va (FV.extract rfl rfl) ?_
 have hl92 : (List.replicate 256 false).length = 256 := List.length_replicate
 refine RG.new .plain rfl (Does.alloc (zs := (List.replicate 256 false).map (fun z9 : Bool => (.bool z9 : Value))) hS7 (zB (by kernel_rfl))) (fun w6 b2 hS8 hT7 => ?_)
 refine RG.now .plain (Acts.storeBig (fun z9 : Bool => (.bool z9 : Value)) (m := 256) hl92 hl57 hS8 .hd rfl rfl (by kernel_rfl) (fun _ => rfl)) (fun w7 hS9 hT8 => ?_)
 refine RG.so rfl <| RG.nil <| MX.sr <| RG.mo rfl <| RG.nil <| MX.cond_t rfl ?_
 refine MX.sr <| RG.mo rfl <| RG.enterP (fst := []) (cap := []) (vs := [.string a0, vP b2]) .plain body130 Tryz.func130 rfl rfl rfl rfl (e2 rfl rfl) rfl (fun cs2 hb2 hp1 => ?_)
 refine MX.sr <| RG.so rfl <| RG.nil <| MX.seq <| MX.block <| MX.joinx (α := ByteArray) (fun s0 => [(0, .string s0)]) (fun s0 wx1 => St w wx1 [.cells b2 (xs0.map (fun z9 : Bool => (.bool z9 : Value))) 180] ∧ Tr w7 [.cells b2 (xs0.map (fun z9 : Bool => (.bool z9 : Value))) 180, .cells b0 (xs0.map (fun z9 : Bool => (.bool z9 : Value))) 180] wx1 [.cells b2 (xs0.map (fun z9 : Bool => (.bool z9 : Value))) 180]) (fun s0 => s0) (id := 0) rfl h ?_ ?_
 rintro s0 wx1 ⟨hS10, hT9⟩ h
 try dsimp only at h
 refine MX.sr <| RG.mo rfl <| RG.so rfl <| RG.nil <| MX.ret rfl <| RT.leave (u := .string s0) hb2 Tryz.func130 rfl (.cons (.tmp rfl) .nil) rfl ?_
 refine RG.enterP (fst := []) (cap := []) (vs := [.string s0, vP b2]) .plain body129 Tryz.func129 rfl rfl rfl rfl (e2 rfl rfl) rfl (fun cs3 hb3 hp2 => ?_)
 refine MX.sr <| RG.so rfl <| RG.nil <| MX.seq <| MX.block <| MX.joinx (α := ByteArray) (fun s1 => [(0, .string s1)]) (fun s1 wx2 => St w wx2 [.cells b2 (xs0.map (fun z9 : Bool => (.bool z9 : Value))) 180] ∧ Tr wx1 [.cells b2 (xs0.map (fun z9 : Bool => (.bool z9 : Value))) 180] wx2 [.cells b2 (xs0.map (fun z9 : Bool => (.bool z9 : Value))) 180]) (fun s1 => s1) (id := 0) rfl h ?_ ?_
 rintro s1 wx2 ⟨hS11, hT10⟩ h
 try dsimp only at h
 refine MX.sr <| RG.mo rfl <| RG.so rfl <| RG.nil <| MX.ret rfl <| RT.leave (u := .string s1) hb3 Tryz.func129 rfl (.cons (.tmp rfl) .nil) rfl ?_
 refine RG.so rfl <| RG.nil <| MX.ret rfl <| RT.t1 hb0 Tryz.func114 rfl rfl ?_
 cases h
 exact hS11.gv
 intro J1 hJ221 h
 try dsimp only at h
 obtain ⟨o1, ho240, hh242⟩ := bind_in2 h
 refine MX.loop (α := ByteArray) (fun s2 => [(0, .string s2), (1, vP b2)]) (fun s2 wx3 => St w wx3 [.cells b2 (xs0.map (fun z9 : Bool => (.bool z9 : Value))) 180] ∧ Tr wx1 [.cells b2 (xs0.map (fun z9 : Bool => (.bool z9 : Value))) 180] wx3 [.cells b2 (xs0.map (fun z9 : Bool => (.bool z9 : Value))) 180]) (fun s2 => s2) s0 ho240 ⟨rfl, rfl, trivial⟩ ⟨hS10, Tr.refl _ _⟩ ?_
 rintro J2 s2 wx3 hJ244 ⟨hS12, hT11⟩ h
 unfold strings_Trim_l1 at h
 try dsimp only at h
 refine MX.seq <| MX.sr <| RG.mo rfl <| RG.va (FV.len_string Tryz.underlying9 rfl) <| RG.va (FV.gtrN (i := s2.size) (j := 0) rfl rfl) <| RG.nil ?_
 refine MX.ifd rfl h (fun c6 h => ?_) (fun c6 h => ?_)
 refine MX.skip <| MX.block <| MX.seq <| MX.sr <| RG.mo rfl <| RG.mo rfl ?_
 obtain ⟨z3, hz246, h⟩ := bind_in h
 refine RG.va (FV.strAt (k := 0) Tryz.underlying9 rfl rfl rfl hz246) <| RG.enterP (fst := []) (cap := []) (vs := [vP b2, .int .u8 (z3.toNat : Int)]) .plain body137 Tryz.func137 rfl rfl rfl rfl (e2 rfl rfl) rfl (fun cs4 hb4 hp3 => ?_)
 refine MX.sr <| RG.so rfl <| RG.nil <| MX.sr <| RG.mo rfl <| RG.mo rfl ?_
 refine RG.va (FV.nilCheck rfl) ?_
 obtain ⟨z5, hz250, h⟩ := bind_in h
 have hm1 := mem_elem1 (p := ⟨b2, 0, none⟩) (cs := xs0.map (fun z9 : Bool => (.bool z9 : Value))) (i := z3.toNat) (hS12.memA .hd) (arr_get0 (fun z9 : Bool => (.bool z9 : Value)) hz250)
 refine RG.va (FV.indexArr (m := 1) (k := z3.toNat) (len := 256) (by kernel_rfl) rfl rfl rfl (arr_lt hz250 hl57)) <| RG.l1 rfl (hm1 0 _ rfl) <| RG.so rfl <| RG.nil <| MX.ret rfl <| RT.leave (u := .bool z5) hb4 Tryz.func137 rfl (.cons (.tmp rfl) .nil) rfl ?_
 refine RG.va (FV.not rfl) <| RG.nil <| MX.ifnb rfl h (fun c7 h => ?_) (fun c7 h => ?_)
 refine MX.skip <| MX.region <| RG.mo rfl ?_
 obtain ⟨s3, hs0, h⟩ := bind_in h
 refine RG.va (FV.strCut hs0 Tryz.underlying9 rfl ⟨_, rfl⟩ rfl) <| RG.so rfl <| RG.nil <| MX.inBlock ?_
 exact hJ244 s3 _ _ ⟨rfl, rfl, trivial⟩ ⟨hS12, hT11⟩ h
 refine MX.exit rfl ?_
 have h := hh242 _ h
 try dsimp only at h
 exact hJ221 s2 _ _ ⟨rfl, trivial⟩ ⟨hS12, hT11⟩ h
 refine MX.exit rfl ?_
 have h := hh242 _ h
 try dsimp only at h
 exact hJ221 s2 _ _ ⟨rfl, trivial⟩ ⟨hS12, hT11⟩ h
 intro J3 hJ167 h
 try dsimp only at h
 obtain ⟨hS13, hT12⟩ := St.arrB hS9 (.one .hd .done)
 obtain ⟨o2, ho278, hh280⟩ := bind_in2 h
 refine MX.loop (α := ByteArray) (fun s4 => [(0, .string s4), (1, vP b2)]) (fun s4 wx4 => St w wx4 [.cells b2 (xs0.map (fun z9 : Bool => (.bool z9 : Value))) 180] ∧ Tr w7 [.cells b2 (xs0.map (fun z9 : Bool => (.bool z9 : Value))) 180] wx4 [.cells b2 (xs0.map (fun z9 : Bool => (.bool z9 : Value))) 180]) (fun s4 => s4) a0 ho278 ⟨rfl, rfl, trivial⟩ ⟨hS13, Tr.refl _ _⟩ ?_
 rintro J4 s4 wx4 hJ282 ⟨hS14, hT13⟩ h
 unfold strings_Trim_l2 at h
 try dsimp only at h
 refine MX.seq <| MX.sr <| RG.mo rfl <| RG.va (FV.len_string Tryz.underlying9 rfl) <| RG.va (FV.gtrN (i := s4.size) (j := 0) rfl rfl) <| RG.nil ?_
 refine MX.ifd rfl h (fun c8 h => ?_) (fun c8 h => ?_)
 refine MX.skip <| MX.block <| MX.seq <| MX.sr <| RG.mo rfl <| RG.mo rfl ?_
 refine RG.mo rfl <| RG.va (FV.len_string Tryz.underlying9 rfl) ?_
 obtain ⟨s5, hs1, h⟩ := bind_in h
 refine RG.va (FV.subc (i := ((s4.size : Nat) : Int)) (j := 1) rfl rfl hs1) ?_
 obtain ⟨z6, hz285, h⟩ := bind_in h
 obtain ⟨hi0, hx0⟩ := sidx_in hz285
 refine RG.va (FV.strAt (k := s5.toNat) Tryz.underlying9 rfl rfl hi0 hx0) <| RG.enterP (fst := []) (cap := []) (vs := [vP b2, .int .u8 (z6.toNat : Int)]) .plain body137 Tryz.func137 rfl rfl rfl rfl (e2 rfl rfl) rfl (fun cs5 hb5 hp4 => ?_)
 refine MX.sr <| RG.so rfl <| RG.nil <| MX.sr <| RG.mo rfl <| RG.mo rfl ?_
 refine RG.va (FV.nilCheck rfl) ?_
 obtain ⟨z7, hz291, h⟩ := bind_in h
 have hm2 := mem_elem1 (p := ⟨b2, 0, none⟩) (cs := xs0.map (fun z9 : Bool => (.bool z9 : Value))) (i := z6.toNat) (hS14.memA .hd) (arr_get0 (fun z9 : Bool => (.bool z9 : Value)) hz291)
 refine RG.va (FV.indexArr (m := 1) (k := z6.toNat) (len := 256) (by kernel_rfl) rfl rfl rfl (arr_lt hz291 hl57)) <| RG.l1 rfl (hm2 0 _ rfl) <| RG.so rfl <| RG.nil <| MX.ret rfl <| RT.leave (u := .bool z7) hb5 Tryz.func137 rfl (.cons (.tmp rfl) .nil) rfl ?_
 refine RG.va (FV.not rfl) <| RG.nil <| MX.ifnb rfl h (fun c9 h => ?_) (fun c9 h => ?_)
 refine MX.skip <| MX.region <| RG.mo rfl <| RG.mo rfl <| RG.va (FV.len_string Tryz.underlying9 rfl) ?_
 obtain ⟨s6, hs2, h⟩ := bind_in h
 refine RG.va (FV.subc (i := ((s4.size : Nat) : Int)) (j := 1) rfl rfl hs2) ?_
 obtain ⟨s7, hs3, h⟩ := bind_in h
 refine RG.va (FV.strCut hs3 Tryz.underlying9 rfl rfl ⟨_, rfl⟩) <| RG.so rfl <| RG.nil <| MX.inBlock ?_
 exact hJ282 s7 _ _ ⟨rfl, rfl, trivial⟩ ⟨hS14, hT13⟩ h
 refine MX.exit rfl ?_
 have h := hh280 _ h
 try dsimp only at h
 exact hJ167 s4 _ _ ⟨rfl, trivial⟩ ⟨hS14, (Tr.trans hT12 hT13)⟩ h
 refine MX.exit rfl ?_
 have h := hh280 _ h
 try dsimp only at h
 exact hJ167 s4 _ _ ⟨rfl, trivial⟩ ⟨hS14, (Tr.trans hT12 hT13)⟩ h
 refine RG.no <| RG.no <| RG.no <| RG.pf rfl rfl <| RG.nil <| MX.cond_f rfl ?_
 refine MX.skip <| MX.seq <| MX.sr <| RG.mo rfl <| RG.enterP (fst := []) (cap := []) (vs := [.string a1]) .plain body128 Tryz.func128 rfl rfl rfl rfl (e1 rfl) rfl (fun cs6 hb6 hp5 => ?_)
 refine MX.sr ?_
 have hl300 : (List.replicate 256 false).length = 256 := List.length_replicate
 refine RG.new .plain rfl (Does.alloc (zs := (List.replicate 256 false).map (fun z9 : Bool => (.bool z9 : Value))) hS0 (zB (by kernel_rfl))) (fun w8 b3 hS15 hT14 => ?_)
 refine RG.so rfl <| RG.nil <| MX.seq <| MX.sr <| RG.so rfl <| RG.nil ?_
 refine MX.block ?_
 obtain ⟨o3, ho350, hh352⟩ := thn_in h
 refine MX.loop (α := Int × (List Bool)) (fun ⟨z11, xs1⟩ => [(0, .string a1), (2, vP b3), (4, vI z11)]) (fun ⟨z11, xs1⟩ wx5 => St w wx5 [.cells b3 (xs1.map (fun z9 : Bool => (.bool z9 : Value))) 180] ∧ Tr w8 [.cells b3 ((List.replicate 256 false).map (fun z9 : Bool => (.bool z9 : Value))) 180] wx5 [.cells b3 (xs1.map (fun z9 : Bool => (.bool z9 : Value))) 180] ∧ xs1.length = 256) (fun ⟨z11, xs1⟩ => (z11, xs1)) (0, (List.replicate 256 false)) ho350 ⟨rfl, rfl, rfl, trivial⟩ ⟨hS15, Tr.refl _ _, hl300⟩ ?_
 rintro J5 ⟨z11, xs1⟩ wx5 hJ354 ⟨hS16, hT15, hl345⟩ h
 unfold strings_Trim_l6 at h
 try dsimp only at h
 refine MX.seq <| MX.sr <| RG.mo rfl <| RG.mo rfl <| RG.va (FV.len_string Tryz.underlying9 rfl) <| RG.va (FV.lss (i := z11) (j := ((a1.size : Nat) : Int)) rfl rfl) ?_
 refine RG.nil <| MX.ifd rfl h (fun c10 h => ?_) (fun c10 h => ?_)
 refine MX.skip <| MX.seq <| MX.block <| MX.sr <| RG.mo rfl <| RG.mo rfl ?_
 obtain ⟨z12, hz356, h⟩ := bind_in h
 obtain ⟨hi1, hx1⟩ := sidx_in hz356
 refine RG.va (FV.strAt (k := z11.toNat) Tryz.underlying9 rfl rfl hi1 hx1) <| RG.so rfl <| RG.nil <| MX.seq <| MX.sr <| RG.mo rfl ?_
 refine RG.va (FV.geqN (i := z12.toNat) (j := 128) rfl rfl) <| RG.nil <| MX.ifd rfl h (fun c11 h => ?_) (fun c11 h => ?_)
 refine MX.sr <| RG.va (FV.loadN (cs := xs1.map (fun z9 : Bool => (.bool z9 : Value))) (by rw [List.length_map, hl345]; kernel_rfl) rfl (hS16.memA .hd)) <| RG.now .plain (Acts.storeBig (fun z9 : Bool => (.bool z9 : Value)) (m := 256) hl345 hl345 hS16 .hd rfl rfl (by kernel_rfl) (fun _ => rfl)) (fun w10 hS17 hT16 => ?_)
 refine RG.so rfl <| RG.nil ?_
 have h := thn_map h hh352
 refine MX.ret rfl <| RT.leave (u := .tuple #[.agg (xs1.map (fun z9 : Bool => (.bool z9 : Value))).toArray, .bool false]) hb6 Tryz.func128 rfl (.cons (.many (cs := xs1.map (fun z9 : Bool => (.bool z9 : Value))) (by rw [List.length_map, hl345]; kernel_rfl) rfl (hS17.memA .hd)) (.cons (.tmp rfl) .nil)) rfl <| RG.mo rfl <| RG.va (FV.extract rfl rfl) <| RG.va (FV.extract rfl rfl) ?_
 have hl364 : (List.replicate 256 false).length = 256 := List.length_replicate
 refine RG.new .plain rfl (Does.alloc (zs := (List.replicate 256 false).map (fun z9 : Bool => (.bool z9 : Value))) hS17 (zB (by kernel_rfl))) (fun w11 b4 hS19 hT17 => ?_)
 refine RG.now .plain (Acts.storeBig (fun z9 : Bool => (.bool z9 : Value)) (m := 256) hl364 hl345 hS19 .hd rfl rfl (by kernel_rfl) (fun _ => rfl)) (fun w12 hS20 hT18 => ?_)
 refine RG.so rfl <| RG.nil <| MX.sr <| RG.mo rfl <| RG.nil <| MX.cond_f rfl ?_
 refine MX.skip <| MX.sr <| RG.mo rfl <| RG.mo rfl ?_
 cases h
 refine MX.skip <| MX.region <| RG.mo rfl ?_
 obtain ⟨z13, hz372, h⟩ := bind_in h
 have hm3 := mem_elem1 (p := ⟨b3, 0, none⟩) (cs := xs1.map (fun z9 : Bool => (.bool z9 : Value))) (i := z12.toNat) (hS16.memA .hd) (arr_get0 (fun z9 : Bool => (.bool z9 : Value)) hz372)
 refine RG.va (FV.indexArr (m := 1) (k := z12.toNat) (len := 256) (by kernel_rfl) rfl rfl rfl (arr_lt hz372 hl345)) ?_
 have hl374 : (xs1.set z12.toNat true).length = 256 := by rw [List.length_set]; exact hl345
 refine RG.now .plain (Acts.setBig (fun z9 : Bool => (.bool z9 : Value)) (i := z12.toNat) (x := true) (m := 256) hl345 (arr_lt hz372 hl345) hS16 .hd rfl (addr_at _ _ _) rfl (by kernel_rfl) (fun _ => ⟨rfl, rfl⟩)) (fun w13 hS21 hT20 => ?_)
 refine RG.nil <| MX.inBlock <| MX.region <| RG.mo rfl ?_
 obtain ⟨s8, hs4, h⟩ := bind_in h
 refine RG.va (FV.addc (i := z11) (j := 1) rfl rfl hs4) <| RG.so rfl <| RG.nil ?_
 exact hJ354 (s8, (xs1.set z12.toNat true)) _ _ ⟨rfl, rfl, rfl, trivial⟩ ⟨hS21, (Tr.trans hT15 hT20), hl374⟩ h
 refine MX.exit rfl ?_
 have h := thn_inr h hh352
 try dsimp only at h
 refine MX.sr <| RG.va (FV.loadN (cs := xs1.map (fun z9 : Bool => (.bool z9 : Value))) (by rw [List.length_map, hl345]; kernel_rfl) rfl (hS16.memA .hd)) <| RG.now .plain (Acts.storeBig (fun z9 : Bool => (.bool z9 : Value)) (m := 256) hl345 hl345 hS16 .hd rfl rfl (by kernel_rfl) (fun _ => rfl)) (fun w14 hS22 hT21 => ?_)
 refine RG.so rfl <| RG.nil <| MX.ret rfl <| RT.leave (u := .tuple #[.agg (xs1.map (fun z9 : Bool => (.bool z9 : Value))).toArray, .bool true]) hb6 Tryz.func128 rfl (.cons (.many (cs := xs1.map (fun z9 : Bool => (.bool z9 : Value))) (by rw [List.length_map, hl345]; kernel_rfl) rfl (hS22.memA .hd)) (.cons (.tmp rfl) .nil)) rfl <| RG.mo rfl <| RG.va (FV.extract rfl rfl) ?_
 refine RG.va (FV.extract rfl rfl) ?_
 have hl383 : (List.replicate 256 false).length = 256 := List.length_replicate
 refine RG.new .plain rfl (Does.alloc (zs := (List.replicate 256 false).map (fun z9 : Bool => (.bool z9 : Value))) hS22 (zB (by kernel_rfl))) (fun w15 b5 hS23 hT22 => ?_)
 refine RG.now .plain (Acts.storeBig (fun z9 : Bool => (.bool z9 : Value)) (m := 256) hl383 hl345 hS23 .hd rfl rfl (by kernel_rfl) (fun _ => rfl)) (fun w16 hS24 hT23 => ?_)
 refine RG.so rfl <| RG.nil <| MX.sr <| RG.mo rfl <| RG.nil <| MX.cond_t rfl ?_
 refine MX.sr <| RG.mo rfl <| RG.enterP (fst := []) (cap := []) (vs := [.string a0, vP b5]) .plain body130 Tryz.func130 rfl rfl rfl rfl (e2 rfl rfl) rfl (fun cs7 hb7 hp6 => ?_)
 refine MX.sr <| RG.so rfl <| RG.nil <| MX.seq <| MX.block <| MX.joinx (α := ByteArray) (fun s9 => [(0, .string s9)]) (fun s9 wx6 => St w wx6 [.cells b5 (xs1.map (fun z9 : Bool => (.bool z9 : Value))) 180] ∧ Tr w16 [.cells b5 (xs1.map (fun z9 : Bool => (.bool z9 : Value))) 180, .cells b3 (xs1.map (fun z9 : Bool => (.bool z9 : Value))) 180] wx6 [.cells b5 (xs1.map (fun z9 : Bool => (.bool z9 : Value))) 180]) (fun s9 => s9) (id := 0) rfl h ?_ ?_
 rintro s9 wx6 ⟨hS25, hT24⟩ h
 try dsimp only at h
 refine MX.sr <| RG.mo rfl <| RG.so rfl <| RG.nil <| MX.ret rfl <| RT.leave (u := .string s9) hb7 Tryz.func130 rfl (.cons (.tmp rfl) .nil) rfl ?_
 refine RG.enterP (fst := []) (cap := []) (vs := [.string s9, vP b5]) .plain body129 Tryz.func129 rfl rfl rfl rfl (e2 rfl rfl) rfl (fun cs8 hb8 hp7 => ?_)
 refine MX.sr <| RG.so rfl <| RG.nil <| MX.seq <| MX.block <| MX.joinx (α := ByteArray) (fun s10 => [(0, .string s10)]) (fun s10 wx7 => St w wx7 [.cells b5 (xs1.map (fun z9 : Bool => (.bool z9 : Value))) 180] ∧ Tr wx6 [.cells b5 (xs1.map (fun z9 : Bool => (.bool z9 : Value))) 180] wx7 [.cells b5 (xs1.map (fun z9 : Bool => (.bool z9 : Value))) 180]) (fun s10 => s10) (id := 0) rfl h ?_ ?_
 rintro s10 wx7 ⟨hS26, hT25⟩ h
 try dsimp only at h
 refine MX.sr <| RG.mo rfl <| RG.so rfl <| RG.nil <| MX.ret rfl <| RT.leave (u := .string s10) hb8 Tryz.func129 rfl (.cons (.tmp rfl) .nil) rfl ?_
 refine RG.so rfl <| RG.nil <| MX.ret rfl <| RT.t1 hb0 Tryz.func114 rfl rfl ?_
 cases h
 exact hS26.gv
 intro J6 hJ512 h
 try dsimp only at h
 obtain ⟨o4, ho531, hh533⟩ := bind_in2 h
 refine MX.loop (α := ByteArray) (fun s11 => [(0, .string s11), (1, vP b5)]) (fun s11 wx8 => St w wx8 [.cells b5 (xs1.map (fun z9 : Bool => (.bool z9 : Value))) 180] ∧ Tr wx6 [.cells b5 (xs1.map (fun z9 : Bool => (.bool z9 : Value))) 180] wx8 [.cells b5 (xs1.map (fun z9 : Bool => (.bool z9 : Value))) 180]) (fun s11 => s11) s9 ho531 ⟨rfl, rfl, trivial⟩ ⟨hS25, Tr.refl _ _⟩ ?_
 rintro J7 s11 wx8 hJ535 ⟨hS27, hT26⟩ h
 unfold strings_Trim_l4 at h
 try dsimp only at h
 refine MX.seq <| MX.sr <| RG.mo rfl <| RG.va (FV.len_string Tryz.underlying9 rfl) <| RG.va (FV.gtrN (i := s11.size) (j := 0) rfl rfl) <| RG.nil ?_
 refine MX.ifd rfl h (fun c12 h => ?_) (fun c12 h => ?_)
 refine MX.skip <| MX.block <| MX.seq <| MX.sr <| RG.mo rfl <| RG.mo rfl ?_
 obtain ⟨z14, hz537, h⟩ := bind_in h
 refine RG.va (FV.strAt (k := 0) Tryz.underlying9 rfl rfl rfl hz537) <| RG.enterP (fst := []) (cap := []) (vs := [vP b5, .int .u8 (z14.toNat : Int)]) .plain body137 Tryz.func137 rfl rfl rfl rfl (e2 rfl rfl) rfl (fun cs9 hb9 hp8 => ?_)
 refine MX.sr <| RG.so rfl <| RG.nil <| MX.sr <| RG.mo rfl <| RG.mo rfl ?_
 refine RG.va (FV.nilCheck rfl) ?_
 obtain ⟨z15, hz541, h⟩ := bind_in h
 have hm4 := mem_elem1 (p := ⟨b5, 0, none⟩) (cs := xs1.map (fun z9 : Bool => (.bool z9 : Value))) (i := z14.toNat) (hS27.memA .hd) (arr_get0 (fun z9 : Bool => (.bool z9 : Value)) hz541)
 refine RG.va (FV.indexArr (m := 1) (k := z14.toNat) (len := 256) (by kernel_rfl) rfl rfl rfl (arr_lt hz541 hl345)) <| RG.l1 rfl (hm4 0 _ rfl) <| RG.so rfl <| RG.nil <| MX.ret rfl <| RT.leave (u := .bool z15) hb9 Tryz.func137 rfl (.cons (.tmp rfl) .nil) rfl ?_
 refine RG.va (FV.not rfl) <| RG.nil <| MX.ifnb rfl h (fun c13 h => ?_) (fun c13 h => ?_)
 refine MX.skip <| MX.region <| RG.mo rfl ?_
 obtain ⟨s12, hs5, h⟩ := bind_in h
 refine RG.va (FV.strCut hs5 Tryz.underlying9 rfl ⟨_, rfl⟩ rfl) <| RG.so rfl <| RG.nil <| MX.inBlock ?_
 exact hJ535 s12 _ _ ⟨rfl, rfl, trivial⟩ ⟨hS27, hT26⟩ h
 refine MX.exit rfl ?_
 have h := hh533 _ h
 try dsimp only at h
 exact hJ512 s11 _ _ ⟨rfl, trivial⟩ ⟨hS27, hT26⟩ h
 refine MX.exit rfl ?_
 have h := hh533 _ h
 try dsimp only at h
 exact hJ512 s11 _ _ ⟨rfl, trivial⟩ ⟨hS27, hT26⟩ h
 intro J8 hJ458 h
 try dsimp only at h
 obtain ⟨hS28, hT27⟩ := St.arrB hS24 (.one .hd .done)
 obtain ⟨o5, ho569, hh571⟩ := bind_in2 h
 refine MX.loop (α := ByteArray) (fun s13 => [(0, .string s13), (1, vP b5)]) (fun s13 wx9 => St w wx9 [.cells b5 (xs1.map (fun z9 : Bool => (.bool z9 : Value))) 180] ∧ Tr w16 [.cells b5 (xs1.map (fun z9 : Bool => (.bool z9 : Value))) 180] wx9 [.cells b5 (xs1.map (fun z9 : Bool => (.bool z9 : Value))) 180]) (fun s13 => s13) a0 ho569 ⟨rfl, rfl, trivial⟩ ⟨hS28, Tr.refl _ _⟩ ?_
 rintro J9 s13 wx9 hJ573 ⟨hS29, hT28⟩ h
 unfold strings_Trim_l5 at h
 try dsimp only at h
 refine MX.seq <| MX.sr <| RG.mo rfl <| RG.va (FV.len_string Tryz.underlying9 rfl) <| RG.va (FV.gtrN (i := s13.size) (j := 0) rfl rfl) <| RG.nil ?_
 refine MX.ifd rfl h (fun c14 h => ?_) (fun c14 h => ?_)
 refine MX.skip <| MX.block <| MX.seq <| MX.sr <| RG.mo rfl <| RG.mo rfl ?_
 refine RG.mo rfl <| RG.va (FV.len_string Tryz.underlying9 rfl) ?_
 obtain ⟨s14, hs6, h⟩ := bind_in h
 refine RG.va (FV.subc (i := ((s13.size : Nat) : Int)) (j := 1) rfl rfl hs6) ?_
 obtain ⟨z16, hz576, h⟩ := bind_in h
 obtain ⟨hi2, hx2⟩ := sidx_in hz576
 refine RG.va (FV.strAt (k := s14.toNat) Tryz.underlying9 rfl rfl hi2 hx2) <| RG.enterP (fst := []) (cap := []) (vs := [vP b5, .int .u8 (z16.toNat : Int)]) .plain body137 Tryz.func137 rfl rfl rfl rfl (e2 rfl rfl) rfl (fun cs10 hb10 hp9 => ?_)
 refine MX.sr <| RG.so rfl <| RG.nil <| MX.sr <| RG.mo rfl <| RG.mo rfl ?_
 refine RG.va (FV.nilCheck rfl) ?_
 obtain ⟨z17, hz582, h⟩ := bind_in h
 have hm5 := mem_elem1 (p := ⟨b5, 0, none⟩) (cs := xs1.map (fun z9 : Bool => (.bool z9 : Value))) (i := z16.toNat) (hS29.memA .hd) (arr_get0 (fun z9 : Bool => (.bool z9 : Value)) hz582)
 refine RG.va (FV.indexArr (m := 1) (k := z16.toNat) (len := 256) (by kernel_rfl) rfl rfl rfl (arr_lt hz582 hl345)) <| RG.l1 rfl (hm5 0 _ rfl) <| RG.so rfl <| RG.nil <| MX.ret rfl <| RT.leave (u := .bool z17) hb10 Tryz.func137 rfl (.cons (.tmp rfl) .nil) rfl ?_
 refine RG.va (FV.not rfl) <| RG.nil <| MX.ifnb rfl h (fun c15 h => ?_) (fun c15 h => ?_)
 refine MX.skip <| MX.region <| RG.mo rfl <| RG.mo rfl <| RG.va (FV.len_string Tryz.underlying9 rfl) ?_
 obtain ⟨s15, hs7, h⟩ := bind_in h
 refine RG.va (FV.subc (i := ((s13.size : Nat) : Int)) (j := 1) rfl rfl hs7) ?_
 obtain ⟨s16, hs8, h⟩ := bind_in h
 refine RG.va (FV.strCut hs8 Tryz.underlying9 rfl rfl ⟨_, rfl⟩) <| RG.so rfl <| RG.nil <| MX.inBlock ?_
 exact hJ573 s16 _ _ ⟨rfl, rfl, trivial⟩ ⟨hS29, hT28⟩ h
 refine MX.exit rfl ?_
 have h := hh571 _ h
 try dsimp only at h
 exact hJ458 s13 _ _ ⟨rfl, trivial⟩ ⟨hS29, (Tr.trans hT27 hT28)⟩ h
 refine MX.exit rfl ?_
 have h := hh571 _ h
 try dsimp only at h
 exact hJ458 s13 _ _ ⟨rfl, trivial⟩ ⟨hS29, (Tr.trans hT27 hT28)⟩ h
def units_within_1_p (_n : Nat) (a0 : Int) (a1 : Int) : Option Bool :=
  (if a0 < 0 then some true else some (decide (a1 < a0)))
theorem units_within_1_c (n : Nat) (L : List Nat) (w : World) (_hL : ∀ b ∈ L, b < w.heap.size) (a0 : Int) (a1 : Int) {p1 : Nat} (m1 : ∀ j9 v9, ([vI a1] : List Value)[j9]? = some v9 → w.cell? ((⟨p1, 0, none⟩ : Addr).add j9) = some v9)  {r : Bool} (h : units_within_1_p n a0 a1 = some r) :
    Calls Tryz.prog 134 #[vI a0, .pointer (some ⟨p1, 0, none⟩)] w (Gives w fun _ u => u = .bool r) := by
 unfold units_within_1_p at h
 have hS0 := St.start w
 refine MX.start Tryz.func134 rfl rfl rfl (fun _ cs0 hb0 => ?_)
 refine MX.sr <| RG.so rfl <| RG.nil <| MX.sr <| RG.mo rfl <| RG.va (FV.lss (i := a0) (j := 0) rfl rfl) ?_
 refine RG.mo rfl <| RG.ifd (s := 6) rfl h (fun c1 h => ?_) (fun c1 h => ?_)
 refine RG.no <| RG.no <| RG.no <| RG.pt rfl rfl <| RG.so rfl <| RG.nil ?_
 refine MX.ret rfl <| RT.t1 hb0 Tryz.func134 rfl rfl ?_
 cases h
 exact hS0.gv
 refine RG.ga (FV.move rfl) <| RG.ga (FV.l1 rfl ((fun j9 v9 h9 => hS0.ag.cell0 (m1 j9 v9 h9)) 0 _ rfl)) <| RG.ga (FV.gtr (i := a0) (j := a1) rfl rfl) <| RG.pf rfl rfl <| RG.so rfl <| RG.nil ?_
 refine MX.ret rfl <| RT.t1 hb0 Tryz.func134 rfl rfl ?_
 cases h
 exact hS0.gv
theorem body133 : bodyB Tryz.prog 133 = true := by kernel_rfl
theorem body134 : bodyB Tryz.prog 134 = true := by kernel_rfl
theorem body141 : bodyB Tryz.prog 141 = true := by kernel_rfl
def units_within_l1 (n : Nat) (a0 : List Int) (a2 : Int) (J0 : Nat → Option (Bool ⊕ Unit)) : Nat → Option (Bool ⊕ Unit)
  | i32 => (if i32 < a0.length then (a0[i32]?).bind fun x0 => (units_within_1_p n x0 a2).bind fun y0 => (if y0 = true then some (.inl (!(decide (0 ≤ i32)))) else J0 (i32 + 1)) else some (.inr ()))
def units_within_p (n : Nat) (a0 : List Int) (a1 : Int) (a2 : Int) : Option Bool :=
  (if ((a0.length : Nat) : Int) = a1 then thn (loopF (units_within_l1 n a0 a2) n 0) (fun _ => some (!(decide (0 ≤ (-1))))) else some false)
theorem units_within_c (n : Nat) (L : List Nat) (w : World) (hL : ∀ b ∈ L, b < w.heap.size) (a0 : List Int) {v0_0 : Value} (h0_0 : Rep.R w L [v0_0] a0) (a1 : Int) (a2 : Int)  {r : Bool} (h : units_within_p n a0 a1 a2 = some r) :
    Calls Tryz.prog 115 #[v0_0, vI a1, vI a2] w (Gives w fun _ u => u = .bool r) := by
 unfold units_within_p at h
 have hS0 := St.start w
 refine MX.start Tryz.func115 rfl rfl rfl (fun _ cs0 hb0 => ?_)
 refine MX.sr <| RG.new .plain rfl (Does.box (vs := [vI a2]) hS0 rfl rfl) (fun w2 b5 hS3 hT4 => ?_)
 refine RG.so rfl <| RG.nil <| MX.sr <| RG.mo rfl ?_
 have hm7 := Rep.mv0 h0_0 hS3
 have hl6 : a0.length ≤ 281474976710656 := Rep.lenle hm7
 refine RG.va (FV.len (xs := a0) Tryz.underlying27 rfl hm7) <| RG.mo rfl <| RG.va (FV.eql (i := ((a0.length : Nat) : Int)) (j := a1) rfl rfl) <| RG.mo rfl <| RG.ifd (s := 11) rfl h (fun c8 h => ?_) (fun c8 h => ?_)
 refine RG.ga (FV.move rfl) <| RG.ga (FV.makeFunc (vs := []) (us := [vP b5]) evs_nil (e1 rfl)) <| RG.enterP (fst := []) (cap := []) (vs := [v0_0, .func (.func 134) #[] #[vP b5]]) (.yes rfl rfl) body133 Tryz.func133 rfl rfl rfl rfl (e2 rfl rfl) rfl (fun cs1 hb9 hp0 => ?_)
 refine MX.sr <| RG.so rfl <| RG.nil <| MX.sr <| RG.mo rfl <| RG.mo rfl ?_
 refine RG.enterP (fst := []) (cap := []) (vs := [v0_0, .func (.func 134) #[] #[vP b5]]) .plain body141 Tryz.func141 rfl rfl rfl rfl (e2 rfl rfl) rfl (fun cs2 hb1 hp1 => ?_)
 refine MX.sr <| RG.so rfl <| RG.nil <| MX.seq <| MX.sr <| RG.mo rfl ?_
 refine RG.va (FV.len (xs := a0) Tryz.underlying27 rfl hm7) <| RG.mo rfl <| RG.nil <| MX.block ?_
 obtain ⟨o0, ho37, hh39⟩ := thn_in h
 refine MX.loop (α := Nat) (fun i32 => [(0, v0_0), (1, .func (.func 134) #[] #[vP b5]), (7, vI ((a0.length : Nat) : Int)), (8, vI ((i32 : Nat) : Int))]) (fun i32 wx0 => St w wx0 [.cells b5 [vI a2] 3] ∧ Tr w2 [.cells b5 [vI a2] 3] wx0 [.cells b5 [vI a2] 3]) (fun i32 => i32) 0 ho37 ⟨rfl, rfl, rfl, rfl, trivial⟩ ⟨hS3, Tr.refl _ _⟩ ?_
 rintro J0 i32 wx0 hJ41 ⟨hS1, hT0⟩ h
 unfold units_within_l1 at h
 try dsimp only at h
 refine MX.sr <| RG.va (FV.lssN (i := i32) (j := a0.length) rfl rfl) <| RG.nil <| MX.seq <| MX.ifd rfl h (fun c0 h => ?_) (fun c0 h => ?_)
 refine MX.skip <| MX.seq <| MX.block <| MX.sr <| RG.mo rfl <| RG.so rfl ?_
 refine RG.nil <| MX.sr <| RG.mo rfl <| RG.mo rfl <| RG.mo rfl ?_
 obtain ⟨x0, hx0, h⟩ := bind_in h
 have hm0 := Rep.mv0 h0_0 hS1
 obtain ⟨A44, c1, he0, hk0, cs3, hr0, hm1⟩ := Rep.nth hm0 hx0
 have he1 : cs3 = [vI x0] := hr0; subst he1
 refine RG.va (FV.ia 1 i32 rfl he0 rfl rfl hk0) <| RG.l1 rfl (hm1 0 _ rfl) ?_
 obtain ⟨y0, hy0, h⟩ := bind_in h
 refine RG.callq' (v := .bool y0) (fst := []) (cap := [vP b5]) .plain body134 rfl (e1 rfl) (fun w9 hw9 => units_within_1_c n _ w9 (hS1.hL0 hL hw9) x0 a2 (fun j9 v9 h9 => hw9.cell0 ((hS1.memA .hd) j9 v9 h9)) hy0) rfl <| RG.nil <| MX.ifb rfl h (fun c2 h => ?_) (fun c2 h => ?_)
 refine MX.sr <| RG.mo rfl <| RG.so rfl <| RG.nil ?_
 have h := thn_inl h hh39
 refine MX.ret rfl <| RT.leave (u := vI ((i32 : Nat) : Int)) hb1 Tryz.func141 rfl (.cons (.tmp rfl) .nil) rfl <| RG.va (FV.geqN (i := i32) (j := 0) rfl rfl) <| RG.so rfl <| RG.nil <| MX.ret rfl ?_
 refine RT.leave (u := .bool (decide (0 ≤ i32))) hb9 Tryz.func133 rfl (.cons (.tmp rfl) .nil) rfl <| RG.ga (FV.not rfl) <| RG.pt rfl rfl <| RG.so rfl <| RG.nil <| MX.ret rfl ?_
 refine RT.t1 hb0 Tryz.func115 rfl rfl ?_
 cases h
 exact hS1.gv
 refine MX.skip <| MX.inBlock <| MX.region <| RG.va (FV.addN (i := i32) (j := 1) rfl rfl (by omega)) <| RG.mo rfl <| RG.nil ?_
 exact hJ41 (i32 + 1) _ _ ⟨rfl, rfl, rfl, rfl, trivial⟩ ⟨hS1, hT0⟩ h
 refine MX.exit rfl ?_
 have h := thn_inr h hh39
 try dsimp only at h
 refine MX.sr <| RG.so rfl <| RG.nil <| MX.ret rfl <| RT.leave (u := vI (-1)) hb1 Tryz.func141 rfl (.cons (.tmp rfl) .nil) rfl <| RG.va (FV.geq (i := (-1)) (j := 0) rfl rfl) ?_
 refine RG.so rfl <| RG.nil <| MX.ret rfl <| RT.leave (u := .bool (decide (0 ≤ (-1)))) hb9 Tryz.func133 rfl (.cons (.tmp rfl) .nil) rfl <| RG.ga (FV.not rfl) <| RG.pt rfl rfl ?_
 refine RG.so rfl <| RG.nil <| MX.ret rfl <| RT.t1 hb0 Tryz.func115 rfl rfl ?_
 cases h
 exact hS1.gv
 refine RG.no <| RG.no <| RG.no <| RG.no <| RG.pf rfl rfl <| RG.so rfl ?_
 refine RG.nil <| MX.ret rfl <| RT.t1 hb0 Tryz.func115 rfl rfl ?_
 cases h
 exact hS3.gv
def tb91_4 : List (Nat × Nat × Nat) := [(0, 512, 8), (1, 1024, 512), (2, 2048, 1024), (0, 4096, 8), (8, 8192, 4096), (16, 16384, 8192), (32, 32768, 16384), (0, 65536, 8), (128, 131072, 65536), (256, 262144, 131072), (512, 524288, 262144), (0, 1048576, 8), (2048, 2097152, 1048576), (4096, 4194304, 2097152), (0, 8388608, 8), (16384, 16777216, 8388608), (0, 33554432, 32), (98304, 67108864, 50331648), (0, 134217728, 8), (262144, 268435456, 134217728), (0, 536870912, 4), (1048576, 1073741824, 536870912), (0, 2147483648, 8), (4194304, 4294967296, 2147483648), (11010560, 8589934592, 5637144576), (0, 17179869184, 8), (33554432, 34359738368, 17179869184), (0, 68719476736, 4), (134217728, 137438953472, 68719476736), (0, 274877906944, 32), (889192448, 549755813888, 446676598784), (0, 1099511627776, 8), (2147483648, 2199023255552, 1099511627776), (0, 4398046511104, 4), (8589934592, 8796093022208, 4398046511104), (0, 17592186044416, 64), (56908316672, 35184372088832, 28587302322176), (69810136132, 70368744177664, 35742789699584), (206158430208, 140737488355328, 70368744177664), (549755813887, 16, 140737488355328)]
theorem el162 : ElT Tryz.prog 162 4 (Rep.size Bool) 1 (.bool false) [.bool false] := ⟨Tryz.underlying162, by kernel_rfl, rfl, rfl, rfl, rfl⟩
theorem body90 : bodyB Tryz.prog 90 = true := by kernel_rfl
theorem body114 : bodyB Tryz.prog 114 = true := by kernel_rfl
theorem body115 : bodyB Tryz.prog 115 = true := by kernel_rfl
def units_right_p (n : Nat) (a0 : TRoll) (a1 : TUnit) : Option Bool :=
  jn (fun (i0, i1) => (strings_Trim_p n a1.fName ⟨#[65, 66, 67, 68, 69, 70, 71, 72, 73, 74, 75, 76, 77, 78, 79, 80, 81, 82, 83, 84, 85, 86, 87, 88, 89, 90, 97, 98, 99, 100, 101, 102, 103, 104, 105, 106, 107, 108, 109, 110, 111, 112, 113, 114, 115, 116, 117, 118, 119, 120, 121, 122, 48, 49, 50, 51, 52, 53, 54, 55, 56, 57, 45, 95]⟩).bind fun y0 => (units_within_p n a1.fGroups a0.fGroups a1.fPeople).bind fun y1 => (units_within_p n a1.fVotes a0.fParties ((i0 : Nat) : Int)).bind fun y2 => (units_within_p n a1.fParents a0.fLevels ((i1 : Nat) : Int)).bind fun y3 => (units_every_p n ([(!(decide (a1.fName = ⟨#[]⟩))), (decide (a1.fName.size ≤ 12)), (decide (y0 = ⟨#[]⟩)), (decide (0 ≤ a1.fPeople)), (decide (a1.fPeople ≤ ((i0 : Nat) : Int))), y1, y2, y3] : List Bool)).bind fun y4 => some y4) (fun J0 => (if a1.fWater = true then J0 (0, 0) else J0 (1000000000, 63)))
theorem units_right_c (n : Nat) (L : List Nat) (w : World) (hL : ∀ b ∈ L, b < w.heap.size) (a0 : TRoll) {v0_3 : Value} (h0_3 : Rep.R w L [v0_3] a0.fUnits) (a1 : TUnit) {v1_2 : Value} (h1_2 : Rep.R w L [v1_2] a1.fGroups) {v1_3 : Value} (h1_3 : Rep.R w L [v1_3] a1.fVotes) {v1_4 : Value} (h1_4 : Rep.R w L [v1_4] a1.fParents)  {r : Bool} (h : units_right_p n a0 a1 = some r) :
    Calls Tryz.prog 91 #[.agg #[vI a0.fGroups, vI a0.fParties, vI a0.fLevels, v0_3], .agg #[.string a1.fName, vI a1.fPeople, v1_2, v1_3, v1_4, .bool a1.fWater]] w (Gives w fun _ u => u = .bool r) := by
 unfold units_right_p at h
 have hS0 := St.start w
 refine MX.start Tryz.func91 rfl rfl rfl (fun _ cs0 hb0 => ?_)
 refine MX.sr <| RG.new .plain rfl (Does.box (vs := [vI a0.fGroups, vI a0.fParties, vI a0.fLevels, v0_3]) hS0 rfl rfl) (fun w2 b5 hS3 hT4 => ?_)
 refine RG.new .plain rfl (Does.box (vs := [.string a1.fName, vI a1.fPeople, v1_2, v1_3, v1_4, .bool a1.fWater]) hS3 rfl rfl) (fun w7 b0 hS8 hT9 => ?_)
 refine RG.so rfl <| RG.nil <| MX.sr <| RG.so rfl <| RG.so rfl <| RG.nil ?_
 refine MX.seq <| MX.sr <| RG.fa 5 rfl <| RG.l1 rfl ((hS8.memA .hd) 5 _ rfl) <| RG.nil <| MX.join (α := Nat × Nat) (fun ⟨i0, i1⟩ => [(2, vP b5), (3, vP b0), (5, vI ((i0 : Nat) : Int)), (6, vI ((i1 : Nat) : Int))]) (fun ⟨i0, i1⟩ wx0 => St w wx0 [.cells b0 [.string a1.fName, vI a1.fPeople, v1_2, v1_3, v1_4, .bool a1.fWater] 30, .cells b5 [vI a0.fGroups, vI a0.fParties, vI a0.fLevels, v0_3] 25] ∧ Tr w7 [.cells b0 [.string a1.fName, vI a1.fPeople, v1_2, v1_3, v1_4, .bool a1.fWater] 30, .cells b5 [vI a0.fGroups, vI a0.fParties, vI a0.fLevels, v0_3] 25] wx0 [.cells b0 [.string a1.fName, vI a1.fPeople, v1_2, v1_3, v1_4, .bool a1.fWater] 30, .cells b5 [vI a0.fGroups, vI a0.fParties, vI a0.fLevels, v0_3] 25]) (fun ⟨i0, i1⟩ => (i0, i1)) h ?_ ?_
 rintro ⟨i0, i1⟩ wx0 ⟨hS1, hT0⟩ h
 try dsimp only at h
 refine MX.seq <| MX.drawT 40 tb91_4 (by kernel_rfl) (by kernel_rfl) (by kernel_rfl) (fun kt0 kp0 => ?_)
 refine RD.vw 0 1 kt0 rfl kp0 (fun _ => FV.fa 0 rfl) rfl <| RD.vx 1 3 962072674308 kt0 rfl kp0 (FV.l1 rfl ((hS1.memA .hd) 0 _ rfl)) rfl <| RD.vw 2 7 kt0 rfl kp0 (fun _ => FV.neqS rfl rfl) rfl <| RD.vw 3 15 kt0 rfl kp0 (fun _ => FV.fa 0 rfl) rfl <| RD.vx 4 31 962072674400 kt0 rfl kp0 (FV.l1 rfl ((hS1.memA .hd) 0 _ rfl)) rfl <| RD.vx 5 63 962072674368 kt0 rfl kp0 (FV.len_string Tryz.underlying9 rfl) rfl ?_
 refine RD.vw 6 127 kt0 rfl kp0 (fun _ => FV.leqN (i := a1.fName.size) (j := 12) rfl rfl) rfl <| RD.vw 7 255 kt0 rfl kp0 (fun _ => FV.fa 0 rfl) rfl <| RD.vx 8 511 1031882671616 kt0 rfl kp0 (FV.l1 rfl ((hS1.memA .hd) 0 _ rfl)) rfl ?_
 obtain ⟨y0, hy0, h⟩ := bind_in h
 refine RD.cq 9 1023 1031882671104 (.string y0) kt0 rfl kp0 body114 rfl (e2 rfl rfl) (fun w9 hw9 => strings_Trim_c n _ w9 (hS1.hL0 hL hw9) a1.fName ⟨#[65, 66, 67, 68, 69, 70, 71, 72, 73, 74, 75, 76, 77, 78, 79, 80, 81, 82, 83, 84, 85, 86, 87, 88, 89, 90, 97, 98, 99, 100, 101, 102, 103, 104, 105, 106, 107, 108, 109, 110, 111, 112, 113, 114, 115, 116, 117, 118, 119, 120, 121, 122, 48, 49, 50, 51, 52, 53, 54, 55, 56, 57, 45, 95]⟩ hy0) rfl <| RD.vw 10 2047 kt0 rfl kp0 (fun _ => FV.eqlS rfl rfl) rfl <| RD.vw 11 4095 kt0 rfl kp0 (fun _ => FV.fa 1 rfl) rfl <| RD.vx 12 8191 962072682496 kt0 rfl kp0 (FV.l1 rfl ((hS1.memA .hd) 1 _ rfl)) rfl <| RD.vw 13 16383 kt0 rfl kp0 (fun _ => FV.geq (i := a1.fPeople) (j := 0) rfl rfl) rfl <| RD.vw 14 32767 kt0 rfl kp0 (fun _ => FV.fa 1 rfl) rfl ?_
 refine RD.vx 15 65535 962072805376 kt0 rfl kp0 (FV.l1 rfl ((hS1.memA .hd) 1 _ rfl)) rfl <| RD.vw 16 131071 kt0 rfl kp0 (fun _ => FV.move rfl) rfl <| RD.vw 17 262143 kt0 rfl kp0 (fun _ => FV.leq (i := a1.fPeople) (j := ((i0 : Nat) : Int)) rfl rfl) rfl <| RD.vw 18 524287 kt0 rfl kp0 (fun _ => FV.fa 2 rfl) rfl <| RD.vx 19 1048575 1031882670080 kt0 rfl kp0 (FV.l1 rfl ((hS1.memA .hd) 2 _ rfl)) rfl <| RD.vw 20 2097151 kt0 rfl kp0 (fun _ => FV.fa 0 rfl) rfl ?_
 refine RD.vx 21 4194303 1031882670080 kt0 rfl kp0 (FV.l1 rfl ((hS1.memA (.tl .hd)) 0 _ rfl)) rfl <| RD.vw 22 8388607 kt0 rfl kp0 (fun _ => FV.fa 1 rfl) rfl <| RD.vx 23 16777215 1031882670080 kt0 rfl kp0 (FV.l1 rfl ((hS1.memA .hd) 1 _ rfl)) rfl ?_
 obtain ⟨y1, hy1, h⟩ := bind_in h
 refine RD.cq 24 33554431 1031865892864 (.bool y1) kt0 rfl kp0 body115 rfl (e3 rfl rfl rfl) (fun w9 hw9 => units_within_c n _ w9 (hS1.hL0 hL hw9) a1.fGroups (hS1.k0 h1_2 hw9) a0.fGroups a1.fPeople hy1) rfl <| RD.vw 25 67108863 kt0 rfl kp0 (fun _ => FV.fa 3 rfl) rfl <| RD.vx 26 134217727 1031865892864 kt0 rfl kp0 (FV.l1 rfl ((hS1.memA .hd) 3 _ rfl)) rfl <| RD.vw 27 268435455 kt0 rfl kp0 (fun _ => FV.fa 1 rfl) rfl <| RD.vx 28 536870911 1031865892864 kt0 rfl kp0 (FV.l1 rfl ((hS1.memA (.tl .hd)) 1 _ rfl)) rfl <| RD.vw 29 1073741823 kt0 rfl kp0 (fun _ => FV.move rfl) rfl ?_
 obtain ⟨y2, hy2, h⟩ := bind_in h
 refine RD.cq 30 2147483647 1030792151040 (.bool y2) kt0 rfl kp0 body115 rfl (e3 rfl rfl rfl) (fun w9 hw9 => units_within_c n _ w9 (hS1.hL0 hL hw9) a1.fVotes (hS1.k0 h1_3 hw9) a0.fParties ((i0 : Nat) : Int) hy2) rfl <| RD.vw 31 4294967295 kt0 rfl kp0 (fun _ => FV.fa 4 rfl) rfl <| RD.vx 32 8589934591 1030792151040 kt0 rfl kp0 (FV.l1 rfl ((hS1.memA .hd) 4 _ rfl)) rfl <| RD.vw 33 17179869183 kt0 rfl kp0 (fun _ => FV.fa 2 rfl) rfl <| RD.vx 34 34359738367 1030792151040 kt0 rfl kp0 (FV.l1 rfl ((hS1.memA (.tl .hd)) 2 _ rfl)) rfl <| RD.vw 35 68719476735 kt0 rfl kp0 (fun _ => FV.move rfl) rfl ?_
 obtain ⟨y3, hy3, h⟩ := bind_in h
 refine RD.cq 36 137438953471 962072674304 (.bool y3) kt0 rfl kp0 body115 rfl (e3 rfl rfl rfl) (fun w9 hw9 => units_within_c n _ w9 (hS1.hL0 hL hw9) a1.fParents (hS1.k0 h1_4 hw9) a0.fLevels ((i1 : Nat) : Int) hy3) rfl <| RD.nu 37 274877906943 kt0 rfl .plain rfl (Does.build (α := Bool) (xs := ([(!(decide (a1.fName = ⟨#[]⟩))), (decide (a1.fName.size ≤ 12)), (decide (y0 = ⟨#[]⟩)), (decide (0 ≤ a1.fPeople)), (decide (a1.fPeople ≤ ((i0 : Nat) : Int))), y1, y2, y3] : List Bool)) (vs := [.bool (!(decide (a1.fName = ⟨#[]⟩))), .bool (decide (a1.fName.size ≤ 12)), .bool (decide (y0 = ⟨#[]⟩)), .bool (decide (0 ≤ a1.fPeople)), .bool (decide (a1.fPeople ≤ ((i0 : Nat) : Int))), .bool y1, .bool y2, .bool y3]) (ds' := [.bool (!(decide (a1.fName = ⟨#[]⟩))), .bool (decide (a1.fName.size ≤ 12)), .bool (decide (y0 = ⟨#[]⟩)), .bool (decide (0 ≤ a1.fPeople)), .bool (decide (a1.fPeople ≤ ((i0 : Nat) : Int))), .bool y1, .bool y2, .bool y3]) rfl hS1 el162 rfl (e8 rfl rfl rfl rfl rfl rfl rfl rfl) (by kernel_rfl) rfl) (fun w0 b1 hS2 hT1 => ?_)
 have hc0 := Cells.at_ (cs := [.bool (!(decide (a1.fName = ⟨#[]⟩))), .bool (decide (a1.fName.size ≤ 12)), .bool (decide (y0 = ⟨#[]⟩)), .bool (decide (0 ≤ a1.fPeople)), .bool (decide (a1.fPeople ≤ ((i0 : Nat) : Int))), .bool y1, .bool y2, .bool y3]) (xs := (([(!(decide (a1.fName = ⟨#[]⟩))), (decide (a1.fName.size ≤ 12)), (decide (y0 = ⟨#[]⟩)), (decide (0 ≤ a1.fPeople)), (decide (a1.fPeople ≤ ((i0 : Nat) : Int))), y1, y2, y3] : List Bool) : List Bool)) hS2 L (Cells.cons (cs := [.bool (!(decide (a1.fName = ⟨#[]⟩)))]) (ds := [.bool (decide (a1.fName.size ≤ 12)), .bool (decide (y0 = ⟨#[]⟩)), .bool (decide (0 ≤ a1.fPeople)), .bool (decide (a1.fPeople ≤ ((i0 : Nat) : Int))), .bool y1, .bool y2, .bool y3]) rfl (Cells.cons (cs := [.bool (decide (a1.fName.size ≤ 12))]) (ds := [.bool (decide (y0 = ⟨#[]⟩)), .bool (decide (0 ≤ a1.fPeople)), .bool (decide (a1.fPeople ≤ ((i0 : Nat) : Int))), .bool y1, .bool y2, .bool y3]) rfl (Cells.cons (cs := [.bool (decide (y0 = ⟨#[]⟩))]) (ds := [.bool (decide (0 ≤ a1.fPeople)), .bool (decide (a1.fPeople ≤ ((i0 : Nat) : Int))), .bool y1, .bool y2, .bool y3]) rfl (Cells.cons (cs := [.bool (decide (0 ≤ a1.fPeople))]) (ds := [.bool (decide (a1.fPeople ≤ ((i0 : Nat) : Int))), .bool y1, .bool y2, .bool y3]) rfl (Cells.cons (cs := [.bool (decide (a1.fPeople ≤ ((i0 : Nat) : Int)))]) (ds := [.bool y1, .bool y2, .bool y3]) rfl (Cells.cons (cs := [.bool y1]) (ds := [.bool y2, .bool y3]) rfl (Cells.cons (cs := [.bool y2]) (ds := [.bool y3]) rfl (Cells.cons (cs := [.bool y3]) (ds := []) rfl (Cells.nil _ _)))))))))
 obtain ⟨y4, hy4, h⟩ := bind_in h
 refine RD.cq 38 549755813887 549755813888 (.bool y4) kt0 rfl kp0 body90 rfl (e1 rfl) (fun w9 hw9 => units_every_c n _ w9 (hS2.hL0 hL hw9) ([(!(decide (a1.fName = ⟨#[]⟩))), (decide (a1.fName.size ≤ 12)), (decide (y0 = ⟨#[]⟩)), (decide (0 ≤ a1.fPeople)), (decide (a1.fPeople ≤ ((i0 : Nat) : Int))), y1, y2, y3] : List Bool) (Rep.keep0 (St.lend (α := Bool) (L := L) hS2 .hd hc0 hL) hw9) hy4) rfl <| RD.vw 39 1099511627775 kt0 rfl kp0 (fun _ => FV.assign rfl) rfl <| RD.done (doneD_ok kt0 (by kernel_rfl)) <| MX.ret rfl <| RT.t1 hb0 Tryz.func91 rfl rfl ?_
 cases h
 exact hS2.gv
 intro J0 hJ18 h
 try dsimp only at h
 refine MX.ifb rfl h (fun c0 h => ?_) (fun c0 h => ?_)
 refine MX.region <| RG.so rfl <| RG.so rfl <| RG.nil ?_
 exact hJ18 (0, 0) _ _ ⟨rfl, rfl, rfl, rfl, trivial⟩ ⟨hS8, Tr.refl _ _⟩ h
 refine MX.skip ?_
 exact hJ18 (1000000000, 63) _ _ ⟨rfl, rfl, rfl, rfl, trivial⟩ ⟨hS8, Tr.refl _ _⟩ h
def tb69_9 : List (Nat × Nat × Nat) := [(0, 35184372088832, 2), (0, 70368744177664, 128), (3, 140737488355328, 105553116266496), (0, 281474976710656, 16), (0, 562949953421312, 128), (16, 1125899906842624, 562949953421312), (40, 2251799813685248, 1407374883553280), (64, 4503599627370496, 2251799813685248), (0, 9007199254740992, 128), (256, 18014398509481984, 9007199254740992), (516, 36028797018963968, 18014398509481984), (1024, 72057594037927936, 36028797018964000), (3072, 144115188075855872, 108086391056891904), (5120, 288230376151711744, 180143985094819840), (0, 576460752303423488, 64), (16384, 1152921504606846976, 576460752303423488), (33792, 2305843009213693952, 1152921504606846976), (65536, 4611686018427387904, 2305843009213694080), (196608, 9223372036854775808, 6917529027641081856), (327680, 18446744073709551616, 11529215046068469760), (589824, 36893488147419103232, 20752587082923245568), (1056900, 73786976294838206464, 37186362860686540800), (2162688, 147573952589676412928, 73786976294838206464), (4194304, 295147905179352825856, 147573952589676412928)]
theorem body91 : bodyB Tryz.prog 91 = true := by kernel_rfl
def units_CheckRoll_l1 (n : Nat) (a0 : TRoll) (J0 : Bool × Nat × (List (ByteArray × Bool)) → Option (Int ⊕ Unit)) : Bool × Nat × (List (ByteArray × Bool)) → Option (Int ⊕ Unit)
  | (q0, i0, D0) => (if i0 < a0.fUnits.length then (a0.fUnits[i0]?).bind fun x0 => (units_right_p n a0 x0).bind fun y0 => (if x0.fWater = true then (if 0 < i0 then (units_every_p n ([y0, (!(mgetD D0 x0.fName false)), true, true] : List Bool)).bind fun y1 => (if y1 = true then J0 (x0.fWater, i0 + 1, mset D0 x0.fName true) else some (.inl (161 : Int))) else (units_every_p n ([y0, (!(mgetD D0 x0.fName false)), true, (!x0.fWater)] : List Bool)).bind fun y2 => (if y2 = true then J0 (x0.fWater, i0 + 1, mset D0 x0.fName true) else some (.inl (161 : Int)))) else (if 0 < i0 then (units_every_p n ([y0, (!(mgetD D0 x0.fName false)), (!q0), true] : List Bool)).bind fun y3 => (if y3 = true then J0 (x0.fWater, i0 + 1, mset D0 x0.fName true) else some (.inl (161 : Int))) else (units_every_p n ([y0, (!(mgetD D0 x0.fName false)), (!q0), (!x0.fWater)] : List Bool)).bind fun y4 => (if y4 = true then J0 (x0.fWater, i0 + 1, mset D0 x0.fName true) else some (.inl (161 : Int))))) else some (.inr ()))
def units_CheckRoll_p (n : Nat) (a0 : TRoll) : Option Int :=
  (units_every_p n ([(decide (0 ≤ a0.fGroups)), (decide (a0.fGroups ≤ 6)), (decide (0 ≤ a0.fParties)), (decide (a0.fParties ≤ 12)), (decide (0 ≤ a0.fLevels)), (decide (a0.fLevels ≤ 3)), (decide (0 < a0.fUnits.length)), (decide (a0.fUnits.length ≤ 64))] : List Bool)).bind fun y0 => (if y0 = true then thn (loopF (units_CheckRoll_l1 n a0) n (false, 0, ([] : List (ByteArray × Bool)))) (fun _ => some (0 : Int)) else some (161 : Int))
theorem units_CheckRoll_c (n : Nat) (L : List Nat) (w : World) (hL : ∀ b ∈ L, b < w.heap.size) (a0 : TRoll) {v0_3 : Value} (h0_3 : Rep.R w L [v0_3] a0.fUnits)  {r : Int} (h : units_CheckRoll_p n a0 = some r) :
    Calls Tryz.prog 69 #[.agg #[vI a0.fGroups, vI a0.fParties, vI a0.fLevels, v0_3]] w (Gives w fun _ u => u = vI r) := by
 unfold units_CheckRoll_p at h
 have hS0 := St.start w
 refine MX.start Tryz.func69 rfl rfl rfl (fun _ cs0 hb0 => ?_)
 refine MX.sr <| RG.new .plain rfl (Does.box (vs := [vI a0.fGroups, vI a0.fParties, vI a0.fLevels, v0_3]) hS0 rfl rfl) (fun w2 b5 hS3 hT4 => ?_)
 refine RG.so rfl <| RG.nil <| MX.sr <| RG.fa 3 rfl <| RG.l1 rfl ((hS3.memA .hd) 3 _ rfl) ?_
 have hm7 := Rep.mv0 h0_3 hS3
 have hl6 : a0.fUnits.length ≤ 281474976710656 := Rep.lenle hm7
 refine RG.va (FV.len (xs := a0.fUnits) Tryz.underlying23 rfl hm7) <| RG.so rfl <| RG.nil <| MX.seq <| MX.sr <| RG.fa 0 rfl ?_
 refine RG.l1 rfl ((hS3.memA .hd) 0 _ rfl) <| RG.va (FV.geq (i := a0.fGroups) (j := 0) rfl rfl) <| RG.fa 0 rfl <| RG.l1 rfl ((hS3.memA .hd) 0 _ rfl) <| RG.va (FV.leq (i := a0.fGroups) (j := 6) rfl rfl) <| RG.fa 1 rfl ?_
 refine RG.l1 rfl ((hS3.memA .hd) 1 _ rfl) <| RG.va (FV.geq (i := a0.fParties) (j := 0) rfl rfl) <| RG.fa 1 rfl <| RG.l1 rfl ((hS3.memA .hd) 1 _ rfl) <| RG.va (FV.leq (i := a0.fParties) (j := 12) rfl rfl) <| RG.fa 2 rfl ?_
 refine RG.l1 rfl ((hS3.memA .hd) 2 _ rfl) <| RG.va (FV.geq (i := a0.fLevels) (j := 0) rfl rfl) <| RG.fa 2 rfl <| RG.l1 rfl ((hS3.memA .hd) 2 _ rfl) <| RG.va (FV.leq (i := a0.fLevels) (j := 3) rfl rfl) <| RG.mo rfl ?_
 refine RG.va (FV.gtrN (i := a0.fUnits.length) (j := 0) rfl rfl) <| RG.mo rfl <| RG.va (FV.leqN (i := a0.fUnits.length) (j := 64) rfl rfl) <| RG.new .plain rfl (Does.build (α := Bool) (xs := ([(decide (0 ≤ a0.fGroups)), (decide (a0.fGroups ≤ 6)), (decide (0 ≤ a0.fParties)), (decide (a0.fParties ≤ 12)), (decide (0 ≤ a0.fLevels)), (decide (a0.fLevels ≤ 3)), (decide (0 < a0.fUnits.length)), (decide (a0.fUnits.length ≤ 64))] : List Bool)) (vs := [.bool (decide (0 ≤ a0.fGroups)), .bool (decide (a0.fGroups ≤ 6)), .bool (decide (0 ≤ a0.fParties)), .bool (decide (a0.fParties ≤ 12)), .bool (decide (0 ≤ a0.fLevels)), .bool (decide (a0.fLevels ≤ 3)), .bool (decide (0 < a0.fUnits.length)), .bool (decide (a0.fUnits.length ≤ 64))]) (ds' := [.bool (decide (0 ≤ a0.fGroups)), .bool (decide (a0.fGroups ≤ 6)), .bool (decide (0 ≤ a0.fParties)), .bool (decide (a0.fParties ≤ 12)), .bool (decide (0 ≤ a0.fLevels)), .bool (decide (a0.fLevels ≤ 3)), .bool (decide (0 < a0.fUnits.length)), .bool (decide (a0.fUnits.length ≤ 64))]) rfl hS3 el162 rfl (e8 rfl rfl rfl rfl rfl rfl rfl rfl) (by kernel_rfl) rfl) (fun w9 b0 hS1 hT0 => ?_)
 have hc0 := Cells.at_ (cs := [.bool (decide (0 ≤ a0.fGroups)), .bool (decide (a0.fGroups ≤ 6)), .bool (decide (0 ≤ a0.fParties)), .bool (decide (a0.fParties ≤ 12)), .bool (decide (0 ≤ a0.fLevels)), .bool (decide (a0.fLevels ≤ 3)), .bool (decide (0 < a0.fUnits.length)), .bool (decide (a0.fUnits.length ≤ 64))]) (xs := (([(decide (0 ≤ a0.fGroups)), (decide (a0.fGroups ≤ 6)), (decide (0 ≤ a0.fParties)), (decide (a0.fParties ≤ 12)), (decide (0 ≤ a0.fLevels)), (decide (a0.fLevels ≤ 3)), (decide (0 < a0.fUnits.length)), (decide (a0.fUnits.length ≤ 64))] : List Bool) : List Bool)) hS1 L (Cells.cons (cs := [.bool (decide (0 ≤ a0.fGroups))]) (ds := [.bool (decide (a0.fGroups ≤ 6)), .bool (decide (0 ≤ a0.fParties)), .bool (decide (a0.fParties ≤ 12)), .bool (decide (0 ≤ a0.fLevels)), .bool (decide (a0.fLevels ≤ 3)), .bool (decide (0 < a0.fUnits.length)), .bool (decide (a0.fUnits.length ≤ 64))]) rfl (Cells.cons (cs := [.bool (decide (a0.fGroups ≤ 6))]) (ds := [.bool (decide (0 ≤ a0.fParties)), .bool (decide (a0.fParties ≤ 12)), .bool (decide (0 ≤ a0.fLevels)), .bool (decide (a0.fLevels ≤ 3)), .bool (decide (0 < a0.fUnits.length)), .bool (decide (a0.fUnits.length ≤ 64))]) rfl (Cells.cons (cs := [.bool (decide (0 ≤ a0.fParties))]) (ds := [.bool (decide (a0.fParties ≤ 12)), .bool (decide (0 ≤ a0.fLevels)), .bool (decide (a0.fLevels ≤ 3)), .bool (decide (0 < a0.fUnits.length)), .bool (decide (a0.fUnits.length ≤ 64))]) rfl (Cells.cons (cs := [.bool (decide (a0.fParties ≤ 12))]) (ds := [.bool (decide (0 ≤ a0.fLevels)), .bool (decide (a0.fLevels ≤ 3)), .bool (decide (0 < a0.fUnits.length)), .bool (decide (a0.fUnits.length ≤ 64))]) rfl (Cells.cons (cs := [.bool (decide (0 ≤ a0.fLevels))]) (ds := [.bool (decide (a0.fLevels ≤ 3)), .bool (decide (0 < a0.fUnits.length)), .bool (decide (a0.fUnits.length ≤ 64))]) rfl (Cells.cons (cs := [.bool (decide (a0.fLevels ≤ 3))]) (ds := [.bool (decide (0 < a0.fUnits.length)), .bool (decide (a0.fUnits.length ≤ 64))]) rfl (Cells.cons (cs := [.bool (decide (0 < a0.fUnits.length))]) (ds := [.bool (decide (a0.fUnits.length ≤ 64))]) rfl (Cells.cons (cs := [.bool (decide (a0.fUnits.length ≤ 64))]) (ds := []) rfl (Cells.nil _ _)))))))))
 obtain ⟨y0, hy0, h⟩ := bind_in h
 refine RG.cq (.bool y0) body90 rfl (e1 rfl) (fun w9 hw9 => units_every_c n _ w9 (hS1.hL0 hL hw9) ([(decide (0 ≤ a0.fGroups)), (decide (a0.fGroups ≤ 6)), (decide (0 ≤ a0.fParties)), (decide (a0.fParties ≤ 12)), (decide (0 ≤ a0.fLevels)), (decide (a0.fLevels ≤ 3)), (decide (0 < a0.fUnits.length)), (decide (a0.fUnits.length ≤ 64))] : List Bool) (Rep.keep0 (St.lend (α := Bool) (L := L) hS1 .hd hc0 hL) hw9) hy0) rfl <| RG.va (FV.not rfl) <| RG.nil <| MX.ifnb rfl h (fun c0 h => ?_) (fun c0 h => ?_)
 refine MX.skip <| MX.sr <| RG.new .plain rfl (Does.makeMap (κ := ByteArray) (ν := Bool) hS1) (fun w0 b1 hS2 hT1 => ?_)
 refine RG.so rfl <| RG.nil <| MX.sr <| RG.so rfl <| RG.nil <| MX.seq ?_
 refine MX.sr <| RG.fa 3 rfl <| RG.l1 rfl ((hS2.memA (.tl (.tl .hd))) 3 _ rfl) ?_
 have hm0 := Rep.mv0 h0_3 hS2
 refine RG.va (FV.len (xs := a0.fUnits) Tryz.underlying23 rfl hm0) <| RG.mo rfl <| RG.nil <| MX.block ?_
 obtain ⟨hS4, hT2⟩ := St.arrB hS2 (.one .hd (.one (.tl .hd) .done))
 obtain ⟨o0, ho202, hh204⟩ := thn_in h
 refine MX.loop (α := Bool × Nat × (List (ByteArray × Bool))) (fun ⟨q0, i0, D0⟩ => [(1, vP b5), (4, .map (some b1)), (5, .bool q0), (38, v0_3), (39, vI ((a0.fUnits.length : Nat) : Int)), (40, vI ((i0 : Nat) : Int))]) (fun ⟨q0, i0, D0⟩ wx0 => St w wx0 [.obj b1 (mapO (D0 : List (ByteArray × Bool))), .cells b5 [vI a0.fGroups, vI a0.fParties, vI a0.fLevels, v0_3] 25] ∧ Tr w0 [.obj b1 (mapO ([] : List (ByteArray × Bool))), .cells b5 [vI a0.fGroups, vI a0.fParties, vI a0.fLevels, v0_3] 25] wx0 [.obj b1 (mapO (D0 : List (ByteArray × Bool))), .cells b5 [vI a0.fGroups, vI a0.fParties, vI a0.fLevels, v0_3] 25]) (fun ⟨q0, i0, D0⟩ => (q0, i0, D0)) (false, 0, ([] : List (ByteArray × Bool))) ho202 ⟨rfl, rfl, rfl, rfl, rfl, rfl, trivial⟩ ⟨hS4, Tr.refl _ _⟩ ?_
 rintro J0 ⟨q0, i0, D0⟩ wx0 hJ206 ⟨hS5, hT3⟩ h
 unfold units_CheckRoll_l1 at h
 try dsimp only at h
 refine MX.sr <| RG.va (FV.lssN (i := i0) (j := a0.fUnits.length) rfl rfl) <| RG.nil <| MX.seq <| MX.ifd rfl h (fun c1 h => ?_) (fun c1 h => ?_)
 refine MX.skip <| MX.seq <| MX.block <| MX.sr <| RG.mo rfl ?_
 obtain ⟨x0, hx0, h⟩ := bind_in h
 have hm1 := Rep.mv0 h0_3 hS5
 obtain ⟨A209, c2, he0, hk0, cs1, hr0, hm2⟩ := Rep.nth hm1 hx0
 obtain ⟨v0, v1, v2, rfl, hr1, hr2, hr3⟩ := op_TUnit hr0
 refine RG.va (FV.ia 6 i0 rfl he0 rfl rfl hk0) <| RG.va (FV.lN rfl hm2) <| RG.new .plain rfl (Does.alloc (zs := [.string ⟨#[]⟩, vI 0, vN, vN, vN, .bool false]) hS5 (zB (by kernel_rfl))) (fun w1 b2 hS6 hT5 => ?_)
 refine RG.so rfl ?_
 have hm3 := Rep.mv hr1 hT5
 have hm4 := Rep.mv hr2 hT5
 have hm5 := Rep.mv hr3 hT5
 refine RG.now .plain (Acts.storeAll (news := [.string x0.fName, vI x0.fPeople, v0, v1, v2, .bool x0.fWater]) hS6 .hd rfl rfl rfl rfl rfl rfl (o6 rfl rfl (Rep.o1 hm3) (Rep.o1 hm4) (Rep.o1 hm5) rfl)) (fun w3 hS7 hT6 => ?_)
 refine RG.nil <| MX.seq <| MX.seq <| MX.drawT 24 tb69_9 (by kernel_rfl) (by kernel_rfl) (by kernel_rfl) (fun kt0 kp0 => ?_)
 refine RD.vx 0 1 16727044 kt0 rfl kp0 (FV.lN rfl (hS7.memA (.tl (.tl .hd)))) rfl <| RD.vx 1 3 16727044 kt0 rfl kp0 (FV.lN rfl (hS7.memA .hd)) rfl ?_
 obtain ⟨y1, hy1, h⟩ := bind_in h
 have hm6 := Rep.mv hr1 (Tr.trans hT5 hT6)
 have hm8 := Rep.mv hr2 (Tr.trans hT5 hT6)
 have hm9 := Rep.mv hr3 (Tr.trans hT5 hT6)
 refine RD.cq 2 7 16727040 (.bool y1) kt0 rfl kp0 body91 rfl (e2 rfl rfl) (fun w9 hw9 => units_right_c n _ w9 (hS7.hL0 hL hw9) a0 (hS7.k0 h0_3 hw9) x0 (hS7.kd hm6 hw9) (hS7.kd hm8 hw9) (hS7.kd hm9 hw9) hy1) rfl <| RD.vw 3 15 kt0 rfl kp0 (fun _ => FV.move rfl) rfl <| RD.vw 4 31 kt0 rfl kp0 (fun _ => FV.fa 0 rfl) rfl <| RD.vx 5 63 14680256 kt0 rfl kp0 (FV.l1 rfl ((hS7.memA .hd) 0 _ rfl)) rfl <| RD.vx 6 127 14680192 kt0 rfl kp0 (FV.lookup (kv := x0.fName) (z := false) hS7 (.tl .hd) Tryz.underlying138 Tryz.underlying9 rfl (by kernel_rfl) rfl rfl) rfl <| RD.vw 7 255 kt0 rfl kp0 (fun _ => FV.not rfl) rfl ?_
 refine RD.vw 8 511 kt0 rfl kp0 (fun _ => FV.fa 5 rfl) rfl <| RD.vx 9 1023 16727040 kt0 rfl kp0 (FV.l1 rfl ((hS7.memA .hd) 5 _ rfl)) rfl <| RD.vw 10 2047 kt0 rfl kp0 (fun _ => FV.move rfl) rfl <| RD.ifb (s := 55) rfl h (fun c3 h => ?_) (fun c3 h => ?_)
 refine RD.offs 8191 11 [(11, 56), (12, 57)] (F := [(55, true)]) (U := []) kt0 kp0 (.cons rfl .nil) .nil ?_
 dsimp only [offS, List.map]
 refine RD.vw 13 16383 kt0 rfl kp0 (fun _ => FV.pick_t rfl rfl) rfl <| RD.vw 14 32767 kt0 rfl kp0 (fun _ => FV.move rfl) rfl <| RD.vw 15 65535 kt0 rfl kp0 (fun _ => FV.gtrN (i := i0) (j := 0) rfl rfl) rfl <| RD.vw 16 131071 kt0 rfl kp0 (fun _ => FV.move rfl) rfl <| RD.ifd (s := 61) rfl h (fun c4 h => ?_) (fun c4 h => ?_)
 refine RD.offs 1048575 4 [(17, 62), (18, 63), (19, 64)] (F := [(61, true)]) (U := []) kt0 kp0 (.cons rfl .nil) .nil ?_
 dsimp only [offS, List.map]
 refine RD.vw 20 2097151 kt0 rfl kp0 (fun _ => FV.pick_t rfl rfl) rfl <| RD.nu 21 4194303 kt0 rfl .plain rfl (Does.build (α := Bool) (xs := ([y1, (!(mgetD D0 x0.fName false)), true, true] : List Bool)) (vs := [.bool y1, .bool (!(mgetD D0 x0.fName false)), .bool true, .bool true]) (ds' := [.bool y1, .bool (!(mgetD D0 x0.fName false)), .bool true, .bool true]) rfl hS7 el162 rfl (e4 rfl rfl rfl rfl) (by kernel_rfl) rfl) (fun w4 b3 hS8 hT7 => ?_)
 have hc1 := Cells.at_ (cs := [.bool y1, .bool (!(mgetD D0 x0.fName false)), .bool true, .bool true]) (xs := (([y1, (!(mgetD D0 x0.fName false)), true, true] : List Bool) : List Bool)) hS8 L (Cells.cons (cs := [.bool y1]) (ds := [.bool (!(mgetD D0 x0.fName false)), .bool true, .bool true]) rfl (Cells.cons (cs := [.bool (!(mgetD D0 x0.fName false))]) (ds := [.bool true, .bool true]) rfl (Cells.cons (cs := [.bool true]) (ds := [.bool true]) rfl (Cells.cons (cs := [.bool true]) (ds := []) rfl (Cells.nil _ _)))))
 obtain ⟨y2, hy2, h⟩ := bind_in h
 refine RD.cq 22 8388607 8388608 (.bool y2) kt0 rfl kp0 body90 rfl (e1 rfl) (fun w9 hw9 => units_every_c n _ w9 (hS8.hL0 hL hw9) ([y1, (!(mgetD D0 x0.fName false)), true, true] : List Bool) (Rep.keep0 (St.lend (α := Bool) (L := L) hS8 .hd hc1 hL) hw9) hy2) rfl <| RD.vw 23 16777215 kt0 rfl kp0 (fun _ => FV.not rfl) rfl <| RD.done (doneD_ok kt0 (by kernel_rfl)) <| MX.ifnb rfl h (fun c5 h => ?_) (fun c5 h => ?_)
 refine MX.skip <| MX.sr <| RG.mo rfl <| RG.fa 0 rfl <| RG.l1 rfl ((hS8.memA (.tl .hd)) 0 _ rfl) <| RG.now .plain (Acts.mapUpdate (kv := x0.fName) (vv := true) hS8 (.tl (.tl .hd)) Tryz.underlying138 Tryz.underlying9 rfl rfl rfl rfl) (fun w5 hS9 hT8 => ?_)
 refine RG.nil <| MX.region <| RG.fa 5 rfl <| RG.l1 rfl ((hS9.memA (.tl .hd)) 5 _ rfl) <| RG.so rfl <| RG.nil ?_
 refine MX.inBlock <| MX.region <| RG.va (FV.addN (i := i0) (j := 1) rfl rfl (by omega)) <| RG.mo rfl <| RG.nil ?_
 obtain ⟨hS11, hT9⟩ := St.arrB hS9 (.one (.tl (.tl .hd)) (.one (.tl (.tl .hd)) .done))
 have hq255 := Tr.trans hT5 (Tr.trans hT6 (Tr.trans hT7 (Tr.trans hT8 hT9)))
 exact hJ206 (x0.fWater, i0 + 1, mset D0 x0.fName true) _ _ ⟨rfl, rfl, rfl, rfl, rfl, rfl, trivial⟩ ⟨hS11, (Tr.trans hT3 hq255)⟩ h
 refine MX.sr <| RG.so rfl <| RG.nil ?_
 have h := thn_inl h hh204
 refine MX.ret rfl <| RT.t1 hb0 Tryz.func69 rfl rfl ?_
 cases h
 exact hS8.gv
 refine RD.vP 17 262143 kt0 rfl kp0 (.yes rfl rfl) (fun _ => FV.fa 5 rfl) rfl <| RD.val (i := 18) (m' := 524287) (W := 16252928) (takeC_ok kt0 (by kernel_rfl)) rfl kp0 (.yes rfl rfl) (FV.l1 rfl ((hS7.memA .hd) 5 _ rfl)) rfl <| RD.vP 19 1048575 kt0 rfl kp0 (.yes rfl rfl) (fun _ => FV.not rfl) rfl <| RD.vw 20 2097151 kt0 rfl kp0 (fun _ => FV.pick_f rfl rfl) rfl <| RD.nu 21 4194303 kt0 rfl .plain rfl (Does.build (α := Bool) (xs := ([y1, (!(mgetD D0 x0.fName false)), true, (!x0.fWater)] : List Bool)) (vs := [.bool y1, .bool (!(mgetD D0 x0.fName false)), .bool true, .bool (!x0.fWater)]) (ds' := [.bool y1, .bool (!(mgetD D0 x0.fName false)), .bool true, .bool (!x0.fWater)]) rfl hS7 el162 rfl (e4 rfl rfl rfl rfl) (by kernel_rfl) rfl) (fun w6 b4 hS12 hT10 => ?_)
 have hc2 := Cells.at_ (cs := [.bool y1, .bool (!(mgetD D0 x0.fName false)), .bool true, .bool (!x0.fWater)]) (xs := (([y1, (!(mgetD D0 x0.fName false)), true, (!x0.fWater)] : List Bool) : List Bool)) hS12 L (Cells.cons (cs := [.bool y1]) (ds := [.bool (!(mgetD D0 x0.fName false)), .bool true, .bool (!x0.fWater)]) rfl (Cells.cons (cs := [.bool (!(mgetD D0 x0.fName false))]) (ds := [.bool true, .bool (!x0.fWater)]) rfl (Cells.cons (cs := [.bool true]) (ds := [.bool (!x0.fWater)]) rfl (Cells.cons (cs := [.bool (!x0.fWater)]) (ds := []) rfl (Cells.nil _ _)))))
 obtain ⟨y3, hy3, h⟩ := bind_in h
 refine RD.cq 22 8388607 8388608 (.bool y3) kt0 rfl kp0 body90 rfl (e1 rfl) (fun w9 hw9 => units_every_c n _ w9 (hS12.hL0 hL hw9) ([y1, (!(mgetD D0 x0.fName false)), true, (!x0.fWater)] : List Bool) (Rep.keep0 (St.lend (α := Bool) (L := L) hS12 .hd hc2 hL) hw9) hy3) rfl <| RD.vw 23 16777215 kt0 rfl kp0 (fun _ => FV.not rfl) rfl <| RD.done (doneD_ok kt0 (by kernel_rfl)) <| MX.ifnb rfl h (fun c6 h => ?_) (fun c6 h => ?_)
 refine MX.skip <| MX.sr <| RG.mo rfl <| RG.fa 0 rfl <| RG.l1 rfl ((hS12.memA (.tl .hd)) 0 _ rfl) <| RG.now .plain (Acts.mapUpdate (kv := x0.fName) (vv := true) hS12 (.tl (.tl .hd)) Tryz.underlying138 Tryz.underlying9 rfl rfl rfl rfl) (fun w7 hS13 hT12 => ?_)
 refine RG.nil <| MX.region <| RG.fa 5 rfl <| RG.l1 rfl ((hS13.memA (.tl .hd)) 5 _ rfl) <| RG.so rfl <| RG.nil ?_
 refine MX.inBlock <| MX.region <| RG.va (FV.addN (i := i0) (j := 1) rfl rfl (by omega)) <| RG.mo rfl <| RG.nil ?_
 obtain ⟨hS14, hT13⟩ := St.arrB hS13 (.one (.tl (.tl .hd)) (.one (.tl (.tl .hd)) .done))
 have hq269 := Tr.trans hT5 (Tr.trans hT6 (Tr.trans hT10 (Tr.trans hT12 hT13)))
 exact hJ206 (x0.fWater, i0 + 1, mset D0 x0.fName true) _ _ ⟨rfl, rfl, rfl, rfl, rfl, rfl, trivial⟩ ⟨hS14, (Tr.trans hT3 hq269)⟩ h
 refine MX.sr <| RG.so rfl <| RG.nil ?_
 have h := thn_inl h hh204
 refine MX.ret rfl <| RT.t1 hb0 Tryz.func69 rfl rfl ?_
 cases h
 exact hS12.gv
 refine RD.vP 11 4095 kt0 rfl kp0 (.yes rfl rfl) (fun _ => FV.move rfl) rfl <| RD.vP 12 8191 kt0 rfl kp0 (.yes rfl rfl) (fun _ => FV.not rfl) rfl <| RD.vw 13 16383 kt0 rfl kp0 (fun _ => FV.pick_f rfl rfl) rfl <| RD.vw 14 32767 kt0 rfl kp0 (fun _ => FV.move rfl) rfl <| RD.vw 15 65535 kt0 rfl kp0 (fun _ => FV.gtrN (i := i0) (j := 0) rfl rfl) rfl <| RD.vw 16 131071 kt0 rfl kp0 (fun _ => FV.move rfl) rfl ?_
 refine RD.ifd (s := 61) rfl h (fun c7 h => ?_) (fun c7 h => ?_)
 refine RD.offs 1048575 4 [(17, 62), (18, 63), (19, 64)] (F := [(61, true)]) (U := []) kt0 kp0 (.cons rfl .nil) .nil ?_
 dsimp only [offS, List.map]
 refine RD.vw 20 2097151 kt0 rfl kp0 (fun _ => FV.pick_t rfl rfl) rfl <| RD.nu 21 4194303 kt0 rfl .plain rfl (Does.build (α := Bool) (xs := ([y1, (!(mgetD D0 x0.fName false)), (!q0), true] : List Bool)) (vs := [.bool y1, .bool (!(mgetD D0 x0.fName false)), .bool (!q0), .bool true]) (ds' := [.bool y1, .bool (!(mgetD D0 x0.fName false)), .bool (!q0), .bool true]) rfl hS7 el162 rfl (e4 rfl rfl rfl rfl) (by kernel_rfl) rfl) (fun w8 b6 hS15 hT14 => ?_)
 have hc3 := Cells.at_ (cs := [.bool y1, .bool (!(mgetD D0 x0.fName false)), .bool (!q0), .bool true]) (xs := (([y1, (!(mgetD D0 x0.fName false)), (!q0), true] : List Bool) : List Bool)) hS15 L (Cells.cons (cs := [.bool y1]) (ds := [.bool (!(mgetD D0 x0.fName false)), .bool (!q0), .bool true]) rfl (Cells.cons (cs := [.bool (!(mgetD D0 x0.fName false))]) (ds := [.bool (!q0), .bool true]) rfl (Cells.cons (cs := [.bool (!q0)]) (ds := [.bool true]) rfl (Cells.cons (cs := [.bool true]) (ds := []) rfl (Cells.nil _ _)))))
 obtain ⟨y4, hy4, h⟩ := bind_in h
 refine RD.cq 22 8388607 8388608 (.bool y4) kt0 rfl kp0 body90 rfl (e1 rfl) (fun w9 hw9 => units_every_c n _ w9 (hS15.hL0 hL hw9) ([y1, (!(mgetD D0 x0.fName false)), (!q0), true] : List Bool) (Rep.keep0 (St.lend (α := Bool) (L := L) hS15 .hd hc3 hL) hw9) hy4) rfl <| RD.vw 23 16777215 kt0 rfl kp0 (fun _ => FV.not rfl) rfl <| RD.done (doneD_ok kt0 (by kernel_rfl)) <| MX.ifnb rfl h (fun c8 h => ?_) (fun c8 h => ?_)
 refine MX.skip <| MX.sr <| RG.mo rfl <| RG.fa 0 rfl <| RG.l1 rfl ((hS15.memA (.tl .hd)) 0 _ rfl) <| RG.now .plain (Acts.mapUpdate (kv := x0.fName) (vv := true) hS15 (.tl (.tl .hd)) Tryz.underlying138 Tryz.underlying9 rfl rfl rfl rfl) (fun w10 hS16 hT15 => ?_)
 refine RG.nil <| MX.region <| RG.fa 5 rfl <| RG.l1 rfl ((hS16.memA (.tl .hd)) 5 _ rfl) <| RG.so rfl <| RG.nil ?_
 refine MX.inBlock <| MX.region <| RG.va (FV.addN (i := i0) (j := 1) rfl rfl (by omega)) <| RG.mo rfl <| RG.nil ?_
 obtain ⟨hS17, hT16⟩ := St.arrB hS16 (.one (.tl (.tl .hd)) (.one (.tl (.tl .hd)) .done))
 have hq284 := Tr.trans hT5 (Tr.trans hT6 (Tr.trans hT14 (Tr.trans hT15 hT16)))
 exact hJ206 (x0.fWater, i0 + 1, mset D0 x0.fName true) _ _ ⟨rfl, rfl, rfl, rfl, rfl, rfl, trivial⟩ ⟨hS17, (Tr.trans hT3 hq284)⟩ h
 refine MX.sr <| RG.so rfl <| RG.nil ?_
 have h := thn_inl h hh204
 refine MX.ret rfl <| RT.t1 hb0 Tryz.func69 rfl rfl ?_
 cases h
 exact hS15.gv
 refine RD.vP 17 262143 kt0 rfl kp0 (.yes rfl rfl) (fun _ => FV.fa 5 rfl) rfl <| RD.val (i := 18) (m' := 524287) (W := 16252928) (takeC_ok kt0 (by kernel_rfl)) rfl kp0 (.yes rfl rfl) (FV.l1 rfl ((hS7.memA .hd) 5 _ rfl)) rfl <| RD.vP 19 1048575 kt0 rfl kp0 (.yes rfl rfl) (fun _ => FV.not rfl) rfl <| RD.vw 20 2097151 kt0 rfl kp0 (fun _ => FV.pick_f rfl rfl) rfl <| RD.nu 21 4194303 kt0 rfl .plain rfl (Does.build (α := Bool) (xs := ([y1, (!(mgetD D0 x0.fName false)), (!q0), (!x0.fWater)] : List Bool)) (vs := [.bool y1, .bool (!(mgetD D0 x0.fName false)), .bool (!q0), .bool (!x0.fWater)]) (ds' := [.bool y1, .bool (!(mgetD D0 x0.fName false)), .bool (!q0), .bool (!x0.fWater)]) rfl hS7 el162 rfl (e4 rfl rfl rfl rfl) (by kernel_rfl) rfl) (fun w11 b7 hS19 hT17 => ?_)
 have hc4 := Cells.at_ (cs := [.bool y1, .bool (!(mgetD D0 x0.fName false)), .bool (!q0), .bool (!x0.fWater)]) (xs := (([y1, (!(mgetD D0 x0.fName false)), (!q0), (!x0.fWater)] : List Bool) : List Bool)) hS19 L (Cells.cons (cs := [.bool y1]) (ds := [.bool (!(mgetD D0 x0.fName false)), .bool (!q0), .bool (!x0.fWater)]) rfl (Cells.cons (cs := [.bool (!(mgetD D0 x0.fName false))]) (ds := [.bool (!q0), .bool (!x0.fWater)]) rfl (Cells.cons (cs := [.bool (!q0)]) (ds := [.bool (!x0.fWater)]) rfl (Cells.cons (cs := [.bool (!x0.fWater)]) (ds := []) rfl (Cells.nil _ _)))))
 obtain ⟨y5, hy5, h⟩ := bind_in h
 refine RD.cq 22 8388607 8388608 (.bool y5) kt0 rfl kp0 body90 rfl (e1 rfl) (fun w9 hw9 => units_every_c n _ w9 (hS19.hL0 hL hw9) ([y1, (!(mgetD D0 x0.fName false)), (!q0), (!x0.fWater)] : List Bool) (Rep.keep0 (St.lend (α := Bool) (L := L) hS19 .hd hc4 hL) hw9) hy5) rfl <| RD.vw 23 16777215 kt0 rfl kp0 (fun _ => FV.not rfl) rfl <| RD.done (doneD_ok kt0 (by kernel_rfl)) <| MX.ifnb rfl h (fun c9 h => ?_) (fun c9 h => ?_)
 refine MX.skip <| MX.sr <| RG.mo rfl <| RG.fa 0 rfl <| RG.l1 rfl ((hS19.memA (.tl .hd)) 0 _ rfl) <| RG.now .plain (Acts.mapUpdate (kv := x0.fName) (vv := true) hS19 (.tl (.tl .hd)) Tryz.underlying138 Tryz.underlying9 rfl rfl rfl rfl) (fun w12 hS20 hT18 => ?_)
 refine RG.nil <| MX.region <| RG.fa 5 rfl <| RG.l1 rfl ((hS20.memA (.tl .hd)) 5 _ rfl) <| RG.so rfl <| RG.nil ?_
 refine MX.inBlock <| MX.region <| RG.va (FV.addN (i := i0) (j := 1) rfl rfl (by omega)) <| RG.mo rfl <| RG.nil ?_
 obtain ⟨hS21, hT20⟩ := St.arrB hS20 (.one (.tl (.tl .hd)) (.one (.tl (.tl .hd)) .done))
 have hq298 := Tr.trans hT5 (Tr.trans hT6 (Tr.trans hT17 (Tr.trans hT18 hT20)))
 exact hJ206 (x0.fWater, i0 + 1, mset D0 x0.fName true) _ _ ⟨rfl, rfl, rfl, rfl, rfl, rfl, trivial⟩ ⟨hS21, (Tr.trans hT3 hq298)⟩ h
 refine MX.sr <| RG.so rfl <| RG.nil ?_
 have h := thn_inl h hh204
 refine MX.ret rfl <| RT.t1 hb0 Tryz.func69 rfl rfl ?_
 cases h
 exact hS19.gv
 refine MX.exit rfl ?_
 have h := thn_inr h hh204
 try dsimp only at h
 refine MX.sr <| RG.so rfl <| RG.nil <| MX.ret rfl <| RT.t1 hb0 Tryz.func69 rfl rfl ?_
 cases h
 exact hS5.gv
 refine MX.sr <| RG.so rfl <| RG.nil <| MX.ret rfl <| RT.t1 hb0 Tryz.func69 rfl rfl ?_
 cases h
 exact hS1.gv
def balance_need_p (_n : Nat) (a0 : Int) : Option (Except Tbroken Unit) :=
  (if a0 = 0 then some (.ok ()) else some (.error (⟨a0⟩ : Tbroken)))
theorem balance_need_c (n : Nat) (L : List Nat) (w : World) (_hL : ∀ b ∈ L, b < w.heap.size) (a0 : Int)  {r : Except Tbroken Unit} (h : balance_need_p n a0 = some r) :
    Calls Tryz.prog 96 #[vI a0] w (PGives w (fun (y : Unit) _ u => u = .tuple #[]) (fun e => .iface 142 (.agg #[vI e.fErrno])) r) := by
 unfold balance_need_p at h
 have hS0 := St.start w
 refine MX.startP Tryz.func96 rfl rfl rfl (fun _ cs0 hb0 hp0 => ?_)
 refine MX.sr <| RG.mo rfl <| RG.va (FV.neq (i := a0) (j := 0) rfl rfl) <| RG.nil <| MX.ifn rfl h (fun c1 h => ?_) (fun c1 h => ?_)
 refine MX.skip <| MX.fin rfl <| RT.leave hb0 Tryz.func96 rfl .nil rfl ?_
 cases h
 exact ⟨hS0.ag, fun w9 hw9 => okOf_in rfl⟩
 refine MX.region <| RG.mo rfl <| RG.va (FV.buildV (vs := [vI a0]) (u := .agg #[vI a0]) (e1 rfl) (fun w9 => by kernel_rfl)) <| RG.va (FV.makeInterface (by kernel_rfl) rfl) <| RG.panic .plain rfl ?_
 cases h
 exact PN.leave hp0 Tryz.func96 ⟨hS0.ag, rfl⟩
theorem body96 : bodyB Tryz.prog 96 = true := by kernel_rfl
def balance_fail_p (n : Nat) (a0 : Bool) (a1 : Int) : Option (Except Tbroken Unit) :=
  (if a0 = true then (balance_need_p n a1).bind fun y2 => exc y2 (fun y4 => some (.ok ())) (fun e3 => some (.error e3)) else some (.ok ()))
theorem balance_fail_c (n : Nat) (L : List Nat) (w : World) (hL : ∀ b ∈ L, b < w.heap.size) (a0 : Bool) (a1 : Int)  {r : Except Tbroken Unit} (h : balance_fail_p n a0 a1 = some r) :
    Calls Tryz.prog 97 #[.bool a0, vI a1] w (PGives w (fun (y : Unit) _ u => u = .tuple #[]) (fun e => .iface 142 (.agg #[vI e.fErrno])) r) := by
 unfold balance_fail_p at h
 have hS0 := St.start w
 refine MX.startP Tryz.func97 rfl rfl rfl (fun _ cs0 hb0 hp0 => ?_)
 refine MX.sr <| RG.mo rfl <| RG.nil <| MX.ifb rfl h (fun c1 h => ?_) (fun c1 h => ?_)
 refine MX.region <| RG.mo rfl ?_
 obtain ⟨y2, hy2, h⟩ := bind_in h
 rcases y2 with e3 | y4
 have h := exc_e h
 try dsimp only at h
 refine RG.callE (fst := []) (cap := []) .plain body96 rfl (e1 rfl) (fun w9 hw9 => balance_need_c n _ w9 (hS0.hL0 hL hw9) a1 hy2) (fun w5 hag6 => ?_)
 obtain ⟨hS7, hT8⟩ := hS0.agr hag6
 cases h
 exact PN.leave hp0 Tryz.func97 ⟨hS7.ag, rfl⟩
 have h := exc_o h
 try dsimp only at h
 refine RG.cq (.tuple #[]) body96 rfl (e1 rfl) (fun w9 hw9 => Calls.okp (balance_need_c n _ w9 (hS0.hL0 hL hw9) a1 hy2)) rfl <| RG.nil <| MX.fin rfl <| RT.leave hb0 Tryz.func97 rfl .nil rfl ?_
 cases h
 exact ⟨hS0.ag, fun w9 hw9 => okOf_in rfl⟩
 refine MX.skip <| MX.fin rfl <| RT.leave hb0 Tryz.func97 rfl .nil rfl ?_
 cases h
 exact ⟨hS0.ag, fun w9 hw9 => okOf_in rfl⟩
structure Tcount where
  fRoll : TRoll
  fk : Int
  deriving DecidableEq
instance : Rep Tcount := Rep.via (β := TRoll × Int) fun x => (x.fRoll, x.fk)
theorem body69 : bodyB Tryz.prog 69 = true := by kernel_rfl
theorem body97 : bodyB Tryz.prog 97 = true := by kernel_rfl
def balance_counted_p (n : Nat) (a0 : TRoll) (a1 : Int) : Option (Except Tbroken Tcount) :=
  (units_CheckRoll_p n a0).bind fun y0 => (balance_need_p n y0).bind fun y1 => exc y1 (fun y2 => (if a1 < 1 then (balance_fail_p n true (2 : Int)).bind fun y3 => exc y3 (fun y4 => some (.ok (⟨a0, a1⟩ : Tcount))) (fun e0 => some (.error e0)) else (balance_fail_p n (decide (8 < a1)) (2 : Int)).bind fun y5 => exc y5 (fun y6 => some (.ok (⟨a0, a1⟩ : Tcount))) (fun e1 => some (.error e1)))) (fun e2 => some (.error e2))
theorem balance_counted_c (n : Nat) (L : List Nat) (w : World) (hL : ∀ b ∈ L, b < w.heap.size) (a0 : TRoll) {v0_3 : Value} (h0_3 : Rep.R w L [v0_3] a0.fUnits) (a1 : Int)  {r : Except Tbroken Tcount} (h : balance_counted_p n a0 a1 = some r) :
    Calls Tryz.prog 77 #[.agg #[vI a0.fGroups, vI a0.fParties, vI a0.fLevels, v0_3], vI a1] w (PGives w (fun (y : Tcount) w' u => ∃ v0_3 : Value, u = .agg #[vI y.fRoll.fGroups, vI y.fRoll.fParties, vI y.fRoll.fLevels, v0_3, vI y.fk] ∧ Rep.R w' L [v0_3] y.fRoll.fUnits) (fun e => .iface 142 (.agg #[vI e.fErrno])) r) := by
 unfold balance_counted_p at h
 have hS0 := St.start w
 refine MX.startP Tryz.func77 rfl rfl rfl (fun _ cs0 hb0 hp0 => ?_)
 refine MX.sr <| RG.new .plain rfl (Does.box (vs := [vI a0.fGroups, vI a0.fParties, vI a0.fLevels, v0_3]) hS0 rfl rfl) (fun w2 b5 hS3 hT4 => ?_)
 refine RG.new .plain rfl (Does.alloc (zs := [vI 0, vI 0, vI 0, vN, vI 0]) hS3 (zB (by kernel_rfl))) (fun w7 b0 hS8 hT9 => ?_)
 refine RG.nil <| MX.sr <| RG.va (FV.lN rfl (hS8.memA (.tl .hd))) ?_
 obtain ⟨y0, hy0, h⟩ := bind_in h
 refine RG.cq (vI y0) body69 rfl (e1 rfl) (fun w9 hw9 => units_CheckRoll_c n _ w9 (hS8.hL0 hL hw9) a0 (hS8.k0 h0_3 hw9) hy0) rfl ?_
 obtain ⟨y1, hy1, h⟩ := bind_in h
 rcases y1 with e0 | y2
 have h := exc_e h
 try dsimp only at h
 refine RG.callE (fst := []) (cap := []) .plain body96 rfl (e1 rfl) (fun w9 hw9 => balance_need_c n _ w9 (hS8.hL0 hL hw9) y0 hy1) (fun w0 hag0 => ?_)
 obtain ⟨hS1, hT0⟩ := hS8.agr hag0
 cases h
 exact PN.leave hp0 Tryz.func77 ⟨hS1.ag, rfl⟩
 have h := exc_o h
 try dsimp only at h
 refine RG.cq (.tuple #[]) body96 rfl (e1 rfl) (fun w9 hw9 => Calls.okp (balance_need_c n _ w9 (hS8.hL0 hL hw9) y0 hy1)) rfl <| RG.nil <| MX.sr <| RG.mo rfl <| RG.va (FV.lss (i := a1) (j := 1) rfl rfl) <| RG.mo rfl ?_
 refine RG.ifd (s := 10) rfl h (fun c0 h => ?_) (fun c0 h => ?_)
 refine RG.no <| RG.no <| RG.pt rfl rfl ?_
 obtain ⟨y3, hy2, h⟩ := bind_in h
 rcases y3 with e3 | y4
 have h := exc_e h
 try dsimp only at h
 refine RG.callE (fst := []) (cap := []) .plain body97 rfl (e2 rfl rfl) (fun w9 hw9 => balance_fail_c n _ w9 (hS8.hL0 hL hw9) true (2 : Int) hy2) (fun w1 hag1 => ?_)
 obtain ⟨hS2, hT1⟩ := hS8.agr hag1
 cases h
 exact PN.leave hp0 Tryz.func77 ⟨hS2.ag, rfl⟩
 have h := exc_o h
 try dsimp only at h
 refine RG.cq (.tuple #[]) body97 rfl (e2 rfl rfl) (fun w9 hw9 => Calls.okp (balance_fail_c n _ w9 (hS8.hL0 hL hw9) true (2 : Int) hy2)) rfl <| RG.nil <| MX.sr <| RG.va (FV.lN rfl (hS8.memA (.tl .hd))) <| RG.mo rfl ?_
 have hm0 := Rep.mv0 h0_3 hS8
 obtain ⟨A29, c1, hv31, _⟩ := Rep.sl hm0
 refine RG.va (FV.buildV (vs := [.agg #[vI a0.fGroups, vI a0.fParties, vI a0.fLevels, v0_3], vI a1]) (u := .agg #[vI a0.fGroups, vI a0.fParties, vI a0.fLevels, v0_3, vI a1]) (e2 rfl rfl) (fun w9 => by rw [hv31]; try kernel_rfl)) <| RG.now .plain (Acts.storeAll (news := [vI a0.fGroups, vI a0.fParties, vI a0.fLevels, v0_3, vI a1]) hS8 .hd rfl rfl rfl rfl rfl rfl (o5 rfl rfl rfl (Rep.o1 hm0) rfl)) (fun w3 hS4 hT2 => ?_)
 refine RG.nil <| MX.ret rfl <| RT.leave hb0 Tryz.func77 rfl (.cons (.many (cs := [vI a0.fGroups, vI a0.fParties, vI a0.fLevels, v0_3, vI a1]) (by kernel_rfl) rfl (hS4.memA .hd)) .nil) rfl ?_
 cases h
 exact ⟨hS4.ag, fun w9 hw9 => okOf_in ⟨v0_3, rfl, hS4.k0 h0_3 hw9⟩⟩
 refine RG.ga (FV.move rfl) <| RG.ga (FV.gtr (i := a1) (j := 8) rfl rfl) <| RG.pf rfl rfl ?_
 obtain ⟨y5, hy3, h⟩ := bind_in h
 rcases y5 with e4 | y6
 have h := exc_e h
 try dsimp only at h
 refine RG.callE (fst := []) (cap := []) .plain body97 rfl (e2 rfl rfl) (fun w9 hw9 => balance_fail_c n _ w9 (hS8.hL0 hL hw9) (decide (8 < a1)) (2 : Int) hy3) (fun w4 hag2 => ?_)
 obtain ⟨hS5, hT3⟩ := hS8.agr hag2
 cases h
 exact PN.leave hp0 Tryz.func77 ⟨hS5.ag, rfl⟩
 have h := exc_o h
 try dsimp only at h
 refine RG.cq (.tuple #[]) body97 rfl (e2 rfl rfl) (fun w9 hw9 => Calls.okp (balance_fail_c n _ w9 (hS8.hL0 hL hw9) (decide (8 < a1)) (2 : Int) hy3)) rfl <| RG.nil <| MX.sr <| RG.va (FV.lN rfl (hS8.memA (.tl .hd))) <| RG.mo rfl ?_
 have hm1 := Rep.mv0 h0_3 hS8
 obtain ⟨A44, c2, hv46, _⟩ := Rep.sl hm1
 refine RG.va (FV.buildV (vs := [.agg #[vI a0.fGroups, vI a0.fParties, vI a0.fLevels, v0_3], vI a1]) (u := .agg #[vI a0.fGroups, vI a0.fParties, vI a0.fLevels, v0_3, vI a1]) (e2 rfl rfl) (fun w9 => by rw [hv46]; try kernel_rfl)) <| RG.now .plain (Acts.storeAll (news := [vI a0.fGroups, vI a0.fParties, vI a0.fLevels, v0_3, vI a1]) hS8 .hd rfl rfl rfl rfl rfl rfl (o5 rfl rfl rfl (Rep.o1 hm1) rfl)) (fun w5 hS6 hT5 => ?_)
 refine RG.nil <| MX.ret rfl <| RT.leave hb0 Tryz.func77 rfl (.cons (.many (cs := [vI a0.fGroups, vI a0.fParties, vI a0.fLevels, v0_3, vI a1]) (by kernel_rfl) rfl (hS6.memA .hd)) .nil) rfl ?_
 cases h
 exact ⟨hS6.ag, fun w9 hw9 => okOf_in ⟨v0_3, rfl, hS6.k0 h0_3 hw9⟩⟩
theorem balance_count_land_c (n : Nat) (L : List Nat) (w : World) (_hL : ∀ b ∈ L, b < w.heap.size) (a0 : Tcount) {v0_3 : Value} (h0_3 : Rep.R w L [v0_3] a0.fRoll.fUnits)  :
    Calls Tryz.prog 99 #[.agg #[vI a0.fRoll.fGroups, vI a0.fRoll.fParties, vI a0.fRoll.fLevels, v0_3, vI a0.fk]] w (Gives w fun w' u => ∃ b5 : Nat, u = .func (.func 117) #[] #[vP b5] ∧ St w w' [.cells b5 [vI a0.fRoll.fGroups, vI a0.fRoll.fParties, vI a0.fRoll.fLevels, v0_3, vI a0.fk] 128]) := by
 have hS0 := St.start w
 refine MX.start Tryz.func99 rfl rfl rfl (fun _ cs0 hb0 => ?_)
 refine MX.sr <| RG.new .plain rfl (Does.box (vs := [vI a0.fRoll.fGroups, vI a0.fRoll.fParties, vI a0.fRoll.fLevels, v0_3, vI a0.fk]) hS0 rfl rfl) (fun w2 b5 hS3 hT4 => ?_)
 refine RG.so rfl <| RG.nil <| MX.sr <| RG.va (FV.makeFunc (vs := []) (us := [vP b5]) evs_nil (e1 rfl)) <| RG.so rfl <| RG.nil ?_
 refine MX.ret rfl <| RT.leave (u := .func (.func 117) #[] #[vP b5]) hb0 Tryz.func99 rfl (.cons (.tmp rfl) .nil) rfl ?_
 exact ⟨hS3.ag, fun w9 hw9 => ⟨b5, rfl, hS3.agree hw9⟩⟩
end Go.Proofs.YtmpoojncffgjoaaGreatDoor
