/- Whatever the call is given, SplitLevels of the package wardmotelaw23 returns true and leaves its arguments as they were. The conditions: the listed variables of unicode/utf8 hold what the text of the library lays them with (the card ties that), and each string and slice takes at most 2^47 - 4096 bytes, as the row has it. -/
import Derived.Test.YtfncplndfpgngaaGreatDoorTHQj
import Derived.Test.YtfncplndfpgngaaGreatDoorTCd
import Derived.Test.YtfncplndfpgngaaGreatDoorTCd
import Derived.Test.YtfncplndfpgngaaGreatDoorCards
import Derived.Test.YtfncplndfpgngaaGreatDoorTie
import Derived.SevenTiedAt
namespace Go.Proofs.YtfncplndfpgngaaGreatDoor
open Go Go.RowKit Go.WideElems Go.ChangeShapes Go.WideShapes Go.ChangeAt

theorem o22 : Opens Tryz.prog 22 (List UInt8) := Opens.slice Tryz.underlying22 (by kernel_rfl) (by kernel_rfl) (Opens.u8 Tryz.underlying5)
theorem o27 : Opens Tryz.prog 27 TDraft26 := Opens.via (fun x : TDraft26 => (x.fe, x.fc, x.fh, x.fo, x.fF)) (fun y => ⟨y.1, y.2.1, y.2.2.1, y.2.2.2.1, y.2.2.2.2⟩) (fun _ => rfl) (Opens.struct (ts := [5, 5, 5, 5, 22]) Tryz.underlying27 (by kernel_rfl) (by kernel_rfl) (by kernel_rfl) (OpensAll.cons (Opens.u8 Tryz.underlying5) (OpensAll.cons (Opens.u8 Tryz.underlying5) (OpensAll.cons (Opens.u8 Tryz.underlying5) (OpensAll.cons (Opens.u8 Tryz.underlying5) (OpensAll.one o22))))))
theorem o30 : Opens Tryz.prog 30 TBend := Opens.via (fun x : TBend => (x.fB, x.fAt, x.fN)) (fun y => ⟨y.1, y.2.1, y.2.2⟩) (fun _ => rfl) (Opens.struct (ts := [5, 5, 3]) Tryz.underlying30 (by kernel_rfl) (by kernel_rfl) (by kernel_rfl) (OpensAll.cons (Opens.u8 Tryz.underlying5) (OpensAll.cons (Opens.u8 Tryz.underlying5) (OpensAll.one (Opens.i64 Tryz.underlying3)))))
theorem op_TDraft26 {w : World} {L : List Nat} {cs : List Value} {x : TDraft26} (h : Rep.R w L cs x) : ∃ v4 : Value, cs = [.int .u8 (x.fe.toNat : Int), .int .u8 (x.fc.toNat : Int), .int .u8 (x.fh.toNat : Int), .int .u8 (x.fo.toNat : Int), v4] ∧ Rep.R w L [v4] x.fF := by
  obtain ⟨c0, r0, rfl, h0, h⟩ := h
  have e0 : c0 = [.int .u8 (x.fe.toNat : Int)] := h0; subst e0
  obtain ⟨c1, r1, rfl, h1, h⟩ := h
  have e1 : c1 = [.int .u8 (x.fc.toNat : Int)] := h1; subst e1
  obtain ⟨c2, r2, rfl, h2, h⟩ := h
  have e2 : c2 = [.int .u8 (x.fh.toNat : Int)] := h2; subst e2
  obtain ⟨c3, r3, rfl, h3, h⟩ := h
  have e3 : c3 = [.int .u8 (x.fo.toNat : Int)] := h3; subst e3
  obtain ⟨v4, rfl, kv4⟩ := lst_one (xs := x.fF) h
  exact ⟨v4, rfl, kv4⟩
theorem mk_TDraft26 {w : World} {L : List Nat} (a0 : UInt8) (a1 : UInt8) (a2 : UInt8) (a3 : UInt8) (a4 : List UInt8) {u4 : Value} (h4 : Rep.R w L [u4] a4) : Rep.R w L [.int .u8 (a0.toNat : Int), .int .u8 (a1.toNat : Int), .int .u8 (a2.toNat : Int), .int .u8 (a3.toNat : Int), u4] (⟨a0, a1, a2, a3, a4⟩ : TDraft26) := ⟨[.int .u8 (a0.toNat : Int)], [.int .u8 (a1.toNat : Int), .int .u8 (a2.toNat : Int), .int .u8 (a3.toNat : Int), u4], rfl, rfl, ⟨[.int .u8 (a1.toNat : Int)], [.int .u8 (a2.toNat : Int), .int .u8 (a3.toNat : Int), u4], rfl, rfl, ⟨[.int .u8 (a2.toNat : Int)], [.int .u8 (a3.toNat : Int), u4], rfl, rfl, ⟨[.int .u8 (a3.toNat : Int)], [u4], rfl, rfl, h4⟩⟩⟩⟩
theorem op_TBend {w : World} {L : List Nat} {cs : List Value} {x : TBend} (h : Rep.R w L cs x) : cs = [.int .u8 (x.fB.toNat : Int), .int .u8 (x.fAt.toNat : Int), .int .i64 x.fN] := by
  obtain ⟨c0, r0, rfl, h0, h⟩ := h
  have e0 : c0 = [.int .u8 (x.fB.toNat : Int)] := h0; subst e0
  obtain ⟨c1, r1, rfl, h1, h⟩ := h
  have e1 : c1 = [.int .u8 (x.fAt.toNat : Int)] := h1; subst e1
  have e2 : r1 = [.int .i64 x.fN] := h; subst e2
  rfl
theorem mk_TBend {w : World} {L : List Nat} (a0 : UInt8) (a1 : UInt8) (a2 : Int) : Rep.R w L [.int .u8 (a0.toNat : Int), .int .u8 (a1.toNat : Int), .int .i64 a2] (⟨a0, a1, a2⟩ : TBend) := ⟨[.int .u8 (a0.toNat : Int)], [.int .u8 (a1.toNat : Int), .int .i64 a2], rfl, rfl, ⟨[.int .u8 (a1.toNat : Int)], [.int .i64 a2], rfl, rfl, rfl⟩⟩
theorem own : ownKnob Tryz.prog.godebug = none := by kernel_rfl
theorem contract (H : Type) (enc : TypeId × Value → H) (W : World) (base : Nat) (args : Array Value) (ds gs : List (DataW H)) (before : List MemPlace)
    (hval : ∀ (j : Nat) t v, Tryz.f6.params[j]? = some t → args[j]? = some v → Value.okWide Tryz.prog W .any base t v)
    (hW : DataW.Whole enc Tryz.prog Tryz.f6.params.toList Rows.splitLevelsSpec.vars false W args.toList ds gs before) (hw : (DataW.weightsEach Tryz.prog (Tryz.f6.params.toList ++ (OpenSpec.ofChange Rows.splitLevelsSpec).bare.plain.varTypes Tryz.prog) (ds ++ gs)).all (· ≤ reachBytes) = true) (_hL : laidMetH Tryz.prog Rows.splitLevelsRow.laid W) :
    Calls Tryz.prog 6 args W fun e W' => ∃ v, e = .returned v ∧ Rows.splitLevelsSpec.post enc Tryz.prog Tryz.f6 false true false false W args v W' := by
  have hW' := hW
  obtain ⟨p, q, hA0, hV, rfl, hfz, hnd⟩ := hW
  obtain ⟨rfl, rfl⟩ := trodVars_none hV
  have hA : DataW.TrodAll enc Tryz.prog W 0 (fun _ => true) true [5, 27, 30, 3, 3, 66] args.toList ds p := by rw [Tryz.params6] at hA0; exact hA0
  rw [Tryz.params6] at hval
  have hw0 : ∀ m ∈ DataW.weightsEach Tryz.prog [5, 27, 30, 3, 3, 66] ds, m ≤ reachBytes := by
    rw [Tryz.params6, List.append_nil] at hw
    intro m hm
    have := List.all_eq_true.1 hw m (by rw [show (OpenSpec.ofChange Rows.splitLevelsSpec).bare.plain.varTypes Tryz.prog = [] from rfl, List.append_nil]; exact hm)
    simpa using this
  obtain ⟨v0, vs0, d0, ds0, p0, q0, hargs0, rfl, rfl, h0, r0⟩ := trodAll_cons hA
  obtain ⟨v1, vs1, d1, ds1, p1, q1, hargs1, rfl, rfl, h1, r1⟩ := trodAll_cons r0
  obtain ⟨v2, vs2, d2, ds2, p2, q2, hargs2, rfl, rfl, h2, r2⟩ := trodAll_cons r1
  obtain ⟨v3, vs3, d3, ds3, p3, q3, hargs3, rfl, rfl, h3, r3⟩ := trodAll_cons r2
  obtain ⟨v4, vs4, d4, ds4, p4, q4, hargs4, rfl, rfl, h4, r4⟩ := trodAll_cons r3
  obtain ⟨v5, vs5, d5, ds5, p5, q5, hargs5, rfl, rfl, h5, r5⟩ := trodAll_cons r4
  obtain ⟨hz, rfl, rfl⟩ := trodAll_nil r5
  have hargs : args = #[v0, v1, v2, v3, v4, v5] := by apply Array.ext'; simp_all
  subst hargs
  obtain ⟨hw0_, hw1⟩ := weights_here hw0
  obtain ⟨x0, k0⟩ := arg_one 0 (Opens.u8 Tryz.underlying5) (by kernel_rfl) @hval rfl rfl h0 hw0_
  obtain rfl : v0 = .int .u8 (x0.toNat : Int) := by have k9 : [v0] = [.int .u8 (x0.toNat : Int)] := k0; cases k9; rfl
  obtain ⟨hw1_, hw2⟩ := weights_here hw1
  obtain ⟨x1, cs1, rfl, k1⟩ := arg_agg 1 o27 (by kernel_rfl) @hval rfl rfl h1 hw1_
  obtain ⟨u1_4, rfl, ku1_4⟩ := op_TDraft26 k1
  obtain ⟨hw2_, hw3⟩ := weights_here hw2
  obtain ⟨x2, cs2, rfl, k2⟩ := arg_agg 2 o30 (by kernel_rfl) @hval rfl rfl h2 hw2_
  obtain rfl := op_TBend k2
  obtain ⟨hw3_, hw4⟩ := weights_here hw3
  obtain ⟨x3, k3⟩ := arg_one 3 (Opens.i64 Tryz.underlying3) (by kernel_rfl) @hval rfl rfl h3 hw3_
  obtain rfl : v3 = .int .i64 x3 := by have k9 : [v3] = [.int .i64 x3] := k3; cases k9; rfl
  obtain ⟨hw4_, hw5⟩ := weights_here hw4
  obtain ⟨x4, k4⟩ := arg_one 4 (Opens.i64 Tryz.underlying3) (by kernel_rfl) @hval rfl rfl h4 hw4_
  obtain rfl : v4 = .int .i64 x4 := by have k9 : [v4] = [.int .i64 x4] := k4; cases k9; rfl
  obtain ⟨hw5_, hw6⟩ := weights_here hw5
  obtain ⟨x5, k5⟩ := arg_one 5 (Opens.u16 Tryz.underlying66) (by kernel_rfl) @hval rfl rfl h5 hw5_
  obtain rfl : v5 = .int .u16 (x5.toNat : Int) := by have k9 : [v5] = [.int .u16 (x5.toNat : Int)] := k5; cases k9; rfl
  obtain ⟨n, hn⟩ := splitLevels_ex x0 x1 x2 x3 x4 x5
  refine (wardmotelaw23_SplitLevels_c n [] W (by simp) x0 x1 ku1_4 x2 x3 x4 x5  hn).mono fun e W' ⟨v, he, hv, hag⟩ => ?_
  subst he; subst hv
  exact ⟨_, rfl, post_of_law hW' rfl (by kernel_rfl) (by kernel_rfl) (by kernel_rfl) Tryz.underlying4 (fun gs hgs => by subst hgs; rfl) hag⟩
def flatD : Nat → DataW Unit → List Value
  | 0, _ => []
  | n + 1, .agg l => l.flatMap (flatD n)
  | _, .lit (.int k z) => [.int k z]
  | _, _ => []
def layOn (d : DataW Unit) : Obj → Obj
  | .cells _ t frozen => .cells (flatD 5 d).toArray t frozen
  | o => o
noncomputable def laidWorld (os : Os) : World :=
  { World.holding Tryz.prog os ⟨#[], #[], []⟩ with heap := (((World.holding Tryz.prog os ⟨#[], #[], []⟩).heap).modify 1 (layOn Rows.laid_unicode_utf8_acceptRanges)).modify 0 (layOn Rows.laid_unicode_utf8_first) }
theorem laid_met (os : Os) : laidMet Tryz.prog Rows.splitLevelsRow.laid ((laidWorld os).forCall (fun _ _ => 0) ⟨#[], (#[.int .u8 0, .agg #[.int .u8 0, .int .u8 0, .int .u8 0, .int .u8 0, .slice none 0 0], .agg #[.int .u8 0, .int .u8 0, .int .i64 0], .int .i64 0, .int .i64 0, .int .u16 0] : Array Value), []⟩).memory :=
  laidMet_of_run' 8 (by kernel_rfl) (by kernel_rfl)
theorem reads (os : Os) {H : Type} (enc : TypeId × Value → H) : ∃ places, DataW.whole enc Tryz.prog ((laidWorld os).forCall (fun _ _ => 0) ⟨#[], (#[.int .u8 0, .agg #[.int .u8 0, .int .u8 0, .int .u8 0, .int .u8 0, .slice none 0 0], .agg #[.int .u8 0, .int .u8 0, .int .i64 0], .int .i64 0, .int .i64 0, .int .u16 0] : Array Value), []⟩).memory Tryz.f6.params.toList Rows.splitLevelsSpec.vars false (#[.int .u8 0, .agg #[.int .u8 0, .int .u8 0, .int .u8 0, .int .u8 0, .slice none 0 0], .agg #[.int .u8 0, .int .u8 0, .int .i64 0], .int .i64 0, .int .i64 0, .int .u16 0] : Array Value).toList 8 = some ([.lit (.int .u8 0), .agg [.lit (.int .u8 0), .lit (.int .u8 0), .lit (.int .u8 0), .lit (.int .u8 0), .nil], .agg [.lit (.int .u8 0), .lit (.int .u8 0), .lit (.int .i64 0)], .lit (.int .i64 0), .lit (.int .i64 0), .lit (.int .u16 0)], [], places) :=
  ⟨[], by kernel_rfl⟩
set_option maxRecDepth 100000 in
theorem lifted (os : Os) (started : os.Started) (H : Type) (enc : TypeId × Value → H) (F : Stop.Interp) :
    ReturnsInHanded {} Tryz.checked os 6 .any ((OpenSpec.ofChange Rows.splitLevelsSpec).preRow enc Tryz.prog Tryz.f6 Rows.splitLevelsRow.domain false Rows.splitLevelsRow.laid) (((OpenSpec.ofChange Rows.splitLevelsSpec).at F).post enc Tryz.prog Tryz.f6 false true false false) := by
  obtain ⟨places, hx⟩ := reads os enc
  refine returnsInHanded_of_row (C := Tryz.checked) (s := OpenSpec.ofChange Rows.splitLevelsSpec) own started (by kernel_rfl) Tryz.func6
    (witness_row_at (enc := enc) (C := Tryz.checked) false (laidWorld os) (#[.int .u8 0, .agg #[.int .u8 0, .int .u8 0, .int .u8 0, .int .u8 0, .slice none 0 0], .agg #[.int .u8 0, .int .u8 0, .int .i64 0], .int .i64 0, .int .i64 0, .int .u16 0] : Array Value) rfl (by kernel_rfl) (by kernel_rfl) (by kernel_rfl)
      (OpenSpec.preRow_of_cond 8 hx (by kernel_rfl) (fun k hk => by cases hk) (by kernel_rfl) (laid_met os))) ?_
  intro W base args ds gs before hval hW _ _ hz hL _ _
  exact contract H enc W base args ds gs before hval hW hz hL
theorem said : Rows.SplitLevelsSaid :=
  OpenClaim.holds_of_cond 6 Tryz.f6 rfl rfl rfl rfl rfl rfl rfl ⟨rfl, rfl, rfl, rfl, rfl⟩ rfl rfl rfl rfl rfl (by kernel_rfl) Tryz.func6 (by kernel_rfl)
    (of_decide_eq_true (by kernel_rfl)) (by unfold Func.isWrapper; first | (rw [if_pos (by decide +kernel)]; kernel_rfl) | (rw [if_neg (by decide +kernel)]; exact ⟨rfl, rfl⟩))
    (fun os started H enc _ F => by rw [OpenClaim.pre_eq_preRow]; exact lifted os started H enc F)
theorem plain (f : FuncId) (fn : Func) (hf : Tryz.pinned.checked.prog.funcNamed "wardmote/wardmotelaw23.SplitLevels" = some f) (hfn : Tryz.pinned.checked.prog.funcs[f]? = some fn) :
    true = Tryz.pinned.checked.prog.looks [] ∧ ∀ (j : Nat) t, fn.params[j]? = some t → Tryz.pinned.checked.prog.wantsStandIn t = false := by
  obtain rfl : f = 6 := Option.some.inj ((show Tryz.prog.funcNamed "wardmote/wardmotelaw23.SplitLevels" = some 6 by kernel_rfl).symm.trans hf) |>.symm
  obtain rfl : fn = Tryz.f6 := (Option.some.inj (Tryz.func6.symm.trans hfn)).symm
  refine ⟨by kernel_rfl, fun j t ht => ?_⟩
  rw [Tryz.params6] at ht
  have hm : t ∈ ([5, 27, 30, 3, 3, 66] : List TypeId) := by simpa using Array.mem_of_getElem? ht
  have hall : (([5, 27, 30, 3, 3, 66] : List TypeId).all fun u => !Tryz.prog.wantsStandIn u) = true := by kernel_rfl
  exact (show Tryz.prog.wantsStandIn t = false by simpa using List.all_eq_true.1 hall t hm)
/-- THE CARD. -/
theorem splitLevels_holds : Rows.SplitLevelsCardSaid :=
  Claim7.holds_tied_plain_at .later [] _ _ _ _ said (fun _ h => by cases h) (by kernel_rfl) (fun _ h => by cases h) splitLevels_row_tie rfl ⟨rfl, rfl⟩ (by kernel_rfl) rfl plain (by kernel_rfl)
end Go.Proofs.YtfncplndfpgngaaGreatDoor
