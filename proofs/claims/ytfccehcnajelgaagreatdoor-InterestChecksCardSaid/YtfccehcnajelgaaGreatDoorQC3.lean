/- Whatever the call is given, InterestChecks of the package wardmotelaw27 returns true and leaves its arguments as they were. The conditions: the listed variables of math/bits and unicode/utf8 hold what the text of the library lays them with (the card ties that), and each string and slice takes at most 2^47 - 4096 bytes, as the row has it. -/
import Derived.Test.YtfccehcnajelgaaGreatDoorQAId
import Derived.Test.YtfccehcnajelgaaGreatDoorQCd
import Derived.Test.YtfccehcnajelgaaGreatDoorQCd
import Derived.Test.YtfccehcnajelgaaGreatDoorCards
import Derived.Test.YtfccehcnajelgaaGreatDoorTie
import Derived.SevenTiedAt
namespace Go.Proofs.YtfccehcnajelgaaGreatDoor
open Go Go.RowKit Go.WideElems Go.ChangeShapes Go.WideShapes Go.ChangeAt

theorem o102 : Opens Tryz.prog 102 (UInt16 × UInt16) := Opens.array (k := 2) Tryz.underlying102 (by kernel_rfl) (OpensAll.cons (Opens.u16 Tryz.underlying101) (OpensAll.one (Opens.u16 Tryz.underlying101)))
theorem o22 : Opens Tryz.prog 22 (List (UInt16 × UInt16)) := Opens.slice Tryz.underlying22 (by kernel_rfl) (by kernel_rfl) o102
theorem o24 : Opens Tryz.prog 24 TDraft := Opens.via (fun x : TDraft => x.fL) (fun y => ⟨y⟩) (fun _ => rfl) (Opens.struct (ts := [22]) Tryz.underlying24 (by kernel_rfl) (by kernel_rfl) (by kernel_rfl) (OpensAll.one o22))
theorem o26 : Opens Tryz.prog 26 TBend := Opens.via (fun x : TBend => (x.fF, x.fAt, x.fN, x.fp)) (fun y => ⟨y.1, y.2.1, y.2.2.1, y.2.2.2⟩) (fun _ => rfl) (Opens.struct (ts := [5, 5, 3, 9]) Tryz.underlying26 (by kernel_rfl) (by kernel_rfl) (by kernel_rfl) (OpensAll.cons (Opens.u8 Tryz.underlying5) (OpensAll.cons (Opens.u8 Tryz.underlying5) (OpensAll.cons (Opens.i64 Tryz.underlying3) (OpensAll.one (Opens.string Tryz.underlying9))))))
theorem o27 : Opens Tryz.prog 27 (TBend × TBend) := Opens.array (k := 2) Tryz.underlying27 (by kernel_rfl) (OpensAll.cons o26 (OpensAll.one o26))
theorem op_TDraft {w : World} {L : List Nat} {cs : List Value} {x : TDraft} (h : Rep.R w L cs x) : ∃ v0 : Value, cs = [v0] ∧ Rep.R w L [v0] x.fL := by
  obtain ⟨v0, rfl, kv0⟩ := lst_one (xs := x.fL) h
  exact ⟨v0, rfl, kv0⟩
theorem mk_TDraft {w : World} {L : List Nat} (a0 : List (UInt16 × UInt16)) {u0 : Value} (h0 : Rep.R w L [u0] a0) : Rep.R w L [u0] (⟨a0⟩ : TDraft) := h0
theorem op_TBend {w : World} {L : List Nat} {cs : List Value} {x : TBend} (h : Rep.R w L cs x) : cs = [.int .u8 (x.fF.toNat : Int), .int .u8 (x.fAt.toNat : Int), .int .i64 x.fN, .string x.fp] := by
  obtain ⟨c0, r0, rfl, h0, h⟩ := h
  have e0 : c0 = [.int .u8 (x.fF.toNat : Int)] := h0; subst e0
  obtain ⟨c1, r1, rfl, h1, h⟩ := h
  have e1 : c1 = [.int .u8 (x.fAt.toNat : Int)] := h1; subst e1
  obtain ⟨c2, r2, rfl, h2, h⟩ := h
  have e2 : c2 = [.int .i64 x.fN] := h2; subst e2
  have e3 : r2 = [.string x.fp] := h; subst e3
  rfl
theorem mk_TBend {w : World} {L : List Nat} (a0 : UInt8) (a1 : UInt8) (a2 : Int) (a3 : ByteArray) : Rep.R w L [.int .u8 (a0.toNat : Int), .int .u8 (a1.toNat : Int), .int .i64 a2, .string a3] (⟨a0, a1, a2, a3⟩ : TBend) := ⟨[.int .u8 (a0.toNat : Int)], [.int .u8 (a1.toNat : Int), .int .i64 a2, .string a3], rfl, rfl, ⟨[.int .u8 (a1.toNat : Int)], [.int .i64 a2, .string a3], rfl, rfl, ⟨[.int .i64 a2], [.string a3], rfl, rfl, rfl⟩⟩⟩
theorem op_A27 {w : World} {L : List Nat} {cs : List Value} {x : TBend × TBend} (h : Rep.R w L cs x) : cs = [.int .u8 (x.1.fF.toNat : Int), .int .u8 (x.1.fAt.toNat : Int), .int .i64 x.1.fN, .string x.1.fp, .int .u8 (x.2.fF.toNat : Int), .int .u8 (x.2.fAt.toNat : Int), .int .i64 x.2.fN, .string x.2.fp] := by
  obtain ⟨c0, r0, rfl, h0, h⟩ := h
  obtain rfl := op_TBend (x := x.1) h0
  obtain rfl := op_TBend (x := x.2) h
  rfl
theorem mk_A27 {w : World} {L : List Nat} (a0 : TBend) (a1 : TBend) : Rep.R w L [.int .u8 (a0.fF.toNat : Int), .int .u8 (a0.fAt.toNat : Int), .int .i64 a0.fN, .string a0.fp, .int .u8 (a1.fF.toNat : Int), .int .u8 (a1.fAt.toNat : Int), .int .i64 a1.fN, .string a1.fp] ((a0, a1) : TBend × TBend) := ⟨[.int .u8 (a0.fF.toNat : Int), .int .u8 (a0.fAt.toNat : Int), .int .i64 a0.fN, .string a0.fp], [.int .u8 (a1.fF.toNat : Int), .int .u8 (a1.fAt.toNat : Int), .int .i64 a1.fN, .string a1.fp], rfl, mk_TBend a0.fF a0.fAt a0.fN a0.fp, mk_TBend a1.fF a1.fAt a1.fN a1.fp⟩
theorem own : ownKnob Tryz.prog.godebug = none := by kernel_rfl
theorem gTab0 : Tryz.prog.globalNamed "math/bits.deBruijn64tab" = some 0 := by kernel_rfl
theorem gType0 : (Tryz.prog.globals[0]?).map (·.type) = some 243 := by kernel_rfl
def zs0 : List Int := [0, 1, 56, 2, 57, 49, 28, 3, 61, 58, 42, 50, 38, 29, 17, 4, 62, 47, 59, 36, 45, 43, 51, 22, 53, 39, 33, 30, 24, 18, 12, 5, 63, 55, 48, 27, 60, 41, 37, 16, 46, 35, 44, 21, 52, 32, 23, 11, 54, 26, 40, 15, 34, 20, 31, 10, 25, 14, 19, 9, 13, 8, 7, 6]
theorem table0 {W : World} (h : laidMetH Tryz.prog Rows.interestChecksRow.laid W) : Lib.TabIs Tryz.prog W "math/bits.deBruijn64tab" .u8 zs0 :=
  Lib.tabIs_of_head (rest := [("unicode/utf8.acceptRanges", Rows.laid_unicode_utf8_acceptRanges), ("unicode/utf8.first", Rows.laid_unicode_utf8_first)]) gTab0 gType0 Tryz.underlying243 Tryz.underlying5 (by kernel_rfl) (by kernel_rfl) h
theorem glob0 {W : World} (h : laidMetH Tryz.prog Rows.interestChecksRow.laid W) : Glob 0 tab0 W := by
  intro i z hz
  have hi : i < 64 := by have := (List.getElem?_eq_some_iff.1 hz).1; simpa [tab0] using this
  have hc := (table0 h).cell gTab0 i (by simpa [zs0] using hi)
  have e : (zs0.getD i 0) = (z.toNat : Int) := by
    have hm : (tab0.map fun z => (z.toNat : Int)) = zs0 := by decide
    rw [← hm]; simp [List.getD, hz]
  rw [e] at hc
  have ha : ((⟨0, 0, none⟩ : Addr).add (i * 1)) = ⟨0, i, none⟩ := by rw [Nat.mul_one]; unfold Addr.add; split <;> simp_all
  rw [ha]; exact hc
theorem contract (H : Type) (enc : TypeId × Value → H) (W : World) (base : Nat) (args : Array Value) (ds gs : List (DataW H)) (before : List MemPlace)
    (hval : ∀ (j : Nat) t v, Tryz.f3.params[j]? = some t → args[j]? = some v → Value.okWide Tryz.prog W .any base t v)
    (hW : DataW.Whole enc Tryz.prog Tryz.f3.params.toList Rows.interestChecksSpec.vars false W args.toList ds gs before) (hw : (DataW.weightsEach Tryz.prog (Tryz.f3.params.toList ++ (OpenSpec.ofChange Rows.interestChecksSpec).bare.plain.varTypes Tryz.prog) (ds ++ gs)).all (· ≤ reachBytes) = true) (hL : laidMetH Tryz.prog Rows.interestChecksRow.laid W) :
    Calls Tryz.prog 3 args W fun e W' => ∃ v, e = .returned v ∧ Rows.interestChecksSpec.post enc Tryz.prog Tryz.f3 false true false false W args v W' := by
  have hW' := hW
  obtain ⟨p, q, hA0, hV, rfl, hfz, hnd⟩ := hW
  obtain ⟨rfl, rfl⟩ := trodVars_none hV
  have hA : DataW.TrodAll enc Tryz.prog W 0 (fun _ => true) true [3, 5, 24, 27, 28, 28] args.toList ds p := by rw [Tryz.params3] at hA0; exact hA0
  rw [Tryz.params3] at hval
  have hw0 : ∀ m ∈ DataW.weightsEach Tryz.prog [3, 5, 24, 27, 28, 28] ds, m ≤ reachBytes := by
    rw [Tryz.params3, List.append_nil] at hw
    intro m hm
    have := List.all_eq_true.1 hw m (by rw [show (OpenSpec.ofChange Rows.interestChecksSpec).bare.plain.varTypes Tryz.prog = [] from rfl, List.append_nil]; exact hm)
    simpa using this
  obtain ⟨v0, vs0, d0, ds0, p0, q0, hargs0, rfl, rfl, h0, r0⟩ := trodAll_cons hA
  obtain ⟨v1, vs1, d1, ds1, p1, q1, hargs1, rfl, rfl, h1, r1⟩ := trodAll_cons r0
  obtain ⟨v2, vs2, d2, ds2, p2, q2, hargs2, rfl, rfl, h2, r2⟩ := trodAll_cons r1
  obtain ⟨v3, vs3, d3, ds3, p3, q3, hargs3, rfl, rfl, h3, r3⟩ := trodAll_cons r2
  obtain ⟨v4, vs4, d4, ds4, p4, q4, hargs4, rfl, rfl, h4, r4⟩ := trodAll_cons r3
  obtain ⟨v5, vs5, d5, ds5, p5, q5, hargs5, rfl, rfl, h5, r5⟩ := trodAll_cons r4
  obtain ⟨hz, rfl, rfl⟩ := trodAll_nil r5
  have hargs : args = #[v0, v1, v2, v3, v4, v5] := by apply Array.ext'; simp_all
  subst hargs
  obtain ⟨hw0_, hw1⟩ := weights_here hw0
  obtain ⟨x0, k0⟩ := arg_one 0 (Opens.i64 Tryz.underlying3) (by kernel_rfl) @hval rfl rfl h0 hw0_
  obtain rfl : v0 = .int .i64 x0 := by have k9 : [v0] = [.int .i64 x0] := k0; cases k9; rfl
  obtain ⟨hw1_, hw2⟩ := weights_here hw1
  obtain ⟨x1, k1⟩ := arg_one 1 (Opens.u8 Tryz.underlying5) (by kernel_rfl) @hval rfl rfl h1 hw1_
  obtain rfl : v1 = .int .u8 (x1.toNat : Int) := by have k9 : [v1] = [.int .u8 (x1.toNat : Int)] := k1; cases k9; rfl
  obtain ⟨hw2_, hw3⟩ := weights_here hw2
  obtain ⟨x2, cs2, rfl, k2⟩ := arg_agg 2 o24 (by kernel_rfl) @hval rfl rfl h2 hw2_
  obtain ⟨u2_0, rfl, ku2_0⟩ := op_TDraft k2
  obtain ⟨hw3_, hw4⟩ := weights_here hw3
  obtain ⟨x3, cs3, rfl, k3⟩ := arg_agg 3 o27 (by kernel_rfl) @hval rfl rfl h3 hw3_
  obtain rfl := op_A27 k3
  obtain ⟨hw4_, hw5⟩ := weights_here hw4
  obtain ⟨x4, k4⟩ := arg_one 4 (Opens.u64 Tryz.underlying28) (by kernel_rfl) @hval rfl rfl h4 hw4_
  obtain rfl : v4 = .int .u64 (x4.toNat : Int) := by have k9 : [v4] = [.int .u64 (x4.toNat : Int)] := k4; cases k9; rfl
  obtain ⟨hw5_, hw6⟩ := weights_here hw5
  obtain ⟨x5, k5⟩ := arg_one 5 (Opens.u64 Tryz.underlying28) (by kernel_rfl) @hval rfl rfl h5 hw5_
  obtain rfl : v5 = .int .u64 (x5.toNat : Int) := by have k9 : [v5] = [.int .u64 (x5.toNat : Int)] := k5; cases k9; rfl
  obtain ⟨n, hn⟩ := interestChecks_ex x0 x1 x2 x3 x4 x5
  refine (wardmotelaw27_InterestChecks_c n [] W (by simp) x0 x1 x2 ku2_0 x3 x4 x5 (glob0 hL) hn).mono fun e W' ⟨v, he, hv, hag⟩ => ?_
  subst he; subst hv
  exact ⟨_, rfl, post_of_law hW' rfl (by kernel_rfl) (by kernel_rfl) (by kernel_rfl) Tryz.underlying4 (fun gs hgs => by subst hgs; rfl) hag⟩
def flatD : Nat → DataW Unit → List Value
  | 0, _ => []
  | n + 1, .agg l => l.flatMap (flatD n)
  | _, .lit (.int k z) => [.int k z]
  | _, _ => []
def layOn (d : DataW Unit) : Obj → Obj
  | .cells _ t frozen => .cells (flatD 5 d).toArray t frozen
  | o => o
noncomputable def laidWorld (os : Os) : World :=
  { World.holding Tryz.prog os ⟨#[], #[], []⟩ with heap := ((((World.holding Tryz.prog os ⟨#[], #[], []⟩).heap).modify 0 (layOn Rows.laid_math_bits_deBruijn64tab)).modify 5 (layOn Rows.laid_unicode_utf8_acceptRanges)).modify 4 (layOn Rows.laid_unicode_utf8_first) }
theorem laid_met (os : Os) : laidMet Tryz.prog Rows.interestChecksRow.laid ((laidWorld os).forCall (fun _ _ => 0) ⟨#[], (#[.int .i64 0, .int .u8 0, .agg #[.slice none 0 0], .agg #[.int .u8 0, .int .u8 0, .int .i64 0, .string ⟨#[]⟩, .int .u8 0, .int .u8 0, .int .i64 0, .string ⟨#[]⟩], .int .u64 0, .int .u64 0] : Array Value), []⟩).memory :=
  laidMet_of_run' 8 (by kernel_rfl) (by kernel_rfl)
theorem reads (os : Os) {H : Type} (enc : TypeId × Value → H) : ∃ places, DataW.whole enc Tryz.prog ((laidWorld os).forCall (fun _ _ => 0) ⟨#[], (#[.int .i64 0, .int .u8 0, .agg #[.slice none 0 0], .agg #[.int .u8 0, .int .u8 0, .int .i64 0, .string ⟨#[]⟩, .int .u8 0, .int .u8 0, .int .i64 0, .string ⟨#[]⟩], .int .u64 0, .int .u64 0] : Array Value), []⟩).memory Tryz.f3.params.toList Rows.interestChecksSpec.vars false (#[.int .i64 0, .int .u8 0, .agg #[.slice none 0 0], .agg #[.int .u8 0, .int .u8 0, .int .i64 0, .string ⟨#[]⟩, .int .u8 0, .int .u8 0, .int .i64 0, .string ⟨#[]⟩], .int .u64 0, .int .u64 0] : Array Value).toList 8 = some ([.lit (.int .i64 0), .lit (.int .u8 0), .agg [.nil], .agg [.agg [.lit (.int .u8 0), .lit (.int .u8 0), .lit (.int .i64 0), .lit (.string [])], .agg [.lit (.int .u8 0), .lit (.int .u8 0), .lit (.int .i64 0), .lit (.string [])]], .lit (.int .u64 0), .lit (.int .u64 0)], [], places) :=
  ⟨[], by kernel_rfl⟩
set_option maxRecDepth 100000 in
theorem lifted (os : Os) (started : os.Started) (H : Type) (enc : TypeId × Value → H) (F : Stop.Interp) :
    ReturnsInHanded {} Tryz.checked os 3 .any ((OpenSpec.ofChange Rows.interestChecksSpec).preRow enc Tryz.prog Tryz.f3 Rows.interestChecksRow.domain false Rows.interestChecksRow.laid) (((OpenSpec.ofChange Rows.interestChecksSpec).at F).post enc Tryz.prog Tryz.f3 false true false false) := by
  obtain ⟨places, hx⟩ := reads os enc
  refine returnsInHanded_of_row (C := Tryz.checked) (s := OpenSpec.ofChange Rows.interestChecksSpec) own started (by kernel_rfl) Tryz.func3
    (witness_row_at (enc := enc) (C := Tryz.checked) false (laidWorld os) (#[.int .i64 0, .int .u8 0, .agg #[.slice none 0 0], .agg #[.int .u8 0, .int .u8 0, .int .i64 0, .string ⟨#[]⟩, .int .u8 0, .int .u8 0, .int .i64 0, .string ⟨#[]⟩], .int .u64 0, .int .u64 0] : Array Value) rfl (by kernel_rfl) (by kernel_rfl) (by kernel_rfl)
      (OpenSpec.preRow_of_cond 8 hx (by kernel_rfl) (fun k hk => by cases hk) (by kernel_rfl) (laid_met os))) ?_
  intro W base args ds gs before hval hW _ _ hz hL _ _
  exact contract H enc W base args ds gs before hval hW hz hL
theorem said : Rows.InterestChecksSaid :=
  OpenClaim.holds_of_cond 3 Tryz.f3 rfl rfl rfl rfl rfl rfl rfl ⟨rfl, rfl, rfl, rfl, rfl⟩ rfl rfl rfl rfl rfl (by kernel_rfl) Tryz.func3 (by kernel_rfl)
    (of_decide_eq_true (by kernel_rfl)) (by unfold Func.isWrapper; first | (rw [if_pos (by decide +kernel)]; kernel_rfl) | (rw [if_neg (by decide +kernel)]; exact ⟨rfl, rfl⟩))
    (fun os started H enc _ F => by rw [OpenClaim.pre_eq_preRow]; exact lifted os started H enc F)
theorem plain (f : FuncId) (fn : Func) (hf : Tryz.pinned.checked.prog.funcNamed "wardmote/wardmotelaw27.InterestChecks" = some f) (hfn : Tryz.pinned.checked.prog.funcs[f]? = some fn) :
    true = Tryz.pinned.checked.prog.looks [] ∧ ∀ (j : Nat) t, fn.params[j]? = some t → Tryz.pinned.checked.prog.wantsStandIn t = false := by
  obtain rfl : f = 3 := Option.some.inj ((show Tryz.prog.funcNamed "wardmote/wardmotelaw27.InterestChecks" = some 3 by kernel_rfl).symm.trans hf) |>.symm
  obtain rfl : fn = Tryz.f3 := (Option.some.inj (Tryz.func3.symm.trans hfn)).symm
  refine ⟨by kernel_rfl, fun j t ht => ?_⟩
  rw [Tryz.params3] at ht
  have hm : t ∈ ([3, 5, 24, 27, 28, 28] : List TypeId) := by simpa using Array.mem_of_getElem? ht
  have hall : (([3, 5, 24, 27, 28, 28] : List TypeId).all fun u => !Tryz.prog.wantsStandIn u) = true := by kernel_rfl
  exact (show Tryz.prog.wantsStandIn t = false by simpa using List.all_eq_true.1 hall t hm)
/-- THE CARD. -/
theorem interestChecks_holds : Rows.InterestChecksCardSaid :=
  Claim7.holds_tied_plain_at .later [] _ _ _ _ said (fun _ h => by cases h) (by kernel_rfl) (fun _ h => by cases h) interestChecks_row_tie rfl ⟨rfl, rfl⟩ (by kernel_rfl) rfl plain (by kernel_rfl)
end Go.Proofs.YtfccehcnajelgaaGreatDoor
