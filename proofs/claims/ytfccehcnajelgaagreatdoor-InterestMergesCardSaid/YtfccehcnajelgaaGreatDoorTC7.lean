/- Whatever the call is given, InterestMerges of the package wardmotelaw27 returns true and leaves its arguments as they were. The conditions: the listed variables of math/bits and unicode/utf8 hold what the text of the library lays them with (the card ties that), and each string and slice takes at most 2^47 - 4096 bytes, as the row has it. -/
import Derived.Test.YtfccehcnajelgaaGreatDoorTGIn
import Derived.Test.YtfccehcnajelgaaGreatDoorTCd
import Derived.Test.YtfccehcnajelgaaGreatDoorCards
import Derived.Test.YtfccehcnajelgaaGreatDoorTie
import Derived.SevenTiedAt
namespace Go.Proofs.YtfccehcnajelgaaGreatDoor
open Go Go.RowKit Go.WideElems Go.ChangeShapes Go.WideShapes Go.ChangeAt

theorem o46 : Opens Tryz.prog 46 (List UInt8) := Opens.slice Tryz.underlying46 (by kernel_rfl) (by kernel_rfl) (Opens.u8 Tryz.underlying5)
theorem o306 : Opens Tryz.prog 306 (UInt8 × UInt8) := Opens.array (k := 2) Tryz.underlying306 (by kernel_rfl) (OpensAll.cons (Opens.u8 Tryz.underlying5) (OpensAll.one (Opens.u8 Tryz.underlying5)))
theorem o47 : Opens Tryz.prog 47 (List (UInt8 × UInt8)) := Opens.slice Tryz.underlying47 (by kernel_rfl) (by kernel_rfl) o306
theorem o49 : Opens Tryz.prog 49 TDraft48 := Opens.via (fun x : TDraft48 => (x.fN, x.fF, x.fMore, x.fLabels, x.fK)) (fun y => ⟨y.1, y.2.1, y.2.2.1, y.2.2.2.1, y.2.2.2.2⟩) (fun _ => rfl) (Opens.struct (ts := [5, 46, 47, 46, 5]) Tryz.underlying49 (by kernel_rfl) (by kernel_rfl) (by kernel_rfl) (OpensAll.cons (Opens.u8 Tryz.underlying5) (OpensAll.cons o46 (OpensAll.cons o47 (OpensAll.cons o46 (OpensAll.one (Opens.u8 Tryz.underlying5)))))))
theorem o51 : Opens Tryz.prog 51 TDraft50 := Opens.via (fun x : TDraft50 => (x.fh, x.fc, x.fe, x.fu, x.fNums)) (fun y => ⟨y.1, y.2.1, y.2.2.1, y.2.2.2.1, y.2.2.2.2⟩) (fun _ => rfl) (Opens.struct (ts := [5, 5, 5, 5, 46]) Tryz.underlying51 (by kernel_rfl) (by kernel_rfl) (by kernel_rfl) (OpensAll.cons (Opens.u8 Tryz.underlying5) (OpensAll.cons (Opens.u8 Tryz.underlying5) (OpensAll.cons (Opens.u8 Tryz.underlying5) (OpensAll.cons (Opens.u8 Tryz.underlying5) (OpensAll.one o46))))))
theorem o102 : Opens Tryz.prog 102 (UInt16 × UInt16) := Opens.array (k := 2) Tryz.underlying102 (by kernel_rfl) (OpensAll.cons (Opens.u16 Tryz.underlying101) (OpensAll.one (Opens.u16 Tryz.underlying101)))
theorem o22 : Opens Tryz.prog 22 (List (UInt16 × UInt16)) := Opens.slice Tryz.underlying22 (by kernel_rfl) (by kernel_rfl) o102
theorem o24 : Opens Tryz.prog 24 TDraft := Opens.via (fun x : TDraft => x.fL) (fun y => ⟨y⟩) (fun _ => rfl) (Opens.struct (ts := [22]) Tryz.underlying24 (by kernel_rfl) (by kernel_rfl) (by kernel_rfl) (OpensAll.one o22))
theorem op_TDraft48 {w : World} {L : List Nat} {cs : List Value} {x : TDraft48} (h : Rep.R w L cs x) : ∃ v1 v2 v3 : Value, cs = [.int .u8 (x.fN.toNat : Int), v1, v2, v3, .int .u8 (x.fK.toNat : Int)] ∧ Rep.R w L [v1] x.fF ∧ Rep.R w L [v2] x.fMore ∧ Rep.R w L [v3] x.fLabels := by
  obtain ⟨c0, r0, rfl, h0, h⟩ := h
  have e0 : c0 = [.int .u8 (x.fN.toNat : Int)] := h0; subst e0
  obtain ⟨c1, r1, rfl, h1, h⟩ := h
  obtain ⟨v1, rfl, kv1⟩ := lst_one (xs := x.fF) h1
  obtain ⟨c2, r2, rfl, h2, h⟩ := h
  obtain ⟨v2, rfl, kv2⟩ := lst_one (xs := x.fMore) h2
  obtain ⟨c3, r3, rfl, h3, h⟩ := h
  obtain ⟨v3, rfl, kv3⟩ := lst_one (xs := x.fLabels) h3
  have e4 : r3 = [.int .u8 (x.fK.toNat : Int)] := h; subst e4
  exact ⟨v1, v2, v3, rfl, kv1, kv2, kv3⟩
theorem mk_TDraft48 {w : World} {L : List Nat} (a0 : UInt8) (a1 : List UInt8) {u1 : Value} (h1 : Rep.R w L [u1] a1) (a2 : List (UInt8 × UInt8)) {u2 : Value} (h2 : Rep.R w L [u2] a2) (a3 : List UInt8) {u3 : Value} (h3 : Rep.R w L [u3] a3) (a4 : UInt8) : Rep.R w L [.int .u8 (a0.toNat : Int), u1, u2, u3, .int .u8 (a4.toNat : Int)] (⟨a0, a1, a2, a3, a4⟩ : TDraft48) := ⟨[.int .u8 (a0.toNat : Int)], [u1, u2, u3, .int .u8 (a4.toNat : Int)], rfl, rfl, ⟨[u1], [u2, u3, .int .u8 (a4.toNat : Int)], rfl, h1, ⟨[u2], [u3, .int .u8 (a4.toNat : Int)], rfl, h2, ⟨[u3], [.int .u8 (a4.toNat : Int)], rfl, h3, rfl⟩⟩⟩⟩
theorem op_TDraft50 {w : World} {L : List Nat} {cs : List Value} {x : TDraft50} (h : Rep.R w L cs x) : ∃ v4 : Value, cs = [.int .u8 (x.fh.toNat : Int), .int .u8 (x.fc.toNat : Int), .int .u8 (x.fe.toNat : Int), .int .u8 (x.fu.toNat : Int), v4] ∧ Rep.R w L [v4] x.fNums := by
  obtain ⟨c0, r0, rfl, h0, h⟩ := h
  have e0 : c0 = [.int .u8 (x.fh.toNat : Int)] := h0; subst e0
  obtain ⟨c1, r1, rfl, h1, h⟩ := h
  have e1 : c1 = [.int .u8 (x.fc.toNat : Int)] := h1; subst e1
  obtain ⟨c2, r2, rfl, h2, h⟩ := h
  have e2 : c2 = [.int .u8 (x.fe.toNat : Int)] := h2; subst e2
  obtain ⟨c3, r3, rfl, h3, h⟩ := h
  have e3 : c3 = [.int .u8 (x.fu.toNat : Int)] := h3; subst e3
  obtain ⟨v4, rfl, kv4⟩ := lst_one (xs := x.fNums) h
  exact ⟨v4, rfl, kv4⟩
theorem mk_TDraft50 {w : World} {L : List Nat} (a0 : UInt8) (a1 : UInt8) (a2 : UInt8) (a3 : UInt8) (a4 : List UInt8) {u4 : Value} (h4 : Rep.R w L [u4] a4) : Rep.R w L [.int .u8 (a0.toNat : Int), .int .u8 (a1.toNat : Int), .int .u8 (a2.toNat : Int), .int .u8 (a3.toNat : Int), u4] (⟨a0, a1, a2, a3, a4⟩ : TDraft50) := ⟨[.int .u8 (a0.toNat : Int)], [.int .u8 (a1.toNat : Int), .int .u8 (a2.toNat : Int), .int .u8 (a3.toNat : Int), u4], rfl, rfl, ⟨[.int .u8 (a1.toNat : Int)], [.int .u8 (a2.toNat : Int), .int .u8 (a3.toNat : Int), u4], rfl, rfl, ⟨[.int .u8 (a2.toNat : Int)], [.int .u8 (a3.toNat : Int), u4], rfl, rfl, ⟨[.int .u8 (a3.toNat : Int)], [u4], rfl, rfl, h4⟩⟩⟩⟩
theorem op_TDraft {w : World} {L : List Nat} {cs : List Value} {x : TDraft} (h : Rep.R w L cs x) : ∃ v0 : Value, cs = [v0] ∧ Rep.R w L [v0] x.fL := by
  obtain ⟨v0, rfl, kv0⟩ := lst_one (xs := x.fL) h
  exact ⟨v0, rfl, kv0⟩
theorem mk_TDraft {w : World} {L : List Nat} (a0 : List (UInt16 × UInt16)) {u0 : Value} (h0 : Rep.R w L [u0] a0) : Rep.R w L [u0] (⟨a0⟩ : TDraft) := h0
theorem own : ownKnob Tryz.prog.godebug = none := by kernel_rfl
theorem gTab0 : Tryz.prog.globalNamed "math/bits.deBruijn64tab" = some 0 := by kernel_rfl
theorem gType0 : (Tryz.prog.globals[0]?).map (·.type) = some 243 := by kernel_rfl
def zs0 : List Int := [0, 1, 56, 2, 57, 49, 28, 3, 61, 58, 42, 50, 38, 29, 17, 4, 62, 47, 59, 36, 45, 43, 51, 22, 53, 39, 33, 30, 24, 18, 12, 5, 63, 55, 48, 27, 60, 41, 37, 16, 46, 35, 44, 21, 52, 32, 23, 11, 54, 26, 40, 15, 34, 20, 31, 10, 25, 14, 19, 9, 13, 8, 7, 6]
theorem table0 {W : World} (h : laidMetH Tryz.prog Rows.interestMergesRow.laid W) : Lib.TabIs Tryz.prog W "math/bits.deBruijn64tab" .u8 zs0 :=
  Lib.tabIs_of_head (rest := [("unicode/utf8.acceptRanges", Rows.laid_unicode_utf8_acceptRanges), ("unicode/utf8.first", Rows.laid_unicode_utf8_first)]) gTab0 gType0 Tryz.underlying243 Tryz.underlying5 (by kernel_rfl) (by kernel_rfl) h
theorem glob0 {W : World} (h : laidMetH Tryz.prog Rows.interestMergesRow.laid W) : Glob 0 tab0 W := by
  intro i z hz
  have hi : i < 64 := by have := (List.getElem?_eq_some_iff.1 hz).1; simpa [tab0] using this
  have hc := (table0 h).cell gTab0 i (by simpa [zs0] using hi)
  have e : (zs0.getD i 0) = (z.toNat : Int) := by
    have hm : (tab0.map fun z => (z.toNat : Int)) = zs0 := by decide
    rw [← hm]; simp [List.getD, hz]
  rw [e] at hc
  have ha : ((⟨0, 0, none⟩ : Addr).add (i * 1)) = ⟨0, i, none⟩ := by rw [Nat.mul_one]; unfold Addr.add; split <;> simp_all
  rw [ha]; exact hc
theorem contract (H : Type) (enc : TypeId × Value → H) (W : World) (base : Nat) (args : Array Value) (ds gs : List (DataW H)) (before : List MemPlace)
    (hval : ∀ (j : Nat) t v, Tryz.f7.params[j]? = some t → args[j]? = some v → Value.okWide Tryz.prog W .any base t v)
    (hW : DataW.Whole enc Tryz.prog Tryz.f7.params.toList Rows.interestMergesSpec.vars false W args.toList ds gs before) (hw : (DataW.weightsEach Tryz.prog (Tryz.f7.params.toList ++ (OpenSpec.ofChange Rows.interestMergesSpec).bare.plain.varTypes Tryz.prog) (ds ++ gs)).all (· ≤ reachBytes) = true) (hL : laidMetH Tryz.prog Rows.interestMergesRow.laid W) :
    Calls Tryz.prog 7 args W fun e W' => ∃ v, e = .returned v ∧ Rows.interestMergesSpec.post enc Tryz.prog Tryz.f7 false true false false W args v W' := by
  have hW' := hW
  obtain ⟨p, q, hA0, hV, rfl, hfz, hnd⟩ := hW
  obtain ⟨rfl, rfl⟩ := trodVars_none hV
  have hA : DataW.TrodAll enc Tryz.prog W 0 (fun _ => true) true [49, 51, 24, 5] args.toList ds p := by rw [Tryz.params7] at hA0; exact hA0
  rw [Tryz.params7] at hval
  have hw0 : ∀ m ∈ DataW.weightsEach Tryz.prog [49, 51, 24, 5] ds, m ≤ reachBytes := by
    rw [Tryz.params7, List.append_nil] at hw
    intro m hm
    have := List.all_eq_true.1 hw m (by rw [show (OpenSpec.ofChange Rows.interestMergesSpec).bare.plain.varTypes Tryz.prog = [] from rfl, List.append_nil]; exact hm)
    simpa using this
  obtain ⟨v0, vs0, d0, ds0, p0, q0, hargs0, rfl, rfl, h0, r0⟩ := trodAll_cons hA
  obtain ⟨v1, vs1, d1, ds1, p1, q1, hargs1, rfl, rfl, h1, r1⟩ := trodAll_cons r0
  obtain ⟨v2, vs2, d2, ds2, p2, q2, hargs2, rfl, rfl, h2, r2⟩ := trodAll_cons r1
  obtain ⟨v3, vs3, d3, ds3, p3, q3, hargs3, rfl, rfl, h3, r3⟩ := trodAll_cons r2
  obtain ⟨hz, rfl, rfl⟩ := trodAll_nil r3
  have hargs : args = #[v0, v1, v2, v3] := by apply Array.ext'; simp_all
  subst hargs
  obtain ⟨hw0_, hw1⟩ := weights_here hw0
  obtain ⟨x0, cs0, rfl, k0⟩ := arg_agg 0 o49 (by kernel_rfl) @hval rfl rfl h0 hw0_
  obtain ⟨u0_1, u0_2, u0_3, rfl, ku0_1, ku0_2, ku0_3⟩ := op_TDraft48 k0
  obtain ⟨hw1_, hw2⟩ := weights_here hw1
  obtain ⟨x1, cs1, rfl, k1⟩ := arg_agg 1 o51 (by kernel_rfl) @hval rfl rfl h1 hw1_
  obtain ⟨u1_4, rfl, ku1_4⟩ := op_TDraft50 k1
  obtain ⟨hw2_, hw3⟩ := weights_here hw2
  obtain ⟨x2, cs2, rfl, k2⟩ := arg_agg 2 o24 (by kernel_rfl) @hval rfl rfl h2 hw2_
  obtain ⟨u2_0, rfl, ku2_0⟩ := op_TDraft k2
  obtain ⟨hw3_, hw4⟩ := weights_here hw3
  obtain ⟨x3, k3⟩ := arg_one 3 (Opens.u8 Tryz.underlying5) (by kernel_rfl) @hval rfl rfl h3 hw3_
  obtain rfl : v3 = .int .u8 (x3.toNat : Int) := by have k9 : [v3] = [.int .u8 (x3.toNat : Int)] := k3; cases k9; rfl
  obtain ⟨n, hn⟩ := interestMerges_ex x0 x1 x2 x3
  refine (wardmotelaw27_InterestMerges_c n [] W (by simp) x0 ku0_1 ku0_2 ku0_3 x1 ku1_4 x2 ku2_0 x3 (glob0 hL) hn).mono fun e W' ⟨v, he, hv, hag⟩ => ?_
  subst he; subst hv
  exact ⟨_, rfl, post_of_law hW' rfl (by kernel_rfl) (by kernel_rfl) (by kernel_rfl) Tryz.underlying4 (fun gs hgs => by subst hgs; rfl) hag⟩
def flatD : Nat → DataW Unit → List Value
  | 0, _ => []
  | n + 1, .agg l => l.flatMap (flatD n)
  | _, .lit (.int k z) => [.int k z]
  | _, _ => []
def layOn (d : DataW Unit) : Obj → Obj
  | .cells _ t frozen => .cells (flatD 5 d).toArray t frozen
  | o => o
noncomputable def laidWorld (os : Os) : World :=
  { World.holding Tryz.prog os ⟨#[], #[], []⟩ with heap := ((((World.holding Tryz.prog os ⟨#[], #[], []⟩).heap).modify 0 (layOn Rows.laid_math_bits_deBruijn64tab)).modify 5 (layOn Rows.laid_unicode_utf8_acceptRanges)).modify 4 (layOn Rows.laid_unicode_utf8_first) }
theorem laid_met (os : Os) : laidMet Tryz.prog Rows.interestMergesRow.laid ((laidWorld os).forCall (fun _ _ => 0) ⟨#[], (#[.agg #[.int .u8 0, .slice none 0 0, .slice none 0 0, .slice none 0 0, .int .u8 0], .agg #[.int .u8 0, .int .u8 0, .int .u8 0, .int .u8 0, .slice none 0 0], .agg #[.slice none 0 0], .int .u8 0] : Array Value), []⟩).memory :=
  laidMet_of_run' 8 (by kernel_rfl) (by kernel_rfl)
theorem reads (os : Os) {H : Type} (enc : TypeId × Value → H) : ∃ places, DataW.whole enc Tryz.prog ((laidWorld os).forCall (fun _ _ => 0) ⟨#[], (#[.agg #[.int .u8 0, .slice none 0 0, .slice none 0 0, .slice none 0 0, .int .u8 0], .agg #[.int .u8 0, .int .u8 0, .int .u8 0, .int .u8 0, .slice none 0 0], .agg #[.slice none 0 0], .int .u8 0] : Array Value), []⟩).memory Tryz.f7.params.toList Rows.interestMergesSpec.vars false (#[.agg #[.int .u8 0, .slice none 0 0, .slice none 0 0, .slice none 0 0, .int .u8 0], .agg #[.int .u8 0, .int .u8 0, .int .u8 0, .int .u8 0, .slice none 0 0], .agg #[.slice none 0 0], .int .u8 0] : Array Value).toList 8 = some ([.agg [.lit (.int .u8 0), .nil, .nil, .nil, .lit (.int .u8 0)], .agg [.lit (.int .u8 0), .lit (.int .u8 0), .lit (.int .u8 0), .lit (.int .u8 0), .nil], .agg [.nil], .lit (.int .u8 0)], [], places) :=
  ⟨[], by kernel_rfl⟩
set_option maxRecDepth 100000 in
theorem lifted (os : Os) (started : os.Started) (H : Type) (enc : TypeId × Value → H) (F : Stop.Interp) :
    ReturnsInHanded {} Tryz.checked os 7 .any ((OpenSpec.ofChange Rows.interestMergesSpec).preRow enc Tryz.prog Tryz.f7 Rows.interestMergesRow.domain false Rows.interestMergesRow.laid) (((OpenSpec.ofChange Rows.interestMergesSpec).at F).post enc Tryz.prog Tryz.f7 false true false false) := by
  obtain ⟨places, hx⟩ := reads os enc
  refine returnsInHanded_of_row (C := Tryz.checked) (s := OpenSpec.ofChange Rows.interestMergesSpec) own started (by kernel_rfl) Tryz.func7
    (witness_row_at (enc := enc) (C := Tryz.checked) false (laidWorld os) (#[.agg #[.int .u8 0, .slice none 0 0, .slice none 0 0, .slice none 0 0, .int .u8 0], .agg #[.int .u8 0, .int .u8 0, .int .u8 0, .int .u8 0, .slice none 0 0], .agg #[.slice none 0 0], .int .u8 0] : Array Value) rfl (by kernel_rfl) (by kernel_rfl) (by kernel_rfl)
      (OpenSpec.preRow_of_cond 8 hx (by kernel_rfl) (fun k hk => by cases hk) (by kernel_rfl) (laid_met os))) ?_
  intro W base args ds gs before hval hW _ _ hz hL _ _
  exact contract H enc W base args ds gs before hval hW hz hL
theorem said : Rows.InterestMergesSaid :=
  OpenClaim.holds_of_cond 7 Tryz.f7 rfl rfl rfl rfl rfl rfl rfl ⟨rfl, rfl, rfl, rfl, rfl⟩ rfl rfl rfl rfl rfl (by kernel_rfl) Tryz.func7 (by kernel_rfl)
    (of_decide_eq_true (by kernel_rfl)) (by unfold Func.isWrapper; first | (rw [if_pos (by decide +kernel)]; kernel_rfl) | (rw [if_neg (by decide +kernel)]; exact ⟨rfl, rfl⟩))
    (fun os started H enc _ F => by rw [OpenClaim.pre_eq_preRow]; exact lifted os started H enc F)
theorem plain (f : FuncId) (fn : Func) (hf : Tryz.pinned.checked.prog.funcNamed "wardmote/wardmotelaw27.InterestMerges" = some f) (hfn : Tryz.pinned.checked.prog.funcs[f]? = some fn) :
    true = Tryz.pinned.checked.prog.looks [] ∧ ∀ (j : Nat) t, fn.params[j]? = some t → Tryz.pinned.checked.prog.wantsStandIn t = false := by
  obtain rfl : f = 7 := Option.some.inj ((show Tryz.prog.funcNamed "wardmote/wardmotelaw27.InterestMerges" = some 7 by kernel_rfl).symm.trans hf) |>.symm
  obtain rfl : fn = Tryz.f7 := (Option.some.inj (Tryz.func7.symm.trans hfn)).symm
  refine ⟨by kernel_rfl, fun j t ht => ?_⟩
  rw [Tryz.params7] at ht
  have hm : t ∈ ([49, 51, 24, 5] : List TypeId) := by simpa using Array.mem_of_getElem? ht
  have hall : (([49, 51, 24, 5] : List TypeId).all fun u => !Tryz.prog.wantsStandIn u) = true := by kernel_rfl
  exact (show Tryz.prog.wantsStandIn t = false by simpa using List.all_eq_true.1 hall t hm)
/-- THE CARD. -/
theorem interestMerges_holds : Rows.InterestMergesCardSaid :=
  Claim7.holds_tied_plain_at .later [] _ _ _ _ said (fun _ h => by cases h) (by kernel_rfl) (fun _ h => by cases h) interestMerges_row_tie rfl ⟨rfl, rfl⟩ (by kernel_rfl) rfl plain (by kernel_rfl)
end Go.Proofs.YtfccehcnajelgaaGreatDoor
