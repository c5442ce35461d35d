/- Whatever the call is given, MinorityLines of the package wardmotelaw29 returns true and leaves its arguments as they were. The conditions: the listed variables of unicode/utf8 hold what the text of the library lays them with (the card ties that), and each string and slice takes at most 2^47 - 4096 bytes, as the row has it. -/
import Derived.Test.YtmhnkiifknjgaaaGreatDoorPAZe
import Derived.Test.YtmhnkiifknjgaaaGreatDoorPCd
import Derived.Test.YtmhnkiifknjgaaaGreatDoorCards
import Derived.Test.YtmhnkiifknjgaaaGreatDoorTie
import Derived.SevenTiedAt
namespace Go.Proofs.YtmhnkiifknjgaaaGreatDoor
open Go Go.RowKit Go.WideElems Go.ChangeShapes Go.WideShapes Go.ChangeAt

theorem o22 : Opens Tryz.prog 22 (List UInt8) := Opens.slice Tryz.underlying22 (by kernel_rfl) (by kernel_rfl) (Opens.u8 Tryz.underlying5)
theorem o24 : Opens Tryz.prog 24 Tk := Opens.via (fun x : Tk => (x.fl, x.fj, x.fm, x.fp, x.fNums)) (fun y => ⟨y.1, y.2.1, y.2.2.1, y.2.2.2.1, y.2.2.2.2⟩) (fun _ => rfl) (Opens.struct (ts := [5, 5, 5, 5, 22]) Tryz.underlying24 (by kernel_rfl) (by kernel_rfl) (by kernel_rfl) (OpensAll.cons (Opens.u8 Tryz.underlying5) (OpensAll.cons (Opens.u8 Tryz.underlying5) (OpensAll.cons (Opens.u8 Tryz.underlying5) (OpensAll.cons (Opens.u8 Tryz.underlying5) (OpensAll.one o22))))))
theorem o26 : Opens Tryz.prog 26 TBend := Opens.via (fun x : TBend => (x.fM, x.fAt, x.fN)) (fun y => ⟨y.1, y.2.1, y.2.2⟩) (fun _ => rfl) (Opens.struct (ts := [5, 5, 3]) Tryz.underlying26 (by kernel_rfl) (by kernel_rfl) (by kernel_rfl) (OpensAll.cons (Opens.u8 Tryz.underlying5) (OpensAll.cons (Opens.u8 Tryz.underlying5) (OpensAll.one (Opens.i64 Tryz.underlying3)))))
theorem Opens.u32 {P : Program} {t : TypeId} (ht : P.underlying t = some (.int .u32)) : Opens P t UInt32 := fun h _ => by
  obtain ⟨n, rfl, _, hw⟩ := DataW.trod_int ht h
  have h2 : 0 <= n /\ n <= 4294967295 := wf_le hw
  refine ⟨UInt32.ofNat n.toNat, ?_⟩
  show _ = [Value.int .u32 ((UInt32.ofNat n.toNat).toNat : Int)]
  rw [UInt32.toNat_ofNat_of_lt' (by show _ < 4294967296; omega), Int.toNat_of_nonneg h2.1]
theorem o27 : Opens Tryz.prog 27 (List UInt32) := Opens.slice Tryz.underlying27 (by kernel_rfl) (by kernel_rfl) (Opens.u32 Tryz.underlying37)
theorem op_Tk {w : World} {L : List Nat} {cs : List Value} {x : Tk} (h : Rep.R w L cs x) : ∃ v4 : Value, cs = [.int .u8 (x.fl.toNat : Int), .int .u8 (x.fj.toNat : Int), .int .u8 (x.fm.toNat : Int), .int .u8 (x.fp.toNat : Int), v4] /\ Rep.R w L [v4] x.fNums := by
  obtain ⟨c0, r0, rfl, h0, h⟩ := h
  have e0 : c0 = [.int .u8 (x.fl.toNat : Int)] := h0; subst e0
  obtain ⟨c1, r1, rfl, h1, h⟩ := h
  have e1 : c1 = [.int .u8 (x.fj.toNat : Int)] := h1; subst e1
  obtain ⟨c2, r2, rfl, h2, h⟩ := h
  have e2 : c2 = [.int .u8 (x.fm.toNat : Int)] := h2; subst e2
  obtain ⟨c3, r3, rfl, h3, h⟩ := h
  have e3 : c3 = [.int .u8 (x.fp.toNat : Int)] := h3; subst e3
  obtain ⟨v4, rfl, kv4⟩ := eH (xs := x.fNums) h
  exact ⟨v4, rfl, kv4⟩
theorem nD {w : World} {L : List Nat} {cs : List Value} {x : TBend} (h : Rep.R w L cs x) : cs = [.int .u8 (x.fM.toNat : Int), .int .u8 (x.fAt.toNat : Int), .int .i64 x.fN] := by
  obtain ⟨c0, r0, rfl, h0, h⟩ := h
  have e0 : c0 = [.int .u8 (x.fM.toNat : Int)] := h0; subst e0
  obtain ⟨c1, r1, rfl, h1, h⟩ := h
  have e1 : c1 = [.int .u8 (x.fAt.toNat : Int)] := h1; subst e1
  have e2 : r1 = [.int .i64 x.fN] := h; subst e2
  rfl
theorem own : ownKnob Tryz.prog.godebug = none := by kernel_rfl
theorem ji (H : Type) (enc : TypeId × Value -> H) (W : World) (base : Nat) (args : Array Value) (ds gs : List (DataW H)) (before : List MemPlace)
    (hval : ∀ (j : Nat) t v, Tryz.f3.params[j]? = some t -> args[j]? = some v -> Value.okWide Tryz.prog W .any base t v)
    (hW : DataW.Whole enc Tryz.prog Tryz.f3.params.toList Rows.minorityLinesSpec.vars false W args.toList ds gs before) (hw : (DataW.weightsEach Tryz.prog (Tryz.f3.params.toList ++ (OpenSpec.ofChange Rows.minorityLinesSpec).bare.plain.varTypes Tryz.prog) (ds ++ gs)).all (· <= reachBytes) = true) (_hL : laidMetH Tryz.prog Rows.minorityLinesRow.laid W) :
    Calls Tryz.prog 3 args W fun e W' => ∃ v, e = .returned v /\ Rows.minorityLinesSpec.post enc Tryz.prog Tryz.f3 false true false false W args v W' := by
  have hW' := hW
  obtain ⟨p, q, hA0, hV, rfl, hfz, hnd⟩ := hW
  obtain ⟨rfl, rfl⟩ := trodVars_none hV
  have hA : DataW.TrodAll enc Tryz.prog W 0 (fun _ => true) true [5, 24, 26, 27, 3, 3] args.toList ds p := by rw [Tryz.params3] at hA0; exact hA0
  rw [Tryz.params3] at hval
  have hw0 : ∀ m ∈ DataW.weightsEach Tryz.prog [5, 24, 26, 27, 3, 3] ds, m <= reachBytes := by
    rw [Tryz.params3, List.append_nil] at hw
    intro m hm
    have := List.all_eq_true.1 hw m (by rw [show (OpenSpec.ofChange Rows.minorityLinesSpec).bare.plain.varTypes Tryz.prog = [] from rfl, List.append_nil]; exact hm)
    simpa using this
  obtain ⟨v0, vs0, d0, ds0, p0, q0, hargs0, rfl, rfl, h0, r0⟩ := trodAll_cons hA
  obtain ⟨v1, vs1, d1, ds1, p1, q1, hargs1, rfl, rfl, h1, r1⟩ := trodAll_cons r0
  obtain ⟨v2, vs2, d2, ds2, p2, q2, hargs2, rfl, rfl, h2, r2⟩ := trodAll_cons r1
  obtain ⟨v3, vs3, d3, ds3, p3, q3, hargs3, rfl, rfl, h3, r3⟩ := trodAll_cons r2
  obtain ⟨v4, vs4, d4, ds4, p4, q4, hargs4, rfl, rfl, h4, r4⟩ := trodAll_cons r3
  obtain ⟨v5, vs5, d5, ds5, p5, q5, hargs5, rfl, rfl, h5, r5⟩ := trodAll_cons r4
  obtain ⟨hz, rfl, rfl⟩ := trodAll_nil r5
  have hargs : args = #[v0, v1, v2, v3, v4, v5] := by apply Array.ext'; simp_all
  subst hargs
  obtain ⟨hw0_, hw1⟩ := bB hw0
  obtain ⟨x0, k0⟩ := gk 0 (Opens.u8 Tryz.underlying5) (by kernel_rfl) @hval rfl rfl h0 hw0_
  obtain rfl : v0 = .int .u8 (x0.toNat : Int) := by have k9 : [v0] = [.int .u8 (x0.toNat : Int)] := k0; cases k9; rfl
  obtain ⟨hw1_, hw2⟩ := bB hw1
  obtain ⟨x1, cs1, rfl, k1⟩ := kR 1 o24 (by kernel_rfl) @hval rfl rfl h1 hw1_
  obtain ⟨u1_4, rfl, ku1_4⟩ := op_Tk k1
  obtain ⟨hw2_, hw3⟩ := bB hw2
  obtain ⟨x2, cs2, rfl, k2⟩ := kR 2 o26 (by kernel_rfl) @hval rfl rfl h2 hw2_
  obtain rfl := nD k2
  obtain ⟨hw3_, hw4⟩ := bB hw3
  obtain ⟨x3, k3⟩ := gk 3 o27 (by kernel_rfl) @hval rfl rfl h3 hw3_
  obtain ⟨hw4_, hw5⟩ := bB hw4
  obtain ⟨x4, k4⟩ := gk 4 (Opens.i64 Tryz.underlying3) (by kernel_rfl) @hval rfl rfl h4 hw4_
  obtain rfl : v4 = .int .i64 x4 := by have k9 : [v4] = [.int .i64 x4] := k4; cases k9; rfl
  obtain ⟨hw5_, hw6⟩ := bB hw5
  obtain ⟨x5, k5⟩ := gk 5 (Opens.i64 Tryz.underlying3) (by kernel_rfl) @hval rfl rfl h5 hw5_
  obtain rfl : v5 = .int .i64 x5 := by have k9 : [v5] = [.int .i64 x5] := k5; cases k9; rfl
  obtain ⟨n, hn⟩ := eY x0 x1 x2 x3 x4 x5
  refine (ai_c n (L := []) (w := W) (fun _ h => by cases h) x0 x1 ku1_4 x2 k3  hn).mono fun e W' ⟨v, he, hv, hag⟩ => ?_
  subst he; subst hv
  exact ⟨_, rfl, js hW' rfl (by kernel_rfl) (by kernel_rfl) (by kernel_rfl) Tryz.underlying4 (fun gs hgs => by subst hgs; rfl) hag⟩
def flatD : Nat -> DataW Unit -> List Value
  | 0, _ => []
  | n + 1, .agg l => l.flatMap (flatD n)
  | _, .lit (.int k z) => [.int k z]
  | _, _ => []
def layOn (d : DataW Unit) : Obj -> Obj
  | .cells _ t frozen => .cells (flatD 5 d).toArray t frozen
  | o => o
noncomputable def laidWorld (os : Os) : World :=
  { World.holding Tryz.prog os ⟨#[], #[], []⟩ with heap := (((World.holding Tryz.prog os ⟨#[], #[], []⟩).heap).modify 3 (layOn Rows.laid_unicode_utf8_acceptRanges)).modify 2 (layOn Rows.laid_unicode_utf8_first) }
theorem ng (os : Os) : laidMet Tryz.prog Rows.minorityLinesRow.laid ((laidWorld os).forCall (fun _ _ => 0) ⟨#[], (#[.int .u8 0, .agg #[.int .u8 0, .int .u8 0, .int .u8 0, .int .u8 0, .slice none 0 0], .agg #[.int .u8 0, .int .u8 0, .int .i64 0], .slice none 0 0, .int .i64 0, .int .i64 0] : Array Value), []⟩).memory :=
  laidMet_of_run' 8 (by kernel_rfl) (by kernel_rfl)
theorem reads (os : Os) {H : Type} (enc : TypeId × Value -> H) : ∃ places, DataW.whole enc Tryz.prog ((laidWorld os).forCall (fun _ _ => 0) ⟨#[], (#[.int .u8 0, .agg #[.int .u8 0, .int .u8 0, .int .u8 0, .int .u8 0, .slice none 0 0], .agg #[.int .u8 0, .int .u8 0, .int .i64 0], .slice none 0 0, .int .i64 0, .int .i64 0] : Array Value), []⟩).memory Tryz.f3.params.toList Rows.minorityLinesSpec.vars false (#[.int .u8 0, .agg #[.int .u8 0, .int .u8 0, .int .u8 0, .int .u8 0, .slice none 0 0], .agg #[.int .u8 0, .int .u8 0, .int .i64 0], .slice none 0 0, .int .i64 0, .int .i64 0] : Array Value).toList 8 = some ([.lit (.int .u8 0), .agg [.lit (.int .u8 0), .lit (.int .u8 0), .lit (.int .u8 0), .lit (.int .u8 0), .nil], .agg [.lit (.int .u8 0), .lit (.int .u8 0), .lit (.int .i64 0)], .nil, .lit (.int .i64 0), .lit (.int .i64 0)], [], places) :=
  ⟨[], by kernel_rfl⟩
set_option maxRecDepth 100000 in
theorem lifted (os : Os) (started : os.Started) (H : Type) (enc : TypeId × Value -> H) (F : Stop.Interp) :
    ReturnsInHanded {} Tryz.checked os 3 .any ((OpenSpec.ofChange Rows.minorityLinesSpec).preRow enc Tryz.prog Tryz.f3 Rows.minorityLinesRow.domain false Rows.minorityLinesRow.laid) (((OpenSpec.ofChange Rows.minorityLinesSpec).at F).post enc Tryz.prog Tryz.f3 false true false false) := by
  obtain ⟨places, hx⟩ := reads os enc
  refine returnsInHanded_of_row (C := Tryz.checked) (s := OpenSpec.ofChange Rows.minorityLinesSpec) own started (by kernel_rfl) Tryz.func3
    (witness_row_at (enc := enc) (C := Tryz.checked) false (laidWorld os) (#[.int .u8 0, .agg #[.int .u8 0, .int .u8 0, .int .u8 0, .int .u8 0, .slice none 0 0], .agg #[.int .u8 0, .int .u8 0, .int .i64 0], .slice none 0 0, .int .i64 0, .int .i64 0] : Array Value) rfl (by kernel_rfl) (by kernel_rfl) (by kernel_rfl)
      (OpenSpec.preRow_of_cond 8 hx (by kernel_rfl) (fun k hk => by cases hk) (by kernel_rfl) (ng os))) ?_
  intro W base args ds gs before hval hW _ _ hz hL _ _
  exact ji H enc W base args ds gs before hval hW hz hL
theorem said : Rows.MinorityLinesSaid :=
  OpenClaim.holds_of_cond 3 Tryz.f3 rfl rfl rfl rfl rfl rfl rfl ⟨rfl, rfl, rfl, rfl, rfl⟩ rfl rfl rfl rfl rfl (by kernel_rfl) Tryz.func3 (by kernel_rfl)
    (of_decide_eq_true (by kernel_rfl)) (by unfold Func.isWrapper; first | (rw [if_pos (by decide +kernel)]; kernel_rfl) | (rw [if_neg (by decide +kernel)]; exact ⟨rfl, rfl⟩))
    (fun os started H enc _ F => by rw [OpenClaim.pre_eq_preRow]; exact lifted os started H enc F)
theorem plain (f : FuncId) (fn : Func) (hf : Tryz.pinned.checked.prog.funcNamed "wardmote/wardmotelaw29.MinorityLines" = some f) (hfn : Tryz.pinned.checked.prog.funcs[f]? = some fn) :
    true = Tryz.pinned.checked.prog.looks [] /\ ∀ (j : Nat) t, fn.params[j]? = some t -> Tryz.pinned.checked.prog.wantsStandIn t = false := by
  obtain rfl : f = 3 := Option.some.inj ((show Tryz.prog.funcNamed "wardmote/wardmotelaw29.MinorityLines" = some 3 by kernel_rfl).symm.trans hf) |>.symm
  obtain rfl : fn = Tryz.f3 := (Option.some.inj (Tryz.func3.symm.trans hfn)).symm
  refine ⟨by kernel_rfl, fun j t ht => ?_⟩
  rw [Tryz.params3] at ht
  have hm : t ∈ ([5, 24, 26, 27, 3, 3] : List TypeId) := by simpa using Array.mem_of_getElem? ht
  have hall : (([5, 24, 26, 27, 3, 3] : List TypeId).all fun u => !Tryz.prog.wantsStandIn u) = true := by kernel_rfl
  exact (show Tryz.prog.wantsStandIn t = false by simpa using List.all_eq_true.1 hall t hm)
/-- THE CARD. -/
theorem minorityLines_holds : Rows.MinorityLinesCardSaid :=
  Claim7.holds_tied_plain_at .later [] _ _ _ _ said (fun _ h => by cases h) (by kernel_rfl) (fun _ h => by cases h) minorityLines_row_tie rfl ⟨rfl, rfl⟩ (by kernel_rfl) rfl plain (by kernel_rfl)
end Go.Proofs.YtmhnkiifknjgaaaGreatDoor
