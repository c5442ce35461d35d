/- Whatever the call is given, MinorityIndexes of the package wardmotelaw29 returns true and leaves its arguments as they were. The conditions: the listed variables of unicode/utf8 hold what the text of the library lays them with (the card ties that), and each string and slice takes at most 2^47 - 4096 bytes, as the row has it. -/
import Derived.Test.YtkhpmhhnolpcnaaGreatDoorVIJt
import Derived.Test.YtkhpmhhnolpcnaaGreatDoorVCd
import Derived.Test.YtkhpmhhnolpcnaaGreatDoorCards
import Derived.Test.YtkhpmhhnolpcnaaGreatDoorTie
import Derived.SevenTiedAt
namespace Go.Proofs.YtkhpmhhnolpcnaaGreatDoor
open Go Go.RowKit Go.WideElems Go.ChangeShapes Go.WideShapes Go.ChangeAt

theorem o22 : Opens Tryz.prog 22 (List UInt8) := Opens.slice Tryz.underlying22 (by kernel_rfl) (by kernel_rfl) (Opens.u8 Tryz.underlying5)
theorem o234 : Opens Tryz.prog 234 (UInt8 × UInt8) := Opens.array (k := 2) Tryz.underlying234 (by kernel_rfl) (OpensAll.cons (Opens.u8 Tryz.underlying5) (OpensAll.one (Opens.u8 Tryz.underlying5)))
theorem o23 : Opens Tryz.prog 23 (List (UInt8 × UInt8)) := Opens.slice Tryz.underlying23 (by kernel_rfl) (by kernel_rfl) o234
theorem o25 : Opens Tryz.prog 25 Ti := Opens.via (fun x : Ti => (x.fN, x.fJ, x.fMore, x.fLabels, x.fK)) (fun y => ⟨y.1, y.2.1, y.2.2.1, y.2.2.2.1, y.2.2.2.2⟩) (fun _ => rfl) (Opens.struct (ts := [5, 22, 23, 22, 5]) Tryz.underlying25 (by kernel_rfl) (by kernel_rfl) (by kernel_rfl) (OpensAll.cons (Opens.u8 Tryz.underlying5) (OpensAll.cons o22 (OpensAll.cons o23 (OpensAll.cons o22 (OpensAll.one (Opens.u8 Tryz.underlying5)))))))
theorem o27 : Opens Tryz.prog 27 Th := Opens.via (fun x : Th => (x.fj, x.fh, x.fl, x.fv, x.fNums)) (fun y => ⟨y.1, y.2.1, y.2.2.1, y.2.2.2.1, y.2.2.2.2⟩) (fun _ => rfl) (Opens.struct (ts := [5, 5, 5, 5, 22]) Tryz.underlying27 (by kernel_rfl) (by kernel_rfl) (by kernel_rfl) (OpensAll.cons (Opens.u8 Tryz.underlying5) (OpensAll.cons (Opens.u8 Tryz.underlying5) (OpensAll.cons (Opens.u8 Tryz.underlying5) (OpensAll.cons (Opens.u8 Tryz.underlying5) (OpensAll.one o22))))))
theorem op_Ti {w : World} {L : List Nat} {cs : List Value} {x : Ti} (h : Rep.R w L cs x) : ∃ v1 v2 v3 : Value, cs = [.int .u8 (x.fN.toNat : Int), v1, v2, v3, .int .u8 (x.fK.toNat : Int)] /\ Rep.R w L [v1] x.fJ /\ Rep.R w L [v2] x.fMore /\ Rep.R w L [v3] x.fLabels := by
  obtain ⟨c0, r0, rfl, h0, h⟩ := h
  have e0 : c0 = [.int .u8 (x.fN.toNat : Int)] := h0; subst e0
  obtain ⟨c1, r1, rfl, h1, h⟩ := h
  obtain ⟨v1, rfl, kv1⟩ := cv (xs := x.fJ) h1
  obtain ⟨c2, r2, rfl, h2, h⟩ := h
  obtain ⟨v2, rfl, kv2⟩ := cv (xs := x.fMore) h2
  obtain ⟨c3, r3, rfl, h3, h⟩ := h
  obtain ⟨v3, rfl, kv3⟩ := cv (xs := x.fLabels) h3
  have e4 : r3 = [.int .u8 (x.fK.toNat : Int)] := h; subst e4
  exact ⟨v1, v2, v3, rfl, kv1, kv2, kv3⟩
theorem op_Th {w : World} {L : List Nat} {cs : List Value} {x : Th} (h : Rep.R w L cs x) : ∃ v4 : Value, cs = [.int .u8 (x.fj.toNat : Int), .int .u8 (x.fh.toNat : Int), .int .u8 (x.fl.toNat : Int), .int .u8 (x.fv.toNat : Int), v4] /\ Rep.R w L [v4] x.fNums := by
  obtain ⟨c0, r0, rfl, h0, h⟩ := h
  have e0 : c0 = [.int .u8 (x.fj.toNat : Int)] := h0; subst e0
  obtain ⟨c1, r1, rfl, h1, h⟩ := h
  have e1 : c1 = [.int .u8 (x.fh.toNat : Int)] := h1; subst e1
  obtain ⟨c2, r2, rfl, h2, h⟩ := h
  have e2 : c2 = [.int .u8 (x.fl.toNat : Int)] := h2; subst e2
  obtain ⟨c3, r3, rfl, h3, h⟩ := h
  have e3 : c3 = [.int .u8 (x.fv.toNat : Int)] := h3; subst e3
  obtain ⟨v4, rfl, kv4⟩ := cv (xs := x.fNums) h
  exact ⟨v4, rfl, kv4⟩
theorem own : ownKnob Tryz.prog.godebug = none := by kernel_rfl
theorem je (H : Type) (enc : TypeId × Value -> H) (W : World) (base : Nat) (args : Array Value) (ds gs : List (DataW H)) (before : List MemPlace)
    (hval : ∀ (j : Nat) t v, Tryz.f3.params[j]? = some t -> args[j]? = some v -> Value.okWide Tryz.prog W .any base t v)
    (hW : DataW.Whole enc Tryz.prog Tryz.f3.params.toList Rows.minorityIndexesSpec.vars false W args.toList ds gs before) (hw : (DataW.weightsEach Tryz.prog (Tryz.f3.params.toList ++ (OpenSpec.ofChange Rows.minorityIndexesSpec).bare.plain.varTypes Tryz.prog) (ds ++ gs)).all (· <= reachBytes) = true) (_hL : laidMetH Tryz.prog Rows.minorityIndexesRow.laid W) :
    Calls Tryz.prog 3 args W fun e W' => ∃ v, e = .returned v /\ Rows.minorityIndexesSpec.post enc Tryz.prog Tryz.f3 false true false false W args v W' := by
  have hW' := hW
  obtain ⟨p, q, hA0, hV, rfl, hfz, hnd⟩ := hW
  obtain ⟨rfl, rfl⟩ := trodVars_none hV
  have hA : DataW.TrodAll enc Tryz.prog W 0 (fun _ => true) true [25, 27, 5, 5] args.toList ds p := by rw [Tryz.params3] at hA0; exact hA0
  rw [Tryz.params3] at hval
  have hw0 : ∀ m ∈ DataW.weightsEach Tryz.prog [25, 27, 5, 5] ds, m <= reachBytes := by
    rw [Tryz.params3, List.append_nil] at hw
    intro m hm
    have := List.all_eq_true.1 hw m (by rw [show (OpenSpec.ofChange Rows.minorityIndexesSpec).bare.plain.varTypes Tryz.prog = [] from rfl, List.append_nil]; exact hm)
    simpa using this
  obtain ⟨v0, vs0, d0, ds0, p0, q0, hargs0, rfl, rfl, h0, r0⟩ := trodAll_cons hA
  obtain ⟨v1, vs1, d1, ds1, p1, q1, hargs1, rfl, rfl, h1, r1⟩ := trodAll_cons r0
  obtain ⟨v2, vs2, d2, ds2, p2, q2, hargs2, rfl, rfl, h2, r2⟩ := trodAll_cons r1
  obtain ⟨v3, vs3, d3, ds3, p3, q3, hargs3, rfl, rfl, h3, r3⟩ := trodAll_cons r2
  obtain ⟨hz, rfl, rfl⟩ := trodAll_nil r3
  have hargs : args = #[v0, v1, v2, v3] := by apply Array.ext'; simp_all
  subst hargs
  obtain ⟨hw0_, hw1⟩ := bG hw0
  obtain ⟨x0, cs0, rfl, k0⟩ := kg 0 o25 (by kernel_rfl) @hval rfl rfl h0 hw0_
  obtain ⟨u0_1, u0_2, u0_3, rfl, ku0_1, ku0_2, ku0_3⟩ := op_Ti k0
  obtain ⟨hw1_, hw2⟩ := bG hw1
  obtain ⟨x1, cs1, rfl, k1⟩ := kg 1 o27 (by kernel_rfl) @hval rfl rfl h1 hw1_
  obtain ⟨u1_4, rfl, ku1_4⟩ := op_Th k1
  obtain ⟨hw2_, hw3⟩ := bG hw2
  obtain ⟨x2, k2⟩ := kh 2 (Opens.u8 Tryz.underlying5) (by kernel_rfl) @hval rfl rfl h2 hw2_
  obtain rfl : v2 = .int .u8 (x2.toNat : Int) := by have k9 : [v2] = [.int .u8 (x2.toNat : Int)] := k2; cases k9; rfl
  obtain ⟨hw3_, hw4⟩ := bG hw3
  obtain ⟨x3, k3⟩ := kh 3 (Opens.u8 Tryz.underlying5) (by kernel_rfl) @hval rfl rfl h3 hw3_
  obtain rfl : v3 = .int .u8 (x3.toNat : Int) := by have k9 : [v3] = [.int .u8 (x3.toNat : Int)] := k3; cases k9; rfl
  obtain ⟨n, hn⟩ := dl x0 x1 x2 x3
  refine (aa_c n (L := []) (w := W) (fun _ h => by cases h) x0 ku0_1 ku0_2 ku0_3 x1 ku1_4 x2 x3  hn).mono fun e W' ⟨v, he, hv, hag⟩ => ?_
  subst he; subst hv
  exact ⟨_, rfl, iF hW' rfl (by kernel_rfl) (by kernel_rfl) (by kernel_rfl) Tryz.underlying4 (fun gs hgs => by subst hgs; rfl) hag⟩
def flatD : Nat -> DataW Unit -> List Value
  | 0, _ => []
  | n + 1, .agg l => l.flatMap (flatD n)
  | _, .lit (.int k z) => [.int k z]
  | _, _ => []
def layOn (d : DataW Unit) : Obj -> Obj
  | .cells _ t frozen => .cells (flatD 5 d).toArray t frozen
  | o => o
noncomputable def laidWorld (os : Os) : World :=
  { World.holding Tryz.prog os ⟨#[], #[], []⟩ with heap := (((World.holding Tryz.prog os ⟨#[], #[], []⟩).heap).modify 3 (layOn Rows.laid_unicode_utf8_acceptRanges)).modify 2 (layOn Rows.laid_unicode_utf8_first) }
theorem lW (os : Os) : laidMet Tryz.prog Rows.minorityIndexesRow.laid ((laidWorld os).forCall (fun _ _ => 0) ⟨#[], (#[.agg #[.int .u8 0, .slice none 0 0, .slice none 0 0, .slice none 0 0, .int .u8 0], .agg #[.int .u8 0, .int .u8 0, .int .u8 0, .int .u8 0, .slice none 0 0], .int .u8 0, .int .u8 0] : Array Value), []⟩).memory :=
  laidMet_of_run' 8 (by kernel_rfl) (by kernel_rfl)
theorem reads (os : Os) {H : Type} (enc : TypeId × Value -> H) : ∃ places, DataW.whole enc Tryz.prog ((laidWorld os).forCall (fun _ _ => 0) ⟨#[], (#[.agg #[.int .u8 0, .slice none 0 0, .slice none 0 0, .slice none 0 0, .int .u8 0], .agg #[.int .u8 0, .int .u8 0, .int .u8 0, .int .u8 0, .slice none 0 0], .int .u8 0, .int .u8 0] : Array Value), []⟩).memory Tryz.f3.params.toList Rows.minorityIndexesSpec.vars false (#[.agg #[.int .u8 0, .slice none 0 0, .slice none 0 0, .slice none 0 0, .int .u8 0], .agg #[.int .u8 0, .int .u8 0, .int .u8 0, .int .u8 0, .slice none 0 0], .int .u8 0, .int .u8 0] : Array Value).toList 8 = some ([.agg [.lit (.int .u8 0), .nil, .nil, .nil, .lit (.int .u8 0)], .agg [.lit (.int .u8 0), .lit (.int .u8 0), .lit (.int .u8 0), .lit (.int .u8 0), .nil], .lit (.int .u8 0), .lit (.int .u8 0)], [], places) :=
  ⟨[], by kernel_rfl⟩
set_option maxRecDepth 100000 in
theorem lifted (os : Os) (started : os.Started) (H : Type) (enc : TypeId × Value -> H) (F : Stop.Interp) :
    ReturnsInHanded {} Tryz.checked os 3 .any ((OpenSpec.ofChange Rows.minorityIndexesSpec).preRow enc Tryz.prog Tryz.f3 Rows.minorityIndexesRow.domain false Rows.minorityIndexesRow.laid) (((OpenSpec.ofChange Rows.minorityIndexesSpec).at F).post enc Tryz.prog Tryz.f3 false true false false) := by
  obtain ⟨places, hx⟩ := reads os enc
  refine returnsInHanded_of_row (C := Tryz.checked) (s := OpenSpec.ofChange Rows.minorityIndexesSpec) own started (by kernel_rfl) Tryz.func3
    (witness_row_at (enc := enc) (C := Tryz.checked) false (laidWorld os) (#[.agg #[.int .u8 0, .slice none 0 0, .slice none 0 0, .slice none 0 0, .int .u8 0], .agg #[.int .u8 0, .int .u8 0, .int .u8 0, .int .u8 0, .slice none 0 0], .int .u8 0, .int .u8 0] : Array Value) rfl (by kernel_rfl) (by kernel_rfl) (by kernel_rfl)
      (OpenSpec.preRow_of_cond 8 hx (by kernel_rfl) (fun k hk => by cases hk) (by kernel_rfl) (lW os))) ?_
  intro W base args ds gs before hval hW _ _ hz hL _ _
  exact je H enc W base args ds gs before hval hW hz hL
theorem said : Rows.MinorityIndexesSaid :=
  OpenClaim.holds_of_cond 3 Tryz.f3 rfl rfl rfl rfl rfl rfl rfl ⟨rfl, rfl, rfl, rfl, rfl⟩ rfl rfl rfl rfl rfl (by kernel_rfl) Tryz.func3 (by kernel_rfl)
    (of_decide_eq_true (by kernel_rfl)) (by unfold Func.isWrapper; first | (rw [if_pos (by decide +kernel)]; kernel_rfl) | (rw [if_neg (by decide +kernel)]; exact ⟨rfl, rfl⟩))
    (fun os started H enc _ F => by rw [OpenClaim.pre_eq_preRow]; exact lifted os started H enc F)
theorem plain (f : FuncId) (fn : Func) (hf : Tryz.pinned.checked.prog.funcNamed "wardmote/wardmotelaw29.MinorityIndexes" = some f) (hfn : Tryz.pinned.checked.prog.funcs[f]? = some fn) :
    true = Tryz.pinned.checked.prog.looks [] /\ ∀ (j : Nat) t, fn.params[j]? = some t -> Tryz.pinned.checked.prog.wantsStandIn t = false := by
  obtain rfl : f = 3 := Option.some.inj ((show Tryz.prog.funcNamed "wardmote/wardmotelaw29.MinorityIndexes" = some 3 by kernel_rfl).symm.trans hf) |>.symm
  obtain rfl : fn = Tryz.f3 := (Option.some.inj (Tryz.func3.symm.trans hfn)).symm
  refine ⟨by kernel_rfl, fun j t ht => ?_⟩
  rw [Tryz.params3] at ht
  have hm : t ∈ ([25, 27, 5, 5] : List TypeId) := by simpa using Array.mem_of_getElem? ht
  have hall : (([25, 27, 5, 5] : List TypeId).all fun u => !Tryz.prog.wantsStandIn u) = true := by kernel_rfl
  exact (show Tryz.prog.wantsStandIn t = false by simpa using List.all_eq_true.1 hall t hm)
/-- THE CARD. -/
theorem minorityIndexes_holds : Rows.MinorityIndexesCardSaid :=
  Claim7.holds_tied_plain_at .later [] _ _ _ _ said (fun _ h => by cases h) (by kernel_rfl) (fun _ h => by cases h) minorityIndexes_row_tie rfl ⟨rfl, rfl⟩ (by kernel_rfl) rfl plain (by kernel_rfl)
end Go.Proofs.YtkhpmhhnolpcnaaGreatDoor
