/- Whatever the call is given, TopListed of the package wardmotetop returns true and leaves its arguments as they were. The conditions: the listed variables of math/bits hold what the text of the library lays them with (the card ties that), and each string and slice takes at most 2^47 - 4096 bytes, as the row has it. -/
import Derived.Test.YtkimkkgicmipbaaGreatDoorVTYv
import Derived.Test.YtkimkkgicmipbaaGreatDoorVCd
import Derived.Test.YtkimkkgicmipbaaGreatDoorCards
import Derived.Test.YtkimkkgicmipbaaGreatDoorTie
import Derived.SevenTiedAt
import Derived.Stop.LaidErr
namespace Go.Proofs.YtkimkkgicmipbaaGreatDoor
open Go Go.RowKit Go.WideElems Go.ChangeShapes Go.WideShapes Go.ChangeAt

theorem o27 : Opens Tryz.prog 27 (UInt8 × UInt8) := Opens.array (k := 2) Tryz.underlying27 (by kernel_rfl) (OpensAll.cons (Opens.u8 Tryz.underlying5) (OpensAll.one (Opens.u8 Tryz.underlying5)))
theorem o23 : Opens Tryz.prog 23 (List (UInt8 × UInt8)) := Opens.slice Tryz.underlying23 (by kernel_rfl) (by kernel_rfl) o27
theorem o25 : Opens Tryz.prog 25 Th := Opens.via (fun x : Th => (x.fw, x.fh, x.fA, x.fC)) (fun y => ⟨y.1, y.2.1, y.2.2.1, y.2.2.2⟩) (fun _ => rfl) (Opens.struct (ts := [5, 5, 22, 23]) Tryz.underlying25 (by kernel_rfl) (by kernel_rfl) (by kernel_rfl) (OpensAll.cons (Opens.u8 Tryz.underlying5) (OpensAll.cons (Opens.u8 Tryz.underlying5) (OpensAll.cons (Opens.u16 Tryz.underlying22) (OpensAll.one o23)))))
theorem o26 : Opens Tryz.prog 26 (List UInt8) := Opens.slice Tryz.underlying26 (by kernel_rfl) (by kernel_rfl) (Opens.u8 Tryz.underlying5)
theorem o29 : Opens Tryz.prog 29 Tf := Opens.via (fun x : Tf => (x.fv, x.fu, x.fCuts, x.fc, x.fy, x.fTree)) (fun y => ⟨y.1, y.2.1, y.2.2.1, y.2.2.2.1, y.2.2.2.2.1, y.2.2.2.2.2⟩) (fun _ => rfl) (Opens.struct (ts := [25, 26, 26, 5, 27, 5]) Tryz.underlying29 (by kernel_rfl) (by kernel_rfl) (by kernel_rfl) (OpensAll.cons o25 (OpensAll.cons o26 (OpensAll.cons o26 (OpensAll.cons (Opens.u8 Tryz.underlying5) (OpensAll.cons o27 (OpensAll.one (Opens.u8 Tryz.underlying5))))))))
theorem op_Th {w : World} {L : List Nat} {cs : List Value} {x : Th} (h : Rep.R w L cs x) : ∃ v3 : Value, cs = [.int .u8 (x.fw.toNat : Int), .int .u8 (x.fh.toNat : Int), .int .u16 (x.fA.toNat : Int), v3] /\ Rep.R w L [v3] x.fC := by
  obtain ⟨c0, r0, rfl, h0, h⟩ := h
  have e0 : c0 = [.int .u8 (x.fw.toNat : Int)] := h0; subst e0
  obtain ⟨c1, r1, rfl, h1, h⟩ := h
  have e1 : c1 = [.int .u8 (x.fh.toNat : Int)] := h1; subst e1
  obtain ⟨c2, r2, rfl, h2, h⟩ := h
  have e2 : c2 = [.int .u16 (x.fA.toNat : Int)] := h2; subst e2
  obtain ⟨v3, rfl, kv3⟩ := bX (xs := x.fC) h
  exact ⟨v3, rfl, kv3⟩
theorem op_Tf {w : World} {L : List Nat} {cs : List Value} {x : Tf} (h : Rep.R w L cs x) : ∃ v3 v4 v5 : Value, cs = [.int .u8 (x.fv.fw.toNat : Int), .int .u8 (x.fv.fh.toNat : Int), .int .u16 (x.fv.fA.toNat : Int), v3, v4, v5, .int .u8 (x.fc.toNat : Int), .int .u8 (x.fy.1.toNat : Int), .int .u8 (x.fy.2.toNat : Int), .int .u8 (x.fTree.toNat : Int)] /\ Rep.R w L [v3] x.fv.fC /\ Rep.R w L [v4] x.fu /\ Rep.R w L [v5] x.fCuts := by
  obtain ⟨c0, r0, rfl, h0, h⟩ := h
  obtain ⟨v3, rfl, kv3⟩ := op_Th (x := x.fv) h0
  obtain ⟨c1, r1, rfl, h1, h⟩ := h
  obtain ⟨v4, rfl, kv4⟩ := bX (xs := x.fu) h1
  obtain ⟨c2, r2, rfl, h2, h⟩ := h
  obtain ⟨v5, rfl, kv5⟩ := bX (xs := x.fCuts) h2
  obtain ⟨c3, r3, rfl, h3, h⟩ := h
  have e3 : c3 = [.int .u8 (x.fc.toNat : Int)] := h3; subst e3
  obtain ⟨c4, r4, rfl, h4, h⟩ := h
  obtain rfl := jG (x := x.fy) h4
  have e5 : r4 = [.int .u8 (x.fTree.toNat : Int)] := h; subst e5
  exact ⟨v3, v4, v5, rfl, kv3, kv4, kv5⟩
theorem own : ownKnob Tryz.prog.godebug = none := by kernel_rfl
theorem gTab0 : Tryz.prog.globalNamed "math/bits.deBruijn64tab" = some 0 := by kernel_rfl
theorem gType0 : (Tryz.prog.globals[0]?).map (·.type) = some 165 := by kernel_rfl
def zs0 : List Int := [0, 1, 56, 2, 57, 49, 28, 3, 61, 58, 42, 50, 38, 29, 17, 4, 62, 47, 59, 36, 45, 43, 51, 22, 53, 39, 33, 30, 24, 18, 12, 5, 63, 55, 48, 27, 60, 41, 37, 16, 46, 35, 44, 21, 52, 32, 23, 11, 54, 26, 40, 15, 34, 20, 31, 10, 25, 14, 19, 9, 13, 8, 7, 6]
theorem table0 {W : World} (h : laidMetH Tryz.prog Rows.topListedRow.laid W) : Lib.TabIs Tryz.prog W "math/bits.deBruijn64tab" .u8 zs0 :=
  Lib.tabIs_of_head (rest := []) gTab0 gType0 Tryz.underlying165 Tryz.underlying5 (by kernel_rfl) (by kernel_rfl) (laidMet.tail (show laidMet Tryz.prog [("math/bits.deBruijn32tab", Rows.laid_math_bits_deBruijn32tab), ("math/bits.deBruijn64tab", Rows.laid_math_bits_deBruijn64tab)] W from h))
theorem glob0 {W : World} (h : laidMetH Tryz.prog Rows.topListedRow.laid W) : Glob 0 tab0 W := by
  intro i z hz
  have hi : i < 64 := by have := (List.getElem?_eq_some_iff.1 hz).1; simpa [tab0] using this
  have hc := (table0 h).cell gTab0 i (by simpa [zs0] using hi)
  have e : (zs0.getD i 0) = (z.toNat : Int) := by
    have hm : (tab0.map fun z => (z.toNat : Int)) = zs0 := by decide
    rw [<- hm]; simp [List.getD, hz]
  rw [e] at hc
  have ha : ((⟨0, 0, none⟩ : Addr).add (i * 1)) = ⟨0, i, none⟩ := by rw [Nat.mul_one]; unfold Addr.add; split <;> simp_all
  rw [ha]; exact hc
theorem eR (H : Type) (enc : TypeId × Value -> H) (W : World) (base : Nat) (args : Array Value) (ds gs : List (DataW H)) (before : List MemPlace)
    (hval : ∀ (j : Nat) t v, Tryz.f3.params[j]? = some t -> args[j]? = some v -> Value.okWide Tryz.prog W .any base t v)
    (hW : DataW.Whole enc Tryz.prog Tryz.f3.params.toList Rows.topListedSpec.vars false W args.toList ds gs before) (hw : (DataW.weightsEach Tryz.prog (Tryz.f3.params.toList ++ (OpenSpec.ofChange Rows.topListedSpec).bare.plain.varTypes Tryz.prog) (ds ++ gs)).all (· <= reachBytes) = true) (hL : laidMetH Tryz.prog Rows.topListedRow.laid W) :
    Calls Tryz.prog 3 args W fun e W' => ∃ v, e = .returned v /\ Rows.topListedSpec.post enc Tryz.prog Tryz.f3 false true false false W args v W' := by
  have hW' := hW
  obtain ⟨p, q, hA0, hV, rfl, hfz, hnd⟩ := hW
  obtain ⟨rfl, rfl⟩ := trodVars_none hV
  have hA : DataW.TrodAll enc Tryz.prog W 0 (fun _ => true) true [29] args.toList ds p := by rw [Tryz.params3] at hA0; exact hA0
  rw [Tryz.params3] at hval
  have hw0 : ∀ m ∈ DataW.weightsEach Tryz.prog [29] ds, m <= reachBytes := by
    rw [Tryz.params3, List.append_nil] at hw
    intro m hm
    have := List.all_eq_true.1 hw m (by rw [show (OpenSpec.ofChange Rows.topListedSpec).bare.plain.varTypes Tryz.prog = [] from rfl, List.append_nil]; exact hm)
    simpa using this
  obtain ⟨v0, vs0, d0, ds0, p0, q0, hargs0, rfl, rfl, h0, r0⟩ := trodAll_cons hA
  obtain ⟨hz, rfl, rfl⟩ := trodAll_nil r0
  have hargs : args = #[v0] := by apply Array.ext'; simp_all
  subst hargs
  obtain ⟨hw0_, hw1⟩ := lS hw0
  obtain ⟨x0, cs0, rfl, k0⟩ := arg_agg 0 o29 (by kernel_rfl) @hval rfl rfl h0 hw0_
  obtain ⟨u0_3, u0_4, u0_5, rfl, ku0_3, ku0_4, ku0_5⟩ := op_Tf k0
  obtain ⟨n, hn⟩ := ma x0
  refine (aB_c n (L := []) (w := W) (fun _ h => by cases h) x0 ku0_3 ku0_4 ku0_5 (glob0 hL) hn).mono fun e W' ⟨v, he, hv, hag⟩ => ?_
  subst he; subst hv
  exact ⟨_, rfl, nH hW' rfl (by kernel_rfl) (by kernel_rfl) (by kernel_rfl) Tryz.underlying4 (fun gs hgs => by subst hgs; rfl) hag⟩
def flatD : Nat -> DataW Unit -> List Value
  | 0, _ => []
  | n + 1, .agg l => l.flatMap (flatD n)
  | _, .lit (.int k z) => [.int k z]
  | _, _ => []
def layOn (d : DataW Unit) : Obj -> Obj
  | .cells _ t frozen => .cells (flatD 5 d).toArray t frozen
  | o => o
noncomputable def laidWorld (os : Os) : World :=
  { World.holding Tryz.prog os ⟨#[], #[], []⟩ with heap := (((World.holding Tryz.prog os ⟨#[], #[], []⟩).heap).modify 1 (layOn Rows.laid_math_bits_deBruijn32tab)).modify 0 (layOn Rows.laid_math_bits_deBruijn64tab) }
theorem ta (os : Os) : laidMet Tryz.prog Rows.topListedRow.laid ((laidWorld os).forCall (fun _ _ => 0) ⟨#[], (#[.agg #[.int .u8 0, .int .u8 0, .int .u16 0, .slice none 0 0, .slice none 0 0, .slice none 0 0, .int .u8 0, .int .u8 0, .int .u8 0, .int .u8 0]] : Array Value), []⟩).memory :=
  laidMet_of_run' 8 (by kernel_rfl) (by kernel_rfl)
theorem reads (os : Os) {H : Type} (enc : TypeId × Value -> H) : ∃ places, DataW.whole enc Tryz.prog ((laidWorld os).forCall (fun _ _ => 0) ⟨#[], (#[.agg #[.int .u8 0, .int .u8 0, .int .u16 0, .slice none 0 0, .slice none 0 0, .slice none 0 0, .int .u8 0, .int .u8 0, .int .u8 0, .int .u8 0]] : Array Value), []⟩).memory Tryz.f3.params.toList Rows.topListedSpec.vars false (#[.agg #[.int .u8 0, .int .u8 0, .int .u16 0, .slice none 0 0, .slice none 0 0, .slice none 0 0, .int .u8 0, .int .u8 0, .int .u8 0, .int .u8 0]] : Array Value).toList 8 = some ([.agg [.agg [.lit (.int .u8 0), .lit (.int .u8 0), .lit (.int .u16 0), .nil], .nil, .nil, .lit (.int .u8 0), .agg [.lit (.int .u8 0), .lit (.int .u8 0)], .lit (.int .u8 0)]], [], places) :=
  ⟨[], by kernel_rfl⟩
set_option maxRecDepth 100000 in
theorem lifted (os : Os) (started : os.Started) (H : Type) (enc : TypeId × Value -> H) (F : Stop.Interp) :
    ReturnsInHanded {} Tryz.checked os 3 .any ((OpenSpec.ofChange Rows.topListedSpec).preRow enc Tryz.prog Tryz.f3 Rows.topListedRow.domain false Rows.topListedRow.laid) (((OpenSpec.ofChange Rows.topListedSpec).at F).post enc Tryz.prog Tryz.f3 false true false false) := by
  obtain ⟨places, hx⟩ := reads os enc
  refine returnsInHanded_of_row (C := Tryz.checked) (s := OpenSpec.ofChange Rows.topListedSpec) own started (by kernel_rfl) Tryz.func3
    (witness_row_at (enc := enc) (C := Tryz.checked) false (laidWorld os) (#[.agg #[.int .u8 0, .int .u8 0, .int .u16 0, .slice none 0 0, .slice none 0 0, .slice none 0 0, .int .u8 0, .int .u8 0, .int .u8 0, .int .u8 0]] : Array Value) rfl (by kernel_rfl) (by kernel_rfl) (by kernel_rfl)
      (OpenSpec.preRow_of_cond 8 hx (by kernel_rfl) (fun k hk => by cases hk) (by kernel_rfl) (ta os))) ?_
  intro W base args ds gs before hval hW _ _ hz hL _ _
  exact eR H enc W base args ds gs before hval hW hz hL
theorem said : Rows.TopListedSaid :=
  OpenClaim.holds_of_cond 3 Tryz.f3 rfl rfl rfl rfl rfl rfl rfl ⟨rfl, rfl, rfl, rfl, rfl⟩ rfl rfl rfl rfl rfl (by kernel_rfl) Tryz.func3 (by kernel_rfl)
    (of_decide_eq_true (by kernel_rfl)) (by unfold Func.isWrapper; first | (rw [if_pos (by decide +kernel)]; kernel_rfl) | (rw [if_neg (by decide +kernel)]; exact ⟨rfl, rfl⟩))
    (fun os started H enc _ F => by rw [OpenClaim.pre_eq_preRow]; exact lifted os started H enc F)
theorem plain (f : FuncId) (fn : Func) (hf : Tryz.pinned.checked.prog.funcNamed "wardmote/wardmotetop.TopListed" = some f) (hfn : Tryz.pinned.checked.prog.funcs[f]? = some fn) :
    false = Tryz.pinned.checked.prog.looks [] /\ ∀ (j : Nat) t, fn.params[j]? = some t -> Tryz.pinned.checked.prog.wantsStandIn t = false := by
  obtain rfl : f = 3 := Option.some.inj ((show Tryz.prog.funcNamed "wardmote/wardmotetop.TopListed" = some 3 by kernel_rfl).symm.trans hf) |>.symm
  obtain rfl : fn = Tryz.f3 := (Option.some.inj (Tryz.func3.symm.trans hfn)).symm
  refine ⟨by kernel_rfl, fun j t ht => ?_⟩
  rw [Tryz.params3] at ht
  have hm : t ∈ ([29] : List TypeId) := by simpa using Array.mem_of_getElem? ht
  have hall : (([29] : List TypeId).all fun u => !Tryz.prog.wantsStandIn u) = true := by kernel_rfl
  exact (show Tryz.prog.wantsStandIn t = false by simpa using List.all_eq_true.1 hall t hm)
/-- THE CARD. -/
theorem topListed_holds : Rows.TopListedCardSaid :=
  Claim7.holds_tied_plain_at .later [] _ _ _ _ said (fun _ h => by cases h) (by kernel_rfl) (fun _ h => by cases h) topListed_row_tie rfl ⟨rfl, rfl⟩ (by kernel_rfl) rfl plain (by kernel_rfl)
end Go.Proofs.YtkimkkgicmipbaaGreatDoor
