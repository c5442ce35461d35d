/- Whatever lists, small numbers and length the call is given, WilsonErases of the package wardmotelaw31 returns true and leaves its arguments as they were. The conditions: the table math/bits.deBruijn64tab holds what the text of the program lays it with (the card ties that), and each string and slice takes at most 2^47 - 4096 bytes, as the row has it. -/
import Derived.Test.YtplkfbljncfdnaaDoorF7
import Derived.Test.YtplkfbljncfdnaaDoorLb
import Derived.Test.YtplkfbljncfdnaaDoorCd
import Derived.Test.YtplkfbljncfdnaaDoorCards
import Derived.Test.YtplkfbljncfdnaaDoorTie
import Derived.SevenTiedAt
namespace Go.Proofs.YtplkfbljncfdnaaDoor
open Go Go.RowKit Go.WideElems Go.ChangeShapes Go.WideShapes Go.ChangeAt

theorem o22 : Opens Tryd.prog 22 (List Int) := Opens.slice Tryd.underlying22 (by kernel_rfl) (by kernel_rfl) (Opens.i64 Tryd.underlying3)
theorem o23 : Opens Tryd.prog 23 (List UInt8) := Opens.slice Tryd.underlying23 (by kernel_rfl) (by kernel_rfl) (Opens.u8 Tryd.underlying5)
theorem own : ownKnob Tryd.prog.godebug = none := by kernel_rfl
theorem gTab0 : Tryd.prog.globalNamed "math/bits.deBruijn64tab" = some 0 := by kernel_rfl
theorem gType0 : (Tryd.prog.globals[0]?).map (·.type) = some 144 := by kernel_rfl
def zs0 : List Int := [0, 1, 56, 2, 57, 49, 28, 3, 61, 58, 42, 50, 38, 29, 17, 4, 62, 47, 59, 36, 45, 43, 51, 22, 53, 39, 33, 30, 24, 18, 12, 5, 63, 55, 48, 27, 60, 41, 37, 16, 46, 35, 44, 21, 52, 32, 23, 11, 54, 26, 40, 15, 34, 20, 31, 10, 25, 14, 19, 9, 13, 8, 7, 6]
theorem table0 {W : World} (h : laidMetH Tryd.prog Rows.wilsonErasesRow.laid W) : Lib.TabIs Tryd.prog W "math/bits.deBruijn64tab" .u8 zs0 :=
  Lib.tabIs_of_head (rest := []) gTab0 gType0 Tryd.underlying144 Tryd.underlying5 (by kernel_rfl) (by kernel_rfl) h
theorem glob0 {W : World} (h : laidMetH Tryd.prog Rows.wilsonErasesRow.laid W) : Glob 0 tab0 W := by
  intro i z hz
  have hi : i < 64 := by have := (List.getElem?_eq_some_iff.1 hz).1; simpa [tab0] using this
  have hc := (table0 h).cell gTab0 i (by simpa [zs0] using hi)
  have e : (zs0.getD i 0) = (z.toNat : Int) := by
    have hm : (tab0.map fun z => (z.toNat : Int)) = zs0 := by decide
    rw [← hm]; simp [List.getD, hz]
  rw [e] at hc
  have ha : ((⟨0, 0, none⟩ : Addr).add (i * 1)) = ⟨0, i, none⟩ := by rw [Nat.mul_one]; unfold Addr.add; split <;> simp_all
  rw [ha]; exact hc
theorem contract (H : Type) (enc : TypeId × Value → H) (W : World) (base : Nat) (args : Array Value) (ds gs : List (DataW H)) (before : List MemPlace)
    (hval : ∀ (j : Nat) t v, Tryd.f3.params[j]? = some t → args[j]? = some v → Value.okWide Tryd.prog W .any base t v)
    (hW : DataW.Whole enc Tryd.prog Tryd.f3.params.toList Rows.wilsonErasesSpec.vars false W args.toList ds gs before) (hw : (DataW.weightsEach Tryd.prog (Tryd.f3.params.toList ++ (OpenSpec.ofChange Rows.wilsonErasesSpec).bare.plain.varTypes Tryd.prog) (ds ++ gs)).all (· ≤ reachBytes) = true) (hL : laidMetH Tryd.prog Rows.wilsonErasesRow.laid W) :
    Calls Tryd.prog 3 args W fun e W' => ∃ v, e = .returned v ∧ Rows.wilsonErasesSpec.post enc Tryd.prog Tryd.f3 false true false false W args v W' := by
  have hW' := hW
  obtain ⟨p, q, hA0, hV, rfl, hfz, hnd⟩ := hW
  obtain ⟨rfl, rfl⟩ := trodVars_none hV
  have hA : DataW.TrodAll enc Tryd.prog W 0 (fun _ => true) true [22, 23, 24] args.toList ds p := by rw [Tryd.params3] at hA0; exact hA0
  rw [Tryd.params3] at hval
  have hw0 : ∀ m ∈ DataW.weightsEach Tryd.prog [22, 23, 24] ds, m ≤ reachBytes := by
    rw [Tryd.params3, List.append_nil] at hw
    intro m hm
    have := List.all_eq_true.1 hw m (by rw [show (OpenSpec.ofChange Rows.wilsonErasesSpec).bare.plain.varTypes Tryd.prog = [] from rfl, List.append_nil]; exact hm)
    simpa using this
  obtain ⟨v0, vs0, d0, ds0, p0, q0, hargs0, rfl, rfl, h0, r0⟩ := trodAll_cons hA
  obtain ⟨v1, vs1, d1, ds1, p1, q1, hargs1, rfl, rfl, h1, r1⟩ := trodAll_cons r0
  obtain ⟨v2, vs2, d2, ds2, p2, q2, hargs2, rfl, rfl, h2, r2⟩ := trodAll_cons r1
  obtain ⟨hz, rfl, rfl⟩ := trodAll_nil r2
  have hargs : args = #[v0, v1, v2] := by apply Array.ext'; simp_all
  subst hargs
  obtain ⟨hw0_, hw1⟩ := weights_here hw0
  obtain ⟨x0, k0⟩ := arg_one 0 o22 (by kernel_rfl) @hval rfl rfl h0 hw0_
  obtain ⟨hw1_, hw2⟩ := weights_here hw1
  obtain ⟨x1, k1⟩ := arg_one 1 o23 (by kernel_rfl) @hval rfl rfl h1 hw1_
  obtain ⟨hw2_, hw3⟩ := weights_here hw2
  obtain ⟨x2, k2⟩ := arg_one 2 (Opens.u16 Tryd.underlying24) (by kernel_rfl) @hval rfl rfl h2 hw2_
  obtain rfl : v2 = .int .u16 (x2.toNat : Int) := by have k9 : [v2] = [.int .u16 (x2.toNat : Int)] := k2; cases k9; rfl
  obtain ⟨n, hn⟩ := wilsonErases_true x0 x1 x2
  refine (wardmotelaw31_WilsonErases_c n [] W (by simp) x0 k0 x1 k1 x2 (glob0 hL) hn).mono fun e W' ⟨v, he, hv, hag⟩ => ?_
  subst he; subst hv
  exact ⟨_, rfl, post_of_law hW' rfl (by kernel_rfl) (by kernel_rfl) (by kernel_rfl) Tryd.underlying4 (fun gs hgs => by subst hgs; rfl) hag⟩
noncomputable def laidWorld (os : Os) : World :=
  { World.holding Tryd.prog os ⟨#[], #[], []⟩ with heap := (World.holding Tryd.prog os ⟨#[], #[], []⟩).heap.modify 0 fun
      | .cells _ t frozen => .cells (zs0.map fun z => Value.int .u8 z).toArray t frozen
      | o => o }
theorem laid_met (os : Os) : laidMet Tryd.prog Rows.wilsonErasesRow.laid ((laidWorld os).forCall (fun _ _ => 0) ⟨#[], (#[.slice none 0 0, .slice none 0 0, .int .u16 0] : Array Value), []⟩).memory :=
  laidMet_of_run' 8 (by kernel_rfl) (by kernel_rfl)
theorem reads (os : Os) {H : Type} (enc : TypeId × Value → H) : ∃ places, DataW.whole enc Tryd.prog ((laidWorld os).forCall (fun _ _ => 0) ⟨#[], (#[.slice none 0 0, .slice none 0 0, .int .u16 0] : Array Value), []⟩).memory Tryd.f3.params.toList Rows.wilsonErasesSpec.vars false (#[.slice none 0 0, .slice none 0 0, .int .u16 0] : Array Value).toList 8 = some ([.nil, .nil, .lit (.int .u16 0)], [], places) :=
  ⟨[], by kernel_rfl⟩
set_option maxRecDepth 100000 in
theorem lifted (os : Os) (started : os.Started) (H : Type) (enc : TypeId × Value → H) (F : Stop.Interp) :
    ReturnsInHanded {} Tryd.checked os 3 .any ((OpenSpec.ofChange Rows.wilsonErasesSpec).preRow enc Tryd.prog Tryd.f3 Rows.wilsonErasesRow.domain false Rows.wilsonErasesRow.laid) (((OpenSpec.ofChange Rows.wilsonErasesSpec).at F).post enc Tryd.prog Tryd.f3 false true false false) := by
  obtain ⟨places, hx⟩ := reads os enc
  refine returnsInHanded_of_row (C := Tryd.checked) (s := OpenSpec.ofChange Rows.wilsonErasesSpec) own started (by kernel_rfl) Tryd.func3
    (witness_row_at (enc := enc) (C := Tryd.checked) false (laidWorld os) (#[.slice none 0 0, .slice none 0 0, .int .u16 0] : Array Value) rfl (by kernel_rfl) (by kernel_rfl) (by kernel_rfl)
      (OpenSpec.preRow_of_cond 8 hx (by kernel_rfl) (fun k hk => by cases hk) (by kernel_rfl) (laid_met os))) ?_
  intro W base args ds gs before hval hW _ _ hz hL _ _
  exact contract H enc W base args ds gs before hval hW hz hL
theorem said : Rows.WilsonErasesSaid :=
  OpenClaim.holds_of_cond 3 Tryd.f3 rfl rfl rfl rfl rfl rfl rfl ⟨rfl, rfl, rfl, rfl, rfl⟩ rfl rfl rfl rfl rfl (by kernel_rfl) Tryd.func3 (by kernel_rfl)
    (of_decide_eq_true (by kernel_rfl)) (by unfold Func.isWrapper; first | (rw [if_pos (by decide +kernel)]; kernel_rfl) | (rw [if_neg (by decide +kernel)]; exact ⟨rfl, rfl⟩))
    (fun os started H enc _ F => by rw [OpenClaim.pre_eq_preRow]; exact lifted os started H enc F)
theorem plain (f : FuncId) (fn : Func) (hf : Tryd.pinned.checked.prog.funcNamed "wardmote/wardmotelaw31.WilsonErases" = some f) (hfn : Tryd.pinned.checked.prog.funcs[f]? = some fn) :
    false = Tryd.pinned.checked.prog.looks [] ∧ ∀ (j : Nat) t, fn.params[j]? = some t → Tryd.pinned.checked.prog.wantsStandIn t = false := by
  obtain rfl : f = 3 := Option.some.inj ((show Tryd.prog.funcNamed "wardmote/wardmotelaw31.WilsonErases" = some 3 by kernel_rfl).symm.trans hf) |>.symm
  obtain rfl : fn = Tryd.f3 := (Option.some.inj (Tryd.func3.symm.trans hfn)).symm
  refine ⟨by kernel_rfl, fun j t ht => ?_⟩
  rw [Tryd.params3] at ht
  have hm : t ∈ ([22, 23, 24] : List TypeId) := by simpa using Array.mem_of_getElem? ht
  have hall : (([22, 23, 24] : List TypeId).all fun u => !Tryd.prog.wantsStandIn u) = true := by kernel_rfl
  exact (show Tryd.prog.wantsStandIn t = false by simpa using List.all_eq_true.1 hall t hm)
/-- THE CARD. -/
theorem wilsonErases_holds : Rows.WilsonErasesCardSaid :=
  Claim7.holds_tied_plain_at .later [] _ _ _ _ said (fun _ h => by cases h) (by kernel_rfl) (fun _ h => by cases h) wilsonErases_row_tie rfl ⟨rfl, rfl⟩ (by kernel_rfl) rfl plain (by kernel_rfl)
end Go.Proofs.YtplkfbljncfdnaaDoor
