/- Whatever graph, set and state the call is given, WilsonTrees of the package wardmotelaw31 returns true and leaves its arguments as they were. The conditions: the table math/bits.deBruijn64tab holds what the text of the program lays it with (the card ties that), and each string and slice takes at most 2^47 - 4096 bytes, as the row has it. -/
import Derived.Test.YtplkfbljncfdnaaDoorT8
import Derived.Test.YtplkfbljncfdnaaDoorTLt
import Derived.Test.YtplkfbljncfdnaaDoorCd
import Derived.Test.YtplkfbljncfdnaaDoorCards
import Derived.Test.YtplkfbljncfdnaaDoorTie
import Derived.SevenTiedAt
namespace Go.Proofs.YtplkfbljncfdnaaDoor
open Go Go.RowKit Go.WideElems Go.ChangeShapes Go.WideShapes Go.ChangeAt

theorem o69 : Opens Tryd.prog 69 (UInt8 × UInt8) := Opens.array (k := 2) Tryd.underlying69 (by kernel_rfl) (OpensAll.cons (Opens.u8 Tryd.underlying5) (OpensAll.one (Opens.u8 Tryd.underlying5)))
theorem o32 : Opens Tryd.prog 32 (List (UInt8 × UInt8)) := Opens.slice Tryd.underlying32 (by kernel_rfl) (by kernel_rfl) o69
theorem o34 : Opens Tryd.prog 34 TDraft := Opens.via (fun x : TDraft => (x.fWide, x.fHigh, x.fLess, x.fMore)) (fun y => ⟨y.1, y.2.1, y.2.2.1, y.2.2.2⟩) (fun _ => rfl) (Opens.struct (ts := [5, 5, 24, 32]) Tryd.underlying34 (by kernel_rfl) (by kernel_rfl) (by kernel_rfl) (OpensAll.cons (Opens.u8 Tryd.underlying5) (OpensAll.cons (Opens.u8 Tryd.underlying5) (OpensAll.cons (Opens.u16 Tryd.underlying24) (OpensAll.one o32)))))
theorem o37 : Opens Tryd.prog 37 TChance := Opens.via (fun x : TChance => x.fState) (fun y => ⟨y⟩) (fun _ => rfl) (Opens.struct (ts := [35]) Tryd.underlying37 (by kernel_rfl) (by kernel_rfl) (by kernel_rfl) (OpensAll.one (Opens.u64 Tryd.underlying35)))
theorem op_TDraft {w : World} {L : List Nat} {cs : List Value} {x : TDraft} (h : Rep.R w L cs x) : ∃ v3 : Value, cs = [.int .u8 (x.fWide.toNat : Int), .int .u8 (x.fHigh.toNat : Int), .int .u16 (x.fLess.toNat : Int), v3] ∧ Rep.R w L [v3] x.fMore := by
  obtain ⟨c0, r0, rfl, h0, h⟩ := h
  have e0 : c0 = [.int .u8 (x.fWide.toNat : Int)] := h0; subst e0
  obtain ⟨c1, r1, rfl, h1, h⟩ := h
  have e1 : c1 = [.int .u8 (x.fHigh.toNat : Int)] := h1; subst e1
  obtain ⟨c2, r2, rfl, h2, h⟩ := h
  have e2 : c2 = [.int .u16 (x.fLess.toNat : Int)] := h2; subst e2
  obtain ⟨v3, rfl, kv3⟩ := lst_one (xs := x.fMore) h
  exact ⟨v3, rfl, kv3⟩
theorem mk_TDraft {w : World} {L : List Nat} (a0 : UInt8) (a1 : UInt8) (a2 : UInt16) (a3 : List (UInt8 × UInt8)) {u3 : Value} (h3 : Rep.R w L [u3] a3) : Rep.R w L [.int .u8 (a0.toNat : Int), .int .u8 (a1.toNat : Int), .int .u16 (a2.toNat : Int), u3] (⟨a0, a1, a2, a3⟩ : TDraft) := ⟨[.int .u8 (a0.toNat : Int)], [.int .u8 (a1.toNat : Int), .int .u16 (a2.toNat : Int), u3], rfl, rfl, ⟨[.int .u8 (a1.toNat : Int)], [.int .u16 (a2.toNat : Int), u3], rfl, rfl, ⟨[.int .u16 (a2.toNat : Int)], [u3], rfl, rfl, h3⟩⟩⟩
theorem op_TChance {w : World} {L : List Nat} {cs : List Value} {x : TChance} (h : Rep.R w L cs x) : cs = [.int .u64 (x.fState.toNat : Int)] := by
  have e0 : cs = [.int .u64 (x.fState.toNat : Int)] := h; subst e0
  rfl
theorem mk_TChance {w : World} {L : List Nat} (a0 : UInt64) : Rep.R w L [.int .u64 (a0.toNat : Int)] (⟨a0⟩ : TChance) := rfl
theorem own : ownKnob Tryd.prog.godebug = none := by kernel_rfl
theorem gTab0 : Tryd.prog.globalNamed "math/bits.deBruijn64tab" = some 0 := by kernel_rfl
theorem gType0 : (Tryd.prog.globals[0]?).map (·.type) = some 144 := by kernel_rfl
def zs0 : List Int := [0, 1, 56, 2, 57, 49, 28, 3, 61, 58, 42, 50, 38, 29, 17, 4, 62, 47, 59, 36, 45, 43, 51, 22, 53, 39, 33, 30, 24, 18, 12, 5, 63, 55, 48, 27, 60, 41, 37, 16, 46, 35, 44, 21, 52, 32, 23, 11, 54, 26, 40, 15, 34, 20, 31, 10, 25, 14, 19, 9, 13, 8, 7, 6]
theorem table0 {W : World} (h : laidMetH Tryd.prog Rows.wilsonTreesRow.laid W) : Lib.TabIs Tryd.prog W "math/bits.deBruijn64tab" .u8 zs0 :=
  Lib.tabIs_of_head (rest := []) gTab0 gType0 Tryd.underlying144 Tryd.underlying5 (by kernel_rfl) (by kernel_rfl) h
theorem glob0 {W : World} (h : laidMetH Tryd.prog Rows.wilsonTreesRow.laid W) : Glob 0 tab0 W := by
  intro i z hz
  have hi : i < 64 := by have := (List.getElem?_eq_some_iff.1 hz).1; simpa [tab0] using this
  have hc := (table0 h).cell gTab0 i (by simpa [zs0] using hi)
  have e : (zs0.getD i 0) = (z.toNat : Int) := by
    have hm : (tab0.map fun z => (z.toNat : Int)) = zs0 := by decide
    rw [← hm]; simp [List.getD, hz]
  rw [e] at hc
  have ha : ((⟨0, 0, none⟩ : Addr).add (i * 1)) = ⟨0, i, none⟩ := by rw [Nat.mul_one]; unfold Addr.add; split <;> simp_all
  rw [ha]; exact hc
theorem contract (H : Type) (enc : TypeId × Value → H) (W : World) (base : Nat) (args : Array Value) (ds gs : List (DataW H)) (before : List MemPlace)
    (hval : ∀ (j : Nat) t v, Tryd.f8.params[j]? = some t → args[j]? = some v → Value.okWide Tryd.prog W .any base t v)
    (hW : DataW.Whole enc Tryd.prog Tryd.f8.params.toList Rows.wilsonTreesSpec.vars false W args.toList ds gs before) (hw : (DataW.weightsEach Tryd.prog (Tryd.f8.params.toList ++ (OpenSpec.ofChange Rows.wilsonTreesSpec).bare.plain.varTypes Tryd.prog) (ds ++ gs)).all (· ≤ reachBytes) = true) (hL : laidMetH Tryd.prog Rows.wilsonTreesRow.laid W) :
    Calls Tryd.prog 8 args W fun e W' => ∃ v, e = .returned v ∧ Rows.wilsonTreesSpec.post enc Tryd.prog Tryd.f8 false true false false W args v W' := by
  have hW' := hW
  obtain ⟨p, q, hA0, hV, rfl, hfz, hnd⟩ := hW
  obtain ⟨rfl, rfl⟩ := trodVars_none hV
  have hA : DataW.TrodAll enc Tryd.prog W 0 (fun _ => true) true [34, 35, 37] args.toList ds p := by rw [Tryd.params8] at hA0; exact hA0
  rw [Tryd.params8] at hval
  have hw0 : ∀ m ∈ DataW.weightsEach Tryd.prog [34, 35, 37] ds, m ≤ reachBytes := by
    rw [Tryd.params8, List.append_nil] at hw
    intro m hm
    have := List.all_eq_true.1 hw m (by rw [show (OpenSpec.ofChange Rows.wilsonTreesSpec).bare.plain.varTypes Tryd.prog = [] from rfl, List.append_nil]; exact hm)
    simpa using this
  obtain ⟨v0, vs0, d0, ds0, p0, q0, hargs0, rfl, rfl, h0, r0⟩ := trodAll_cons hA
  obtain ⟨v1, vs1, d1, ds1, p1, q1, hargs1, rfl, rfl, h1, r1⟩ := trodAll_cons r0
  obtain ⟨v2, vs2, d2, ds2, p2, q2, hargs2, rfl, rfl, h2, r2⟩ := trodAll_cons r1
  obtain ⟨hz, rfl, rfl⟩ := trodAll_nil r2
  have hargs : args = #[v0, v1, v2] := by apply Array.ext'; simp_all
  subst hargs
  obtain ⟨hw0_, hw1⟩ := weights_here hw0
  obtain ⟨x0, cs0, rfl, k0⟩ := arg_agg 0 o34 (by kernel_rfl) @hval rfl rfl h0 hw0_
  obtain ⟨u0_3, rfl, ku0_3⟩ := op_TDraft k0
  obtain ⟨hw1_, hw2⟩ := weights_here hw1
  obtain ⟨x1, k1⟩ := arg_one 1 (Opens.u64 Tryd.underlying35) (by kernel_rfl) @hval rfl rfl h1 hw1_
  obtain rfl : v1 = .int .u64 (x1.toNat : Int) := by have k9 : [v1] = [.int .u64 (x1.toNat : Int)] := k1; cases k9; rfl
  obtain ⟨hw2_, hw3⟩ := weights_here hw2
  obtain ⟨x2, cs2, rfl, k2⟩ := arg_agg 2 o37 (by kernel_rfl) @hval rfl rfl h2 hw2_
  obtain rfl := op_TChance k2
  obtain ⟨n, hn⟩ := wilsonTrees_true x0 x1 x2
  refine (wardmotelaw31_WilsonTrees_c n [] W (by simp) x0 ku0_3 x1 x2 (glob0 hL) hn).mono fun e W' ⟨v, he, hv, hag⟩ => ?_
  subst he; subst hv
  exact ⟨_, rfl, post_of_law hW' rfl (by kernel_rfl) (by kernel_rfl) (by kernel_rfl) Tryd.underlying4 (fun gs hgs => by subst hgs; rfl) hag⟩
noncomputable def laidWorld (os : Os) : World :=
  { World.holding Tryd.prog os ⟨#[], #[], []⟩ with heap := (World.holding Tryd.prog os ⟨#[], #[], []⟩).heap.modify 0 fun
      | .cells _ t frozen => .cells (zs0.map fun z => Value.int .u8 z).toArray t frozen
      | o => o }
theorem laid_met (os : Os) : laidMet Tryd.prog Rows.wilsonTreesRow.laid ((laidWorld os).forCall (fun _ _ => 0) ⟨#[], (#[.agg #[.int .u8 0, .int .u8 0, .int .u16 0, .slice none 0 0], .int .u64 0, .agg #[.int .u64 0]] : Array Value), []⟩).memory :=
  laidMet_of_run' 8 (by kernel_rfl) (by kernel_rfl)
theorem reads (os : Os) {H : Type} (enc : TypeId × Value → H) : ∃ places, DataW.whole enc Tryd.prog ((laidWorld os).forCall (fun _ _ => 0) ⟨#[], (#[.agg #[.int .u8 0, .int .u8 0, .int .u16 0, .slice none 0 0], .int .u64 0, .agg #[.int .u64 0]] : Array Value), []⟩).memory Tryd.f8.params.toList Rows.wilsonTreesSpec.vars false (#[.agg #[.int .u8 0, .int .u8 0, .int .u16 0, .slice none 0 0], .int .u64 0, .agg #[.int .u64 0]] : Array Value).toList 8 = some ([.agg [.lit (.int .u8 0), .lit (.int .u8 0), .lit (.int .u16 0), .nil], .lit (.int .u64 0), .agg [.lit (.int .u64 0)]], [], places) :=
  ⟨[], by kernel_rfl⟩
set_option maxRecDepth 100000 in
theorem lifted (os : Os) (started : os.Started) (H : Type) (enc : TypeId × Value → H) (F : Stop.Interp) :
    ReturnsInHanded {} Tryd.checked os 8 .any ((OpenSpec.ofChange Rows.wilsonTreesSpec).preRow enc Tryd.prog Tryd.f8 Rows.wilsonTreesRow.domain false Rows.wilsonTreesRow.laid) (((OpenSpec.ofChange Rows.wilsonTreesSpec).at F).post enc Tryd.prog Tryd.f8 false true false false) := by
  obtain ⟨places, hx⟩ := reads os enc
  refine returnsInHanded_of_row (C := Tryd.checked) (s := OpenSpec.ofChange Rows.wilsonTreesSpec) own started (by kernel_rfl) Tryd.func8
    (witness_row_at (enc := enc) (C := Tryd.checked) false (laidWorld os) (#[.agg #[.int .u8 0, .int .u8 0, .int .u16 0, .slice none 0 0], .int .u64 0, .agg #[.int .u64 0]] : Array Value) rfl (by kernel_rfl) (by kernel_rfl) (by kernel_rfl)
      (OpenSpec.preRow_of_cond 8 hx (by kernel_rfl) (fun k hk => by cases hk) (by kernel_rfl) (laid_met os))) ?_
  intro W base args ds gs before hval hW _ _ hz hL _ _
  exact contract H enc W base args ds gs before hval hW hz hL
theorem said : Rows.WilsonTreesSaid :=
  OpenClaim.holds_of_cond 8 Tryd.f8 rfl rfl rfl rfl rfl rfl rfl ⟨rfl, rfl, rfl, rfl, rfl⟩ rfl rfl rfl rfl rfl (by kernel_rfl) Tryd.func8 (by kernel_rfl)
    (of_decide_eq_true (by kernel_rfl)) (by unfold Func.isWrapper; first | (rw [if_pos (by decide +kernel)]; kernel_rfl) | (rw [if_neg (by decide +kernel)]; exact ⟨rfl, rfl⟩))
    (fun os started H enc _ F => by rw [OpenClaim.pre_eq_preRow]; exact lifted os started H enc F)
theorem plain (f : FuncId) (fn : Func) (hf : Tryd.pinned.checked.prog.funcNamed "wardmote/wardmotelaw31.WilsonTrees" = some f) (hfn : Tryd.pinned.checked.prog.funcs[f]? = some fn) :
    false = Tryd.pinned.checked.prog.looks [] ∧ ∀ (j : Nat) t, fn.params[j]? = some t → Tryd.pinned.checked.prog.wantsStandIn t = false := by
  obtain rfl : f = 8 := Option.some.inj ((show Tryd.prog.funcNamed "wardmote/wardmotelaw31.WilsonTrees" = some 8 by kernel_rfl).symm.trans hf) |>.symm
  obtain rfl : fn = Tryd.f8 := (Option.some.inj (Tryd.func8.symm.trans hfn)).symm
  refine ⟨by kernel_rfl, fun j t ht => ?_⟩
  rw [Tryd.params8] at ht
  have hm : t ∈ ([34, 35, 37] : List TypeId) := by simpa using Array.mem_of_getElem? ht
  have hall : (([34, 35, 37] : List TypeId).all fun u => !Tryd.prog.wantsStandIn u) = true := by kernel_rfl
  exact (show Tryd.prog.wantsStandIn t = false by simpa using List.all_eq_true.1 hall t hm)
/-- THE CARD. -/
theorem wilsonTrees_holds : Rows.WilsonTreesCardSaid :=
  Claim7.holds_tied_plain_at .later [] _ _ _ _ said (fun _ h => by cases h) (by kernel_rfl) (fun _ h => by cases h) wilsonTrees_row_tie rfl ⟨rfl, rfl⟩ (by kernel_rfl) rfl plain (by kernel_rfl)
end Go.Proofs.YtplkfbljncfdnaaDoor
