/- Whatever the call is given, SpreadKnown of the package wardmotelaw05 returns true and leaves its arguments as they were. The condition: each string and slice takes at most 2^47 - 4096 bytes, as the row has it. -/
import Derived.Test.YtkommhmbkbhmlaaGreatRLAy
import Derived.Test.YtkommhmbkbhmlaaGreatRCd
import Derived.Test.YtkommhmbkbhmlaaGreatRows
import Derived.JoinedCond
import Derived.Stop.Joined
import Derived.LaidLaws
import Derived.Deep.DeepHandedRow
import Derived.ChangeAt
namespace Go.Proofs.YtkommhmbkbhmlaaGreat
open Go Go.RowKit Go.WideElems Go.ChangeShapes Go.WideShapes Go.ChangeAt

theorem own : ownKnob Tryz.prog.godebug = none := by kernel_rfl
theorem dl (H : Type) (enc : TypeId × Value -> H) (W : World) (base : Nat) (args : Array Value) (ds gs : List (DataW H)) (before : List MemPlace)
    (hval : ∀ (j : Nat) t v, Tryz.f3.params[j]? = some t -> args[j]? = some v -> Value.okWide Tryz.prog W .any base t v)
    (hW : DataW.Whole enc Tryz.prog Tryz.f3.params.toList Rows.spreadKnownSpec.vars false W args.toList ds gs before) (hw : (DataW.weightsEach Tryz.prog (Tryz.f3.params.toList ++ (OpenSpec.ofChange Rows.spreadKnownSpec).bare.plain.varTypes Tryz.prog) (ds ++ gs)).all (· <= reachBytes) = true) (_hL : laidMetH Tryz.prog Rows.spreadKnownRow.laid W) :
    Calls Tryz.prog 3 args W fun e W' => ∃ v, e = .returned v /\ Rows.spreadKnownSpec.post enc Tryz.prog Tryz.f3 false true false false W args v W' := by
  have hW' := hW
  obtain ⟨p, q, hA0, hV, rfl, hfz, hnd⟩ := hW
  obtain ⟨rfl, rfl⟩ := trodVars_none hV
  have hA : DataW.TrodAll enc Tryz.prog W 0 (fun _ => true) true [] args.toList ds p := by rw [Tryz.params3] at hA0; exact hA0
  rw [Tryz.params3] at hval
  have hw0 : ∀ m ∈ DataW.weightsEach Tryz.prog [] ds, m <= reachBytes := by
    rw [Tryz.params3, List.append_nil] at hw
    intro m hm
    have := List.all_eq_true.1 hw m (by rw [show (OpenSpec.ofChange Rows.spreadKnownSpec).bare.plain.varTypes Tryz.prog = [] from rfl, List.append_nil]; exact hm)
    simpa using this
  obtain ⟨hz, rfl, rfl⟩ := trodAll_nil hA
  have hargs : args = #[] := by apply Array.ext'; simp_all
  subst hargs
  obtain ⟨n, hn⟩ := fF
  refine (aC_c n (L := []) (w := W) (fun _ h => by cases h)   hn).mono fun e W' ⟨v, he, hv, hag⟩ => ?_
  subst he; subst hv
  exact ⟨_, rfl, iR hW' rfl (by kernel_rfl) (by kernel_rfl) (by kernel_rfl) Tryz.underlying4 (fun gs hgs => by subst hgs; rfl) hag⟩
noncomputable def laidWorld (os : Os) : World := World.holding Tryz.prog os ⟨#[], #[], []⟩
theorem lA (os : Os) : laidMet Tryz.prog Rows.spreadKnownRow.laid ((laidWorld os).forCall (fun _ _ => 0) ⟨#[], (#[] : Array Value), []⟩).memory :=
  laidMet_of_run' 8 (by kernel_rfl) (by kernel_rfl)
theorem reads (os : Os) {H : Type} (enc : TypeId × Value -> H) : ∃ places, DataW.whole enc Tryz.prog ((laidWorld os).forCall (fun _ _ => 0) ⟨#[], (#[] : Array Value), []⟩).memory Tryz.f3.params.toList Rows.spreadKnownSpec.vars false (#[] : Array Value).toList 8 = some ([], [], places) :=
  ⟨[], by kernel_rfl⟩
set_option maxRecDepth 100000 in
theorem lifted (os : Os) (started : os.Started) (H : Type) (enc : TypeId × Value -> H) (F : Stop.Interp) :
    ReturnsInHanded {} Tryz.checked os 3 .any ((OpenSpec.ofChange Rows.spreadKnownSpec).preRow enc Tryz.prog Tryz.f3 Rows.spreadKnownRow.domain false Rows.spreadKnownRow.laid) (((OpenSpec.ofChange Rows.spreadKnownSpec).at F).post enc Tryz.prog Tryz.f3 false true false false) := by
  obtain ⟨places, hx⟩ := reads os enc
  refine returnsInHanded_of_row (C := Tryz.checked) (s := OpenSpec.ofChange Rows.spreadKnownSpec) own started (by kernel_rfl) Tryz.func3
    (witness_row_at (enc := enc) (C := Tryz.checked) false (laidWorld os) (#[] : Array Value) rfl (by kernel_rfl) (by kernel_rfl) (by kernel_rfl)
      (OpenSpec.preRow_of_cond 8 hx (by kernel_rfl) (fun k hk => by cases hk) (by kernel_rfl) (lA os))) ?_
  intro W base args ds gs before hval hW _ _ hz hL _ _
  exact dl H enc W base args ds gs before hval hW hz hL
/-- Whatever the call is given, SpreadKnown of the package wardmotelaw05 returns true and leaves its arguments as they were. The condition: each string and slice takes at most 2^47 - 4096 bytes, as the row has it. -/
theorem spreadKnown_holds : Rows.SpreadKnownSaid :=
  OpenClaim.holds_of_cond 3 Tryz.f3 rfl rfl rfl rfl rfl rfl rfl ⟨rfl, rfl, rfl, rfl, rfl⟩ rfl rfl rfl rfl rfl (by kernel_rfl) Tryz.func3 (by kernel_rfl)
    (of_decide_eq_true (by kernel_rfl)) (by unfold Func.isWrapper; first | (rw [if_pos (by decide +kernel)]; kernel_rfl) | (rw [if_neg (by decide +kernel)]; exact ⟨rfl, rfl⟩))
    (fun os started H enc _ F => by rw [OpenClaim.pre_eq_preRow]; exact lifted os started H enc F)
end Go.Proofs.YtkommhmbkbhmlaaGreat
