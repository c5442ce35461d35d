/- Whatever the call is given, SpreadTallies of the package wardmotelaw05 returns true and leaves its arguments as they were. The conditions: the listed variables of unicode/utf8 hold what the text of the library lays them with (the card ties that), and each string and slice takes at most 2^47 - 4096 bytes, as the row has it. -/
import Derived.Test.YtkommhmbkbhmlaaGreatVTAz
import Derived.Test.YtkommhmbkbhmlaaGreatVCd
import Derived.Test.YtkommhmbkbhmlaaGreatRows
import Derived.JoinedCond
import Derived.Stop.Joined
import Derived.LaidLaws
import Derived.Deep.DeepHandedRow
import Derived.ChangeAt
namespace Go.Proofs.YtkommhmbkbhmlaaGreat
open Go Go.RowKit Go.WideElems Go.ChangeShapes Go.WideShapes Go.ChangeAt

theorem o74 : Opens Tryz.prog 74 (List UInt16) := Opens.slice Tryz.underlying74 (by kernel_rfl) (by kernel_rfl) (Opens.u16 Tryz.underlying271)
theorem Opens.u32 {P : Program} {t : TypeId} (ht : P.underlying t = some (.int .u32)) : Opens P t UInt32 := fun h _ => by
  obtain ⟨n, rfl, _, hw⟩ := DataW.trod_int ht h
  have h2 : 0 <= n /\ n <= 4294967295 := wf_le hw
  refine ⟨UInt32.ofNat n.toNat, ?_⟩
  show _ = [Value.int .u32 ((UInt32.ofNat n.toNat).toNat : Int)]
  rw [UInt32.toNat_ofNat_of_lt' (by show _ < 4294967296; omega), Int.toNat_of_nonneg h2.1]
theorem o77 : Opens Tryz.prog 77 Tj := Opens.via (fun x : Tj => (x.fc, x.fBits, x.fo)) (fun y => ⟨y.1, y.2.1, y.2.2⟩) (fun _ => rfl) (Opens.struct (ts := [4, 74, 75]) Tryz.underlying77 (by kernel_rfl) (by kernel_rfl) (by kernel_rfl) (OpensAll.cons (Opens.bool Tryz.underlying4) (OpensAll.cons o74 (OpensAll.one (Opens.u32 Tryz.underlying75)))))
theorem o79 : Opens Tryz.prog 79 Tf := Opens.via (fun x : Tf => (x.fN, x.fD)) (fun y => ⟨y.1, y.2⟩) (fun _ => rfl) (Opens.struct (ts := [77, 77]) Tryz.underlying79 (by kernel_rfl) (by kernel_rfl) (by kernel_rfl) (OpensAll.cons o77 (OpensAll.one o77)))
theorem o64 : Opens Tryz.prog 64 (List Tf) := Opens.slice Tryz.underlying64 (by kernel_rfl) (by kernel_rfl) o79
theorem o66 : Opens Tryz.prog 66 Ti := Opens.via (fun x : Ti => x.fL) (fun y => ⟨y⟩) (fun _ => rfl) (Opens.struct (ts := [64]) Tryz.underlying66 (by kernel_rfl) (by kernel_rfl) (by kernel_rfl) (OpensAll.one o64))
theorem op_Ti {w : World} {L : List Nat} {cs : List Value} {x : Ti} (h : Rep.R w L cs x) : ∃ v0 : Value, cs = [v0] /\ Rep.R w L [v0] x.fL := by
  obtain ⟨v0, rfl, kv0⟩ := dQ (xs := x.fL) h
  exact ⟨v0, rfl, kv0⟩
theorem own : ownKnob Tryz.prog.godebug = none := by kernel_rfl
theorem dI (H : Type) (enc : TypeId × Value -> H) (W : World) (base : Nat) (args : Array Value) (ds gs : List (DataW H)) (before : List MemPlace)
    (hval : ∀ (j : Nat) t v, Tryz.f10.params[j]? = some t -> args[j]? = some v -> Value.okWide Tryz.prog W .any base t v)
    (hW : DataW.Whole enc Tryz.prog Tryz.f10.params.toList Rows.spreadTalliesSpec.vars false W args.toList ds gs before) (hw : (DataW.weightsEach Tryz.prog (Tryz.f10.params.toList ++ (OpenSpec.ofChange Rows.spreadTalliesSpec).bare.plain.varTypes Tryz.prog) (ds ++ gs)).all (· <= reachBytes) = true) (_hL : laidMetH Tryz.prog Rows.spreadTalliesRow.laid W) :
    Calls Tryz.prog 10 args W fun e W' => ∃ v, e = .returned v /\ Rows.spreadTalliesSpec.post enc Tryz.prog Tryz.f10 false true false false W args v W' := by
  have hW' := hW
  obtain ⟨p, q, hA0, hV, rfl, hfz, hnd⟩ := hW
  obtain ⟨rfl, rfl⟩ := trodVars_none hV
  have hA : DataW.TrodAll enc Tryz.prog W 0 (fun _ => true) true [66] args.toList ds p := by rw [Tryz.params10] at hA0; exact hA0
  rw [Tryz.params10] at hval
  have hw0 : ∀ m ∈ DataW.weightsEach Tryz.prog [66] ds, m <= reachBytes := by
    rw [Tryz.params10, List.append_nil] at hw
    intro m hm
    have := List.all_eq_true.1 hw m (by rw [show (OpenSpec.ofChange Rows.spreadTalliesSpec).bare.plain.varTypes Tryz.prog = [] from rfl, List.append_nil]; exact hm)
    simpa using this
  obtain ⟨v0, vs0, d0, ds0, p0, q0, hargs0, rfl, rfl, h0, r0⟩ := trodAll_cons hA
  obtain ⟨hz, rfl, rfl⟩ := trodAll_nil r0
  have hargs : args = #[v0] := by apply Array.ext'; simp_all
  subst hargs
  obtain ⟨hw0_, hw1⟩ := iT hw0
  obtain ⟨x0, cs0, rfl, k0⟩ := arg_agg 0 o66 (by kernel_rfl) @hval rfl rfl h0 hw0_
  obtain ⟨u0_0, rfl, ku0_0⟩ := op_Ti k0
  obtain ⟨n, hn⟩ := fu x0
  refine (aj_c n (L := []) (w := W) (fun _ h => by cases h) x0 ku0_0  hn).mono fun e W' ⟨v, he, hv, hag⟩ => ?_
  subst he; subst hv
  exact ⟨_, rfl, jM hW' rfl (by kernel_rfl) (by kernel_rfl) (by kernel_rfl) Tryz.underlying4 (fun gs hgs => by subst hgs; rfl) hag⟩
noncomputable def laidWorld (os : Os) : World := World.holding Tryz.prog os ⟨#[], #[], []⟩
theorem nS (os : Os) : laidMet Tryz.prog Rows.spreadTalliesRow.laid ((laidWorld os).forCall (fun _ _ => 0) ⟨#[], (#[.agg #[.slice none 0 0]] : Array Value), []⟩).memory :=
  laidMet_of_run' 8 (by kernel_rfl) (by kernel_rfl)
theorem reads (os : Os) {H : Type} (enc : TypeId × Value -> H) : ∃ places, DataW.whole enc Tryz.prog ((laidWorld os).forCall (fun _ _ => 0) ⟨#[], (#[.agg #[.slice none 0 0]] : Array Value), []⟩).memory Tryz.f10.params.toList Rows.spreadTalliesSpec.vars false (#[.agg #[.slice none 0 0]] : Array Value).toList 8 = some ([.agg [.nil]], [], places) :=
  ⟨[], by kernel_rfl⟩
set_option maxRecDepth 100000 in
theorem lifted (os : Os) (started : os.Started) (H : Type) (enc : TypeId × Value -> H) (F : Stop.Interp) :
    ReturnsInHanded {} Tryz.checked os 10 .any ((OpenSpec.ofChange Rows.spreadTalliesSpec).preRow enc Tryz.prog Tryz.f10 Rows.spreadTalliesRow.domain false Rows.spreadTalliesRow.laid) (((OpenSpec.ofChange Rows.spreadTalliesSpec).at F).post enc Tryz.prog Tryz.f10 false true false false) := by
  obtain ⟨places, hx⟩ := reads os enc
  refine returnsInHanded_of_row (C := Tryz.checked) (s := OpenSpec.ofChange Rows.spreadTalliesSpec) own started (by kernel_rfl) Tryz.func10
    (witness_row_at (enc := enc) (C := Tryz.checked) false (laidWorld os) (#[.agg #[.slice none 0 0]] : Array Value) rfl (by kernel_rfl) (by kernel_rfl) (by kernel_rfl)
      (OpenSpec.preRow_of_cond 8 hx (by kernel_rfl) (fun k hk => by cases hk) (by kernel_rfl) (nS os))) ?_
  intro W base args ds gs before hval hW _ _ hz hL _ _
  exact dI H enc W base args ds gs before hval hW hz hL
/-- Whatever the call is given, SpreadTallies of the package wardmotelaw05 returns true and leaves its arguments as they were. The conditions: the listed variables of unicode/utf8 hold what the text of the library lays them with (the card ties that), and each string and slice takes at most 2^47 - 4096 bytes, as the row has it. -/
theorem spreadTallies_holds : Rows.SpreadTalliesSaid :=
  OpenClaim.holds_of_cond 10 Tryz.f10 rfl rfl rfl rfl rfl rfl rfl ⟨rfl, rfl, rfl, rfl, rfl⟩ rfl rfl rfl rfl rfl (by kernel_rfl) Tryz.func10 (by kernel_rfl)
    (of_decide_eq_true (by kernel_rfl)) (by unfold Func.isWrapper; first | (rw [if_pos (by decide +kernel)]; kernel_rfl) | (rw [if_neg (by decide +kernel)]; exact ⟨rfl, rfl⟩))
    (fun os started H enc _ F => by rw [OpenClaim.pre_eq_preRow]; exact lifted os started H enc F)
end Go.Proofs.YtkommhmbkbhmlaaGreat
