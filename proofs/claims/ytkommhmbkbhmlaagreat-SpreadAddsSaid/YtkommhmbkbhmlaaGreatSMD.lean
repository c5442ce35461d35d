/- Whatever the call is given, SpreadAdds of the package wardmotelaw05 returns true and leaves its arguments as they were. The conditions: the listed variables of unicode/utf8 hold what the text of the library lays them with (the card ties that), and each string and slice takes at most 2^47 - 4096 bytes, as the row has it. -/
import Derived.Test.YtkommhmbkbhmlaaGreatSMAt
import Derived.Test.YtkommhmbkbhmlaaGreatSCd
import Derived.Test.YtkommhmbkbhmlaaGreatRows
import Derived.JoinedCond
import Derived.Stop.Joined
import Derived.LaidLaws
import Derived.Deep.DeepHandedRow
import Derived.ChangeAt
namespace Go.Proofs.YtkommhmbkbhmlaaGreat
open Go Go.RowKit Go.WideElems Go.ChangeShapes Go.WideShapes Go.ChangeAt

theorem o74 : Opens Tryz.prog 74 (List UInt16) := Opens.slice Tryz.underlying74 (by kernel_rfl) (by kernel_rfl) (Opens.u16 Tryz.underlying271)
theorem Opens.u32 {P : Program} {t : TypeId} (ht : P.underlying t = some (.int .u32)) : Opens P t UInt32 := fun h _ => by
  obtain ⟨n, rfl, _, hw⟩ := DataW.trod_int ht h
  have h2 : 0 <= n /\ n <= 4294967295 := wf_le hw
  refine ⟨UInt32.ofNat n.toNat, ?_⟩
  show _ = [Value.int .u32 ((UInt32.ofNat n.toNat).toNat : Int)]
  rw [UInt32.toNat_ofNat_of_lt' (by show _ < 4294967296; omega), Int.toNat_of_nonneg h2.1]
theorem o77 : Opens Tryz.prog 77 Tk := Opens.via (fun x : Tk => (x.fe, x.fBits, x.fp)) (fun y => ⟨y.1, y.2.1, y.2.2⟩) (fun _ => rfl) (Opens.struct (ts := [4, 74, 75]) Tryz.underlying77 (by kernel_rfl) (by kernel_rfl) (by kernel_rfl) (OpensAll.cons (Opens.bool Tryz.underlying4) (OpensAll.cons o74 (OpensAll.one (Opens.u32 Tryz.underlying75)))))
theorem o79 : Opens Tryz.prog 79 Th := Opens.via (fun x : Th => (x.fN, x.fD)) (fun y => ⟨y.1, y.2⟩) (fun _ => rfl) (Opens.struct (ts := [77, 77]) Tryz.underlying79 (by kernel_rfl) (by kernel_rfl) (by kernel_rfl) (OpensAll.cons o77 (OpensAll.one o77)))
theorem o64 : Opens Tryz.prog 64 (List Th) := Opens.slice Tryz.underlying64 (by kernel_rfl) (by kernel_rfl) o79
theorem o66 : Opens Tryz.prog 66 Ti := Opens.via (fun x : Ti => x.fL) (fun y => ⟨y⟩) (fun _ => rfl) (Opens.struct (ts := [64]) Tryz.underlying66 (by kernel_rfl) (by kernel_rfl) (by kernel_rfl) (OpensAll.one o64))
theorem op_Ti {w : World} {L : List Nat} {cs : List Value} {x : Ti} (h : Rep.R w L cs x) : ∃ v0 : Value, cs = [v0] /\ Rep.R w L [v0] x.fL := by
  obtain ⟨v0, rfl, kv0⟩ := dn (xs := x.fL) h
  exact ⟨v0, rfl, kv0⟩
theorem own : ownKnob Tryz.prog.godebug = none := by kernel_rfl
theorem dG (H : Type) (enc : TypeId × Value -> H) (W : World) (base : Nat) (args : Array Value) (ds gs : List (DataW H)) (before : List MemPlace)
    (hval : ∀ (j : Nat) t v, Tryz.f7.params[j]? = some t -> args[j]? = some v -> Value.okWide Tryz.prog W .any base t v)
    (hW : DataW.Whole enc Tryz.prog Tryz.f7.params.toList Rows.spreadAddsSpec.vars false W args.toList ds gs before) (hw : (DataW.weightsEach Tryz.prog (Tryz.f7.params.toList ++ (OpenSpec.ofChange Rows.spreadAddsSpec).bare.plain.varTypes Tryz.prog) (ds ++ gs)).all (· <= reachBytes) = true) (_hL : laidMetH Tryz.prog Rows.spreadAddsRow.laid W) :
    Calls Tryz.prog 7 args W fun e W' => ∃ v, e = .returned v /\ Rows.spreadAddsSpec.post enc Tryz.prog Tryz.f7 false true false false W args v W' := by
  have hW' := hW
  obtain ⟨p, q, hA0, hV, rfl, hfz, hnd⟩ := hW
  obtain ⟨rfl, rfl⟩ := trodVars_none hV
  have hA : DataW.TrodAll enc Tryz.prog W 0 (fun _ => true) true [66, 66, 79] args.toList ds p := by rw [Tryz.params7] at hA0; exact hA0
  rw [Tryz.params7] at hval
  have hw0 : ∀ m ∈ DataW.weightsEach Tryz.prog [66, 66, 79] ds, m <= reachBytes := by
    rw [Tryz.params7, List.append_nil] at hw
    intro m hm
    have := List.all_eq_true.1 hw m (by rw [show (OpenSpec.ofChange Rows.spreadAddsSpec).bare.plain.varTypes Tryz.prog = [] from rfl, List.append_nil]; exact hm)
    simpa using this
  obtain ⟨v0, vs0, d0, ds0, p0, q0, hargs0, rfl, rfl, h0, r0⟩ := trodAll_cons hA
  obtain ⟨v1, vs1, d1, ds1, p1, q1, hargs1, rfl, rfl, h1, r1⟩ := trodAll_cons r0
  obtain ⟨v2, vs2, d2, ds2, p2, q2, hargs2, rfl, rfl, h2, r2⟩ := trodAll_cons r1
  obtain ⟨hz, rfl, rfl⟩ := trodAll_nil r2
  have hargs : args = #[v0, v1, v2] := by apply Array.ext'; simp_all
  subst hargs
  obtain ⟨hw0_, hw1⟩ := dc hw0
  obtain ⟨x0, cs0, rfl, k0⟩ := jl 0 o66 (by kernel_rfl) @hval rfl rfl h0 hw0_
  obtain ⟨u0_0, rfl, ku0_0⟩ := op_Ti k0
  obtain ⟨hw1_, hw2⟩ := dc hw1
  obtain ⟨x1, cs1, rfl, k1⟩ := jl 1 o66 (by kernel_rfl) @hval rfl rfl h1 hw1_
  obtain ⟨u1_0, rfl, ku1_0⟩ := op_Ti k1
  obtain ⟨hw2_, hw3⟩ := dc hw2
  obtain ⟨x2, cs2, rfl, k2⟩ := jl 2 o79 (by kernel_rfl) @hval rfl rfl h2 hw2_
  obtain ⟨u2_1, u2_4, rfl, ku2_1, ku2_4⟩ := op_Th k2
  obtain ⟨n, hn⟩ := iv x0 x1 x2
  refine (bs_c n (L := []) (w := W) (fun _ h => by cases h) x0 ku0_0 x1 ku1_0 x2 ku2_1 ku2_4  hn).mono fun e W' ⟨v, he, hv, hag⟩ => ?_
  subst he; subst hv
  exact ⟨_, rfl, kb hW' rfl (by kernel_rfl) (by kernel_rfl) (by kernel_rfl) Tryz.underlying4 (fun gs hgs => by subst hgs; rfl) hag⟩
noncomputable def laidWorld (os : Os) : World := World.holding Tryz.prog os ⟨#[], #[], []⟩
theorem nD (os : Os) : laidMet Tryz.prog Rows.spreadAddsRow.laid ((laidWorld os).forCall (fun _ _ => 0) ⟨#[], (#[.agg #[.slice none 0 0], .agg #[.slice none 0 0], .agg #[.bool false, .slice none 0 0, .int .u32 0, .bool false, .slice none 0 0, .int .u32 0]] : Array Value), []⟩).memory :=
  laidMet_of_run' 8 (by kernel_rfl) (by kernel_rfl)
theorem reads (os : Os) {H : Type} (enc : TypeId × Value -> H) : ∃ places, DataW.whole enc Tryz.prog ((laidWorld os).forCall (fun _ _ => 0) ⟨#[], (#[.agg #[.slice none 0 0], .agg #[.slice none 0 0], .agg #[.bool false, .slice none 0 0, .int .u32 0, .bool false, .slice none 0 0, .int .u32 0]] : Array Value), []⟩).memory Tryz.f7.params.toList Rows.spreadAddsSpec.vars false (#[.agg #[.slice none 0 0], .agg #[.slice none 0 0], .agg #[.bool false, .slice none 0 0, .int .u32 0, .bool false, .slice none 0 0, .int .u32 0]] : Array Value).toList 8 = some ([.agg [.nil], .agg [.nil], .agg [.agg [.lit (.bool false), .nil, .lit (.int .u32 0)], .agg [.lit (.bool false), .nil, .lit (.int .u32 0)]]], [], places) :=
  ⟨[], by kernel_rfl⟩
set_option maxRecDepth 100000 in
theorem lifted (os : Os) (started : os.Started) (H : Type) (enc : TypeId × Value -> H) (F : Stop.Interp) :
    ReturnsInHanded {} Tryz.checked os 7 .any ((OpenSpec.ofChange Rows.spreadAddsSpec).preRow enc Tryz.prog Tryz.f7 Rows.spreadAddsRow.domain false Rows.spreadAddsRow.laid) (((OpenSpec.ofChange Rows.spreadAddsSpec).at F).post enc Tryz.prog Tryz.f7 false true false false) := by
  obtain ⟨places, hx⟩ := reads os enc
  refine returnsInHanded_of_row (C := Tryz.checked) (s := OpenSpec.ofChange Rows.spreadAddsSpec) own started (by kernel_rfl) Tryz.func7
    (witness_row_at (enc := enc) (C := Tryz.checked) false (laidWorld os) (#[.agg #[.slice none 0 0], .agg #[.slice none 0 0], .agg #[.bool false, .slice none 0 0, .int .u32 0, .bool false, .slice none 0 0, .int .u32 0]] : Array Value) rfl (by kernel_rfl) (by kernel_rfl) (by kernel_rfl)
      (OpenSpec.preRow_of_cond 8 hx (by kernel_rfl) (fun k hk => by cases hk) (by kernel_rfl) (nD os))) ?_
  intro W base args ds gs before hval hW _ _ hz hL _ _
  exact dG H enc W base args ds gs before hval hW hz hL
/-- Whatever the call is given, SpreadAdds of the package wardmotelaw05 returns true and leaves its arguments as they were. The conditions: the listed variables of unicode/utf8 hold what the text of the library lays them with (the card ties that), and each string and slice takes at most 2^47 - 4096 bytes, as the row has it. -/
theorem spreadAdds_holds : Rows.SpreadAddsSaid :=
  OpenClaim.holds_of_cond 7 Tryz.f7 rfl rfl rfl rfl rfl rfl rfl ⟨rfl, rfl, rfl, rfl, rfl⟩ rfl rfl rfl rfl rfl (by kernel_rfl) Tryz.func7 (by kernel_rfl)
    (of_decide_eq_true (by kernel_rfl)) (by unfold Func.isWrapper; first | (rw [if_pos (by decide +kernel)]; kernel_rfl) | (rw [if_neg (by decide +kernel)]; exact ⟨rfl, rfl⟩))
    (fun os started H enc _ F => by rw [OpenClaim.pre_eq_preRow]; exact lifted os started H enc F)
end Go.Proofs.YtkommhmbkbhmlaaGreat
