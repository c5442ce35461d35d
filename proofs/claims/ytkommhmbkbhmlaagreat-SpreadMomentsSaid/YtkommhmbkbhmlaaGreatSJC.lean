/- Whatever the call is given, SpreadMoments of the package wardmotelaw05 returns true and leaves its arguments as they were. The condition: each string and slice takes at most 2^47 - 4096 bytes, as the row has it. -/
import Derived.Test.YtkommhmbkbhmlaaGreatSJDf
import Derived.Test.YtkommhmbkbhmlaaGreatSCd
import Derived.Test.YtkommhmbkbhmlaaGreatRows
import Derived.JoinedCond
import Derived.Stop.Joined
import Derived.LaidLaws
import Derived.Deep.DeepHandedRow
import Derived.ChangeAt
namespace Go.Proofs.YtkommhmbkbhmlaaGreat
open Go Go.RowKit Go.WideElems Go.ChangeShapes Go.WideShapes Go.ChangeAt

theorem o32 : Opens Tryz.prog 32 (UInt64 × UInt64 × UInt64 × UInt64 × UInt64 × UInt64 × UInt64 × UInt64) := Opens.array (k := 8) Tryz.underlying32 (by kernel_rfl) (OpensAll.cons (Opens.u64 Tryz.underlying30) (OpensAll.cons (Opens.u64 Tryz.underlying30) (OpensAll.cons (Opens.u64 Tryz.underlying30) (OpensAll.cons (Opens.u64 Tryz.underlying30) (OpensAll.cons (Opens.u64 Tryz.underlying30) (OpensAll.cons (Opens.u64 Tryz.underlying30) (OpensAll.cons (Opens.u64 Tryz.underlying30) (OpensAll.one (Opens.u64 Tryz.underlying30)))))))))
theorem o34 : Opens Tryz.prog 34 Tb := Opens.via (fun x : Tb => (x.fN, x.fD)) (fun y => ⟨y.1, y.2⟩) (fun _ => rfl) (Opens.struct (ts := [32, 32]) Tryz.underlying34 (by kernel_rfl) (by kernel_rfl) (by kernel_rfl) (OpensAll.cons o32 (OpensAll.one o32)))
theorem o37 : Opens Tryz.prog 37 Ta := Opens.via (fun x : Ta => (x.fm, x.fP)) (fun y => ⟨y.1, y.2⟩) (fun _ => rfl) (Opens.struct (ts := [34, 34]) Tryz.underlying37 (by kernel_rfl) (by kernel_rfl) (by kernel_rfl) (OpensAll.cons o34 (OpensAll.one o34)))
theorem o24 : Opens Tryz.prog 24 (List Ta) := Opens.slice Tryz.underlying24 (by kernel_rfl) (by kernel_rfl) o37
theorem o74 : Opens Tryz.prog 74 (List UInt16) := Opens.slice Tryz.underlying74 (by kernel_rfl) (by kernel_rfl) (Opens.u16 Tryz.underlying271)
theorem Opens.u32 {P : Program} {t : TypeId} (ht : P.underlying t = some (.int .u32)) : Opens P t UInt32 := fun h _ => by
  obtain ⟨n, rfl, _, hw⟩ := DataW.trod_int ht h
  have h2 : 0 <= n /\ n <= 4294967295 := nv hw
  refine ⟨UInt32.ofNat n.toNat, ?_⟩
  show _ = [Value.int .u32 ((UInt32.ofNat n.toNat).toNat : Int)]
  rw [UInt32.toNat_ofNat_of_lt' (by show _ < 4294967296; omega), Int.toNat_of_nonneg h2.1]
theorem o77 : Opens Tryz.prog 77 Tk := Opens.via (fun x : Tk => (x.fc, x.fBits, x.fo)) (fun y => ⟨y.1, y.2.1, y.2.2⟩) (fun _ => rfl) (Opens.struct (ts := [4, 74, 75]) Tryz.underlying77 (by kernel_rfl) (by kernel_rfl) (by kernel_rfl) (OpensAll.cons (Opens.bool Tryz.underlying4) (OpensAll.cons o74 (OpensAll.one (Opens.u32 Tryz.underlying75)))))
theorem o79 : Opens Tryz.prog 79 Th := Opens.via (fun x : Th => (x.fN, x.fD)) (fun y => ⟨y.1, y.2⟩) (fun _ => rfl) (Opens.struct (ts := [77, 77]) Tryz.underlying79 (by kernel_rfl) (by kernel_rfl) (by kernel_rfl) (OpensAll.cons o77 (OpensAll.one o77)))
theorem o64 : Opens Tryz.prog 64 (List Th) := Opens.slice Tryz.underlying64 (by kernel_rfl) (by kernel_rfl) o79
theorem o66 : Opens Tryz.prog 66 Ti := Opens.via (fun x : Ti => x.fL) (fun y => ⟨y⟩) (fun _ => rfl) (Opens.struct (ts := [64]) Tryz.underlying66 (by kernel_rfl) (by kernel_rfl) (by kernel_rfl) (OpensAll.one o64))
theorem o62 : Opens Tryz.prog 62 Tl := Opens.via (fun x : Tl => (x.fWhat, x.fm, x.fA)) (fun y => ⟨y.1, y.2.1, y.2.2⟩) (fun _ => rfl) (Opens.struct (ts := [5, 5, 34]) Tryz.underlying62 (by kernel_rfl) (by kernel_rfl) (by kernel_rfl) (OpensAll.cons (Opens.u8 Tryz.underlying5) (OpensAll.cons (Opens.u8 Tryz.underlying5) (OpensAll.one o34))))
theorem op_Tl {w : World} {L : List Nat} {cs : List Value} {x : Tl} (h : Rep.R w L cs x) : cs = [.int .u8 (x.fWhat.toNat : Int), .int .u8 (x.fm.toNat : Int), .int .u64 (x.fA.fN.1.toNat : Int), .int .u64 (x.fA.fN.2.1.toNat : Int), .int .u64 (x.fA.fN.2.2.1.toNat : Int), .int .u64 (x.fA.fN.2.2.2.1.toNat : Int), .int .u64 (x.fA.fN.2.2.2.2.1.toNat : Int), .int .u64 (x.fA.fN.2.2.2.2.2.1.toNat : Int), .int .u64 (x.fA.fN.2.2.2.2.2.2.1.toNat : Int), .int .u64 (x.fA.fN.2.2.2.2.2.2.2.toNat : Int), .int .u64 (x.fA.fD.1.toNat : Int), .int .u64 (x.fA.fD.2.1.toNat : Int), .int .u64 (x.fA.fD.2.2.1.toNat : Int), .int .u64 (x.fA.fD.2.2.2.1.toNat : Int), .int .u64 (x.fA.fD.2.2.2.2.1.toNat : Int), .int .u64 (x.fA.fD.2.2.2.2.2.1.toNat : Int), .int .u64 (x.fA.fD.2.2.2.2.2.2.1.toNat : Int), .int .u64 (x.fA.fD.2.2.2.2.2.2.2.toNat : Int)] := by
  obtain ⟨c0, r0, rfl, h0, h⟩ := h
  have e0 : c0 = [.int .u8 (x.fWhat.toNat : Int)] := h0; subst e0
  obtain ⟨c1, r1, rfl, h1, h⟩ := h
  have e1 : c1 = [.int .u8 (x.fm.toNat : Int)] := h1; subst e1
  obtain rfl := dh (x := x.fA) h
  rfl
theorem own : ownKnob Tryz.prog.godebug = none := by kernel_rfl
theorem ei (H : Type) (enc : TypeId × Value -> H) (W : World) (base : Nat) (args : Array Value) (ds gs : List (DataW H)) (before : List MemPlace)
    (hval : ∀ (j : Nat) t v, Tryz.f6.params[j]? = some t -> args[j]? = some v -> Value.okWide Tryz.prog W .any base t v)
    (hW : DataW.Whole enc Tryz.prog Tryz.f6.params.toList Rows.spreadMomentsSpec.vars false W args.toList ds gs before) (hw : (DataW.weightsEach Tryz.prog (Tryz.f6.params.toList ++ (OpenSpec.ofChange Rows.spreadMomentsSpec).bare.plain.varTypes Tryz.prog) (ds ++ gs)).all (· <= reachBytes) = true) (_hL : laidMetH Tryz.prog Rows.spreadMomentsRow.laid W) :
    Calls Tryz.prog 6 args W fun e W' => ∃ v, e = .returned v /\ Rows.spreadMomentsSpec.post enc Tryz.prog Tryz.f6 false true false false W args v W' := by
  have hW' := hW
  obtain ⟨p, q, hA0, hV, rfl, hfz, hnd⟩ := hW
  obtain ⟨rfl, rfl⟩ := trodVars_none hV
  have hA : DataW.TrodAll enc Tryz.prog W 0 (fun _ => true) true [24, 66, 66, 62, 79] args.toList ds p := by rw [Tryz.params6] at hA0; exact hA0
  rw [Tryz.params6] at hval
  have hw0 : ∀ m ∈ DataW.weightsEach Tryz.prog [24, 66, 66, 62, 79] ds, m <= reachBytes := by
    rw [Tryz.params6, List.append_nil] at hw
    intro m hm
    have := List.all_eq_true.1 hw m (by rw [show (OpenSpec.ofChange Rows.spreadMomentsSpec).bare.plain.varTypes Tryz.prog = [] from rfl, List.append_nil]; exact hm)
    simpa using this
  obtain ⟨v0, vs0, d0, ds0, p0, q0, hargs0, rfl, rfl, h0, r0⟩ := trodAll_cons hA
  obtain ⟨v1, vs1, d1, ds1, p1, q1, hargs1, rfl, rfl, h1, r1⟩ := trodAll_cons r0
  obtain ⟨v2, vs2, d2, ds2, p2, q2, hargs2, rfl, rfl, h2, r2⟩ := trodAll_cons r1
  obtain ⟨v3, vs3, d3, ds3, p3, q3, hargs3, rfl, rfl, h3, r3⟩ := trodAll_cons r2
  obtain ⟨v4, vs4, d4, ds4, p4, q4, hargs4, rfl, rfl, h4, r4⟩ := trodAll_cons r3
  obtain ⟨hz, rfl, rfl⟩ := trodAll_nil r4
  have hargs : args = #[v0, v1, v2, v3, v4] := by apply Array.ext'; simp_all
  subst hargs
  obtain ⟨hw0_, hw1⟩ := bX hw0
  obtain ⟨x0, k0⟩ := arg_one 0 o24 (by kernel_rfl) @hval rfl rfl h0 hw0_
  obtain ⟨hw1_, hw2⟩ := bX hw1
  obtain ⟨x1, cs1, rfl, k1⟩ := ii 1 o66 (by kernel_rfl) @hval rfl rfl h1 hw1_
  obtain ⟨u1_0, rfl, ku1_0⟩ := op_Ti k1
  obtain ⟨hw2_, hw3⟩ := bX hw2
  obtain ⟨x2, cs2, rfl, k2⟩ := ii 2 o66 (by kernel_rfl) @hval rfl rfl h2 hw2_
  obtain ⟨u2_0, rfl, ku2_0⟩ := op_Ti k2
  obtain ⟨hw3_, hw4⟩ := bX hw3
  obtain ⟨x3, cs3, rfl, k3⟩ := ii 3 o62 (by kernel_rfl) @hval rfl rfl h3 hw3_
  obtain rfl := op_Tl k3
  obtain ⟨hw4_, hw5⟩ := bX hw4
  obtain ⟨x4, cs4, rfl, k4⟩ := ii 4 o79 (by kernel_rfl) @hval rfl rfl h4 hw4_
  obtain ⟨u4_1, u4_4, rfl, ku4_1, ku4_4⟩ := op_Th k4
  obtain ⟨n, hn⟩ := gy x0 x1 x2 x3 x4
  refine (ah_c n (L := []) (w := W) (fun _ h => by cases h) k0 x1 ku1_0 x2 ku2_0 x3 x4 ku4_1 ku4_4  hn).mono fun e W' ⟨v, he, hv, hag⟩ => ?_
  subst he; subst hv
  exact ⟨_, rfl, lj hW' rfl (by kernel_rfl) (by kernel_rfl) (by kernel_rfl) Tryz.underlying4 (fun gs hgs => by subst hgs; rfl) hag⟩
noncomputable def laidWorld (os : Os) : World := World.holding Tryz.prog os ⟨#[], #[], []⟩
theorem pm (os : Os) : laidMet Tryz.prog Rows.spreadMomentsRow.laid ((laidWorld os).forCall (fun _ _ => 0) ⟨#[], (#[.slice none 0 0, .agg #[.slice none 0 0], .agg #[.slice none 0 0], .agg #[.int .u8 0, .int .u8 0, .int .u64 0, .int .u64 0, .int .u64 0, .int .u64 0, .int .u64 0, .int .u64 0, .int .u64 0, .int .u64 0, .int .u64 0, .int .u64 0, .int .u64 0, .int .u64 0, .int .u64 0, .int .u64 0, .int .u64 0, .int .u64 0], .agg #[.bool false, .slice none 0 0, .int .u32 0, .bool false, .slice none 0 0, .int .u32 0]] : Array Value), []⟩).memory :=
  laidMet_of_run' 8 (by kernel_rfl) (by kernel_rfl)
theorem reads (os : Os) {H : Type} (enc : TypeId × Value -> H) : ∃ places, DataW.whole enc Tryz.prog ((laidWorld os).forCall (fun _ _ => 0) ⟨#[], (#[.slice none 0 0, .agg #[.slice none 0 0], .agg #[.slice none 0 0], .agg #[.int .u8 0, .int .u8 0, .int .u64 0, .int .u64 0, .int .u64 0, .int .u64 0, .int .u64 0, .int .u64 0, .int .u64 0, .int .u64 0, .int .u64 0, .int .u64 0, .int .u64 0, .int .u64 0, .int .u64 0, .int .u64 0, .int .u64 0, .int .u64 0], .agg #[.bool false, .slice none 0 0, .int .u32 0, .bool false, .slice none 0 0, .int .u32 0]] : Array Value), []⟩).memory Tryz.f6.params.toList Rows.spreadMomentsSpec.vars false (#[.slice none 0 0, .agg #[.slice none 0 0], .agg #[.slice none 0 0], .agg #[.int .u8 0, .int .u8 0, .int .u64 0, .int .u64 0, .int .u64 0, .int .u64 0, .int .u64 0, .int .u64 0, .int .u64 0, .int .u64 0, .int .u64 0, .int .u64 0, .int .u64 0, .int .u64 0, .int .u64 0, .int .u64 0, .int .u64 0, .int .u64 0], .agg #[.bool false, .slice none 0 0, .int .u32 0, .bool false, .slice none 0 0, .int .u32 0]] : Array Value).toList 8 = some ([.nil, .agg [.nil], .agg [.nil], .agg [.lit (.int .u8 0), .lit (.int .u8 0), .agg [.agg [.lit (.int .u64 0), .lit (.int .u64 0), .lit (.int .u64 0), .lit (.int .u64 0), .lit (.int .u64 0), .lit (.int .u64 0), .lit (.int .u64 0), .lit (.int .u64 0)], .agg [.lit (.int .u64 0), .lit (.int .u64 0), .lit (.int .u64 0), .lit (.int .u64 0), .lit (.int .u64 0), .lit (.int .u64 0), .lit (.int .u64 0), .lit (.int .u64 0)]]], .agg [.agg [.lit (.bool false), .nil, .lit (.int .u32 0)], .agg [.lit (.bool false), .nil, .lit (.int .u32 0)]]], [], places) :=
  ⟨[], by kernel_rfl⟩
set_option maxRecDepth 100000 in
theorem lifted (os : Os) (started : os.Started) (H : Type) (enc : TypeId × Value -> H) (F : Stop.Interp) :
    ReturnsInHanded {} Tryz.checked os 6 .any ((OpenSpec.ofChange Rows.spreadMomentsSpec).preRow enc Tryz.prog Tryz.f6 Rows.spreadMomentsRow.domain false Rows.spreadMomentsRow.laid) (((OpenSpec.ofChange Rows.spreadMomentsSpec).at F).post enc Tryz.prog Tryz.f6 false true false false) := by
  obtain ⟨places, hx⟩ := reads os enc
  refine returnsInHanded_of_row (C := Tryz.checked) (s := OpenSpec.ofChange Rows.spreadMomentsSpec) own started (by kernel_rfl) Tryz.func6
    (witness_row_at (enc := enc) (C := Tryz.checked) false (laidWorld os) (#[.slice none 0 0, .agg #[.slice none 0 0], .agg #[.slice none 0 0], .agg #[.int .u8 0, .int .u8 0, .int .u64 0, .int .u64 0, .int .u64 0, .int .u64 0, .int .u64 0, .int .u64 0, .int .u64 0, .int .u64 0, .int .u64 0, .int .u64 0, .int .u64 0, .int .u64 0, .int .u64 0, .int .u64 0, .int .u64 0, .int .u64 0], .agg #[.bool false, .slice none 0 0, .int .u32 0, .bool false, .slice none 0 0, .int .u32 0]] : Array Value) rfl (by kernel_rfl) (by kernel_rfl) (by kernel_rfl)
      (OpenSpec.preRow_of_cond 8 hx (by kernel_rfl) (fun k hk => by cases hk) (by kernel_rfl) (pm os))) ?_
  intro W base args ds gs before hval hW _ _ hz hL _ _
  exact ei H enc W base args ds gs before hval hW hz hL
/-- Whatever the call is given, SpreadMoments of the package wardmotelaw05 returns true and leaves its arguments as they were. The condition: each string and slice takes at most 2^47 - 4096 bytes, as the row has it. -/
theorem spreadMoments_holds : Rows.SpreadMomentsSaid :=
  OpenClaim.holds_of_cond 6 Tryz.f6 rfl rfl rfl rfl rfl rfl rfl ⟨rfl, rfl, rfl, rfl, rfl⟩ rfl rfl rfl rfl rfl (by kernel_rfl) Tryz.func6 (by kernel_rfl)
    (of_decide_eq_true (by kernel_rfl)) (by unfold Func.isWrapper; first | (rw [if_pos (by decide +kernel)]; kernel_rfl) | (rw [if_neg (by decide +kernel)]; exact ⟨rfl, rfl⟩))
    (fun os started H enc _ F => by rw [OpenClaim.pre_eq_preRow]; exact lifted os started H enc F)
end Go.Proofs.YtkommhmbkbhmlaaGreat
