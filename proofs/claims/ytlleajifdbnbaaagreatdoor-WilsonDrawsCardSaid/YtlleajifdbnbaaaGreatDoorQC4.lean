/- Whatever the call is given, WilsonDraws of the package wardmotelaw31 returns true and leaves its arguments as they were. The conditions: the listed variables of math/bits and unicode/utf8 hold what the text of the library lays them with (the card ties that), and each string and slice takes at most 2^47 - 4096 bytes, as the row has it. -/
import Derived.Test.YtlleajifdbnbaaaGreatDoorQFUg
import Derived.Test.YtlleajifdbnbaaaGreatDoorQCd
import Derived.Test.YtlleajifdbnbaaaGreatDoorCards
import Derived.Test.YtlleajifdbnbaaaGreatDoorTie
import Derived.SevenTiedAt
namespace Go.Proofs.YtlleajifdbnbaaaGreatDoor
open Go Go.RowKit Go.WideElems Go.ChangeShapes Go.WideShapes Go.ChangeAt

theorem o61 : Opens Tryz.prog 61 (UInt8 × UInt8) := Opens.array (k := 2) Tryz.underlying61 (by kernel_rfl) (OpensAll.cons (Opens.u8 Tryz.underlying5) (OpensAll.one (Opens.u8 Tryz.underlying5)))
theorem o23 : Opens Tryz.prog 23 (List (UInt8 × UInt8)) := Opens.slice Tryz.underlying23 (by kernel_rfl) (by kernel_rfl) o61
theorem o25 : Opens Tryz.prog 25 Td := Opens.via (fun x : Td => (x.fj, x.fl, x.fk, x.fm)) (fun y => ⟨y.1, y.2.1, y.2.2.1, y.2.2.2⟩) (fun _ => rfl) (Opens.struct (ts := [5, 5, 22, 23]) Tryz.underlying25 (by kernel_rfl) (by kernel_rfl) (by kernel_rfl) (OpensAll.cons (Opens.u8 Tryz.underlying5) (OpensAll.cons (Opens.u8 Tryz.underlying5) (OpensAll.cons (Opens.u16 Tryz.underlying22) (OpensAll.one o23)))))
theorem o28 : Opens Tryz.prog 28 TBend := Opens.via (fun x : TBend => (x.fWhat, x.fN, x.fSet)) (fun y => ⟨y.1, y.2.1, y.2.2⟩) (fun _ => rfl) (Opens.struct (ts := [5, 3, 26]) Tryz.underlying28 (by kernel_rfl) (by kernel_rfl) (by kernel_rfl) (OpensAll.cons (Opens.u8 Tryz.underlying5) (OpensAll.cons (Opens.i64 Tryz.underlying3) (OpensAll.one (Opens.u64 Tryz.underlying26)))))
theorem o30 : Opens Tryz.prog 30 Ta := Opens.via (fun x : Ta => x.fc) (fun y => ⟨y⟩) (fun _ => rfl) (Opens.struct (ts := [26]) Tryz.underlying30 (by kernel_rfl) (by kernel_rfl) (by kernel_rfl) (OpensAll.one (Opens.u64 Tryz.underlying26)))
theorem op_Td {w : World} {L : List Nat} {cs : List Value} {x : Td} (h : Rep.R w L cs x) : ∃ v3 : Value, cs = [.int .u8 (x.fj.toNat : Int), .int .u8 (x.fl.toNat : Int), .int .u16 (x.fk.toNat : Int), v3] /\ Rep.R w L [v3] x.fm := by
  obtain ⟨c0, r0, rfl, h0, h⟩ := h
  have e0 : c0 = [.int .u8 (x.fj.toNat : Int)] := h0; subst e0
  obtain ⟨c1, r1, rfl, h1, h⟩ := h
  have e1 : c1 = [.int .u8 (x.fl.toNat : Int)] := h1; subst e1
  obtain ⟨c2, r2, rfl, h2, h⟩ := h
  have e2 : c2 = [.int .u16 (x.fk.toNat : Int)] := h2; subst e2
  obtain ⟨v3, rfl, kv3⟩ := lst_one (xs := x.fm) h
  exact ⟨v3, rfl, kv3⟩
theorem gT {w : World} {L : List Nat} {cs : List Value} {x : TBend} (h : Rep.R w L cs x) : cs = [.int .u8 (x.fWhat.toNat : Int), .int .i64 x.fN, .int .u64 (x.fSet.toNat : Int)] := by
  obtain ⟨c0, r0, rfl, h0, h⟩ := h
  have e0 : c0 = [.int .u8 (x.fWhat.toNat : Int)] := h0; subst e0
  obtain ⟨c1, r1, rfl, h1, h⟩ := h
  have e1 : c1 = [.int .i64 x.fN] := h1; subst e1
  have e2 : r1 = [.int .u64 (x.fSet.toNat : Int)] := h; subst e2
  rfl
theorem op_Ta {w : World} {L : List Nat} {cs : List Value} {x : Ta} (h : Rep.R w L cs x) : cs = [.int .u64 (x.fc.toNat : Int)] := by
  have e0 : cs = [.int .u64 (x.fc.toNat : Int)] := h; subst e0
  rfl
theorem own : ownKnob Tryz.prog.godebug = none := by kernel_rfl
theorem gTab0 : Tryz.prog.globalNamed "math/bits.deBruijn64tab" = some 0 := by kernel_rfl
theorem gType0 : (Tryz.prog.globals[0]?).map (·.type) = some 148 := by kernel_rfl
def zs0 : List Int := [0, 1, 56, 2, 57, 49, 28, 3, 61, 58, 42, 50, 38, 29, 17, 4, 62, 47, 59, 36, 45, 43, 51, 22, 53, 39, 33, 30, 24, 18, 12, 5, 63, 55, 48, 27, 60, 41, 37, 16, 46, 35, 44, 21, 52, 32, 23, 11, 54, 26, 40, 15, 34, 20, 31, 10, 25, 14, 19, 9, 13, 8, 7, 6]
theorem table0 {W : World} (h : laidMetH Tryz.prog Rows.wilsonDrawsRow.laid W) : Lib.TabIs Tryz.prog W "math/bits.deBruijn64tab" .u8 zs0 :=
  Lib.tabIs_of_head (rest := []) gTab0 gType0 Tryz.underlying148 Tryz.underlying5 (by kernel_rfl) (by kernel_rfl) h
theorem glob0 {W : World} (h : laidMetH Tryz.prog Rows.wilsonDrawsRow.laid W) : Glob 0 tab0 W := by
  intro i z hz
  have hi : i < 64 := by have := (List.getElem?_eq_some_iff.1 hz).1; simpa [tab0] using this
  have hc := (table0 h).cell gTab0 i (by simpa [zs0] using hi)
  have e : (zs0.getD i 0) = (z.toNat : Int) := by
    have hm : (tab0.map fun z => (z.toNat : Int)) = zs0 := by decide
    rw [<- hm]; simp [List.getD, hz]
  rw [e] at hc
  have ha : ((⟨0, 0, none⟩ : Addr).add (i * 1)) = ⟨0, i, none⟩ := by rw [Nat.mul_one]; unfold Addr.add; split <;> simp_all
  rw [ha]; exact hc
theorem eF (H : Type) (enc : TypeId × Value -> H) (W : World) (base : Nat) (args : Array Value) (ds gs : List (DataW H)) (before : List MemPlace)
    (hval : ∀ (j : Nat) t v, Tryz.f4.params[j]? = some t -> args[j]? = some v -> Value.okWide Tryz.prog W .any base t v)
    (hW : DataW.Whole enc Tryz.prog Tryz.f4.params.toList Rows.wilsonDrawsSpec.vars false W args.toList ds gs before) (hw : (DataW.weightsEach Tryz.prog (Tryz.f4.params.toList ++ (OpenSpec.ofChange Rows.wilsonDrawsSpec).bare.plain.varTypes Tryz.prog) (ds ++ gs)).all (· <= reachBytes) = true) (hL : laidMetH Tryz.prog Rows.wilsonDrawsRow.laid W) :
    Calls Tryz.prog 4 args W fun e W' => ∃ v, e = .returned v /\ Rows.wilsonDrawsSpec.post enc Tryz.prog Tryz.f4 false true false false W args v W' := by
  have hW' := hW
  obtain ⟨p, q, hA0, hV, rfl, hfz, hnd⟩ := hW
  obtain ⟨rfl, rfl⟩ := trodVars_none hV
  have hA : DataW.TrodAll enc Tryz.prog W 0 (fun _ => true) true [25, 28, 26, 30] args.toList ds p := by rw [Tryz.params4] at hA0; exact hA0
  rw [Tryz.params4] at hval
  have hw0 : ∀ m ∈ DataW.weightsEach Tryz.prog [25, 28, 26, 30] ds, m <= reachBytes := by
    rw [Tryz.params4, List.append_nil] at hw
    intro m hm
    have := List.all_eq_true.1 hw m (by rw [show (OpenSpec.ofChange Rows.wilsonDrawsSpec).bare.plain.varTypes Tryz.prog = [] from rfl, List.append_nil]; exact hm)
    simpa using this
  obtain ⟨v0, vs0, d0, ds0, p0, q0, hargs0, rfl, rfl, h0, r0⟩ := trodAll_cons hA
  obtain ⟨v1, vs1, d1, ds1, p1, q1, hargs1, rfl, rfl, h1, r1⟩ := trodAll_cons r0
  obtain ⟨v2, vs2, d2, ds2, p2, q2, hargs2, rfl, rfl, h2, r2⟩ := trodAll_cons r1
  obtain ⟨v3, vs3, d3, ds3, p3, q3, hargs3, rfl, rfl, h3, r3⟩ := trodAll_cons r2
  obtain ⟨hz, rfl, rfl⟩ := trodAll_nil r3
  have hargs : args = #[v0, v1, v2, v3] := by apply Array.ext'; simp_all
  subst hargs
  obtain ⟨hw0_, hw1⟩ := bo hw0
  obtain ⟨x0, cs0, rfl, k0⟩ := ep 0 o25 (by kernel_rfl) @hval rfl rfl h0 hw0_
  obtain ⟨u0_3, rfl, ku0_3⟩ := op_Td k0
  obtain ⟨hw1_, hw2⟩ := bo hw1
  obtain ⟨x1, cs1, rfl, k1⟩ := ep 1 o28 (by kernel_rfl) @hval rfl rfl h1 hw1_
  obtain rfl := gT k1
  obtain ⟨hw2_, hw3⟩ := bo hw2
  obtain ⟨x2, k2⟩ := arg_one 2 (Opens.u64 Tryz.underlying26) (by kernel_rfl) @hval rfl rfl h2 hw2_
  obtain rfl : v2 = .int .u64 (x2.toNat : Int) := by have k9 : [v2] = [.int .u64 (x2.toNat : Int)] := k2; cases k9; rfl
  obtain ⟨hw3_, hw4⟩ := bo hw3
  obtain ⟨x3, cs3, rfl, k3⟩ := ep 3 o30 (by kernel_rfl) @hval rfl rfl h3 hw3_
  obtain rfl := op_Ta k3
  obtain ⟨n, hn⟩ := dJ x0 x1 x2 x3
  refine (aT_c n (L := []) (w := W) (fun _ h => by cases h) x0 ku0_3 x1 x2 x3 (glob0 hL) hn).mono fun e W' ⟨v, he, hv, hag⟩ => ?_
  subst he; subst hv
  exact ⟨_, rfl, eI hW' rfl (by kernel_rfl) (by kernel_rfl) (by kernel_rfl) Tryz.underlying4 (fun gs hgs => by subst hgs; rfl) hag⟩
def flatD : Nat -> DataW Unit -> List Value
  | 0, _ => []
  | n + 1, .agg l => l.flatMap (flatD n)
  | _, .lit (.int k z) => [.int k z]
  | _, _ => []
def layOn (d : DataW Unit) : Obj -> Obj
  | .cells _ t frozen => .cells (flatD 5 d).toArray t frozen
  | o => o
noncomputable def laidWorld (os : Os) : World :=
  { World.holding Tryz.prog os ⟨#[], #[], []⟩ with heap := ((World.holding Tryz.prog os ⟨#[], #[], []⟩).heap).modify 0 (layOn Rows.laid_math_bits_deBruijn64tab) }
theorem hZ (os : Os) : laidMet Tryz.prog Rows.wilsonDrawsRow.laid ((laidWorld os).forCall (fun _ _ => 0) ⟨#[], (#[.agg #[.int .u8 0, .int .u8 0, .int .u16 0, .slice none 0 0], .agg #[.int .u8 0, .int .i64 0, .int .u64 0], .int .u64 0, .agg #[.int .u64 0]] : Array Value), []⟩).memory :=
  laidMet_of_run' 8 (by kernel_rfl) (by kernel_rfl)
theorem reads (os : Os) {H : Type} (enc : TypeId × Value -> H) : ∃ places, DataW.whole enc Tryz.prog ((laidWorld os).forCall (fun _ _ => 0) ⟨#[], (#[.agg #[.int .u8 0, .int .u8 0, .int .u16 0, .slice none 0 0], .agg #[.int .u8 0, .int .i64 0, .int .u64 0], .int .u64 0, .agg #[.int .u64 0]] : Array Value), []⟩).memory Tryz.f4.params.toList Rows.wilsonDrawsSpec.vars false (#[.agg #[.int .u8 0, .int .u8 0, .int .u16 0, .slice none 0 0], .agg #[.int .u8 0, .int .i64 0, .int .u64 0], .int .u64 0, .agg #[.int .u64 0]] : Array Value).toList 8 = some ([.agg [.lit (.int .u8 0), .lit (.int .u8 0), .lit (.int .u16 0), .nil], .agg [.lit (.int .u8 0), .lit (.int .i64 0), .lit (.int .u64 0)], .lit (.int .u64 0), .agg [.lit (.int .u64 0)]], [], places) :=
  ⟨[], by kernel_rfl⟩
set_option maxRecDepth 100000 in
theorem lifted (os : Os) (started : os.Started) (H : Type) (enc : TypeId × Value -> H) (F : Stop.Interp) :
    ReturnsInHanded {} Tryz.checked os 4 .any ((OpenSpec.ofChange Rows.wilsonDrawsSpec).preRow enc Tryz.prog Tryz.f4 Rows.wilsonDrawsRow.domain false Rows.wilsonDrawsRow.laid) (((OpenSpec.ofChange Rows.wilsonDrawsSpec).at F).post enc Tryz.prog Tryz.f4 false true false false) := by
  obtain ⟨places, hx⟩ := reads os enc
  refine returnsInHanded_of_row (C := Tryz.checked) (s := OpenSpec.ofChange Rows.wilsonDrawsSpec) own started (by kernel_rfl) Tryz.func4
    (witness_row_at (enc := enc) (C := Tryz.checked) false (laidWorld os) (#[.agg #[.int .u8 0, .int .u8 0, .int .u16 0, .slice none 0 0], .agg #[.int .u8 0, .int .i64 0, .int .u64 0], .int .u64 0, .agg #[.int .u64 0]] : Array Value) rfl (by kernel_rfl) (by kernel_rfl) (by kernel_rfl)
      (OpenSpec.preRow_of_cond 8 hx (by kernel_rfl) (fun k hk => by cases hk) (by kernel_rfl) (hZ os))) ?_
  intro W base args ds gs before hval hW _ _ hz hL _ _
  exact eF H enc W base args ds gs before hval hW hz hL
theorem said : Rows.WilsonDrawsSaid :=
  OpenClaim.holds_of_cond 4 Tryz.f4 rfl rfl rfl rfl rfl rfl rfl ⟨rfl, rfl, rfl, rfl, rfl⟩ rfl rfl rfl rfl rfl (by kernel_rfl) Tryz.func4 (by kernel_rfl)
    (of_decide_eq_true (by kernel_rfl)) (by unfold Func.isWrapper; first | (rw [if_pos (by decide +kernel)]; kernel_rfl) | (rw [if_neg (by decide +kernel)]; exact ⟨rfl, rfl⟩))
    (fun os started H enc _ F => by rw [OpenClaim.pre_eq_preRow]; exact lifted os started H enc F)
theorem plain (f : FuncId) (fn : Func) (hf : Tryz.pinned.checked.prog.funcNamed "wardmote/wardmotelaw31.WilsonDraws" = some f) (hfn : Tryz.pinned.checked.prog.funcs[f]? = some fn) :
    false = Tryz.pinned.checked.prog.looks [] /\ ∀ (j : Nat) t, fn.params[j]? = some t -> Tryz.pinned.checked.prog.wantsStandIn t = false := by
  obtain rfl : f = 4 := Option.some.inj ((show Tryz.prog.funcNamed "wardmote/wardmotelaw31.WilsonDraws" = some 4 by kernel_rfl).symm.trans hf) |>.symm
  obtain rfl : fn = Tryz.f4 := (Option.some.inj (Tryz.func4.symm.trans hfn)).symm
  refine ⟨by kernel_rfl, fun j t ht => ?_⟩
  rw [Tryz.params4] at ht
  have hm : t ∈ ([25, 28, 26, 30] : List TypeId) := by simpa using Array.mem_of_getElem? ht
  have hall : (([25, 28, 26, 30] : List TypeId).all fun u => !Tryz.prog.wantsStandIn u) = true := by kernel_rfl
  exact (show Tryz.prog.wantsStandIn t = false by simpa using List.all_eq_true.1 hall t hm)
/-- THE CARD. -/
theorem wilsonDraws_holds : Rows.WilsonDrawsCardSaid :=
  Claim7.holds_tied_plain_at .later [] _ _ _ _ said (fun _ h => by cases h) (by kernel_rfl) (fun _ h => by cases h) wilsonDraws_row_tie rfl ⟨rfl, rfl⟩ (by kernel_rfl) rfl plain (by kernel_rfl)
end Go.Proofs.YtlleajifdbnbaaaGreatDoor
