/- Whatever the call is given, InterestShares of the package wardmotelaw27 returns true and leaves its arguments as they were. The conditions: the listed variables of math/bits and unicode/utf8 hold what the text of the library lays them with (the card ties that), and each string and slice takes at most 2^47 - 4096 bytes, as the row has it. -/
import Derived.Test.YtfccehcnajelgaaGreatDoorUBIq
import Derived.Test.YtfccehcnajelgaaGreatDoorUCd
import Derived.Test.YtfccehcnajelgaaGreatDoorCards
import Derived.Test.YtfccehcnajelgaaGreatDoorTie
import Derived.SevenTiedAt
namespace Go.Proofs.YtfccehcnajelgaaGreatDoor
open Go Go.RowKit Go.WideElems Go.ChangeShapes Go.WideShapes Go.ChangeAt

theorem o46 : Opens Tryz.prog 46 (List UInt8) := Opens.slice Tryz.underlying46 (by kernel_rfl) (by kernel_rfl) (Opens.u8 Tryz.underlying5)
theorem o306 : Opens Tryz.prog 306 (UInt8 × UInt8) := Opens.array (k := 2) Tryz.underlying306 (by kernel_rfl) (OpensAll.cons (Opens.u8 Tryz.underlying5) (OpensAll.one (Opens.u8 Tryz.underlying5)))
theorem o47 : Opens Tryz.prog 47 (List (UInt8 × UInt8)) := Opens.slice Tryz.underlying47 (by kernel_rfl) (by kernel_rfl) o306
theorem o49 : Opens Tryz.prog 49 Tk := Opens.via (fun x : Tk => (x.fN, x.fI, x.fMore, x.fLabels, x.fK)) (fun y => ⟨y.1, y.2.1, y.2.2.1, y.2.2.2.1, y.2.2.2.2⟩) (fun _ => rfl) (Opens.struct (ts := [5, 46, 47, 46, 5]) Tryz.underlying49 (by kernel_rfl) (by kernel_rfl) (by kernel_rfl) (OpensAll.cons (Opens.u8 Tryz.underlying5) (OpensAll.cons o46 (OpensAll.cons o47 (OpensAll.cons o46 (OpensAll.one (Opens.u8 Tryz.underlying5)))))))
theorem o51 : Opens Tryz.prog 51 Tj := Opens.via (fun x : Tj => (x.fh, x.fe, x.fj, x.fv, x.fNums)) (fun y => ⟨y.1, y.2.1, y.2.2.1, y.2.2.2.1, y.2.2.2.2⟩) (fun _ => rfl) (Opens.struct (ts := [5, 5, 5, 5, 46]) Tryz.underlying51 (by kernel_rfl) (by kernel_rfl) (by kernel_rfl) (OpensAll.cons (Opens.u8 Tryz.underlying5) (OpensAll.cons (Opens.u8 Tryz.underlying5) (OpensAll.cons (Opens.u8 Tryz.underlying5) (OpensAll.cons (Opens.u8 Tryz.underlying5) (OpensAll.one o46))))))
theorem o102 : Opens Tryz.prog 102 (UInt16 × UInt16) := Opens.array (k := 2) Tryz.underlying102 (by kernel_rfl) (OpensAll.cons (Opens.u16 Tryz.underlying101) (OpensAll.one (Opens.u16 Tryz.underlying101)))
theorem o22 : Opens Tryz.prog 22 (List (UInt16 × UInt16)) := Opens.slice Tryz.underlying22 (by kernel_rfl) (by kernel_rfl) o102
theorem o24 : Opens Tryz.prog 24 Tp := Opens.via (fun x : Tp => x.fL) (fun y => ⟨y⟩) (fun _ => rfl) (Opens.struct (ts := [22]) Tryz.underlying24 (by kernel_rfl) (by kernel_rfl) (by kernel_rfl) (OpensAll.one o22))
theorem o26 : Opens Tryz.prog 26 TBend := Opens.via (fun x : TBend => (x.fJ, x.fAt, x.fN, x.ft)) (fun y => ⟨y.1, y.2.1, y.2.2.1, y.2.2.2⟩) (fun _ => rfl) (Opens.struct (ts := [5, 5, 3, 9]) Tryz.underlying26 (by kernel_rfl) (by kernel_rfl) (by kernel_rfl) (OpensAll.cons (Opens.u8 Tryz.underlying5) (OpensAll.cons (Opens.u8 Tryz.underlying5) (OpensAll.cons (Opens.i64 Tryz.underlying3) (OpensAll.one (Opens.string Tryz.underlying9))))))
theorem o82 : Opens Tryz.prog 82 Tl := Opens.via (fun x : Tl => (x.fJ, x.fAt, x.fN)) (fun y => ⟨y.1, y.2.1, y.2.2⟩) (fun _ => rfl) (Opens.struct (ts := [5, 5, 3]) Tryz.underlying82 (by kernel_rfl) (by kernel_rfl) (by kernel_rfl) (OpensAll.cons (Opens.u8 Tryz.underlying5) (OpensAll.cons (Opens.u8 Tryz.underlying5) (OpensAll.one (Opens.i64 Tryz.underlying3)))))
theorem o83 : Opens Tryz.prog 83 Tl := Opens.via (fun x : Tl => (x.fJ, x.fAt, x.fN)) (fun y => ⟨y.1, y.2.1, y.2.2⟩) (fun _ => rfl) (Opens.struct (ts := [5, 5, 3]) Tryz.underlying83 (by kernel_rfl) (by kernel_rfl) (by kernel_rfl) (OpensAll.cons (Opens.u8 Tryz.underlying5) (OpensAll.cons (Opens.u8 Tryz.underlying5) (OpensAll.one (Opens.i64 Tryz.underlying3)))))
theorem op_Tk {w : World} {L : List Nat} {cs : List Value} {x : Tk} (h : Rep.R w L cs x) : ∃ v1 v2 v3 : Value, cs = [.int .u8 (x.fN.toNat : Int), v1, v2, v3, .int .u8 (x.fK.toNat : Int)] /\ Rep.R w L [v1] x.fI /\ Rep.R w L [v2] x.fMore /\ Rep.R w L [v3] x.fLabels := by
  obtain ⟨c0, r0, rfl, h0, h⟩ := h
  have e0 : c0 = [.int .u8 (x.fN.toNat : Int)] := h0; subst e0
  obtain ⟨c1, r1, rfl, h1, h⟩ := h
  obtain ⟨v1, rfl, kv1⟩ := bc (xs := x.fI) h1
  obtain ⟨c2, r2, rfl, h2, h⟩ := h
  obtain ⟨v2, rfl, kv2⟩ := bc (xs := x.fMore) h2
  obtain ⟨c3, r3, rfl, h3, h⟩ := h
  obtain ⟨v3, rfl, kv3⟩ := bc (xs := x.fLabels) h3
  have e4 : r3 = [.int .u8 (x.fK.toNat : Int)] := h; subst e4
  exact ⟨v1, v2, v3, rfl, kv1, kv2, kv3⟩
theorem op_Tj {w : World} {L : List Nat} {cs : List Value} {x : Tj} (h : Rep.R w L cs x) : ∃ v4 : Value, cs = [.int .u8 (x.fh.toNat : Int), .int .u8 (x.fe.toNat : Int), .int .u8 (x.fj.toNat : Int), .int .u8 (x.fv.toNat : Int), v4] /\ Rep.R w L [v4] x.fNums := by
  obtain ⟨c0, r0, rfl, h0, h⟩ := h
  have e0 : c0 = [.int .u8 (x.fh.toNat : Int)] := h0; subst e0
  obtain ⟨c1, r1, rfl, h1, h⟩ := h
  have e1 : c1 = [.int .u8 (x.fe.toNat : Int)] := h1; subst e1
  obtain ⟨c2, r2, rfl, h2, h⟩ := h
  have e2 : c2 = [.int .u8 (x.fj.toNat : Int)] := h2; subst e2
  obtain ⟨c3, r3, rfl, h3, h⟩ := h
  have e3 : c3 = [.int .u8 (x.fv.toNat : Int)] := h3; subst e3
  obtain ⟨v4, rfl, kv4⟩ := bc (xs := x.fNums) h
  exact ⟨v4, rfl, kv4⟩
theorem op_Tp {w : World} {L : List Nat} {cs : List Value} {x : Tp} (h : Rep.R w L cs x) : ∃ v0 : Value, cs = [v0] /\ Rep.R w L [v0] x.fL := by
  obtain ⟨v0, rfl, kv0⟩ := bc (xs := x.fL) h
  exact ⟨v0, rfl, kv0⟩
theorem oK {w : World} {L : List Nat} {cs : List Value} {x : TBend} (h : Rep.R w L cs x) : cs = [.int .u8 (x.fJ.toNat : Int), .int .u8 (x.fAt.toNat : Int), .int .i64 x.fN, .string x.ft] := by
  obtain ⟨c0, r0, rfl, h0, h⟩ := h
  have e0 : c0 = [.int .u8 (x.fJ.toNat : Int)] := h0; subst e0
  obtain ⟨c1, r1, rfl, h1, h⟩ := h
  have e1 : c1 = [.int .u8 (x.fAt.toNat : Int)] := h1; subst e1
  obtain ⟨c2, r2, rfl, h2, h⟩ := h
  have e2 : c2 = [.int .i64 x.fN] := h2; subst e2
  have e3 : r2 = [.string x.ft] := h; subst e3
  rfl
theorem op_Tl {w : World} {L : List Nat} {cs : List Value} {x : Tl} (h : Rep.R w L cs x) : cs = [.int .u8 (x.fJ.toNat : Int), .int .u8 (x.fAt.toNat : Int), .int .i64 x.fN] := by
  obtain ⟨c0, r0, rfl, h0, h⟩ := h
  have e0 : c0 = [.int .u8 (x.fJ.toNat : Int)] := h0; subst e0
  obtain ⟨c1, r1, rfl, h1, h⟩ := h
  have e1 : c1 = [.int .u8 (x.fAt.toNat : Int)] := h1; subst e1
  have e2 : r1 = [.int .i64 x.fN] := h; subst e2
  rfl
theorem own : ownKnob Tryz.prog.godebug = none := by kernel_rfl
theorem gTab0 : Tryz.prog.globalNamed "math/bits.deBruijn64tab" = some 0 := by kernel_rfl
theorem gType0 : (Tryz.prog.globals[0]?).map (·.type) = some 243 := by kernel_rfl
def zs0 : List Int := [0, 1, 56, 2, 57, 49, 28, 3, 61, 58, 42, 50, 38, 29, 17, 4, 62, 47, 59, 36, 45, 43, 51, 22, 53, 39, 33, 30, 24, 18, 12, 5, 63, 55, 48, 27, 60, 41, 37, 16, 46, 35, 44, 21, 52, 32, 23, 11, 54, 26, 40, 15, 34, 20, 31, 10, 25, 14, 19, 9, 13, 8, 7, 6]
theorem table0 {W : World} (h : laidMetH Tryz.prog Rows.interestSharesRow.laid W) : Lib.TabIs Tryz.prog W "math/bits.deBruijn64tab" .u8 zs0 :=
  Lib.tabIs_of_head (rest := [("unicode/utf8.acceptRanges", Rows.laid_unicode_utf8_acceptRanges), ("unicode/utf8.first", Rows.laid_unicode_utf8_first)]) gTab0 gType0 Tryz.underlying243 Tryz.underlying5 (by kernel_rfl) (by kernel_rfl) h
theorem glob0 {W : World} (h : laidMetH Tryz.prog Rows.interestSharesRow.laid W) : Glob 0 tab0 W := by
  intro i z hz
  have hi : i < 64 := by have := (List.getElem?_eq_some_iff.1 hz).1; simpa [tab0] using this
  have hc := (table0 h).cell gTab0 i (by simpa [zs0] using hi)
  have e : (zs0.getD i 0) = (z.toNat : Int) := by
    have hm : (tab0.map fun z => (z.toNat : Int)) = zs0 := by decide
    rw [<- hm]; simp [List.getD, hz]
  rw [e] at hc
  have ha : ((⟨0, 0, none⟩ : Addr).add (i * 1)) = ⟨0, i, none⟩ := by rw [Nat.mul_one]; unfold Addr.add; split <;> simp_all
  rw [ha]; exact hc
theorem kr (H : Type) (enc : TypeId × Value -> H) (W : World) (base : Nat) (args : Array Value) (ds gs : List (DataW H)) (before : List MemPlace)
    (hval : ∀ (j : Nat) t v, Tryz.f8.params[j]? = some t -> args[j]? = some v -> Value.okWide Tryz.prog W .any base t v)
    (hW : DataW.Whole enc Tryz.prog Tryz.f8.params.toList Rows.interestSharesSpec.vars false W args.toList ds gs before) (hw : (DataW.weightsEach Tryz.prog (Tryz.f8.params.toList ++ (OpenSpec.ofChange Rows.interestSharesSpec).bare.plain.varTypes Tryz.prog) (ds ++ gs)).all (· <= reachBytes) = true) (hL : laidMetH Tryz.prog Rows.interestSharesRow.laid W) :
    Calls Tryz.prog 8 args W fun e W' => ∃ v, e = .returned v /\ Rows.interestSharesSpec.post enc Tryz.prog Tryz.f8 false true false false W args v W' := by
  have hW' := hW
  obtain ⟨p, q, hA0, hV, rfl, hfz, hnd⟩ := hW
  obtain ⟨rfl, rfl⟩ := trodVars_none hV
  have hA : DataW.TrodAll enc Tryz.prog W 0 (fun _ => true) true [49, 51, 24, 26, 82, 83] args.toList ds p := by rw [Tryz.params8] at hA0; exact hA0
  rw [Tryz.params8] at hval
  have hw0 : ∀ m ∈ DataW.weightsEach Tryz.prog [49, 51, 24, 26, 82, 83] ds, m <= reachBytes := by
    rw [Tryz.params8, List.append_nil] at hw
    intro m hm
    have := List.all_eq_true.1 hw m (by rw [show (OpenSpec.ofChange Rows.interestSharesSpec).bare.plain.varTypes Tryz.prog = [] from rfl, List.append_nil]; exact hm)
    simpa using this
  obtain ⟨v0, vs0, d0, ds0, p0, q0, hargs0, rfl, rfl, h0, r0⟩ := trodAll_cons hA
  obtain ⟨v1, vs1, d1, ds1, p1, q1, hargs1, rfl, rfl, h1, r1⟩ := trodAll_cons r0
  obtain ⟨v2, vs2, d2, ds2, p2, q2, hargs2, rfl, rfl, h2, r2⟩ := trodAll_cons r1
  obtain ⟨v3, vs3, d3, ds3, p3, q3, hargs3, rfl, rfl, h3, r3⟩ := trodAll_cons r2
  obtain ⟨v4, vs4, d4, ds4, p4, q4, hargs4, rfl, rfl, h4, r4⟩ := trodAll_cons r3
  obtain ⟨v5, vs5, d5, ds5, p5, q5, hargs5, rfl, rfl, h5, r5⟩ := trodAll_cons r4
  obtain ⟨hz, rfl, rfl⟩ := trodAll_nil r5
  have hargs : args = #[v0, v1, v2, v3, v4, v5] := by apply Array.ext'; simp_all
  subst hargs
  obtain ⟨hw0_, hw1⟩ := bs hw0
  obtain ⟨x0, cs0, rfl, k0⟩ := dw 0 o49 (by kernel_rfl) @hval rfl rfl h0 hw0_
  obtain ⟨u0_1, u0_2, u0_3, rfl, ku0_1, ku0_2, ku0_3⟩ := op_Tk k0
  obtain ⟨hw1_, hw2⟩ := bs hw1
  obtain ⟨x1, cs1, rfl, k1⟩ := dw 1 o51 (by kernel_rfl) @hval rfl rfl h1 hw1_
  obtain ⟨u1_4, rfl, ku1_4⟩ := op_Tj k1
  obtain ⟨hw2_, hw3⟩ := bs hw2
  obtain ⟨x2, cs2, rfl, k2⟩ := dw 2 o24 (by kernel_rfl) @hval rfl rfl h2 hw2_
  obtain ⟨u2_0, rfl, ku2_0⟩ := op_Tp k2
  obtain ⟨hw3_, hw4⟩ := bs hw3
  obtain ⟨x3, cs3, rfl, k3⟩ := dw 3 o26 (by kernel_rfl) @hval rfl rfl h3 hw3_
  obtain rfl := oK k3
  obtain ⟨hw4_, hw5⟩ := bs hw4
  obtain ⟨x4, cs4, rfl, k4⟩ := dw 4 o82 (by kernel_rfl) @hval rfl rfl h4 hw4_
  obtain rfl := op_Tl k4
  obtain ⟨hw5_, hw6⟩ := bs hw5
  obtain ⟨x5, cs5, rfl, k5⟩ := dw 5 o83 (by kernel_rfl) @hval rfl rfl h5 hw5_
  obtain rfl := op_Tl k5
  obtain ⟨n, hn⟩ := eO x0 x1 x2 x3 x4 x5
  refine (ab_c n (L := []) (w := W) (fun _ h => by cases h) x0 ku0_1 ku0_2 ku0_3 x1 ku1_4 x2 ku2_0 x3 x4 x5 (glob0 hL) hn).mono fun e W' ⟨v, he, hv, hag⟩ => ?_
  subst he; subst hv
  exact ⟨_, rfl, kx hW' rfl (by kernel_rfl) (by kernel_rfl) (by kernel_rfl) Tryz.underlying4 (fun gs hgs => by subst hgs; rfl) hag⟩
def flatD : Nat -> DataW Unit -> List Value
  | 0, _ => []
  | n + 1, .agg l => l.flatMap (flatD n)
  | _, .lit (.int k z) => [.int k z]
  | _, _ => []
def oh (d : DataW Unit) : Obj -> Obj
  | .cells _ t frozen => .cells (flatD 5 d).toArray t frozen
  | o => o
noncomputable def laidWorld (os : Os) : World :=
  { World.holding Tryz.prog os ⟨#[], #[], []⟩ with heap := ((((World.holding Tryz.prog os ⟨#[], #[], []⟩).heap).modify 0 (oh Rows.laid_math_bits_deBruijn64tab)).modify 5 (oh Rows.laid_unicode_utf8_acceptRanges)).modify 4 (oh Rows.laid_unicode_utf8_first) }
theorem nC (os : Os) : laidMet Tryz.prog Rows.interestSharesRow.laid ((laidWorld os).forCall (fun _ _ => 0) ⟨#[], (#[.agg #[.int .u8 0, .slice none 0 0, .slice none 0 0, .slice none 0 0, .int .u8 0], .agg #[.int .u8 0, .int .u8 0, .int .u8 0, .int .u8 0, .slice none 0 0], .agg #[.slice none 0 0], .agg #[.int .u8 0, .int .u8 0, .int .i64 0, .string ⟨#[]⟩], .agg #[.int .u8 0, .int .u8 0, .int .i64 0], .agg #[.int .u8 0, .int .u8 0, .int .i64 0]] : Array Value), []⟩).memory :=
  laidMet_of_run' 8 (by kernel_rfl) (by kernel_rfl)
theorem reads (os : Os) {H : Type} (enc : TypeId × Value -> H) : ∃ places, DataW.whole enc Tryz.prog ((laidWorld os).forCall (fun _ _ => 0) ⟨#[], (#[.agg #[.int .u8 0, .slice none 0 0, .slice none 0 0, .slice none 0 0, .int .u8 0], .agg #[.int .u8 0, .int .u8 0, .int .u8 0, .int .u8 0, .slice none 0 0], .agg #[.slice none 0 0], .agg #[.int .u8 0, .int .u8 0, .int .i64 0, .string ⟨#[]⟩], .agg #[.int .u8 0, .int .u8 0, .int .i64 0], .agg #[.int .u8 0, .int .u8 0, .int .i64 0]] : Array Value), []⟩).memory Tryz.f8.params.toList Rows.interestSharesSpec.vars false (#[.agg #[.int .u8 0, .slice none 0 0, .slice none 0 0, .slice none 0 0, .int .u8 0], .agg #[.int .u8 0, .int .u8 0, .int .u8 0, .int .u8 0, .slice none 0 0], .agg #[.slice none 0 0], .agg #[.int .u8 0, .int .u8 0, .int .i64 0, .string ⟨#[]⟩], .agg #[.int .u8 0, .int .u8 0, .int .i64 0], .agg #[.int .u8 0, .int .u8 0, .int .i64 0]] : Array Value).toList 8 = some ([.agg [.lit (.int .u8 0), .nil, .nil, .nil, .lit (.int .u8 0)], .agg [.lit (.int .u8 0), .lit (.int .u8 0), .lit (.int .u8 0), .lit (.int .u8 0), .nil], .agg [.nil], .agg [.lit (.int .u8 0), .lit (.int .u8 0), .lit (.int .i64 0), .lit (.string [])], .agg [.lit (.int .u8 0), .lit (.int .u8 0), .lit (.int .i64 0)], .agg [.lit (.int .u8 0), .lit (.int .u8 0), .lit (.int .i64 0)]], [], places) :=
  ⟨[], by kernel_rfl⟩
set_option maxRecDepth 100000 in
theorem lifted (os : Os) (started : os.Started) (H : Type) (enc : TypeId × Value -> H) (F : Stop.Interp) :
    ReturnsInHanded {} Tryz.checked os 8 .any ((OpenSpec.ofChange Rows.interestSharesSpec).preRow enc Tryz.prog Tryz.f8 Rows.interestSharesRow.domain false Rows.interestSharesRow.laid) (((OpenSpec.ofChange Rows.interestSharesSpec).at F).post enc Tryz.prog Tryz.f8 false true false false) := by
  obtain ⟨places, hx⟩ := reads os enc
  refine returnsInHanded_of_row (C := Tryz.checked) (s := OpenSpec.ofChange Rows.interestSharesSpec) own started (by kernel_rfl) Tryz.func8
    (witness_row_at (enc := enc) (C := Tryz.checked) false (laidWorld os) (#[.agg #[.int .u8 0, .slice none 0 0, .slice none 0 0, .slice none 0 0, .int .u8 0], .agg #[.int .u8 0, .int .u8 0, .int .u8 0, .int .u8 0, .slice none 0 0], .agg #[.slice none 0 0], .agg #[.int .u8 0, .int .u8 0, .int .i64 0, .string ⟨#[]⟩], .agg #[.int .u8 0, .int .u8 0, .int .i64 0], .agg #[.int .u8 0, .int .u8 0, .int .i64 0]] : Array Value) rfl (by kernel_rfl) (by kernel_rfl) (by kernel_rfl)
      (OpenSpec.preRow_of_cond 8 hx (by kernel_rfl) (fun k hk => by cases hk) (by kernel_rfl) (nC os))) ?_
  intro W base args ds gs before hval hW _ _ hz hL _ _
  exact kr H enc W base args ds gs before hval hW hz hL
theorem said : Rows.InterestSharesSaid :=
  OpenClaim.holds_of_cond 8 Tryz.f8 rfl rfl rfl rfl rfl rfl rfl ⟨rfl, rfl, rfl, rfl, rfl⟩ rfl rfl rfl rfl rfl (by kernel_rfl) Tryz.func8 (by kernel_rfl)
    (of_decide_eq_true (by kernel_rfl)) (by unfold Func.isWrapper; first | (rw [if_pos (by decide +kernel)]; kernel_rfl) | (rw [if_neg (by decide +kernel)]; exact ⟨rfl, rfl⟩))
    (fun os started H enc _ F => by rw [OpenClaim.pre_eq_preRow]; exact lifted os started H enc F)
theorem plain (f : FuncId) (fn : Func) (hf : Tryz.pinned.checked.prog.funcNamed "wardmote/wardmotelaw27.InterestShares" = some f) (hfn : Tryz.pinned.checked.prog.funcs[f]? = some fn) :
    true = Tryz.pinned.checked.prog.looks [] /\ ∀ (j : Nat) t, fn.params[j]? = some t -> Tryz.pinned.checked.prog.wantsStandIn t = false := by
  obtain rfl : f = 8 := Option.some.inj ((show Tryz.prog.funcNamed "wardmote/wardmotelaw27.InterestShares" = some 8 by kernel_rfl).symm.trans hf) |>.symm
  obtain rfl : fn = Tryz.f8 := (Option.some.inj (Tryz.func8.symm.trans hfn)).symm
  refine ⟨by kernel_rfl, fun j t ht => ?_⟩
  rw [Tryz.params8] at ht
  have hm : t ∈ ([49, 51, 24, 26, 82, 83] : List TypeId) := by simpa using Array.mem_of_getElem? ht
  have hall : (([49, 51, 24, 26, 82, 83] : List TypeId).all fun u => !Tryz.prog.wantsStandIn u) = true := by kernel_rfl
  exact (show Tryz.prog.wantsStandIn t = false by simpa using List.all_eq_true.1 hall t hm)
/-- THE CARD. -/
theorem interestShares_holds : Rows.InterestSharesCardSaid :=
  Claim7.holds_tied_plain_at .later [] _ _ _ _ said (fun _ h => by cases h) (by kernel_rfl) (fun _ h => by cases h) interestShares_row_tie rfl ⟨rfl, rfl⟩ (by kernel_rfl) rfl plain (by kernel_rfl)
end Go.Proofs.YtfccehcnajelgaaGreatDoor
