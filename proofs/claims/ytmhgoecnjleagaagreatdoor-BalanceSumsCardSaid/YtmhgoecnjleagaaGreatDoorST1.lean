/- Functions of the program, and what they give: part 1. -/
import Derived.Test.YtmhgoecnjleagaaGreatDoorProg
import Derived.Test.YtmhgoecnjleagaaGreatDoorSMk
namespace Go.Proofs.YtmhgoecnjleagaaGreatDoor
open Go Go.RowKit
set_option maxRecDepth 4000
set_option maxHeartbeats 4000000

structure Tbounds where
  flow : Int
  fhigh : Int
  deriving DecidableEq
instance : Rep Tbounds := Rep.via (β := Int × Int) fun x => (x.flow, x.fhigh)
structure Tbroken where
  fErrno : Int
  deriving DecidableEq
instance : Rep Tbroken := Rep.via (β := Int) fun x => x.fErrno
def balance_need_p (_n : Nat) (a0 : Int) : Option (Except Tbroken Unit) :=
  (if a0 = 0 then some (.ok ()) else some (.error (⟨a0⟩ : Tbroken)))
theorem balance_need_c (n : Nat) (L : List Nat) (w : World) (_hL : ∀ b ∈ L, b < w.heap.size) (a0 : Int)  {r : Except Tbroken Unit} (h : balance_need_p n a0 = some r) :
    Calls Tryz.prog 100 #[.int .i64 a0] w (PGives w (fun (y : Unit) _ u => u = .tuple #[]) (fun e => .iface 140 (.agg #[.int .i64 e.fErrno])) r) := by
  unfold balance_need_p at h
  have hS0 := St.start w
  refine MX.startP Tryz.func100 rfl rfl rfl (fun _ cs0 hb0 hp0 => ?_)
  refine MX.sr <| RG.mv rfl rfl <| RG.vv (FV.neq (i := a0) (j := 0) rfl rfl) rfl <| RG.nil <| MX.ifn rfl h (fun c1 h => ?_) (fun c1 h => ?_)
  ·skip
   refine MX.skip <| MX.fin rfl <| RT.leave hb0 Tryz.func100 rfl .nil rfl ?_
   obtain rfl := Option.some.inj h
   exact ⟨hS0.ag, fun w9 hw9 => okOf_in rfl⟩
  refine MX.region <| RG.mv rfl rfl <| RG.vv (FV.buildV (vs := [.int .i64 a0]) (u := .agg #[.int .i64 a0]) (evs_cons rfl evs_nil) (fun w9 => by kernel_rfl)) rfl <| RG.vv (FV.makeInterface (by kernel_rfl) rfl) rfl <| RG.panic .plain rfl ?_
  obtain rfl := Option.some.inj h
  exact PN.leave hp0 Tryz.func100 ⟨hS0.ag, rfl⟩
theorem body100 : bodyB Tryz.prog 100 = true := by kernel_rfl
def balance_fail_p (n : Nat) (a0 : Bool) (a1 : Int) : Option (Except Tbroken Unit) :=
  (if a0 = true then (balance_need_p n a1).bind fun y2 => exc y2 (fun y4 => some (.ok ())) (fun e3 => some (.error e3)) else some (.ok ()))
theorem balance_fail_c (n : Nat) (L : List Nat) (w : World) (hL : ∀ b ∈ L, b < w.heap.size) (a0 : Bool) (a1 : Int)  {r : Except Tbroken Unit} (h : balance_fail_p n a0 a1 = some r) :
    Calls Tryz.prog 75 #[.bool a0, .int .i64 a1] w (PGives w (fun (y : Unit) _ u => u = .tuple #[]) (fun e => .iface 140 (.agg #[.int .i64 e.fErrno])) r) := by
  unfold balance_fail_p at h
  have hS0 := St.start w
  refine MX.startP Tryz.func75 rfl rfl rfl (fun _ cs0 hb0 hp0 => ?_)
  refine MX.sr <| RG.mv rfl rfl <| RG.nil <| MX.ifb rfl h (fun c1 h => ?_) (fun c1 h => ?_)
  ·skip
   refine MX.region <| RG.mv rfl rfl ?_
   obtain ⟨y2, hy2, h⟩ := bind_in h
   rcases y2 with e3 | y4
   ·skip
    have h := exc_e h
    try dsimp only at h
    refine RG.callE (fst := []) (cap := []) .plain body100 rfl (evs_cons rfl evs_nil) (fun w9 hw9 => balance_need_c n _ w9 (hS0.hL0 hL hw9) a1 hy2) (fun w5 hag6 => ?_)
    obtain ⟨hS7, hT8⟩ := hS0.agr hag6
    obtain rfl := Option.some.inj h
    exact PN.leave hp0 Tryz.func75 ⟨hS7.ag, rfl⟩
   have h := exc_o h
   try dsimp only at h
   refine RG.cq (.tuple #[]) body100 rfl (evs_cons rfl evs_nil) (fun w9 hw9 => Calls.okp (balance_need_c n _ w9 (hS0.hL0 hL hw9) a1 hy2)) rfl <| RG.nil <| MX.fin rfl <| RT.leave hb0 Tryz.func75 rfl .nil rfl ?_
   obtain rfl := Option.some.inj h
   exact ⟨hS0.ag, fun w9 hw9 => okOf_in rfl⟩
  refine MX.skip <| MX.fin rfl <| RT.leave hb0 Tryz.func75 rfl .nil rfl ?_
  obtain rfl := Option.some.inj h
  exact ⟨hS0.ag, fun w9 hw9 => okOf_in rfl⟩
def slices_Index_bool_bool_l1 (_n : Nat) (a0 : List Bool) (a1 : Bool) (J0 : Nat → Option (Int ⊕ Unit)) : Nat → Option (Int ⊕ Unit)
  | i0 => (if i0 < a0.length then (a0[i0]?).bind fun x0 => (if (a1 == x0) = true then some (.inl ((i0 : Nat) : Int)) else J0 (i0 + 1)) else some (.inr ()))
def slices_Index_bool_bool_p (n : Nat) (a0 : List Bool) (a1 : Bool) : Option Int :=
  thn (loopF (slices_Index_bool_bool_l1 n a0 a1) n 0) (fun _ => some (-1 : Int))
theorem slices_Index_bool_bool_c (n : Nat) (L : List Nat) (w : World) (_hL : ∀ b ∈ L, b < w.heap.size) (a0 : List Bool) {v0_0 : Value} (h0_0 : Rep.R w L [v0_0] a0) (a1 : Bool)  {r : Int} (h : slices_Index_bool_bool_p n a0 a1 = some r) :
    Calls Tryz.prog 201 #[v0_0, .bool a1] w (Gives w fun _ u => u = .int .i64 r) := by
  unfold slices_Index_bool_bool_p at h
  have hS0 := St.start w
  refine MX.start Tryz.func201 rfl rfl rfl (fun _ cs0 hb0 => ?_)
  refine MX.sr <| RG.sg rfl rfl <| RG.nil <| MX.seq <| MX.sr <| RG.mv rfl rfl ?_
  have hl1 : a0.length ≤ 281474976710656 := Rep.lenle h0_0
  refine RG.vv (FV.len (xs := a0) Tryz.underlying169 rfl h0_0) rfl <| RG.mv rfl rfl <| RG.nil <| MX.block ?_
  obtain ⟨o0, ho23, hh25⟩ := thn_in h
  refine MX.loop (α := Nat) (fun i0 => [(0, v0_0), (1, .bool a1), (7, .int .i64 ((a0.length : Nat) : Int)), (8, .int .i64 ((i0 : Nat) : Int))]) (fun i0 wx0 => St w wx0 [] ∧ Tr w [] wx0 []) (fun i0 => i0) 0 ho23 ⟨rfl, rfl, rfl, rfl, trivial⟩ ⟨hS0, Tr.refl _ _⟩ ?_
  rintro J0 i0 wx0 hJ27 ⟨hS1, hT0⟩ h
  unfold slices_Index_bool_bool_l1 at h
  try dsimp only at h
  refine MX.sr <| RG.vv (FV.lssN (i := i0) (j := a0.length) rfl rfl) rfl <| RG.nil <| MX.seq <| MX.ifd rfl h (fun c0 h => ?_) (fun c0 h => ?_)
  ·skip
   refine MX.skip <| MX.seq <| MX.block <| MX.sr <| RG.mv rfl rfl <| RG.sg rfl rfl ?_
   refine RG.nil <| MX.sr <| RG.mv rfl rfl <| RG.mv rfl rfl <| RG.mv rfl rfl ?_
   obtain ⟨x0, hx0, h⟩ := bind_in h
   have hm0 := Rep.mv h0_0 hT0
   obtain ⟨A30, c1, he0, hk0, cs1, hr0, hm1⟩ := Rep.nth hm0 hx0
   have he1 : cs1 = [.bool x0] := hr0; subst he1
   refine RG.vv (FV.idxAddr (m := 1) (i := i0) (by kernel_rfl) rfl he0 rfl rfl hk0) rfl <| RG.vv (FV.load1 (by kernel_rfl) rfl (hm1 0 _ rfl)) rfl <| RG.vv (FV.eqlB (a := a1) (b := x0) Tryz.underlying4 rfl rfl) rfl <| RG.nil <| MX.ifb rfl h (fun c2 h => ?_) (fun c2 h => ?_)
   ·skip
    refine MX.sr <| RG.mv rfl rfl <| RG.sg rfl rfl <| RG.nil ?_
    have h := thn_inl h hh25
    refine MX.ret rfl <| RT.leave hb0 Tryz.func201 rfl (.cons (.tmp rfl) .nil) rfl ?_
    obtain rfl := Option.some.inj h
    exact ⟨hS1.ag, fun w9 hw9 => rfl⟩
   refine MX.skip <| MX.inBlock <| MX.region <| RG.vv (FV.addN (i := i0) (j := 1) rfl rfl (by omega)) rfl <| RG.mv rfl rfl <| RG.nil ?_
   exact hJ27 (i0 + 1) _ _ ⟨rfl, rfl, rfl, rfl, trivial⟩ ⟨hS1, hT0⟩ h
  refine MX.exit rfl ?_
  have h := thn_inr h hh25
  try dsimp only at h
  refine MX.sr <| RG.sg rfl rfl <| RG.nil <| MX.ret rfl <| RT.leave hb0 Tryz.func201 rfl (.cons (.tmp rfl) .nil) rfl ?_
  obtain rfl := Option.some.inj h
  exact ⟨hS1.ag, fun w9 hw9 => rfl⟩
theorem body201 : bodyB Tryz.prog 201 = true := by kernel_rfl
def slices_Contains_bool_bool_p (n : Nat) (a0 : List Bool) (a1 : Bool) : Option Bool :=
  (slices_Index_bool_bool_p n a0 a1).bind fun y1 => some (decide (0 ≤ y1))
theorem slices_Contains_bool_bool_c (n : Nat) (L : List Nat) (w : World) (hL : ∀ b ∈ L, b < w.heap.size) (a0 : List Bool) {v0_0 : Value} (h0_0 : Rep.R w L [v0_0] a0) (a1 : Bool)  {r : Bool} (h : slices_Contains_bool_bool_p n a0 a1 = some r) :
    Calls Tryz.prog 178 #[v0_0, .bool a1] w (Gives w fun _ u => u = .bool r) := by
  unfold slices_Contains_bool_bool_p at h
  have hS0 := St.start w
  refine MX.start Tryz.func178 rfl rfl rfl (fun _ cs0 hb0 => ?_)
  refine MX.sr <| RG.sg rfl rfl <| RG.nil <| MX.sr <| RG.mv rfl rfl <| RG.mv rfl rfl ?_
  obtain ⟨y1, hy1, h⟩ := bind_in h
  refine RG.cq (.int .i64 y1) body201 rfl (evs_cons rfl (evs_cons rfl evs_nil)) (fun w9 hw9 => slices_Index_bool_bool_c n _ w9 (hS0.hL0 hL hw9) a0 (Rep.keep0 (Rep.dropS hS0 h0_0) hw9) a1 hy1) rfl <| RG.vv (FV.geq (i := y1) (j := 0) rfl rfl) rfl <| RG.sg rfl rfl <| RG.nil <| MX.ret rfl <| RT.leave hb0 Tryz.func178 rfl (.cons (.tmp rfl) .nil) rfl ?_
  obtain rfl := Option.some.inj h
  exact ⟨hS0.ag, fun w9 hw9 => rfl⟩
theorem body178 : bodyB Tryz.prog 178 = true := by kernel_rfl
def units_every_p (n : Nat) (a0 : List Bool) : Option Bool :=
  (slices_Contains_bool_bool_p n a0 false).bind fun y1 => some (!y1)
theorem units_every_c (n : Nat) (L : List Nat) (w : World) (hL : ∀ b ∈ L, b < w.heap.size) (a0 : List Bool) {v0_0 : Value} (h0_0 : Rep.R w L [v0_0] a0)  {r : Bool} (h : units_every_p n a0 = some r) :
    Calls Tryz.prog 141 #[v0_0] w (Gives w fun _ u => u = .bool r) := by
  unfold units_every_p at h
  have hS0 := St.start w
  refine MX.start Tryz.func141 rfl rfl rfl (fun _ cs0 hb0 => ?_)
  refine MX.sr <| RG.sg rfl rfl <| RG.nil <| MX.sr <| RG.mv rfl rfl ?_
  obtain ⟨y1, hy1, h⟩ := bind_in h
  refine RG.cq (.bool y1) body178 rfl (evs_cons rfl (evs_cons rfl evs_nil)) (fun w9 hw9 => slices_Contains_bool_bool_c n _ w9 (hS0.hL0 hL hw9) a0 (Rep.keep0 (Rep.dropS hS0 h0_0) hw9) false hy1) rfl <| RG.vv (FV.not rfl) rfl <| RG.sg rfl rfl <| RG.nil <| MX.ret rfl <| RT.leave hb0 Tryz.func141 rfl (.cons (.tmp rfl) .nil) rfl ?_
  obtain rfl := Option.some.inj h
  exact ⟨hS0.ag, fun w9 hw9 => rfl⟩
def strings_trimLeftByte_l1 (_n : Nat) (a1 : UInt8) (J0 : ByteArray → Option ByteArray) : ByteArray → Option ByteArray
  | s0 => (if 0 < s0.size then (s0.data[0]?).bind fun z0 => (if z0.toNat = a1.toNat then (scut s0 1 (s0.size : Int)).bind fun s1 => J0 s1 else some s0) else some s0)
def strings_trimLeftByte_p (n : Nat) (a0 : ByteArray) (a1 : UInt8) : Option ByteArray :=
  jn (fun s0 => some s0) (fun J0 => Option.bind (loopF (strings_trimLeftByte_l1 n a1) n a0) (J0))
theorem strings_trimLeftByte_c (n : Nat) (L : List Nat) (w : World) (_hL : ∀ b ∈ L, b < w.heap.size) (a0 : ByteArray) (a1 : UInt8)  {r : ByteArray} (h : strings_trimLeftByte_p n a0 a1 = some r) :
    Calls Tryz.prog 202 #[.string a0, .int .u8 (a1.toNat : Int)] w (Gives w fun _ u => u = .string r) := by
  unfold strings_trimLeftByte_p at h
  have hS0 := St.start w
  refine MX.start Tryz.func202 rfl rfl rfl (fun _ cs0 hb0 => ?_)
  refine MX.sr <| RG.sg rfl rfl <| RG.nil <| MX.seq <| MX.block <| MX.joinx (α := ByteArray) (fun s0 => [(0, .string s0)]) (fun s0 wx0 => St w wx0 [] ∧ Tr w [] wx0 []) (fun s0 => s0) (id := 0) rfl h ?_ ?_
  ·skip
   rintro s0 wx0 ⟨hS1, hT0⟩ h
   try dsimp only at h
   refine MX.sr <| RG.mv rfl rfl <| RG.sg rfl rfl <| RG.nil <| MX.ret rfl <| RT.leave hb0 Tryz.func202 rfl (.cons (.tmp rfl) .nil) rfl ?_
   obtain rfl := Option.some.inj h
   exact ⟨hS1.ag, fun w9 hw9 => rfl⟩
  ·skip
   intro J0 hJ36 h
   try dsimp only at h
   obtain ⟨o0, ho50, hh52⟩ := bind_in2 h
   refine MX.loop (α := ByteArray) (fun s1 => [(0, .string s1), (1, .int .u8 (a1.toNat : Int))]) (fun s1 wx1 => St w wx1 [] ∧ Tr w [] wx1 []) (fun s1 => s1) a0 ho50 ⟨rfl, rfl, trivial⟩ ⟨hS0, Tr.refl _ _⟩ ?_
   rintro J1 s1 wx1 hJ54 ⟨hS2, hT1⟩ h
   unfold strings_trimLeftByte_l1 at h
   try dsimp only at h
   refine MX.seq <| MX.sr <| RG.mv rfl rfl <| RG.vv (FV.len_string Tryz.underlying9 rfl) rfl <| RG.vv (FV.gtrN (i := s1.size) (j := 0) rfl rfl) rfl <| RG.mv rfl rfl ?_
   refine RG.ifd (s := 8) rfl h (fun c0 h => ?_) (fun c0 h => ?_)
   ·skip
    refine RG.val' (.yes rfl rfl) (FV.move rfl) rfl ?_
    obtain ⟨z0, hz56, h⟩ := bind_in h
    refine RG.val' (.yes rfl rfl) (FV.strAt (k := 0) Tryz.underlying9 rfl rfl rfl hz56) rfl <| RG.val' (.yes rfl rfl) (FV.move rfl) rfl <| RG.val' (.yes rfl rfl) (FV.eqlN (i := z0.toNat) (j := a1.toNat) rfl rfl) rfl <| RG.vv (FV.pick_t rfl rfl) rfl <| RG.nil <| MX.ifd rfl h (fun c1 h => ?_) (fun c1 h => ?_)
    ·skip
     refine MX.skip <| MX.block <| MX.region <| RG.mv rfl rfl ?_
     obtain ⟨s2, hs0, h⟩ := bind_in h
     refine RG.vv (FV.strCut hs0 Tryz.underlying9 rfl ⟨_, rfl⟩ rfl) rfl <| RG.sg rfl rfl <| RG.nil <| MX.inBlock ?_
     exact hJ54 s2 _ _ ⟨rfl, rfl, trivial⟩ ⟨hS2, hT1⟩ h
    refine MX.exit rfl ?_
    have h := hh52 _ h
    try dsimp only at h
    exact hJ36 s1 _ _ ⟨rfl, trivial⟩ ⟨hS2, hT1⟩ h
   refine RG.off (.no rfl rfl) rfl <| RG.off (.no rfl rfl) rfl <| RG.off (.no rfl rfl) rfl <| RG.off (.no rfl rfl) rfl <| RG.vv (FV.pick_f rfl rfl) rfl <| RG.nil ?_
   refine MX.cond_f rfl <| MX.exit rfl ?_
   have h := hh52 _ h
   try dsimp only at h
   exact hJ36 s1 _ _ ⟨rfl, trivial⟩ ⟨hS2, hT1⟩ h
def strings_trimRightByte_l1 (_n : Nat) (a1 : UInt8) (J0 : ByteArray → Option ByteArray) : ByteArray → Option ByteArray
  | s0 => (if 0 < s0.size then (chk (((s0.size : Nat) : Int) - 1)).bind fun s1 => (sidx s0 s1).bind fun z0 => (if z0.toNat = a1.toNat then (chk (((s0.size : Nat) : Int) - 1)).bind fun s2 => (scut s0 0 s2).bind fun s3 => J0 s3 else some s0) else some s0)
def strings_trimRightByte_p (n : Nat) (a0 : ByteArray) (a1 : UInt8) : Option ByteArray :=
  jn (fun s0 => some s0) (fun J0 => Option.bind (loopF (strings_trimRightByte_l1 n a1) n a0) (J0))
theorem strings_trimRightByte_c (n : Nat) (L : List Nat) (w : World) (_hL : ∀ b ∈ L, b < w.heap.size) (a0 : ByteArray) (a1 : UInt8)  {r : ByteArray} (h : strings_trimRightByte_p n a0 a1 = some r) :
    Calls Tryz.prog 203 #[.string a0, .int .u8 (a1.toNat : Int)] w (Gives w fun _ u => u = .string r) := by
  unfold strings_trimRightByte_p at h
  have hS0 := St.start w
  refine MX.start Tryz.func203 rfl rfl rfl (fun _ cs0 hb0 => ?_)
  refine MX.sr <| RG.sg rfl rfl <| RG.nil <| MX.seq <| MX.block <| MX.joinx (α := ByteArray) (fun s0 => [(0, .string s0)]) (fun s0 wx0 => St w wx0 [] ∧ Tr w [] wx0 []) (fun s0 => s0) (id := 0) rfl h ?_ ?_
  ·skip
   rintro s0 wx0 ⟨hS1, hT0⟩ h
   try dsimp only at h
   refine MX.sr <| RG.mv rfl rfl <| RG.sg rfl rfl <| RG.nil <| MX.ret rfl <| RT.leave hb0 Tryz.func203 rfl (.cons (.tmp rfl) .nil) rfl ?_
   obtain rfl := Option.some.inj h
   exact ⟨hS1.ag, fun w9 hw9 => rfl⟩
  ·skip
   intro J0 hJ48 h
   try dsimp only at h
   obtain ⟨o0, ho66, hh68⟩ := bind_in2 h
   refine MX.loop (α := ByteArray) (fun s1 => [(0, .string s1), (1, .int .u8 (a1.toNat : Int))]) (fun s1 wx1 => St w wx1 [] ∧ Tr w [] wx1 []) (fun s1 => s1) a0 ho66 ⟨rfl, rfl, trivial⟩ ⟨hS0, Tr.refl _ _⟩ ?_
   rintro J1 s1 wx1 hJ70 ⟨hS2, hT1⟩ h
   unfold strings_trimRightByte_l1 at h
   try dsimp only at h
   refine MX.seq <| MX.sr <| RG.mv rfl rfl <| RG.vv (FV.len_string Tryz.underlying9 rfl) rfl <| RG.vv (FV.gtrN (i := s1.size) (j := 0) rfl rfl) rfl <| RG.mv rfl rfl ?_
   refine RG.ifd (s := 8) rfl h (fun c0 h => ?_) (fun c0 h => ?_)
   ·skip
    refine RG.val' (.yes rfl rfl) (FV.move rfl) rfl <| RG.val' (.yes rfl rfl) (FV.move rfl) rfl <| RG.val' (.yes rfl rfl) (FV.len_string Tryz.underlying9 rfl) rfl ?_
    obtain ⟨s2, hs0, h⟩ := bind_in h
    refine RG.val' (.yes rfl rfl) (FV.subc (i := ((s1.size : Nat) : Int)) (j := 1) rfl rfl hs0) rfl ?_
    obtain ⟨z0, hz73, h⟩ := bind_in h
    obtain ⟨hi0, hx0⟩ := sidx_in hz73
    refine RG.val' (.yes rfl rfl) (FV.strAt (k := s2.toNat) Tryz.underlying9 rfl rfl hi0 hx0) rfl <| RG.val' (.yes rfl rfl) (FV.move rfl) rfl <| RG.val' (.yes rfl rfl) (FV.eqlN (i := z0.toNat) (j := a1.toNat) rfl rfl) rfl <| RG.vv (FV.pick_t rfl rfl) rfl <| RG.nil <| MX.ifd rfl h (fun c1 h => ?_) (fun c1 h => ?_)
    ·skip
     refine MX.skip <| MX.block <| MX.region <| RG.mv rfl rfl <| RG.mv rfl rfl <| RG.vv (FV.len_string Tryz.underlying9 rfl) rfl ?_
     obtain ⟨s3, hs1, h⟩ := bind_in h
     refine RG.vv (FV.subc (i := ((s1.size : Nat) : Int)) (j := 1) rfl rfl hs1) rfl ?_
     obtain ⟨s4, hs2, h⟩ := bind_in h
     refine RG.vv (FV.strCut hs2 Tryz.underlying9 rfl rfl ⟨_, rfl⟩) rfl <| RG.sg rfl rfl <| RG.nil <| MX.inBlock ?_
     exact hJ70 s4 _ _ ⟨rfl, rfl, trivial⟩ ⟨hS2, hT1⟩ h
    refine MX.exit rfl ?_
    have h := hh68 _ h
    try dsimp only at h
    exact hJ48 s1 _ _ ⟨rfl, trivial⟩ ⟨hS2, hT1⟩ h
   refine RG.off (.no rfl rfl) rfl <| RG.off (.no rfl rfl) rfl <| RG.off (.no rfl rfl) rfl <| RG.off (.no rfl rfl) rfl <| RG.off (.no rfl rfl) rfl <| RG.off (.no rfl rfl) rfl ?_
   refine RG.off (.no rfl rfl) rfl <| RG.vv (FV.pick_f rfl rfl) rfl <| RG.nil <| MX.cond_f rfl <| MX.exit rfl ?_
   have h := hh68 _ h
   try dsimp only at h
   exact hJ48 s1 _ _ ⟨rfl, trivial⟩ ⟨hS2, hT1⟩ h
def internal_stringslite_IndexByte_p (_n : Nat) (_a0 : ByteArray) (_a1 : UInt8) : Option Int :=
  none
theorem internal_stringslite_IndexByte_c (n : Nat) (L : List Nat) (w : World) (_hL : ∀ b ∈ L, b < w.heap.size) (a0 : ByteArray) (a1 : UInt8)  {r : Int} (h : internal_stringslite_IndexByte_p n a0 a1 = some r) :
    Calls Tryz.prog 231 #[.string a0, .int .u8 (a1.toNat : Int)] w (Gives w fun _ u => u = .int .i64 r) := by
  unfold internal_stringslite_IndexByte_p at h
  have hS0 := St.start w
  refine MX.start Tryz.func231 rfl rfl rfl (fun _ cs0 hb0 => ?_)
  refine MX.sr <| RG.sg rfl rfl <| RG.nil <| MX.sr <| RG.mv rfl rfl <| RG.mv rfl rfl ?_
  cases h
theorem body231 : bodyB Tryz.prog 231 = true := by kernel_rfl
def strings_IndexByte_p (n : Nat) (a0 : ByteArray) (a1 : UInt8) : Option Int :=
  (internal_stringslite_IndexByte_p n a0 a1).bind fun y1 => some y1
theorem strings_IndexByte_c (n : Nat) (L : List Nat) (w : World) (hL : ∀ b ∈ L, b < w.heap.size) (a0 : ByteArray) (a1 : UInt8)  {r : Int} (h : strings_IndexByte_p n a0 a1 = some r) :
    Calls Tryz.prog 227 #[.string a0, .int .u8 (a1.toNat : Int)] w (Gives w fun _ u => u = .int .i64 r) := by
  unfold strings_IndexByte_p at h
  have hS0 := St.start w
  refine MX.start Tryz.func227 rfl rfl rfl (fun _ cs0 hb0 => ?_)
  refine MX.sr <| RG.sg rfl rfl <| RG.nil <| MX.sr <| RG.mv rfl rfl <| RG.mv rfl rfl ?_
  obtain ⟨y1, hy1, h⟩ := bind_in h
  refine RG.cq (.int .i64 y1) body231 rfl (evs_cons rfl (evs_cons rfl evs_nil)) (fun w9 hw9 => internal_stringslite_IndexByte_c n _ w9 (hS0.hL0 hL hw9) a0 a1 hy1) rfl <| RG.sg rfl rfl <| RG.nil <| MX.ret rfl <| RT.leave hb0 Tryz.func227 rfl (.cons (.tmp rfl) .nil) rfl ?_
  obtain rfl := Option.some.inj h
  exact ⟨hS0.ag, fun w9 hw9 => rfl⟩
def unicode_utf8_ValidRune_p (_n : Nat) (a0 : Int) : Option Bool :=
  (if 0 ≤ a0 then (if a0 < 55296 then some true else (if 57343 < a0 then (if a0 ≤ 1114111 then some true else some false) else some false)) else (if 57343 < a0 then (if a0 ≤ 1114111 then some true else some false) else some false))
theorem unicode_utf8_ValidRune_c (n : Nat) (L : List Nat) (w : World) (_hL : ∀ b ∈ L, b < w.heap.size) (a0 : Int)  {r : Bool} (h : unicode_utf8_ValidRune_p n a0 = some r) :
    Calls Tryz.prog 228 #[.int .i32 a0] w (Gives w fun _ u => u = .bool r) := by
  unfold unicode_utf8_ValidRune_p at h
  have hS0 := St.start w
  refine MX.start Tryz.func228 rfl rfl rfl (fun _ cs0 hb0 => ?_)
  refine MX.sr <| RG.sg rfl rfl <| RG.nil <| MX.seq <| MX.block <| MX.sr ?_
  refine RG.mv rfl rfl <| RG.vv (FV.leq (i := 0) (j := a0) rfl rfl) rfl <| RG.mv rfl rfl <| RG.ifd (s := 6) rfl h (fun c1 h => ?_) (fun c1 h => ?_)
  ·skip
   refine RG.val' (.yes rfl rfl) (FV.move rfl) rfl <| RG.val' (.yes rfl rfl) (FV.lss (i := a0) (j := 55296) rfl rfl) rfl <| RG.vv (FV.pick_t rfl rfl) rfl <| RG.sg rfl rfl <| RG.nil <| MX.ifd rfl h (fun c2 h => ?_) (fun c2 h => ?_)
   ·skip
    refine MX.sr <| RG.sg rfl rfl <| RG.nil <| MX.ret rfl <| RT.leave hb0 Tryz.func228 rfl (.cons (.tmp rfl) .nil) rfl ?_
    obtain rfl := Option.some.inj h
    exact ⟨hS0.ag, fun w9 hw9 => rfl⟩
   refine MX.sr <| RG.mv rfl rfl <| RG.vv (FV.lss (i := 57343) (j := a0) rfl rfl) rfl <| RG.mv rfl rfl <| RG.ifd (s := 13) rfl h (fun c3 h => ?_) (fun c3 h => ?_)
   ·skip
    refine RG.val' (.yes rfl rfl) (FV.move rfl) rfl <| RG.val' (.yes rfl rfl) (FV.leq (i := a0) (j := 1114111) rfl rfl) rfl <| RG.vv (FV.pick_t rfl rfl) rfl <| RG.sg rfl rfl <| RG.nil <| MX.ifd rfl h (fun c4 h => ?_) (fun c4 h => ?_)
    ·skip
     refine MX.sr <| RG.sg rfl rfl <| RG.nil <| MX.ret rfl <| RT.leave hb0 Tryz.func228 rfl (.cons (.tmp rfl) .nil) rfl ?_
     obtain rfl := Option.some.inj h
     exact ⟨hS0.ag, fun w9 hw9 => rfl⟩
    refine MX.skip <| MX.inBlock <| MX.sr <| RG.sg rfl rfl <| RG.nil <| MX.ret rfl ?_
    refine RT.leave hb0 Tryz.func228 rfl (.cons (.tmp rfl) .nil) rfl ?_
    obtain rfl := Option.some.inj h
    exact ⟨hS0.ag, fun w9 hw9 => rfl⟩
   refine RG.off (.no rfl rfl) rfl <| RG.off (.no rfl rfl) rfl <| RG.vv (FV.pick_f rfl rfl) rfl <| RG.sg rfl rfl <| RG.nil <| MX.cond_f rfl ?_
   refine MX.skip <| MX.inBlock <| MX.sr <| RG.sg rfl rfl <| RG.nil <| MX.ret rfl ?_
   refine RT.leave hb0 Tryz.func228 rfl (.cons (.tmp rfl) .nil) rfl ?_
   obtain rfl := Option.some.inj h
   exact ⟨hS0.ag, fun w9 hw9 => rfl⟩
  refine RG.off (.no rfl rfl) rfl <| RG.off (.no rfl rfl) rfl <| RG.vv (FV.pick_f rfl rfl) rfl <| RG.sg rfl rfl <| RG.nil <| MX.cond_f rfl ?_
  refine MX.sr <| RG.mv rfl rfl <| RG.vv (FV.lss (i := 57343) (j := a0) rfl rfl) rfl <| RG.mv rfl rfl <| RG.ifd (s := 13) rfl h (fun c5 h => ?_) (fun c5 h => ?_)
  ·skip
   refine RG.val' (.yes rfl rfl) (FV.move rfl) rfl <| RG.val' (.yes rfl rfl) (FV.leq (i := a0) (j := 1114111) rfl rfl) rfl <| RG.vv (FV.pick_t rfl rfl) rfl <| RG.sg rfl rfl <| RG.nil <| MX.ifd rfl h (fun c6 h => ?_) (fun c6 h => ?_)
   ·skip
    refine MX.sr <| RG.sg rfl rfl <| RG.nil <| MX.ret rfl <| RT.leave hb0 Tryz.func228 rfl (.cons (.tmp rfl) .nil) rfl ?_
    obtain rfl := Option.some.inj h
    exact ⟨hS0.ag, fun w9 hw9 => rfl⟩
   refine MX.skip <| MX.inBlock <| MX.sr <| RG.sg rfl rfl <| RG.nil <| MX.ret rfl ?_
   refine RT.leave hb0 Tryz.func228 rfl (.cons (.tmp rfl) .nil) rfl ?_
   obtain rfl := Option.some.inj h
   exact ⟨hS0.ag, fun w9 hw9 => rfl⟩
  refine RG.off (.no rfl rfl) rfl <| RG.off (.no rfl rfl) rfl <| RG.vv (FV.pick_f rfl rfl) rfl <| RG.sg rfl rfl <| RG.nil <| MX.cond_f rfl ?_
  refine MX.skip <| MX.inBlock <| MX.sr <| RG.sg rfl rfl <| RG.nil <| MX.ret rfl ?_
  refine RT.leave hb0 Tryz.func228 rfl (.cons (.tmp rfl) .nil) rfl ?_
  obtain rfl := Option.some.inj h
  exact ⟨hS0.ag, fun w9 hw9 => rfl⟩
def internal_bytealg_Cutover_p (_n : Nat) (a0 : Int) : Option Int :=
  (chk (a0 + 16)).bind fun s1 => (quoI s1 8).bind fun s2 => some s2
theorem internal_bytealg_Cutover_c (n : Nat) (L : List Nat) (w : World) (_hL : ∀ b ∈ L, b < w.heap.size) (a0 : Int)  {r : Int} (h : internal_bytealg_Cutover_p n a0 = some r) :
    Calls Tryz.prog 229 #[.int .i64 a0] w (Gives w fun _ u => u = .int .i64 r) := by
  unfold internal_bytealg_Cutover_p at h
  have hS0 := St.start w
  refine MX.start Tryz.func229 rfl rfl rfl (fun _ cs0 hb0 => ?_)
  refine MX.sr <| RG.sg rfl rfl <| RG.nil <| MX.sr <| RG.mv rfl rfl ?_
  obtain ⟨s1, hs1, h⟩ := bind_in h
  refine RG.vv (FV.addc (i := a0) (j := 16) rfl rfl hs1) rfl ?_
  obtain ⟨s2, hs2, h⟩ := bind_in h
  refine RG.vv (FV.quoc (i := s1) (j := 8) rfl rfl hs2) rfl <| RG.sg rfl rfl <| RG.nil <| MX.ret rfl <| RT.leave hb0 Tryz.func229 rfl (.cons (.tmp rfl) .nil) rfl ?_
  obtain rfl := Option.some.inj h
  exact ⟨hS0.ag, fun w9 hw9 => rfl⟩
def unicode_utf8_RuneStart_p (_n : Nat) (a0 : UInt8) : Option Bool :=
  some (!(decide (((a0 &&& (192 : UInt8)).toNat) = 128)))
theorem unicode_utf8_RuneStart_c (n : Nat) (L : List Nat) (w : World) (_hL : ∀ b ∈ L, b < w.heap.size) (a0 : UInt8)  {r : Bool} (h : unicode_utf8_RuneStart_p n a0 = some r) :
    Calls Tryz.prog 225 #[.int .u8 (a0.toNat : Int)] w (Gives w fun _ u => u = .bool r) := by
  unfold unicode_utf8_RuneStart_p at h
  have hS0 := St.start w
  refine MX.start Tryz.func225 rfl rfl rfl (fun _ cs0 hb0 => ?_)
  refine MX.sr <| RG.sg rfl rfl <| RG.nil <| MX.sr <| RG.mv rfl rfl <| RG.vv (FV.and8 (a := a0) (b := (192 : UInt8)) rfl rfl) rfl ?_
  refine RG.vv (FV.neqN (i := (a0 &&& (192 : UInt8)).toNat) (j := 128) rfl rfl) rfl <| RG.sg rfl rfl <| RG.nil <| MX.ret rfl <| RT.leave hb0 Tryz.func225 rfl (.cons (.tmp rfl) .nil) rfl ?_
  obtain rfl := Option.some.inj h
  exact ⟨hS0.ag, fun w9 hw9 => rfl⟩
def tb179_4 : List (Nat × Nat × Nat) := [(0, 4194304, 1), (0, 8388608, 2), (2, 16777216, 8388608), (5, 33554432, 20971520), (0, 67108864, 2), (16, 134217728, 67108864), (40, 268435456, 167772160), (127, 16, 268435456)]
theorem body202 : bodyB Tryz.prog 202 = true := by kernel_rfl
theorem body203 : bodyB Tryz.prog 203 = true := by kernel_rfl
theorem body204 : bodyB Tryz.prog 204 = true := by kernel_rfl
theorem body205 : bodyB Tryz.prog 205 = true := by kernel_rfl
theorem body206 : bodyB Tryz.prog 206 = true := by kernel_rfl
theorem body217 : bodyB Tryz.prog 217 = true := by kernel_rfl
def strings_Trim_l1 (_n : Nat) (xs0 : List Bool) (J0 : ByteArray → Option ByteArray) : ByteArray → Option ByteArray
  | s0 => (if 0 < s0.size then (s0.data[0]?).bind fun z0 => (xs0[z0.toNat]?).bind fun z1 => (if z1 = true then (scut s0 1 (s0.size : Int)).bind fun s1 => J0 s1 else some s0) else some s0)
def strings_Trim_l2 (_n : Nat) (xs0 : List Bool) (J0 : ByteArray → Option ByteArray) : ByteArray → Option ByteArray
  | s0 => (if 0 < s0.size then (chk (((s0.size : Nat) : Int) - 1)).bind fun s1 => (sidx s0 s1).bind fun z0 => (xs0[z0.toNat]?).bind fun z1 => (if z1 = true then (chk (((s0.size : Nat) : Int) - 1)).bind fun s2 => (scut s0 0 s2).bind fun s3 => J0 s3 else some s0) else some s0)
def strings_Trim_l3 (_n : Nat) (a1 : ByteArray) (J0 : Nat × (List Bool) → Option (ByteArray ⊕ (List Bool))) : Nat × (List Bool) → Option (ByteArray ⊕ (List Bool))
  | (i0, xs0) => (if i0 < a1.size then (a1.data[i0]?).bind fun z0 => (if 128 ≤ z0.toNat then (none).map .inl else (xs0[z0.toNat]?).bind fun z1 => J0 (i0 + 1, (xs0.set z0.toNat true))) else some (.inr xs0))
def strings_Trim_l4 (_n : Nat) (xs0 : List Bool) (J0 : ByteArray → Option ByteArray) : ByteArray → Option ByteArray
  | s0 => (if 0 < s0.size then (s0.data[0]?).bind fun z0 => (xs0[z0.toNat]?).bind fun z1 => (if z1 = true then (scut s0 1 (s0.size : Int)).bind fun s1 => J0 s1 else some s0) else some s0)
def strings_Trim_l5 (_n : Nat) (xs0 : List Bool) (J0 : ByteArray → Option ByteArray) : ByteArray → Option ByteArray
  | s0 => (if 0 < s0.size then (chk (((s0.size : Nat) : Int) - 1)).bind fun s1 => (sidx s0 s1).bind fun z0 => (xs0[z0.toNat]?).bind fun z1 => (if z1 = true then (chk (((s0.size : Nat) : Int) - 1)).bind fun s2 => (scut s0 0 s2).bind fun s3 => J0 s3 else some s0) else some s0)
def strings_Trim_l6 (_n : Nat) (a1 : ByteArray) (J0 : Int × (List Bool) → Option (ByteArray ⊕ (List Bool))) : Int × (List Bool) → Option (ByteArray ⊕ (List Bool))
  | (z0, xs0) => (if z0 < ((a1.size : Nat) : Int) then (sidx a1 z0).bind fun z1 => (if 128 ≤ z1.toNat then (none).map .inl else (xs0[z1.toNat]?).bind fun z2 => (chk (z0 + 1)).bind fun s0 => J0 (s0, (xs0.set z1.toNat true))) else some (.inr xs0))
def strings_Trim_p (n : Nat) (a0 : ByteArray) (a1 : ByteArray) : Option ByteArray :=
  (if a0 = ⟨#[]⟩ then some a0 else (if a1 = ⟨#[]⟩ then some a0 else (if a1.size = 1 then (a1.data[0]?).bind fun z4 => (if z4.toNat < 128 then (a1.data[0]?).bind fun z8 => (strings_trimRightByte_p n a0 z8).bind fun y9 => (a1.data[0]?).bind fun z0 => (strings_trimLeftByte_p n y9 z0).bind fun y0 => some y0 else thn (loopF (strings_Trim_l3 n a1) n (0, (List.replicate 256 false))) (fun xs0 => jn (fun s0 => jn (fun s1 => some s1) (fun J0 => Option.bind (loopF (strings_Trim_l1 n xs0) n s0) (J0))) (fun J1 => Option.bind (loopF (strings_Trim_l2 n xs0) n a0) (J1)))) else thn (loopF (strings_Trim_l6 n a1) n (0, (List.replicate 256 false))) (fun xs1 => jn (fun s2 => jn (fun s3 => some s3) (fun J2 => Option.bind (loopF (strings_Trim_l4 n xs1) n s2) (J2))) (fun J3 => Option.bind (loopF (strings_Trim_l5 n xs1) n a0) (J3))))))
theorem strings_Trim_c (n : Nat) (L : List Nat) (w : World) (hL : ∀ b ∈ L, b < w.heap.size) (a0 : ByteArray) (a1 : ByteArray)  {r : ByteArray} (h : strings_Trim_p n a0 a1 = some r) :
    Calls Tryz.prog 179 #[.string a0, .string a1] w (Gives w fun _ u => u = .string r) := by
  unfold strings_Trim_p at h
  have hS0 := St.start w
  refine MX.start Tryz.func179 rfl rfl rfl (fun _ cs0 hb0 => ?_)
  refine MX.sr <| RG.sg rfl rfl <| RG.nil <| MX.seq <| MX.sr <| RG.mv rfl rfl ?_
  refine RG.vv (FV.eqlS rfl rfl) rfl <| RG.mv rfl rfl <| RG.ifd (s := 9) rfl h (fun c1 h => ?_) (fun c1 h => ?_)
  ·skip
   refine RG.off (.no rfl rfl) rfl <| RG.off (.no rfl rfl) rfl <| RG.vv (FV.pick_t rfl rfl) rfl <| RG.nil <| MX.cond_t rfl <| MX.sr ?_
   refine RG.mv rfl rfl <| RG.sg rfl rfl <| RG.nil <| MX.ret rfl <| RT.leave hb0 Tryz.func179 rfl (.cons (.tmp rfl) .nil) rfl ?_
   obtain rfl := Option.some.inj h
   exact ⟨hS0.ag, fun w9 hw9 => rfl⟩
  refine RG.val' (.yes rfl rfl) (FV.move rfl) rfl <| RG.val' (.yes rfl rfl) (FV.eqlS rfl rfl) rfl <| RG.vv (FV.pick_f rfl rfl) rfl <| RG.nil <| MX.ifd rfl h (fun c2 h => ?_) (fun c2 h => ?_)
  ·skip
   refine MX.sr <| RG.mv rfl rfl <| RG.sg rfl rfl <| RG.nil <| MX.ret rfl <| RT.leave hb0 Tryz.func179 rfl (.cons (.tmp rfl) .nil) rfl ?_
   obtain rfl := Option.some.inj h
   exact ⟨hS0.ag, fun w9 hw9 => rfl⟩
  refine MX.skip <| MX.seq <| MX.sr <| RG.mv rfl rfl <| RG.vv (FV.len_string Tryz.underlying9 rfl) rfl <| RG.vv (FV.eqlN (i := a1.size) (j := 1) rfl rfl) rfl ?_
  refine RG.mv rfl rfl <| RG.ifd (s := 17) rfl h (fun c3 h => ?_) (fun c3 h => ?_)
  ·skip
   refine RG.val' (.yes rfl rfl) (FV.move rfl) rfl ?_
   obtain ⟨z4, hz4, h⟩ := bind_in h
   refine RG.val' (.yes rfl rfl) (FV.strAt (k := 0) Tryz.underlying9 rfl rfl rfl hz4) rfl <| RG.val' (.yes rfl rfl) (FV.lssN (i := z4.toNat) (j := 128) rfl rfl) rfl <| RG.vv (FV.pick_t rfl rfl) rfl <| RG.nil <| MX.ifd rfl h (fun c5 h => ?_) (fun c5 h => ?_)
   ·skip
    refine MX.seq <| MX.drawT 8 tb179_4 (by kernel_rfl) (by kernel_rfl) (by kernel_rfl) (fun kt6 kp7 => ?_)
    refine RD.vw 0 1 kt6 rfl kp7 (fun _ => FV.move rfl) rfl <| RD.vw 1 3 kt6 rfl kp7 (fun _ => FV.move rfl) rfl ?_
    obtain ⟨z8, hz8, h⟩ := bind_in h
    refine RD.vw 2 7 kt6 rfl kp7 (fun _ => FV.strAt (k := 0) Tryz.underlying9 rfl rfl rfl hz8) rfl ?_
    obtain ⟨y9, hy9, h⟩ := bind_in h
    refine RD.cq 3 15 192 (.string y9) kt6 rfl kp7 body203 rfl (evs_cons rfl (evs_cons rfl evs_nil)) (fun w9 hw9 => strings_trimRightByte_c n _ w9 (hS0.hL0 hL hw9) a0 z8 hy9) rfl <| RD.vw 4 31 kt6 rfl kp7 (fun _ => FV.move rfl) rfl ?_
    obtain ⟨z0, hz10, h⟩ := bind_in h
    refine RD.vw 5 63 kt6 rfl kp7 (fun _ => FV.strAt (k := 0) Tryz.underlying9 rfl rfl rfl hz10) rfl ?_
    obtain ⟨y0, hy0, h⟩ := bind_in h
    refine RD.cq 6 127 128 (.string y0) kt6 rfl kp7 body202 rfl (evs_cons rfl (evs_cons rfl evs_nil)) (fun w9 hw9 => strings_trimLeftByte_c n _ w9 (hS0.hL0 hL hw9) y9 z0 hy0) rfl <| RD.vw 7 255 kt6 rfl kp7 (fun _ => FV.assign rfl) rfl <| RD.done (doneD_ok kt6 (by kernel_rfl)) <| MX.ret rfl <| RT.leave hb0 Tryz.func179 rfl (.cons (.tmp rfl) .nil) rfl ?_
    obtain rfl := Option.some.inj h
    exact ⟨hS0.ag, fun w9 hw9 => rfl⟩
   refine MX.skip <| MX.seq <| MX.sr <| RG.mv rfl rfl <| RG.enterP (fst := []) (cap := []) (vs := [.string a1]) .plain body204 Tryz.func204 rfl rfl rfl rfl (evs_cons rfl evs_nil) rfl (fun cs1 hb1 hp0 => ?_)
   refine MX.sr ?_
   have hl16 : (List.replicate 256 false).length = 256 := List.length_replicate
   refine RG.new .plain rfl (Does.alloc (zs := (List.replicate 256 false).map (fun z9 : Bool => (.bool z9 : Value))) hS0 (zB (by kernel_rfl))) (fun w0 b0 hS1 hT0 => ?_)
   refine RG.sg rfl rfl <| RG.nil <| MX.seq <| MX.sr <| RG.sg rfl rfl <| RG.nil ?_
   refine MX.block ?_
   obtain ⟨o0, ho62, hh64⟩ := thn_in h
   refine MX.loop (α := Nat × (List Bool)) (fun ⟨i0, xs0⟩ => [(0, .string a1), (2, .pointer (some ⟨b0, 0, none⟩)), (4, .int .i64 ((i0 : Nat) : Int))]) (fun ⟨i0, xs0⟩ wx0 => St w wx0 [.cells b0 (xs0.map (fun z9 : Bool => (.bool z9 : Value))) 228] ∧ Tr w0 [.cells b0 ((List.replicate 256 false).map (fun z9 : Bool => (.bool z9 : Value))) 228] wx0 [.cells b0 (xs0.map (fun z9 : Bool => (.bool z9 : Value))) 228] ∧ xs0.length = 256) (fun ⟨i0, xs0⟩ => (i0, xs0)) (0, (List.replicate 256 false)) ho62 ⟨rfl, rfl, rfl, trivial⟩ ⟨hS1, Tr.refl _ _, hl16⟩ ?_
   rintro J0 ⟨i0, xs0⟩ wx0 hJ66 ⟨hS2, hT1, hl57⟩ h
   unfold strings_Trim_l3 at h
   try dsimp only at h
   refine MX.seq <| MX.sr <| RG.mv rfl rfl <| RG.mv rfl rfl <| RG.vv (FV.len_string Tryz.underlying9 rfl) rfl <| RG.vv (FV.lssN (i := i0) (j := a1.size) rfl rfl) rfl ?_
   refine RG.nil <| MX.ifd rfl h (fun c0 h => ?_) (fun c0 h => ?_)
   ·skip
    refine MX.skip <| MX.seq <| MX.block <| MX.sr <| RG.mv rfl rfl <| RG.mv rfl rfl ?_
    obtain ⟨z1, hz68, h⟩ := bind_in h
    refine RG.vv (FV.strAt (k := i0) Tryz.underlying9 rfl rfl rfl hz68) rfl <| RG.sg rfl rfl <| RG.nil <| MX.seq <| MX.sr <| RG.mv rfl rfl ?_
    refine RG.vv (FV.geqN (i := z1.toNat) (j := 128) rfl rfl) rfl <| RG.nil <| MX.ifd rfl h (fun c4 h => ?_) (fun c4 h => ?_)
    ·skip
     refine MX.sr <| RG.vv (FV.loadN (cs := xs0.map (fun z9 : Bool => (.bool z9 : Value))) (by rw [List.length_map, hl57]; kernel_rfl) rfl (hS2.memA .hd)) rfl <| RG.now .plain (Acts.storeBig (fun z9 : Bool => (.bool z9 : Value)) (m := 256) hl57 hl57 hS2 .hd rfl rfl (by kernel_rfl) (fun _ => rfl)) (fun w1 hS3 hT2 => ?_)
     refine RG.sg rfl rfl <| RG.nil ?_
     have h := thn_map h hh64
     refine MX.ret rfl <| RT.leave (u := .tuple #[.agg (xs0.map (fun z9 : Bool => (.bool z9 : Value))).toArray, .bool false]) hb1 Tryz.func204 rfl (.cons (.many (cs := xs0.map (fun z9 : Bool => (.bool z9 : Value))) (by rw [List.length_map, hl57]; kernel_rfl) rfl (hS3.memA .hd)) (.cons (.tmp rfl) .nil)) rfl <| RG.mv rfl rfl <| RG.vv (FV.extract rfl rfl) rfl <| RG.vv (FV.extract rfl rfl) rfl ?_
     have hl74 : (List.replicate 256 false).length = 256 := List.length_replicate
     refine RG.new .plain rfl (Does.alloc (zs := (List.replicate 256 false).map (fun z9 : Bool => (.bool z9 : Value))) hS3 (zB (by kernel_rfl))) (fun w2 b1 hS4 hT3 => ?_)
     refine RG.now .plain (Acts.storeBig (fun z9 : Bool => (.bool z9 : Value)) (m := 256) hl74 hl57 hS4 .hd rfl rfl (by kernel_rfl) (fun _ => rfl)) (fun w3 hS5 hT4 => ?_)
     refine RG.sg rfl rfl <| RG.nil <| MX.sr <| RG.mv rfl rfl <| RG.nil <| MX.cond_f rfl ?_
     refine MX.skip <| MX.sr <| RG.mv rfl rfl <| RG.mv rfl rfl ?_
     cases h
    refine MX.skip <| MX.region <| RG.mv rfl rfl ?_
    obtain ⟨z2, hz82, h⟩ := bind_in h
    have hm0 := mem_elem1 (p := ⟨b0, 0, none⟩) (cs := xs0.map (fun z9 : Bool => (.bool z9 : Value))) (i := z1.toNat) (hS2.memA .hd) (arr_get0 (fun z9 : Bool => (.bool z9 : Value)) hz82)
    refine RG.vv (FV.indexArr (m := 1) (k := z1.toNat) (len := 256) (by kernel_rfl) rfl rfl rfl (arr_lt hz82 hl57)) rfl ?_
    have hl84 : (xs0.set z1.toNat true).length = 256 := by rw [List.length_set]; exact hl57
    refine RG.now .plain (Acts.setBig (fun z9 : Bool => (.bool z9 : Value)) (i := z1.toNat) (x := true) (m := 256) hl57 (arr_lt hz82 hl57) hS2 .hd rfl (addr_at _ _ _) rfl (by kernel_rfl) (fun _ => ⟨rfl, rfl⟩)) (fun w4 hS6 hT5 => ?_)
    refine RG.nil <| MX.inBlock <| MX.region <| RG.mv rfl rfl <| RG.vv (FV.addN (i := i0) (j := 1) rfl rfl (by omega)) rfl <| RG.sg rfl rfl ?_
    refine RG.nil ?_
    exact hJ66 (i0 + 1, (xs0.set z1.toNat true)) _ _ ⟨rfl, rfl, rfl, trivial⟩ ⟨hS6, (Tr.trans hT1 hT5), hl84⟩ h
   refine MX.exit rfl ?_
   have h := thn_inr h hh64
   try dsimp only at h
   refine MX.sr <| RG.vv (FV.loadN (cs := xs0.map (fun z9 : Bool => (.bool z9 : Value))) (by rw [List.length_map, hl57]; kernel_rfl) rfl (hS2.memA .hd)) rfl <| RG.now .plain (Acts.storeBig (fun z9 : Bool => (.bool z9 : Value)) (m := 256) hl57 hl57 hS2 .hd rfl rfl (by kernel_rfl) (fun _ => rfl)) (fun w5 hS7 hT6 => ?_)
   refine RG.sg rfl rfl <| RG.nil <| MX.ret rfl <| RT.leave (u := .tuple #[.agg (xs0.map (fun z9 : Bool => (.bool z9 : Value))).toArray, .bool true]) hb1 Tryz.func204 rfl (.cons (.many (cs := xs0.map (fun z9 : Bool => (.bool z9 : Value))) (by rw [List.length_map, hl57]; kernel_rfl) rfl (hS7.memA .hd)) (.cons (.tmp rfl) .nil)) rfl <| RG.mv rfl rfl <| RG.vv (FV.extract rfl rfl) rfl ?_
   refine RG.vv (FV.extract rfl rfl) rfl ?_
   have hl92 : (List.replicate 256 false).length = 256 := List.length_replicate
   refine RG.new .plain rfl (Does.alloc (zs := (List.replicate 256 false).map (fun z9 : Bool => (.bool z9 : Value))) hS7 (zB (by kernel_rfl))) (fun w6 b2 hS8 hT7 => ?_)
   refine RG.now .plain (Acts.storeBig (fun z9 : Bool => (.bool z9 : Value)) (m := 256) hl92 hl57 hS8 .hd rfl rfl (by kernel_rfl) (fun _ => rfl)) (fun w7 hS9 hT8 => ?_)
   refine RG.sg rfl rfl <| RG.nil <| MX.sr <| RG.mv rfl rfl <| RG.nil <| MX.cond_t rfl ?_
   refine MX.sr <| RG.mv rfl rfl <| RG.enterP (fst := []) (cap := []) (vs := [.string a0, .pointer (some ⟨b2, 0, none⟩)]) .plain body206 Tryz.func206 rfl rfl rfl rfl (evs_cons rfl (evs_cons rfl evs_nil)) rfl (fun cs2 hb2 hp1 => ?_)
   refine MX.sr <| RG.sg rfl rfl <| RG.nil <| MX.seq <| MX.block <| MX.joinx (α := ByteArray) (fun s0 => [(0, .string s0)]) (fun s0 wx1 => St w wx1 [.cells b2 (xs0.map (fun z9 : Bool => (.bool z9 : Value))) 228] ∧ Tr w7 [.cells b2 (xs0.map (fun z9 : Bool => (.bool z9 : Value))) 228, .cells b0 (xs0.map (fun z9 : Bool => (.bool z9 : Value))) 228] wx1 [.cells b2 (xs0.map (fun z9 : Bool => (.bool z9 : Value))) 228]) (fun s0 => s0) (id := 0) rfl h ?_ ?_
   ·skip
    rintro s0 wx1 ⟨hS10, hT9⟩ h
    try dsimp only at h
    refine MX.sr <| RG.mv rfl rfl <| RG.sg rfl rfl <| RG.nil <| MX.ret rfl <| RT.leave (u := .string s0) hb2 Tryz.func206 rfl (.cons (.tmp rfl) .nil) rfl ?_
    refine RG.enterP (fst := []) (cap := []) (vs := [.string s0, .pointer (some ⟨b2, 0, none⟩)]) .plain body205 Tryz.func205 rfl rfl rfl rfl (evs_cons rfl (evs_cons rfl evs_nil)) rfl (fun cs3 hb3 hp2 => ?_)
    refine MX.sr <| RG.sg rfl rfl <| RG.nil <| MX.seq <| MX.block <| MX.joinx (α := ByteArray) (fun s1 => [(0, .string s1)]) (fun s1 wx2 => St w wx2 [.cells b2 (xs0.map (fun z9 : Bool => (.bool z9 : Value))) 228] ∧ Tr wx1 [.cells b2 (xs0.map (fun z9 : Bool => (.bool z9 : Value))) 228] wx2 [.cells b2 (xs0.map (fun z9 : Bool => (.bool z9 : Value))) 228]) (fun s1 => s1) (id := 0) rfl h ?_ ?_
    ·skip
     rintro s1 wx2 ⟨hS11, hT10⟩ h
     try dsimp only at h
     refine MX.sr <| RG.mv rfl rfl <| RG.sg rfl rfl <| RG.nil <| MX.ret rfl <| RT.leave (u := .string s1) hb3 Tryz.func205 rfl (.cons (.tmp rfl) .nil) rfl ?_
     refine RG.sg rfl rfl <| RG.nil <| MX.ret rfl <| RT.leave hb0 Tryz.func179 rfl (.cons (.tmp rfl) .nil) rfl ?_
     obtain rfl := Option.some.inj h
     exact ⟨hS11.ag, fun w9 hw9 => rfl⟩
    ·skip
     intro J1 hJ221 h
     try dsimp only at h
     obtain ⟨o1, ho240, hh242⟩ := bind_in2 h
     refine MX.loop (α := ByteArray) (fun s2 => [(0, .string s2), (1, .pointer (some ⟨b2, 0, none⟩))]) (fun s2 wx3 => St w wx3 [.cells b2 (xs0.map (fun z9 : Bool => (.bool z9 : Value))) 228] ∧ Tr wx1 [.cells b2 (xs0.map (fun z9 : Bool => (.bool z9 : Value))) 228] wx3 [.cells b2 (xs0.map (fun z9 : Bool => (.bool z9 : Value))) 228]) (fun s2 => s2) s0 ho240 ⟨rfl, rfl, trivial⟩ ⟨hS10, Tr.refl _ _⟩ ?_
     rintro J2 s2 wx3 hJ244 ⟨hS12, hT11⟩ h
     unfold strings_Trim_l1 at h
     try dsimp only at h
     refine MX.seq <| MX.sr <| RG.mv rfl rfl <| RG.vv (FV.len_string Tryz.underlying9 rfl) rfl <| RG.vv (FV.gtrN (i := s2.size) (j := 0) rfl rfl) rfl <| RG.nil ?_
     refine MX.ifd rfl h (fun c6 h => ?_) (fun c6 h => ?_)
     ·skip
      refine MX.skip <| MX.block <| MX.seq <| MX.sr <| RG.mv rfl rfl <| RG.mv rfl rfl ?_
      obtain ⟨z3, hz246, h⟩ := bind_in h
      refine RG.vv (FV.strAt (k := 0) Tryz.underlying9 rfl rfl rfl hz246) rfl <| RG.enterP (fst := []) (cap := []) (vs := [.pointer (some ⟨b2, 0, none⟩), .int .u8 (z3.toNat : Int)]) .plain body217 Tryz.func217 rfl rfl rfl rfl (evs_cons rfl (evs_cons rfl evs_nil)) rfl (fun cs4 hb4 hp3 => ?_)
      refine MX.sr <| RG.sg rfl rfl <| RG.nil <| MX.sr <| RG.mv rfl rfl <| RG.mv rfl rfl ?_
      refine RG.vv (FV.nilCheck rfl) rfl ?_
      obtain ⟨z5, hz250, h⟩ := bind_in h
      have hm1 := mem_elem1 (p := ⟨b2, 0, none⟩) (cs := xs0.map (fun z9 : Bool => (.bool z9 : Value))) (i := z3.toNat) (hS12.memA .hd) (arr_get0 (fun z9 : Bool => (.bool z9 : Value)) hz250)
      refine RG.vv (FV.indexArr (m := 1) (k := z3.toNat) (len := 256) (by kernel_rfl) rfl rfl rfl (arr_lt hz250 hl57)) rfl <| RG.vv (FV.load1 (by kernel_rfl) rfl (hm1 0 _ rfl)) rfl <| RG.sg rfl rfl <| RG.nil <| MX.ret rfl <| RT.leave (u := .bool z5) hb4 Tryz.func217 rfl (.cons (.tmp rfl) .nil) rfl ?_
      refine RG.vv (FV.not rfl) rfl <| RG.nil <| MX.ifnb rfl h (fun c7 h => ?_) (fun c7 h => ?_)
      ·skip
       refine MX.skip <| MX.region <| RG.mv rfl rfl ?_
       obtain ⟨s3, hs0, h⟩ := bind_in h
       refine RG.vv (FV.strCut hs0 Tryz.underlying9 rfl ⟨_, rfl⟩ rfl) rfl <| RG.sg rfl rfl <| RG.nil <| MX.inBlock ?_
       exact hJ244 s3 _ _ ⟨rfl, rfl, trivial⟩ ⟨hS12, hT11⟩ h
      refine MX.exit rfl ?_
      have h := hh242 _ h
      try dsimp only at h
      exact hJ221 s2 _ _ ⟨rfl, trivial⟩ ⟨hS12, hT11⟩ h
     refine MX.exit rfl ?_
     have h := hh242 _ h
     try dsimp only at h
     exact hJ221 s2 _ _ ⟨rfl, trivial⟩ ⟨hS12, hT11⟩ h
   ·skip
    intro J3 hJ167 h
    try dsimp only at h
    obtain ⟨hS13, hT12⟩ := St.arrB hS9 (.one .hd .done)
    obtain ⟨o2, ho278, hh280⟩ := bind_in2 h
    refine MX.loop (α := ByteArray) (fun s4 => [(0, .string s4), (1, .pointer (some ⟨b2, 0, none⟩))]) (fun s4 wx4 => St w wx4 [.cells b2 (xs0.map (fun z9 : Bool => (.bool z9 : Value))) 228] ∧ Tr w7 [.cells b2 (xs0.map (fun z9 : Bool => (.bool z9 : Value))) 228] wx4 [.cells b2 (xs0.map (fun z9 : Bool => (.bool z9 : Value))) 228]) (fun s4 => s4) a0 ho278 ⟨rfl, rfl, trivial⟩ ⟨hS13, Tr.refl _ _⟩ ?_
    rintro J4 s4 wx4 hJ282 ⟨hS14, hT13⟩ h
    unfold strings_Trim_l2 at h
    try dsimp only at h
    refine MX.seq <| MX.sr <| RG.mv rfl rfl <| RG.vv (FV.len_string Tryz.underlying9 rfl) rfl <| RG.vv (FV.gtrN (i := s4.size) (j := 0) rfl rfl) rfl <| RG.nil ?_
    refine MX.ifd rfl h (fun c8 h => ?_) (fun c8 h => ?_)
    ·skip
     refine MX.skip <| MX.block <| MX.seq <| MX.sr <| RG.mv rfl rfl <| RG.mv rfl rfl ?_
     refine RG.mv rfl rfl <| RG.vv (FV.len_string Tryz.underlying9 rfl) rfl ?_
     obtain ⟨s5, hs1, h⟩ := bind_in h
     refine RG.vv (FV.subc (i := ((s4.size : Nat) : Int)) (j := 1) rfl rfl hs1) rfl ?_
     obtain ⟨z6, hz285, h⟩ := bind_in h
     obtain ⟨hi0, hx0⟩ := sidx_in hz285
     refine RG.vv (FV.strAt (k := s5.toNat) Tryz.underlying9 rfl rfl hi0 hx0) rfl <| RG.enterP (fst := []) (cap := []) (vs := [.pointer (some ⟨b2, 0, none⟩), .int .u8 (z6.toNat : Int)]) .plain body217 Tryz.func217 rfl rfl rfl rfl (evs_cons rfl (evs_cons rfl evs_nil)) rfl (fun cs5 hb5 hp4 => ?_)
     refine MX.sr <| RG.sg rfl rfl <| RG.nil <| MX.sr <| RG.mv rfl rfl <| RG.mv rfl rfl ?_
     refine RG.vv (FV.nilCheck rfl) rfl ?_
     obtain ⟨z7, hz291, h⟩ := bind_in h
     have hm2 := mem_elem1 (p := ⟨b2, 0, none⟩) (cs := xs0.map (fun z9 : Bool => (.bool z9 : Value))) (i := z6.toNat) (hS14.memA .hd) (arr_get0 (fun z9 : Bool => (.bool z9 : Value)) hz291)
     refine RG.vv (FV.indexArr (m := 1) (k := z6.toNat) (len := 256) (by kernel_rfl) rfl rfl rfl (arr_lt hz291 hl57)) rfl <| RG.vv (FV.load1 (by kernel_rfl) rfl (hm2 0 _ rfl)) rfl <| RG.sg rfl rfl <| RG.nil <| MX.ret rfl <| RT.leave (u := .bool z7) hb5 Tryz.func217 rfl (.cons (.tmp rfl) .nil) rfl ?_
     refine RG.vv (FV.not rfl) rfl <| RG.nil <| MX.ifnb rfl h (fun c9 h => ?_) (fun c9 h => ?_)
     ·skip
      refine MX.skip <| MX.region <| RG.mv rfl rfl <| RG.mv rfl rfl <| RG.vv (FV.len_string Tryz.underlying9 rfl) rfl ?_
      obtain ⟨s6, hs2, h⟩ := bind_in h
      refine RG.vv (FV.subc (i := ((s4.size : Nat) : Int)) (j := 1) rfl rfl hs2) rfl ?_
      obtain ⟨s7, hs3, h⟩ := bind_in h
      refine RG.vv (FV.strCut hs3 Tryz.underlying9 rfl rfl ⟨_, rfl⟩) rfl <| RG.sg rfl rfl <| RG.nil <| MX.inBlock ?_
      exact hJ282 s7 _ _ ⟨rfl, rfl, trivial⟩ ⟨hS14, hT13⟩ h
     refine MX.exit rfl ?_
     have h := hh280 _ h
     try dsimp only at h
     exact hJ167 s4 _ _ ⟨rfl, trivial⟩ ⟨hS14, (Tr.trans hT12 hT13)⟩ h
    refine MX.exit rfl ?_
    have h := hh280 _ h
    try dsimp only at h
    exact hJ167 s4 _ _ ⟨rfl, trivial⟩ ⟨hS14, (Tr.trans hT12 hT13)⟩ h
  refine RG.off (.no rfl rfl) rfl <| RG.off (.no rfl rfl) rfl <| RG.off (.no rfl rfl) rfl <| RG.vv (FV.pick_f rfl rfl) rfl <| RG.nil <| MX.cond_f rfl ?_
  refine MX.skip <| MX.seq <| MX.sr <| RG.mv rfl rfl <| RG.enterP (fst := []) (cap := []) (vs := [.string a1]) .plain body204 Tryz.func204 rfl rfl rfl rfl (evs_cons rfl evs_nil) rfl (fun cs6 hb6 hp5 => ?_)
  refine MX.sr ?_
  have hl300 : (List.replicate 256 false).length = 256 := List.length_replicate
  refine RG.new .plain rfl (Does.alloc (zs := (List.replicate 256 false).map (fun z9 : Bool => (.bool z9 : Value))) hS0 (zB (by kernel_rfl))) (fun w8 b3 hS15 hT14 => ?_)
  refine RG.sg rfl rfl <| RG.nil <| MX.seq <| MX.sr <| RG.sg rfl rfl <| RG.nil ?_
  refine MX.block ?_
  obtain ⟨o3, ho350, hh352⟩ := thn_in h
  refine MX.loop (α := Int × (List Bool)) (fun ⟨z11, xs1⟩ => [(0, .string a1), (2, .pointer (some ⟨b3, 0, none⟩)), (4, .int .i64 z11)]) (fun ⟨z11, xs1⟩ wx5 => St w wx5 [.cells b3 (xs1.map (fun z9 : Bool => (.bool z9 : Value))) 228] ∧ Tr w8 [.cells b3 ((List.replicate 256 false).map (fun z9 : Bool => (.bool z9 : Value))) 228] wx5 [.cells b3 (xs1.map (fun z9 : Bool => (.bool z9 : Value))) 228] ∧ xs1.length = 256) (fun ⟨z11, xs1⟩ => (z11, xs1)) (0, (List.replicate 256 false)) ho350 ⟨rfl, rfl, rfl, trivial⟩ ⟨hS15, Tr.refl _ _, hl300⟩ ?_
  rintro J5 ⟨z11, xs1⟩ wx5 hJ354 ⟨hS16, hT15, hl345⟩ h
  unfold strings_Trim_l6 at h
  try dsimp only at h
  refine MX.seq <| MX.sr <| RG.mv rfl rfl <| RG.mv rfl rfl <| RG.vv (FV.len_string Tryz.underlying9 rfl) rfl <| RG.vv (FV.lss (i := z11) (j := ((a1.size : Nat) : Int)) rfl rfl) rfl ?_
  refine RG.nil <| MX.ifd rfl h (fun c10 h => ?_) (fun c10 h => ?_)
  ·skip
   refine MX.skip <| MX.seq <| MX.block <| MX.sr <| RG.mv rfl rfl <| RG.mv rfl rfl ?_
   obtain ⟨z12, hz356, h⟩ := bind_in h
   obtain ⟨hi1, hx1⟩ := sidx_in hz356
   refine RG.vv (FV.strAt (k := z11.toNat) Tryz.underlying9 rfl rfl hi1 hx1) rfl <| RG.sg rfl rfl <| RG.nil <| MX.seq <| MX.sr <| RG.mv rfl rfl ?_
   refine RG.vv (FV.geqN (i := z12.toNat) (j := 128) rfl rfl) rfl <| RG.nil <| MX.ifd rfl h (fun c11 h => ?_) (fun c11 h => ?_)
   ·skip
    refine MX.sr <| RG.vv (FV.loadN (cs := xs1.map (fun z9 : Bool => (.bool z9 : Value))) (by rw [List.length_map, hl345]; kernel_rfl) rfl (hS16.memA .hd)) rfl <| RG.now .plain (Acts.storeBig (fun z9 : Bool => (.bool z9 : Value)) (m := 256) hl345 hl345 hS16 .hd rfl rfl (by kernel_rfl) (fun _ => rfl)) (fun w10 hS17 hT16 => ?_)
    refine RG.sg rfl rfl <| RG.nil ?_
    have h := thn_map h hh352
    refine MX.ret rfl <| RT.leave (u := .tuple #[.agg (xs1.map (fun z9 : Bool => (.bool z9 : Value))).toArray, .bool false]) hb6 Tryz.func204 rfl (.cons (.many (cs := xs1.map (fun z9 : Bool => (.bool z9 : Value))) (by rw [List.length_map, hl345]; kernel_rfl) rfl (hS17.memA .hd)) (.cons (.tmp rfl) .nil)) rfl <| RG.mv rfl rfl <| RG.vv (FV.extract rfl rfl) rfl <| RG.vv (FV.extract rfl rfl) rfl ?_
    have hl364 : (List.replicate 256 false).length = 256 := List.length_replicate
    refine RG.new .plain rfl (Does.alloc (zs := (List.replicate 256 false).map (fun z9 : Bool => (.bool z9 : Value))) hS17 (zB (by kernel_rfl))) (fun w11 b4 hS19 hT17 => ?_)
    refine RG.now .plain (Acts.storeBig (fun z9 : Bool => (.bool z9 : Value)) (m := 256) hl364 hl345 hS19 .hd rfl rfl (by kernel_rfl) (fun _ => rfl)) (fun w12 hS20 hT18 => ?_)
    refine RG.sg rfl rfl <| RG.nil <| MX.sr <| RG.mv rfl rfl <| RG.nil <| MX.cond_f rfl ?_
    refine MX.skip <| MX.sr <| RG.mv rfl rfl <| RG.mv rfl rfl ?_
    cases h
   refine MX.skip <| MX.region <| RG.mv rfl rfl ?_
   obtain ⟨z13, hz372, h⟩ := bind_in h
   have hm3 := mem_elem1 (p := ⟨b3, 0, none⟩) (cs := xs1.map (fun z9 : Bool => (.bool z9 : Value))) (i := z12.toNat) (hS16.memA .hd) (arr_get0 (fun z9 : Bool => (.bool z9 : Value)) hz372)
   refine RG.vv (FV.indexArr (m := 1) (k := z12.toNat) (len := 256) (by kernel_rfl) rfl rfl rfl (arr_lt hz372 hl345)) rfl ?_
   have hl374 : (xs1.set z12.toNat true).length = 256 := by rw [List.length_set]; exact hl345
   refine RG.now .plain (Acts.setBig (fun z9 : Bool => (.bool z9 : Value)) (i := z12.toNat) (x := true) (m := 256) hl345 (arr_lt hz372 hl345) hS16 .hd rfl (addr_at _ _ _) rfl (by kernel_rfl) (fun _ => ⟨rfl, rfl⟩)) (fun w13 hS21 hT20 => ?_)
   refine RG.nil <| MX.inBlock <| MX.region <| RG.mv rfl rfl ?_
   obtain ⟨s8, hs4, h⟩ := bind_in h
   refine RG.vv (FV.addc (i := z11) (j := 1) rfl rfl hs4) rfl <| RG.sg rfl rfl <| RG.nil ?_
   exact hJ354 (s8, (xs1.set z12.toNat true)) _ _ ⟨rfl, rfl, rfl, trivial⟩ ⟨hS21, (Tr.trans hT15 hT20), hl374⟩ h
  refine MX.exit rfl ?_
  have h := thn_inr h hh352
  try dsimp only at h
  refine MX.sr <| RG.vv (FV.loadN (cs := xs1.map (fun z9 : Bool => (.bool z9 : Value))) (by rw [List.length_map, hl345]; kernel_rfl) rfl (hS16.memA .hd)) rfl <| RG.now .plain (Acts.storeBig (fun z9 : Bool => (.bool z9 : Value)) (m := 256) hl345 hl345 hS16 .hd rfl rfl (by kernel_rfl) (fun _ => rfl)) (fun w14 hS22 hT21 => ?_)
  refine RG.sg rfl rfl <| RG.nil <| MX.ret rfl <| RT.leave (u := .tuple #[.agg (xs1.map (fun z9 : Bool => (.bool z9 : Value))).toArray, .bool true]) hb6 Tryz.func204 rfl (.cons (.many (cs := xs1.map (fun z9 : Bool => (.bool z9 : Value))) (by rw [List.length_map, hl345]; kernel_rfl) rfl (hS22.memA .hd)) (.cons (.tmp rfl) .nil)) rfl <| RG.mv rfl rfl <| RG.vv (FV.extract rfl rfl) rfl ?_
  refine RG.vv (FV.extract rfl rfl) rfl ?_
  have hl383 : (List.replicate 256 false).length = 256 := List.length_replicate
  refine RG.new .plain rfl (Does.alloc (zs := (List.replicate 256 false).map (fun z9 : Bool => (.bool z9 : Value))) hS22 (zB (by kernel_rfl))) (fun w15 b5 hS23 hT22 => ?_)
  refine RG.now .plain (Acts.storeBig (fun z9 : Bool => (.bool z9 : Value)) (m := 256) hl383 hl345 hS23 .hd rfl rfl (by kernel_rfl) (fun _ => rfl)) (fun w16 hS24 hT23 => ?_)
  refine RG.sg rfl rfl <| RG.nil <| MX.sr <| RG.mv rfl rfl <| RG.nil <| MX.cond_t rfl ?_
  refine MX.sr <| RG.mv rfl rfl <| RG.enterP (fst := []) (cap := []) (vs := [.string a0, .pointer (some ⟨b5, 0, none⟩)]) .plain body206 Tryz.func206 rfl rfl rfl rfl (evs_cons rfl (evs_cons rfl evs_nil)) rfl (fun cs7 hb7 hp6 => ?_)
  refine MX.sr <| RG.sg rfl rfl <| RG.nil <| MX.seq <| MX.block <| MX.joinx (α := ByteArray) (fun s9 => [(0, .string s9)]) (fun s9 wx6 => St w wx6 [.cells b5 (xs1.map (fun z9 : Bool => (.bool z9 : Value))) 228] ∧ Tr w16 [.cells b5 (xs1.map (fun z9 : Bool => (.bool z9 : Value))) 228, .cells b3 (xs1.map (fun z9 : Bool => (.bool z9 : Value))) 228] wx6 [.cells b5 (xs1.map (fun z9 : Bool => (.bool z9 : Value))) 228]) (fun s9 => s9) (id := 0) rfl h ?_ ?_
  ·skip
   rintro s9 wx6 ⟨hS25, hT24⟩ h
   try dsimp only at h
   refine MX.sr <| RG.mv rfl rfl <| RG.sg rfl rfl <| RG.nil <| MX.ret rfl <| RT.leave (u := .string s9) hb7 Tryz.func206 rfl (.cons (.tmp rfl) .nil) rfl ?_
   refine RG.enterP (fst := []) (cap := []) (vs := [.string s9, .pointer (some ⟨b5, 0, none⟩)]) .plain body205 Tryz.func205 rfl rfl rfl rfl (evs_cons rfl (evs_cons rfl evs_nil)) rfl (fun cs8 hb8 hp7 => ?_)
   refine MX.sr <| RG.sg rfl rfl <| RG.nil <| MX.seq <| MX.block <| MX.joinx (α := ByteArray) (fun s10 => [(0, .string s10)]) (fun s10 wx7 => St w wx7 [.cells b5 (xs1.map (fun z9 : Bool => (.bool z9 : Value))) 228] ∧ Tr wx6 [.cells b5 (xs1.map (fun z9 : Bool => (.bool z9 : Value))) 228] wx7 [.cells b5 (xs1.map (fun z9 : Bool => (.bool z9 : Value))) 228]) (fun s10 => s10) (id := 0) rfl h ?_ ?_
   ·skip
    rintro s10 wx7 ⟨hS26, hT25⟩ h
    try dsimp only at h
    refine MX.sr <| RG.mv rfl rfl <| RG.sg rfl rfl <| RG.nil <| MX.ret rfl <| RT.leave (u := .string s10) hb8 Tryz.func205 rfl (.cons (.tmp rfl) .nil) rfl ?_
    refine RG.sg rfl rfl <| RG.nil <| MX.ret rfl <| RT.leave hb0 Tryz.func179 rfl (.cons (.tmp rfl) .nil) rfl ?_
    obtain rfl := Option.some.inj h
    exact ⟨hS26.ag, fun w9 hw9 => rfl⟩
   ·skip
    intro J6 hJ512 h
    try dsimp only at h
    obtain ⟨o4, ho531, hh533⟩ := bind_in2 h
    refine MX.loop (α := ByteArray) (fun s11 => [(0, .string s11), (1, .pointer (some ⟨b5, 0, none⟩))]) (fun s11 wx8 => St w wx8 [.cells b5 (xs1.map (fun z9 : Bool => (.bool z9 : Value))) 228] ∧ Tr wx6 [.cells b5 (xs1.map (fun z9 : Bool => (.bool z9 : Value))) 228] wx8 [.cells b5 (xs1.map (fun z9 : Bool => (.bool z9 : Value))) 228]) (fun s11 => s11) s9 ho531 ⟨rfl, rfl, trivial⟩ ⟨hS25, Tr.refl _ _⟩ ?_
    rintro J7 s11 wx8 hJ535 ⟨hS27, hT26⟩ h
    unfold strings_Trim_l4 at h
    try dsimp only at h
    refine MX.seq <| MX.sr <| RG.mv rfl rfl <| RG.vv (FV.len_string Tryz.underlying9 rfl) rfl <| RG.vv (FV.gtrN (i := s11.size) (j := 0) rfl rfl) rfl <| RG.nil ?_
    refine MX.ifd rfl h (fun c12 h => ?_) (fun c12 h => ?_)
    ·skip
     refine MX.skip <| MX.block <| MX.seq <| MX.sr <| RG.mv rfl rfl <| RG.mv rfl rfl ?_
     obtain ⟨z14, hz537, h⟩ := bind_in h
     refine RG.vv (FV.strAt (k := 0) Tryz.underlying9 rfl rfl rfl hz537) rfl <| RG.enterP (fst := []) (cap := []) (vs := [.pointer (some ⟨b5, 0, none⟩), .int .u8 (z14.toNat : Int)]) .plain body217 Tryz.func217 rfl rfl rfl rfl (evs_cons rfl (evs_cons rfl evs_nil)) rfl (fun cs9 hb9 hp8 => ?_)
     refine MX.sr <| RG.sg rfl rfl <| RG.nil <| MX.sr <| RG.mv rfl rfl <| RG.mv rfl rfl ?_
     refine RG.vv (FV.nilCheck rfl) rfl ?_
     obtain ⟨z15, hz541, h⟩ := bind_in h
     have hm4 := mem_elem1 (p := ⟨b5, 0, none⟩) (cs := xs1.map (fun z9 : Bool => (.bool z9 : Value))) (i := z14.toNat) (hS27.memA .hd) (arr_get0 (fun z9 : Bool => (.bool z9 : Value)) hz541)
     refine RG.vv (FV.indexArr (m := 1) (k := z14.toNat) (len := 256) (by kernel_rfl) rfl rfl rfl (arr_lt hz541 hl345)) rfl <| RG.vv (FV.load1 (by kernel_rfl) rfl (hm4 0 _ rfl)) rfl <| RG.sg rfl rfl <| RG.nil <| MX.ret rfl <| RT.leave (u := .bool z15) hb9 Tryz.func217 rfl (.cons (.tmp rfl) .nil) rfl ?_
     refine RG.vv (FV.not rfl) rfl <| RG.nil <| MX.ifnb rfl h (fun c13 h => ?_) (fun c13 h => ?_)
     ·skip
      refine MX.skip <| MX.region <| RG.mv rfl rfl ?_
      obtain ⟨s12, hs5, h⟩ := bind_in h
      refine RG.vv (FV.strCut hs5 Tryz.underlying9 rfl ⟨_, rfl⟩ rfl) rfl <| RG.sg rfl rfl <| RG.nil <| MX.inBlock ?_
      exact hJ535 s12 _ _ ⟨rfl, rfl, trivial⟩ ⟨hS27, hT26⟩ h
     refine MX.exit rfl ?_
     have h := hh533 _ h
     try dsimp only at h
     exact hJ512 s11 _ _ ⟨rfl, trivial⟩ ⟨hS27, hT26⟩ h
    refine MX.exit rfl ?_
    have h := hh533 _ h
    try dsimp only at h
    exact hJ512 s11 _ _ ⟨rfl, trivial⟩ ⟨hS27, hT26⟩ h
  ·skip
   intro J8 hJ458 h
   try dsimp only at h
   obtain ⟨hS28, hT27⟩ := St.arrB hS24 (.one .hd .done)
   obtain ⟨o5, ho569, hh571⟩ := bind_in2 h
   refine MX.loop (α := ByteArray) (fun s13 => [(0, .string s13), (1, .pointer (some ⟨b5, 0, none⟩))]) (fun s13 wx9 => St w wx9 [.cells b5 (xs1.map (fun z9 : Bool => (.bool z9 : Value))) 228] ∧ Tr w16 [.cells b5 (xs1.map (fun z9 : Bool => (.bool z9 : Value))) 228] wx9 [.cells b5 (xs1.map (fun z9 : Bool => (.bool z9 : Value))) 228]) (fun s13 => s13) a0 ho569 ⟨rfl, rfl, trivial⟩ ⟨hS28, Tr.refl _ _⟩ ?_
   rintro J9 s13 wx9 hJ573 ⟨hS29, hT28⟩ h
   unfold strings_Trim_l5 at h
   try dsimp only at h
   refine MX.seq <| MX.sr <| RG.mv rfl rfl <| RG.vv (FV.len_string Tryz.underlying9 rfl) rfl <| RG.vv (FV.gtrN (i := s13.size) (j := 0) rfl rfl) rfl <| RG.nil ?_
   refine MX.ifd rfl h (fun c14 h => ?_) (fun c14 h => ?_)
   ·skip
    refine MX.skip <| MX.block <| MX.seq <| MX.sr <| RG.mv rfl rfl <| RG.mv rfl rfl ?_
    refine RG.mv rfl rfl <| RG.vv (FV.len_string Tryz.underlying9 rfl) rfl ?_
    obtain ⟨s14, hs6, h⟩ := bind_in h
    refine RG.vv (FV.subc (i := ((s13.size : Nat) : Int)) (j := 1) rfl rfl hs6) rfl ?_
    obtain ⟨z16, hz576, h⟩ := bind_in h
    obtain ⟨hi2, hx2⟩ := sidx_in hz576
    refine RG.vv (FV.strAt (k := s14.toNat) Tryz.underlying9 rfl rfl hi2 hx2) rfl <| RG.enterP (fst := []) (cap := []) (vs := [.pointer (some ⟨b5, 0, none⟩), .int .u8 (z16.toNat : Int)]) .plain body217 Tryz.func217 rfl rfl rfl rfl (evs_cons rfl (evs_cons rfl evs_nil)) rfl (fun cs10 hb10 hp9 => ?_)
    refine MX.sr <| RG.sg rfl rfl <| RG.nil <| MX.sr <| RG.mv rfl rfl <| RG.mv rfl rfl ?_
    refine RG.vv (FV.nilCheck rfl) rfl ?_
    obtain ⟨z17, hz582, h⟩ := bind_in h
    have hm5 := mem_elem1 (p := ⟨b5, 0, none⟩) (cs := xs1.map (fun z9 : Bool => (.bool z9 : Value))) (i := z16.toNat) (hS29.memA .hd) (arr_get0 (fun z9 : Bool => (.bool z9 : Value)) hz582)
    refine RG.vv (FV.indexArr (m := 1) (k := z16.toNat) (len := 256) (by kernel_rfl) rfl rfl rfl (arr_lt hz582 hl345)) rfl <| RG.vv (FV.load1 (by kernel_rfl) rfl (hm5 0 _ rfl)) rfl <| RG.sg rfl rfl <| RG.nil <| MX.ret rfl <| RT.leave (u := .bool z17) hb10 Tryz.func217 rfl (.cons (.tmp rfl) .nil) rfl ?_
    refine RG.vv (FV.not rfl) rfl <| RG.nil <| MX.ifnb rfl h (fun c15 h => ?_) (fun c15 h => ?_)
    ·skip
     refine MX.skip <| MX.region <| RG.mv rfl rfl <| RG.mv rfl rfl <| RG.vv (FV.len_string Tryz.underlying9 rfl) rfl ?_
     obtain ⟨s15, hs7, h⟩ := bind_in h
     refine RG.vv (FV.subc (i := ((s13.size : Nat) : Int)) (j := 1) rfl rfl hs7) rfl ?_
     obtain ⟨s16, hs8, h⟩ := bind_in h
     refine RG.vv (FV.strCut hs8 Tryz.underlying9 rfl rfl ⟨_, rfl⟩) rfl <| RG.sg rfl rfl <| RG.nil <| MX.inBlock ?_
     exact hJ573 s16 _ _ ⟨rfl, rfl, trivial⟩ ⟨hS29, hT28⟩ h
    refine MX.exit rfl ?_
    have h := hh571 _ h
    try dsimp only at h
    exact hJ458 s13 _ _ ⟨rfl, trivial⟩ ⟨hS29, (Tr.trans hT27 hT28)⟩ h
   refine MX.exit rfl ?_
   have h := hh571 _ h
   try dsimp only at h
   exact hJ458 s13 _ _ ⟨rfl, trivial⟩ ⟨hS29, (Tr.trans hT27 hT28)⟩ h
def units_within_1_p (_n : Nat) (a0 : Int) (a1 : Int) : Option Bool :=
  (if a0 < 0 then some true else some (decide (a1 < a0)))
theorem units_within_1_c (n : Nat) (L : List Nat) (w : World) (_hL : ∀ b ∈ L, b < w.heap.size) (a0 : Int) (a1 : Int) {p1 : Nat} (m1 : ∀ j9 v9, ([.int .i64 a1] : List Value)[j9]? = some v9 → w.cell? ((⟨p1, 0, none⟩ : Addr).add j9) = some v9)  {r : Bool} (h : units_within_1_p n a0 a1 = some r) :
    Calls Tryz.prog 210 #[.int .i64 a0, .pointer (some ⟨p1, 0, none⟩)] w (Gives w fun _ u => u = .bool r) := by
  unfold units_within_1_p at h
  have hS0 := St.start w
  refine MX.start Tryz.func210 rfl rfl rfl (fun _ cs0 hb0 => ?_)
  refine MX.sr <| RG.sg rfl rfl <| RG.nil <| MX.sr <| RG.mv rfl rfl <| RG.vv (FV.lss (i := a0) (j := 0) rfl rfl) rfl ?_
  refine RG.mv rfl rfl <| RG.ifd (s := 6) rfl h (fun c1 h => ?_) (fun c1 h => ?_)
  ·skip
   refine RG.off (.no rfl rfl) rfl <| RG.off (.no rfl rfl) rfl <| RG.off (.no rfl rfl) rfl <| RG.vv (FV.pick_t rfl rfl) rfl <| RG.sg rfl rfl <| RG.nil ?_
   refine MX.ret rfl <| RT.leave hb0 Tryz.func210 rfl (.cons (.tmp rfl) .nil) rfl ?_
   obtain rfl := Option.some.inj h
   exact ⟨hS0.ag, fun w9 hw9 => rfl⟩
  refine RG.val' (.yes rfl rfl) (FV.move rfl) rfl <| RG.val' (.yes rfl rfl) (FV.load1 (by kernel_rfl) rfl ((fun j9 v9 h9 => hS0.ag.cell0 (m1 j9 v9 h9)) 0 _ rfl)) rfl <| RG.val' (.yes rfl rfl) (FV.gtr (i := a0) (j := a1) rfl rfl) rfl <| RG.vv (FV.pick_f rfl rfl) rfl <| RG.sg rfl rfl <| RG.nil ?_
  refine MX.ret rfl <| RT.leave hb0 Tryz.func210 rfl (.cons (.tmp rfl) .nil) rfl ?_
  obtain rfl := Option.some.inj h
  exact ⟨hS0.ag, fun w9 hw9 => rfl⟩
theorem body209 : bodyB Tryz.prog 209 = true := by kernel_rfl
theorem body210 : bodyB Tryz.prog 210 = true := by kernel_rfl
theorem body221 : bodyB Tryz.prog 221 = true := by kernel_rfl
def units_within_l1 (n : Nat) (a0 : List Int) (a2 : Int) (J0 : Nat → Option (Bool ⊕ Unit)) : Nat → Option (Bool ⊕ Unit)
  | i32 => (if i32 < a0.length then (a0[i32]?).bind fun x0 => (units_within_1_p n x0 a2).bind fun y0 => (if y0 = true then some (.inl (!(decide (0 ≤ i32)))) else J0 (i32 + 1)) else some (.inr ()))
def units_within_p (n : Nat) (a0 : List Int) (a1 : Int) (a2 : Int) : Option Bool :=
  (if ((a0.length : Nat) : Int) = a1 then thn (loopF (units_within_l1 n a0 a2) n 0) (fun _ => some (!(decide (0 ≤ (-1))))) else some false)
theorem units_within_c (n : Nat) (L : List Nat) (w : World) (hL : ∀ b ∈ L, b < w.heap.size) (a0 : List Int) {v0_0 : Value} (h0_0 : Rep.R w L [v0_0] a0) (a1 : Int) (a2 : Int)  {r : Bool} (h : units_within_p n a0 a1 a2 = some r) :
    Calls Tryz.prog 180 #[v0_0, .int .i64 a1, .int .i64 a2] w (Gives w fun _ u => u = .bool r) := by
  unfold units_within_p at h
  have hS0 := St.start w
  refine MX.start Tryz.func180 rfl rfl rfl (fun _ cs0 hb0 => ?_)
  refine MX.sr <| RG.new .plain rfl (Does.box (vs := [.int .i64 a2]) hS0 rfl rfl) (fun w2 b5 hS3 hT4 => ?_)
  refine RG.sg rfl rfl <| RG.nil <| MX.sr <| RG.mv rfl rfl ?_
  have hm7 := Rep.mv h0_0 hT4
  have hl6 : a0.length ≤ 281474976710656 := Rep.lenle hm7
  refine RG.vv (FV.len (xs := a0) Tryz.underlying45 rfl hm7) rfl <| RG.mv rfl rfl <| RG.vv (FV.eql (i := ((a0.length : Nat) : Int)) (j := a1) rfl rfl) rfl <| RG.mv rfl rfl <| RG.ifd (s := 11) rfl h (fun c8 h => ?_) (fun c8 h => ?_)
  ·skip
   refine RG.val' (.yes rfl rfl) (FV.move rfl) rfl <| RG.val' (.yes rfl rfl) (FV.makeFunc (vs := []) (us := [.pointer (some ⟨b5, 0, none⟩)]) evs_nil (evs_cons rfl evs_nil)) rfl <| RG.enterP (fst := []) (cap := []) (vs := [v0_0, .func (.func 210) #[] #[.pointer (some ⟨b5, 0, none⟩)]]) (.yes rfl rfl) body209 Tryz.func209 rfl rfl rfl rfl (evs_cons rfl (evs_cons rfl evs_nil)) rfl (fun cs1 hb9 hp0 => ?_)
   refine MX.sr <| RG.sg rfl rfl <| RG.nil <| MX.sr <| RG.mv rfl rfl <| RG.mv rfl rfl ?_
   refine RG.enterP (fst := []) (cap := []) (vs := [v0_0, .func (.func 210) #[] #[.pointer (some ⟨b5, 0, none⟩)]]) .plain body221 Tryz.func221 rfl rfl rfl rfl (evs_cons rfl (evs_cons rfl evs_nil)) rfl (fun cs2 hb1 hp1 => ?_)
   refine MX.sr <| RG.sg rfl rfl <| RG.nil <| MX.seq <| MX.sr <| RG.mv rfl rfl ?_
   refine RG.vv (FV.len (xs := a0) Tryz.underlying45 rfl hm7) rfl <| RG.mv rfl rfl <| RG.nil <| MX.block ?_
   obtain ⟨o0, ho37, hh39⟩ := thn_in h
   refine MX.loop (α := Nat) (fun i32 => [(0, v0_0), (1, .func (.func 210) #[] #[.pointer (some ⟨b5, 0, none⟩)]), (7, .int .i64 ((a0.length : Nat) : Int)), (8, .int .i64 ((i32 : Nat) : Int))]) (fun i32 wx0 => St w wx0 [.cells b5 [.int .i64 a2] 3] ∧ Tr w2 [.cells b5 [.int .i64 a2] 3] wx0 [.cells b5 [.int .i64 a2] 3]) (fun i32 => i32) 0 ho37 ⟨rfl, rfl, rfl, rfl, trivial⟩ ⟨hS3, Tr.refl _ _⟩ ?_
   rintro J0 i32 wx0 hJ41 ⟨hS1, hT0⟩ h
   unfold units_within_l1 at h
   try dsimp only at h
   refine MX.sr <| RG.vv (FV.lssN (i := i32) (j := a0.length) rfl rfl) rfl <| RG.nil <| MX.seq <| MX.ifd rfl h (fun c0 h => ?_) (fun c0 h => ?_)
   ·skip
    refine MX.skip <| MX.seq <| MX.block <| MX.sr <| RG.mv rfl rfl <| RG.sg rfl rfl ?_
    refine RG.nil <| MX.sr <| RG.mv rfl rfl <| RG.mv rfl rfl <| RG.mv rfl rfl ?_
    obtain ⟨x0, hx0, h⟩ := bind_in h
    have hm0 := Rep.mv h0_0 (Tr.trans hT4 hT0)
    obtain ⟨A44, c1, he0, hk0, cs3, hr0, hm1⟩ := Rep.nth hm0 hx0
    have he1 : cs3 = [.int .i64 x0] := hr0; subst he1
    refine RG.vv (FV.idxAddr (m := 1) (i := i32) (by kernel_rfl) rfl he0 rfl rfl hk0) rfl <| RG.vv (FV.load1 (by kernel_rfl) rfl (hm1 0 _ rfl)) rfl ?_
    obtain ⟨y0, hy0, h⟩ := bind_in h
    refine RG.callq' (v := .bool y0) (fst := []) (cap := [.pointer (some ⟨b5, 0, none⟩)]) .plain body210 rfl (evs_cons rfl evs_nil) (fun w9 hw9 => units_within_1_c n _ w9 (hS1.hL0 hL hw9) x0 a2 (fun j9 v9 h9 => hw9.cell0 ((hS1.memA .hd) j9 v9 h9)) hy0) rfl <| RG.nil <| MX.ifb rfl h (fun c2 h => ?_) (fun c2 h => ?_)
    ·skip
     refine MX.sr <| RG.mv rfl rfl <| RG.sg rfl rfl <| RG.nil ?_
     have h := thn_inl h hh39
     refine MX.ret rfl <| RT.leave (u := .int .i64 ((i32 : Nat) : Int)) hb1 Tryz.func221 rfl (.cons (.tmp rfl) .nil) rfl <| RG.vv (FV.geqN (i := i32) (j := 0) rfl rfl) rfl <| RG.sg rfl rfl <| RG.nil <| MX.ret rfl ?_
     refine RT.leave (u := .bool (decide (0 ≤ i32))) hb9 Tryz.func209 rfl (.cons (.tmp rfl) .nil) rfl <| RG.val' (.yes rfl rfl) (FV.not rfl) rfl <| RG.vv (FV.pick_t rfl rfl) rfl <| RG.sg rfl rfl <| RG.nil <| MX.ret rfl ?_
     refine RT.leave hb0 Tryz.func180 rfl (.cons (.tmp rfl) .nil) rfl ?_
     obtain rfl := Option.some.inj h
     exact ⟨hS1.ag, fun w9 hw9 => rfl⟩
    refine MX.skip <| MX.inBlock <| MX.region <| RG.vv (FV.addN (i := i32) (j := 1) rfl rfl (by omega)) rfl <| RG.mv rfl rfl <| RG.nil ?_
    exact hJ41 (i32 + 1) _ _ ⟨rfl, rfl, rfl, rfl, trivial⟩ ⟨hS1, hT0⟩ h
   refine MX.exit rfl ?_
   have h := thn_inr h hh39
   try dsimp only at h
   refine MX.sr <| RG.sg rfl rfl <| RG.nil <| MX.ret rfl <| RT.leave (u := .int .i64 (-1)) hb1 Tryz.func221 rfl (.cons (.tmp rfl) .nil) rfl <| RG.vv (FV.geq (i := (-1)) (j := 0) rfl rfl) rfl ?_
   refine RG.sg rfl rfl <| RG.nil <| MX.ret rfl <| RT.leave (u := .bool (decide (0 ≤ (-1)))) hb9 Tryz.func209 rfl (.cons (.tmp rfl) .nil) rfl <| RG.val' (.yes rfl rfl) (FV.not rfl) rfl <| RG.vv (FV.pick_t rfl rfl) rfl ?_
   refine RG.sg rfl rfl <| RG.nil <| MX.ret rfl <| RT.leave hb0 Tryz.func180 rfl (.cons (.tmp rfl) .nil) rfl ?_
   obtain rfl := Option.some.inj h
   exact ⟨hS1.ag, fun w9 hw9 => rfl⟩
  refine RG.off (.no rfl rfl) rfl <| RG.off (.no rfl rfl) rfl <| RG.off (.no rfl rfl) rfl <| RG.off (.no rfl rfl) rfl <| RG.vv (FV.pick_f rfl rfl) rfl <| RG.sg rfl rfl ?_
  refine RG.nil <| MX.ret rfl <| RT.leave hb0 Tryz.func180 rfl (.cons (.tmp rfl) .nil) rfl ?_
  obtain rfl := Option.some.inj h
  exact ⟨hS3.ag, fun w9 hw9 => rfl⟩
structure TUnit where
  fName : ByteArray
  fPeople : Int
  fGroups : List Int
  fVotes : List Int
  fParents : List Int
  fWater : Bool
  deriving DecidableEq
instance : Rep TUnit := Rep.via (β := ByteArray × Int × (List Int) × (List Int) × (List Int) × Bool) fun x => (x.fName, x.fPeople, x.fGroups, x.fVotes, x.fParents, x.fWater)
structure TRoll where
  fGroups : Int
  fParties : Int
  fLevels : Int
  fUnits : List TUnit
  deriving DecidableEq
instance : Rep TRoll := Rep.via (β := Int × Int × Int × (List TUnit)) fun x => (x.fGroups, x.fParties, x.fLevels, x.fUnits)
def tb142_4 : List (Nat × Nat × Nat) := [(0, 512, 8), (1, 1024, 512), (2, 2048, 1024), (0, 4096, 8), (8, 8192, 4096), (16, 16384, 8192), (32, 32768, 16384), (0, 65536, 8), (128, 131072, 65536), (256, 262144, 131072), (512, 524288, 262144), (0, 1048576, 8), (2048, 2097152, 1048576), (4096, 4194304, 2097152), (0, 8388608, 8), (16384, 16777216, 8388608), (0, 33554432, 32), (98304, 67108864, 50331648), (0, 134217728, 8), (262144, 268435456, 134217728), (0, 536870912, 4), (1048576, 1073741824, 536870912), (0, 2147483648, 8), (4194304, 4294967296, 2147483648), (11010560, 8589934592, 5637144576), (0, 17179869184, 8), (33554432, 34359738368, 17179869184), (0, 68719476736, 4), (134217728, 137438953472, 68719476736), (0, 274877906944, 32), (889192448, 549755813888, 446676598784), (0, 1099511627776, 8), (2147483648, 2199023255552, 1099511627776), (0, 4398046511104, 4), (8589934592, 8796093022208, 4398046511104), (0, 17592186044416, 64), (56908316672, 35184372088832, 28587302322176), (69810136132, 70368744177664, 35742789699584), (206158430208, 140737488355328, 70368744177664), (549755813887, 16, 140737488355328)]
theorem el169 : ElT Tryz.prog 169 4 (Rep.size Bool) 1 (.bool false) [.bool false] := ⟨Tryz.underlying169, by kernel_rfl, rfl, rfl, rfl, rfl⟩
theorem body141 : bodyB Tryz.prog 141 = true := by kernel_rfl
theorem body179 : bodyB Tryz.prog 179 = true := by kernel_rfl
theorem body180 : bodyB Tryz.prog 180 = true := by kernel_rfl
def units_right_p (n : Nat) (a0 : TRoll) (a1 : TUnit) : Option Bool :=
  jn (fun (i0, i1) => (strings_Trim_p n a1.fName ⟨#[65, 66, 67, 68, 69, 70, 71, 72, 73, 74, 75, 76, 77, 78, 79, 80, 81, 82, 83, 84, 85, 86, 87, 88, 89, 90, 97, 98, 99, 100, 101, 102, 103, 104, 105, 106, 107, 108, 109, 110, 111, 112, 113, 114, 115, 116, 117, 118, 119, 120, 121, 122, 48, 49, 50, 51, 52, 53, 54, 55, 56, 57, 45, 95]⟩).bind fun y0 => (units_within_p n a1.fGroups a0.fGroups a1.fPeople).bind fun y1 => (units_within_p n a1.fVotes a0.fParties ((i0 : Nat) : Int)).bind fun y2 => (units_within_p n a1.fParents a0.fLevels ((i1 : Nat) : Int)).bind fun y3 => (units_every_p n ([(!(decide (a1.fName = ⟨#[]⟩))), (decide (a1.fName.size ≤ 12)), (decide (y0 = ⟨#[]⟩)), (decide (0 ≤ a1.fPeople)), (decide (a1.fPeople ≤ ((i0 : Nat) : Int))), y1, y2, y3] : List Bool)).bind fun y4 => some y4) (fun J0 => (if a1.fWater = true then J0 (0, 0) else J0 (1000000000, 63)))
theorem units_right_c (n : Nat) (L : List Nat) (w : World) (hL : ∀ b ∈ L, b < w.heap.size) (a0 : TRoll) {v0_3 : Value} (h0_3 : Rep.R w L [v0_3] a0.fUnits) (a1 : TUnit) {v1_2 : Value} (h1_2 : Rep.R w L [v1_2] a1.fGroups) {v1_3 : Value} (h1_3 : Rep.R w L [v1_3] a1.fVotes) {v1_4 : Value} (h1_4 : Rep.R w L [v1_4] a1.fParents)  {r : Bool} (h : units_right_p n a0 a1 = some r) :
    Calls Tryz.prog 142 #[.agg #[.int .i64 a0.fGroups, .int .i64 a0.fParties, .int .i64 a0.fLevels, v0_3], .agg #[.string a1.fName, .int .i64 a1.fPeople, v1_2, v1_3, v1_4, .bool a1.fWater]] w (Gives w fun _ u => u = .bool r) := by
  unfold units_right_p at h
  have hS0 := St.start w
  refine MX.start Tryz.func142 rfl rfl rfl (fun _ cs0 hb0 => ?_)
  refine MX.sr <| RG.new .plain rfl (Does.box (vs := [.int .i64 a0.fGroups, .int .i64 a0.fParties, .int .i64 a0.fLevels, v0_3]) hS0 rfl rfl) (fun w2 b5 hS3 hT4 => ?_)
  refine RG.new .plain rfl (Does.box (vs := [.string a1.fName, .int .i64 a1.fPeople, v1_2, v1_3, v1_4, .bool a1.fWater]) hS3 rfl rfl) (fun w7 b0 hS8 hT9 => ?_)
  refine RG.sg rfl rfl <| RG.nil <| MX.sr <| RG.sg rfl rfl <| RG.sg rfl rfl <| RG.nil ?_
  refine MX.seq <| MX.sr <| RG.vv (FV.fieldAddr (off := 5) (by kernel_rfl) rfl) rfl <| RG.vv (FV.load1 (by kernel_rfl) rfl ((hS8.memA .hd) 5 _ rfl)) rfl <| RG.nil <| MX.join (α := Nat × Nat) (fun ⟨i0, i1⟩ => [(2, .pointer (some ⟨b5, 0, none⟩)), (3, .pointer (some ⟨b0, 0, none⟩)), (5, .int .i64 ((i0 : Nat) : Int)), (6, .int .i64 ((i1 : Nat) : Int))]) (fun ⟨i0, i1⟩ wx0 => St w wx0 [.cells b0 [.string a1.fName, .int .i64 a1.fPeople, v1_2, v1_3, v1_4, .bool a1.fWater] 65, .cells b5 [.int .i64 a0.fGroups, .int .i64 a0.fParties, .int .i64 a0.fLevels, v0_3] 44] ∧ Tr w7 [.cells b0 [.string a1.fName, .int .i64 a1.fPeople, v1_2, v1_3, v1_4, .bool a1.fWater] 65, .cells b5 [.int .i64 a0.fGroups, .int .i64 a0.fParties, .int .i64 a0.fLevels, v0_3] 44] wx0 [.cells b0 [.string a1.fName, .int .i64 a1.fPeople, v1_2, v1_3, v1_4, .bool a1.fWater] 65, .cells b5 [.int .i64 a0.fGroups, .int .i64 a0.fParties, .int .i64 a0.fLevels, v0_3] 44]) (fun ⟨i0, i1⟩ => (i0, i1)) h ?_ ?_
  ·skip
   rintro ⟨i0, i1⟩ wx0 ⟨hS1, hT0⟩ h
   try dsimp only at h
   refine MX.seq <| MX.drawT 40 tb142_4 (by kernel_rfl) (by kernel_rfl) (by kernel_rfl) (fun kt0 kp0 => ?_)
   refine RD.vw 0 1 kt0 rfl kp0 (fun _ => FV.fieldAddr (off := 0) (by kernel_rfl) rfl) rfl <| RD.vx 1 3 962072674308 kt0 rfl kp0 (FV.load1 (by kernel_rfl) rfl ((hS1.memA .hd) 0 _ rfl)) rfl <| RD.vw 2 7 kt0 rfl kp0 (fun _ => FV.neqS rfl rfl) rfl <| RD.vw 3 15 kt0 rfl kp0 (fun _ => FV.fieldAddr (off := 0) (by kernel_rfl) rfl) rfl <| RD.vx 4 31 962072674400 kt0 rfl kp0 (FV.load1 (by kernel_rfl) rfl ((hS1.memA .hd) 0 _ rfl)) rfl <| RD.vx 5 63 962072674368 kt0 rfl kp0 (FV.len_string Tryz.underlying9 rfl) rfl ?_
   refine RD.vw 6 127 kt0 rfl kp0 (fun _ => FV.leqN (i := a1.fName.size) (j := 12) rfl rfl) rfl <| RD.vw 7 255 kt0 rfl kp0 (fun _ => FV.fieldAddr (off := 0) (by kernel_rfl) rfl) rfl <| RD.vx 8 511 1031882671616 kt0 rfl kp0 (FV.load1 (by kernel_rfl) rfl ((hS1.memA .hd) 0 _ rfl)) rfl ?_
   obtain ⟨y0, hy0, h⟩ := bind_in h
   refine RD.cq 9 1023 1031882671104 (.string y0) kt0 rfl kp0 body179 rfl (evs_cons rfl (evs_cons rfl evs_nil)) (fun w9 hw9 => strings_Trim_c n _ w9 (hS1.hL0 hL hw9) a1.fName ⟨#[65, 66, 67, 68, 69, 70, 71, 72, 73, 74, 75, 76, 77, 78, 79, 80, 81, 82, 83, 84, 85, 86, 87, 88, 89, 90, 97, 98, 99, 100, 101, 102, 103, 104, 105, 106, 107, 108, 109, 110, 111, 112, 113, 114, 115, 116, 117, 118, 119, 120, 121, 122, 48, 49, 50, 51, 52, 53, 54, 55, 56, 57, 45, 95]⟩ hy0) rfl <| RD.vw 10 2047 kt0 rfl kp0 (fun _ => FV.eqlS rfl rfl) rfl <| RD.vw 11 4095 kt0 rfl kp0 (fun _ => FV.fieldAddr (off := 1) (by kernel_rfl) rfl) rfl <| RD.vx 12 8191 962072682496 kt0 rfl kp0 (FV.load1 (by kernel_rfl) rfl ((hS1.memA .hd) 1 _ rfl)) rfl <| RD.vw 13 16383 kt0 rfl kp0 (fun _ => FV.geq (i := a1.fPeople) (j := 0) rfl rfl) rfl <| RD.vw 14 32767 kt0 rfl kp0 (fun _ => FV.fieldAddr (off := 1) (by kernel_rfl) rfl) rfl ?_
   refine RD.vx 15 65535 962072805376 kt0 rfl kp0 (FV.load1 (by kernel_rfl) rfl ((hS1.memA .hd) 1 _ rfl)) rfl <| RD.vw 16 131071 kt0 rfl kp0 (fun _ => FV.move rfl) rfl <| RD.vw 17 262143 kt0 rfl kp0 (fun _ => FV.leq (i := a1.fPeople) (j := ((i0 : Nat) : Int)) rfl rfl) rfl <| RD.vw 18 524287 kt0 rfl kp0 (fun _ => FV.fieldAddr (off := 2) (by kernel_rfl) rfl) rfl <| RD.vx 19 1048575 1031882670080 kt0 rfl kp0 (FV.load1 (by kernel_rfl) rfl ((hS1.memA .hd) 2 _ rfl)) rfl <| RD.vw 20 2097151 kt0 rfl kp0 (fun _ => FV.fieldAddr (off := 0) (by kernel_rfl) rfl) rfl ?_
   refine RD.vx 21 4194303 1031882670080 kt0 rfl kp0 (FV.load1 (by kernel_rfl) rfl ((hS1.memA (.tl .hd)) 0 _ rfl)) rfl <| RD.vw 22 8388607 kt0 rfl kp0 (fun _ => FV.fieldAddr (off := 1) (by kernel_rfl) rfl) rfl <| RD.vx 23 16777215 1031882670080 kt0 rfl kp0 (FV.load1 (by kernel_rfl) rfl ((hS1.memA .hd) 1 _ rfl)) rfl ?_
   obtain ⟨y1, hy1, h⟩ := bind_in h
   have hm0 := Rep.mv h1_2 (Tr.trans hT4 (Tr.trans hT9 hT0))
   refine RD.cq 24 33554431 1031865892864 (.bool y1) kt0 rfl kp0 body180 rfl (evs_cons rfl (evs_cons rfl (evs_cons rfl evs_nil))) (fun w9 hw9 => units_within_c n _ w9 (hS1.hL0 hL hw9) a1.fGroups (Rep.keep0 (Rep.dropS hS1 hm0) hw9) a0.fGroups a1.fPeople hy1) rfl <| RD.vw 25 67108863 kt0 rfl kp0 (fun _ => FV.fieldAddr (off := 3) (by kernel_rfl) rfl) rfl <| RD.vx 26 134217727 1031865892864 kt0 rfl kp0 (FV.load1 (by kernel_rfl) rfl ((hS1.memA .hd) 3 _ rfl)) rfl <| RD.vw 27 268435455 kt0 rfl kp0 (fun _ => FV.fieldAddr (off := 1) (by kernel_rfl) rfl) rfl <| RD.vx 28 536870911 1031865892864 kt0 rfl kp0 (FV.load1 (by kernel_rfl) rfl ((hS1.memA (.tl .hd)) 1 _ rfl)) rfl <| RD.vw 29 1073741823 kt0 rfl kp0 (fun _ => FV.move rfl) rfl ?_
   obtain ⟨y2, hy2, h⟩ := bind_in h
   have hm1 := Rep.mv h1_3 (Tr.trans hT4 (Tr.trans hT9 hT0))
   refine RD.cq 30 2147483647 1030792151040 (.bool y2) kt0 rfl kp0 body180 rfl (evs_cons rfl (evs_cons rfl (evs_cons rfl evs_nil))) (fun w9 hw9 => units_within_c n _ w9 (hS1.hL0 hL hw9) a1.fVotes (Rep.keep0 (Rep.dropS hS1 hm1) hw9) a0.fParties ((i0 : Nat) : Int) hy2) rfl <| RD.vw 31 4294967295 kt0 rfl kp0 (fun _ => FV.fieldAddr (off := 4) (by kernel_rfl) rfl) rfl <| RD.vx 32 8589934591 1030792151040 kt0 rfl kp0 (FV.load1 (by kernel_rfl) rfl ((hS1.memA .hd) 4 _ rfl)) rfl <| RD.vw 33 17179869183 kt0 rfl kp0 (fun _ => FV.fieldAddr (off := 2) (by kernel_rfl) rfl) rfl <| RD.vx 34 34359738367 1030792151040 kt0 rfl kp0 (FV.load1 (by kernel_rfl) rfl ((hS1.memA (.tl .hd)) 2 _ rfl)) rfl <| RD.vw 35 68719476735 kt0 rfl kp0 (fun _ => FV.move rfl) rfl ?_
   obtain ⟨y3, hy3, h⟩ := bind_in h
   have hm2 := Rep.mv h1_4 (Tr.trans hT4 (Tr.trans hT9 hT0))
   refine RD.cq 36 137438953471 962072674304 (.bool y3) kt0 rfl kp0 body180 rfl (evs_cons rfl (evs_cons rfl (evs_cons rfl evs_nil))) (fun w9 hw9 => units_within_c n _ w9 (hS1.hL0 hL hw9) a1.fParents (Rep.keep0 (Rep.dropS hS1 hm2) hw9) a0.fLevels ((i1 : Nat) : Int) hy3) rfl <| RD.nu 37 274877906943 kt0 rfl .plain rfl (Does.build (α := Bool) (xs := ([(!(decide (a1.fName = ⟨#[]⟩))), (decide (a1.fName.size ≤ 12)), (decide (y0 = ⟨#[]⟩)), (decide (0 ≤ a1.fPeople)), (decide (a1.fPeople ≤ ((i0 : Nat) : Int))), y1, y2, y3] : List Bool)) (vs := [.bool (!(decide (a1.fName = ⟨#[]⟩))), .bool (decide (a1.fName.size ≤ 12)), .bool (decide (y0 = ⟨#[]⟩)), .bool (decide (0 ≤ a1.fPeople)), .bool (decide (a1.fPeople ≤ ((i0 : Nat) : Int))), .bool y1, .bool y2, .bool y3]) (ds' := [.bool (!(decide (a1.fName = ⟨#[]⟩))), .bool (decide (a1.fName.size ≤ 12)), .bool (decide (y0 = ⟨#[]⟩)), .bool (decide (0 ≤ a1.fPeople)), .bool (decide (a1.fPeople ≤ ((i0 : Nat) : Int))), .bool y1, .bool y2, .bool y3]) rfl hS1 el169 rfl (evs_cons rfl (evs_cons rfl (evs_cons rfl (evs_cons rfl (evs_cons rfl (evs_cons rfl (evs_cons rfl (evs_cons rfl evs_nil)))))))) (by kernel_rfl) rfl) (fun w0 b1 hS2 hT1 => ?_)
   have hc0 := Cells.at_ (cs := [.bool (!(decide (a1.fName = ⟨#[]⟩))), .bool (decide (a1.fName.size ≤ 12)), .bool (decide (y0 = ⟨#[]⟩)), .bool (decide (0 ≤ a1.fPeople)), .bool (decide (a1.fPeople ≤ ((i0 : Nat) : Int))), .bool y1, .bool y2, .bool y3]) (xs := (([(!(decide (a1.fName = ⟨#[]⟩))), (decide (a1.fName.size ≤ 12)), (decide (y0 = ⟨#[]⟩)), (decide (0 ≤ a1.fPeople)), (decide (a1.fPeople ≤ ((i0 : Nat) : Int))), y1, y2, y3] : List Bool) : List Bool)) hS2 L (Cells.cons (cs := [.bool (!(decide (a1.fName = ⟨#[]⟩)))]) (ds := [.bool (decide (a1.fName.size ≤ 12)), .bool (decide (y0 = ⟨#[]⟩)), .bool (decide (0 ≤ a1.fPeople)), .bool (decide (a1.fPeople ≤ ((i0 : Nat) : Int))), .bool y1, .bool y2, .bool y3]) rfl (Cells.cons (cs := [.bool (decide (a1.fName.size ≤ 12))]) (ds := [.bool (decide (y0 = ⟨#[]⟩)), .bool (decide (0 ≤ a1.fPeople)), .bool (decide (a1.fPeople ≤ ((i0 : Nat) : Int))), .bool y1, .bool y2, .bool y3]) rfl (Cells.cons (cs := [.bool (decide (y0 = ⟨#[]⟩))]) (ds := [.bool (decide (0 ≤ a1.fPeople)), .bool (decide (a1.fPeople ≤ ((i0 : Nat) : Int))), .bool y1, .bool y2, .bool y3]) rfl (Cells.cons (cs := [.bool (decide (0 ≤ a1.fPeople))]) (ds := [.bool (decide (a1.fPeople ≤ ((i0 : Nat) : Int))), .bool y1, .bool y2, .bool y3]) rfl (Cells.cons (cs := [.bool (decide (a1.fPeople ≤ ((i0 : Nat) : Int)))]) (ds := [.bool y1, .bool y2, .bool y3]) rfl (Cells.cons (cs := [.bool y1]) (ds := [.bool y2, .bool y3]) rfl (Cells.cons (cs := [.bool y2]) (ds := [.bool y3]) rfl (Cells.cons (cs := [.bool y3]) (ds := []) rfl (Cells.nil _ _)))))))))
   obtain ⟨y4, hy4, h⟩ := bind_in h
   refine RD.cq 38 549755813887 549755813888 (.bool y4) kt0 rfl kp0 body141 rfl (evs_cons rfl evs_nil) (fun w9 hw9 => units_every_c n _ w9 (hS2.hL0 hL hw9) ([(!(decide (a1.fName = ⟨#[]⟩))), (decide (a1.fName.size ≤ 12)), (decide (y0 = ⟨#[]⟩)), (decide (0 ≤ a1.fPeople)), (decide (a1.fPeople ≤ ((i0 : Nat) : Int))), y1, y2, y3] : List Bool) (Rep.keep0 (St.lend (α := Bool) (L := L) hS2 .hd hc0 hL) hw9) hy4) rfl <| RD.vw 39 1099511627775 kt0 rfl kp0 (fun _ => FV.assign rfl) rfl <| RD.done (doneD_ok kt0 (by kernel_rfl)) <| MX.ret rfl <| RT.leave hb0 Tryz.func142 rfl (.cons (.tmp rfl) .nil) rfl ?_
   obtain rfl := Option.some.inj h
   exact ⟨hS2.ag, fun w9 hw9 => rfl⟩
  ·skip
   intro J0 hJ18 h
   try dsimp only at h
   refine MX.ifb rfl h (fun c0 h => ?_) (fun c0 h => ?_)
   ·skip
    refine MX.region <| RG.sg rfl rfl <| RG.sg rfl rfl <| RG.nil ?_
    exact hJ18 (0, 0) _ _ ⟨rfl, rfl, rfl, rfl, trivial⟩ ⟨hS8, Tr.refl _ _⟩ h
   refine MX.skip ?_
   exact hJ18 (1000000000, 63) _ _ ⟨rfl, rfl, rfl, rfl, trivial⟩ ⟨hS8, Tr.refl _ _⟩ h
def tb101_9 : List (Nat × Nat × Nat) := [(0, 35184372088832, 2), (0, 70368744177664, 128), (3, 140737488355328, 105553116266496), (0, 281474976710656, 16), (0, 562949953421312, 128), (16, 1125899906842624, 562949953421312), (40, 2251799813685248, 1407374883553280), (64, 4503599627370496, 2251799813685248), (0, 9007199254740992, 128), (256, 18014398509481984, 9007199254740992), (516, 36028797018963968, 18014398509481984), (1024, 72057594037927936, 36028797018964000), (3072, 144115188075855872, 108086391056891904), (5120, 288230376151711744, 180143985094819840), (0, 576460752303423488, 64), (16384, 1152921504606846976, 576460752303423488), (33792, 2305843009213693952, 1152921504606846976), (65536, 4611686018427387904, 2305843009213694080), (196608, 9223372036854775808, 6917529027641081856), (327680, 18446744073709551616, 11529215046068469760), (589824, 36893488147419103232, 20752587082923245568), (1056900, 73786976294838206464, 37186362860686540800), (2162688, 147573952589676412928, 73786976294838206464), (4194304, 295147905179352825856, 147573952589676412928)]
theorem op_TUnit {w : World} {L : List Nat} {cs : List Value} {x : TUnit} (h : Rep.R w L cs x) : ∃ v2 v3 v4 : Value, cs = [.string x.fName, .int .i64 x.fPeople, v2, v3, v4, .bool x.fWater] ∧ Rep.R w L [v2] x.fGroups ∧ Rep.R w L [v3] x.fVotes ∧ Rep.R w L [v4] x.fParents := by
  obtain ⟨c0, r0, rfl, h0, h⟩ := h
  have e0 : c0 = [.string x.fName] := h0; subst e0
  obtain ⟨c1, r1, rfl, h1, h⟩ := h
  have e1 : c1 = [.int .i64 x.fPeople] := h1; subst e1
  obtain ⟨c2, r2, rfl, h2, h⟩ := h
  obtain ⟨v2, rfl, kv2⟩ := lst_one (xs := x.fGroups) h2
  obtain ⟨c3, r3, rfl, h3, h⟩ := h
  obtain ⟨v3, rfl, kv3⟩ := lst_one (xs := x.fVotes) h3
  obtain ⟨c4, r4, rfl, h4, h⟩ := h
  obtain ⟨v4, rfl, kv4⟩ := lst_one (xs := x.fParents) h4
  have e5 : r4 = [.bool x.fWater] := h; subst e5
  exact ⟨v2, v3, v4, rfl, kv2, kv3, kv4⟩
theorem mk_TUnit {w : World} {L : List Nat} (a0 : ByteArray) (a1 : Int) (a2 : List Int) {u2 : Value} (h2 : Rep.R w L [u2] a2) (a3 : List Int) {u3 : Value} (h3 : Rep.R w L [u3] a3) (a4 : List Int) {u4 : Value} (h4 : Rep.R w L [u4] a4) (a5 : Bool) : Rep.R w L [.string a0, .int .i64 a1, u2, u3, u4, .bool a5] (⟨a0, a1, a2, a3, a4, a5⟩ : TUnit) := ⟨[.string a0], [.int .i64 a1, u2, u3, u4, .bool a5], rfl, rfl, ⟨[.int .i64 a1], [u2, u3, u4, .bool a5], rfl, rfl, ⟨[u2], [u3, u4, .bool a5], rfl, h2, ⟨[u3], [u4, .bool a5], rfl, h3, ⟨[u4], [.bool a5], rfl, h4, rfl⟩⟩⟩⟩⟩
theorem body142 : bodyB Tryz.prog 142 = true := by kernel_rfl
def units_CheckRoll_l1 (n : Nat) (a0 : TRoll) (J0 : Bool × Nat × (List (ByteArray × Bool)) → Option (Int ⊕ Unit)) : Bool × Nat × (List (ByteArray × Bool)) → Option (Int ⊕ Unit)
  | (q0, i0, D0) => (if i0 < a0.fUnits.length then (a0.fUnits[i0]?).bind fun x0 => (units_right_p n a0 x0).bind fun y0 => (if x0.fWater = true then (if 0 < i0 then (units_every_p n ([y0, (!(mgetD D0 x0.fName false)), true, true] : List Bool)).bind fun y1 => (if y1 = true then J0 (x0.fWater, i0 + 1, mset D0 x0.fName true) else some (.inl (161 : Int))) else (units_every_p n ([y0, (!(mgetD D0 x0.fName false)), true, (!x0.fWater)] : List Bool)).bind fun y2 => (if y2 = true then J0 (x0.fWater, i0 + 1, mset D0 x0.fName true) else some (.inl (161 : Int)))) else (if 0 < i0 then (units_every_p n ([y0, (!(mgetD D0 x0.fName false)), (!q0), true] : List Bool)).bind fun y3 => (if y3 = true then J0 (x0.fWater, i0 + 1, mset D0 x0.fName true) else some (.inl (161 : Int))) else (units_every_p n ([y0, (!(mgetD D0 x0.fName false)), (!q0), (!x0.fWater)] : List Bool)).bind fun y4 => (if y4 = true then J0 (x0.fWater, i0 + 1, mset D0 x0.fName true) else some (.inl (161 : Int))))) else some (.inr ()))
def units_CheckRoll_p (n : Nat) (a0 : TRoll) : Option Int :=
  (units_every_p n ([(decide (0 ≤ a0.fGroups)), (decide (a0.fGroups ≤ 6)), (decide (0 ≤ a0.fParties)), (decide (a0.fParties ≤ 12)), (decide (0 ≤ a0.fLevels)), (decide (a0.fLevels ≤ 3)), (decide (0 < a0.fUnits.length)), (decide (a0.fUnits.length ≤ 64))] : List Bool)).bind fun y0 => (if y0 = true then thn (loopF (units_CheckRoll_l1 n a0) n (false, 0, ([] : List (ByteArray × Bool)))) (fun _ => some (0 : Int)) else some (161 : Int))
theorem units_CheckRoll_c (n : Nat) (L : List Nat) (w : World) (hL : ∀ b ∈ L, b < w.heap.size) (a0 : TRoll) {v0_3 : Value} (h0_3 : Rep.R w L [v0_3] a0.fUnits)  {r : Int} (h : units_CheckRoll_p n a0 = some r) :
    Calls Tryz.prog 101 #[.agg #[.int .i64 a0.fGroups, .int .i64 a0.fParties, .int .i64 a0.fLevels, v0_3]] w (Gives w fun _ u => u = .int .i64 r) := by
  unfold units_CheckRoll_p at h
  have hS0 := St.start w
  refine MX.start Tryz.func101 rfl rfl rfl (fun _ cs0 hb0 => ?_)
  refine MX.sr <| RG.new .plain rfl (Does.box (vs := [.int .i64 a0.fGroups, .int .i64 a0.fParties, .int .i64 a0.fLevels, v0_3]) hS0 rfl rfl) (fun w2 b5 hS3 hT4 => ?_)
  refine RG.sg rfl rfl <| RG.nil <| MX.sr <| RG.vv (FV.fieldAddr (off := 3) (by kernel_rfl) rfl) rfl <| RG.vv (FV.load1 (by kernel_rfl) rfl ((hS3.memA .hd) 3 _ rfl)) rfl ?_
  have hm7 := Rep.mv h0_3 hT4
  have hl6 : a0.fUnits.length ≤ 281474976710656 := Rep.lenle hm7
  refine RG.vv (FV.len (xs := a0.fUnits) Tryz.underlying42 rfl hm7) rfl <| RG.sg rfl rfl <| RG.nil <| MX.seq <| MX.sr <| RG.vv (FV.fieldAddr (off := 0) (by kernel_rfl) rfl) rfl ?_
  refine RG.vv (FV.load1 (by kernel_rfl) rfl ((hS3.memA .hd) 0 _ rfl)) rfl <| RG.vv (FV.geq (i := a0.fGroups) (j := 0) rfl rfl) rfl <| RG.vv (FV.fieldAddr (off := 0) (by kernel_rfl) rfl) rfl <| RG.vv (FV.load1 (by kernel_rfl) rfl ((hS3.memA .hd) 0 _ rfl)) rfl <| RG.vv (FV.leq (i := a0.fGroups) (j := 6) rfl rfl) rfl <| RG.vv (FV.fieldAddr (off := 1) (by kernel_rfl) rfl) rfl ?_
  refine RG.vv (FV.load1 (by kernel_rfl) rfl ((hS3.memA .hd) 1 _ rfl)) rfl <| RG.vv (FV.geq (i := a0.fParties) (j := 0) rfl rfl) rfl <| RG.vv (FV.fieldAddr (off := 1) (by kernel_rfl) rfl) rfl <| RG.vv (FV.load1 (by kernel_rfl) rfl ((hS3.memA .hd) 1 _ rfl)) rfl <| RG.vv (FV.leq (i := a0.fParties) (j := 12) rfl rfl) rfl <| RG.vv (FV.fieldAddr (off := 2) (by kernel_rfl) rfl) rfl ?_
  refine RG.vv (FV.load1 (by kernel_rfl) rfl ((hS3.memA .hd) 2 _ rfl)) rfl <| RG.vv (FV.geq (i := a0.fLevels) (j := 0) rfl rfl) rfl <| RG.vv (FV.fieldAddr (off := 2) (by kernel_rfl) rfl) rfl <| RG.vv (FV.load1 (by kernel_rfl) rfl ((hS3.memA .hd) 2 _ rfl)) rfl <| RG.vv (FV.leq (i := a0.fLevels) (j := 3) rfl rfl) rfl <| RG.mv rfl rfl ?_
  refine RG.vv (FV.gtrN (i := a0.fUnits.length) (j := 0) rfl rfl) rfl <| RG.mv rfl rfl <| RG.vv (FV.leqN (i := a0.fUnits.length) (j := 64) rfl rfl) rfl <| RG.new .plain rfl (Does.build (α := Bool) (xs := ([(decide (0 ≤ a0.fGroups)), (decide (a0.fGroups ≤ 6)), (decide (0 ≤ a0.fParties)), (decide (a0.fParties ≤ 12)), (decide (0 ≤ a0.fLevels)), (decide (a0.fLevels ≤ 3)), (decide (0 < a0.fUnits.length)), (decide (a0.fUnits.length ≤ 64))] : List Bool)) (vs := [.bool (decide (0 ≤ a0.fGroups)), .bool (decide (a0.fGroups ≤ 6)), .bool (decide (0 ≤ a0.fParties)), .bool (decide (a0.fParties ≤ 12)), .bool (decide (0 ≤ a0.fLevels)), .bool (decide (a0.fLevels ≤ 3)), .bool (decide (0 < a0.fUnits.length)), .bool (decide (a0.fUnits.length ≤ 64))]) (ds' := [.bool (decide (0 ≤ a0.fGroups)), .bool (decide (a0.fGroups ≤ 6)), .bool (decide (0 ≤ a0.fParties)), .bool (decide (a0.fParties ≤ 12)), .bool (decide (0 ≤ a0.fLevels)), .bool (decide (a0.fLevels ≤ 3)), .bool (decide (0 < a0.fUnits.length)), .bool (decide (a0.fUnits.length ≤ 64))]) rfl hS3 el169 rfl (evs_cons rfl (evs_cons rfl (evs_cons rfl (evs_cons rfl (evs_cons rfl (evs_cons rfl (evs_cons rfl (evs_cons rfl evs_nil)))))))) (by kernel_rfl) rfl) (fun w9 b0 hS1 hT0 => ?_)
  have hc0 := Cells.at_ (cs := [.bool (decide (0 ≤ a0.fGroups)), .bool (decide (a0.fGroups ≤ 6)), .bool (decide (0 ≤ a0.fParties)), .bool (decide (a0.fParties ≤ 12)), .bool (decide (0 ≤ a0.fLevels)), .bool (decide (a0.fLevels ≤ 3)), .bool (decide (0 < a0.fUnits.length)), .bool (decide (a0.fUnits.length ≤ 64))]) (xs := (([(decide (0 ≤ a0.fGroups)), (decide (a0.fGroups ≤ 6)), (decide (0 ≤ a0.fParties)), (decide (a0.fParties ≤ 12)), (decide (0 ≤ a0.fLevels)), (decide (a0.fLevels ≤ 3)), (decide (0 < a0.fUnits.length)), (decide (a0.fUnits.length ≤ 64))] : List Bool) : List Bool)) hS1 L (Cells.cons (cs := [.bool (decide (0 ≤ a0.fGroups))]) (ds := [.bool (decide (a0.fGroups ≤ 6)), .bool (decide (0 ≤ a0.fParties)), .bool (decide (a0.fParties ≤ 12)), .bool (decide (0 ≤ a0.fLevels)), .bool (decide (a0.fLevels ≤ 3)), .bool (decide (0 < a0.fUnits.length)), .bool (decide (a0.fUnits.length ≤ 64))]) rfl (Cells.cons (cs := [.bool (decide (a0.fGroups ≤ 6))]) (ds := [.bool (decide (0 ≤ a0.fParties)), .bool (decide (a0.fParties ≤ 12)), .bool (decide (0 ≤ a0.fLevels)), .bool (decide (a0.fLevels ≤ 3)), .bool (decide (0 < a0.fUnits.length)), .bool (decide (a0.fUnits.length ≤ 64))]) rfl (Cells.cons (cs := [.bool (decide (0 ≤ a0.fParties))]) (ds := [.bool (decide (a0.fParties ≤ 12)), .bool (decide (0 ≤ a0.fLevels)), .bool (decide (a0.fLevels ≤ 3)), .bool (decide (0 < a0.fUnits.length)), .bool (decide (a0.fUnits.length ≤ 64))]) rfl (Cells.cons (cs := [.bool (decide (a0.fParties ≤ 12))]) (ds := [.bool (decide (0 ≤ a0.fLevels)), .bool (decide (a0.fLevels ≤ 3)), .bool (decide (0 < a0.fUnits.length)), .bool (decide (a0.fUnits.length ≤ 64))]) rfl (Cells.cons (cs := [.bool (decide (0 ≤ a0.fLevels))]) (ds := [.bool (decide (a0.fLevels ≤ 3)), .bool (decide (0 < a0.fUnits.length)), .bool (decide (a0.fUnits.length ≤ 64))]) rfl (Cells.cons (cs := [.bool (decide (a0.fLevels ≤ 3))]) (ds := [.bool (decide (0 < a0.fUnits.length)), .bool (decide (a0.fUnits.length ≤ 64))]) rfl (Cells.cons (cs := [.bool (decide (0 < a0.fUnits.length))]) (ds := [.bool (decide (a0.fUnits.length ≤ 64))]) rfl (Cells.cons (cs := [.bool (decide (a0.fUnits.length ≤ 64))]) (ds := []) rfl (Cells.nil _ _)))))))))
  obtain ⟨y0, hy0, h⟩ := bind_in h
  refine RG.cq (.bool y0) body141 rfl (evs_cons rfl evs_nil) (fun w9 hw9 => units_every_c n _ w9 (hS1.hL0 hL hw9) ([(decide (0 ≤ a0.fGroups)), (decide (a0.fGroups ≤ 6)), (decide (0 ≤ a0.fParties)), (decide (a0.fParties ≤ 12)), (decide (0 ≤ a0.fLevels)), (decide (a0.fLevels ≤ 3)), (decide (0 < a0.fUnits.length)), (decide (a0.fUnits.length ≤ 64))] : List Bool) (Rep.keep0 (St.lend (α := Bool) (L := L) hS1 .hd hc0 hL) hw9) hy0) rfl <| RG.vv (FV.not rfl) rfl <| RG.nil <| MX.ifnb rfl h (fun c0 h => ?_) (fun c0 h => ?_)
  ·skip
   refine MX.skip <| MX.sr <| RG.new .plain rfl (Does.makeMap (κ := ByteArray) (ν := Bool) hS1) (fun w0 b1 hS2 hT1 => ?_)
   refine RG.sg rfl rfl <| RG.nil <| MX.sr <| RG.sg rfl rfl <| RG.nil <| MX.seq ?_
   refine MX.sr <| RG.vv (FV.fieldAddr (off := 3) (by kernel_rfl) rfl) rfl <| RG.vv (FV.load1 (by kernel_rfl) rfl ((hS2.memA (.tl (.tl .hd))) 3 _ rfl)) rfl ?_
   have hm0 := Rep.mv h0_3 (Tr.trans hT4 (Tr.trans hT0 hT1))
   refine RG.vv (FV.len (xs := a0.fUnits) Tryz.underlying42 rfl hm0) rfl <| RG.mv rfl rfl <| RG.nil <| MX.block ?_
   obtain ⟨hS4, hT2⟩ := St.arrB hS2 (.one .hd (.one (.tl .hd) .done))
   obtain ⟨o0, ho204, hh206⟩ := thn_in h
   refine MX.loop (α := Bool × Nat × (List (ByteArray × Bool))) (fun ⟨q0, i0, D0⟩ => [(1, .pointer (some ⟨b5, 0, none⟩)), (4, .map (some b1)), (5, .bool q0), (38, v0_3), (39, .int .i64 ((a0.fUnits.length : Nat) : Int)), (40, .int .i64 ((i0 : Nat) : Int))]) (fun ⟨q0, i0, D0⟩ wx0 => St w wx0 [.obj b1 (mapO (D0 : List (ByteArray × Bool))), .cells b5 [.int .i64 a0.fGroups, .int .i64 a0.fParties, .int .i64 a0.fLevels, v0_3] 44] ∧ Tr w0 [.obj b1 (mapO ([] : List (ByteArray × Bool))), .cells b5 [.int .i64 a0.fGroups, .int .i64 a0.fParties, .int .i64 a0.fLevels, v0_3] 44] wx0 [.obj b1 (mapO (D0 : List (ByteArray × Bool))), .cells b5 [.int .i64 a0.fGroups, .int .i64 a0.fParties, .int .i64 a0.fLevels, v0_3] 44]) (fun ⟨q0, i0, D0⟩ => (q0, i0, D0)) (false, 0, ([] : List (ByteArray × Bool))) ho204 ⟨rfl, rfl, rfl, rfl, rfl, rfl, trivial⟩ ⟨hS4, Tr.refl _ _⟩ ?_
   rintro J0 ⟨q0, i0, D0⟩ wx0 hJ208 ⟨hS5, hT3⟩ h
   unfold units_CheckRoll_l1 at h
   try dsimp only at h
   refine MX.sr <| RG.vv (FV.lssN (i := i0) (j := a0.fUnits.length) rfl rfl) rfl <| RG.nil <| MX.seq <| MX.ifd rfl h (fun c1 h => ?_) (fun c1 h => ?_)
   ·skip
    refine MX.skip <| MX.seq <| MX.block <| MX.sr <| RG.mv rfl rfl ?_
    obtain ⟨x0, hx0, h⟩ := bind_in h
    have hm1 := Rep.mv h0_3 (Tr.trans hT4 (Tr.trans hT0 (Tr.trans hT1 (Tr.trans hT2 hT3))))
    obtain ⟨A211, c2, he0, hk0, cs1, hr0, hm2⟩ := Rep.nth hm1 hx0
    obtain ⟨v0, v1, v2, rfl, hr1, hr2, hr3⟩ := op_TUnit hr0
    refine RG.vv (FV.idxAddr (m := 6) (i := i0) (by kernel_rfl) rfl he0 rfl rfl hk0) rfl <| RG.vv (FV.loadN (by kernel_rfl) rfl hm2) rfl <| RG.new .plain rfl (Does.alloc (zs := [.string ⟨#[]⟩, .int .i64 0, .slice none 0 0, .slice none 0 0, .slice none 0 0, .bool false]) hS5 (zB (by kernel_rfl))) (fun w1 b2 hS6 hT5 => ?_)
    refine RG.sg rfl rfl ?_
    have hm3 := Rep.mv hr1 hT5
    have hm4 := Rep.mv hr2 hT5
    have hm5 := Rep.mv hr3 hT5
    refine RG.now .plain (Acts.storeAll (news := [.string x0.fName, .int .i64 x0.fPeople, v0, v1, v2, .bool x0.fWater]) hS6 .hd rfl rfl rfl rfl rfl rfl (ones_cons rfl (ones_cons rfl (ones_cons (Rep.o1 hm3) (ones_cons (Rep.o1 hm4) (ones_cons (Rep.o1 hm5) (ones_cons rfl ones_nil))))))) (fun w3 hS7 hT6 => ?_)
    refine RG.nil <| MX.seq <| MX.seq <| MX.drawT 24 tb101_9 (by kernel_rfl) (by kernel_rfl) (by kernel_rfl) (fun kt0 kp0 => ?_)
    refine RD.vx 0 1 16727044 kt0 rfl kp0 (FV.loadN (by kernel_rfl) rfl (hS7.memA (.tl (.tl .hd)))) rfl <| RD.vx 1 3 16727044 kt0 rfl kp0 (FV.loadN (by kernel_rfl) rfl (hS7.memA .hd)) rfl ?_
    obtain ⟨y1, hy1, h⟩ := bind_in h
    have hm6 := Rep.mv h0_3 (Tr.trans hT4 (Tr.trans hT0 (Tr.trans hT1 (Tr.trans hT2 (Tr.trans hT3 (Tr.trans hT5 hT6))))))
    have hm8 := Rep.mv hr1 (Tr.trans hT5 hT6)
    have hm9 := Rep.mv hr2 (Tr.trans hT5 hT6)
    have hm10 := Rep.mv hr3 (Tr.trans hT5 hT6)
    refine RD.cq 2 7 16727040 (.bool y1) kt0 rfl kp0 body142 rfl (evs_cons rfl (evs_cons rfl evs_nil)) (fun w9 hw9 => units_right_c n _ w9 (hS7.hL0 hL hw9) a0 (Rep.keep0 (Rep.dropS hS7 hm6) hw9) x0 (Rep.keep0 (Rep.dropS hS7 hm8) hw9) (Rep.keep0 (Rep.dropS hS7 hm9) hw9) (Rep.keep0 (Rep.dropS hS7 hm10) hw9) hy1) rfl <| RD.vw 3 15 kt0 rfl kp0 (fun _ => FV.move rfl) rfl <| RD.vw 4 31 kt0 rfl kp0 (fun _ => FV.fieldAddr (off := 0) (by kernel_rfl) rfl) rfl <| RD.vx 5 63 14680256 kt0 rfl kp0 (FV.load1 (by kernel_rfl) rfl ((hS7.memA .hd) 0 _ rfl)) rfl <| RD.vx 6 127 14680192 kt0 rfl kp0 (FV.lookup (kv := x0.fName) (z := false) hS7 (.tl .hd) Tryz.underlying177 Tryz.underlying9 rfl (by kernel_rfl) rfl rfl) rfl <| RD.vw 7 255 kt0 rfl kp0 (fun _ => FV.not rfl) rfl ?_
    refine RD.vw 8 511 kt0 rfl kp0 (fun _ => FV.fieldAddr (off := 5) (by kernel_rfl) rfl) rfl <| RD.vx 9 1023 16727040 kt0 rfl kp0 (FV.load1 (by kernel_rfl) rfl ((hS7.memA .hd) 5 _ rfl)) rfl <| RD.vw 10 2047 kt0 rfl kp0 (fun _ => FV.move rfl) rfl <| RD.ifb (s := 55) rfl h (fun c3 h => ?_) (fun c3 h => ?_)
    ·skip
     refine RD.offs 8191 11 [(11, 56), (12, 57)] (F := [(55, true)]) (U := []) kt0 kp0 (.cons rfl .nil) .nil ?_
     dsimp only [offS, List.map]
     refine RD.vw 13 16383 kt0 rfl kp0 (fun _ => FV.pick_t rfl rfl) rfl <| RD.vw 14 32767 kt0 rfl kp0 (fun _ => FV.move rfl) rfl <| RD.vw 15 65535 kt0 rfl kp0 (fun _ => FV.gtrN (i := i0) (j := 0) rfl rfl) rfl <| RD.vw 16 131071 kt0 rfl kp0 (fun _ => FV.move rfl) rfl <| RD.ifd (s := 61) rfl h (fun c4 h => ?_) (fun c4 h => ?_)
     ·skip
      refine RD.offs 1048575 4 [(17, 62), (18, 63), (19, 64)] (F := [(61, true)]) (U := []) kt0 kp0 (.cons rfl .nil) .nil ?_
      dsimp only [offS, List.map]
      refine RD.vw 20 2097151 kt0 rfl kp0 (fun _ => FV.pick_t rfl rfl) rfl <| RD.nu 21 4194303 kt0 rfl .plain rfl (Does.build (α := Bool) (xs := ([y1, (!(mgetD D0 x0.fName false)), true, true] : List Bool)) (vs := [.bool y1, .bool (!(mgetD D0 x0.fName false)), .bool true, .bool true]) (ds' := [.bool y1, .bool (!(mgetD D0 x0.fName false)), .bool true, .bool true]) rfl hS7 el169 rfl (evs_cons rfl (evs_cons rfl (evs_cons rfl (evs_cons rfl evs_nil)))) (by kernel_rfl) rfl) (fun w4 b3 hS8 hT7 => ?_)
      have hc1 := Cells.at_ (cs := [.bool y1, .bool (!(mgetD D0 x0.fName false)), .bool true, .bool true]) (xs := (([y1, (!(mgetD D0 x0.fName false)), true, true] : List Bool) : List Bool)) hS8 L (Cells.cons (cs := [.bool y1]) (ds := [.bool (!(mgetD D0 x0.fName false)), .bool true, .bool true]) rfl (Cells.cons (cs := [.bool (!(mgetD D0 x0.fName false))]) (ds := [.bool true, .bool true]) rfl (Cells.cons (cs := [.bool true]) (ds := [.bool true]) rfl (Cells.cons (cs := [.bool true]) (ds := []) rfl (Cells.nil _ _)))))
      obtain ⟨y2, hy2, h⟩ := bind_in h
      refine RD.cq 22 8388607 8388608 (.bool y2) kt0 rfl kp0 body141 rfl (evs_cons rfl evs_nil) (fun w9 hw9 => units_every_c n _ w9 (hS8.hL0 hL hw9) ([y1, (!(mgetD D0 x0.fName false)), true, true] : List Bool) (Rep.keep0 (St.lend (α := Bool) (L := L) hS8 .hd hc1 hL) hw9) hy2) rfl <| RD.vw 23 16777215 kt0 rfl kp0 (fun _ => FV.not rfl) rfl <| RD.done (doneD_ok kt0 (by kernel_rfl)) <| MX.ifnb rfl h (fun c5 h => ?_) (fun c5 h => ?_)
      ·skip
       refine MX.skip <| MX.sr <| RG.mv rfl rfl <| RG.vv (FV.fieldAddr (off := 0) (by kernel_rfl) rfl) rfl <| RG.vv (FV.load1 (by kernel_rfl) rfl ((hS8.memA (.tl .hd)) 0 _ rfl)) rfl <| RG.now .plain (Acts.mapUpdate (kv := x0.fName) (vv := true) hS8 (.tl (.tl .hd)) Tryz.underlying177 Tryz.underlying9 rfl rfl rfl rfl) (fun w5 hS9 hT8 => ?_)
       refine RG.nil <| MX.region <| RG.vv (FV.fieldAddr (off := 5) (by kernel_rfl) rfl) rfl <| RG.vv (FV.load1 (by kernel_rfl) rfl ((hS9.memA (.tl .hd)) 5 _ rfl)) rfl <| RG.sg rfl rfl <| RG.nil ?_
       refine MX.inBlock <| MX.region <| RG.vv (FV.addN (i := i0) (j := 1) rfl rfl (by omega)) rfl <| RG.mv rfl rfl <| RG.nil ?_
       obtain ⟨hS11, hT9⟩ := St.arrB hS9 (.one (.tl (.tl .hd)) (.one (.tl (.tl .hd)) .done))
       exact hJ208 (x0.fWater, i0 + 1, mset D0 x0.fName true) _ _ ⟨rfl, rfl, rfl, rfl, rfl, rfl, trivial⟩ ⟨hS11, (Tr.trans hT3 (Tr.trans hT5 (Tr.trans hT6 (Tr.trans hT7 (Tr.trans hT8 hT9)))))⟩ h
      refine MX.sr <| RG.sg rfl rfl <| RG.nil ?_
      have h := thn_inl h hh206
      refine MX.ret rfl <| RT.leave hb0 Tryz.func101 rfl (.cons (.tmp rfl) .nil) rfl ?_
      obtain rfl := Option.some.inj h
      exact ⟨hS8.ag, fun w9 hw9 => rfl⟩
     refine RD.vP 17 262143 kt0 rfl kp0 (.yes rfl rfl) (fun _ => FV.fieldAddr (off := 5) (by kernel_rfl) rfl) rfl <| RD.val (i := 18) (m' := 524287) (W := 16252928) (takeC_ok kt0 (by kernel_rfl)) rfl kp0 (.yes rfl rfl) (FV.load1 (by kernel_rfl) rfl ((hS7.memA .hd) 5 _ rfl)) rfl <| RD.vP 19 1048575 kt0 rfl kp0 (.yes rfl rfl) (fun _ => FV.not rfl) rfl <| RD.vw 20 2097151 kt0 rfl kp0 (fun _ => FV.pick_f rfl rfl) rfl <| RD.nu 21 4194303 kt0 rfl .plain rfl (Does.build (α := Bool) (xs := ([y1, (!(mgetD D0 x0.fName false)), true, (!x0.fWater)] : List Bool)) (vs := [.bool y1, .bool (!(mgetD D0 x0.fName false)), .bool true, .bool (!x0.fWater)]) (ds' := [.bool y1, .bool (!(mgetD D0 x0.fName false)), .bool true, .bool (!x0.fWater)]) rfl hS7 el169 rfl (evs_cons rfl (evs_cons rfl (evs_cons rfl (evs_cons rfl evs_nil)))) (by kernel_rfl) rfl) (fun w6 b4 hS12 hT10 => ?_)
     have hc2 := Cells.at_ (cs := [.bool y1, .bool (!(mgetD D0 x0.fName false)), .bool true, .bool (!x0.fWater)]) (xs := (([y1, (!(mgetD D0 x0.fName false)), true, (!x0.fWater)] : List Bool) : List Bool)) hS12 L (Cells.cons (cs := [.bool y1]) (ds := [.bool (!(mgetD D0 x0.fName false)), .bool true, .bool (!x0.fWater)]) rfl (Cells.cons (cs := [.bool (!(mgetD D0 x0.fName false))]) (ds := [.bool true, .bool (!x0.fWater)]) rfl (Cells.cons (cs := [.bool true]) (ds := [.bool (!x0.fWater)]) rfl (Cells.cons (cs := [.bool (!x0.fWater)]) (ds := []) rfl (Cells.nil _ _)))))
     obtain ⟨y3, hy3, h⟩ := bind_in h
     refine RD.cq 22 8388607 8388608 (.bool y3) kt0 rfl kp0 body141 rfl (evs_cons rfl evs_nil) (fun w9 hw9 => units_every_c n _ w9 (hS12.hL0 hL hw9) ([y1, (!(mgetD D0 x0.fName false)), true, (!x0.fWater)] : List Bool) (Rep.keep0 (St.lend (α := Bool) (L := L) hS12 .hd hc2 hL) hw9) hy3) rfl <| RD.vw 23 16777215 kt0 rfl kp0 (fun _ => FV.not rfl) rfl <| RD.done (doneD_ok kt0 (by kernel_rfl)) <| MX.ifnb rfl h (fun c6 h => ?_) (fun c6 h => ?_)
     ·skip
      refine MX.skip <| MX.sr <| RG.mv rfl rfl <| RG.vv (FV.fieldAddr (off := 0) (by kernel_rfl) rfl) rfl <| RG.vv (FV.load1 (by kernel_rfl) rfl ((hS12.memA (.tl .hd)) 0 _ rfl)) rfl <| RG.now .plain (Acts.mapUpdate (kv := x0.fName) (vv := true) hS12 (.tl (.tl .hd)) Tryz.underlying177 Tryz.underlying9 rfl rfl rfl rfl) (fun w7 hS13 hT12 => ?_)
      refine RG.nil <| MX.region <| RG.vv (FV.fieldAddr (off := 5) (by kernel_rfl) rfl) rfl <| RG.vv (FV.load1 (by kernel_rfl) rfl ((hS13.memA (.tl .hd)) 5 _ rfl)) rfl <| RG.sg rfl rfl <| RG.nil ?_
      refine MX.inBlock <| MX.region <| RG.vv (FV.addN (i := i0) (j := 1) rfl rfl (by omega)) rfl <| RG.mv rfl rfl <| RG.nil ?_
      obtain ⟨hS14, hT13⟩ := St.arrB hS13 (.one (.tl (.tl .hd)) (.one (.tl (.tl .hd)) .done))
      exact hJ208 (x0.fWater, i0 + 1, mset D0 x0.fName true) _ _ ⟨rfl, rfl, rfl, rfl, rfl, rfl, trivial⟩ ⟨hS14, (Tr.trans hT3 (Tr.trans hT5 (Tr.trans hT6 (Tr.trans hT10 (Tr.trans hT12 hT13)))))⟩ h
     refine MX.sr <| RG.sg rfl rfl <| RG.nil ?_
     have h := thn_inl h hh206
     refine MX.ret rfl <| RT.leave hb0 Tryz.func101 rfl (.cons (.tmp rfl) .nil) rfl ?_
     obtain rfl := Option.some.inj h
     exact ⟨hS12.ag, fun w9 hw9 => rfl⟩
    refine RD.vP 11 4095 kt0 rfl kp0 (.yes rfl rfl) (fun _ => FV.move rfl) rfl <| RD.vP 12 8191 kt0 rfl kp0 (.yes rfl rfl) (fun _ => FV.not rfl) rfl <| RD.vw 13 16383 kt0 rfl kp0 (fun _ => FV.pick_f rfl rfl) rfl <| RD.vw 14 32767 kt0 rfl kp0 (fun _ => FV.move rfl) rfl <| RD.vw 15 65535 kt0 rfl kp0 (fun _ => FV.gtrN (i := i0) (j := 0) rfl rfl) rfl <| RD.vw 16 131071 kt0 rfl kp0 (fun _ => FV.move rfl) rfl ?_
    refine RD.ifd (s := 61) rfl h (fun c7 h => ?_) (fun c7 h => ?_)
    ·skip
     refine RD.offs 1048575 4 [(17, 62), (18, 63), (19, 64)] (F := [(61, true)]) (U := []) kt0 kp0 (.cons rfl .nil) .nil ?_
     dsimp only [offS, List.map]
     refine RD.vw 20 2097151 kt0 rfl kp0 (fun _ => FV.pick_t rfl rfl) rfl <| RD.nu 21 4194303 kt0 rfl .plain rfl (Does.build (α := Bool) (xs := ([y1, (!(mgetD D0 x0.fName false)), (!q0), true] : List Bool)) (vs := [.bool y1, .bool (!(mgetD D0 x0.fName false)), .bool (!q0), .bool true]) (ds' := [.bool y1, .bool (!(mgetD D0 x0.fName false)), .bool (!q0), .bool true]) rfl hS7 el169 rfl (evs_cons rfl (evs_cons rfl (evs_cons rfl (evs_cons rfl evs_nil)))) (by kernel_rfl) rfl) (fun w8 b6 hS15 hT14 => ?_)
     have hc3 := Cells.at_ (cs := [.bool y1, .bool (!(mgetD D0 x0.fName false)), .bool (!q0), .bool true]) (xs := (([y1, (!(mgetD D0 x0.fName false)), (!q0), true] : List Bool) : List Bool)) hS15 L (Cells.cons (cs := [.bool y1]) (ds := [.bool (!(mgetD D0 x0.fName false)), .bool (!q0), .bool true]) rfl (Cells.cons (cs := [.bool (!(mgetD D0 x0.fName false))]) (ds := [.bool (!q0), .bool true]) rfl (Cells.cons (cs := [.bool (!q0)]) (ds := [.bool true]) rfl (Cells.cons (cs := [.bool true]) (ds := []) rfl (Cells.nil _ _)))))
     obtain ⟨y4, hy4, h⟩ := bind_in h
     refine RD.cq 22 8388607 8388608 (.bool y4) kt0 rfl kp0 body141 rfl (evs_cons rfl evs_nil) (fun w9 hw9 => units_every_c n _ w9 (hS15.hL0 hL hw9) ([y1, (!(mgetD D0 x0.fName false)), (!q0), true] : List Bool) (Rep.keep0 (St.lend (α := Bool) (L := L) hS15 .hd hc3 hL) hw9) hy4) rfl <| RD.vw 23 16777215 kt0 rfl kp0 (fun _ => FV.not rfl) rfl <| RD.done (doneD_ok kt0 (by kernel_rfl)) <| MX.ifnb rfl h (fun c8 h => ?_) (fun c8 h => ?_)
     ·skip
      refine MX.skip <| MX.sr <| RG.mv rfl rfl <| RG.vv (FV.fieldAddr (off := 0) (by kernel_rfl) rfl) rfl <| RG.vv (FV.load1 (by kernel_rfl) rfl ((hS15.memA (.tl .hd)) 0 _ rfl)) rfl <| RG.now .plain (Acts.mapUpdate (kv := x0.fName) (vv := true) hS15 (.tl (.tl .hd)) Tryz.underlying177 Tryz.underlying9 rfl rfl rfl rfl) (fun w10 hS16 hT15 => ?_)
      refine RG.nil <| MX.region <| RG.vv (FV.fieldAddr (off := 5) (by kernel_rfl) rfl) rfl <| RG.vv (FV.load1 (by kernel_rfl) rfl ((hS16.memA (.tl .hd)) 5 _ rfl)) rfl <| RG.sg rfl rfl <| RG.nil ?_
      refine MX.inBlock <| MX.region <| RG.vv (FV.addN (i := i0) (j := 1) rfl rfl (by omega)) rfl <| RG.mv rfl rfl <| RG.nil ?_
      obtain ⟨hS17, hT16⟩ := St.arrB hS16 (.one (.tl (.tl .hd)) (.one (.tl (.tl .hd)) .done))
      exact hJ208 (x0.fWater, i0 + 1, mset D0 x0.fName true) _ _ ⟨rfl, rfl, rfl, rfl, rfl, rfl, trivial⟩ ⟨hS17, (Tr.trans hT3 (Tr.trans hT5 (Tr.trans hT6 (Tr.trans hT14 (Tr.trans hT15 hT16)))))⟩ h
     refine MX.sr <| RG.sg rfl rfl <| RG.nil ?_
     have h := thn_inl h hh206
     refine MX.ret rfl <| RT.leave hb0 Tryz.func101 rfl (.cons (.tmp rfl) .nil) rfl ?_
     obtain rfl := Option.some.inj h
     exact ⟨hS15.ag, fun w9 hw9 => rfl⟩
    refine RD.vP 17 262143 kt0 rfl kp0 (.yes rfl rfl) (fun _ => FV.fieldAddr (off := 5) (by kernel_rfl) rfl) rfl <| RD.val (i := 18) (m' := 524287) (W := 16252928) (takeC_ok kt0 (by kernel_rfl)) rfl kp0 (.yes rfl rfl) (FV.load1 (by kernel_rfl) rfl ((hS7.memA .hd) 5 _ rfl)) rfl <| RD.vP 19 1048575 kt0 rfl kp0 (.yes rfl rfl) (fun _ => FV.not rfl) rfl <| RD.vw 20 2097151 kt0 rfl kp0 (fun _ => FV.pick_f rfl rfl) rfl <| RD.nu 21 4194303 kt0 rfl .plain rfl (Does.build (α := Bool) (xs := ([y1, (!(mgetD D0 x0.fName false)), (!q0), (!x0.fWater)] : List Bool)) (vs := [.bool y1, .bool (!(mgetD D0 x0.fName false)), .bool (!q0), .bool (!x0.fWater)]) (ds' := [.bool y1, .bool (!(mgetD D0 x0.fName false)), .bool (!q0), .bool (!x0.fWater)]) rfl hS7 el169 rfl (evs_cons rfl (evs_cons rfl (evs_cons rfl (evs_cons rfl evs_nil)))) (by kernel_rfl) rfl) (fun w11 b7 hS19 hT17 => ?_)
    have hc4 := Cells.at_ (cs := [.bool y1, .bool (!(mgetD D0 x0.fName false)), .bool (!q0), .bool (!x0.fWater)]) (xs := (([y1, (!(mgetD D0 x0.fName false)), (!q0), (!x0.fWater)] : List Bool) : List Bool)) hS19 L (Cells.cons (cs := [.bool y1]) (ds := [.bool (!(mgetD D0 x0.fName false)), .bool (!q0), .bool (!x0.fWater)]) rfl (Cells.cons (cs := [.bool (!(mgetD D0 x0.fName false))]) (ds := [.bool (!q0), .bool (!x0.fWater)]) rfl (Cells.cons (cs := [.bool (!q0)]) (ds := [.bool (!x0.fWater)]) rfl (Cells.cons (cs := [.bool (!x0.fWater)]) (ds := []) rfl (Cells.nil _ _)))))
    obtain ⟨y5, hy5, h⟩ := bind_in h
    refine RD.cq 22 8388607 8388608 (.bool y5) kt0 rfl kp0 body141 rfl (evs_cons rfl evs_nil) (fun w9 hw9 => units_every_c n _ w9 (hS19.hL0 hL hw9) ([y1, (!(mgetD D0 x0.fName false)), (!q0), (!x0.fWater)] : List Bool) (Rep.keep0 (St.lend (α := Bool) (L := L) hS19 .hd hc4 hL) hw9) hy5) rfl <| RD.vw 23 16777215 kt0 rfl kp0 (fun _ => FV.not rfl) rfl <| RD.done (doneD_ok kt0 (by kernel_rfl)) <| MX.ifnb rfl h (fun c9 h => ?_) (fun c9 h => ?_)
    ·skip
     refine MX.skip <| MX.sr <| RG.mv rfl rfl <| RG.vv (FV.fieldAddr (off := 0) (by kernel_rfl) rfl) rfl <| RG.vv (FV.load1 (by kernel_rfl) rfl ((hS19.memA (.tl .hd)) 0 _ rfl)) rfl <| RG.now .plain (Acts.mapUpdate (kv := x0.fName) (vv := true) hS19 (.tl (.tl .hd)) Tryz.underlying177 Tryz.underlying9 rfl rfl rfl rfl) (fun w12 hS20 hT18 => ?_)
     refine RG.nil <| MX.region <| RG.vv (FV.fieldAddr (off := 5) (by kernel_rfl) rfl) rfl <| RG.vv (FV.load1 (by kernel_rfl) rfl ((hS20.memA (.tl .hd)) 5 _ rfl)) rfl <| RG.sg rfl rfl <| RG.nil ?_
     refine MX.inBlock <| MX.region <| RG.vv (FV.addN (i := i0) (j := 1) rfl rfl (by omega)) rfl <| RG.mv rfl rfl <| RG.nil ?_
     obtain ⟨hS21, hT20⟩ := St.arrB hS20 (.one (.tl (.tl .hd)) (.one (.tl (.tl .hd)) .done))
     exact hJ208 (x0.fWater, i0 + 1, mset D0 x0.fName true) _ _ ⟨rfl, rfl, rfl, rfl, rfl, rfl, trivial⟩ ⟨hS21, (Tr.trans hT3 (Tr.trans hT5 (Tr.trans hT6 (Tr.trans hT17 (Tr.trans hT18 hT20)))))⟩ h
    refine MX.sr <| RG.sg rfl rfl <| RG.nil ?_
    have h := thn_inl h hh206
    refine MX.ret rfl <| RT.leave hb0 Tryz.func101 rfl (.cons (.tmp rfl) .nil) rfl ?_
    obtain rfl := Option.some.inj h
    exact ⟨hS19.ag, fun w9 hw9 => rfl⟩
   refine MX.exit rfl ?_
   have h := thn_inr h hh206
   try dsimp only at h
   refine MX.sr <| RG.sg rfl rfl <| RG.nil <| MX.ret rfl <| RT.leave hb0 Tryz.func101 rfl (.cons (.tmp rfl) .nil) rfl ?_
   obtain rfl := Option.some.inj h
   exact ⟨hS5.ag, fun w9 hw9 => rfl⟩
  refine MX.sr <| RG.sg rfl rfl <| RG.nil <| MX.ret rfl <| RT.leave hb0 Tryz.func101 rfl (.cons (.tmp rfl) .nil) rfl ?_
  obtain rfl := Option.some.inj h
  exact ⟨hS1.ag, fun w9 hw9 => rfl⟩
structure Tcount where
  fRoll : TRoll
  fk : Int
  deriving DecidableEq
instance : Rep Tcount := Rep.via (β := TRoll × Int) fun x => (x.fRoll, x.fk)
theorem body75 : bodyB Tryz.prog 75 = true := by kernel_rfl
theorem body101 : bodyB Tryz.prog 101 = true := by kernel_rfl
def balance_counted_p (n : Nat) (a0 : TRoll) (a1 : Int) : Option (Except Tbroken Tcount) :=
  (units_CheckRoll_p n a0).bind fun y0 => (balance_need_p n y0).bind fun y1 => exc y1 (fun y2 => (if a1 < 1 then (balance_fail_p n true (2 : Int)).bind fun y3 => exc y3 (fun y4 => some (.ok (⟨a0, a1⟩ : Tcount))) (fun e0 => some (.error e0)) else (balance_fail_p n (decide (8 < a1)) (2 : Int)).bind fun y5 => exc y5 (fun y6 => some (.ok (⟨a0, a1⟩ : Tcount))) (fun e1 => some (.error e1)))) (fun e2 => some (.error e2))
theorem balance_counted_c (n : Nat) (L : List Nat) (w : World) (hL : ∀ b ∈ L, b < w.heap.size) (a0 : TRoll) {v0_3 : Value} (h0_3 : Rep.R w L [v0_3] a0.fUnits) (a1 : Int)  {r : Except Tbroken Tcount} (h : balance_counted_p n a0 a1 = some r) :
    Calls Tryz.prog 50 #[.agg #[.int .i64 a0.fGroups, .int .i64 a0.fParties, .int .i64 a0.fLevels, v0_3], .int .i64 a1] w (PGives w (fun (y : Tcount) w' u => ∃ v0_3 : Value, u = .agg #[.int .i64 y.fRoll.fGroups, .int .i64 y.fRoll.fParties, .int .i64 y.fRoll.fLevels, v0_3, .int .i64 y.fk] ∧ Rep.R w' L [v0_3] y.fRoll.fUnits) (fun e => .iface 140 (.agg #[.int .i64 e.fErrno])) r) := by
  unfold balance_counted_p at h
  have hS0 := St.start w
  refine MX.startP Tryz.func50 rfl rfl rfl (fun _ cs0 hb0 hp0 => ?_)
  refine MX.sr <| RG.new .plain rfl (Does.box (vs := [.int .i64 a0.fGroups, .int .i64 a0.fParties, .int .i64 a0.fLevels, v0_3]) hS0 rfl rfl) (fun w2 b5 hS3 hT4 => ?_)
  refine RG.new .plain rfl (Does.alloc (zs := [.int .i64 0, .int .i64 0, .int .i64 0, .slice none 0 0, .int .i64 0]) hS3 (zB (by kernel_rfl))) (fun w7 b0 hS8 hT9 => ?_)
  refine RG.nil <| MX.sr <| RG.vv (FV.loadN (by kernel_rfl) rfl (hS8.memA (.tl .hd))) rfl ?_
  obtain ⟨y0, hy0, h⟩ := bind_in h
  have hm0 := Rep.mv h0_3 (Tr.trans hT4 hT9)
  refine RG.cq (.int .i64 y0) body101 rfl (evs_cons rfl evs_nil) (fun w9 hw9 => units_CheckRoll_c n _ w9 (hS8.hL0 hL hw9) a0 (Rep.keep0 (Rep.dropS hS8 hm0) hw9) hy0) rfl ?_
  obtain ⟨y1, hy1, h⟩ := bind_in h
  rcases y1 with e0 | y2
  ·skip
   have h := exc_e h
   try dsimp only at h
   refine RG.callE (fst := []) (cap := []) .plain body100 rfl (evs_cons rfl evs_nil) (fun w9 hw9 => balance_need_c n _ w9 (hS8.hL0 hL hw9) y0 hy1) (fun w0 hag0 => ?_)
   obtain ⟨hS1, hT0⟩ := hS8.agr hag0
   obtain rfl := Option.some.inj h
   exact PN.leave hp0 Tryz.func50 ⟨hS1.ag, rfl⟩
  have h := exc_o h
  try dsimp only at h
  refine RG.cq (.tuple #[]) body100 rfl (evs_cons rfl evs_nil) (fun w9 hw9 => Calls.okp (balance_need_c n _ w9 (hS8.hL0 hL hw9) y0 hy1)) rfl <| RG.nil <| MX.sr <| RG.mv rfl rfl <| RG.vv (FV.lss (i := a1) (j := 1) rfl rfl) rfl <| RG.mv rfl rfl ?_
  refine RG.ifd (s := 10) rfl h (fun c0 h => ?_) (fun c0 h => ?_)
  ·skip
   refine RG.off (.no rfl rfl) rfl <| RG.off (.no rfl rfl) rfl <| RG.vv (FV.pick_t rfl rfl) rfl ?_
   obtain ⟨y3, hy2, h⟩ := bind_in h
   rcases y3 with e1 | y4
   ·skip
    have h := exc_e h
    try dsimp only at h
    refine RG.callE (fst := []) (cap := []) .plain body75 rfl (evs_cons rfl (evs_cons rfl evs_nil)) (fun w9 hw9 => balance_fail_c n _ w9 (hS8.hL0 hL hw9) true (2 : Int) hy2) (fun w1 hag1 => ?_)
    obtain ⟨hS2, hT1⟩ := hS8.agr hag1
    obtain rfl := Option.some.inj h
    exact PN.leave hp0 Tryz.func50 ⟨hS2.ag, rfl⟩
   have h := exc_o h
   try dsimp only at h
   refine RG.cq (.tuple #[]) body75 rfl (evs_cons rfl (evs_cons rfl evs_nil)) (fun w9 hw9 => Calls.okp (balance_fail_c n _ w9 (hS8.hL0 hL hw9) true (2 : Int) hy2)) rfl <| RG.nil <| MX.sr <| RG.vv (FV.loadN (by kernel_rfl) rfl (hS8.memA (.tl .hd))) rfl <| RG.mv rfl rfl ?_
   obtain ⟨A30, c1, hv32, _⟩ := Rep.sl hm0
   refine RG.vv (FV.buildV (vs := [.agg #[.int .i64 a0.fGroups, .int .i64 a0.fParties, .int .i64 a0.fLevels, v0_3], .int .i64 a1]) (u := .agg #[.int .i64 a0.fGroups, .int .i64 a0.fParties, .int .i64 a0.fLevels, v0_3, .int .i64 a1]) (evs_cons rfl (evs_cons rfl evs_nil)) (fun w9 => by rw [hv32]; try kernel_rfl)) rfl <| RG.now .plain (Acts.storeAll (news := [.int .i64 a0.fGroups, .int .i64 a0.fParties, .int .i64 a0.fLevels, v0_3, .int .i64 a1]) hS8 .hd rfl rfl rfl rfl rfl rfl (ones_cons rfl (ones_cons rfl (ones_cons rfl (ones_cons (Rep.o1 hm0) (ones_cons rfl ones_nil)))))) (fun w3 hS4 hT2 => ?_)
   refine RG.nil <| MX.ret rfl <| RT.leave hb0 Tryz.func50 rfl (.cons (.many (cs := [.int .i64 a0.fGroups, .int .i64 a0.fParties, .int .i64 a0.fLevels, v0_3, .int .i64 a1]) (by kernel_rfl) rfl (hS4.memA .hd)) .nil) rfl ?_
   obtain rfl := Option.some.inj h
   have hm1 := Rep.mv h0_3 (Tr.trans hT4 (Tr.trans hT9 hT2))
   exact ⟨hS4.ag, fun w9 hw9 => okOf_in ⟨v0_3, rfl, Rep.keep0 (Rep.dropS hS4 hm1) hw9⟩⟩
  refine RG.val' (.yes rfl rfl) (FV.move rfl) rfl <| RG.val' (.yes rfl rfl) (FV.gtr (i := a1) (j := 8) rfl rfl) rfl <| RG.vv (FV.pick_f rfl rfl) rfl ?_
  obtain ⟨y5, hy3, h⟩ := bind_in h
  rcases y5 with e2 | y6
  ·skip
   have h := exc_e h
   try dsimp only at h
   refine RG.callE (fst := []) (cap := []) .plain body75 rfl (evs_cons rfl (evs_cons rfl evs_nil)) (fun w9 hw9 => balance_fail_c n _ w9 (hS8.hL0 hL hw9) (decide (8 < a1)) (2 : Int) hy3) (fun w4 hag2 => ?_)
   obtain ⟨hS5, hT3⟩ := hS8.agr hag2
   obtain rfl := Option.some.inj h
   exact PN.leave hp0 Tryz.func50 ⟨hS5.ag, rfl⟩
  have h := exc_o h
  try dsimp only at h
  refine RG.cq (.tuple #[]) body75 rfl (evs_cons rfl (evs_cons rfl evs_nil)) (fun w9 hw9 => Calls.okp (balance_fail_c n _ w9 (hS8.hL0 hL hw9) (decide (8 < a1)) (2 : Int) hy3)) rfl <| RG.nil <| MX.sr <| RG.vv (FV.loadN (by kernel_rfl) rfl (hS8.memA (.tl .hd))) rfl <| RG.mv rfl rfl ?_
  obtain ⟨A45, c2, hv47, _⟩ := Rep.sl hm0
  refine RG.vv (FV.buildV (vs := [.agg #[.int .i64 a0.fGroups, .int .i64 a0.fParties, .int .i64 a0.fLevels, v0_3], .int .i64 a1]) (u := .agg #[.int .i64 a0.fGroups, .int .i64 a0.fParties, .int .i64 a0.fLevels, v0_3, .int .i64 a1]) (evs_cons rfl (evs_cons rfl evs_nil)) (fun w9 => by rw [hv47]; try kernel_rfl)) rfl <| RG.now .plain (Acts.storeAll (news := [.int .i64 a0.fGroups, .int .i64 a0.fParties, .int .i64 a0.fLevels, v0_3, .int .i64 a1]) hS8 .hd rfl rfl rfl rfl rfl rfl (ones_cons rfl (ones_cons rfl (ones_cons rfl (ones_cons (Rep.o1 hm0) (ones_cons rfl ones_nil)))))) (fun w5 hS6 hT5 => ?_)
  refine RG.nil <| MX.ret rfl <| RT.leave hb0 Tryz.func50 rfl (.cons (.many (cs := [.int .i64 a0.fGroups, .int .i64 a0.fParties, .int .i64 a0.fLevels, v0_3, .int .i64 a1]) (by kernel_rfl) rfl (hS6.memA .hd)) .nil) rfl ?_
  obtain rfl := Option.some.inj h
  have hm2 := Rep.mv h0_3 (Tr.trans hT4 (Tr.trans hT9 hT5))
  exact ⟨hS6.ag, fun w9 hw9 => okOf_in ⟨v0_3, rfl, Rep.keep0 (Rep.dropS hS6 hm2) hw9⟩⟩
def cs_A34 (x : UInt64 × UInt64 × UInt64 × UInt64 × UInt64 × UInt64 × UInt64 × UInt64) : List Value := [.int .u64 (x.1.toNat : Int), .int .u64 (x.2.1.toNat : Int), .int .u64 (x.2.2.1.toNat : Int), .int .u64 (x.2.2.2.1.toNat : Int), .int .u64 (x.2.2.2.2.1.toNat : Int), .int .u64 (x.2.2.2.2.2.1.toNat : Int), .int .u64 (x.2.2.2.2.2.2.1.toNat : Int), .int .u64 (x.2.2.2.2.2.2.2.toNat : Int)]
def tb212_5 : List (Nat × Nat × Nat) := [(0, 4096, 128), (0, 8192, 128), (2, 16384, 8196), (4, 32768, 16384), (0, 65536, 128), (16, 131072, 65544), (32, 262144, 131072), (0, 524288, 64), (200, 1048576, 819200), (256, 2048, 1048576), (512, 2097152, 2048), (512, 4194304, 2048), (2047, 8388608, 4100), (6143, 0, 10485760), (16383, 64, 4194304)]
def wide_Size_minus_p (_n : Nat) (a0 : UInt64 × UInt64 × UInt64 × UInt64 × UInt64 × UInt64 × UInt64 × UInt64) (a1 : UInt64 × UInt64 × UInt64 × UInt64 × UInt64 × UInt64 × UInt64 × UInt64) : Option ((UInt64 × UInt64 × UInt64 × UInt64 × UInt64 × UInt64 × UInt64 × UInt64) × UInt64) :=
  (sub64 a0.1 a1.1 (0 : UInt64)).bind fun z0 => (sub64 a0.2.1 a1.2.1 z0.2).bind fun z1 => (sub64 a0.2.2.1 a1.2.2.1 z1.2).bind fun z2 => (sub64 a0.2.2.2.1 a1.2.2.2.1 z2.2).bind fun z3 => (sub64 a0.2.2.2.2.1 a1.2.2.2.2.1 z3.2).bind fun z4 => (sub64 a0.2.2.2.2.2.1 a1.2.2.2.2.2.1 z4.2).bind fun z5 => (sub64 a0.2.2.2.2.2.2.1 a1.2.2.2.2.2.2.1 z5.2).bind fun z6 => (sub64 a0.2.2.2.2.2.2.2 a1.2.2.2.2.2.2.2 z6.2).bind fun z7 => some ((z0.1, z1.1, z2.1, z3.1, z4.1, z5.1, z6.1, z7.1), z7.2)
theorem wide_Size_minus_c (n : Nat) (L : List Nat) (w : World) (_hL : ∀ b ∈ L, b < w.heap.size) (a0 : UInt64 × UInt64 × UInt64 × UInt64 × UInt64 × UInt64 × UInt64 × UInt64) (a1 : UInt64 × UInt64 × UInt64 × UInt64 × UInt64 × UInt64 × UInt64 × UInt64)  {r : (UInt64 × UInt64 × UInt64 × UInt64 × UInt64 × UInt64 × UInt64 × UInt64) × UInt64} (h : wide_Size_minus_p n a0 a1 = some r) :
    Calls Tryz.prog 212 #[.agg ((cs_A34 a0)).toArray, .agg ((cs_A34 a1)).toArray] w (Gives w fun _ u => u = .tuple #[.agg ((cs_A34 r.1)).toArray, .int .u64 (r.2.toNat : Int)]) := by
  unfold wide_Size_minus_p at h
  have hS0 := St.start w
  refine MX.start Tryz.func212 rfl rfl rfl (fun _ cs0 hb0 => ?_)
  refine MX.sr <| RG.new .plain rfl (Does.box (vs := (cs_A34 a0)) hS0 rfl rfl) (fun w2 b5 hS3 hT4 => ?_)
  refine RG.new .plain rfl (Does.box (vs := (cs_A34 a1)) hS3 rfl rfl) (fun w7 b0 hS8 hT9 => ?_)
  refine RG.new .plain rfl (Does.alloc (zs := [.int .u64 0, .int .u64 0, .int .u64 0, .int .u64 0, .int .u64 0, .int .u64 0, .int .u64 0, .int .u64 0]) hS8 (zB (by kernel_rfl))) (fun w0 b1 hS1 hT0 => ?_)
  refine RG.sg rfl rfl <| RG.nil <| MX.sr <| RG.sg rfl rfl <| RG.nil <| MX.seq ?_
  refine MX.sr <| RG.mv rfl rfl <| RG.nil <| MX.block <| MX.loop1 <| MX.sr ?_
  refine RG.vv (FV.lssN (i := 0) (j := 8) rfl rfl) rfl <| RG.nil <| MX.seq <| MX.cond_t rfl <| MX.skip <| MX.seq ?_
  refine MX.block <| MX.sr <| RG.mv rfl rfl <| RG.sg rfl rfl <| RG.nil <| MX.drawT 13 tb212_5 (by kernel_rfl) (by kernel_rfl) (by kernel_rfl) (fun kt0 kp0 => ?_)
  refine RD.vw 0 1 kt0 rfl kp0 (fun _ => FV.move rfl) rfl <| RD.vw 1 3 kt0 rfl kp0 (fun _ => FV.move rfl) rfl <| RD.vw 2 7 kt0 rfl kp0 (fun _ => FV.indexArr (m := 1) (k := 0) (len := 8) (by kernel_rfl) rfl rfl rfl (by omega)) rfl <| RD.vx 3 15 32512 kt0 rfl kp0 (FV.load1 (by kernel_rfl) rfl ((hS1.memA (.tl (.tl .hd))) 0 _ rfl)) rfl <| RD.vw 4 31 kt0 rfl kp0 (fun _ => FV.move rfl) rfl <| RD.vw 5 63 kt0 rfl kp0 (fun _ => FV.indexArr (m := 1) (k := 0) (len := 8) (by kernel_rfl) rfl rfl rfl (by omega)) rfl ?_
  refine RD.vx 6 127 32512 kt0 rfl kp0 (FV.load1 (by kernel_rfl) rfl ((hS1.memA (.tl .hd)) 0 _ rfl)) rfl <| RD.vw 7 255 kt0 rfl kp0 (fun _ => FV.move rfl) rfl ?_
  obtain ⟨z0, hz18, h⟩ := bind_in h
  refine RD.vw 8 511 kt0 rfl kp0 (fun _ => FV.sub64 (a := a0.1) (b := a1.1) (c := (0 : UInt64)) Tryz.func197 rfl (by kernel_rfl) (by kernel_rfl) (by kernel_rfl) rfl rfl rfl hz18) rfl <| RD.vw 9 1023 kt0 rfl kp0 (fun _ => FV.move rfl) rfl <| RD.vw 10 2047 kt0 rfl kp0 (fun _ => FV.extract rfl rfl) rfl <| RD.vw 11 4095 kt0 rfl kp0 (fun _ => FV.extract rfl rfl) rfl <| RD.vw 12 8191 kt0 rfl kp0 (fun _ => FV.indexArr (m := 1) (k := 0) (len := 8) (by kernel_rfl) rfl rfl rfl (by omega)) rfl <| RD.nw 13 16383 kt0 rfl rfl .plain (Acts.store (j := 0) (old := (cs_A34 a0)) (news := [.int .u64 (z0.1.toNat : Int)]) (new' := [.int .u64 (z0.1.toNat : Int), .int .u64 (a0.2.1.toNat : Int), .int .u64 (a0.2.2.1.toNat : Int), .int .u64 (a0.2.2.2.1.toNat : Int), .int .u64 (a0.2.2.2.2.1.toNat : Int), .int .u64 (a0.2.2.2.2.2.1.toNat : Int), .int .u64 (a0.2.2.2.2.2.2.1.toNat : Int), .int .u64 (a0.2.2.2.2.2.2.2.toNat : Int)]) hS1 (.tl (.tl .hd)) rfl rfl rfl rfl rfl rfl (ones_cons rfl ones_nil) rfl) (fun w1 hS2 hT1 => ?_)
  refine RD.one (i := 14) (readyD_ok kt0 (by kernel_rfl)) (RO.val (m' := 32767) (stepC_ok kt0 (by kernel_rfl)) rfl .plain rfl (FV.assign rfl) ?_)
  refine RD.done (doneD_ok kt0 (by kernel_rfl)) <| MX.inBlock <| MX.region <| RG.vv (FV.add (i := 0) (j := 1) (r := 1) rfl rfl (by decide)) rfl <| RG.mv rfl rfl <| RG.nil ?_
  refine MX.again1 <| MX.sr <| RG.vv (FV.lssN (i := 1) (j := 8) rfl rfl) rfl <| RG.nil <| MX.seq <| MX.cond_t rfl ?_
  refine MX.skip <| MX.seq <| MX.block <| MX.sr <| RG.mv rfl rfl <| RG.sg rfl rfl ?_
  refine RG.nil <| MX.drawT 13 tb212_5 (by kernel_rfl) (by kernel_rfl) (by kernel_rfl) (fun kt1 kp1 => ?_)
  refine RD.vw 0 1 kt1 rfl kp1 (fun _ => FV.move rfl) rfl <| RD.vw 1 3 kt1 rfl kp1 (fun _ => FV.move rfl) rfl <| RD.vw 2 7 kt1 rfl kp1 (fun _ => FV.indexArr (m := 1) (k := 1) (len := 8) (by kernel_rfl) rfl rfl rfl (by omega)) rfl <| RD.vx 3 15 32512 kt1 rfl kp1 (FV.load1 (by kernel_rfl) rfl ((hS2.memA (.tl (.tl .hd))) 1 _ rfl)) rfl <| RD.vw 4 31 kt1 rfl kp1 (fun _ => FV.move rfl) rfl <| RD.vw 5 63 kt1 rfl kp1 (fun _ => FV.indexArr (m := 1) (k := 1) (len := 8) (by kernel_rfl) rfl rfl rfl (by omega)) rfl ?_
  refine RD.vx 6 127 32512 kt1 rfl kp1 (FV.load1 (by kernel_rfl) rfl ((hS2.memA (.tl .hd)) 1 _ rfl)) rfl <| RD.vw 7 255 kt1 rfl kp1 (fun _ => FV.move rfl) rfl ?_
  obtain ⟨z1, hz24, h⟩ := bind_in h
  refine RD.vw 8 511 kt1 rfl kp1 (fun _ => FV.sub64 (a := a0.2.1) (b := a1.2.1) (c := z0.2) Tryz.func197 rfl (by kernel_rfl) (by kernel_rfl) (by kernel_rfl) rfl rfl rfl hz24) rfl <| RD.vw 9 1023 kt1 rfl kp1 (fun _ => FV.move rfl) rfl <| RD.vw 10 2047 kt1 rfl kp1 (fun _ => FV.extract rfl rfl) rfl <| RD.vw 11 4095 kt1 rfl kp1 (fun _ => FV.extract rfl rfl) rfl <| RD.vw 12 8191 kt1 rfl kp1 (fun _ => FV.indexArr (m := 1) (k := 1) (len := 8) (by kernel_rfl) rfl rfl rfl (by omega)) rfl <| RD.nw 13 16383 kt1 rfl rfl .plain (Acts.store (j := 1) (old := [.int .u64 (z0.1.toNat : Int), .int .u64 (a0.2.1.toNat : Int), .int .u64 (a0.2.2.1.toNat : Int), .int .u64 (a0.2.2.2.1.toNat : Int), .int .u64 (a0.2.2.2.2.1.toNat : Int), .int .u64 (a0.2.2.2.2.2.1.toNat : Int), .int .u64 (a0.2.2.2.2.2.2.1.toNat : Int), .int .u64 (a0.2.2.2.2.2.2.2.toNat : Int)]) (news := [.int .u64 (z1.1.toNat : Int)]) (new' := [.int .u64 (z0.1.toNat : Int), .int .u64 (z1.1.toNat : Int), .int .u64 (a0.2.2.1.toNat : Int), .int .u64 (a0.2.2.2.1.toNat : Int), .int .u64 (a0.2.2.2.2.1.toNat : Int), .int .u64 (a0.2.2.2.2.2.1.toNat : Int), .int .u64 (a0.2.2.2.2.2.2.1.toNat : Int), .int .u64 (a0.2.2.2.2.2.2.2.toNat : Int)]) hS2 (.tl (.tl .hd)) rfl rfl rfl rfl rfl rfl (ones_cons rfl ones_nil) rfl) (fun w3 hS4 hT2 => ?_)
  refine RD.one (i := 14) (readyD_ok kt1 (by kernel_rfl)) (RO.val (m' := 32767) (stepC_ok kt1 (by kernel_rfl)) rfl .plain rfl (FV.assign rfl) ?_)
  refine RD.done (doneD_ok kt1 (by kernel_rfl)) <| MX.inBlock <| MX.region <| RG.vv (FV.add (i := 1) (j := 1) (r := 2) rfl rfl (by decide)) rfl <| RG.mv rfl rfl <| RG.nil ?_
  refine MX.again1 <| MX.sr <| RG.vv (FV.lssN (i := 2) (j := 8) rfl rfl) rfl <| RG.nil <| MX.seq <| MX.cond_t rfl ?_
  refine MX.skip <| MX.seq <| MX.block <| MX.sr <| RG.mv rfl rfl <| RG.sg rfl rfl ?_
  refine RG.nil <| MX.drawT 13 tb212_5 (by kernel_rfl) (by kernel_rfl) (by kernel_rfl) (fun kt2 kp2 => ?_)
  refine RD.vw 0 1 kt2 rfl kp2 (fun _ => FV.move rfl) rfl <| RD.vw 1 3 kt2 rfl kp2 (fun _ => FV.move rfl) rfl <| RD.vw 2 7 kt2 rfl kp2 (fun _ => FV.indexArr (m := 1) (k := 2) (len := 8) (by kernel_rfl) rfl rfl rfl (by omega)) rfl <| RD.vx 3 15 32512 kt2 rfl kp2 (FV.load1 (by kernel_rfl) rfl ((hS4.memA (.tl (.tl .hd))) 2 _ rfl)) rfl <| RD.vw 4 31 kt2 rfl kp2 (fun _ => FV.move rfl) rfl <| RD.vw 5 63 kt2 rfl kp2 (fun _ => FV.indexArr (m := 1) (k := 2) (len := 8) (by kernel_rfl) rfl rfl rfl (by omega)) rfl ?_
  refine RD.vx 6 127 32512 kt2 rfl kp2 (FV.load1 (by kernel_rfl) rfl ((hS4.memA (.tl .hd)) 2 _ rfl)) rfl <| RD.vw 7 255 kt2 rfl kp2 (fun _ => FV.move rfl) rfl ?_
  obtain ⟨z2, hz30, h⟩ := bind_in h
  refine RD.vw 8 511 kt2 rfl kp2 (fun _ => FV.sub64 (a := a0.2.2.1) (b := a1.2.2.1) (c := z1.2) Tryz.func197 rfl (by kernel_rfl) (by kernel_rfl) (by kernel_rfl) rfl rfl rfl hz30) rfl <| RD.vw 9 1023 kt2 rfl kp2 (fun _ => FV.move rfl) rfl <| RD.vw 10 2047 kt2 rfl kp2 (fun _ => FV.extract rfl rfl) rfl <| RD.vw 11 4095 kt2 rfl kp2 (fun _ => FV.extract rfl rfl) rfl <| RD.vw 12 8191 kt2 rfl kp2 (fun _ => FV.indexArr (m := 1) (k := 2) (len := 8) (by kernel_rfl) rfl rfl rfl (by omega)) rfl <| RD.nw 13 16383 kt2 rfl rfl .plain (Acts.store (j := 2) (old := [.int .u64 (z0.1.toNat : Int), .int .u64 (z1.1.toNat : Int), .int .u64 (a0.2.2.1.toNat : Int), .int .u64 (a0.2.2.2.1.toNat : Int), .int .u64 (a0.2.2.2.2.1.toNat : Int), .int .u64 (a0.2.2.2.2.2.1.toNat : Int), .int .u64 (a0.2.2.2.2.2.2.1.toNat : Int), .int .u64 (a0.2.2.2.2.2.2.2.toNat : Int)]) (news := [.int .u64 (z2.1.toNat : Int)]) (new' := [.int .u64 (z0.1.toNat : Int), .int .u64 (z1.1.toNat : Int), .int .u64 (z2.1.toNat : Int), .int .u64 (a0.2.2.2.1.toNat : Int), .int .u64 (a0.2.2.2.2.1.toNat : Int), .int .u64 (a0.2.2.2.2.2.1.toNat : Int), .int .u64 (a0.2.2.2.2.2.2.1.toNat : Int), .int .u64 (a0.2.2.2.2.2.2.2.toNat : Int)]) hS4 (.tl (.tl .hd)) rfl rfl rfl rfl rfl rfl (ones_cons rfl ones_nil) rfl) (fun w4 hS5 hT3 => ?_)
  refine RD.one (i := 14) (readyD_ok kt2 (by kernel_rfl)) (RO.val (m' := 32767) (stepC_ok kt2 (by kernel_rfl)) rfl .plain rfl (FV.assign rfl) ?_)
  refine RD.done (doneD_ok kt2 (by kernel_rfl)) <| MX.inBlock <| MX.region <| RG.vv (FV.add (i := 2) (j := 1) (r := 3) rfl rfl (by decide)) rfl <| RG.mv rfl rfl <| RG.nil ?_
  refine MX.again1 <| MX.sr <| RG.vv (FV.lssN (i := 3) (j := 8) rfl rfl) rfl <| RG.nil <| MX.seq <| MX.cond_t rfl ?_
  refine MX.skip <| MX.seq <| MX.block <| MX.sr <| RG.mv rfl rfl <| RG.sg rfl rfl ?_
  refine RG.nil <| MX.drawT 13 tb212_5 (by kernel_rfl) (by kernel_rfl) (by kernel_rfl) (fun kt3 kp3 => ?_)
  refine RD.vw 0 1 kt3 rfl kp3 (fun _ => FV.move rfl) rfl <| RD.vw 1 3 kt3 rfl kp3 (fun _ => FV.move rfl) rfl <| RD.vw 2 7 kt3 rfl kp3 (fun _ => FV.indexArr (m := 1) (k := 3) (len := 8) (by kernel_rfl) rfl rfl rfl (by omega)) rfl <| RD.vx 3 15 32512 kt3 rfl kp3 (FV.load1 (by kernel_rfl) rfl ((hS5.memA (.tl (.tl .hd))) 3 _ rfl)) rfl <| RD.vw 4 31 kt3 rfl kp3 (fun _ => FV.move rfl) rfl <| RD.vw 5 63 kt3 rfl kp3 (fun _ => FV.indexArr (m := 1) (k := 3) (len := 8) (by kernel_rfl) rfl rfl rfl (by omega)) rfl ?_
  refine RD.vx 6 127 32512 kt3 rfl kp3 (FV.load1 (by kernel_rfl) rfl ((hS5.memA (.tl .hd)) 3 _ rfl)) rfl <| RD.vw 7 255 kt3 rfl kp3 (fun _ => FV.move rfl) rfl ?_
  obtain ⟨z3, hz36, h⟩ := bind_in h
  refine RD.vw 8 511 kt3 rfl kp3 (fun _ => FV.sub64 (a := a0.2.2.2.1) (b := a1.2.2.2.1) (c := z2.2) Tryz.func197 rfl (by kernel_rfl) (by kernel_rfl) (by kernel_rfl) rfl rfl rfl hz36) rfl <| RD.vw 9 1023 kt3 rfl kp3 (fun _ => FV.move rfl) rfl <| RD.vw 10 2047 kt3 rfl kp3 (fun _ => FV.extract rfl rfl) rfl <| RD.vw 11 4095 kt3 rfl kp3 (fun _ => FV.extract rfl rfl) rfl <| RD.vw 12 8191 kt3 rfl kp3 (fun _ => FV.indexArr (m := 1) (k := 3) (len := 8) (by kernel_rfl) rfl rfl rfl (by omega)) rfl <| RD.nw 13 16383 kt3 rfl rfl .plain (Acts.store (j := 3) (old := [.int .u64 (z0.1.toNat : Int), .int .u64 (z1.1.toNat : Int), .int .u64 (z2.1.toNat : Int), .int .u64 (a0.2.2.2.1.toNat : Int), .int .u64 (a0.2.2.2.2.1.toNat : Int), .int .u64 (a0.2.2.2.2.2.1.toNat : Int), .int .u64 (a0.2.2.2.2.2.2.1.toNat : Int), .int .u64 (a0.2.2.2.2.2.2.2.toNat : Int)]) (news := [.int .u64 (z3.1.toNat : Int)]) (new' := [.int .u64 (z0.1.toNat : Int), .int .u64 (z1.1.toNat : Int), .int .u64 (z2.1.toNat : Int), .int .u64 (z3.1.toNat : Int), .int .u64 (a0.2.2.2.2.1.toNat : Int), .int .u64 (a0.2.2.2.2.2.1.toNat : Int), .int .u64 (a0.2.2.2.2.2.2.1.toNat : Int), .int .u64 (a0.2.2.2.2.2.2.2.toNat : Int)]) hS5 (.tl (.tl .hd)) rfl rfl rfl rfl rfl rfl (ones_cons rfl ones_nil) rfl) (fun w5 hS6 hT5 => ?_)
  refine RD.one (i := 14) (readyD_ok kt3 (by kernel_rfl)) (RO.val (m' := 32767) (stepC_ok kt3 (by kernel_rfl)) rfl .plain rfl (FV.assign rfl) ?_)
  refine RD.done (doneD_ok kt3 (by kernel_rfl)) <| MX.inBlock <| MX.region <| RG.vv (FV.add (i := 3) (j := 1) (r := 4) rfl rfl (by decide)) rfl <| RG.mv rfl rfl <| RG.nil ?_
  refine MX.again1 <| MX.sr <| RG.vv (FV.lssN (i := 4) (j := 8) rfl rfl) rfl <| RG.nil <| MX.seq <| MX.cond_t rfl ?_
  refine MX.skip <| MX.seq <| MX.block <| MX.sr <| RG.mv rfl rfl <| RG.sg rfl rfl ?_
  refine RG.nil <| MX.drawT 13 tb212_5 (by kernel_rfl) (by kernel_rfl) (by kernel_rfl) (fun kt4 kp4 => ?_)
  refine RD.vw 0 1 kt4 rfl kp4 (fun _ => FV.move rfl) rfl <| RD.vw 1 3 kt4 rfl kp4 (fun _ => FV.move rfl) rfl <| RD.vw 2 7 kt4 rfl kp4 (fun _ => FV.indexArr (m := 1) (k := 4) (len := 8) (by kernel_rfl) rfl rfl rfl (by omega)) rfl <| RD.vx 3 15 32512 kt4 rfl kp4 (FV.load1 (by kernel_rfl) rfl ((hS6.memA (.tl (.tl .hd))) 4 _ rfl)) rfl <| RD.vw 4 31 kt4 rfl kp4 (fun _ => FV.move rfl) rfl <| RD.vw 5 63 kt4 rfl kp4 (fun _ => FV.indexArr (m := 1) (k := 4) (len := 8) (by kernel_rfl) rfl rfl rfl (by omega)) rfl ?_
  refine RD.vx 6 127 32512 kt4 rfl kp4 (FV.load1 (by kernel_rfl) rfl ((hS6.memA (.tl .hd)) 4 _ rfl)) rfl <| RD.vw 7 255 kt4 rfl kp4 (fun _ => FV.move rfl) rfl ?_
  obtain ⟨z4, hz42, h⟩ := bind_in h
  refine RD.vw 8 511 kt4 rfl kp4 (fun _ => FV.sub64 (a := a0.2.2.2.2.1) (b := a1.2.2.2.2.1) (c := z3.2) Tryz.func197 rfl (by kernel_rfl) (by kernel_rfl) (by kernel_rfl) rfl rfl rfl hz42) rfl <| RD.vw 9 1023 kt4 rfl kp4 (fun _ => FV.move rfl) rfl <| RD.vw 10 2047 kt4 rfl kp4 (fun _ => FV.extract rfl rfl) rfl <| RD.vw 11 4095 kt4 rfl kp4 (fun _ => FV.extract rfl rfl) rfl <| RD.vw 12 8191 kt4 rfl kp4 (fun _ => FV.indexArr (m := 1) (k := 4) (len := 8) (by kernel_rfl) rfl rfl rfl (by omega)) rfl <| RD.nw 13 16383 kt4 rfl rfl .plain (Acts.store (j := 4) (old := [.int .u64 (z0.1.toNat : Int), .int .u64 (z1.1.toNat : Int), .int .u64 (z2.1.toNat : Int), .int .u64 (z3.1.toNat : Int), .int .u64 (a0.2.2.2.2.1.toNat : Int), .int .u64 (a0.2.2.2.2.2.1.toNat : Int), .int .u64 (a0.2.2.2.2.2.2.1.toNat : Int), .int .u64 (a0.2.2.2.2.2.2.2.toNat : Int)]) (news := [.int .u64 (z4.1.toNat : Int)]) (new' := [.int .u64 (z0.1.toNat : Int), .int .u64 (z1.1.toNat : Int), .int .u64 (z2.1.toNat : Int), .int .u64 (z3.1.toNat : Int), .int .u64 (z4.1.toNat : Int), .int .u64 (a0.2.2.2.2.2.1.toNat : Int), .int .u64 (a0.2.2.2.2.2.2.1.toNat : Int), .int .u64 (a0.2.2.2.2.2.2.2.toNat : Int)]) hS6 (.tl (.tl .hd)) rfl rfl rfl rfl rfl rfl (ones_cons rfl ones_nil) rfl) (fun w6 hS7 hT6 => ?_)
  refine RD.one (i := 14) (readyD_ok kt4 (by kernel_rfl)) (RO.val (m' := 32767) (stepC_ok kt4 (by kernel_rfl)) rfl .plain rfl (FV.assign rfl) ?_)
  refine RD.done (doneD_ok kt4 (by kernel_rfl)) <| MX.inBlock <| MX.region <| RG.vv (FV.add (i := 4) (j := 1) (r := 5) rfl rfl (by decide)) rfl <| RG.mv rfl rfl <| RG.nil ?_
  refine MX.again1 <| MX.sr <| RG.vv (FV.lssN (i := 5) (j := 8) rfl rfl) rfl <| RG.nil <| MX.seq <| MX.cond_t rfl ?_
  refine MX.skip <| MX.seq <| MX.block <| MX.sr <| RG.mv rfl rfl <| RG.sg rfl rfl ?_
  refine RG.nil <| MX.drawT 13 tb212_5 (by kernel_rfl) (by kernel_rfl) (by kernel_rfl) (fun kt5 kp5 => ?_)
  refine RD.vw 0 1 kt5 rfl kp5 (fun _ => FV.move rfl) rfl <| RD.vw 1 3 kt5 rfl kp5 (fun _ => FV.move rfl) rfl <| RD.vw 2 7 kt5 rfl kp5 (fun _ => FV.indexArr (m := 1) (k := 5) (len := 8) (by kernel_rfl) rfl rfl rfl (by omega)) rfl <| RD.vx 3 15 32512 kt5 rfl kp5 (FV.load1 (by kernel_rfl) rfl ((hS7.memA (.tl (.tl .hd))) 5 _ rfl)) rfl <| RD.vw 4 31 kt5 rfl kp5 (fun _ => FV.move rfl) rfl <| RD.vw 5 63 kt5 rfl kp5 (fun _ => FV.indexArr (m := 1) (k := 5) (len := 8) (by kernel_rfl) rfl rfl rfl (by omega)) rfl ?_
  refine RD.vx 6 127 32512 kt5 rfl kp5 (FV.load1 (by kernel_rfl) rfl ((hS7.memA (.tl .hd)) 5 _ rfl)) rfl <| RD.vw 7 255 kt5 rfl kp5 (fun _ => FV.move rfl) rfl ?_
  obtain ⟨z5, hz48, h⟩ := bind_in h
  refine RD.vw 8 511 kt5 rfl kp5 (fun _ => FV.sub64 (a := a0.2.2.2.2.2.1) (b := a1.2.2.2.2.2.1) (c := z4.2) Tryz.func197 rfl (by kernel_rfl) (by kernel_rfl) (by kernel_rfl) rfl rfl rfl hz48) rfl <| RD.vw 9 1023 kt5 rfl kp5 (fun _ => FV.move rfl) rfl <| RD.vw 10 2047 kt5 rfl kp5 (fun _ => FV.extract rfl rfl) rfl <| RD.vw 11 4095 kt5 rfl kp5 (fun _ => FV.extract rfl rfl) rfl <| RD.vw 12 8191 kt5 rfl kp5 (fun _ => FV.indexArr (m := 1) (k := 5) (len := 8) (by kernel_rfl) rfl rfl rfl (by omega)) rfl <| RD.nw 13 16383 kt5 rfl rfl .plain (Acts.store (j := 5) (old := [.int .u64 (z0.1.toNat : Int), .int .u64 (z1.1.toNat : Int), .int .u64 (z2.1.toNat : Int), .int .u64 (z3.1.toNat : Int), .int .u64 (z4.1.toNat : Int), .int .u64 (a0.2.2.2.2.2.1.toNat : Int), .int .u64 (a0.2.2.2.2.2.2.1.toNat : Int), .int .u64 (a0.2.2.2.2.2.2.2.toNat : Int)]) (news := [.int .u64 (z5.1.toNat : Int)]) (new' := [.int .u64 (z0.1.toNat : Int), .int .u64 (z1.1.toNat : Int), .int .u64 (z2.1.toNat : Int), .int .u64 (z3.1.toNat : Int), .int .u64 (z4.1.toNat : Int), .int .u64 (z5.1.toNat : Int), .int .u64 (a0.2.2.2.2.2.2.1.toNat : Int), .int .u64 (a0.2.2.2.2.2.2.2.toNat : Int)]) hS7 (.tl (.tl .hd)) rfl rfl rfl rfl rfl rfl (ones_cons rfl ones_nil) rfl) (fun w8 hS9 hT7 => ?_)
  refine RD.one (i := 14) (readyD_ok kt5 (by kernel_rfl)) (RO.val (m' := 32767) (stepC_ok kt5 (by kernel_rfl)) rfl .plain rfl (FV.assign rfl) ?_)
  refine RD.done (doneD_ok kt5 (by kernel_rfl)) <| MX.inBlock <| MX.region <| RG.vv (FV.add (i := 5) (j := 1) (r := 6) rfl rfl (by decide)) rfl <| RG.mv rfl rfl <| RG.nil ?_
  refine MX.again1 <| MX.sr <| RG.vv (FV.lssN (i := 6) (j := 8) rfl rfl) rfl <| RG.nil <| MX.seq <| MX.cond_t rfl ?_
  refine MX.skip <| MX.seq <| MX.block <| MX.sr <| RG.mv rfl rfl <| RG.sg rfl rfl ?_
  refine RG.nil <| MX.drawT 13 tb212_5 (by kernel_rfl) (by kernel_rfl) (by kernel_rfl) (fun kt6 kp6 => ?_)
  refine RD.vw 0 1 kt6 rfl kp6 (fun _ => FV.move rfl) rfl <| RD.vw 1 3 kt6 rfl kp6 (fun _ => FV.move rfl) rfl <| RD.vw 2 7 kt6 rfl kp6 (fun _ => FV.indexArr (m := 1) (k := 6) (len := 8) (by kernel_rfl) rfl rfl rfl (by omega)) rfl <| RD.vx 3 15 32512 kt6 rfl kp6 (FV.load1 (by kernel_rfl) rfl ((hS9.memA (.tl (.tl .hd))) 6 _ rfl)) rfl <| RD.vw 4 31 kt6 rfl kp6 (fun _ => FV.move rfl) rfl <| RD.vw 5 63 kt6 rfl kp6 (fun _ => FV.indexArr (m := 1) (k := 6) (len := 8) (by kernel_rfl) rfl rfl rfl (by omega)) rfl ?_
  refine RD.vx 6 127 32512 kt6 rfl kp6 (FV.load1 (by kernel_rfl) rfl ((hS9.memA (.tl .hd)) 6 _ rfl)) rfl <| RD.vw 7 255 kt6 rfl kp6 (fun _ => FV.move rfl) rfl ?_
  obtain ⟨z6, hz54, h⟩ := bind_in h
  refine RD.vw 8 511 kt6 rfl kp6 (fun _ => FV.sub64 (a := a0.2.2.2.2.2.2.1) (b := a1.2.2.2.2.2.2.1) (c := z5.2) Tryz.func197 rfl (by kernel_rfl) (by kernel_rfl) (by kernel_rfl) rfl rfl rfl hz54) rfl <| RD.vw 9 1023 kt6 rfl kp6 (fun _ => FV.move rfl) rfl <| RD.vw 10 2047 kt6 rfl kp6 (fun _ => FV.extract rfl rfl) rfl <| RD.vw 11 4095 kt6 rfl kp6 (fun _ => FV.extract rfl rfl) rfl <| RD.vw 12 8191 kt6 rfl kp6 (fun _ => FV.indexArr (m := 1) (k := 6) (len := 8) (by kernel_rfl) rfl rfl rfl (by omega)) rfl <| RD.nw 13 16383 kt6 rfl rfl .plain (Acts.store (j := 6) (old := [.int .u64 (z0.1.toNat : Int), .int .u64 (z1.1.toNat : Int), .int .u64 (z2.1.toNat : Int), .int .u64 (z3.1.toNat : Int), .int .u64 (z4.1.toNat : Int), .int .u64 (z5.1.toNat : Int), .int .u64 (a0.2.2.2.2.2.2.1.toNat : Int), .int .u64 (a0.2.2.2.2.2.2.2.toNat : Int)]) (news := [.int .u64 (z6.1.toNat : Int)]) (new' := [.int .u64 (z0.1.toNat : Int), .int .u64 (z1.1.toNat : Int), .int .u64 (z2.1.toNat : Int), .int .u64 (z3.1.toNat : Int), .int .u64 (z4.1.toNat : Int), .int .u64 (z5.1.toNat : Int), .int .u64 (z6.1.toNat : Int), .int .u64 (a0.2.2.2.2.2.2.2.toNat : Int)]) hS9 (.tl (.tl .hd)) rfl rfl rfl rfl rfl rfl (ones_cons rfl ones_nil) rfl) (fun w55 hS56 hT8 => ?_)
  refine RD.one (i := 14) (readyD_ok kt6 (by kernel_rfl)) (RO.val (m' := 32767) (stepC_ok kt6 (by kernel_rfl)) rfl .plain rfl (FV.assign rfl) ?_)
  refine RD.done (doneD_ok kt6 (by kernel_rfl)) <| MX.inBlock <| MX.region <| RG.vv (FV.add (i := 6) (j := 1) (r := 7) rfl rfl (by decide)) rfl <| RG.mv rfl rfl <| RG.nil ?_
  refine MX.again1 <| MX.sr <| RG.vv (FV.lssN (i := 7) (j := 8) rfl rfl) rfl <| RG.nil <| MX.seq <| MX.cond_t rfl ?_
  refine MX.skip <| MX.seq <| MX.block <| MX.sr <| RG.mv rfl rfl <| RG.sg rfl rfl ?_
  refine RG.nil <| MX.drawT 13 tb212_5 (by kernel_rfl) (by kernel_rfl) (by kernel_rfl) (fun kt7 kp7 => ?_)
  refine RD.vw 0 1 kt7 rfl kp7 (fun _ => FV.move rfl) rfl <| RD.vw 1 3 kt7 rfl kp7 (fun _ => FV.move rfl) rfl <| RD.vw 2 7 kt7 rfl kp7 (fun _ => FV.indexArr (m := 1) (k := 7) (len := 8) (by kernel_rfl) rfl rfl rfl (by omega)) rfl <| RD.vx 3 15 32512 kt7 rfl kp7 (FV.load1 (by kernel_rfl) rfl ((hS56.memA (.tl (.tl .hd))) 7 _ rfl)) rfl <| RD.vw 4 31 kt7 rfl kp7 (fun _ => FV.move rfl) rfl <| RD.vw 5 63 kt7 rfl kp7 (fun _ => FV.indexArr (m := 1) (k := 7) (len := 8) (by kernel_rfl) rfl rfl rfl (by omega)) rfl ?_
  refine RD.vx 6 127 32512 kt7 rfl kp7 (FV.load1 (by kernel_rfl) rfl ((hS56.memA (.tl .hd)) 7 _ rfl)) rfl <| RD.vw 7 255 kt7 rfl kp7 (fun _ => FV.move rfl) rfl ?_
  obtain ⟨z7, hz60, h⟩ := bind_in h
  refine RD.vw 8 511 kt7 rfl kp7 (fun _ => FV.sub64 (a := a0.2.2.2.2.2.2.2) (b := a1.2.2.2.2.2.2.2) (c := z6.2) Tryz.func197 rfl (by kernel_rfl) (by kernel_rfl) (by kernel_rfl) rfl rfl rfl hz60) rfl <| RD.vw 9 1023 kt7 rfl kp7 (fun _ => FV.move rfl) rfl <| RD.vw 10 2047 kt7 rfl kp7 (fun _ => FV.extract rfl rfl) rfl <| RD.vw 11 4095 kt7 rfl kp7 (fun _ => FV.extract rfl rfl) rfl <| RD.vw 12 8191 kt7 rfl kp7 (fun _ => FV.indexArr (m := 1) (k := 7) (len := 8) (by kernel_rfl) rfl rfl rfl (by omega)) rfl <| RD.nw 13 16383 kt7 rfl rfl .plain (Acts.store (j := 7) (old := [.int .u64 (z0.1.toNat : Int), .int .u64 (z1.1.toNat : Int), .int .u64 (z2.1.toNat : Int), .int .u64 (z3.1.toNat : Int), .int .u64 (z4.1.toNat : Int), .int .u64 (z5.1.toNat : Int), .int .u64 (z6.1.toNat : Int), .int .u64 (a0.2.2.2.2.2.2.2.toNat : Int)]) (news := [.int .u64 (z7.1.toNat : Int)]) (new' := [.int .u64 (z0.1.toNat : Int), .int .u64 (z1.1.toNat : Int), .int .u64 (z2.1.toNat : Int), .int .u64 (z3.1.toNat : Int), .int .u64 (z4.1.toNat : Int), .int .u64 (z5.1.toNat : Int), .int .u64 (z6.1.toNat : Int), .int .u64 (z7.1.toNat : Int)]) hS56 (.tl (.tl .hd)) rfl rfl rfl rfl rfl rfl (ones_cons rfl ones_nil) rfl) (fun w61 hS62 hT63 => ?_)
  refine RD.one (i := 14) (readyD_ok kt7 (by kernel_rfl)) (RO.val (m' := 32767) (stepC_ok kt7 (by kernel_rfl)) rfl .plain rfl (FV.assign rfl) ?_)
  refine RD.done (doneD_ok kt7 (by kernel_rfl)) <| MX.inBlock <| MX.region <| RG.vv (FV.add (i := 7) (j := 1) (r := 8) rfl rfl (by decide)) rfl <| RG.mv rfl rfl <| RG.nil ?_
  refine MX.again1 <| MX.sr <| RG.vv (FV.lssN (i := 8) (j := 8) rfl rfl) rfl <| RG.nil <| MX.seq <| MX.cond_f rfl ?_
  refine MX.exit rfl <| MX.sr <| RG.vv (FV.loadN (by kernel_rfl) rfl (hS62.memA (.tl (.tl .hd)))) rfl <| RG.mv rfl rfl <| RG.now .plain (Acts.storeAll (news := [.int .u64 (z0.1.toNat : Int), .int .u64 (z1.1.toNat : Int), .int .u64 (z2.1.toNat : Int), .int .u64 (z3.1.toNat : Int), .int .u64 (z4.1.toNat : Int), .int .u64 (z5.1.toNat : Int), .int .u64 (z6.1.toNat : Int), .int .u64 (z7.1.toNat : Int)]) hS62 .hd rfl rfl rfl rfl rfl rfl (onesB rfl)) (fun w64 hS65 hT66 => ?_)
  refine RG.sg rfl rfl <| RG.nil <| MX.ret rfl <| RT.leave hb0 Tryz.func212 rfl (.cons (.many (cs := [.int .u64 (z0.1.toNat : Int), .int .u64 (z1.1.toNat : Int), .int .u64 (z2.1.toNat : Int), .int .u64 (z3.1.toNat : Int), .int .u64 (z4.1.toNat : Int), .int .u64 (z5.1.toNat : Int), .int .u64 (z6.1.toNat : Int), .int .u64 (z7.1.toNat : Int)]) (by kernel_rfl) rfl (hS65.memA .hd)) (.cons (.tmp rfl) .nil)) rfl ?_
  obtain rfl := Option.some.inj h
  exact ⟨hS65.ag, fun w9 hw9 => rfl⟩
end Go.Proofs.YtmhgoecnjleagaaGreatDoor
