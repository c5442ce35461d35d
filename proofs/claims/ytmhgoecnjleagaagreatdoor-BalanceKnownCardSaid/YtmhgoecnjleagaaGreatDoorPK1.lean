/- Functions of the program, and what they give: part 1. -/
import Derived.Test.YtmhgoecnjleagaaGreatDoorProg
import Derived.Test.YtmhgoecnjleagaaGreatDoorPMk
namespace Go.Proofs.YtmhgoecnjleagaaGreatDoor
open Go Go.RowKit

structure Tbounds where
  flow : Int
  fhigh : Int
  deriving DecidableEq
instance : Rep Tbounds := Rep.via (β := Int × Int) fun x => (x.flow, x.fhigh)
structure Tbroken where
  fErrno : Int
  deriving DecidableEq
instance : Rep Tbroken := Rep.via (β := Int) fun x => x.fErrno
def balance_need_p (_n : Nat) (a0 : Int) : Option (Except Tbroken Unit) :=
  (if a0 = 0 then some (.ok ()) else some (.error (⟨a0⟩ : Tbroken)))
set_option maxRecDepth 4000 in
set_option maxHeartbeats 4000000 in
theorem balance_need_c (n : Nat) (L : List Nat) (w : World) (_hL : ∀ b ∈ L, b < w.heap.size) (a0 : Int)  {r : Except Tbroken Unit} (h : balance_need_p n a0 = some r) :
    Calls Tryz.prog 100 #[.int .i64 a0] w (PGives w (fun (y : Unit) _ u => u = .tuple #[]) (fun e => .iface 140 (.agg #[.int .i64 e.fErrno])) r) := by
  unfold balance_need_p at h
  have hS0 := St.start w
  refine MX.startP Tryz.func100 rfl rfl rfl (fun _ cs0 hb0 hp0 => ?_)
  refine MX.sr ?_
  refine RG.mv rfl rfl ?_
  refine RG.vv (FV.neq (i := a0) (j := 0) rfl rfl) rfl ?_
  refine RG.nil ?_
  refine MX.ifn rfl h (fun c1 h => ?_) (fun c1 h => ?_)
  ·skip
   refine MX.skip ?_
   refine MX.fin rfl ?_
   refine RT.leave hb0 Tryz.func100 rfl .nil rfl ?_
   obtain rfl := Option.some.inj h
   exact ⟨hS0.ag, fun w9 hw9 => okOf_in rfl⟩
  refine MX.region ?_
  refine RG.mv rfl rfl ?_
  refine RG.vv (FV.buildV (vs := [.int .i64 a0]) (u := .agg #[.int .i64 a0]) (evs_cons rfl evs_nil) (fun w9 => by kernel_rfl)) rfl ?_
  refine RG.vv (FV.makeInterface (by kernel_rfl) rfl) rfl ?_
  refine RG.panic .plain rfl ?_
  obtain rfl := Option.some.inj h
  exact PN.leave hp0 Tryz.func100 ⟨hS0.ag, rfl⟩
theorem body100 : bodyB Tryz.prog 100 = true := by kernel_rfl
def balance_fail_p (n : Nat) (a0 : Bool) (a1 : Int) : Option (Except Tbroken Unit) :=
  (if a0 = true then (balance_need_p n a1).bind fun y2 => exc y2 (fun y4 => some (.ok ())) (fun e3 => some (.error e3)) else some (.ok ()))
set_option maxRecDepth 4000 in
set_option maxHeartbeats 4000000 in
theorem balance_fail_c (n : Nat) (L : List Nat) (w : World) (hL : ∀ b ∈ L, b < w.heap.size) (a0 : Bool) (a1 : Int)  {r : Except Tbroken Unit} (h : balance_fail_p n a0 a1 = some r) :
    Calls Tryz.prog 75 #[.bool a0, .int .i64 a1] w (PGives w (fun (y : Unit) _ u => u = .tuple #[]) (fun e => .iface 140 (.agg #[.int .i64 e.fErrno])) r) := by
  unfold balance_fail_p at h
  have hS0 := St.start w
  refine MX.startP Tryz.func75 rfl rfl rfl (fun _ cs0 hb0 hp0 => ?_)
  refine MX.sr ?_
  refine RG.mv rfl rfl ?_
  refine RG.nil ?_
  refine MX.ifb rfl h (fun c1 h => ?_) (fun c1 h => ?_)
  ·skip
   refine MX.region ?_
   refine RG.mv rfl rfl ?_
   obtain ⟨y2, hy2, h⟩ := bind_in h
   rcases y2 with e3 | y4
   ·skip
    have h := exc_e h
    try dsimp only at h
    refine RG.callE (fst := []) (cap := []) .plain body100 rfl (evs_cons rfl evs_nil) (fun w9 hw9 => balance_need_c n _ w9 (hS0.hL0 hL hw9) a1 hy2) (fun w5 hag6 => ?_)
    obtain ⟨hS7, hT8⟩ := hS0.agr hag6
    obtain rfl := Option.some.inj h
    exact PN.leave hp0 Tryz.func75 ⟨hS7.ag, rfl⟩
   have h := exc_o h
   try dsimp only at h
   refine RG.cq (.tuple #[]) body100 rfl (evs_cons rfl evs_nil) (fun w9 hw9 => Calls.okp (balance_need_c n _ w9 (hS0.hL0 hL hw9) a1 hy2)) rfl ?_
   refine RG.nil ?_
   refine MX.fin rfl ?_
   refine RT.leave hb0 Tryz.func75 rfl .nil rfl ?_
   obtain rfl := Option.some.inj h
   exact ⟨hS0.ag, fun w9 hw9 => okOf_in rfl⟩
  refine MX.skip ?_
  refine MX.fin rfl ?_
  refine RT.leave hb0 Tryz.func75 rfl .nil rfl ?_
  obtain rfl := Option.some.inj h
  exact ⟨hS0.ag, fun w9 hw9 => okOf_in rfl⟩
def slices_Index_bool_bool_l1 (_n : Nat) (a0 : List Bool) (a1 : Bool) (J26 : Nat → Option (Int ⊕ Unit)) : Nat → Option (Int ⊕ Unit)
  | i18 => (if i18 < a0.length then (a0[i18]?).bind fun x29 => (if (a1 == x29) = true then some (.inl ((i18 : Nat) : Int)) else J26 (i18 + 1)) else some (.inr ()))
def slices_Index_bool_bool_p (n : Nat) (a0 : List Bool) (a1 : Bool) : Option Int :=
  thn (loopF (slices_Index_bool_bool_l1 n a0 a1) n 0) (fun _ => some (-1 : Int))
set_option maxRecDepth 4000 in
set_option maxHeartbeats 4000000 in
theorem slices_Index_bool_bool_c (n : Nat) (L : List Nat) (w : World) (_hL : ∀ b ∈ L, b < w.heap.size) (a0 : List Bool) {v0_0 : Value} (h0_0 : Rep.R w L [v0_0] a0) (a1 : Bool)  {r : Int} (h : slices_Index_bool_bool_p n a0 a1 = some r) :
    Calls Tryz.prog 201 #[v0_0, .bool a1] w (Gives w fun _ u => u = .int .i64 r) := by
  unfold slices_Index_bool_bool_p at h
  have hS0 := St.start w
  refine MX.start Tryz.func201 rfl rfl rfl (fun _ cs0 hb0 => ?_)
  refine MX.sr ?_
  refine RG.sg rfl rfl ?_
  refine RG.nil ?_
  refine MX.seq ?_
  refine MX.sr ?_
  refine RG.mv rfl rfl ?_
  have hl1 : a0.length ≤ 281474976710656 := Rep.lenle h0_0
  refine RG.vv (FV.len (xs := a0) Tryz.underlying169 rfl h0_0) rfl ?_
  refine RG.mv rfl rfl ?_
  refine RG.nil ?_
  refine MX.block ?_
  obtain ⟨o24, ho23, hh25⟩ := thn_in h
  refine MX.loop (α := Nat) (fun i18 => [(0, v0_0), (1, .bool a1), (7, .int .i64 ((a0.length : Nat) : Int)), (8, .int .i64 ((i18 : Nat) : Int))]) (fun i18 wx18 => St w wx18 [] ∧ Tr w [] wx18 []) (fun i18 => i18) 0 ho23 ⟨rfl, rfl, rfl, rfl, trivial⟩ ⟨hS0, Tr.refl _ _⟩ ?_
  rintro J26 i18 wx18 hJ27 ⟨hS19, hT20⟩ h
  unfold slices_Index_bool_bool_l1 at h
  try dsimp only at h
  refine MX.sr ?_
  refine RG.vv (FV.lssN (i := i18) (j := a0.length) rfl rfl) rfl ?_
  refine RG.nil ?_
  refine MX.seq ?_
  refine MX.ifd rfl h (fun c28 h => ?_) (fun c28 h => ?_)
  ·skip
   refine MX.skip ?_
   refine MX.seq ?_
   refine MX.block ?_
   refine MX.sr ?_
   refine RG.mv rfl rfl ?_
   refine RG.sg rfl rfl ?_
   refine RG.nil ?_
   refine MX.sr ?_
   refine RG.mv rfl rfl ?_
   refine RG.mv rfl rfl ?_
   refine RG.mv rfl rfl ?_
   obtain ⟨x29, hx29, h⟩ := bind_in h
   have hm37 := Rep.mv h0_0 hT20
   obtain ⟨A30, c31, he32, hk33, cs34, hr35, hm36⟩ := Rep.nth hm37 hx29
   have he38 : cs34 = [.bool x29] := hr35; subst he38
   refine RG.vv (FV.idxAddr (m := 1) (i := i18) (by kernel_rfl) rfl he32 rfl rfl hk33) rfl ?_
   refine RG.vv (FV.load1 (by kernel_rfl) rfl (hm36 0 _ rfl)) rfl ?_
   refine RG.vv (FV.eqlB (a := a1) (b := x29) Tryz.underlying4 rfl rfl) rfl ?_
   refine RG.nil ?_
   refine MX.ifb rfl h (fun c39 h => ?_) (fun c39 h => ?_)
   ·skip
    refine MX.sr ?_
    refine RG.mv rfl rfl ?_
    refine RG.sg rfl rfl ?_
    refine RG.nil ?_
    have h := thn_inl h hh25
    refine MX.ret rfl ?_
    refine RT.leave hb0 Tryz.func201 rfl (.cons (.tmp rfl) .nil) rfl ?_
    obtain rfl := Option.some.inj h
    exact ⟨hS19.ag, fun w9 hw9 => rfl⟩
   refine MX.skip ?_
   refine MX.inBlock ?_
   refine MX.region ?_
   refine RG.vv (FV.addN (i := i18) (j := 1) rfl rfl (by omega)) rfl ?_
   refine RG.mv rfl rfl ?_
   refine RG.nil ?_
   exact hJ27 (i18 + 1) _ _ ⟨rfl, rfl, rfl, rfl, trivial⟩ ⟨hS19, hT20⟩ h
  refine MX.exit rfl ?_
  have h := thn_inr h hh25
  try dsimp only at h
  refine MX.sr ?_
  refine RG.sg rfl rfl ?_
  refine RG.nil ?_
  refine MX.ret rfl ?_
  refine RT.leave hb0 Tryz.func201 rfl (.cons (.tmp rfl) .nil) rfl ?_
  obtain rfl := Option.some.inj h
  exact ⟨hS19.ag, fun w9 hw9 => rfl⟩
theorem body201 : bodyB Tryz.prog 201 = true := by kernel_rfl
def slices_Contains_bool_bool_p (n : Nat) (a0 : List Bool) (a1 : Bool) : Option Bool :=
  (slices_Index_bool_bool_p n a0 a1).bind fun y1 => some (decide (0 ≤ y1))
set_option maxRecDepth 4000 in
set_option maxHeartbeats 4000000 in
theorem slices_Contains_bool_bool_c (n : Nat) (L : List Nat) (w : World) (hL : ∀ b ∈ L, b < w.heap.size) (a0 : List Bool) {v0_0 : Value} (h0_0 : Rep.R w L [v0_0] a0) (a1 : Bool)  {r : Bool} (h : slices_Contains_bool_bool_p n a0 a1 = some r) :
    Calls Tryz.prog 178 #[v0_0, .bool a1] w (Gives w fun _ u => u = .bool r) := by
  unfold slices_Contains_bool_bool_p at h
  have hS0 := St.start w
  refine MX.start Tryz.func178 rfl rfl rfl (fun _ cs0 hb0 => ?_)
  refine MX.sr ?_
  refine RG.sg rfl rfl ?_
  refine RG.nil ?_
  refine MX.sr ?_
  refine RG.mv rfl rfl ?_
  refine RG.mv rfl rfl ?_
  obtain ⟨y1, hy1, h⟩ := bind_in h
  refine RG.cq (.int .i64 y1) body201 rfl (evs_cons rfl (evs_cons rfl evs_nil)) (fun w9 hw9 => slices_Index_bool_bool_c n _ w9 (hS0.hL0 hL hw9) a0 (Rep.keep0 (Rep.dropS hS0 h0_0) hw9) a1 hy1) rfl ?_
  refine RG.vv (FV.geq (i := y1) (j := 0) rfl rfl) rfl ?_
  refine RG.sg rfl rfl ?_
  refine RG.nil ?_
  refine MX.ret rfl ?_
  refine RT.leave hb0 Tryz.func178 rfl (.cons (.tmp rfl) .nil) rfl ?_
  obtain rfl := Option.some.inj h
  exact ⟨hS0.ag, fun w9 hw9 => rfl⟩
theorem body178 : bodyB Tryz.prog 178 = true := by kernel_rfl
def units_every_p (n : Nat) (a0 : List Bool) : Option Bool :=
  (slices_Contains_bool_bool_p n a0 false).bind fun y1 => some (!y1)
set_option maxRecDepth 4000 in
set_option maxHeartbeats 4000000 in
theorem units_every_c (n : Nat) (L : List Nat) (w : World) (hL : ∀ b ∈ L, b < w.heap.size) (a0 : List Bool) {v0_0 : Value} (h0_0 : Rep.R w L [v0_0] a0)  {r : Bool} (h : units_every_p n a0 = some r) :
    Calls Tryz.prog 141 #[v0_0] w (Gives w fun _ u => u = .bool r) := by
  unfold units_every_p at h
  have hS0 := St.start w
  refine MX.start Tryz.func141 rfl rfl rfl (fun _ cs0 hb0 => ?_)
  refine MX.sr ?_
  refine RG.sg rfl rfl ?_
  refine RG.nil ?_
  refine MX.sr ?_
  refine RG.mv rfl rfl ?_
  obtain ⟨y1, hy1, h⟩ := bind_in h
  refine RG.cq (.bool y1) body178 rfl (evs_cons rfl (evs_cons rfl evs_nil)) (fun w9 hw9 => slices_Contains_bool_bool_c n _ w9 (hS0.hL0 hL hw9) a0 (Rep.keep0 (Rep.dropS hS0 h0_0) hw9) false hy1) rfl ?_
  refine RG.vv (FV.not rfl) rfl ?_
  refine RG.sg rfl rfl ?_
  refine RG.nil ?_
  refine MX.ret rfl ?_
  refine RT.leave hb0 Tryz.func141 rfl (.cons (.tmp rfl) .nil) rfl ?_
  obtain rfl := Option.some.inj h
  exact ⟨hS0.ag, fun w9 hw9 => rfl⟩
def strings_trimLeftByte_l1 (_n : Nat) (a1 : UInt8) (J53 : ByteArray → Option ByteArray) : ByteArray → Option ByteArray
  | s45 => (if 0 < s45.size then (s45.data[0]?).bind fun z56 => (if z56.toNat = a1.toNat then (scut s45 1 (s45.size : Int)).bind fun s58 => J53 s58 else some s45) else some s45)
def strings_trimLeftByte_p (n : Nat) (a0 : ByteArray) (a1 : UInt8) : Option ByteArray :=
  jn (fun s31 => some s31) (fun J35 => Option.bind (loopF (strings_trimLeftByte_l1 n a1) n a0) (J35))
set_option maxRecDepth 4000 in
set_option maxHeartbeats 4000000 in
theorem strings_trimLeftByte_c (n : Nat) (L : List Nat) (w : World) (_hL : ∀ b ∈ L, b < w.heap.size) (a0 : ByteArray) (a1 : UInt8)  {r : ByteArray} (h : strings_trimLeftByte_p n a0 a1 = some r) :
    Calls Tryz.prog 202 #[.string a0, .int .u8 (a1.toNat : Int)] w (Gives w fun _ u => u = .string r) := by
  unfold strings_trimLeftByte_p at h
  have hS0 := St.start w
  refine MX.start Tryz.func202 rfl rfl rfl (fun _ cs0 hb0 => ?_)
  refine MX.sr ?_
  refine RG.sg rfl rfl ?_
  refine RG.nil ?_
  refine MX.seq ?_
  refine MX.block ?_
  refine MX.joinx (α := ByteArray) (fun s31 => [(0, .string s31)]) (fun s31 wx31 => St w wx31 [] ∧ Tr w [] wx31 []) (fun s31 => s31) (id := 0) rfl h ?_ ?_
  ·skip
   rintro s31 wx31 ⟨hS32, hT33⟩ h
   try dsimp only at h
   refine MX.sr ?_
   refine RG.mv rfl rfl ?_
   refine RG.sg rfl rfl ?_
   refine RG.nil ?_
   refine MX.ret rfl ?_
   refine RT.leave hb0 Tryz.func202 rfl (.cons (.tmp rfl) .nil) rfl ?_
   obtain rfl := Option.some.inj h
   exact ⟨hS32.ag, fun w9 hw9 => rfl⟩
  ·skip
   intro J35 hJ36 h
   try dsimp only at h
   obtain ⟨o51, ho50, hh52⟩ := bind_in2 h
   refine MX.loop (α := ByteArray) (fun s45 => [(0, .string s45), (1, .int .u8 (a1.toNat : Int))]) (fun s45 wx45 => St w wx45 [] ∧ Tr w [] wx45 []) (fun s45 => s45) a0 ho50 ⟨rfl, rfl, trivial⟩ ⟨hS0, Tr.refl _ _⟩ ?_
   rintro J53 s45 wx45 hJ54 ⟨hS46, hT47⟩ h
   unfold strings_trimLeftByte_l1 at h
   try dsimp only at h
   refine MX.seq ?_
   refine MX.sr ?_
   refine RG.mv rfl rfl ?_
   refine RG.vv (FV.len_string Tryz.underlying9 rfl) rfl ?_
   refine RG.vv (FV.gtrN (i := s45.size) (j := 0) rfl rfl) rfl ?_
   refine RG.mv rfl rfl ?_
   refine RG.ifd (s := 8) rfl h (fun c55 h => ?_) (fun c55 h => ?_)
   ·skip
    refine RG.val' (.yes rfl rfl) (FV.move rfl) rfl ?_
    obtain ⟨z56, hz56, h⟩ := bind_in h
    refine RG.val' (.yes rfl rfl) (FV.strAt (k := 0) Tryz.underlying9 rfl rfl rfl hz56) rfl ?_
    refine RG.val' (.yes rfl rfl) (FV.move rfl) rfl ?_
    refine RG.val' (.yes rfl rfl) (FV.eqlN (i := z56.toNat) (j := a1.toNat) rfl rfl) rfl ?_
    refine RG.vv (FV.pick_t rfl rfl) rfl ?_
    refine RG.nil ?_
    refine MX.ifd rfl h (fun c57 h => ?_) (fun c57 h => ?_)
    ·skip
     refine MX.skip ?_
     refine MX.block ?_
     refine MX.region ?_
     refine RG.mv rfl rfl ?_
     obtain ⟨s58, hs58, h⟩ := bind_in h
     refine RG.vv (FV.strCut hs58 Tryz.underlying9 rfl ⟨_, rfl⟩ rfl) rfl ?_
     refine RG.sg rfl rfl ?_
     refine RG.nil ?_
     refine MX.inBlock ?_
     exact hJ54 s58 _ _ ⟨rfl, rfl, trivial⟩ ⟨hS46, hT47⟩ h
    refine MX.exit rfl ?_
    have h := hh52 _ h
    try dsimp only at h
    exact hJ36 s45 _ _ ⟨rfl, trivial⟩ ⟨hS46, hT47⟩ h
   refine RG.off (.no rfl rfl) rfl ?_
   refine RG.off (.no rfl rfl) rfl ?_
   refine RG.off (.no rfl rfl) rfl ?_
   refine RG.off (.no rfl rfl) rfl ?_
   refine RG.vv (FV.pick_f rfl rfl) rfl ?_
   refine RG.nil ?_
   refine MX.cond_f rfl ?_
   refine MX.exit rfl ?_
   have h := hh52 _ h
   try dsimp only at h
   exact hJ36 s45 _ _ ⟨rfl, trivial⟩ ⟨hS46, hT47⟩ h
def strings_trimRightByte_l1 (_n : Nat) (a1 : UInt8) (J69 : ByteArray → Option ByteArray) : ByteArray → Option ByteArray
  | s61 => (if 0 < s61.size then (chk (((s61.size : Nat) : Int) - 1)).bind fun s72 => (sidx s61 s72).bind fun z73 => (if z73.toNat = a1.toNat then (chk (((s61.size : Nat) : Int) - 1)).bind fun s77 => (scut s61 0 s77).bind fun s78 => J69 s78 else some s61) else some s61)
def strings_trimRightByte_p (n : Nat) (a0 : ByteArray) (a1 : UInt8) : Option ByteArray :=
  jn (fun s43 => some s43) (fun J47 => Option.bind (loopF (strings_trimRightByte_l1 n a1) n a0) (J47))
set_option maxRecDepth 4000 in
set_option maxHeartbeats 4000000 in
theorem strings_trimRightByte_c (n : Nat) (L : List Nat) (w : World) (_hL : ∀ b ∈ L, b < w.heap.size) (a0 : ByteArray) (a1 : UInt8)  {r : ByteArray} (h : strings_trimRightByte_p n a0 a1 = some r) :
    Calls Tryz.prog 203 #[.string a0, .int .u8 (a1.toNat : Int)] w (Gives w fun _ u => u = .string r) := by
  unfold strings_trimRightByte_p at h
  have hS0 := St.start w
  refine MX.start Tryz.func203 rfl rfl rfl (fun _ cs0 hb0 => ?_)
  refine MX.sr ?_
  refine RG.sg rfl rfl ?_
  refine RG.nil ?_
  refine MX.seq ?_
  refine MX.block ?_
  refine MX.joinx (α := ByteArray) (fun s43 => [(0, .string s43)]) (fun s43 wx43 => St w wx43 [] ∧ Tr w [] wx43 []) (fun s43 => s43) (id := 0) rfl h ?_ ?_
  ·skip
   rintro s43 wx43 ⟨hS44, hT45⟩ h
   try dsimp only at h
   refine MX.sr ?_
   refine RG.mv rfl rfl ?_
   refine RG.sg rfl rfl ?_
   refine RG.nil ?_
   refine MX.ret rfl ?_
   refine RT.leave hb0 Tryz.func203 rfl (.cons (.tmp rfl) .nil) rfl ?_
   obtain rfl := Option.some.inj h
   exact ⟨hS44.ag, fun w9 hw9 => rfl⟩
  ·skip
   intro J47 hJ48 h
   try dsimp only at h
   obtain ⟨o67, ho66, hh68⟩ := bind_in2 h
   refine MX.loop (α := ByteArray) (fun s61 => [(0, .string s61), (1, .int .u8 (a1.toNat : Int))]) (fun s61 wx61 => St w wx61 [] ∧ Tr w [] wx61 []) (fun s61 => s61) a0 ho66 ⟨rfl, rfl, trivial⟩ ⟨hS0, Tr.refl _ _⟩ ?_
   rintro J69 s61 wx61 hJ70 ⟨hS62, hT63⟩ h
   unfold strings_trimRightByte_l1 at h
   try dsimp only at h
   refine MX.seq ?_
   refine MX.sr ?_
   refine RG.mv rfl rfl ?_
   refine RG.vv (FV.len_string Tryz.underlying9 rfl) rfl ?_
   refine RG.vv (FV.gtrN (i := s61.size) (j := 0) rfl rfl) rfl ?_
   refine RG.mv rfl rfl ?_
   refine RG.ifd (s := 8) rfl h (fun c71 h => ?_) (fun c71 h => ?_)
   ·skip
    refine RG.val' (.yes rfl rfl) (FV.move rfl) rfl ?_
    refine RG.val' (.yes rfl rfl) (FV.move rfl) rfl ?_
    refine RG.val' (.yes rfl rfl) (FV.len_string Tryz.underlying9 rfl) rfl ?_
    obtain ⟨s72, hs72, h⟩ := bind_in h
    refine RG.val' (.yes rfl rfl) (FV.subc (i := ((s61.size : Nat) : Int)) (j := 1) rfl rfl hs72) rfl ?_
    obtain ⟨z73, hz73, h⟩ := bind_in h
    obtain ⟨hi74, hx75⟩ := sidx_in hz73
    refine RG.val' (.yes rfl rfl) (FV.strAt (k := s72.toNat) Tryz.underlying9 rfl rfl hi74 hx75) rfl ?_
    refine RG.val' (.yes rfl rfl) (FV.move rfl) rfl ?_
    refine RG.val' (.yes rfl rfl) (FV.eqlN (i := z73.toNat) (j := a1.toNat) rfl rfl) rfl ?_
    refine RG.vv (FV.pick_t rfl rfl) rfl ?_
    refine RG.nil ?_
    refine MX.ifd rfl h (fun c76 h => ?_) (fun c76 h => ?_)
    ·skip
     refine MX.skip ?_
     refine MX.block ?_
     refine MX.region ?_
     refine RG.mv rfl rfl ?_
     refine RG.mv rfl rfl ?_
     refine RG.vv (FV.len_string Tryz.underlying9 rfl) rfl ?_
     obtain ⟨s77, hs77, h⟩ := bind_in h
     refine RG.vv (FV.subc (i := ((s61.size : Nat) : Int)) (j := 1) rfl rfl hs77) rfl ?_
     obtain ⟨s78, hs78, h⟩ := bind_in h
     refine RG.vv (FV.strCut hs78 Tryz.underlying9 rfl rfl ⟨_, rfl⟩) rfl ?_
     refine RG.sg rfl rfl ?_
     refine RG.nil ?_
     refine MX.inBlock ?_
     exact hJ70 s78 _ _ ⟨rfl, rfl, trivial⟩ ⟨hS62, hT63⟩ h
    refine MX.exit rfl ?_
    have h := hh68 _ h
    try dsimp only at h
    exact hJ48 s61 _ _ ⟨rfl, trivial⟩ ⟨hS62, hT63⟩ h
   refine RG.off (.no rfl rfl) rfl ?_
   refine RG.off (.no rfl rfl) rfl ?_
   refine RG.off (.no rfl rfl) rfl ?_
   refine RG.off (.no rfl rfl) rfl ?_
   refine RG.off (.no rfl rfl) rfl ?_
   refine RG.off (.no rfl rfl) rfl ?_
   refine RG.off (.no rfl rfl) rfl ?_
   refine RG.vv (FV.pick_f rfl rfl) rfl ?_
   refine RG.nil ?_
   refine MX.cond_f rfl ?_
   refine MX.exit rfl ?_
   have h := hh68 _ h
   try dsimp only at h
   exact hJ48 s61 _ _ ⟨rfl, trivial⟩ ⟨hS62, hT63⟩ h
def internal_stringslite_IndexByte_p (_n : Nat) (_a0 : ByteArray) (_a1 : UInt8) : Option Int :=
  none
set_option maxRecDepth 4000 in
set_option maxHeartbeats 4000000 in
theorem internal_stringslite_IndexByte_c (n : Nat) (L : List Nat) (w : World) (_hL : ∀ b ∈ L, b < w.heap.size) (a0 : ByteArray) (a1 : UInt8)  {r : Int} (h : internal_stringslite_IndexByte_p n a0 a1 = some r) :
    Calls Tryz.prog 231 #[.string a0, .int .u8 (a1.toNat : Int)] w (Gives w fun _ u => u = .int .i64 r) := by
  unfold internal_stringslite_IndexByte_p at h
  have hS0 := St.start w
  refine MX.start Tryz.func231 rfl rfl rfl (fun _ cs0 hb0 => ?_)
  refine MX.sr ?_
  refine RG.sg rfl rfl ?_
  refine RG.nil ?_
  refine MX.sr ?_
  refine RG.mv rfl rfl ?_
  refine RG.mv rfl rfl ?_
  cases h
theorem body231 : bodyB Tryz.prog 231 = true := by kernel_rfl
def strings_IndexByte_p (n : Nat) (a0 : ByteArray) (a1 : UInt8) : Option Int :=
  (internal_stringslite_IndexByte_p n a0 a1).bind fun y1 => some y1
set_option maxRecDepth 4000 in
set_option maxHeartbeats 4000000 in
theorem strings_IndexByte_c (n : Nat) (L : List Nat) (w : World) (hL : ∀ b ∈ L, b < w.heap.size) (a0 : ByteArray) (a1 : UInt8)  {r : Int} (h : strings_IndexByte_p n a0 a1 = some r) :
    Calls Tryz.prog 227 #[.string a0, .int .u8 (a1.toNat : Int)] w (Gives w fun _ u => u = .int .i64 r) := by
  unfold strings_IndexByte_p at h
  have hS0 := St.start w
  refine MX.start Tryz.func227 rfl rfl rfl (fun _ cs0 hb0 => ?_)
  refine MX.sr ?_
  refine RG.sg rfl rfl ?_
  refine RG.nil ?_
  refine MX.sr ?_
  refine RG.mv rfl rfl ?_
  refine RG.mv rfl rfl ?_
  obtain ⟨y1, hy1, h⟩ := bind_in h
  refine RG.cq (.int .i64 y1) body231 rfl (evs_cons rfl (evs_cons rfl evs_nil)) (fun w9 hw9 => internal_stringslite_IndexByte_c n _ w9 (hS0.hL0 hL hw9) a0 a1 hy1) rfl ?_
  refine RG.sg rfl rfl ?_
  refine RG.nil ?_
  refine MX.ret rfl ?_
  refine RT.leave hb0 Tryz.func227 rfl (.cons (.tmp rfl) .nil) rfl ?_
  obtain rfl := Option.some.inj h
  exact ⟨hS0.ag, fun w9 hw9 => rfl⟩
def unicode_utf8_ValidRune_p (_n : Nat) (a0 : Int) : Option Bool :=
  (if 0 ≤ a0 then (if a0 < 55296 then some true else (if 57343 < a0 then (if a0 ≤ 1114111 then some true else some false) else some false)) else (if 57343 < a0 then (if a0 ≤ 1114111 then some true else some false) else some false))
set_option maxRecDepth 4000 in
set_option maxHeartbeats 4000000 in
theorem unicode_utf8_ValidRune_c (n : Nat) (L : List Nat) (w : World) (_hL : ∀ b ∈ L, b < w.heap.size) (a0 : Int)  {r : Bool} (h : unicode_utf8_ValidRune_p n a0 = some r) :
    Calls Tryz.prog 228 #[.int .i32 a0] w (Gives w fun _ u => u = .bool r) := by
  unfold unicode_utf8_ValidRune_p at h
  have hS0 := St.start w
  refine MX.start Tryz.func228 rfl rfl rfl (fun _ cs0 hb0 => ?_)
  refine MX.sr ?_
  refine RG.sg rfl rfl ?_
  refine RG.nil ?_
  refine MX.seq ?_
  refine MX.block ?_
  refine MX.sr ?_
  refine RG.mv rfl rfl ?_
  refine RG.vv (FV.leq (i := 0) (j := a0) rfl rfl) rfl ?_
  refine RG.mv rfl rfl ?_
  refine RG.ifd (s := 6) rfl h (fun c1 h => ?_) (fun c1 h => ?_)
  ·skip
   refine RG.val' (.yes rfl rfl) (FV.move rfl) rfl ?_
   refine RG.val' (.yes rfl rfl) (FV.lss (i := a0) (j := 55296) rfl rfl) rfl ?_
   refine RG.vv (FV.pick_t rfl rfl) rfl ?_
   refine RG.sg rfl rfl ?_
   refine RG.nil ?_
   refine MX.ifd rfl h (fun c2 h => ?_) (fun c2 h => ?_)
   ·skip
    refine MX.sr ?_
    refine RG.sg rfl rfl ?_
    refine RG.nil ?_
    refine MX.ret rfl ?_
    refine RT.leave hb0 Tryz.func228 rfl (.cons (.tmp rfl) .nil) rfl ?_
    obtain rfl := Option.some.inj h
    exact ⟨hS0.ag, fun w9 hw9 => rfl⟩
   refine MX.sr ?_
   refine RG.mv rfl rfl ?_
   refine RG.vv (FV.lss (i := 57343) (j := a0) rfl rfl) rfl ?_
   refine RG.mv rfl rfl ?_
   refine RG.ifd (s := 13) rfl h (fun c3 h => ?_) (fun c3 h => ?_)
   ·skip
    refine RG.val' (.yes rfl rfl) (FV.move rfl) rfl ?_
    refine RG.val' (.yes rfl rfl) (FV.leq (i := a0) (j := 1114111) rfl rfl) rfl ?_
    refine RG.vv (FV.pick_t rfl rfl) rfl ?_
    refine RG.sg rfl rfl ?_
    refine RG.nil ?_
    refine MX.ifd rfl h (fun c4 h => ?_) (fun c4 h => ?_)
    ·skip
     refine MX.sr ?_
     refine RG.sg rfl rfl ?_
     refine RG.nil ?_
     refine MX.ret rfl ?_
     refine RT.leave hb0 Tryz.func228 rfl (.cons (.tmp rfl) .nil) rfl ?_
     obtain rfl := Option.some.inj h
     exact ⟨hS0.ag, fun w9 hw9 => rfl⟩
    refine MX.skip ?_
    refine MX.inBlock ?_
    refine MX.sr ?_
    refine RG.sg rfl rfl ?_
    refine RG.nil ?_
    refine MX.ret rfl ?_
    refine RT.leave hb0 Tryz.func228 rfl (.cons (.tmp rfl) .nil) rfl ?_
    obtain rfl := Option.some.inj h
    exact ⟨hS0.ag, fun w9 hw9 => rfl⟩
   refine RG.off (.no rfl rfl) rfl ?_
   refine RG.off (.no rfl rfl) rfl ?_
   refine RG.vv (FV.pick_f rfl rfl) rfl ?_
   refine RG.sg rfl rfl ?_
   refine RG.nil ?_
   refine MX.cond_f rfl ?_
   refine MX.skip ?_
   refine MX.inBlock ?_
   refine MX.sr ?_
   refine RG.sg rfl rfl ?_
   refine RG.nil ?_
   refine MX.ret rfl ?_
   refine RT.leave hb0 Tryz.func228 rfl (.cons (.tmp rfl) .nil) rfl ?_
   obtain rfl := Option.some.inj h
   exact ⟨hS0.ag, fun w9 hw9 => rfl⟩
  refine RG.off (.no rfl rfl) rfl ?_
  refine RG.off (.no rfl rfl) rfl ?_
  refine RG.vv (FV.pick_f rfl rfl) rfl ?_
  refine RG.sg rfl rfl ?_
  refine RG.nil ?_
  refine MX.cond_f rfl ?_
  refine MX.sr ?_
  refine RG.mv rfl rfl ?_
  refine RG.vv (FV.lss (i := 57343) (j := a0) rfl rfl) rfl ?_
  refine RG.mv rfl rfl ?_
  refine RG.ifd (s := 13) rfl h (fun c5 h => ?_) (fun c5 h => ?_)
  ·skip
   refine RG.val' (.yes rfl rfl) (FV.move rfl) rfl ?_
   refine RG.val' (.yes rfl rfl) (FV.leq (i := a0) (j := 1114111) rfl rfl) rfl ?_
   refine RG.vv (FV.pick_t rfl rfl) rfl ?_
   refine RG.sg rfl rfl ?_
   refine RG.nil ?_
   refine MX.ifd rfl h (fun c6 h => ?_) (fun c6 h => ?_)
   ·skip
    refine MX.sr ?_
    refine RG.sg rfl rfl ?_
    refine RG.nil ?_
    refine MX.ret rfl ?_
    refine RT.leave hb0 Tryz.func228 rfl (.cons (.tmp rfl) .nil) rfl ?_
    obtain rfl := Option.some.inj h
    exact ⟨hS0.ag, fun w9 hw9 => rfl⟩
   refine MX.skip ?_
   refine MX.inBlock ?_
   refine MX.sr ?_
   refine RG.sg rfl rfl ?_
   refine RG.nil ?_
   refine MX.ret rfl ?_
   refine RT.leave hb0 Tryz.func228 rfl (.cons (.tmp rfl) .nil) rfl ?_
   obtain rfl := Option.some.inj h
   exact ⟨hS0.ag, fun w9 hw9 => rfl⟩
  refine RG.off (.no rfl rfl) rfl ?_
  refine RG.off (.no rfl rfl) rfl ?_
  refine RG.vv (FV.pick_f rfl rfl) rfl ?_
  refine RG.sg rfl rfl ?_
  refine RG.nil ?_
  refine MX.cond_f rfl ?_
  refine MX.skip ?_
  refine MX.inBlock ?_
  refine MX.sr ?_
  refine RG.sg rfl rfl ?_
  refine RG.nil ?_
  refine MX.ret rfl ?_
  refine RT.leave hb0 Tryz.func228 rfl (.cons (.tmp rfl) .nil) rfl ?_
  obtain rfl := Option.some.inj h
  exact ⟨hS0.ag, fun w9 hw9 => rfl⟩
def internal_bytealg_Cutover_p (_n : Nat) (a0 : Int) : Option Int :=
  (chk (a0 + 16)).bind fun s1 => (quoI s1 8).bind fun s2 => some s2
set_option maxRecDepth 4000 in
set_option maxHeartbeats 4000000 in
theorem internal_bytealg_Cutover_c (n : Nat) (L : List Nat) (w : World) (_hL : ∀ b ∈ L, b < w.heap.size) (a0 : Int)  {r : Int} (h : internal_bytealg_Cutover_p n a0 = some r) :
    Calls Tryz.prog 229 #[.int .i64 a0] w (Gives w fun _ u => u = .int .i64 r) := by
  unfold internal_bytealg_Cutover_p at h
  have hS0 := St.start w
  refine MX.start Tryz.func229 rfl rfl rfl (fun _ cs0 hb0 => ?_)
  refine MX.sr ?_
  refine RG.sg rfl rfl ?_
  refine RG.nil ?_
  refine MX.sr ?_
  refine RG.mv rfl rfl ?_
  obtain ⟨s1, hs1, h⟩ := bind_in h
  refine RG.vv (FV.addc (i := a0) (j := 16) rfl rfl hs1) rfl ?_
  obtain ⟨s2, hs2, h⟩ := bind_in h
  refine RG.vv (FV.quoc (i := s1) (j := 8) rfl rfl hs2) rfl ?_
  refine RG.sg rfl rfl ?_
  refine RG.nil ?_
  refine MX.ret rfl ?_
  refine RT.leave hb0 Tryz.func229 rfl (.cons (.tmp rfl) .nil) rfl ?_
  obtain rfl := Option.some.inj h
  exact ⟨hS0.ag, fun w9 hw9 => rfl⟩
def unicode_utf8_RuneStart_p (_n : Nat) (a0 : UInt8) : Option Bool :=
  some (!(decide (((a0 &&& (192 : UInt8)).toNat) = 128)))
set_option maxRecDepth 4000 in
set_option maxHeartbeats 4000000 in
theorem unicode_utf8_RuneStart_c (n : Nat) (L : List Nat) (w : World) (_hL : ∀ b ∈ L, b < w.heap.size) (a0 : UInt8)  {r : Bool} (h : unicode_utf8_RuneStart_p n a0 = some r) :
    Calls Tryz.prog 225 #[.int .u8 (a0.toNat : Int)] w (Gives w fun _ u => u = .bool r) := by
  unfold unicode_utf8_RuneStart_p at h
  have hS0 := St.start w
  refine MX.start Tryz.func225 rfl rfl rfl (fun _ cs0 hb0 => ?_)
  refine MX.sr ?_
  refine RG.sg rfl rfl ?_
  refine RG.nil ?_
  refine MX.sr ?_
  refine RG.mv rfl rfl ?_
  refine RG.vv (FV.and8 (a := a0) (b := (192 : UInt8)) rfl rfl) rfl ?_
  refine RG.vv (FV.neqN (i := (a0 &&& (192 : UInt8)).toNat) (j := 128) rfl rfl) rfl ?_
  refine RG.sg rfl rfl ?_
  refine RG.nil ?_
  refine MX.ret rfl ?_
  refine RT.leave hb0 Tryz.func225 rfl (.cons (.tmp rfl) .nil) rfl ?_
  obtain rfl := Option.some.inj h
  exact ⟨hS0.ag, fun w9 hw9 => rfl⟩
def tb179_4 : List (Nat × Nat × Nat) := [(0, 4194304, 1), (0, 8388608, 2), (2, 16777216, 8388608), (5, 33554432, 20971520), (0, 67108864, 2), (16, 134217728, 67108864), (40, 268435456, 167772160), (127, 16, 268435456)]
theorem body202 : bodyB Tryz.prog 202 = true := by kernel_rfl
theorem body203 : bodyB Tryz.prog 203 = true := by kernel_rfl
theorem body204 : bodyB Tryz.prog 204 = true := by kernel_rfl
theorem body205 : bodyB Tryz.prog 205 = true := by kernel_rfl
theorem body206 : bodyB Tryz.prog 206 = true := by kernel_rfl
theorem body217 : bodyB Tryz.prog 217 = true := by kernel_rfl
def strings_Trim_l1 (_n : Nat) (xs56 : List Bool) (J243 : ByteArray → Option ByteArray) : ByteArray → Option ByteArray
  | s235 => (if 0 < s235.size then (s235.data[0]?).bind fun z246 => (xs56[z246.toNat]?).bind fun z250 => (if z250 = true then (scut s235 1 (s235.size : Int)).bind fun s253 => J243 s253 else some s235) else some s235)
def strings_Trim_l2 (_n : Nat) (xs56 : List Bool) (J281 : ByteArray → Option ByteArray) : ByteArray → Option ByteArray
  | s273 => (if 0 < s273.size then (chk (((s273.size : Nat) : Int) - 1)).bind fun s284 => (sidx s273 s284).bind fun z285 => (xs56[z285.toNat]?).bind fun z291 => (if z291 = true then (chk (((s273.size : Nat) : Int) - 1)).bind fun s294 => (scut s273 0 s294).bind fun s295 => J281 s295 else some s273) else some s273)
def strings_Trim_l3 (_n : Nat) (a1 : ByteArray) (J65 : Nat × (List Bool) → Option (ByteArray ⊕ (List Bool))) : Nat × (List Bool) → Option (ByteArray ⊕ (List Bool))
  | (i55, xs56) => (if i55 < a1.size then (a1.data[i55]?).bind fun z68 => (if 128 ≤ z68.toNat then (none).map .inl else (xs56[z68.toNat]?).bind fun z82 => J65 (i55 + 1, (xs56.set z68.toNat true))) else some (.inr xs56))
def strings_Trim_l4 (_n : Nat) (xs344 : List Bool) (J534 : ByteArray → Option ByteArray) : ByteArray → Option ByteArray
  | s526 => (if 0 < s526.size then (s526.data[0]?).bind fun z537 => (xs344[z537.toNat]?).bind fun z541 => (if z541 = true then (scut s526 1 (s526.size : Int)).bind fun s544 => J534 s544 else some s526) else some s526)
def strings_Trim_l5 (_n : Nat) (xs344 : List Bool) (J572 : ByteArray → Option ByteArray) : ByteArray → Option ByteArray
  | s564 => (if 0 < s564.size then (chk (((s564.size : Nat) : Int) - 1)).bind fun s575 => (sidx s564 s575).bind fun z576 => (xs344[z576.toNat]?).bind fun z582 => (if z582 = true then (chk (((s564.size : Nat) : Int) - 1)).bind fun s585 => (scut s564 0 s585).bind fun s586 => J572 s586 else some s564) else some s564)
def strings_Trim_l6 (_n : Nat) (a1 : ByteArray) (J353 : Int × (List Bool) → Option (ByteArray ⊕ (List Bool))) : Int × (List Bool) → Option (ByteArray ⊕ (List Bool))
  | (z343, xs344) => (if z343 < ((a1.size : Nat) : Int) then (sidx a1 z343).bind fun z356 => (if 128 ≤ z356.toNat then (none).map .inl else (xs344[z356.toNat]?).bind fun z372 => (chk (z343 + 1)).bind fun s378 => J353 (s378, (xs344.set z356.toNat true))) else some (.inr xs344))
def strings_Trim_p (n : Nat) (a0 : ByteArray) (a1 : ByteArray) : Option ByteArray :=
  (if a0 = ⟨#[]⟩ then some a0 else (if a1 = ⟨#[]⟩ then some a0 else (if a1.size = 1 then (a1.data[0]?).bind fun z4 => (if z4.toNat < 128 then (a1.data[0]?).bind fun z8 => (strings_trimRightByte_p n a0 z8).bind fun y9 => (a1.data[0]?).bind fun z10 => (strings_trimLeftByte_p n y9 z10).bind fun y11 => some y11 else thn (loopF (strings_Trim_l3 n a1) n (0, (List.replicate 256 false))) (fun xs56 => jn (fun s162 => jn (fun s216 => some s216) (fun J220 => Option.bind (loopF (strings_Trim_l1 n xs56) n s162) (J220))) (fun J166 => Option.bind (loopF (strings_Trim_l2 n xs56) n a0) (J166)))) else thn (loopF (strings_Trim_l6 n a1) n (0, (List.replicate 256 false))) (fun xs344 => jn (fun s453 => jn (fun s507 => some s507) (fun J511 => Option.bind (loopF (strings_Trim_l4 n xs344) n s453) (J511))) (fun J457 => Option.bind (loopF (strings_Trim_l5 n xs344) n a0) (J457))))))
set_option maxRecDepth 4000 in
set_option maxHeartbeats 4000000 in
theorem strings_Trim_c (n : Nat) (L : List Nat) (w : World) (hL : ∀ b ∈ L, b < w.heap.size) (a0 : ByteArray) (a1 : ByteArray)  {r : ByteArray} (h : strings_Trim_p n a0 a1 = some r) :
    Calls Tryz.prog 179 #[.string a0, .string a1] w (Gives w fun _ u => u = .string r) := by
  unfold strings_Trim_p at h
  have hS0 := St.start w
  refine MX.start Tryz.func179 rfl rfl rfl (fun _ cs0 hb0 => ?_)
  refine MX.sr ?_
  refine RG.sg rfl rfl ?_
  refine RG.nil ?_
  refine MX.seq ?_
  refine MX.sr ?_
  refine RG.mv rfl rfl ?_
  refine RG.vv (FV.eqlS rfl rfl) rfl ?_
  refine RG.mv rfl rfl ?_
  refine RG.ifd (s := 9) rfl h (fun c1 h => ?_) (fun c1 h => ?_)
  ·skip
   refine RG.off (.no rfl rfl) rfl ?_
   refine RG.off (.no rfl rfl) rfl ?_
   refine RG.vv (FV.pick_t rfl rfl) rfl ?_
   refine RG.nil ?_
   refine MX.cond_t rfl ?_
   refine MX.sr ?_
   refine RG.mv rfl rfl ?_
   refine RG.sg rfl rfl ?_
   refine RG.nil ?_
   refine MX.ret rfl ?_
   refine RT.leave hb0 Tryz.func179 rfl (.cons (.tmp rfl) .nil) rfl ?_
   obtain rfl := Option.some.inj h
   exact ⟨hS0.ag, fun w9 hw9 => rfl⟩
  refine RG.val' (.yes rfl rfl) (FV.move rfl) rfl ?_
  refine RG.val' (.yes rfl rfl) (FV.eqlS rfl rfl) rfl ?_
  refine RG.vv (FV.pick_f rfl rfl) rfl ?_
  refine RG.nil ?_
  refine MX.ifd rfl h (fun c2 h => ?_) (fun c2 h => ?_)
  ·skip
   refine MX.sr ?_
   refine RG.mv rfl rfl ?_
   refine RG.sg rfl rfl ?_
   refine RG.nil ?_
   refine MX.ret rfl ?_
   refine RT.leave hb0 Tryz.func179 rfl (.cons (.tmp rfl) .nil) rfl ?_
   obtain rfl := Option.some.inj h
   exact ⟨hS0.ag, fun w9 hw9 => rfl⟩
  refine MX.skip ?_
  refine MX.seq ?_
  refine MX.sr ?_
  refine RG.mv rfl rfl ?_
  refine RG.vv (FV.len_string Tryz.underlying9 rfl) rfl ?_
  refine RG.vv (FV.eqlN (i := a1.size) (j := 1) rfl rfl) rfl ?_
  refine RG.mv rfl rfl ?_
  refine RG.ifd (s := 17) rfl h (fun c3 h => ?_) (fun c3 h => ?_)
  ·skip
   refine RG.val' (.yes rfl rfl) (FV.move rfl) rfl ?_
   obtain ⟨z4, hz4, h⟩ := bind_in h
   refine RG.val' (.yes rfl rfl) (FV.strAt (k := 0) Tryz.underlying9 rfl rfl rfl hz4) rfl ?_
   refine RG.val' (.yes rfl rfl) (FV.lssN (i := z4.toNat) (j := 128) rfl rfl) rfl ?_
   refine RG.vv (FV.pick_t rfl rfl) rfl ?_
   refine RG.nil ?_
   refine MX.ifd rfl h (fun c5 h => ?_) (fun c5 h => ?_)
   ·skip
    refine MX.seq ?_
    refine MX.drawT 8 tb179_4 (by kernel_rfl) (by kernel_rfl) (by kernel_rfl) (fun kt6 kp7 => ?_)
    refine RD.vw 0 1 kt6 rfl kp7 (fun _ => FV.move rfl) rfl ?_
    refine RD.vw 1 3 kt6 rfl kp7 (fun _ => FV.move rfl) rfl ?_
    obtain ⟨z8, hz8, h⟩ := bind_in h
    refine RD.vw 2 7 kt6 rfl kp7 (fun _ => FV.strAt (k := 0) Tryz.underlying9 rfl rfl rfl hz8) rfl ?_
    obtain ⟨y9, hy9, h⟩ := bind_in h
    refine RD.cq 3 15 192 (.string y9) kt6 rfl kp7 body203 rfl (evs_cons rfl (evs_cons rfl evs_nil)) (fun w9 hw9 => strings_trimRightByte_c n _ w9 (hS0.hL0 hL hw9) a0 z8 hy9) rfl ?_
    refine RD.vw 4 31 kt6 rfl kp7 (fun _ => FV.move rfl) rfl ?_
    obtain ⟨z10, hz10, h⟩ := bind_in h
    refine RD.vw 5 63 kt6 rfl kp7 (fun _ => FV.strAt (k := 0) Tryz.underlying9 rfl rfl rfl hz10) rfl ?_
    obtain ⟨y11, hy11, h⟩ := bind_in h
    refine RD.cq 6 127 128 (.string y11) kt6 rfl kp7 body202 rfl (evs_cons rfl (evs_cons rfl evs_nil)) (fun w9 hw9 => strings_trimLeftByte_c n _ w9 (hS0.hL0 hL hw9) y9 z10 hy11) rfl ?_
    refine RD.vw 7 255 kt6 rfl kp7 (fun _ => FV.assign rfl) rfl ?_
    refine RD.done (doneD_ok kt6 (by kernel_rfl)) ?_
    refine MX.ret rfl ?_
    refine RT.leave hb0 Tryz.func179 rfl (.cons (.tmp rfl) .nil) rfl ?_
    obtain rfl := Option.some.inj h
    exact ⟨hS0.ag, fun w9 hw9 => rfl⟩
   refine MX.skip ?_
   refine MX.seq ?_
   refine MX.sr ?_
   refine RG.mv rfl rfl ?_
   refine RG.enterP (fst := []) (cap := []) (vs := [.string a1]) .plain body204 Tryz.func204 rfl rfl rfl rfl (evs_cons rfl evs_nil) rfl (fun cs13 hb12 hp14 => ?_)
   refine MX.sr ?_
   have hl16 : (List.replicate 256 false).length = 256 := List.length_replicate
   refine RG.new .plain rfl (Does.alloc (zs := (List.replicate 256 false).map (fun z9 : Bool => (.bool z9 : Value))) hS0 (zB (by kernel_rfl))) (fun w17 b20 hS18 hT19 => ?_)
   refine RG.sg rfl rfl ?_
   refine RG.nil ?_
   refine MX.seq ?_
   refine MX.sr ?_
   refine RG.sg rfl rfl ?_
   refine RG.nil ?_
   refine MX.block ?_
   obtain ⟨o63, ho62, hh64⟩ := thn_in h
   refine MX.loop (α := Nat × (List Bool)) (fun ⟨i55, xs56⟩ => [(0, .string a1), (2, .pointer (some ⟨b20, 0, none⟩)), (4, .int .i64 ((i55 : Nat) : Int))]) (fun ⟨i55, xs56⟩ wx57 => St w wx57 [.cells b20 (xs56.map (fun z9 : Bool => (.bool z9 : Value))) 228] ∧ Tr w17 [.cells b20 ((List.replicate 256 false).map (fun z9 : Bool => (.bool z9 : Value))) 228] wx57 [.cells b20 (xs56.map (fun z9 : Bool => (.bool z9 : Value))) 228] ∧ xs56.length = 256) (fun ⟨i55, xs56⟩ => (i55, xs56)) (0, (List.replicate 256 false)) ho62 ⟨rfl, rfl, rfl, trivial⟩ ⟨hS18, Tr.refl _ _, hl16⟩ ?_
   rintro J65 ⟨i55, xs56⟩ wx57 hJ66 ⟨hS58, hT59, hl57⟩ h
   unfold strings_Trim_l3 at h
   try dsimp only at h
   refine MX.seq ?_
   refine MX.sr ?_
   refine RG.mv rfl rfl ?_
   refine RG.mv rfl rfl ?_
   refine RG.vv (FV.len_string Tryz.underlying9 rfl) rfl ?_
   refine RG.vv (FV.lssN (i := i55) (j := a1.size) rfl rfl) rfl ?_
   refine RG.nil ?_
   refine MX.ifd rfl h (fun c67 h => ?_) (fun c67 h => ?_)
   ·skip
    refine MX.skip ?_
    refine MX.seq ?_
    refine MX.block ?_
    refine MX.sr ?_
    refine RG.mv rfl rfl ?_
    refine RG.mv rfl rfl ?_
    obtain ⟨z68, hz68, h⟩ := bind_in h
    refine RG.vv (FV.strAt (k := i55) Tryz.underlying9 rfl rfl rfl hz68) rfl ?_
    refine RG.sg rfl rfl ?_
    refine RG.nil ?_
    refine MX.seq ?_
    refine MX.sr ?_
    refine RG.mv rfl rfl ?_
    refine RG.vv (FV.geqN (i := z68.toNat) (j := 128) rfl rfl) rfl ?_
    refine RG.nil ?_
    refine MX.ifd rfl h (fun c69 h => ?_) (fun c69 h => ?_)
    ·skip
     refine MX.sr ?_
     refine RG.vv (FV.loadN (cs := xs56.map (fun z9 : Bool => (.bool z9 : Value))) (by rw [List.length_map, hl57]; kernel_rfl) rfl (hS58.memA .hd)) rfl ?_
     refine RG.now .plain (Acts.storeBig (fun z9 : Bool => (.bool z9 : Value)) (m := 256) hl57 hl57 hS58 .hd rfl rfl (by kernel_rfl) (fun _ => rfl)) (fun w70 hS71 hT72 => ?_)
     refine RG.sg rfl rfl ?_
     refine RG.nil ?_
     have h := thn_map h hh64
     refine MX.ret rfl ?_
     refine RT.leave (u := .tuple #[.agg (xs56.map (fun z9 : Bool => (.bool z9 : Value))).toArray, .bool false]) hb12 Tryz.func204 rfl (.cons (.many (cs := xs56.map (fun z9 : Bool => (.bool z9 : Value))) (by rw [List.length_map, hl57]; kernel_rfl) rfl (hS71.memA .hd)) (.cons (.tmp rfl) .nil)) rfl ?_
     refine RG.mv rfl rfl ?_
     refine RG.vv (FV.extract rfl rfl) rfl ?_
     refine RG.vv (FV.extract rfl rfl) rfl ?_
     have hl74 : (List.replicate 256 false).length = 256 := List.length_replicate
     refine RG.new .plain rfl (Does.alloc (zs := (List.replicate 256 false).map (fun z9 : Bool => (.bool z9 : Value))) hS71 (zB (by kernel_rfl))) (fun w75 b78 hS76 hT77 => ?_)
     refine RG.now .plain (Acts.storeBig (fun z9 : Bool => (.bool z9 : Value)) (m := 256) hl74 hl57 hS76 .hd rfl rfl (by kernel_rfl) (fun _ => rfl)) (fun w79 hS80 hT81 => ?_)
     refine RG.sg rfl rfl ?_
     refine RG.nil ?_
     refine MX.sr ?_
     refine RG.mv rfl rfl ?_
     refine RG.nil ?_
     refine MX.cond_f rfl ?_
     refine MX.skip ?_
     refine MX.sr ?_
     refine RG.mv rfl rfl ?_
     refine RG.mv rfl rfl ?_
     cases h
    refine MX.skip ?_
    refine MX.region ?_
    refine RG.mv rfl rfl ?_
    obtain ⟨z82, hz82, h⟩ := bind_in h
    have hm83 := mem_elem1 (p := ⟨b20, 0, none⟩) (cs := xs56.map (fun z9 : Bool => (.bool z9 : Value))) (i := z68.toNat) (hS58.memA .hd) (arr_get0 (fun z9 : Bool => (.bool z9 : Value)) hz82)
    refine RG.vv (FV.indexArr (m := 1) (k := z68.toNat) (len := 256) (by kernel_rfl) rfl rfl rfl (arr_lt hz82 hl57)) rfl ?_
    have hl84 : (xs56.set z68.toNat true).length = 256 := by rw [List.length_set]; exact hl57
    refine RG.now .plain (Acts.setBig (fun z9 : Bool => (.bool z9 : Value)) (i := z68.toNat) (x := true) (m := 256) hl57 (arr_lt hz82 hl57) hS58 .hd rfl (addr_at _ _ _) rfl (by kernel_rfl) (fun _ => ⟨rfl, rfl⟩)) (fun w85 hS86 hT87 => ?_)
    refine RG.nil ?_
    refine MX.inBlock ?_
    refine MX.region ?_
    refine RG.mv rfl rfl ?_
    refine RG.vv (FV.addN (i := i55) (j := 1) rfl rfl (by omega)) rfl ?_
    refine RG.sg rfl rfl ?_
    refine RG.nil ?_
    exact hJ66 (i55 + 1, (xs56.set z68.toNat true)) _ _ ⟨rfl, rfl, rfl, trivial⟩ ⟨hS86, (Tr.trans hT59 hT87), hl84⟩ h
   refine MX.exit rfl ?_
   have h := thn_inr h hh64
   try dsimp only at h
   refine MX.sr ?_
   refine RG.vv (FV.loadN (cs := xs56.map (fun z9 : Bool => (.bool z9 : Value))) (by rw [List.length_map, hl57]; kernel_rfl) rfl (hS58.memA .hd)) rfl ?_
   refine RG.now .plain (Acts.storeBig (fun z9 : Bool => (.bool z9 : Value)) (m := 256) hl57 hl57 hS58 .hd rfl rfl (by kernel_rfl) (fun _ => rfl)) (fun w88 hS89 hT90 => ?_)
   refine RG.sg rfl rfl ?_
   refine RG.nil ?_
   refine MX.ret rfl ?_
   refine RT.leave (u := .tuple #[.agg (xs56.map (fun z9 : Bool => (.bool z9 : Value))).toArray, .bool true]) hb12 Tryz.func204 rfl (.cons (.many (cs := xs56.map (fun z9 : Bool => (.bool z9 : Value))) (by rw [List.length_map, hl57]; kernel_rfl) rfl (hS89.memA .hd)) (.cons (.tmp rfl) .nil)) rfl ?_
   refine RG.mv rfl rfl ?_
   refine RG.vv (FV.extract rfl rfl) rfl ?_
   refine RG.vv (FV.extract rfl rfl) rfl ?_
   have hl92 : (List.replicate 256 false).length = 256 := List.length_replicate
   refine RG.new .plain rfl (Does.alloc (zs := (List.replicate 256 false).map (fun z9 : Bool => (.bool z9 : Value))) hS89 (zB (by kernel_rfl))) (fun w93 b96 hS94 hT95 => ?_)
   refine RG.now .plain (Acts.storeBig (fun z9 : Bool => (.bool z9 : Value)) (m := 256) hl92 hl57 hS94 .hd rfl rfl (by kernel_rfl) (fun _ => rfl)) (fun w97 hS98 hT99 => ?_)
   refine RG.sg rfl rfl ?_
   refine RG.nil ?_
   refine MX.sr ?_
   refine RG.mv rfl rfl ?_
   refine RG.nil ?_
   refine MX.cond_t rfl ?_
   refine MX.sr ?_
   refine RG.mv rfl rfl ?_
   refine RG.enterP (fst := []) (cap := []) (vs := [.string a0, .pointer (some ⟨b96, 0, none⟩)]) .plain body206 Tryz.func206 rfl rfl rfl rfl (evs_cons rfl (evs_cons rfl evs_nil)) rfl (fun cs101 hb100 hp102 => ?_)
   refine MX.sr ?_
   refine RG.sg rfl rfl ?_
   refine RG.nil ?_
   refine MX.seq ?_
   refine MX.block ?_
   refine MX.joinx (α := ByteArray) (fun s162 => [(0, .string s162)]) (fun s162 wx162 => St w wx162 [.cells b96 (xs56.map (fun z9 : Bool => (.bool z9 : Value))) 228] ∧ Tr w97 [.cells b96 (xs56.map (fun z9 : Bool => (.bool z9 : Value))) 228, .cells b20 (xs56.map (fun z9 : Bool => (.bool z9 : Value))) 228] wx162 [.cells b96 (xs56.map (fun z9 : Bool => (.bool z9 : Value))) 228]) (fun s162 => s162) (id := 0) rfl h ?_ ?_
   ·skip
    rintro s162 wx162 ⟨hS163, hT164⟩ h
    try dsimp only at h
    refine MX.sr ?_
    refine RG.mv rfl rfl ?_
    refine RG.sg rfl rfl ?_
    refine RG.nil ?_
    refine MX.ret rfl ?_
    refine RT.leave (u := .string s162) hb100 Tryz.func206 rfl (.cons (.tmp rfl) .nil) rfl ?_
    refine RG.enterP (fst := []) (cap := []) (vs := [.string s162, .pointer (some ⟨b96, 0, none⟩)]) .plain body205 Tryz.func205 rfl rfl rfl rfl (evs_cons rfl (evs_cons rfl evs_nil)) rfl (fun cs169 hb168 hp170 => ?_)
    refine MX.sr ?_
    refine RG.sg rfl rfl ?_
    refine RG.nil ?_
    refine MX.seq ?_
    refine MX.block ?_
    refine MX.joinx (α := ByteArray) (fun s216 => [(0, .string s216)]) (fun s216 wx216 => St w wx216 [.cells b96 (xs56.map (fun z9 : Bool => (.bool z9 : Value))) 228] ∧ Tr wx162 [.cells b96 (xs56.map (fun z9 : Bool => (.bool z9 : Value))) 228] wx216 [.cells b96 (xs56.map (fun z9 : Bool => (.bool z9 : Value))) 228]) (fun s216 => s216) (id := 0) rfl h ?_ ?_
    ·skip
     rintro s216 wx216 ⟨hS217, hT218⟩ h
     try dsimp only at h
     refine MX.sr ?_
     refine RG.mv rfl rfl ?_
     refine RG.sg rfl rfl ?_
     refine RG.nil ?_
     refine MX.ret rfl ?_
     refine RT.leave (u := .string s216) hb168 Tryz.func205 rfl (.cons (.tmp rfl) .nil) rfl ?_
     refine RG.sg rfl rfl ?_
     refine RG.nil ?_
     refine MX.ret rfl ?_
     refine RT.leave hb0 Tryz.func179 rfl (.cons (.tmp rfl) .nil) rfl ?_
     obtain rfl := Option.some.inj h
     exact ⟨hS217.ag, fun w9 hw9 => rfl⟩
    ·skip
     intro J220 hJ221 h
     try dsimp only at h
     obtain ⟨o241, ho240, hh242⟩ := bind_in2 h
     refine MX.loop (α := ByteArray) (fun s235 => [(0, .string s235), (1, .pointer (some ⟨b96, 0, none⟩))]) (fun s235 wx235 => St w wx235 [.cells b96 (xs56.map (fun z9 : Bool => (.bool z9 : Value))) 228] ∧ Tr wx162 [.cells b96 (xs56.map (fun z9 : Bool => (.bool z9 : Value))) 228] wx235 [.cells b96 (xs56.map (fun z9 : Bool => (.bool z9 : Value))) 228]) (fun s235 => s235) s162 ho240 ⟨rfl, rfl, trivial⟩ ⟨hS163, Tr.refl _ _⟩ ?_
     rintro J243 s235 wx235 hJ244 ⟨hS236, hT237⟩ h
     unfold strings_Trim_l1 at h
     try dsimp only at h
     refine MX.seq ?_
     refine MX.sr ?_
     refine RG.mv rfl rfl ?_
     refine RG.vv (FV.len_string Tryz.underlying9 rfl) rfl ?_
     refine RG.vv (FV.gtrN (i := s235.size) (j := 0) rfl rfl) rfl ?_
     refine RG.nil ?_
     refine MX.ifd rfl h (fun c245 h => ?_) (fun c245 h => ?_)
     ·skip
      refine MX.skip ?_
      refine MX.block ?_
      refine MX.seq ?_
      refine MX.sr ?_
      refine RG.mv rfl rfl ?_
      refine RG.mv rfl rfl ?_
      obtain ⟨z246, hz246, h⟩ := bind_in h
      refine RG.vv (FV.strAt (k := 0) Tryz.underlying9 rfl rfl rfl hz246) rfl ?_
      refine RG.enterP (fst := []) (cap := []) (vs := [.pointer (some ⟨b96, 0, none⟩), .int .u8 (z246.toNat : Int)]) .plain body217 Tryz.func217 rfl rfl rfl rfl (evs_cons rfl (evs_cons rfl evs_nil)) rfl (fun cs248 hb247 hp249 => ?_)
      refine MX.sr ?_
      refine RG.sg rfl rfl ?_
      refine RG.nil ?_
      refine MX.sr ?_
      refine RG.mv rfl rfl ?_
      refine RG.mv rfl rfl ?_
      refine RG.vv (FV.nilCheck rfl) rfl ?_
      obtain ⟨z250, hz250, h⟩ := bind_in h
      have hm251 := mem_elem1 (p := ⟨b96, 0, none⟩) (cs := xs56.map (fun z9 : Bool => (.bool z9 : Value))) (i := z246.toNat) (hS236.memA .hd) (arr_get0 (fun z9 : Bool => (.bool z9 : Value)) hz250)
      refine RG.vv (FV.indexArr (m := 1) (k := z246.toNat) (len := 256) (by kernel_rfl) rfl rfl rfl (arr_lt hz250 hl57)) rfl ?_
      refine RG.vv (FV.load1 (by kernel_rfl) rfl (hm251 0 _ rfl)) rfl ?_
      refine RG.sg rfl rfl ?_
      refine RG.nil ?_
      refine MX.ret rfl ?_
      refine RT.leave (u := .bool z250) hb247 Tryz.func217 rfl (.cons (.tmp rfl) .nil) rfl ?_
      refine RG.vv (FV.not rfl) rfl ?_
      refine RG.nil ?_
      refine MX.ifnb rfl h (fun c252 h => ?_) (fun c252 h => ?_)
      ·skip
       refine MX.skip ?_
       refine MX.region ?_
       refine RG.mv rfl rfl ?_
       obtain ⟨s253, hs253, h⟩ := bind_in h
       refine RG.vv (FV.strCut hs253 Tryz.underlying9 rfl ⟨_, rfl⟩ rfl) rfl ?_
       refine RG.sg rfl rfl ?_
       refine RG.nil ?_
       refine MX.inBlock ?_
       exact hJ244 s253 _ _ ⟨rfl, rfl, trivial⟩ ⟨hS236, hT237⟩ h
      refine MX.exit rfl ?_
      have h := hh242 _ h
      try dsimp only at h
      exact hJ221 s235 _ _ ⟨rfl, trivial⟩ ⟨hS236, hT237⟩ h
     refine MX.exit rfl ?_
     have h := hh242 _ h
     try dsimp only at h
     exact hJ221 s235 _ _ ⟨rfl, trivial⟩ ⟨hS236, hT237⟩ h
   ·skip
    intro J166 hJ167 h
    try dsimp only at h
    obtain ⟨hS271, hT272⟩ := St.arrB hS98 (.one .hd .done)
    obtain ⟨o279, ho278, hh280⟩ := bind_in2 h
    refine MX.loop (α := ByteArray) (fun s273 => [(0, .string s273), (1, .pointer (some ⟨b96, 0, none⟩))]) (fun s273 wx273 => St w wx273 [.cells b96 (xs56.map (fun z9 : Bool => (.bool z9 : Value))) 228] ∧ Tr w97 [.cells b96 (xs56.map (fun z9 : Bool => (.bool z9 : Value))) 228] wx273 [.cells b96 (xs56.map (fun z9 : Bool => (.bool z9 : Value))) 228]) (fun s273 => s273) a0 ho278 ⟨rfl, rfl, trivial⟩ ⟨hS271, Tr.refl _ _⟩ ?_
    rintro J281 s273 wx273 hJ282 ⟨hS274, hT275⟩ h
    unfold strings_Trim_l2 at h
    try dsimp only at h
    refine MX.seq ?_
    refine MX.sr ?_
    refine RG.mv rfl rfl ?_
    refine RG.vv (FV.len_string Tryz.underlying9 rfl) rfl ?_
    refine RG.vv (FV.gtrN (i := s273.size) (j := 0) rfl rfl) rfl ?_
    refine RG.nil ?_
    refine MX.ifd rfl h (fun c283 h => ?_) (fun c283 h => ?_)
    ·skip
     refine MX.skip ?_
     refine MX.block ?_
     refine MX.seq ?_
     refine MX.sr ?_
     refine RG.mv rfl rfl ?_
     refine RG.mv rfl rfl ?_
     refine RG.mv rfl rfl ?_
     refine RG.vv (FV.len_string Tryz.underlying9 rfl) rfl ?_
     obtain ⟨s284, hs284, h⟩ := bind_in h
     refine RG.vv (FV.subc (i := ((s273.size : Nat) : Int)) (j := 1) rfl rfl hs284) rfl ?_
     obtain ⟨z285, hz285, h⟩ := bind_in h
     obtain ⟨hi286, hx287⟩ := sidx_in hz285
     refine RG.vv (FV.strAt (k := s284.toNat) Tryz.underlying9 rfl rfl hi286 hx287) rfl ?_
     refine RG.enterP (fst := []) (cap := []) (vs := [.pointer (some ⟨b96, 0, none⟩), .int .u8 (z285.toNat : Int)]) .plain body217 Tryz.func217 rfl rfl rfl rfl (evs_cons rfl (evs_cons rfl evs_nil)) rfl (fun cs289 hb288 hp290 => ?_)
     refine MX.sr ?_
     refine RG.sg rfl rfl ?_
     refine RG.nil ?_
     refine MX.sr ?_
     refine RG.mv rfl rfl ?_
     refine RG.mv rfl rfl ?_
     refine RG.vv (FV.nilCheck rfl) rfl ?_
     obtain ⟨z291, hz291, h⟩ := bind_in h
     have hm292 := mem_elem1 (p := ⟨b96, 0, none⟩) (cs := xs56.map (fun z9 : Bool => (.bool z9 : Value))) (i := z285.toNat) (hS274.memA .hd) (arr_get0 (fun z9 : Bool => (.bool z9 : Value)) hz291)
     refine RG.vv (FV.indexArr (m := 1) (k := z285.toNat) (len := 256) (by kernel_rfl) rfl rfl rfl (arr_lt hz291 hl57)) rfl ?_
     refine RG.vv (FV.load1 (by kernel_rfl) rfl (hm292 0 _ rfl)) rfl ?_
     refine RG.sg rfl rfl ?_
     refine RG.nil ?_
     refine MX.ret rfl ?_
     refine RT.leave (u := .bool z291) hb288 Tryz.func217 rfl (.cons (.tmp rfl) .nil) rfl ?_
     refine RG.vv (FV.not rfl) rfl ?_
     refine RG.nil ?_
     refine MX.ifnb rfl h (fun c293 h => ?_) (fun c293 h => ?_)
     ·skip
      refine MX.skip ?_
      refine MX.region ?_
      refine RG.mv rfl rfl ?_
      refine RG.mv rfl rfl ?_
      refine RG.vv (FV.len_string Tryz.underlying9 rfl) rfl ?_
      obtain ⟨s294, hs294, h⟩ := bind_in h
      refine RG.vv (FV.subc (i := ((s273.size : Nat) : Int)) (j := 1) rfl rfl hs294) rfl ?_
      obtain ⟨s295, hs295, h⟩ := bind_in h
      refine RG.vv (FV.strCut hs295 Tryz.underlying9 rfl rfl ⟨_, rfl⟩) rfl ?_
      refine RG.sg rfl rfl ?_
      refine RG.nil ?_
      refine MX.inBlock ?_
      exact hJ282 s295 _ _ ⟨rfl, rfl, trivial⟩ ⟨hS274, hT275⟩ h
     refine MX.exit rfl ?_
     have h := hh280 _ h
     try dsimp only at h
     exact hJ167 s273 _ _ ⟨rfl, trivial⟩ ⟨hS274, (Tr.trans hT272 hT275)⟩ h
    refine MX.exit rfl ?_
    have h := hh280 _ h
    try dsimp only at h
    exact hJ167 s273 _ _ ⟨rfl, trivial⟩ ⟨hS274, (Tr.trans hT272 hT275)⟩ h
  refine RG.off (.no rfl rfl) rfl ?_
  refine RG.off (.no rfl rfl) rfl ?_
  refine RG.off (.no rfl rfl) rfl ?_
  refine RG.vv (FV.pick_f rfl rfl) rfl ?_
  refine RG.nil ?_
  refine MX.cond_f rfl ?_
  refine MX.skip ?_
  refine MX.seq ?_
  refine MX.sr ?_
  refine RG.mv rfl rfl ?_
  refine RG.enterP (fst := []) (cap := []) (vs := [.string a1]) .plain body204 Tryz.func204 rfl rfl rfl rfl (evs_cons rfl evs_nil) rfl (fun cs297 hb296 hp298 => ?_)
  refine MX.sr ?_
  have hl300 : (List.replicate 256 false).length = 256 := List.length_replicate
  refine RG.new .plain rfl (Does.alloc (zs := (List.replicate 256 false).map (fun z9 : Bool => (.bool z9 : Value))) hS0 (zB (by kernel_rfl))) (fun w301 b304 hS302 hT303 => ?_)
  refine RG.sg rfl rfl ?_
  refine RG.nil ?_
  refine MX.seq ?_
  refine MX.sr ?_
  refine RG.sg rfl rfl ?_
  refine RG.nil ?_
  refine MX.block ?_
  obtain ⟨o351, ho350, hh352⟩ := thn_in h
  refine MX.loop (α := Int × (List Bool)) (fun ⟨z343, xs344⟩ => [(0, .string a1), (2, .pointer (some ⟨b304, 0, none⟩)), (4, .int .i64 z343)]) (fun ⟨z343, xs344⟩ wx345 => St w wx345 [.cells b304 (xs344.map (fun z9 : Bool => (.bool z9 : Value))) 228] ∧ Tr w301 [.cells b304 ((List.replicate 256 false).map (fun z9 : Bool => (.bool z9 : Value))) 228] wx345 [.cells b304 (xs344.map (fun z9 : Bool => (.bool z9 : Value))) 228] ∧ xs344.length = 256) (fun ⟨z343, xs344⟩ => (z343, xs344)) (0, (List.replicate 256 false)) ho350 ⟨rfl, rfl, rfl, trivial⟩ ⟨hS302, Tr.refl _ _, hl300⟩ ?_
  rintro J353 ⟨z343, xs344⟩ wx345 hJ354 ⟨hS346, hT347, hl345⟩ h
  unfold strings_Trim_l6 at h
  try dsimp only at h
  refine MX.seq ?_
  refine MX.sr ?_
  refine RG.mv rfl rfl ?_
  refine RG.mv rfl rfl ?_
  refine RG.vv (FV.len_string Tryz.underlying9 rfl) rfl ?_
  refine RG.vv (FV.lss (i := z343) (j := ((a1.size : Nat) : Int)) rfl rfl) rfl ?_
  refine RG.nil ?_
  refine MX.ifd rfl h (fun c355 h => ?_) (fun c355 h => ?_)
  ·skip
   refine MX.skip ?_
   refine MX.seq ?_
   refine MX.block ?_
   refine MX.sr ?_
   refine RG.mv rfl rfl ?_
   refine RG.mv rfl rfl ?_
   obtain ⟨z356, hz356, h⟩ := bind_in h
   obtain ⟨hi357, hx358⟩ := sidx_in hz356
   refine RG.vv (FV.strAt (k := z343.toNat) Tryz.underlying9 rfl rfl hi357 hx358) rfl ?_
   refine RG.sg rfl rfl ?_
   refine RG.nil ?_
   refine MX.seq ?_
   refine MX.sr ?_
   refine RG.mv rfl rfl ?_
   refine RG.vv (FV.geqN (i := z356.toNat) (j := 128) rfl rfl) rfl ?_
   refine RG.nil ?_
   refine MX.ifd rfl h (fun c359 h => ?_) (fun c359 h => ?_)
   ·skip
    refine MX.sr ?_
    refine RG.vv (FV.loadN (cs := xs344.map (fun z9 : Bool => (.bool z9 : Value))) (by rw [List.length_map, hl345]; kernel_rfl) rfl (hS346.memA .hd)) rfl ?_
    refine RG.now .plain (Acts.storeBig (fun z9 : Bool => (.bool z9 : Value)) (m := 256) hl345 hl345 hS346 .hd rfl rfl (by kernel_rfl) (fun _ => rfl)) (fun w360 hS361 hT362 => ?_)
    refine RG.sg rfl rfl ?_
    refine RG.nil ?_
    have h := thn_map h hh352
    refine MX.ret rfl ?_
    refine RT.leave (u := .tuple #[.agg (xs344.map (fun z9 : Bool => (.bool z9 : Value))).toArray, .bool false]) hb296 Tryz.func204 rfl (.cons (.many (cs := xs344.map (fun z9 : Bool => (.bool z9 : Value))) (by rw [List.length_map, hl345]; kernel_rfl) rfl (hS361.memA .hd)) (.cons (.tmp rfl) .nil)) rfl ?_
    refine RG.mv rfl rfl ?_
    refine RG.vv (FV.extract rfl rfl) rfl ?_
    refine RG.vv (FV.extract rfl rfl) rfl ?_
    have hl364 : (List.replicate 256 false).length = 256 := List.length_replicate
    refine RG.new .plain rfl (Does.alloc (zs := (List.replicate 256 false).map (fun z9 : Bool => (.bool z9 : Value))) hS361 (zB (by kernel_rfl))) (fun w365 b368 hS366 hT367 => ?_)
    refine RG.now .plain (Acts.storeBig (fun z9 : Bool => (.bool z9 : Value)) (m := 256) hl364 hl345 hS366 .hd rfl rfl (by kernel_rfl) (fun _ => rfl)) (fun w369 hS370 hT371 => ?_)
    refine RG.sg rfl rfl ?_
    refine RG.nil ?_
    refine MX.sr ?_
    refine RG.mv rfl rfl ?_
    refine RG.nil ?_
    refine MX.cond_f rfl ?_
    refine MX.skip ?_
    refine MX.sr ?_
    refine RG.mv rfl rfl ?_
    refine RG.mv rfl rfl ?_
    cases h
   refine MX.skip ?_
   refine MX.region ?_
   refine RG.mv rfl rfl ?_
   obtain ⟨z372, hz372, h⟩ := bind_in h
   have hm373 := mem_elem1 (p := ⟨b304, 0, none⟩) (cs := xs344.map (fun z9 : Bool => (.bool z9 : Value))) (i := z356.toNat) (hS346.memA .hd) (arr_get0 (fun z9 : Bool => (.bool z9 : Value)) hz372)
   refine RG.vv (FV.indexArr (m := 1) (k := z356.toNat) (len := 256) (by kernel_rfl) rfl rfl rfl (arr_lt hz372 hl345)) rfl ?_
   have hl374 : (xs344.set z356.toNat true).length = 256 := by rw [List.length_set]; exact hl345
   refine RG.now .plain (Acts.setBig (fun z9 : Bool => (.bool z9 : Value)) (i := z356.toNat) (x := true) (m := 256) hl345 (arr_lt hz372 hl345) hS346 .hd rfl (addr_at _ _ _) rfl (by kernel_rfl) (fun _ => ⟨rfl, rfl⟩)) (fun w375 hS376 hT377 => ?_)
   refine RG.nil ?_
   refine MX.inBlock ?_
   refine MX.region ?_
   refine RG.mv rfl rfl ?_
   obtain ⟨s378, hs378, h⟩ := bind_in h
   refine RG.vv (FV.addc (i := z343) (j := 1) rfl rfl hs378) rfl ?_
   refine RG.sg rfl rfl ?_
   refine RG.nil ?_
   exact hJ354 (s378, (xs344.set z356.toNat true)) _ _ ⟨rfl, rfl, rfl, trivial⟩ ⟨hS376, (Tr.trans hT347 hT377), hl374⟩ h
  refine MX.exit rfl ?_
  have h := thn_inr h hh352
  try dsimp only at h
  refine MX.sr ?_
  refine RG.vv (FV.loadN (cs := xs344.map (fun z9 : Bool => (.bool z9 : Value))) (by rw [List.length_map, hl345]; kernel_rfl) rfl (hS346.memA .hd)) rfl ?_
  refine RG.now .plain (Acts.storeBig (fun z9 : Bool => (.bool z9 : Value)) (m := 256) hl345 hl345 hS346 .hd rfl rfl (by kernel_rfl) (fun _ => rfl)) (fun w379 hS380 hT381 => ?_)
  refine RG.sg rfl rfl ?_
  refine RG.nil ?_
  refine MX.ret rfl ?_
  refine RT.leave (u := .tuple #[.agg (xs344.map (fun z9 : Bool => (.bool z9 : Value))).toArray, .bool true]) hb296 Tryz.func204 rfl (.cons (.many (cs := xs344.map (fun z9 : Bool => (.bool z9 : Value))) (by rw [List.length_map, hl345]; kernel_rfl) rfl (hS380.memA .hd)) (.cons (.tmp rfl) .nil)) rfl ?_
  refine RG.mv rfl rfl ?_
  refine RG.vv (FV.extract rfl rfl) rfl ?_
  refine RG.vv (FV.extract rfl rfl) rfl ?_
  have hl383 : (List.replicate 256 false).length = 256 := List.length_replicate
  refine RG.new .plain rfl (Does.alloc (zs := (List.replicate 256 false).map (fun z9 : Bool => (.bool z9 : Value))) hS380 (zB (by kernel_rfl))) (fun w384 b387 hS385 hT386 => ?_)
  refine RG.now .plain (Acts.storeBig (fun z9 : Bool => (.bool z9 : Value)) (m := 256) hl383 hl345 hS385 .hd rfl rfl (by kernel_rfl) (fun _ => rfl)) (fun w388 hS389 hT390 => ?_)
  refine RG.sg rfl rfl ?_
  refine RG.nil ?_
  refine MX.sr ?_
  refine RG.mv rfl rfl ?_
  refine RG.nil ?_
  refine MX.cond_t rfl ?_
  refine MX.sr ?_
  refine RG.mv rfl rfl ?_
  refine RG.enterP (fst := []) (cap := []) (vs := [.string a0, .pointer (some ⟨b387, 0, none⟩)]) .plain body206 Tryz.func206 rfl rfl rfl rfl (evs_cons rfl (evs_cons rfl evs_nil)) rfl (fun cs392 hb391 hp393 => ?_)
  refine MX.sr ?_
  refine RG.sg rfl rfl ?_
  refine RG.nil ?_
  refine MX.seq ?_
  refine MX.block ?_
  refine MX.joinx (α := ByteArray) (fun s453 => [(0, .string s453)]) (fun s453 wx453 => St w wx453 [.cells b387 (xs344.map (fun z9 : Bool => (.bool z9 : Value))) 228] ∧ Tr w388 [.cells b387 (xs344.map (fun z9 : Bool => (.bool z9 : Value))) 228, .cells b304 (xs344.map (fun z9 : Bool => (.bool z9 : Value))) 228] wx453 [.cells b387 (xs344.map (fun z9 : Bool => (.bool z9 : Value))) 228]) (fun s453 => s453) (id := 0) rfl h ?_ ?_
  ·skip
   rintro s453 wx453 ⟨hS454, hT455⟩ h
   try dsimp only at h
   refine MX.sr ?_
   refine RG.mv rfl rfl ?_
   refine RG.sg rfl rfl ?_
   refine RG.nil ?_
   refine MX.ret rfl ?_
   refine RT.leave (u := .string s453) hb391 Tryz.func206 rfl (.cons (.tmp rfl) .nil) rfl ?_
   refine RG.enterP (fst := []) (cap := []) (vs := [.string s453, .pointer (some ⟨b387, 0, none⟩)]) .plain body205 Tryz.func205 rfl rfl rfl rfl (evs_cons rfl (evs_cons rfl evs_nil)) rfl (fun cs460 hb459 hp461 => ?_)
   refine MX.sr ?_
   refine RG.sg rfl rfl ?_
   refine RG.nil ?_
   refine MX.seq ?_
   refine MX.block ?_
   refine MX.joinx (α := ByteArray) (fun s507 => [(0, .string s507)]) (fun s507 wx507 => St w wx507 [.cells b387 (xs344.map (fun z9 : Bool => (.bool z9 : Value))) 228] ∧ Tr wx453 [.cells b387 (xs344.map (fun z9 : Bool => (.bool z9 : Value))) 228] wx507 [.cells b387 (xs344.map (fun z9 : Bool => (.bool z9 : Value))) 228]) (fun s507 => s507) (id := 0) rfl h ?_ ?_
   ·skip
    rintro s507 wx507 ⟨hS508, hT509⟩ h
    try dsimp only at h
    refine MX.sr ?_
    refine RG.mv rfl rfl ?_
    refine RG.sg rfl rfl ?_
    refine RG.nil ?_
    refine MX.ret rfl ?_
    refine RT.leave (u := .string s507) hb459 Tryz.func205 rfl (.cons (.tmp rfl) .nil) rfl ?_
    refine RG.sg rfl rfl ?_
    refine RG.nil ?_
    refine MX.ret rfl ?_
    refine RT.leave hb0 Tryz.func179 rfl (.cons (.tmp rfl) .nil) rfl ?_
    obtain rfl := Option.some.inj h
    exact ⟨hS508.ag, fun w9 hw9 => rfl⟩
   ·skip
    intro J511 hJ512 h
    try dsimp only at h
    obtain ⟨o532, ho531, hh533⟩ := bind_in2 h
    refine MX.loop (α := ByteArray) (fun s526 => [(0, .string s526), (1, .pointer (some ⟨b387, 0, none⟩))]) (fun s526 wx526 => St w wx526 [.cells b387 (xs344.map (fun z9 : Bool => (.bool z9 : Value))) 228] ∧ Tr wx453 [.cells b387 (xs344.map (fun z9 : Bool => (.bool z9 : Value))) 228] wx526 [.cells b387 (xs344.map (fun z9 : Bool => (.bool z9 : Value))) 228]) (fun s526 => s526) s453 ho531 ⟨rfl, rfl, trivial⟩ ⟨hS454, Tr.refl _ _⟩ ?_
    rintro J534 s526 wx526 hJ535 ⟨hS527, hT528⟩ h
    unfold strings_Trim_l4 at h
    try dsimp only at h
    refine MX.seq ?_
    refine MX.sr ?_
    refine RG.mv rfl rfl ?_
    refine RG.vv (FV.len_string Tryz.underlying9 rfl) rfl ?_
    refine RG.vv (FV.gtrN (i := s526.size) (j := 0) rfl rfl) rfl ?_
    refine RG.nil ?_
    refine MX.ifd rfl h (fun c536 h => ?_) (fun c536 h => ?_)
    ·skip
     refine MX.skip ?_
     refine MX.block ?_
     refine MX.seq ?_
     refine MX.sr ?_
     refine RG.mv rfl rfl ?_
     refine RG.mv rfl rfl ?_
     obtain ⟨z537, hz537, h⟩ := bind_in h
     refine RG.vv (FV.strAt (k := 0) Tryz.underlying9 rfl rfl rfl hz537) rfl ?_
     refine RG.enterP (fst := []) (cap := []) (vs := [.pointer (some ⟨b387, 0, none⟩), .int .u8 (z537.toNat : Int)]) .plain body217 Tryz.func217 rfl rfl rfl rfl (evs_cons rfl (evs_cons rfl evs_nil)) rfl (fun cs539 hb538 hp540 => ?_)
     refine MX.sr ?_
     refine RG.sg rfl rfl ?_
     refine RG.nil ?_
     refine MX.sr ?_
     refine RG.mv rfl rfl ?_
     refine RG.mv rfl rfl ?_
     refine RG.vv (FV.nilCheck rfl) rfl ?_
     obtain ⟨z541, hz541, h⟩ := bind_in h
     have hm542 := mem_elem1 (p := ⟨b387, 0, none⟩) (cs := xs344.map (fun z9 : Bool => (.bool z9 : Value))) (i := z537.toNat) (hS527.memA .hd) (arr_get0 (fun z9 : Bool => (.bool z9 : Value)) hz541)
     refine RG.vv (FV.indexArr (m := 1) (k := z537.toNat) (len := 256) (by kernel_rfl) rfl rfl rfl (arr_lt hz541 hl345)) rfl ?_
     refine RG.vv (FV.load1 (by kernel_rfl) rfl (hm542 0 _ rfl)) rfl ?_
     refine RG.sg rfl rfl ?_
     refine RG.nil ?_
     refine MX.ret rfl ?_
     refine RT.leave (u := .bool z541) hb538 Tryz.func217 rfl (.cons (.tmp rfl) .nil) rfl ?_
     refine RG.vv (FV.not rfl) rfl ?_
     refine RG.nil ?_
     refine MX.ifnb rfl h (fun c543 h => ?_) (fun c543 h => ?_)
     ·skip
      refine MX.skip ?_
      refine MX.region ?_
      refine RG.mv rfl rfl ?_
      obtain ⟨s544, hs544, h⟩ := bind_in h
      refine RG.vv (FV.strCut hs544 Tryz.underlying9 rfl ⟨_, rfl⟩ rfl) rfl ?_
      refine RG.sg rfl rfl ?_
      refine RG.nil ?_
      refine MX.inBlock ?_
      exact hJ535 s544 _ _ ⟨rfl, rfl, trivial⟩ ⟨hS527, hT528⟩ h
     refine MX.exit rfl ?_
     have h := hh533 _ h
     try dsimp only at h
     exact hJ512 s526 _ _ ⟨rfl, trivial⟩ ⟨hS527, hT528⟩ h
    refine MX.exit rfl ?_
    have h := hh533 _ h
    try dsimp only at h
    exact hJ512 s526 _ _ ⟨rfl, trivial⟩ ⟨hS527, hT528⟩ h
  ·skip
   intro J457 hJ458 h
   try dsimp only at h
   obtain ⟨hS562, hT563⟩ := St.arrB hS389 (.one .hd .done)
   obtain ⟨o570, ho569, hh571⟩ := bind_in2 h
   refine MX.loop (α := ByteArray) (fun s564 => [(0, .string s564), (1, .pointer (some ⟨b387, 0, none⟩))]) (fun s564 wx564 => St w wx564 [.cells b387 (xs344.map (fun z9 : Bool => (.bool z9 : Value))) 228] ∧ Tr w388 [.cells b387 (xs344.map (fun z9 : Bool => (.bool z9 : Value))) 228] wx564 [.cells b387 (xs344.map (fun z9 : Bool => (.bool z9 : Value))) 228]) (fun s564 => s564) a0 ho569 ⟨rfl, rfl, trivial⟩ ⟨hS562, Tr.refl _ _⟩ ?_
   rintro J572 s564 wx564 hJ573 ⟨hS565, hT566⟩ h
   unfold strings_Trim_l5 at h
   try dsimp only at h
   refine MX.seq ?_
   refine MX.sr ?_
   refine RG.mv rfl rfl ?_
   refine RG.vv (FV.len_string Tryz.underlying9 rfl) rfl ?_
   refine RG.vv (FV.gtrN (i := s564.size) (j := 0) rfl rfl) rfl ?_
   refine RG.nil ?_
   refine MX.ifd rfl h (fun c574 h => ?_) (fun c574 h => ?_)
   ·skip
    refine MX.skip ?_
    refine MX.block ?_
    refine MX.seq ?_
    refine MX.sr ?_
    refine RG.mv rfl rfl ?_
    refine RG.mv rfl rfl ?_
    refine RG.mv rfl rfl ?_
    refine RG.vv (FV.len_string Tryz.underlying9 rfl) rfl ?_
    obtain ⟨s575, hs575, h⟩ := bind_in h
    refine RG.vv (FV.subc (i := ((s564.size : Nat) : Int)) (j := 1) rfl rfl hs575) rfl ?_
    obtain ⟨z576, hz576, h⟩ := bind_in h
    obtain ⟨hi577, hx578⟩ := sidx_in hz576
    refine RG.vv (FV.strAt (k := s575.toNat) Tryz.underlying9 rfl rfl hi577 hx578) rfl ?_
    refine RG.enterP (fst := []) (cap := []) (vs := [.pointer (some ⟨b387, 0, none⟩), .int .u8 (z576.toNat : Int)]) .plain body217 Tryz.func217 rfl rfl rfl rfl (evs_cons rfl (evs_cons rfl evs_nil)) rfl (fun cs580 hb579 hp581 => ?_)
    refine MX.sr ?_
    refine RG.sg rfl rfl ?_
    refine RG.nil ?_
    refine MX.sr ?_
    refine RG.mv rfl rfl ?_
    refine RG.mv rfl rfl ?_
    refine RG.vv (FV.nilCheck rfl) rfl ?_
    obtain ⟨z582, hz582, h⟩ := bind_in h
    have hm583 := mem_elem1 (p := ⟨b387, 0, none⟩) (cs := xs344.map (fun z9 : Bool => (.bool z9 : Value))) (i := z576.toNat) (hS565.memA .hd) (arr_get0 (fun z9 : Bool => (.bool z9 : Value)) hz582)
    refine RG.vv (FV.indexArr (m := 1) (k := z576.toNat) (len := 256) (by kernel_rfl) rfl rfl rfl (arr_lt hz582 hl345)) rfl ?_
    refine RG.vv (FV.load1 (by kernel_rfl) rfl (hm583 0 _ rfl)) rfl ?_
    refine RG.sg rfl rfl ?_
    refine RG.nil ?_
    refine MX.ret rfl ?_
    refine RT.leave (u := .bool z582) hb579 Tryz.func217 rfl (.cons (.tmp rfl) .nil) rfl ?_
    refine RG.vv (FV.not rfl) rfl ?_
    refine RG.nil ?_
    refine MX.ifnb rfl h (fun c584 h => ?_) (fun c584 h => ?_)
    ·skip
     refine MX.skip ?_
     refine MX.region ?_
     refine RG.mv rfl rfl ?_
     refine RG.mv rfl rfl ?_
     refine RG.vv (FV.len_string Tryz.underlying9 rfl) rfl ?_
     obtain ⟨s585, hs585, h⟩ := bind_in h
     refine RG.vv (FV.subc (i := ((s564.size : Nat) : Int)) (j := 1) rfl rfl hs585) rfl ?_
     obtain ⟨s586, hs586, h⟩ := bind_in h
     refine RG.vv (FV.strCut hs586 Tryz.underlying9 rfl rfl ⟨_, rfl⟩) rfl ?_
     refine RG.sg rfl rfl ?_
     refine RG.nil ?_
     refine MX.inBlock ?_
     exact hJ573 s586 _ _ ⟨rfl, rfl, trivial⟩ ⟨hS565, hT566⟩ h
    refine MX.exit rfl ?_
    have h := hh571 _ h
    try dsimp only at h
    exact hJ458 s564 _ _ ⟨rfl, trivial⟩ ⟨hS565, (Tr.trans hT563 hT566)⟩ h
   refine MX.exit rfl ?_
   have h := hh571 _ h
   try dsimp only at h
   exact hJ458 s564 _ _ ⟨rfl, trivial⟩ ⟨hS565, (Tr.trans hT563 hT566)⟩ h
def units_within_1_p (_n : Nat) (a0 : Int) (a1 : Int) : Option Bool :=
  (if a0 < 0 then some true else some (decide (a1 < a0)))
set_option maxRecDepth 4000 in
set_option maxHeartbeats 4000000 in
theorem units_within_1_c (n : Nat) (L : List Nat) (w : World) (_hL : ∀ b ∈ L, b < w.heap.size) (a0 : Int) (a1 : Int) {p1 : Nat} (m1 : ∀ j9 v9, ([.int .i64 a1] : List Value)[j9]? = some v9 → w.cell? ((⟨p1, 0, none⟩ : Addr).add j9) = some v9)  {r : Bool} (h : units_within_1_p n a0 a1 = some r) :
    Calls Tryz.prog 210 #[.int .i64 a0, .pointer (some ⟨p1, 0, none⟩)] w (Gives w fun _ u => u = .bool r) := by
  unfold units_within_1_p at h
  have hS0 := St.start w
  refine MX.start Tryz.func210 rfl rfl rfl (fun _ cs0 hb0 => ?_)
  refine MX.sr ?_
  refine RG.sg rfl rfl ?_
  refine RG.nil ?_
  refine MX.sr ?_
  refine RG.mv rfl rfl ?_
  refine RG.vv (FV.lss (i := a0) (j := 0) rfl rfl) rfl ?_
  refine RG.mv rfl rfl ?_
  refine RG.ifd (s := 6) rfl h (fun c1 h => ?_) (fun c1 h => ?_)
  ·skip
   refine RG.off (.no rfl rfl) rfl ?_
   refine RG.off (.no rfl rfl) rfl ?_
   refine RG.off (.no rfl rfl) rfl ?_
   refine RG.vv (FV.pick_t rfl rfl) rfl ?_
   refine RG.sg rfl rfl ?_
   refine RG.nil ?_
   refine MX.ret rfl ?_
   refine RT.leave hb0 Tryz.func210 rfl (.cons (.tmp rfl) .nil) rfl ?_
   obtain rfl := Option.some.inj h
   exact ⟨hS0.ag, fun w9 hw9 => rfl⟩
  refine RG.val' (.yes rfl rfl) (FV.move rfl) rfl ?_
  refine RG.val' (.yes rfl rfl) (FV.load1 (by kernel_rfl) rfl ((fun j9 v9 h9 => hS0.ag.cell0 (m1 j9 v9 h9)) 0 _ rfl)) rfl ?_
  refine RG.val' (.yes rfl rfl) (FV.gtr (i := a0) (j := a1) rfl rfl) rfl ?_
  refine RG.vv (FV.pick_f rfl rfl) rfl ?_
  refine RG.sg rfl rfl ?_
  refine RG.nil ?_
  refine MX.ret rfl ?_
  refine RT.leave hb0 Tryz.func210 rfl (.cons (.tmp rfl) .nil) rfl ?_
  obtain rfl := Option.some.inj h
  exact ⟨hS0.ag, fun w9 hw9 => rfl⟩
theorem body209 : bodyB Tryz.prog 209 = true := by kernel_rfl
theorem body210 : bodyB Tryz.prog 210 = true := by kernel_rfl
theorem body221 : bodyB Tryz.prog 221 = true := by kernel_rfl
def units_within_l1 (n : Nat) (a0 : List Int) (a2 : Int) (J40 : Nat → Option (Bool ⊕ Unit)) : Nat → Option (Bool ⊕ Unit)
  | i32 => (if i32 < a0.length then (a0[i32]?).bind fun x43 => (units_within_1_p n x43 a2).bind fun y53 => (if y53 = true then some (.inl (!(decide (0 ≤ i32)))) else J40 (i32 + 1)) else some (.inr ()))
def units_within_p (n : Nat) (a0 : List Int) (a1 : Int) (a2 : Int) : Option Bool :=
  (if ((a0.length : Nat) : Int) = a1 then thn (loopF (units_within_l1 n a0 a2) n 0) (fun _ => some (!(decide (0 ≤ (-1))))) else some false)
set_option maxRecDepth 4000 in
set_option maxHeartbeats 4000000 in
theorem units_within_c (n : Nat) (L : List Nat) (w : World) (hL : ∀ b ∈ L, b < w.heap.size) (a0 : List Int) {v0_0 : Value} (h0_0 : Rep.R w L [v0_0] a0) (a1 : Int) (a2 : Int)  {r : Bool} (h : units_within_p n a0 a1 a2 = some r) :
    Calls Tryz.prog 180 #[v0_0, .int .i64 a1, .int .i64 a2] w (Gives w fun _ u => u = .bool r) := by
  unfold units_within_p at h
  have hS0 := St.start w
  refine MX.start Tryz.func180 rfl rfl rfl (fun _ cs0 hb0 => ?_)
  refine MX.sr ?_
  refine RG.new .plain rfl (Does.box (vs := [.int .i64 a2]) hS0 rfl rfl) (fun w2 b5 hS3 hT4 => ?_)
  refine RG.sg rfl rfl ?_
  refine RG.nil ?_
  refine MX.sr ?_
  refine RG.mv rfl rfl ?_
  have hm7 := Rep.mv h0_0 hT4
  have hl6 : a0.length ≤ 281474976710656 := Rep.lenle hm7
  refine RG.vv (FV.len (xs := a0) Tryz.underlying45 rfl hm7) rfl ?_
  refine RG.mv rfl rfl ?_
  refine RG.vv (FV.eql (i := ((a0.length : Nat) : Int)) (j := a1) rfl rfl) rfl ?_
  refine RG.mv rfl rfl ?_
  refine RG.ifd (s := 11) rfl h (fun c8 h => ?_) (fun c8 h => ?_)
  ·skip
   refine RG.val' (.yes rfl rfl) (FV.move rfl) rfl ?_
   refine RG.val' (.yes rfl rfl) (FV.makeFunc (vs := []) (us := [.pointer (some ⟨b5, 0, none⟩)]) evs_nil (evs_cons rfl evs_nil)) rfl ?_
   refine RG.enterP (fst := []) (cap := []) (vs := [v0_0, .func (.func 210) #[] #[.pointer (some ⟨b5, 0, none⟩)]]) (.yes rfl rfl) body209 Tryz.func209 rfl rfl rfl rfl (evs_cons rfl (evs_cons rfl evs_nil)) rfl (fun cs10 hb9 hp11 => ?_)
   refine MX.sr ?_
   refine RG.sg rfl rfl ?_
   refine RG.nil ?_
   refine MX.sr ?_
   refine RG.mv rfl rfl ?_
   refine RG.mv rfl rfl ?_
   refine RG.enterP (fst := []) (cap := []) (vs := [v0_0, .func (.func 210) #[] #[.pointer (some ⟨b5, 0, none⟩)]]) .plain body221 Tryz.func221 rfl rfl rfl rfl (evs_cons rfl (evs_cons rfl evs_nil)) rfl (fun cs13 hb12 hp14 => ?_)
   refine MX.sr ?_
   refine RG.sg rfl rfl ?_
   refine RG.nil ?_
   refine MX.seq ?_
   refine MX.sr ?_
   refine RG.mv rfl rfl ?_
   refine RG.vv (FV.len (xs := a0) Tryz.underlying45 rfl hm7) rfl ?_
   refine RG.mv rfl rfl ?_
   refine RG.nil ?_
   refine MX.block ?_
   obtain ⟨o38, ho37, hh39⟩ := thn_in h
   refine MX.loop (α := Nat) (fun i32 => [(0, v0_0), (1, .func (.func 210) #[] #[.pointer (some ⟨b5, 0, none⟩)]), (7, .int .i64 ((a0.length : Nat) : Int)), (8, .int .i64 ((i32 : Nat) : Int))]) (fun i32 wx32 => St w wx32 [.cells b5 [.int .i64 a2] 3] ∧ Tr w2 [.cells b5 [.int .i64 a2] 3] wx32 [.cells b5 [.int .i64 a2] 3]) (fun i32 => i32) 0 ho37 ⟨rfl, rfl, rfl, rfl, trivial⟩ ⟨hS3, Tr.refl _ _⟩ ?_
   rintro J40 i32 wx32 hJ41 ⟨hS33, hT34⟩ h
   unfold units_within_l1 at h
   try dsimp only at h
   refine MX.sr ?_
   refine RG.vv (FV.lssN (i := i32) (j := a0.length) rfl rfl) rfl ?_
   refine RG.nil ?_
   refine MX.seq ?_
   refine MX.ifd rfl h (fun c42 h => ?_) (fun c42 h => ?_)
   ·skip
    refine MX.skip ?_
    refine MX.seq ?_
    refine MX.block ?_
    refine MX.sr ?_
    refine RG.mv rfl rfl ?_
    refine RG.sg rfl rfl ?_
    refine RG.nil ?_
    refine MX.sr ?_
    refine RG.mv rfl rfl ?_
    refine RG.mv rfl rfl ?_
    refine RG.mv rfl rfl ?_
    obtain ⟨x43, hx43, h⟩ := bind_in h
    have hm51 := Rep.mv h0_0 (Tr.trans hT4 hT34)
    obtain ⟨A44, c45, he46, hk47, cs48, hr49, hm50⟩ := Rep.nth hm51 hx43
    have he52 : cs48 = [.int .i64 x43] := hr49; subst he52
    refine RG.vv (FV.idxAddr (m := 1) (i := i32) (by kernel_rfl) rfl he46 rfl rfl hk47) rfl ?_
    refine RG.vv (FV.load1 (by kernel_rfl) rfl (hm50 0 _ rfl)) rfl ?_
    obtain ⟨y53, hy53, h⟩ := bind_in h
    refine RG.callq' (v := .bool y53) (fst := []) (cap := [.pointer (some ⟨b5, 0, none⟩)]) .plain body210 rfl (evs_cons rfl evs_nil) (fun w9 hw9 => units_within_1_c n _ w9 (hS33.hL0 hL hw9) x43 a2 (fun j9 v9 h9 => hw9.cell0 ((hS33.memA .hd) j9 v9 h9)) hy53) rfl ?_
    refine RG.nil ?_
    refine MX.ifb rfl h (fun c54 h => ?_) (fun c54 h => ?_)
    ·skip
     refine MX.sr ?_
     refine RG.mv rfl rfl ?_
     refine RG.sg rfl rfl ?_
     refine RG.nil ?_
     have h := thn_inl h hh39
     refine MX.ret rfl ?_
     refine RT.leave (u := .int .i64 ((i32 : Nat) : Int)) hb12 Tryz.func221 rfl (.cons (.tmp rfl) .nil) rfl ?_
     refine RG.vv (FV.geqN (i := i32) (j := 0) rfl rfl) rfl ?_
     refine RG.sg rfl rfl ?_
     refine RG.nil ?_
     refine MX.ret rfl ?_
     refine RT.leave (u := .bool (decide (0 ≤ i32))) hb9 Tryz.func209 rfl (.cons (.tmp rfl) .nil) rfl ?_
     refine RG.val' (.yes rfl rfl) (FV.not rfl) rfl ?_
     refine RG.vv (FV.pick_t rfl rfl) rfl ?_
     refine RG.sg rfl rfl ?_
     refine RG.nil ?_
     refine MX.ret rfl ?_
     refine RT.leave hb0 Tryz.func180 rfl (.cons (.tmp rfl) .nil) rfl ?_
     obtain rfl := Option.some.inj h
     exact ⟨hS33.ag, fun w9 hw9 => rfl⟩
    refine MX.skip ?_
    refine MX.inBlock ?_
    refine MX.region ?_
    refine RG.vv (FV.addN (i := i32) (j := 1) rfl rfl (by omega)) rfl ?_
    refine RG.mv rfl rfl ?_
    refine RG.nil ?_
    exact hJ41 (i32 + 1) _ _ ⟨rfl, rfl, rfl, rfl, trivial⟩ ⟨hS33, hT34⟩ h
   refine MX.exit rfl ?_
   have h := thn_inr h hh39
   try dsimp only at h
   refine MX.sr ?_
   refine RG.sg rfl rfl ?_
   refine RG.nil ?_
   refine MX.ret rfl ?_
   refine RT.leave (u := .int .i64 (-1)) hb12 Tryz.func221 rfl (.cons (.tmp rfl) .nil) rfl ?_
   refine RG.vv (FV.geq (i := (-1)) (j := 0) rfl rfl) rfl ?_
   refine RG.sg rfl rfl ?_
   refine RG.nil ?_
   refine MX.ret rfl ?_
   refine RT.leave (u := .bool (decide (0 ≤ (-1)))) hb9 Tryz.func209 rfl (.cons (.tmp rfl) .nil) rfl ?_
   refine RG.val' (.yes rfl rfl) (FV.not rfl) rfl ?_
   refine RG.vv (FV.pick_t rfl rfl) rfl ?_
   refine RG.sg rfl rfl ?_
   refine RG.nil ?_
   refine MX.ret rfl ?_
   refine RT.leave hb0 Tryz.func180 rfl (.cons (.tmp rfl) .nil) rfl ?_
   obtain rfl := Option.some.inj h
   exact ⟨hS33.ag, fun w9 hw9 => rfl⟩
  refine RG.off (.no rfl rfl) rfl ?_
  refine RG.off (.no rfl rfl) rfl ?_
  refine RG.off (.no rfl rfl) rfl ?_
  refine RG.off (.no rfl rfl) rfl ?_
  refine RG.vv (FV.pick_f rfl rfl) rfl ?_
  refine RG.sg rfl rfl ?_
  refine RG.nil ?_
  refine MX.ret rfl ?_
  refine RT.leave hb0 Tryz.func180 rfl (.cons (.tmp rfl) .nil) rfl ?_
  obtain rfl := Option.some.inj h
  exact ⟨hS3.ag, fun w9 hw9 => rfl⟩
structure TUnit where
  fName : ByteArray
  fPeople : Int
  fGroups : List Int
  fVotes : List Int
  fParents : List Int
  fWater : Bool
  deriving DecidableEq
instance : Rep TUnit := Rep.via (β := ByteArray × Int × (List Int) × (List Int) × (List Int) × Bool) fun x => (x.fName, x.fPeople, x.fGroups, x.fVotes, x.fParents, x.fWater)
structure TRoll where
  fGroups : Int
  fParties : Int
  fLevels : Int
  fUnits : List TUnit
  deriving DecidableEq
instance : Rep TRoll := Rep.via (β := Int × Int × Int × (List TUnit)) fun x => (x.fGroups, x.fParties, x.fLevels, x.fUnits)
def tb142_4 : List (Nat × Nat × Nat) := [(0, 512, 8), (1, 1024, 512), (2, 2048, 1024), (0, 4096, 8), (8, 8192, 4096), (16, 16384, 8192), (32, 32768, 16384), (0, 65536, 8), (128, 131072, 65536), (256, 262144, 131072), (512, 524288, 262144), (0, 1048576, 8), (2048, 2097152, 1048576), (4096, 4194304, 2097152), (0, 8388608, 8), (16384, 16777216, 8388608), (0, 33554432, 32), (98304, 67108864, 50331648), (0, 134217728, 8), (262144, 268435456, 134217728), (0, 536870912, 4), (1048576, 1073741824, 536870912), (0, 2147483648, 8), (4194304, 4294967296, 2147483648), (11010560, 8589934592, 5637144576), (0, 17179869184, 8), (33554432, 34359738368, 17179869184), (0, 68719476736, 4), (134217728, 137438953472, 68719476736), (0, 274877906944, 32), (889192448, 549755813888, 446676598784), (0, 1099511627776, 8), (2147483648, 2199023255552, 1099511627776), (0, 4398046511104, 4), (8589934592, 8796093022208, 4398046511104), (0, 17592186044416, 64), (56908316672, 35184372088832, 28587302322176), (69810136132, 70368744177664, 35742789699584), (206158430208, 140737488355328, 70368744177664), (549755813887, 16, 140737488355328)]
theorem el169 : ElT Tryz.prog 169 4 (Rep.size Bool) 1 (.bool false) [.bool false] := ⟨Tryz.underlying169, by kernel_rfl, rfl, rfl, rfl, rfl⟩
theorem body141 : bodyB Tryz.prog 141 = true := by kernel_rfl
theorem body179 : bodyB Tryz.prog 179 = true := by kernel_rfl
theorem body180 : bodyB Tryz.prog 180 = true := by kernel_rfl
def units_right_p (n : Nat) (a0 : TRoll) (a1 : TUnit) : Option Bool :=
  jn (fun (i12, i13) => (strings_Trim_p n a1.fName ⟨#[65, 66, 67, 68, 69, 70, 71, 72, 73, 74, 75, 76, 77, 78, 79, 80, 81, 82, 83, 84, 85, 86, 87, 88, 89, 90, 97, 98, 99, 100, 101, 102, 103, 104, 105, 106, 107, 108, 109, 110, 111, 112, 113, 114, 115, 116, 117, 118, 119, 120, 121, 122, 48, 49, 50, 51, 52, 53, 54, 55, 56, 57, 45, 95]⟩).bind fun y21 => (units_within_p n a1.fGroups a0.fGroups a1.fPeople).bind fun y22 => (units_within_p n a1.fVotes a0.fParties ((i12 : Nat) : Int)).bind fun y24 => (units_within_p n a1.fParents a0.fLevels ((i13 : Nat) : Int)).bind fun y26 => (units_every_p n ([(!(decide (a1.fName = ⟨#[]⟩))), (decide (a1.fName.size ≤ 12)), (decide (y21 = ⟨#[]⟩)), (decide (0 ≤ a1.fPeople)), (decide (a1.fPeople ≤ ((i12 : Nat) : Int))), y22, y24, y26] : List Bool)).bind fun y34 => some y34) (fun J17 => (if a1.fWater = true then J17 (0, 0) else J17 (1000000000, 63)))
set_option maxRecDepth 4000 in
set_option maxHeartbeats 4000000 in
theorem units_right_c (n : Nat) (L : List Nat) (w : World) (hL : ∀ b ∈ L, b < w.heap.size) (a0 : TRoll) {v0_3 : Value} (h0_3 : Rep.R w L [v0_3] a0.fUnits) (a1 : TUnit) {v1_2 : Value} (h1_2 : Rep.R w L [v1_2] a1.fGroups) {v1_3 : Value} (h1_3 : Rep.R w L [v1_3] a1.fVotes) {v1_4 : Value} (h1_4 : Rep.R w L [v1_4] a1.fParents)  {r : Bool} (h : units_right_p n a0 a1 = some r) :
    Calls Tryz.prog 142 #[.agg #[.int .i64 a0.fGroups, .int .i64 a0.fParties, .int .i64 a0.fLevels, v0_3], .agg #[.string a1.fName, .int .i64 a1.fPeople, v1_2, v1_3, v1_4, .bool a1.fWater]] w (Gives w fun _ u => u = .bool r) := by
  unfold units_right_p at h
  have hS0 := St.start w
  refine MX.start Tryz.func142 rfl rfl rfl (fun _ cs0 hb0 => ?_)
  refine MX.sr ?_
  refine RG.new .plain rfl (Does.box (vs := [.int .i64 a0.fGroups, .int .i64 a0.fParties, .int .i64 a0.fLevels, v0_3]) hS0 rfl rfl) (fun w2 b5 hS3 hT4 => ?_)
  refine RG.new .plain rfl (Does.box (vs := [.string a1.fName, .int .i64 a1.fPeople, v1_2, v1_3, v1_4, .bool a1.fWater]) hS3 rfl rfl) (fun w7 b10 hS8 hT9 => ?_)
  refine RG.sg rfl rfl ?_
  refine RG.nil ?_
  refine MX.sr ?_
  refine RG.sg rfl rfl ?_
  refine RG.sg rfl rfl ?_
  refine RG.nil ?_
  refine MX.seq ?_
  refine MX.sr ?_
  refine RG.vv (FV.fieldAddr (off := 5) (by kernel_rfl) rfl) rfl ?_
  refine RG.vv (FV.load1 (by kernel_rfl) rfl ((hS8.memA .hd) 5 _ rfl)) rfl ?_
  refine RG.nil ?_
  refine MX.join (α := Nat × Nat) (fun ⟨i12, i13⟩ => [(2, .pointer (some ⟨b5, 0, none⟩)), (3, .pointer (some ⟨b10, 0, none⟩)), (5, .int .i64 ((i12 : Nat) : Int)), (6, .int .i64 ((i13 : Nat) : Int))]) (fun ⟨i12, i13⟩ wx13 => St w wx13 [.cells b10 [.string a1.fName, .int .i64 a1.fPeople, v1_2, v1_3, v1_4, .bool a1.fWater] 65, .cells b5 [.int .i64 a0.fGroups, .int .i64 a0.fParties, .int .i64 a0.fLevels, v0_3] 44] ∧ Tr w7 [.cells b10 [.string a1.fName, .int .i64 a1.fPeople, v1_2, v1_3, v1_4, .bool a1.fWater] 65, .cells b5 [.int .i64 a0.fGroups, .int .i64 a0.fParties, .int .i64 a0.fLevels, v0_3] 44] wx13 [.cells b10 [.string a1.fName, .int .i64 a1.fPeople, v1_2, v1_3, v1_4, .bool a1.fWater] 65, .cells b5 [.int .i64 a0.fGroups, .int .i64 a0.fParties, .int .i64 a0.fLevels, v0_3] 44]) (fun ⟨i12, i13⟩ => (i12, i13)) h ?_ ?_
  ·skip
   rintro ⟨i12, i13⟩ wx13 ⟨hS14, hT15⟩ h
   try dsimp only at h
   refine MX.seq ?_
   refine MX.drawT 40 tb142_4 (by kernel_rfl) (by kernel_rfl) (by kernel_rfl) (fun kt19 kp20 => ?_)
   refine RD.vw 0 1 kt19 rfl kp20 (fun _ => FV.fieldAddr (off := 0) (by kernel_rfl) rfl) rfl ?_
   refine RD.vx 1 3 962072674308 kt19 rfl kp20 (FV.load1 (by kernel_rfl) rfl ((hS14.memA .hd) 0 _ rfl)) rfl ?_
   refine RD.vw 2 7 kt19 rfl kp20 (fun _ => FV.neqS rfl rfl) rfl ?_
   refine RD.vw 3 15 kt19 rfl kp20 (fun _ => FV.fieldAddr (off := 0) (by kernel_rfl) rfl) rfl ?_
   refine RD.vx 4 31 962072674400 kt19 rfl kp20 (FV.load1 (by kernel_rfl) rfl ((hS14.memA .hd) 0 _ rfl)) rfl ?_
   refine RD.vx 5 63 962072674368 kt19 rfl kp20 (FV.len_string Tryz.underlying9 rfl) rfl ?_
   refine RD.vw 6 127 kt19 rfl kp20 (fun _ => FV.leqN (i := a1.fName.size) (j := 12) rfl rfl) rfl ?_
   refine RD.vw 7 255 kt19 rfl kp20 (fun _ => FV.fieldAddr (off := 0) (by kernel_rfl) rfl) rfl ?_
   refine RD.vx 8 511 1031882671616 kt19 rfl kp20 (FV.load1 (by kernel_rfl) rfl ((hS14.memA .hd) 0 _ rfl)) rfl ?_
   obtain ⟨y21, hy21, h⟩ := bind_in h
   refine RD.cq 9 1023 1031882671104 (.string y21) kt19 rfl kp20 body179 rfl (evs_cons rfl (evs_cons rfl evs_nil)) (fun w9 hw9 => strings_Trim_c n _ w9 (hS14.hL0 hL hw9) a1.fName ⟨#[65, 66, 67, 68, 69, 70, 71, 72, 73, 74, 75, 76, 77, 78, 79, 80, 81, 82, 83, 84, 85, 86, 87, 88, 89, 90, 97, 98, 99, 100, 101, 102, 103, 104, 105, 106, 107, 108, 109, 110, 111, 112, 113, 114, 115, 116, 117, 118, 119, 120, 121, 122, 48, 49, 50, 51, 52, 53, 54, 55, 56, 57, 45, 95]⟩ hy21) rfl ?_
   refine RD.vw 10 2047 kt19 rfl kp20 (fun _ => FV.eqlS rfl rfl) rfl ?_
   refine RD.vw 11 4095 kt19 rfl kp20 (fun _ => FV.fieldAddr (off := 1) (by kernel_rfl) rfl) rfl ?_
   refine RD.vx 12 8191 962072682496 kt19 rfl kp20 (FV.load1 (by kernel_rfl) rfl ((hS14.memA .hd) 1 _ rfl)) rfl ?_
   refine RD.vw 13 16383 kt19 rfl kp20 (fun _ => FV.geq (i := a1.fPeople) (j := 0) rfl rfl) rfl ?_
   refine RD.vw 14 32767 kt19 rfl kp20 (fun _ => FV.fieldAddr (off := 1) (by kernel_rfl) rfl) rfl ?_
   refine RD.vx 15 65535 962072805376 kt19 rfl kp20 (FV.load1 (by kernel_rfl) rfl ((hS14.memA .hd) 1 _ rfl)) rfl ?_
   refine RD.vw 16 131071 kt19 rfl kp20 (fun _ => FV.move rfl) rfl ?_
   refine RD.vw 17 262143 kt19 rfl kp20 (fun _ => FV.leq (i := a1.fPeople) (j := ((i12 : Nat) : Int)) rfl rfl) rfl ?_
   refine RD.vw 18 524287 kt19 rfl kp20 (fun _ => FV.fieldAddr (off := 2) (by kernel_rfl) rfl) rfl ?_
   refine RD.vx 19 1048575 1031882670080 kt19 rfl kp20 (FV.load1 (by kernel_rfl) rfl ((hS14.memA .hd) 2 _ rfl)) rfl ?_
   refine RD.vw 20 2097151 kt19 rfl kp20 (fun _ => FV.fieldAddr (off := 0) (by kernel_rfl) rfl) rfl ?_
   refine RD.vx 21 4194303 1031882670080 kt19 rfl kp20 (FV.load1 (by kernel_rfl) rfl ((hS14.memA (.tl .hd)) 0 _ rfl)) rfl ?_
   refine RD.vw 22 8388607 kt19 rfl kp20 (fun _ => FV.fieldAddr (off := 1) (by kernel_rfl) rfl) rfl ?_
   refine RD.vx 23 16777215 1031882670080 kt19 rfl kp20 (FV.load1 (by kernel_rfl) rfl ((hS14.memA .hd) 1 _ rfl)) rfl ?_
   obtain ⟨y22, hy22, h⟩ := bind_in h
   have hm23 := Rep.mv h1_2 (Tr.trans hT4 (Tr.trans hT9 hT15))
   refine RD.cq 24 33554431 1031865892864 (.bool y22) kt19 rfl kp20 body180 rfl (evs_cons rfl (evs_cons rfl (evs_cons rfl evs_nil))) (fun w9 hw9 => units_within_c n _ w9 (hS14.hL0 hL hw9) a1.fGroups (Rep.keep0 (Rep.dropS hS14 hm23) hw9) a0.fGroups a1.fPeople hy22) rfl ?_
   refine RD.vw 25 67108863 kt19 rfl kp20 (fun _ => FV.fieldAddr (off := 3) (by kernel_rfl) rfl) rfl ?_
   refine RD.vx 26 134217727 1031865892864 kt19 rfl kp20 (FV.load1 (by kernel_rfl) rfl ((hS14.memA .hd) 3 _ rfl)) rfl ?_
   refine RD.vw 27 268435455 kt19 rfl kp20 (fun _ => FV.fieldAddr (off := 1) (by kernel_rfl) rfl) rfl ?_
   refine RD.vx 28 536870911 1031865892864 kt19 rfl kp20 (FV.load1 (by kernel_rfl) rfl ((hS14.memA (.tl .hd)) 1 _ rfl)) rfl ?_
   refine RD.vw 29 1073741823 kt19 rfl kp20 (fun _ => FV.move rfl) rfl ?_
   obtain ⟨y24, hy24, h⟩ := bind_in h
   have hm25 := Rep.mv h1_3 (Tr.trans hT4 (Tr.trans hT9 hT15))
   refine RD.cq 30 2147483647 1030792151040 (.bool y24) kt19 rfl kp20 body180 rfl (evs_cons rfl (evs_cons rfl (evs_cons rfl evs_nil))) (fun w9 hw9 => units_within_c n _ w9 (hS14.hL0 hL hw9) a1.fVotes (Rep.keep0 (Rep.dropS hS14 hm25) hw9) a0.fParties ((i12 : Nat) : Int) hy24) rfl ?_
   refine RD.vw 31 4294967295 kt19 rfl kp20 (fun _ => FV.fieldAddr (off := 4) (by kernel_rfl) rfl) rfl ?_
   refine RD.vx 32 8589934591 1030792151040 kt19 rfl kp20 (FV.load1 (by kernel_rfl) rfl ((hS14.memA .hd) 4 _ rfl)) rfl ?_
   refine RD.vw 33 17179869183 kt19 rfl kp20 (fun _ => FV.fieldAddr (off := 2) (by kernel_rfl) rfl) rfl ?_
   refine RD.vx 34 34359738367 1030792151040 kt19 rfl kp20 (FV.load1 (by kernel_rfl) rfl ((hS14.memA (.tl .hd)) 2 _ rfl)) rfl ?_
   refine RD.vw 35 68719476735 kt19 rfl kp20 (fun _ => FV.move rfl) rfl ?_
   obtain ⟨y26, hy26, h⟩ := bind_in h
   have hm27 := Rep.mv h1_4 (Tr.trans hT4 (Tr.trans hT9 hT15))
   refine RD.cq 36 137438953471 962072674304 (.bool y26) kt19 rfl kp20 body180 rfl (evs_cons rfl (evs_cons rfl (evs_cons rfl evs_nil))) (fun w9 hw9 => units_within_c n _ w9 (hS14.hL0 hL hw9) a1.fParents (Rep.keep0 (Rep.dropS hS14 hm27) hw9) a0.fLevels ((i13 : Nat) : Int) hy26) rfl ?_
   refine RD.nu 37 274877906943 kt19 rfl .plain rfl (Does.build (α := Bool) (xs := ([(!(decide (a1.fName = ⟨#[]⟩))), (decide (a1.fName.size ≤ 12)), (decide (y21 = ⟨#[]⟩)), (decide (0 ≤ a1.fPeople)), (decide (a1.fPeople ≤ ((i12 : Nat) : Int))), y22, y24, y26] : List Bool)) (vs := [.bool (!(decide (a1.fName = ⟨#[]⟩))), .bool (decide (a1.fName.size ≤ 12)), .bool (decide (y21 = ⟨#[]⟩)), .bool (decide (0 ≤ a1.fPeople)), .bool (decide (a1.fPeople ≤ ((i12 : Nat) : Int))), .bool y22, .bool y24, .bool y26]) (ds' := [.bool (!(decide (a1.fName = ⟨#[]⟩))), .bool (decide (a1.fName.size ≤ 12)), .bool (decide (y21 = ⟨#[]⟩)), .bool (decide (0 ≤ a1.fPeople)), .bool (decide (a1.fPeople ≤ ((i12 : Nat) : Int))), .bool y22, .bool y24, .bool y26]) rfl hS14 el169 rfl (evs_cons rfl (evs_cons rfl (evs_cons rfl (evs_cons rfl (evs_cons rfl (evs_cons rfl (evs_cons rfl (evs_cons rfl evs_nil)))))))) (by kernel_rfl) rfl) (fun w29 b32 hS30 hT31 => ?_)
   have hc33 := Cells.at_ (cs := [.bool (!(decide (a1.fName = ⟨#[]⟩))), .bool (decide (a1.fName.size ≤ 12)), .bool (decide (y21 = ⟨#[]⟩)), .bool (decide (0 ≤ a1.fPeople)), .bool (decide (a1.fPeople ≤ ((i12 : Nat) : Int))), .bool y22, .bool y24, .bool y26]) (xs := (([(!(decide (a1.fName = ⟨#[]⟩))), (decide (a1.fName.size ≤ 12)), (decide (y21 = ⟨#[]⟩)), (decide (0 ≤ a1.fPeople)), (decide (a1.fPeople ≤ ((i12 : Nat) : Int))), y22, y24, y26] : List Bool) : List Bool)) hS30 L (Cells.cons (cs := [.bool (!(decide (a1.fName = ⟨#[]⟩)))]) (ds := [.bool (decide (a1.fName.size ≤ 12)), .bool (decide (y21 = ⟨#[]⟩)), .bool (decide (0 ≤ a1.fPeople)), .bool (decide (a1.fPeople ≤ ((i12 : Nat) : Int))), .bool y22, .bool y24, .bool y26]) rfl (Cells.cons (cs := [.bool (decide (a1.fName.size ≤ 12))]) (ds := [.bool (decide (y21 = ⟨#[]⟩)), .bool (decide (0 ≤ a1.fPeople)), .bool (decide (a1.fPeople ≤ ((i12 : Nat) : Int))), .bool y22, .bool y24, .bool y26]) rfl (Cells.cons (cs := [.bool (decide (y21 = ⟨#[]⟩))]) (ds := [.bool (decide (0 ≤ a1.fPeople)), .bool (decide (a1.fPeople ≤ ((i12 : Nat) : Int))), .bool y22, .bool y24, .bool y26]) rfl (Cells.cons (cs := [.bool (decide (0 ≤ a1.fPeople))]) (ds := [.bool (decide (a1.fPeople ≤ ((i12 : Nat) : Int))), .bool y22, .bool y24, .bool y26]) rfl (Cells.cons (cs := [.bool (decide (a1.fPeople ≤ ((i12 : Nat) : Int)))]) (ds := [.bool y22, .bool y24, .bool y26]) rfl (Cells.cons (cs := [.bool y22]) (ds := [.bool y24, .bool y26]) rfl (Cells.cons (cs := [.bool y24]) (ds := [.bool y26]) rfl (Cells.cons (cs := [.bool y26]) (ds := []) rfl (Cells.nil _ _)))))))))
   obtain ⟨y34, hy34, h⟩ := bind_in h
   refine RD.cq 38 549755813887 549755813888 (.bool y34) kt19 rfl kp20 body141 rfl (evs_cons rfl evs_nil) (fun w9 hw9 => units_every_c n _ w9 (hS30.hL0 hL hw9) ([(!(decide (a1.fName = ⟨#[]⟩))), (decide (a1.fName.size ≤ 12)), (decide (y21 = ⟨#[]⟩)), (decide (0 ≤ a1.fPeople)), (decide (a1.fPeople ≤ ((i12 : Nat) : Int))), y22, y24, y26] : List Bool) (Rep.keep0 (St.lend (α := Bool) (L := L) hS30 .hd hc33 hL) hw9) hy34) rfl ?_
   refine RD.vw 39 1099511627775 kt19 rfl kp20 (fun _ => FV.assign rfl) rfl ?_
   refine RD.done (doneD_ok kt19 (by kernel_rfl)) ?_
   refine MX.ret rfl ?_
   refine RT.leave hb0 Tryz.func142 rfl (.cons (.tmp rfl) .nil) rfl ?_
   obtain rfl := Option.some.inj h
   exact ⟨hS30.ag, fun w9 hw9 => rfl⟩
  ·skip
   intro J17 hJ18 h
   try dsimp only at h
   refine MX.ifb rfl h (fun c35 h => ?_) (fun c35 h => ?_)
   ·skip
    refine MX.region ?_
    refine RG.sg rfl rfl ?_
    refine RG.sg rfl rfl ?_
    refine RG.nil ?_
    exact hJ18 (0, 0) _ _ ⟨rfl, rfl, rfl, rfl, trivial⟩ ⟨hS8, Tr.refl _ _⟩ h
   refine MX.skip ?_
   exact hJ18 (1000000000, 63) _ _ ⟨rfl, rfl, rfl, rfl, trivial⟩ ⟨hS8, Tr.refl _ _⟩ h
def tb101_9 : List (Nat × Nat × Nat) := [(0, 35184372088832, 2), (0, 70368744177664, 128), (3, 140737488355328, 105553116266496), (0, 281474976710656, 16), (0, 562949953421312, 128), (16, 1125899906842624, 562949953421312), (40, 2251799813685248, 1407374883553280), (64, 4503599627370496, 2251799813685248), (0, 9007199254740992, 128), (256, 18014398509481984, 9007199254740992), (516, 36028797018963968, 18014398509481984), (1024, 72057594037927936, 36028797018964000), (3072, 144115188075855872, 108086391056891904), (5120, 288230376151711744, 180143985094819840), (0, 576460752303423488, 64), (16384, 1152921504606846976, 576460752303423488), (33792, 2305843009213693952, 1152921504606846976), (65536, 4611686018427387904, 2305843009213694080), (196608, 9223372036854775808, 6917529027641081856), (327680, 18446744073709551616, 11529215046068469760), (589824, 36893488147419103232, 20752587082923245568), (1056900, 73786976294838206464, 37186362860686540800), (2162688, 147573952589676412928, 73786976294838206464), (4194304, 295147905179352825856, 147573952589676412928)]
theorem op_TUnit {w : World} {L : List Nat} {cs : List Value} {x : TUnit} (h : Rep.R w L cs x) : ∃ v2 v3 v4 : Value, cs = [.string x.fName, .int .i64 x.fPeople, v2, v3, v4, .bool x.fWater] ∧ Rep.R w L [v2] x.fGroups ∧ Rep.R w L [v3] x.fVotes ∧ Rep.R w L [v4] x.fParents := by
  obtain ⟨c0, r0, rfl, h0, h⟩ := h
  have e0 : c0 = [.string x.fName] := h0; subst e0
  obtain ⟨c1, r1, rfl, h1, h⟩ := h
  have e1 : c1 = [.int .i64 x.fPeople] := h1; subst e1
  obtain ⟨c2, r2, rfl, h2, h⟩ := h
  obtain ⟨v2, rfl, kv2⟩ := lst_one (xs := x.fGroups) h2
  obtain ⟨c3, r3, rfl, h3, h⟩ := h
  obtain ⟨v3, rfl, kv3⟩ := lst_one (xs := x.fVotes) h3
  obtain ⟨c4, r4, rfl, h4, h⟩ := h
  obtain ⟨v4, rfl, kv4⟩ := lst_one (xs := x.fParents) h4
  have e5 : r4 = [.bool x.fWater] := h; subst e5
  exact ⟨v2, v3, v4, rfl, kv2, kv3, kv4⟩
theorem mk_TUnit {w : World} {L : List Nat} (a0 : ByteArray) (a1 : Int) (a2 : List Int) {u2 : Value} (h2 : Rep.R w L [u2] a2) (a3 : List Int) {u3 : Value} (h3 : Rep.R w L [u3] a3) (a4 : List Int) {u4 : Value} (h4 : Rep.R w L [u4] a4) (a5 : Bool) : Rep.R w L [.string a0, .int .i64 a1, u2, u3, u4, .bool a5] (⟨a0, a1, a2, a3, a4, a5⟩ : TUnit) := ⟨[.string a0], [.int .i64 a1, u2, u3, u4, .bool a5], rfl, rfl, ⟨[.int .i64 a1], [u2, u3, u4, .bool a5], rfl, rfl, ⟨[u2], [u3, u4, .bool a5], rfl, h2, ⟨[u3], [u4, .bool a5], rfl, h3, ⟨[u4], [.bool a5], rfl, h4, rfl⟩⟩⟩⟩⟩
theorem body142 : bodyB Tryz.prog 142 = true := by kernel_rfl
def units_CheckRoll_l1 (n : Nat) (a0 : TRoll) (J207 : Bool × Nat × (List (ByteArray × Bool)) → Option (Int ⊕ Unit)) : Bool × Nat × (List (ByteArray × Bool)) → Option (Int ⊕ Unit)
  | (q197, i198, D199) => (if i198 < a0.fUnits.length then (a0.fUnits[i198]?).bind fun x210 => (units_right_p n a0 x210).bind fun y238 => (if x210.fWater = true then (if 0 < i198 then (units_every_p n ([y238, (!(mgetD D199 x210.fName false)), true, true] : List Bool)).bind fun y251 => (if y251 = true then J207 (x210.fWater, i198 + 1, mset D199 x210.fName true) else some (.inl (161 : Int))) else (units_every_p n ([y238, (!(mgetD D199 x210.fName false)), true, (!x210.fWater)] : List Bool)).bind fun y264 => (if y264 = true then J207 (x210.fWater, i198 + 1, mset D199 x210.fName true) else some (.inl (161 : Int)))) else (if 0 < i198 then (units_every_p n ([y238, (!(mgetD D199 x210.fName false)), (!q197), true] : List Bool)).bind fun y278 => (if y278 = true then J207 (x210.fWater, i198 + 1, mset D199 x210.fName true) else some (.inl (161 : Int))) else (units_every_p n ([y238, (!(mgetD D199 x210.fName false)), (!q197), (!x210.fWater)] : List Bool)).bind fun y291 => (if y291 = true then J207 (x210.fWater, i198 + 1, mset D199 x210.fName true) else some (.inl (161 : Int))))) else some (.inr ()))
def units_CheckRoll_p (n : Nat) (a0 : TRoll) : Option Int :=
  (units_every_p n ([(decide (0 ≤ a0.fGroups)), (decide (a0.fGroups ≤ 6)), (decide (0 ≤ a0.fParties)), (decide (a0.fParties ≤ 12)), (decide (0 ≤ a0.fLevels)), (decide (a0.fLevels ≤ 3)), (decide (0 < a0.fUnits.length)), (decide (a0.fUnits.length ≤ 64))] : List Bool)).bind fun y14 => (if y14 = true then thn (loopF (units_CheckRoll_l1 n a0) n (false, 0, ([] : List (ByteArray × Bool)))) (fun _ => some (0 : Int)) else some (161 : Int))
set_option maxRecDepth 4000 in
set_option maxHeartbeats 4000000 in
theorem units_CheckRoll_c (n : Nat) (L : List Nat) (w : World) (hL : ∀ b ∈ L, b < w.heap.size) (a0 : TRoll) {v0_3 : Value} (h0_3 : Rep.R w L [v0_3] a0.fUnits)  {r : Int} (h : units_CheckRoll_p n a0 = some r) :
    Calls Tryz.prog 101 #[.agg #[.int .i64 a0.fGroups, .int .i64 a0.fParties, .int .i64 a0.fLevels, v0_3]] w (Gives w fun _ u => u = .int .i64 r) := by
  unfold units_CheckRoll_p at h
  have hS0 := St.start w
  refine MX.start Tryz.func101 rfl rfl rfl (fun _ cs0 hb0 => ?_)
  refine MX.sr ?_
  refine RG.new .plain rfl (Does.box (vs := [.int .i64 a0.fGroups, .int .i64 a0.fParties, .int .i64 a0.fLevels, v0_3]) hS0 rfl rfl) (fun w2 b5 hS3 hT4 => ?_)
  refine RG.sg rfl rfl ?_
  refine RG.nil ?_
  refine MX.sr ?_
  refine RG.vv (FV.fieldAddr (off := 3) (by kernel_rfl) rfl) rfl ?_
  refine RG.vv (FV.load1 (by kernel_rfl) rfl ((hS3.memA .hd) 3 _ rfl)) rfl ?_
  have hm7 := Rep.mv h0_3 hT4
  have hl6 : a0.fUnits.length ≤ 281474976710656 := Rep.lenle hm7
  refine RG.vv (FV.len (xs := a0.fUnits) Tryz.underlying42 rfl hm7) rfl ?_
  refine RG.sg rfl rfl ?_
  refine RG.nil ?_
  refine MX.seq ?_
  refine MX.sr ?_
  refine RG.vv (FV.fieldAddr (off := 0) (by kernel_rfl) rfl) rfl ?_
  refine RG.vv (FV.load1 (by kernel_rfl) rfl ((hS3.memA .hd) 0 _ rfl)) rfl ?_
  refine RG.vv (FV.geq (i := a0.fGroups) (j := 0) rfl rfl) rfl ?_
  refine RG.vv (FV.fieldAddr (off := 0) (by kernel_rfl) rfl) rfl ?_
  refine RG.vv (FV.load1 (by kernel_rfl) rfl ((hS3.memA .hd) 0 _ rfl)) rfl ?_
  refine RG.vv (FV.leq (i := a0.fGroups) (j := 6) rfl rfl) rfl ?_
  refine RG.vv (FV.fieldAddr (off := 1) (by kernel_rfl) rfl) rfl ?_
  refine RG.vv (FV.load1 (by kernel_rfl) rfl ((hS3.memA .hd) 1 _ rfl)) rfl ?_
  refine RG.vv (FV.geq (i := a0.fParties) (j := 0) rfl rfl) rfl ?_
  refine RG.vv (FV.fieldAddr (off := 1) (by kernel_rfl) rfl) rfl ?_
  refine RG.vv (FV.load1 (by kernel_rfl) rfl ((hS3.memA .hd) 1 _ rfl)) rfl ?_
  refine RG.vv (FV.leq (i := a0.fParties) (j := 12) rfl rfl) rfl ?_
  refine RG.vv (FV.fieldAddr (off := 2) (by kernel_rfl) rfl) rfl ?_
  refine RG.vv (FV.load1 (by kernel_rfl) rfl ((hS3.memA .hd) 2 _ rfl)) rfl ?_
  refine RG.vv (FV.geq (i := a0.fLevels) (j := 0) rfl rfl) rfl ?_
  refine RG.vv (FV.fieldAddr (off := 2) (by kernel_rfl) rfl) rfl ?_
  refine RG.vv (FV.load1 (by kernel_rfl) rfl ((hS3.memA .hd) 2 _ rfl)) rfl ?_
  refine RG.vv (FV.leq (i := a0.fLevels) (j := 3) rfl rfl) rfl ?_
  refine RG.mv rfl rfl ?_
  refine RG.vv (FV.gtrN (i := a0.fUnits.length) (j := 0) rfl rfl) rfl ?_
  refine RG.mv rfl rfl ?_
  refine RG.vv (FV.leqN (i := a0.fUnits.length) (j := 64) rfl rfl) rfl ?_
  refine RG.new .plain rfl (Does.build (α := Bool) (xs := ([(decide (0 ≤ a0.fGroups)), (decide (a0.fGroups ≤ 6)), (decide (0 ≤ a0.fParties)), (decide (a0.fParties ≤ 12)), (decide (0 ≤ a0.fLevels)), (decide (a0.fLevels ≤ 3)), (decide (0 < a0.fUnits.length)), (decide (a0.fUnits.length ≤ 64))] : List Bool)) (vs := [.bool (decide (0 ≤ a0.fGroups)), .bool (decide (a0.fGroups ≤ 6)), .bool (decide (0 ≤ a0.fParties)), .bool (decide (a0.fParties ≤ 12)), .bool (decide (0 ≤ a0.fLevels)), .bool (decide (a0.fLevels ≤ 3)), .bool (decide (0 < a0.fUnits.length)), .bool (decide (a0.fUnits.length ≤ 64))]) (ds' := [.bool (decide (0 ≤ a0.fGroups)), .bool (decide (a0.fGroups ≤ 6)), .bool (decide (0 ≤ a0.fParties)), .bool (decide (a0.fParties ≤ 12)), .bool (decide (0 ≤ a0.fLevels)), .bool (decide (a0.fLevels ≤ 3)), .bool (decide (0 < a0.fUnits.length)), .bool (decide (a0.fUnits.length ≤ 64))]) rfl hS3 el169 rfl (evs_cons rfl (evs_cons rfl (evs_cons rfl (evs_cons rfl (evs_cons rfl (evs_cons rfl (evs_cons rfl (evs_cons rfl evs_nil)))))))) (by kernel_rfl) rfl) (fun w9 b12 hS10 hT11 => ?_)
  have hc13 := Cells.at_ (cs := [.bool (decide (0 ≤ a0.fGroups)), .bool (decide (a0.fGroups ≤ 6)), .bool (decide (0 ≤ a0.fParties)), .bool (decide (a0.fParties ≤ 12)), .bool (decide (0 ≤ a0.fLevels)), .bool (decide (a0.fLevels ≤ 3)), .bool (decide (0 < a0.fUnits.length)), .bool (decide (a0.fUnits.length ≤ 64))]) (xs := (([(decide (0 ≤ a0.fGroups)), (decide (a0.fGroups ≤ 6)), (decide (0 ≤ a0.fParties)), (decide (a0.fParties ≤ 12)), (decide (0 ≤ a0.fLevels)), (decide (a0.fLevels ≤ 3)), (decide (0 < a0.fUnits.length)), (decide (a0.fUnits.length ≤ 64))] : List Bool) : List Bool)) hS10 L (Cells.cons (cs := [.bool (decide (0 ≤ a0.fGroups))]) (ds := [.bool (decide (a0.fGroups ≤ 6)), .bool (decide (0 ≤ a0.fParties)), .bool (decide (a0.fParties ≤ 12)), .bool (decide (0 ≤ a0.fLevels)), .bool (decide (a0.fLevels ≤ 3)), .bool (decide (0 < a0.fUnits.length)), .bool (decide (a0.fUnits.length ≤ 64))]) rfl (Cells.cons (cs := [.bool (decide (a0.fGroups ≤ 6))]) (ds := [.bool (decide (0 ≤ a0.fParties)), .bool (decide (a0.fParties ≤ 12)), .bool (decide (0 ≤ a0.fLevels)), .bool (decide (a0.fLevels ≤ 3)), .bool (decide (0 < a0.fUnits.length)), .bool (decide (a0.fUnits.length ≤ 64))]) rfl (Cells.cons (cs := [.bool (decide (0 ≤ a0.fParties))]) (ds := [.bool (decide (a0.fParties ≤ 12)), .bool (decide (0 ≤ a0.fLevels)), .bool (decide (a0.fLevels ≤ 3)), .bool (decide (0 < a0.fUnits.length)), .bool (decide (a0.fUnits.length ≤ 64))]) rfl (Cells.cons (cs := [.bool (decide (a0.fParties ≤ 12))]) (ds := [.bool (decide (0 ≤ a0.fLevels)), .bool (decide (a0.fLevels ≤ 3)), .bool (decide (0 < a0.fUnits.length)), .bool (decide (a0.fUnits.length ≤ 64))]) rfl (Cells.cons (cs := [.bool (decide (0 ≤ a0.fLevels))]) (ds := [.bool (decide (a0.fLevels ≤ 3)), .bool (decide (0 < a0.fUnits.length)), .bool (decide (a0.fUnits.length ≤ 64))]) rfl (Cells.cons (cs := [.bool (decide (a0.fLevels ≤ 3))]) (ds := [.bool (decide (0 < a0.fUnits.length)), .bool (decide (a0.fUnits.length ≤ 64))]) rfl (Cells.cons (cs := [.bool (decide (0 < a0.fUnits.length))]) (ds := [.bool (decide (a0.fUnits.length ≤ 64))]) rfl (Cells.cons (cs := [.bool (decide (a0.fUnits.length ≤ 64))]) (ds := []) rfl (Cells.nil _ _)))))))))
  obtain ⟨y14, hy14, h⟩ := bind_in h
  refine RG.cq (.bool y14) body141 rfl (evs_cons rfl evs_nil) (fun w9 hw9 => units_every_c n _ w9 (hS10.hL0 hL hw9) ([(decide (0 ≤ a0.fGroups)), (decide (a0.fGroups ≤ 6)), (decide (0 ≤ a0.fParties)), (decide (a0.fParties ≤ 12)), (decide (0 ≤ a0.fLevels)), (decide (a0.fLevels ≤ 3)), (decide (0 < a0.fUnits.length)), (decide (a0.fUnits.length ≤ 64))] : List Bool) (Rep.keep0 (St.lend (α := Bool) (L := L) hS10 .hd hc13 hL) hw9) hy14) rfl ?_
  refine RG.vv (FV.not rfl) rfl ?_
  refine RG.nil ?_
  refine MX.ifnb rfl h (fun c15 h => ?_) (fun c15 h => ?_)
  ·skip
   refine MX.skip ?_
   refine MX.sr ?_
   refine RG.new .plain rfl (Does.makeMap (κ := ByteArray) (ν := Bool) hS10) (fun w17 b20 hS18 hT19 => ?_)
   refine RG.sg rfl rfl ?_
   refine RG.nil ?_
   refine MX.sr ?_
   refine RG.sg rfl rfl ?_
   refine RG.nil ?_
   refine MX.seq ?_
   refine MX.sr ?_
   refine RG.vv (FV.fieldAddr (off := 3) (by kernel_rfl) rfl) rfl ?_
   refine RG.vv (FV.load1 (by kernel_rfl) rfl ((hS18.memA (.tl (.tl .hd))) 3 _ rfl)) rfl ?_
   have hm21 := Rep.mv h0_3 (Tr.trans hT4 (Tr.trans hT11 hT19))
   refine RG.vv (FV.len (xs := a0.fUnits) Tryz.underlying42 rfl hm21) rfl ?_
   refine RG.mv rfl rfl ?_
   refine RG.nil ?_
   refine MX.block ?_
   obtain ⟨hS195, hT196⟩ := St.arrB hS18 (.one .hd (.one (.tl .hd) .done))
   obtain ⟨o205, ho204, hh206⟩ := thn_in h
   refine MX.loop (α := Bool × Nat × (List (ByteArray × Bool))) (fun ⟨q197, i198, D199⟩ => [(1, .pointer (some ⟨b5, 0, none⟩)), (4, .map (some b20)), (5, .bool q197), (38, v0_3), (39, .int .i64 ((a0.fUnits.length : Nat) : Int)), (40, .int .i64 ((i198 : Nat) : Int))]) (fun ⟨q197, i198, D199⟩ wx199 => St w wx199 [.obj b20 (mapO (D199 : List (ByteArray × Bool))), .cells b5 [.int .i64 a0.fGroups, .int .i64 a0.fParties, .int .i64 a0.fLevels, v0_3] 44] ∧ Tr w17 [.obj b20 (mapO ([] : List (ByteArray × Bool))), .cells b5 [.int .i64 a0.fGroups, .int .i64 a0.fParties, .int .i64 a0.fLevels, v0_3] 44] wx199 [.obj b20 (mapO (D199 : List (ByteArray × Bool))), .cells b5 [.int .i64 a0.fGroups, .int .i64 a0.fParties, .int .i64 a0.fLevels, v0_3] 44]) (fun ⟨q197, i198, D199⟩ => (q197, i198, D199)) (false, 0, ([] : List (ByteArray × Bool))) ho204 ⟨rfl, rfl, rfl, rfl, rfl, rfl, trivial⟩ ⟨hS195, Tr.refl _ _⟩ ?_
   rintro J207 ⟨q197, i198, D199⟩ wx199 hJ208 ⟨hS200, hT201⟩ h
   unfold units_CheckRoll_l1 at h
   try dsimp only at h
   refine MX.sr ?_
   refine RG.vv (FV.lssN (i := i198) (j := a0.fUnits.length) rfl rfl) rfl ?_
   refine RG.nil ?_
   refine MX.seq ?_
   refine MX.ifd rfl h (fun c209 h => ?_) (fun c209 h => ?_)
   ·skip
    refine MX.skip ?_
    refine MX.seq ?_
    refine MX.block ?_
    refine MX.sr ?_
    refine RG.mv rfl rfl ?_
    obtain ⟨x210, hx210, h⟩ := bind_in h
    have hm218 := Rep.mv h0_3 (Tr.trans hT4 (Tr.trans hT11 (Tr.trans hT19 (Tr.trans hT196 hT201))))
    obtain ⟨A211, c212, he213, hk214, cs215, hr216, hm217⟩ := Rep.nth hm218 hx210
    obtain ⟨v219, v220, v221, rfl, hr222, hr223, hr224⟩ := op_TUnit hr216
    refine RG.vv (FV.idxAddr (m := 6) (i := i198) (by kernel_rfl) rfl he213 rfl rfl hk214) rfl ?_
    refine RG.vv (FV.loadN (by kernel_rfl) rfl hm217) rfl ?_
    refine RG.new .plain rfl (Does.alloc (zs := [.string ⟨#[]⟩, .int .i64 0, .slice none 0 0, .slice none 0 0, .slice none 0 0, .bool false]) hS200 (zB (by kernel_rfl))) (fun w226 b229 hS227 hT228 => ?_)
    refine RG.sg rfl rfl ?_
    have hm230 := Rep.mv hr222 hT228
    have hm231 := Rep.mv hr223 hT228
    have hm232 := Rep.mv hr224 hT228
    refine RG.now .plain (Acts.storeAll (news := [.string x210.fName, .int .i64 x210.fPeople, v219, v220, v221, .bool x210.fWater]) hS227 .hd rfl rfl rfl rfl rfl rfl (ones_cons rfl (ones_cons rfl (ones_cons (Rep.o1 hm230) (ones_cons (Rep.o1 hm231) (ones_cons (Rep.o1 hm232) (ones_cons rfl ones_nil))))))) (fun w233 hS234 hT235 => ?_)
    refine RG.nil ?_
    refine MX.seq ?_
    refine MX.seq ?_
    refine MX.drawT 24 tb101_9 (by kernel_rfl) (by kernel_rfl) (by kernel_rfl) (fun kt236 kp237 => ?_)
    refine RD.vx 0 1 16727044 kt236 rfl kp237 (FV.loadN (by kernel_rfl) rfl (hS234.memA (.tl (.tl .hd)))) rfl ?_
    refine RD.vx 1 3 16727044 kt236 rfl kp237 (FV.loadN (by kernel_rfl) rfl (hS234.memA .hd)) rfl ?_
    obtain ⟨y238, hy238, h⟩ := bind_in h
    have hm239 := Rep.mv h0_3 (Tr.trans hT4 (Tr.trans hT11 (Tr.trans hT19 (Tr.trans hT196 (Tr.trans hT201 (Tr.trans hT228 hT235))))))
    have hm240 := Rep.mv hr222 (Tr.trans hT228 hT235)
    have hm241 := Rep.mv hr223 (Tr.trans hT228 hT235)
    have hm242 := Rep.mv hr224 (Tr.trans hT228 hT235)
    refine RD.cq 2 7 16727040 (.bool y238) kt236 rfl kp237 body142 rfl (evs_cons rfl (evs_cons rfl evs_nil)) (fun w9 hw9 => units_right_c n _ w9 (hS234.hL0 hL hw9) a0 (Rep.keep0 (Rep.dropS hS234 hm239) hw9) x210 (Rep.keep0 (Rep.dropS hS234 hm240) hw9) (Rep.keep0 (Rep.dropS hS234 hm241) hw9) (Rep.keep0 (Rep.dropS hS234 hm242) hw9) hy238) rfl ?_
    refine RD.vw 3 15 kt236 rfl kp237 (fun _ => FV.move rfl) rfl ?_
    refine RD.vw 4 31 kt236 rfl kp237 (fun _ => FV.fieldAddr (off := 0) (by kernel_rfl) rfl) rfl ?_
    refine RD.vx 5 63 14680256 kt236 rfl kp237 (FV.load1 (by kernel_rfl) rfl ((hS234.memA .hd) 0 _ rfl)) rfl ?_
    refine RD.vx 6 127 14680192 kt236 rfl kp237 (FV.lookup (kv := x210.fName) (z := false) hS234 (.tl .hd) Tryz.underlying177 Tryz.underlying9 rfl (by kernel_rfl) rfl rfl) rfl ?_
    refine RD.vw 7 255 kt236 rfl kp237 (fun _ => FV.not rfl) rfl ?_
    refine RD.vw 8 511 kt236 rfl kp237 (fun _ => FV.fieldAddr (off := 5) (by kernel_rfl) rfl) rfl ?_
    refine RD.vx 9 1023 16727040 kt236 rfl kp237 (FV.load1 (by kernel_rfl) rfl ((hS234.memA .hd) 5 _ rfl)) rfl ?_
    refine RD.vw 10 2047 kt236 rfl kp237 (fun _ => FV.move rfl) rfl ?_
    refine RD.ifb (s := 55) rfl h (fun c243 h => ?_) (fun c243 h => ?_)
    ·skip
     refine RD.offs 8191 11 [(11, 56), (12, 57)] (F := [(55, true)]) (U := []) kt236 kp237 (.cons rfl .nil) .nil ?_
     dsimp only [offS, List.map]
     refine RD.vw 13 16383 kt236 rfl kp237 (fun _ => FV.pick_t rfl rfl) rfl ?_
     refine RD.vw 14 32767 kt236 rfl kp237 (fun _ => FV.move rfl) rfl ?_
     refine RD.vw 15 65535 kt236 rfl kp237 (fun _ => FV.gtrN (i := i198) (j := 0) rfl rfl) rfl ?_
     refine RD.vw 16 131071 kt236 rfl kp237 (fun _ => FV.move rfl) rfl ?_
     refine RD.ifd (s := 61) rfl h (fun c244 h => ?_) (fun c244 h => ?_)
     ·skip
      refine RD.offs 1048575 4 [(17, 62), (18, 63), (19, 64)] (F := [(61, true)]) (U := []) kt236 kp237 (.cons rfl .nil) .nil ?_
      dsimp only [offS, List.map]
      refine RD.vw 20 2097151 kt236 rfl kp237 (fun _ => FV.pick_t rfl rfl) rfl ?_
      refine RD.nu 21 4194303 kt236 rfl .plain rfl (Does.build (α := Bool) (xs := ([y238, (!(mgetD D199 x210.fName false)), true, true] : List Bool)) (vs := [.bool y238, .bool (!(mgetD D199 x210.fName false)), .bool true, .bool true]) (ds' := [.bool y238, .bool (!(mgetD D199 x210.fName false)), .bool true, .bool true]) rfl hS234 el169 rfl (evs_cons rfl (evs_cons rfl (evs_cons rfl (evs_cons rfl evs_nil)))) (by kernel_rfl) rfl) (fun w246 b249 hS247 hT248 => ?_)
      have hc250 := Cells.at_ (cs := [.bool y238, .bool (!(mgetD D199 x210.fName false)), .bool true, .bool true]) (xs := (([y238, (!(mgetD D199 x210.fName false)), true, true] : List Bool) : List Bool)) hS247 L (Cells.cons (cs := [.bool y238]) (ds := [.bool (!(mgetD D199 x210.fName false)), .bool true, .bool true]) rfl (Cells.cons (cs := [.bool (!(mgetD D199 x210.fName false))]) (ds := [.bool true, .bool true]) rfl (Cells.cons (cs := [.bool true]) (ds := [.bool true]) rfl (Cells.cons (cs := [.bool true]) (ds := []) rfl (Cells.nil _ _)))))
      obtain ⟨y251, hy251, h⟩ := bind_in h
      refine RD.cq 22 8388607 8388608 (.bool y251) kt236 rfl kp237 body141 rfl (evs_cons rfl evs_nil) (fun w9 hw9 => units_every_c n _ w9 (hS247.hL0 hL hw9) ([y238, (!(mgetD D199 x210.fName false)), true, true] : List Bool) (Rep.keep0 (St.lend (α := Bool) (L := L) hS247 .hd hc250 hL) hw9) hy251) rfl ?_
      refine RD.vw 23 16777215 kt236 rfl kp237 (fun _ => FV.not rfl) rfl ?_
      refine RD.done (doneD_ok kt236 (by kernel_rfl)) ?_
      refine MX.ifnb rfl h (fun c252 h => ?_) (fun c252 h => ?_)
      ·skip
       refine MX.skip ?_
       refine MX.sr ?_
       refine RG.mv rfl rfl ?_
       refine RG.vv (FV.fieldAddr (off := 0) (by kernel_rfl) rfl) rfl ?_
       refine RG.vv (FV.load1 (by kernel_rfl) rfl ((hS247.memA (.tl .hd)) 0 _ rfl)) rfl ?_
       refine RG.now .plain (Acts.mapUpdate (kv := x210.fName) (vv := true) hS247 (.tl (.tl .hd)) Tryz.underlying177 Tryz.underlying9 rfl rfl rfl rfl) (fun w253 hS254 hT255 => ?_)
       refine RG.nil ?_
       refine MX.region ?_
       refine RG.vv (FV.fieldAddr (off := 5) (by kernel_rfl) rfl) rfl ?_
       refine RG.vv (FV.load1 (by kernel_rfl) rfl ((hS254.memA (.tl .hd)) 5 _ rfl)) rfl ?_
       refine RG.sg rfl rfl ?_
       refine RG.nil ?_
       refine MX.inBlock ?_
       refine MX.region ?_
       refine RG.vv (FV.addN (i := i198) (j := 1) rfl rfl (by omega)) rfl ?_
       refine RG.mv rfl rfl ?_
       refine RG.nil ?_
       obtain ⟨hS256, hT257⟩ := St.arrB hS254 (.one (.tl (.tl .hd)) (.one (.tl (.tl .hd)) .done))
       exact hJ208 (x210.fWater, i198 + 1, mset D199 x210.fName true) _ _ ⟨rfl, rfl, rfl, rfl, rfl, rfl, trivial⟩ ⟨hS256, (Tr.trans hT201 (Tr.trans hT228 (Tr.trans hT235 (Tr.trans hT248 (Tr.trans hT255 hT257)))))⟩ h
      refine MX.sr ?_
      refine RG.sg rfl rfl ?_
      refine RG.nil ?_
      have h := thn_inl h hh206
      refine MX.ret rfl ?_
      refine RT.leave hb0 Tryz.func101 rfl (.cons (.tmp rfl) .nil) rfl ?_
      obtain rfl := Option.some.inj h
      exact ⟨hS247.ag, fun w9 hw9 => rfl⟩
     refine RD.vP 17 262143 kt236 rfl kp237 (.yes rfl rfl) (fun _ => FV.fieldAddr (off := 5) (by kernel_rfl) rfl) rfl ?_
     refine RD.val (i := 18) (m' := 524287) (W := 16252928) (takeC_ok kt236 (by kernel_rfl)) rfl kp237 (.yes rfl rfl) (FV.load1 (by kernel_rfl) rfl ((hS234.memA .hd) 5 _ rfl)) rfl ?_
     refine RD.vP 19 1048575 kt236 rfl kp237 (.yes rfl rfl) (fun _ => FV.not rfl) rfl ?_
     refine RD.vw 20 2097151 kt236 rfl kp237 (fun _ => FV.pick_f rfl rfl) rfl ?_
     refine RD.nu 21 4194303 kt236 rfl .plain rfl (Does.build (α := Bool) (xs := ([y238, (!(mgetD D199 x210.fName false)), true, (!x210.fWater)] : List Bool)) (vs := [.bool y238, .bool (!(mgetD D199 x210.fName false)), .bool true, .bool (!x210.fWater)]) (ds' := [.bool y238, .bool (!(mgetD D199 x210.fName false)), .bool true, .bool (!x210.fWater)]) rfl hS234 el169 rfl (evs_cons rfl (evs_cons rfl (evs_cons rfl (evs_cons rfl evs_nil)))) (by kernel_rfl) rfl) (fun w259 b262 hS260 hT261 => ?_)
     have hc263 := Cells.at_ (cs := [.bool y238, .bool (!(mgetD D199 x210.fName false)), .bool true, .bool (!x210.fWater)]) (xs := (([y238, (!(mgetD D199 x210.fName false)), true, (!x210.fWater)] : List Bool) : List Bool)) hS260 L (Cells.cons (cs := [.bool y238]) (ds := [.bool (!(mgetD D199 x210.fName false)), .bool true, .bool (!x210.fWater)]) rfl (Cells.cons (cs := [.bool (!(mgetD D199 x210.fName false))]) (ds := [.bool true, .bool (!x210.fWater)]) rfl (Cells.cons (cs := [.bool true]) (ds := [.bool (!x210.fWater)]) rfl (Cells.cons (cs := [.bool (!x210.fWater)]) (ds := []) rfl (Cells.nil _ _)))))
     obtain ⟨y264, hy264, h⟩ := bind_in h
     refine RD.cq 22 8388607 8388608 (.bool y264) kt236 rfl kp237 body141 rfl (evs_cons rfl evs_nil) (fun w9 hw9 => units_every_c n _ w9 (hS260.hL0 hL hw9) ([y238, (!(mgetD D199 x210.fName false)), true, (!x210.fWater)] : List Bool) (Rep.keep0 (St.lend (α := Bool) (L := L) hS260 .hd hc263 hL) hw9) hy264) rfl ?_
     refine RD.vw 23 16777215 kt236 rfl kp237 (fun _ => FV.not rfl) rfl ?_
     refine RD.done (doneD_ok kt236 (by kernel_rfl)) ?_
     refine MX.ifnb rfl h (fun c265 h => ?_) (fun c265 h => ?_)
     ·skip
      refine MX.skip ?_
      refine MX.sr ?_
      refine RG.mv rfl rfl ?_
      refine RG.vv (FV.fieldAddr (off := 0) (by kernel_rfl) rfl) rfl ?_
      refine RG.vv (FV.load1 (by kernel_rfl) rfl ((hS260.memA (.tl .hd)) 0 _ rfl)) rfl ?_
      refine RG.now .plain (Acts.mapUpdate (kv := x210.fName) (vv := true) hS260 (.tl (.tl .hd)) Tryz.underlying177 Tryz.underlying9 rfl rfl rfl rfl) (fun w266 hS267 hT268 => ?_)
      refine RG.nil ?_
      refine MX.region ?_
      refine RG.vv (FV.fieldAddr (off := 5) (by kernel_rfl) rfl) rfl ?_
      refine RG.vv (FV.load1 (by kernel_rfl) rfl ((hS267.memA (.tl .hd)) 5 _ rfl)) rfl ?_
      refine RG.sg rfl rfl ?_
      refine RG.nil ?_
      refine MX.inBlock ?_
      refine MX.region ?_
      refine RG.vv (FV.addN (i := i198) (j := 1) rfl rfl (by omega)) rfl ?_
      refine RG.mv rfl rfl ?_
      refine RG.nil ?_
      obtain ⟨hS269, hT270⟩ := St.arrB hS267 (.one (.tl (.tl .hd)) (.one (.tl (.tl .hd)) .done))
      exact hJ208 (x210.fWater, i198 + 1, mset D199 x210.fName true) _ _ ⟨rfl, rfl, rfl, rfl, rfl, rfl, trivial⟩ ⟨hS269, (Tr.trans hT201 (Tr.trans hT228 (Tr.trans hT235 (Tr.trans hT261 (Tr.trans hT268 hT270)))))⟩ h
     refine MX.sr ?_
     refine RG.sg rfl rfl ?_
     refine RG.nil ?_
     have h := thn_inl h hh206
     refine MX.ret rfl ?_
     refine RT.leave hb0 Tryz.func101 rfl (.cons (.tmp rfl) .nil) rfl ?_
     obtain rfl := Option.some.inj h
     exact ⟨hS260.ag, fun w9 hw9 => rfl⟩
    refine RD.vP 11 4095 kt236 rfl kp237 (.yes rfl rfl) (fun _ => FV.move rfl) rfl ?_
    refine RD.vP 12 8191 kt236 rfl kp237 (.yes rfl rfl) (fun _ => FV.not rfl) rfl ?_
    refine RD.vw 13 16383 kt236 rfl kp237 (fun _ => FV.pick_f rfl rfl) rfl ?_
    refine RD.vw 14 32767 kt236 rfl kp237 (fun _ => FV.move rfl) rfl ?_
    refine RD.vw 15 65535 kt236 rfl kp237 (fun _ => FV.gtrN (i := i198) (j := 0) rfl rfl) rfl ?_
    refine RD.vw 16 131071 kt236 rfl kp237 (fun _ => FV.move rfl) rfl ?_
    refine RD.ifd (s := 61) rfl h (fun c271 h => ?_) (fun c271 h => ?_)
    ·skip
     refine RD.offs 1048575 4 [(17, 62), (18, 63), (19, 64)] (F := [(61, true)]) (U := []) kt236 kp237 (.cons rfl .nil) .nil ?_
     dsimp only [offS, List.map]
     refine RD.vw 20 2097151 kt236 rfl kp237 (fun _ => FV.pick_t rfl rfl) rfl ?_
     refine RD.nu 21 4194303 kt236 rfl .plain rfl (Does.build (α := Bool) (xs := ([y238, (!(mgetD D199 x210.fName false)), (!q197), true] : List Bool)) (vs := [.bool y238, .bool (!(mgetD D199 x210.fName false)), .bool (!q197), .bool true]) (ds' := [.bool y238, .bool (!(mgetD D199 x210.fName false)), .bool (!q197), .bool true]) rfl hS234 el169 rfl (evs_cons rfl (evs_cons rfl (evs_cons rfl (evs_cons rfl evs_nil)))) (by kernel_rfl) rfl) (fun w273 b276 hS274 hT275 => ?_)
     have hc277 := Cells.at_ (cs := [.bool y238, .bool (!(mgetD D199 x210.fName false)), .bool (!q197), .bool true]) (xs := (([y238, (!(mgetD D199 x210.fName false)), (!q197), true] : List Bool) : List Bool)) hS274 L (Cells.cons (cs := [.bool y238]) (ds := [.bool (!(mgetD D199 x210.fName false)), .bool (!q197), .bool true]) rfl (Cells.cons (cs := [.bool (!(mgetD D199 x210.fName false))]) (ds := [.bool (!q197), .bool true]) rfl (Cells.cons (cs := [.bool (!q197)]) (ds := [.bool true]) rfl (Cells.cons (cs := [.bool true]) (ds := []) rfl (Cells.nil _ _)))))
     obtain ⟨y278, hy278, h⟩ := bind_in h
     refine RD.cq 22 8388607 8388608 (.bool y278) kt236 rfl kp237 body141 rfl (evs_cons rfl evs_nil) (fun w9 hw9 => units_every_c n _ w9 (hS274.hL0 hL hw9) ([y238, (!(mgetD D199 x210.fName false)), (!q197), true] : List Bool) (Rep.keep0 (St.lend (α := Bool) (L := L) hS274 .hd hc277 hL) hw9) hy278) rfl ?_
     refine RD.vw 23 16777215 kt236 rfl kp237 (fun _ => FV.not rfl) rfl ?_
     refine RD.done (doneD_ok kt236 (by kernel_rfl)) ?_
     refine MX.ifnb rfl h (fun c279 h => ?_) (fun c279 h => ?_)
     ·skip
      refine MX.skip ?_
      refine MX.sr ?_
      refine RG.mv rfl rfl ?_
      refine RG.vv (FV.fieldAddr (off := 0) (by kernel_rfl) rfl) rfl ?_
      refine RG.vv (FV.load1 (by kernel_rfl) rfl ((hS274.memA (.tl .hd)) 0 _ rfl)) rfl ?_
      refine RG.now .plain (Acts.mapUpdate (kv := x210.fName) (vv := true) hS274 (.tl (.tl .hd)) Tryz.underlying177 Tryz.underlying9 rfl rfl rfl rfl) (fun w280 hS281 hT282 => ?_)
      refine RG.nil ?_
      refine MX.region ?_
      refine RG.vv (FV.fieldAddr (off := 5) (by kernel_rfl) rfl) rfl ?_
      refine RG.vv (FV.load1 (by kernel_rfl) rfl ((hS281.memA (.tl .hd)) 5 _ rfl)) rfl ?_
      refine RG.sg rfl rfl ?_
      refine RG.nil ?_
      refine MX.inBlock ?_
      refine MX.region ?_
      refine RG.vv (FV.addN (i := i198) (j := 1) rfl rfl (by omega)) rfl ?_
      refine RG.mv rfl rfl ?_
      refine RG.nil ?_
      obtain ⟨hS283, hT284⟩ := St.arrB hS281 (.one (.tl (.tl .hd)) (.one (.tl (.tl .hd)) .done))
      exact hJ208 (x210.fWater, i198 + 1, mset D199 x210.fName true) _ _ ⟨rfl, rfl, rfl, rfl, rfl, rfl, trivial⟩ ⟨hS283, (Tr.trans hT201 (Tr.trans hT228 (Tr.trans hT235 (Tr.trans hT275 (Tr.trans hT282 hT284)))))⟩ h
     refine MX.sr ?_
     refine RG.sg rfl rfl ?_
     refine RG.nil ?_
     have h := thn_inl h hh206
     refine MX.ret rfl ?_
     refine RT.leave hb0 Tryz.func101 rfl (.cons (.tmp rfl) .nil) rfl ?_
     obtain rfl := Option.some.inj h
     exact ⟨hS274.ag, fun w9 hw9 => rfl⟩
    refine RD.vP 17 262143 kt236 rfl kp237 (.yes rfl rfl) (fun _ => FV.fieldAddr (off := 5) (by kernel_rfl) rfl) rfl ?_
    refine RD.val (i := 18) (m' := 524287) (W := 16252928) (takeC_ok kt236 (by kernel_rfl)) rfl kp237 (.yes rfl rfl) (FV.load1 (by kernel_rfl) rfl ((hS234.memA .hd) 5 _ rfl)) rfl ?_
    refine RD.vP 19 1048575 kt236 rfl kp237 (.yes rfl rfl) (fun _ => FV.not rfl) rfl ?_
    refine RD.vw 20 2097151 kt236 rfl kp237 (fun _ => FV.pick_f rfl rfl) rfl ?_
    refine RD.nu 21 4194303 kt236 rfl .plain rfl (Does.build (α := Bool) (xs := ([y238, (!(mgetD D199 x210.fName false)), (!q197), (!x210.fWater)] : List Bool)) (vs := [.bool y238, .bool (!(mgetD D199 x210.fName false)), .bool (!q197), .bool (!x210.fWater)]) (ds' := [.bool y238, .bool (!(mgetD D199 x210.fName false)), .bool (!q197), .bool (!x210.fWater)]) rfl hS234 el169 rfl (evs_cons rfl (evs_cons rfl (evs_cons rfl (evs_cons rfl evs_nil)))) (by kernel_rfl) rfl) (fun w286 b289 hS287 hT288 => ?_)
    have hc290 := Cells.at_ (cs := [.bool y238, .bool (!(mgetD D199 x210.fName false)), .bool (!q197), .bool (!x210.fWater)]) (xs := (([y238, (!(mgetD D199 x210.fName false)), (!q197), (!x210.fWater)] : List Bool) : List Bool)) hS287 L (Cells.cons (cs := [.bool y238]) (ds := [.bool (!(mgetD D199 x210.fName false)), .bool (!q197), .bool (!x210.fWater)]) rfl (Cells.cons (cs := [.bool (!(mgetD D199 x210.fName false))]) (ds := [.bool (!q197), .bool (!x210.fWater)]) rfl (Cells.cons (cs := [.bool (!q197)]) (ds := [.bool (!x210.fWater)]) rfl (Cells.cons (cs := [.bool (!x210.fWater)]) (ds := []) rfl (Cells.nil _ _)))))
    obtain ⟨y291, hy291, h⟩ := bind_in h
    refine RD.cq 22 8388607 8388608 (.bool y291) kt236 rfl kp237 body141 rfl (evs_cons rfl evs_nil) (fun w9 hw9 => units_every_c n _ w9 (hS287.hL0 hL hw9) ([y238, (!(mgetD D199 x210.fName false)), (!q197), (!x210.fWater)] : List Bool) (Rep.keep0 (St.lend (α := Bool) (L := L) hS287 .hd hc290 hL) hw9) hy291) rfl ?_
    refine RD.vw 23 16777215 kt236 rfl kp237 (fun _ => FV.not rfl) rfl ?_
    refine RD.done (doneD_ok kt236 (by kernel_rfl)) ?_
    refine MX.ifnb rfl h (fun c292 h => ?_) (fun c292 h => ?_)
    ·skip
     refine MX.skip ?_
     refine MX.sr ?_
     refine RG.mv rfl rfl ?_
     refine RG.vv (FV.fieldAddr (off := 0) (by kernel_rfl) rfl) rfl ?_
     refine RG.vv (FV.load1 (by kernel_rfl) rfl ((hS287.memA (.tl .hd)) 0 _ rfl)) rfl ?_
     refine RG.now .plain (Acts.mapUpdate (kv := x210.fName) (vv := true) hS287 (.tl (.tl .hd)) Tryz.underlying177 Tryz.underlying9 rfl rfl rfl rfl) (fun w293 hS294 hT295 => ?_)
     refine RG.nil ?_
     refine MX.region ?_
     refine RG.vv (FV.fieldAddr (off := 5) (by kernel_rfl) rfl) rfl ?_
     refine RG.vv (FV.load1 (by kernel_rfl) rfl ((hS294.memA (.tl .hd)) 5 _ rfl)) rfl ?_
     refine RG.sg rfl rfl ?_
     refine RG.nil ?_
     refine MX.inBlock ?_
     refine MX.region ?_
     refine RG.vv (FV.addN (i := i198) (j := 1) rfl rfl (by omega)) rfl ?_
     refine RG.mv rfl rfl ?_
     refine RG.nil ?_
     obtain ⟨hS296, hT297⟩ := St.arrB hS294 (.one (.tl (.tl .hd)) (.one (.tl (.tl .hd)) .done))
     exact hJ208 (x210.fWater, i198 + 1, mset D199 x210.fName true) _ _ ⟨rfl, rfl, rfl, rfl, rfl, rfl, trivial⟩ ⟨hS296, (Tr.trans hT201 (Tr.trans hT228 (Tr.trans hT235 (Tr.trans hT288 (Tr.trans hT295 hT297)))))⟩ h
    refine MX.sr ?_
    refine RG.sg rfl rfl ?_
    refine RG.nil ?_
    have h := thn_inl h hh206
    refine MX.ret rfl ?_
    refine RT.leave hb0 Tryz.func101 rfl (.cons (.tmp rfl) .nil) rfl ?_
    obtain rfl := Option.some.inj h
    exact ⟨hS287.ag, fun w9 hw9 => rfl⟩
   refine MX.exit rfl ?_
   have h := thn_inr h hh206
   try dsimp only at h
   refine MX.sr ?_
   refine RG.sg rfl rfl ?_
   refine RG.nil ?_
   refine MX.ret rfl ?_
   refine RT.leave hb0 Tryz.func101 rfl (.cons (.tmp rfl) .nil) rfl ?_
   obtain rfl := Option.some.inj h
   exact ⟨hS200.ag, fun w9 hw9 => rfl⟩
  refine MX.sr ?_
  refine RG.sg rfl rfl ?_
  refine RG.nil ?_
  refine MX.ret rfl ?_
  refine RT.leave hb0 Tryz.func101 rfl (.cons (.tmp rfl) .nil) rfl ?_
  obtain rfl := Option.some.inj h
  exact ⟨hS10.ag, fun w9 hw9 => rfl⟩
structure Tcount where
  fRoll : TRoll
  fk : Int
  deriving DecidableEq
instance : Rep Tcount := Rep.via (β := TRoll × Int) fun x => (x.fRoll, x.fk)
theorem body75 : bodyB Tryz.prog 75 = true := by kernel_rfl
theorem body101 : bodyB Tryz.prog 101 = true := by kernel_rfl
def balance_counted_p (n : Nat) (a0 : TRoll) (a1 : Int) : Option (Except Tbroken Tcount) :=
  (units_CheckRoll_p n a0).bind fun y11 => (balance_need_p n y11).bind fun y13 => exc y13 (fun y15 => (if a1 < 1 then (balance_fail_p n true (2 : Int)).bind fun y22 => exc y22 (fun y24 => some (.ok (⟨a0, a1⟩ : Tcount))) (fun e23 => some (.error e23)) else (balance_fail_p n (decide (8 < a1)) (2 : Int)).bind fun y37 => exc y37 (fun y39 => some (.ok (⟨a0, a1⟩ : Tcount))) (fun e38 => some (.error e38)))) (fun e14 => some (.error e14))
set_option maxRecDepth 4000 in
set_option maxHeartbeats 4000000 in
theorem balance_counted_c (n : Nat) (L : List Nat) (w : World) (hL : ∀ b ∈ L, b < w.heap.size) (a0 : TRoll) {v0_3 : Value} (h0_3 : Rep.R w L [v0_3] a0.fUnits) (a1 : Int)  {r : Except Tbroken Tcount} (h : balance_counted_p n a0 a1 = some r) :
    Calls Tryz.prog 50 #[.agg #[.int .i64 a0.fGroups, .int .i64 a0.fParties, .int .i64 a0.fLevels, v0_3], .int .i64 a1] w (PGives w (fun (y : Tcount) w' u => ∃ v0_3 : Value, u = .agg #[.int .i64 y.fRoll.fGroups, .int .i64 y.fRoll.fParties, .int .i64 y.fRoll.fLevels, v0_3, .int .i64 y.fk] ∧ Rep.R w' L [v0_3] y.fRoll.fUnits) (fun e => .iface 140 (.agg #[.int .i64 e.fErrno])) r) := by
  unfold balance_counted_p at h
  have hS0 := St.start w
  refine MX.startP Tryz.func50 rfl rfl rfl (fun _ cs0 hb0 hp0 => ?_)
  refine MX.sr ?_
  refine RG.new .plain rfl (Does.box (vs := [.int .i64 a0.fGroups, .int .i64 a0.fParties, .int .i64 a0.fLevels, v0_3]) hS0 rfl rfl) (fun w2 b5 hS3 hT4 => ?_)
  refine RG.new .plain rfl (Does.alloc (zs := [.int .i64 0, .int .i64 0, .int .i64 0, .slice none 0 0, .int .i64 0]) hS3 (zB (by kernel_rfl))) (fun w7 b10 hS8 hT9 => ?_)
  refine RG.nil ?_
  refine MX.sr ?_
  refine RG.vv (FV.loadN (by kernel_rfl) rfl (hS8.memA (.tl .hd))) rfl ?_
  obtain ⟨y11, hy11, h⟩ := bind_in h
  have hm12 := Rep.mv h0_3 (Tr.trans hT4 hT9)
  refine RG.cq (.int .i64 y11) body101 rfl (evs_cons rfl evs_nil) (fun w9 hw9 => units_CheckRoll_c n _ w9 (hS8.hL0 hL hw9) a0 (Rep.keep0 (Rep.dropS hS8 hm12) hw9) hy11) rfl ?_
  obtain ⟨y13, hy13, h⟩ := bind_in h
  rcases y13 with e14 | y15
  ·skip
   have h := exc_e h
   try dsimp only at h
   refine RG.callE (fst := []) (cap := []) .plain body100 rfl (evs_cons rfl evs_nil) (fun w9 hw9 => balance_need_c n _ w9 (hS8.hL0 hL hw9) y11 hy13) (fun w16 hag17 => ?_)
   obtain ⟨hS18, hT19⟩ := hS8.agr hag17
   obtain rfl := Option.some.inj h
   exact PN.leave hp0 Tryz.func50 ⟨hS18.ag, rfl⟩
  have h := exc_o h
  try dsimp only at h
  refine RG.cq (.tuple #[]) body100 rfl (evs_cons rfl evs_nil) (fun w9 hw9 => Calls.okp (balance_need_c n _ w9 (hS8.hL0 hL hw9) y11 hy13)) rfl ?_
  refine RG.nil ?_
  refine MX.sr ?_
  refine RG.mv rfl rfl ?_
  refine RG.vv (FV.lss (i := a1) (j := 1) rfl rfl) rfl ?_
  refine RG.mv rfl rfl ?_
  refine RG.ifd (s := 10) rfl h (fun c21 h => ?_) (fun c21 h => ?_)
  ·skip
   refine RG.off (.no rfl rfl) rfl ?_
   refine RG.off (.no rfl rfl) rfl ?_
   refine RG.vv (FV.pick_t rfl rfl) rfl ?_
   obtain ⟨y22, hy22, h⟩ := bind_in h
   rcases y22 with e23 | y24
   ·skip
    have h := exc_e h
    try dsimp only at h
    refine RG.callE (fst := []) (cap := []) .plain body75 rfl (evs_cons rfl (evs_cons rfl evs_nil)) (fun w9 hw9 => balance_fail_c n _ w9 (hS8.hL0 hL hw9) true (2 : Int) hy22) (fun w25 hag26 => ?_)
    obtain ⟨hS27, hT28⟩ := hS8.agr hag26
    obtain rfl := Option.some.inj h
    exact PN.leave hp0 Tryz.func50 ⟨hS27.ag, rfl⟩
   have h := exc_o h
   try dsimp only at h
   refine RG.cq (.tuple #[]) body75 rfl (evs_cons rfl (evs_cons rfl evs_nil)) (fun w9 hw9 => Calls.okp (balance_fail_c n _ w9 (hS8.hL0 hL hw9) true (2 : Int) hy22)) rfl ?_
   refine RG.nil ?_
   refine MX.sr ?_
   refine RG.vv (FV.loadN (by kernel_rfl) rfl (hS8.memA (.tl .hd))) rfl ?_
   refine RG.mv rfl rfl ?_
   obtain ⟨A30, c31, hv32, _⟩ := Rep.sl hm12
   refine RG.vv (FV.buildV (vs := [.agg #[.int .i64 a0.fGroups, .int .i64 a0.fParties, .int .i64 a0.fLevels, v0_3], .int .i64 a1]) (u := .agg #[.int .i64 a0.fGroups, .int .i64 a0.fParties, .int .i64 a0.fLevels, v0_3, .int .i64 a1]) (evs_cons rfl (evs_cons rfl evs_nil)) (fun w9 => by rw [hv32]; try kernel_rfl)) rfl ?_
   refine RG.now .plain (Acts.storeAll (news := [.int .i64 a0.fGroups, .int .i64 a0.fParties, .int .i64 a0.fLevels, v0_3, .int .i64 a1]) hS8 .hd rfl rfl rfl rfl rfl rfl (ones_cons rfl (ones_cons rfl (ones_cons rfl (ones_cons (Rep.o1 hm12) (ones_cons rfl ones_nil)))))) (fun w33 hS34 hT35 => ?_)
   refine RG.nil ?_
   refine MX.ret rfl ?_
   refine RT.leave hb0 Tryz.func50 rfl (.cons (.many (cs := [.int .i64 a0.fGroups, .int .i64 a0.fParties, .int .i64 a0.fLevels, v0_3, .int .i64 a1]) (by kernel_rfl) rfl (hS34.memA .hd)) .nil) rfl ?_
   obtain rfl := Option.some.inj h
   have hm36 := Rep.mv h0_3 (Tr.trans hT4 (Tr.trans hT9 hT35))
   exact ⟨hS34.ag, fun w9 hw9 => okOf_in ⟨v0_3, rfl, Rep.keep0 (Rep.dropS hS34 hm36) hw9⟩⟩
  refine RG.val' (.yes rfl rfl) (FV.move rfl) rfl ?_
  refine RG.val' (.yes rfl rfl) (FV.gtr (i := a1) (j := 8) rfl rfl) rfl ?_
  refine RG.vv (FV.pick_f rfl rfl) rfl ?_
  obtain ⟨y37, hy37, h⟩ := bind_in h
  rcases y37 with e38 | y39
  ·skip
   have h := exc_e h
   try dsimp only at h
   refine RG.callE (fst := []) (cap := []) .plain body75 rfl (evs_cons rfl (evs_cons rfl evs_nil)) (fun w9 hw9 => balance_fail_c n _ w9 (hS8.hL0 hL hw9) (decide (8 < a1)) (2 : Int) hy37) (fun w40 hag41 => ?_)
   obtain ⟨hS42, hT43⟩ := hS8.agr hag41
   obtain rfl := Option.some.inj h
   exact PN.leave hp0 Tryz.func50 ⟨hS42.ag, rfl⟩
  have h := exc_o h
  try dsimp only at h
  refine RG.cq (.tuple #[]) body75 rfl (evs_cons rfl (evs_cons rfl evs_nil)) (fun w9 hw9 => Calls.okp (balance_fail_c n _ w9 (hS8.hL0 hL hw9) (decide (8 < a1)) (2 : Int) hy37)) rfl ?_
  refine RG.nil ?_
  refine MX.sr ?_
  refine RG.vv (FV.loadN (by kernel_rfl) rfl (hS8.memA (.tl .hd))) rfl ?_
  refine RG.mv rfl rfl ?_
  obtain ⟨A45, c46, hv47, _⟩ := Rep.sl hm12
  refine RG.vv (FV.buildV (vs := [.agg #[.int .i64 a0.fGroups, .int .i64 a0.fParties, .int .i64 a0.fLevels, v0_3], .int .i64 a1]) (u := .agg #[.int .i64 a0.fGroups, .int .i64 a0.fParties, .int .i64 a0.fLevels, v0_3, .int .i64 a1]) (evs_cons rfl (evs_cons rfl evs_nil)) (fun w9 => by rw [hv47]; try kernel_rfl)) rfl ?_
  refine RG.now .plain (Acts.storeAll (news := [.int .i64 a0.fGroups, .int .i64 a0.fParties, .int .i64 a0.fLevels, v0_3, .int .i64 a1]) hS8 .hd rfl rfl rfl rfl rfl rfl (ones_cons rfl (ones_cons rfl (ones_cons rfl (ones_cons (Rep.o1 hm12) (ones_cons rfl ones_nil)))))) (fun w48 hS49 hT50 => ?_)
  refine RG.nil ?_
  refine MX.ret rfl ?_
  refine RT.leave hb0 Tryz.func50 rfl (.cons (.many (cs := [.int .i64 a0.fGroups, .int .i64 a0.fParties, .int .i64 a0.fLevels, v0_3, .int .i64 a1]) (by kernel_rfl) rfl (hS49.memA .hd)) .nil) rfl ?_
  obtain rfl := Option.some.inj h
  have hm51 := Rep.mv h0_3 (Tr.trans hT4 (Tr.trans hT9 hT50))
  exact ⟨hS49.ag, fun w9 hw9 => okOf_in ⟨v0_3, rfl, Rep.keep0 (Rep.dropS hS49 hm51) hw9⟩⟩
end Go.Proofs.YtmhgoecnjleagaaGreatDoor
