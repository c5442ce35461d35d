/- Functions of the program, and what they give: part 3. -/
import Derived.Test.YtmhgoecnjleagaaGreatDoorPK2
namespace Go.Proofs.YtmhgoecnjleagaaGreatDoor
open Go Go.RowKit

def tb214_6 : List (Nat × Nat × Nat) := [(0, 268435456, 2), (0, 536870912, 4), (3, 1073741824, 805306368), (0, 2147483648, 2), (0, 4294967296, 4), (24, 8589934592, 6442450944), (7, 64, 1073741824), (127, 128, 8589934592)]
theorem body222 : bodyB Tryz.prog 222 = true := by kernel_rfl
def math_bits_Div64_l1 (_n : Nat) (a2 : UInt64) (y8 : Int) (a1 : UInt64) (J112 : UInt64 × UInt64 → Option UInt64) : UInt64 × UInt64 → Option UInt64
  | (u103, u104) => (if (4294967296 : UInt64) ≤ u103 then (if (4294967296 : UInt64) ≤ (u104 + (shrU (shlU a2 (u64of y8).toNat) 32)) then some (u103 - (1 : UInt64)) else J112 (u103 - (1 : UInt64), u104 + (shrU (shlU a2 (u64of y8).toNat) 32))) else (if (((4294967296 : UInt64) * u104) + ((shlU a1 (u64of y8).toNat) &&& (4294967295 : UInt64))) < (u103 * ((shlU a2 (u64of y8).toNat) &&& (4294967295 : UInt64))) then (if (4294967296 : UInt64) ≤ (u104 + (shrU (shlU a2 (u64of y8).toNat) 32)) then some (u103 - (1 : UInt64)) else J112 (u103 - (1 : UInt64), u104 + (shrU (shlU a2 (u64of y8).toNat) 32))) else some u103))
def math_bits_Div64_l2 (_n : Nat) (a2 : UInt64) (y8 : Int) (a1 : UInt64) (J136 : UInt64 × UInt64 → Option UInt64) : UInt64 × UInt64 → Option UInt64
  | (u127, u128) => (if (4294967296 : UInt64) ≤ u127 then (if (4294967296 : UInt64) ≤ (u128 + (shrU (shlU a2 (u64of y8).toNat) 32)) then some (u127 - (1 : UInt64)) else J136 (u127 - (1 : UInt64), u128 + (shrU (shlU a2 (u64of y8).toNat) 32))) else (if (((4294967296 : UInt64) * u128) + (shrU (shlU a1 (u64of y8).toNat) 32)) < (u127 * ((shlU a2 (u64of y8).toNat) &&& (4294967295 : UInt64))) then (if (4294967296 : UInt64) ≤ (u128 + (shrU (shlU a2 (u64of y8).toNat) 32)) then some (u127 - (1 : UInt64)) else J136 (u127 - (1 : UInt64), u128 + (shrU (shlU a2 (u64of y8).toNat) 32))) else some u127))
def math_bits_Div64_p (n : Nat) (a0 : UInt64) (a1 : UInt64) (a2 : UInt64) : Option (UInt64 × UInt64) :=
  (if a2 = (0 : UInt64) then none else (if a2 ≤ a0 then none else (if a0 = (0 : UInt64) then (quoW a1 a2).bind fun s6 => (remW a1 a2).bind fun s7 => some (s6, s7) else (math_bits_LeadingZeros64_p n a2).bind fun y8 => (quoW ((shlU a0 (u64of y8).toNat) ||| (shrU a1 ((64 : UInt64) - (u64of y8)).toNat)) (shrU (shlU a2 (u64of y8).toNat) 32)).bind fun s9 => (some (((shlU a0 (u64of y8).toNat) ||| (shrU a1 ((64 : UInt64) - (u64of y8)).toNat)) - (s9 * (shrU (shlU a2 (u64of y8).toNat) 32)))).bind fun u10 => jn (fun u44 => (some (((shlU a0 (u64of y8).toNat) ||| (shrU a1 ((64 : UInt64) - (u64of y8)).toNat)) * (4294967296 : UInt64))).bind fun u50 => (quoW ((u50 + (shrU (shlU a1 (u64of y8).toNat) 32)) - (u44 * (shlU a2 (u64of y8).toNat))) (shrU (shlU a2 (u64of y8).toNat) 32)).bind fun s51 => (some (((u50 + (shrU (shlU a1 (u64of y8).toNat) 32)) - (u44 * (shlU a2 (u64of y8).toNat))) - (s51 * (shrU (shlU a2 (u64of y8).toNat) 32)))).bind fun u52 => jn (fun u86 => (some (((u50 + (shrU (shlU a1 (u64of y8).toNat) 32)) - (u44 * (shlU a2 (u64of y8).toNat))) * (4294967296 : UInt64))).bind fun u92 => (some ((u92 + ((shlU a1 (u64of y8).toNat) &&& (4294967295 : UInt64))) - (u86 * (shlU a2 (u64of y8).toNat)))).bind fun u93 => some ((u44 * (4294967296 : UInt64)) + u86, shrU u93 (u64of y8).toNat)) (fun J90 => Option.bind (loopF (math_bits_Div64_l1 n a2 y8 a1) n (s51, u52)) (J90))) (fun J48 => Option.bind (loopF (math_bits_Div64_l2 n a2 y8 a1) n (s9, u10)) (J48)))))
set_option maxRecDepth 4000 in
set_option maxHeartbeats 4000000 in
theorem math_bits_Div64_c (n : Nat) (L : List Nat) (w : World) (hL : ∀ b ∈ L, b < w.heap.size) (a0 : UInt64) (a1 : UInt64) (a2 : UInt64)  {r : UInt64 × UInt64} (h : math_bits_Div64_p n a0 a1 a2 = some r) :
    Calls Tryz.prog 214 #[.int .u64 (a0.toNat : Int), .int .u64 (a1.toNat : Int), .int .u64 (a2.toNat : Int)] w (Gives w fun _ u => u = .tuple #[.int .u64 (r.1.toNat : Int), .int .u64 (r.2.toNat : Int)]) := by
  unfold math_bits_Div64_p at h
  have hS0 := St.start w
  refine MX.start Tryz.func214 rfl rfl rfl (fun _ cs0 hb0 => ?_)
  refine MX.sr ?_
  refine RG.sg rfl rfl ?_
  refine RG.sg rfl rfl ?_
  refine RG.nil ?_
  refine MX.seq ?_
  refine MX.sr ?_
  refine RG.mv rfl rfl ?_
  refine RG.vv (FV.eqlU (a := a2) (b := (0 : UInt64)) rfl rfl) rfl ?_
  refine RG.nil ?_
  refine MX.ifd rfl h (fun c1 h => ?_) (fun c1 h => ?_)
  ·skip
   refine MX.region ?_
   cases h
  refine MX.skip ?_
  refine MX.seq ?_
  refine MX.sr ?_
  refine RG.mv rfl rfl ?_
  refine RG.mv rfl rfl ?_
  refine RG.vv (FV.leqU (a := a2) (b := a0) rfl rfl) rfl ?_
  refine RG.nil ?_
  refine MX.ifd rfl h (fun c2 h => ?_) (fun c2 h => ?_)
  ·skip
   refine MX.region ?_
   cases h
  refine MX.skip ?_
  refine MX.seq ?_
  refine MX.sr ?_
  refine RG.mv rfl rfl ?_
  refine RG.vv (FV.eqlU (a := a0) (b := (0 : UInt64)) rfl rfl) rfl ?_
  refine RG.nil ?_
  refine MX.ifd rfl h (fun c3 h => ?_) (fun c3 h => ?_)
  ·skip
   refine MX.seq ?_
   refine MX.drawT 8 tb214_6 (by kernel_rfl) (by kernel_rfl) (by kernel_rfl) (fun kt4 kp5 => ?_)
   refine RD.vw 0 1 kt4 rfl kp5 (fun _ => FV.move rfl) rfl ?_
   refine RD.vw 1 3 kt4 rfl kp5 (fun _ => FV.move rfl) rfl ?_
   obtain ⟨s6, hs6, h⟩ := bind_in h
   refine RD.vw 2 7 kt4 rfl kp5 (fun _ => FV.quoV (a := a1) (b := a2) rfl rfl hs6) rfl ?_
   refine RD.vw 3 15 kt4 rfl kp5 (fun _ => FV.move rfl) rfl ?_
   refine RD.vw 4 31 kt4 rfl kp5 (fun _ => FV.move rfl) rfl ?_
   obtain ⟨s7, hs7, h⟩ := bind_in h
   refine RD.vw 5 63 kt4 rfl kp5 (fun _ => FV.remV (a := a1) (b := a2) rfl rfl hs7) rfl ?_
   refine RD.vw 6 127 kt4 rfl kp5 (fun _ => FV.assign rfl) rfl ?_
   refine RD.vw 7 255 kt4 rfl kp5 (fun _ => FV.assign rfl) rfl ?_
   refine RD.done (doneD_ok kt4 (by kernel_rfl)) ?_
   refine MX.ret rfl ?_
   refine RT.leave hb0 Tryz.func214 rfl (.cons (.tmp rfl) (.cons (.tmp rfl) .nil)) rfl ?_
   obtain rfl := Option.some.inj h
   exact ⟨hS0.ag, fun w9 hw9 => rfl⟩
  refine MX.skip ?_
  refine MX.sr ?_
  refine RG.mv rfl rfl ?_
  obtain ⟨y8, hy8, h⟩ := bind_in h
  refine RG.cq (.int .i64 y8) body222 rfl (evs_cons rfl evs_nil) (fun w9 hw9 => math_bits_LeadingZeros64_c n _ w9 (hS0.hL0 hL hw9) a2 hy8) rfl ?_
  refine RG.vv (FV.convU (i := y8) Tryz.underlying3 Tryz.underlying236 rfl) rfl ?_
  refine RG.sg rfl rfl ?_
  refine RG.nil ?_
  refine MX.sr ?_
  refine RG.mv rfl rfl ?_
  refine RG.mv rfl rfl ?_
  refine RG.vv (FV.shlU (a := a2) (j := (u64of y8).toNat) rfl rfl) rfl ?_
  refine RG.sg rfl rfl ?_
  refine RG.nil ?_
  refine MX.sr ?_
  refine RG.mv rfl rfl ?_
  refine RG.vv (FV.shrU (a := shlU a2 (u64of y8).toNat) (j := 32) rfl rfl) rfl ?_
  refine RG.sg rfl rfl ?_
  refine RG.nil ?_
  refine MX.sr ?_
  refine RG.mv rfl rfl ?_
  refine RG.vv (FV.andU (a := shlU a2 (u64of y8).toNat) (b := (4294967295 : UInt64)) rfl rfl) rfl ?_
  refine RG.sg rfl rfl ?_
  refine RG.nil ?_
  refine MX.sr ?_
  refine RG.mv rfl rfl ?_
  refine RG.mv rfl rfl ?_
  refine RG.vv (FV.shlU (a := a0) (j := (u64of y8).toNat) rfl rfl) rfl ?_
  refine RG.mv rfl rfl ?_
  refine RG.mv rfl rfl ?_
  refine RG.vv (FV.subU (a := (64 : UInt64)) (b := u64of y8) rfl rfl) rfl ?_
  refine RG.vv (FV.shrU (a := a1) (j := ((64 : UInt64) - (u64of y8)).toNat) rfl rfl) rfl ?_
  refine RG.vv (FV.orU (a := shlU a0 (u64of y8).toNat) (b := shrU a1 ((64 : UInt64) - (u64of y8)).toNat) rfl rfl) rfl ?_
  refine RG.sg rfl rfl ?_
  refine RG.nil ?_
  refine MX.sr ?_
  refine RG.mv rfl rfl ?_
  refine RG.mv rfl rfl ?_
  refine RG.vv (FV.shlU (a := a1) (j := (u64of y8).toNat) rfl rfl) rfl ?_
  refine RG.sg rfl rfl ?_
  refine RG.nil ?_
  refine MX.sr ?_
  refine RG.mv rfl rfl ?_
  refine RG.vv (FV.shrU (a := shlU a1 (u64of y8).toNat) (j := 32) rfl rfl) rfl ?_
  refine RG.sg rfl rfl ?_
  refine RG.nil ?_
  refine MX.sr ?_
  refine RG.mv rfl rfl ?_
  refine RG.vv (FV.andU (a := shlU a1 (u64of y8).toNat) (b := (4294967295 : UInt64)) rfl rfl) rfl ?_
  refine RG.sg rfl rfl ?_
  refine RG.nil ?_
  refine MX.sr ?_
  refine RG.mv rfl rfl ?_
  refine RG.mv rfl rfl ?_
  obtain ⟨s9, hs9, h⟩ := bind_in h
  refine RG.vv (FV.quoV (a := (shlU a0 (u64of y8).toNat) ||| (shrU a1 ((64 : UInt64) - (u64of y8)).toNat)) (b := shrU (shlU a2 (u64of y8).toNat) 32) rfl rfl hs9) rfl ?_
  refine RG.sg rfl rfl ?_
  refine RG.nil ?_
  refine MX.sr ?_
  refine RG.mv rfl rfl ?_
  refine RG.mv rfl rfl ?_
  refine RG.mv rfl rfl ?_
  refine RG.vv (FV.mulU (a := s9) (b := shrU (shlU a2 (u64of y8).toNat) 32) rfl rfl) rfl ?_
  obtain ⟨u10, hu10, h⟩ := bind_in h
  refine RG.vv (FV.as (FV.subU (a := (shlU a0 (u64of y8).toNat) ||| (shrU a1 ((64 : UInt64) - (u64of y8)).toNat)) (b := s9 * (shrU (shlU a2 (u64of y8).toNat) 32)) rfl rfl) (congrArg (fun z : UInt64 => Value.int .u64 (z.toNat : Int)) (Option.some.inj hu10))) rfl ?_
  refine RG.sg rfl rfl ?_
  refine RG.nil ?_
  refine MX.seq ?_
  refine MX.block ?_
  refine MX.joinx (α := UInt64) (fun u44 => [(2, .int .u64 ((shlU a2 (u64of y8).toNat).toNat : Int)), (8, .int .u64 ((u64of y8).toNat : Int)), (9, .int .u64 ((shrU (shlU a2 (u64of y8).toNat) 32).toNat : Int)), (10, .int .u64 (((shlU a2 (u64of y8).toNat) &&& (4294967295 : UInt64)).toNat : Int)), (11, .int .u64 (((shlU a0 (u64of y8).toNat) ||| (shrU a1 ((64 : UInt64) - (u64of y8)).toNat)).toNat : Int)), (13, .int .u64 ((shrU (shlU a1 (u64of y8).toNat) 32).toNat : Int)), (14, .int .u64 (((shlU a1 (u64of y8).toNat) &&& (4294967295 : UInt64)).toNat : Int)), (15, .int .u64 (u44.toNat : Int))]) (fun u44 wx44 => St w wx44 [] ∧ Tr w [] wx44 []) (fun u44 => u44) (id := 0) rfl h ?_ ?_
  ·skip
   rintro u44 wx44 ⟨hS45, hT46⟩ h
   try dsimp only at h
   refine MX.sr ?_
   refine RG.mv rfl rfl ?_
   obtain ⟨u50, hu50, h⟩ := bind_in h
   refine RG.vv (FV.as (FV.mulU (a := (shlU a0 (u64of y8).toNat) ||| (shrU a1 ((64 : UInt64) - (u64of y8)).toNat)) (b := (4294967296 : UInt64)) rfl rfl) (congrArg (fun z : UInt64 => Value.int .u64 (z.toNat : Int)) (Option.some.inj hu50))) rfl ?_
   refine RG.mv rfl rfl ?_
   refine RG.vv (FV.addU (a := u50) (b := shrU (shlU a1 (u64of y8).toNat) 32) rfl rfl) rfl ?_
   refine RG.mv rfl rfl ?_
   refine RG.mv rfl rfl ?_
   refine RG.vv (FV.mulU (a := u44) (b := shlU a2 (u64of y8).toNat) rfl rfl) rfl ?_
   refine RG.vv (FV.subU (a := u50 + (shrU (shlU a1 (u64of y8).toNat) 32)) (b := u44 * (shlU a2 (u64of y8).toNat)) rfl rfl) rfl ?_
   refine RG.sg rfl rfl ?_
   refine RG.nil ?_
   refine MX.sr ?_
   refine RG.mv rfl rfl ?_
   refine RG.mv rfl rfl ?_
   obtain ⟨s51, hs51, h⟩ := bind_in h
   refine RG.vv (FV.quoV (a := (u50 + (shrU (shlU a1 (u64of y8).toNat) 32)) - (u44 * (shlU a2 (u64of y8).toNat))) (b := shrU (shlU a2 (u64of y8).toNat) 32) rfl rfl hs51) rfl ?_
   refine RG.sg rfl rfl ?_
   refine RG.nil ?_
   refine MX.sr ?_
   refine RG.mv rfl rfl ?_
   refine RG.mv rfl rfl ?_
   refine RG.mv rfl rfl ?_
   refine RG.vv (FV.mulU (a := s51) (b := shrU (shlU a2 (u64of y8).toNat) 32) rfl rfl) rfl ?_
   obtain ⟨u52, hu52, h⟩ := bind_in h
   refine RG.vv (FV.as (FV.subU (a := (u50 + (shrU (shlU a1 (u64of y8).toNat) 32)) - (u44 * (shlU a2 (u64of y8).toNat))) (b := s51 * (shrU (shlU a2 (u64of y8).toNat) 32)) rfl rfl) (congrArg (fun z : UInt64 => Value.int .u64 (z.toNat : Int)) (Option.some.inj hu52))) rfl ?_
   refine RG.sg rfl rfl ?_
   refine RG.nil ?_
   refine MX.seq ?_
   refine MX.block ?_
   refine MX.joinx (α := UInt64) (fun u86 => [(2, .int .u64 ((shlU a2 (u64of y8).toNat).toNat : Int)), (8, .int .u64 ((u64of y8).toNat : Int)), (14, .int .u64 (((shlU a1 (u64of y8).toNat) &&& (4294967295 : UInt64)).toNat : Int)), (15, .int .u64 (u44.toNat : Int)), (17, .int .u64 (((u50 + (shrU (shlU a1 (u64of y8).toNat) 32)) - (u44 * (shlU a2 (u64of y8).toNat))).toNat : Int)), (18, .int .u64 (u86.toNat : Int))]) (fun u86 wx86 => St w wx86 [] ∧ Tr wx44 [] wx86 []) (fun u86 => u86) (id := 2) rfl h ?_ ?_
   ·skip
    rintro u86 wx86 ⟨hS87, hT88⟩ h
    try dsimp only at h
    refine MX.sr ?_
    refine RG.mv rfl rfl ?_
    refine RG.vv (FV.mulU (a := u44) (b := (4294967296 : UInt64)) rfl rfl) rfl ?_
    refine RG.mv rfl rfl ?_
    refine RG.vv (FV.addU (a := u44 * (4294967296 : UInt64)) (b := u86) rfl rfl) rfl ?_
    refine RG.mv rfl rfl ?_
    obtain ⟨u92, hu92, h⟩ := bind_in h
    refine RG.vv (FV.as (FV.mulU (a := (u50 + (shrU (shlU a1 (u64of y8).toNat) 32)) - (u44 * (shlU a2 (u64of y8).toNat))) (b := (4294967296 : UInt64)) rfl rfl) (congrArg (fun z : UInt64 => Value.int .u64 (z.toNat : Int)) (Option.some.inj hu92))) rfl ?_
    refine RG.mv rfl rfl ?_
    refine RG.vv (FV.addU (a := u92) (b := (shlU a1 (u64of y8).toNat) &&& (4294967295 : UInt64)) rfl rfl) rfl ?_
    refine RG.mv rfl rfl ?_
    refine RG.mv rfl rfl ?_
    refine RG.vv (FV.mulU (a := u86) (b := shlU a2 (u64of y8).toNat) rfl rfl) rfl ?_
    obtain ⟨u93, hu93, h⟩ := bind_in h
    refine RG.vv (FV.as (FV.subU (a := u92 + ((shlU a1 (u64of y8).toNat) &&& (4294967295 : UInt64))) (b := u86 * (shlU a2 (u64of y8).toNat)) rfl rfl) (congrArg (fun z : UInt64 => Value.int .u64 (z.toNat : Int)) (Option.some.inj hu93))) rfl ?_
    refine RG.mv rfl rfl ?_
    refine RG.vv (FV.shrU (a := u93) (j := (u64of y8).toNat) rfl rfl) rfl ?_
    refine RG.sg rfl rfl ?_
    refine RG.sg rfl rfl ?_
    refine RG.nil ?_
    refine MX.ret rfl ?_
    refine RT.leave hb0 Tryz.func214 rfl (.cons (.tmp rfl) (.cons (.tmp rfl) .nil)) rfl ?_
    obtain rfl := Option.some.inj h
    exact ⟨hS87.ag, fun w9 hw9 => rfl⟩
   ·skip
    intro J90 hJ91 h
    try dsimp only at h
    obtain ⟨o110, ho109, hh111⟩ := bind_in2 h
    refine MX.loop (α := UInt64 × UInt64) (fun ⟨u103, u104⟩ => [(2, .int .u64 ((shlU a2 (u64of y8).toNat).toNat : Int)), (8, .int .u64 ((u64of y8).toNat : Int)), (9, .int .u64 ((shrU (shlU a2 (u64of y8).toNat) 32).toNat : Int)), (10, .int .u64 (((shlU a2 (u64of y8).toNat) &&& (4294967295 : UInt64)).toNat : Int)), (14, .int .u64 (((shlU a1 (u64of y8).toNat) &&& (4294967295 : UInt64)).toNat : Int)), (15, .int .u64 (u44.toNat : Int)), (17, .int .u64 (((u50 + (shrU (shlU a1 (u64of y8).toNat) 32)) - (u44 * (shlU a2 (u64of y8).toNat))).toNat : Int)), (18, .int .u64 (u103.toNat : Int)), (16, .int .u64 (u104.toNat : Int))]) (fun ⟨u103, u104⟩ wx104 => St w wx104 [] ∧ Tr wx44 [] wx104 []) (fun ⟨u103, u104⟩ => (u103, u104)) (s51, u52) ho109 ⟨rfl, rfl, rfl, rfl, rfl, rfl, rfl, rfl, rfl, trivial⟩ ⟨hS45, Tr.refl _ _⟩ ?_
    rintro J112 ⟨u103, u104⟩ wx104 hJ113 ⟨hS105, hT106⟩ h
    unfold math_bits_Div64_l1 at h
    try dsimp only at h
    refine MX.seq ?_
    refine MX.sr ?_
    refine RG.mv rfl rfl ?_
    refine RG.vv (FV.geqU (a := u103) (b := (4294967296 : UInt64)) rfl rfl) rfl ?_
    refine RG.mv rfl rfl ?_
    refine RG.ifd (s := 104) rfl h (fun c114 h => ?_) (fun c114 h => ?_)
    ·skip
     refine RG.off (.no rfl rfl) rfl ?_
     refine RG.off (.no rfl rfl) rfl ?_
     refine RG.off (.no rfl rfl) rfl ?_
     refine RG.off (.no rfl rfl) rfl ?_
     refine RG.off (.no rfl rfl) rfl ?_
     refine RG.off (.no rfl rfl) rfl ?_
     refine RG.off (.no rfl rfl) rfl ?_
     refine RG.off (.no rfl rfl) rfl ?_
     refine RG.vv (FV.pick_t rfl rfl) rfl ?_
     refine RG.nil ?_
     refine MX.cond_t rfl ?_
     refine MX.skip ?_
     refine MX.block ?_
     refine MX.sr ?_
     refine RG.mv rfl rfl ?_
     refine RG.vv (FV.subU (a := u103) (b := (1 : UInt64)) rfl rfl) rfl ?_
     refine RG.sg rfl rfl ?_
     refine RG.nil ?_
     refine MX.sr ?_
     refine RG.mv rfl rfl ?_
     refine RG.mv rfl rfl ?_
     refine RG.vv (FV.addU (a := u104) (b := shrU (shlU a2 (u64of y8).toNat) 32) rfl rfl) rfl ?_
     refine RG.sg rfl rfl ?_
     refine RG.nil ?_
     refine MX.sr ?_
     refine RG.mv rfl rfl ?_
     refine RG.vv (FV.geqU (a := u104 + (shrU (shlU a2 (u64of y8).toNat) 32)) (b := (4294967296 : UInt64)) rfl rfl) rfl ?_
     refine RG.nil ?_
     refine MX.ifd rfl h (fun c115 h => ?_) (fun c115 h => ?_)
     ·skip
      refine MX.exit rfl ?_
      have h := hh111 _ h
      try dsimp only at h
      exact hJ91 (u103 - (1 : UInt64)) _ _ ⟨rfl, rfl, rfl, rfl, rfl, rfl, trivial⟩ ⟨hS105, hT106⟩ h
     refine MX.skip ?_
     refine MX.inBlock ?_
     exact hJ113 (u103 - (1 : UInt64), u104 + (shrU (shlU a2 (u64of y8).toNat) 32)) _ _ ⟨rfl, rfl, rfl, rfl, rfl, rfl, rfl, rfl, rfl, trivial⟩ ⟨hS105, hT106⟩ h
    refine RG.val' (.yes rfl rfl) (FV.move rfl) rfl ?_
    refine RG.val' (.yes rfl rfl) (FV.move rfl) rfl ?_
    refine RG.val' (.yes rfl rfl) (FV.mulU (a := u103) (b := (shlU a2 (u64of y8).toNat) &&& (4294967295 : UInt64)) rfl rfl) rfl ?_
    refine RG.val' (.yes rfl rfl) (FV.move rfl) rfl ?_
    refine RG.val' (.yes rfl rfl) (FV.mulU (a := (4294967296 : UInt64)) (b := u104) rfl rfl) rfl ?_
    refine RG.val' (.yes rfl rfl) (FV.move rfl) rfl ?_
    refine RG.val' (.yes rfl rfl) (FV.addU (a := (4294967296 : UInt64) * u104) (b := (shlU a1 (u64of y8).toNat) &&& (4294967295 : UInt64)) rfl rfl) rfl ?_
    refine RG.val' (.yes rfl rfl) (FV.gtrU (a := u103 * ((shlU a2 (u64of y8).toNat) &&& (4294967295 : UInt64))) (b := ((4294967296 : UInt64) * u104) + ((shlU a1 (u64of y8).toNat) &&& (4294967295 : UInt64))) rfl rfl) rfl ?_
    refine RG.vv (FV.pick_f rfl rfl) rfl ?_
    refine RG.nil ?_
    refine MX.ifd rfl h (fun c116 h => ?_) (fun c116 h => ?_)
    ·skip
     refine MX.skip ?_
     refine MX.block ?_
     refine MX.sr ?_
     refine RG.mv rfl rfl ?_
     refine RG.vv (FV.subU (a := u103) (b := (1 : UInt64)) rfl rfl) rfl ?_
     refine RG.sg rfl rfl ?_
     refine RG.nil ?_
     refine MX.sr ?_
     refine RG.mv rfl rfl ?_
     refine RG.mv rfl rfl ?_
     refine RG.vv (FV.addU (a := u104) (b := shrU (shlU a2 (u64of y8).toNat) 32) rfl rfl) rfl ?_
     refine RG.sg rfl rfl ?_
     refine RG.nil ?_
     refine MX.sr ?_
     refine RG.mv rfl rfl ?_
     refine RG.vv (FV.geqU (a := u104 + (shrU (shlU a2 (u64of y8).toNat) 32)) (b := (4294967296 : UInt64)) rfl rfl) rfl ?_
     refine RG.nil ?_
     refine MX.ifd rfl h (fun c117 h => ?_) (fun c117 h => ?_)
     ·skip
      refine MX.exit rfl ?_
      have h := hh111 _ h
      try dsimp only at h
      exact hJ91 (u103 - (1 : UInt64)) _ _ ⟨rfl, rfl, rfl, rfl, rfl, rfl, trivial⟩ ⟨hS105, hT106⟩ h
     refine MX.skip ?_
     refine MX.inBlock ?_
     exact hJ113 (u103 - (1 : UInt64), u104 + (shrU (shlU a2 (u64of y8).toNat) 32)) _ _ ⟨rfl, rfl, rfl, rfl, rfl, rfl, rfl, rfl, rfl, trivial⟩ ⟨hS105, hT106⟩ h
    refine MX.exit rfl ?_
    have h := hh111 _ h
    try dsimp only at h
    exact hJ91 u103 _ _ ⟨rfl, rfl, rfl, rfl, rfl, rfl, trivial⟩ ⟨hS105, hT106⟩ h
  ·skip
   intro J48 hJ49 h
   try dsimp only at h
   obtain ⟨o134, ho133, hh135⟩ := bind_in2 h
   refine MX.loop (α := UInt64 × UInt64) (fun ⟨u127, u128⟩ => [(2, .int .u64 ((shlU a2 (u64of y8).toNat).toNat : Int)), (8, .int .u64 ((u64of y8).toNat : Int)), (9, .int .u64 ((shrU (shlU a2 (u64of y8).toNat) 32).toNat : Int)), (10, .int .u64 (((shlU a2 (u64of y8).toNat) &&& (4294967295 : UInt64)).toNat : Int)), (11, .int .u64 (((shlU a0 (u64of y8).toNat) ||| (shrU a1 ((64 : UInt64) - (u64of y8)).toNat)).toNat : Int)), (13, .int .u64 ((shrU (shlU a1 (u64of y8).toNat) 32).toNat : Int)), (14, .int .u64 (((shlU a1 (u64of y8).toNat) &&& (4294967295 : UInt64)).toNat : Int)), (15, .int .u64 (u127.toNat : Int)), (16, .int .u64 (u128.toNat : Int))]) (fun ⟨u127, u128⟩ wx128 => St w wx128 [] ∧ Tr w [] wx128 []) (fun ⟨u127, u128⟩ => (u127, u128)) (s9, u10) ho133 ⟨rfl, rfl, rfl, rfl, rfl, rfl, rfl, rfl, rfl, trivial⟩ ⟨hS0, Tr.refl _ _⟩ ?_
   rintro J136 ⟨u127, u128⟩ wx128 hJ137 ⟨hS129, hT130⟩ h
   unfold math_bits_Div64_l2 at h
   try dsimp only at h
   refine MX.seq ?_
   refine MX.sr ?_
   refine RG.mv rfl rfl ?_
   refine RG.vv (FV.geqU (a := u127) (b := (4294967296 : UInt64)) rfl rfl) rfl ?_
   refine RG.mv rfl rfl ?_
   refine RG.ifd (s := 69) rfl h (fun c138 h => ?_) (fun c138 h => ?_)
   ·skip
    refine RG.off (.no rfl rfl) rfl ?_
    refine RG.off (.no rfl rfl) rfl ?_
    refine RG.off (.no rfl rfl) rfl ?_
    refine RG.off (.no rfl rfl) rfl ?_
    refine RG.off (.no rfl rfl) rfl ?_
    refine RG.off (.no rfl rfl) rfl ?_
    refine RG.off (.no rfl rfl) rfl ?_
    refine RG.off (.no rfl rfl) rfl ?_
    refine RG.vv (FV.pick_t rfl rfl) rfl ?_
    refine RG.nil ?_
    refine MX.cond_t rfl ?_
    refine MX.skip ?_
    refine MX.block ?_
    refine MX.sr ?_
    refine RG.mv rfl rfl ?_
    refine RG.vv (FV.subU (a := u127) (b := (1 : UInt64)) rfl rfl) rfl ?_
    refine RG.sg rfl rfl ?_
    refine RG.nil ?_
    refine MX.sr ?_
    refine RG.mv rfl rfl ?_
    refine RG.mv rfl rfl ?_
    refine RG.vv (FV.addU (a := u128) (b := shrU (shlU a2 (u64of y8).toNat) 32) rfl rfl) rfl ?_
    refine RG.sg rfl rfl ?_
    refine RG.nil ?_
    refine MX.sr ?_
    refine RG.mv rfl rfl ?_
    refine RG.vv (FV.geqU (a := u128 + (shrU (shlU a2 (u64of y8).toNat) 32)) (b := (4294967296 : UInt64)) rfl rfl) rfl ?_
    refine RG.nil ?_
    refine MX.ifd rfl h (fun c139 h => ?_) (fun c139 h => ?_)
    ·skip
     refine MX.exit rfl ?_
     have h := hh135 _ h
     try dsimp only at h
     exact hJ49 (u127 - (1 : UInt64)) _ _ ⟨rfl, rfl, rfl, rfl, rfl, rfl, rfl, rfl, trivial⟩ ⟨hS129, hT130⟩ h
    refine MX.skip ?_
    refine MX.inBlock ?_
    exact hJ137 (u127 - (1 : UInt64), u128 + (shrU (shlU a2 (u64of y8).toNat) 32)) _ _ ⟨rfl, rfl, rfl, rfl, rfl, rfl, rfl, rfl, rfl, trivial⟩ ⟨hS129, hT130⟩ h
   refine RG.val' (.yes rfl rfl) (FV.move rfl) rfl ?_
   refine RG.val' (.yes rfl rfl) (FV.move rfl) rfl ?_
   refine RG.val' (.yes rfl rfl) (FV.mulU (a := u127) (b := (shlU a2 (u64of y8).toNat) &&& (4294967295 : UInt64)) rfl rfl) rfl ?_
   refine RG.val' (.yes rfl rfl) (FV.move rfl) rfl ?_
   refine RG.val' (.yes rfl rfl) (FV.mulU (a := (4294967296 : UInt64)) (b := u128) rfl rfl) rfl ?_
   refine RG.val' (.yes rfl rfl) (FV.move rfl) rfl ?_
   refine RG.val' (.yes rfl rfl) (FV.addU (a := (4294967296 : UInt64) * u128) (b := shrU (shlU a1 (u64of y8).toNat) 32) rfl rfl) rfl ?_
   refine RG.val' (.yes rfl rfl) (FV.gtrU (a := u127 * ((shlU a2 (u64of y8).toNat) &&& (4294967295 : UInt64))) (b := ((4294967296 : UInt64) * u128) + (shrU (shlU a1 (u64of y8).toNat) 32)) rfl rfl) rfl ?_
   refine RG.vv (FV.pick_f rfl rfl) rfl ?_
   refine RG.nil ?_
   refine MX.ifd rfl h (fun c140 h => ?_) (fun c140 h => ?_)
   ·skip
    refine MX.skip ?_
    refine MX.block ?_
    refine MX.sr ?_
    refine RG.mv rfl rfl ?_
    refine RG.vv (FV.subU (a := u127) (b := (1 : UInt64)) rfl rfl) rfl ?_
    refine RG.sg rfl rfl ?_
    refine RG.nil ?_
    refine MX.sr ?_
    refine RG.mv rfl rfl ?_
    refine RG.mv rfl rfl ?_
    refine RG.vv (FV.addU (a := u128) (b := shrU (shlU a2 (u64of y8).toNat) 32) rfl rfl) rfl ?_
    refine RG.sg rfl rfl ?_
    refine RG.nil ?_
    refine MX.sr ?_
    refine RG.mv rfl rfl ?_
    refine RG.vv (FV.geqU (a := u128 + (shrU (shlU a2 (u64of y8).toNat) 32)) (b := (4294967296 : UInt64)) rfl rfl) rfl ?_
    refine RG.nil ?_
    refine MX.ifd rfl h (fun c141 h => ?_) (fun c141 h => ?_)
    ·skip
     refine MX.exit rfl ?_
     have h := hh135 _ h
     try dsimp only at h
     exact hJ49 (u127 - (1 : UInt64)) _ _ ⟨rfl, rfl, rfl, rfl, rfl, rfl, rfl, rfl, trivial⟩ ⟨hS129, hT130⟩ h
    refine MX.skip ?_
    refine MX.inBlock ?_
    exact hJ137 (u127 - (1 : UInt64), u128 + (shrU (shlU a2 (u64of y8).toNat) 32)) _ _ ⟨rfl, rfl, rfl, rfl, rfl, rfl, rfl, rfl, rfl, trivial⟩ ⟨hS129, hT130⟩ h
   refine MX.exit rfl ?_
   have h := hh135 _ h
   try dsimp only at h
   exact hJ49 u127 _ _ ⟨rfl, rfl, rfl, rfl, rfl, rfl, rfl, rfl, trivial⟩ ⟨hS129, hT130⟩ h
def wide_length_p (n : Nat) (a0 : List UInt64) : Option Int :=
  (if a0.length = 0 then some (0 : Int) else (chk (64 * ((a0.length : Nat) : Int))).bind fun s3 => (idx a0 (((a0.length : Nat) : Int) - 1)).bind fun x4 => (math_bits_LeadingZeros64_p n x4).bind fun y15 => (chk (s3 - y15)).bind fun s16 => some s16)
set_option maxRecDepth 4000 in
set_option maxHeartbeats 4000000 in
theorem wide_length_c (n : Nat) (L : List Nat) (w : World) (hL : ∀ b ∈ L, b < w.heap.size) (a0 : List UInt64) {v0_0 : Value} (h0_0 : Rep.R w L [v0_0] a0)  {r : Int} (h : wide_length_p n a0 = some r) :
    Calls Tryz.prog 215 #[v0_0] w (Gives w fun _ u => u = .int .i64 r) := by
  unfold wide_length_p at h
  have hS0 := St.start w
  refine MX.start Tryz.func215 rfl rfl rfl (fun _ cs0 hb0 => ?_)
  refine MX.sr ?_
  refine RG.sg rfl rfl ?_
  refine RG.nil ?_
  refine MX.seq ?_
  refine MX.sr ?_
  refine RG.mv rfl rfl ?_
  have hl1 : a0.length ≤ 281474976710656 := Rep.lenle h0_0
  refine RG.vv (FV.len (xs := a0) Tryz.underlying121 rfl h0_0) rfl ?_
  refine RG.vv (FV.eqlN (i := a0.length) (j := 0) rfl rfl) rfl ?_
  refine RG.nil ?_
  refine MX.ifd rfl h (fun c2 h => ?_) (fun c2 h => ?_)
  ·skip
   refine MX.sr ?_
   refine RG.sg rfl rfl ?_
   refine RG.nil ?_
   refine MX.ret rfl ?_
   refine RT.leave hb0 Tryz.func215 rfl (.cons (.tmp rfl) .nil) rfl ?_
   obtain rfl := Option.some.inj h
   exact ⟨hS0.ag, fun w9 hw9 => rfl⟩
  refine MX.skip ?_
  refine MX.sr ?_
  refine RG.mv rfl rfl ?_
  refine RG.vv (FV.len (xs := a0) Tryz.underlying121 rfl h0_0) rfl ?_
  obtain ⟨s3, hs3, h⟩ := bind_in h
  refine RG.vv (FV.mulc (i := 64) (j := ((a0.length : Nat) : Int)) rfl rfl hs3) rfl ?_
  refine RG.mv rfl rfl ?_
  refine RG.mv rfl rfl ?_
  refine RG.vv (FV.len (xs := a0) Tryz.underlying121 rfl h0_0) rfl ?_
  refine RG.vv (FV.subI (i := ((a0.length : Nat) : Int)) (j := 1) rfl rfl (by omega)) rfl ?_
  obtain ⟨x4, hx4, h⟩ := bind_in h
  obtain ⟨hi5, hx6⟩ := idx_in hx4
  obtain ⟨A7, c8, he9, hk10, cs11, hr12, hm13⟩ := Rep.nth h0_0 hx6
  have he14 : cs11 = [.int .u64 (x4.toNat : Int)] := hr12; subst he14
  refine RG.vv (FV.idxAddr (m := 1) (i := (((a0.length : Nat) : Int) - 1).toNat) (by kernel_rfl) rfl he9 rfl hi5 hk10) rfl ?_
  refine RG.vv (FV.load1 (by kernel_rfl) rfl (hm13 0 _ rfl)) rfl ?_
  obtain ⟨y15, hy15, h⟩ := bind_in h
  refine RG.cq (.int .i64 y15) body222 rfl (evs_cons rfl evs_nil) (fun w9 hw9 => math_bits_LeadingZeros64_c n _ w9 (hS0.hL0 hL hw9) x4 hy15) rfl ?_
  obtain ⟨s16, hs16, h⟩ := bind_in h
  refine RG.vv (FV.subc (i := s3) (j := y15) rfl rfl hs16) rfl ?_
  refine RG.sg rfl rfl ?_
  refine RG.nil ?_
  refine MX.ret rfl ?_
  refine RT.leave hb0 Tryz.func215 rfl (.cons (.tmp rfl) .nil) rfl ?_
  obtain rfl := Option.some.inj h
  exact ⟨hS0.ag, fun w9 hw9 => rfl⟩
def tb216_5 : List (Nat × Nat × Nat) := [(0, 4194304, 32), (0, 8388608, 64), (0, 16777216, 2), (4, 33554432, 16777216), (10, 67108864, 41943040), (17, 134217728, 71303168), (32, 268435456, 134217728), (0, 536870912, 128), (0, 1073741824, 2), (256, 2147483648, 1073741824), (640, 4294967296, 2684354560), (1088, 8589934592, 4563402752), (4095, 17179869184, 71303168), (8191, 0, 25769803776)]
def wide_moved_l1 (_n : Nat) (a0 : List UInt64) (a1 : Int) (J166 : Nat × (List UInt64) → Option (List UInt64)) : Nat × (List UInt64) → Option (List UInt64)
  | (i155, xs156) => (if i155 < a0.length then (a0[i155]?).bind fun x169 => (quoI a1 64).bind fun s181 => (chk (((i155 : Nat) : Int) + s181)).bind fun s182 => (idx xs156 s182).bind fun x183 => (remI a1 64).bind fun s197 => (natOf s197).bind fun k198 => (put xs156 ((s182.toNat : Nat) : Int) (x183 ||| (shlU x169 k198))).bind fun xs199 => (remI a1 64).bind fun s205 => (if 0 < s205 then (quoI a1 64).bind fun s207 => (chk (((i155 : Nat) : Int) + s207)).bind fun s208 => (chk (s208 + 1)).bind fun s209 => (remI a1 64).bind fun s210 => (chk (64 - s210)).bind fun s211 => (natOf s211).bind fun k212 => (idx xs199 s209).bind fun x213 => (put xs199 ((s209.toNat : Nat) : Int) (shrU x169 k212)).bind fun xs227 => J166 (i155 + 1, xs227) else J166 (i155 + 1, xs199)) else some xs156)
def wide_moved_p (n : Nat) (a0 : List UInt64) (a1 : Int) : Option (List UInt64) :=
  (quoI a1 64).bind fun s2 => (chk (((a0.length : Nat) : Int) + s2)).bind fun s3 => (chk (s3 + 1)).bind fun s4 => (mk s4 (0 : UInt64)).bind fun xs6 => Option.bind (loopF (wide_moved_l1 n a0 a1) n (0, xs6)) (fun xs156 => (wide_trimmed_p n false xs156).bind fun y233 => some y233.fWords)
set_option maxRecDepth 4000 in
set_option maxHeartbeats 4000000 in
theorem wide_moved_c (n : Nat) (L : List Nat) (w : World) (hL : ∀ b ∈ L, b < w.heap.size) (a0 : List UInt64) {v0_0 : Value} (h0_0 : Rep.R w L [v0_0] a0) (a1 : Int)  {r : List UInt64} (h : wide_moved_p n a0 a1 = some r) :
    Calls Tryz.prog 216 #[v0_0, .int .i64 a1] w (Gives w fun w' u => ∃ v0_0 : Value, u = v0_0 ∧ Rep.R w' L [v0_0] r) := by
  unfold wide_moved_p at h
  have hS0 := St.start w
  refine MX.start Tryz.func216 rfl rfl rfl (fun _ cs0 hb0 => ?_)
  refine MX.sr ?_
  refine RG.sg rfl rfl ?_
  refine RG.nil ?_
  refine MX.sr ?_
  refine RG.mv rfl rfl ?_
  have hl1 : a0.length ≤ 281474976710656 := Rep.lenle h0_0
  refine RG.vv (FV.len (xs := a0) Tryz.underlying121 rfl h0_0) rfl ?_
  refine RG.mv rfl rfl ?_
  obtain ⟨s2, hs2, h⟩ := bind_in h
  refine RG.vv (FV.quoc (i := a1) (j := 64) rfl rfl hs2) rfl ?_
  obtain ⟨s3, hs3, h⟩ := bind_in h
  refine RG.vv (FV.addc (i := ((a0.length : Nat) : Int)) (j := s2) rfl rfl hs3) rfl ?_
  obtain ⟨s4, hs4, h⟩ := bind_in h
  refine RG.vv (FV.addc (i := s3) (j := 1) rfl rfl hs4) rfl ?_
  obtain ⟨xs6, hxs6, h⟩ := bind_in h
  refine RG.new .plain rfl (Does.mk (α := UInt64) hxs6 hS0 el121 rfl) (fun w7 b10 hS8 hT9 => ?_)
  have hc11 := Cells.at_ (cs := (List.replicate s4.toNat [.int .u64 0]).flatten) (xs := xs6) hS8 L (Cells.mk hxs6 rfl)
  refine RG.sg rfl rfl ?_
  refine RG.nil ?_
  refine MX.seq ?_
  refine MX.sr ?_
  refine RG.mv rfl rfl ?_
  have hm12 := Rep.mv h0_0 hT9
  refine RG.vv (FV.len (xs := a0) Tryz.underlying121 rfl hm12) rfl ?_
  refine RG.mv rfl rfl ?_
  refine RG.nil ?_
  refine MX.block ?_
  obtain ⟨o164, ho163, hh165⟩ := bind_in2 h
  refine MX.loop (α := Nat × (List UInt64) × (List Value)) (fun ⟨i155, xs156, cs157⟩ => [(1, .int .i64 a1), (5, (.slice (some ⟨b10, 0, none⟩) s4.toNat s4.toNat)), (15, v0_0), (16, .int .i64 ((a0.length : Nat) : Int)), (17, .int .i64 ((i155 : Nat) : Int))]) (fun ⟨i155, xs156, cs157⟩ wx158 => St w wx158 [.row w.heap.size 33 (Rep.size UInt64) (.slice (some ⟨b10, 0, none⟩) s4.toNat s4.toNat) xs156.length cs157] ∧ Tr w7 [.row w.heap.size 33 (Rep.size UInt64) (.slice (some ⟨b10, 0, none⟩) s4.toNat s4.toNat) xs6.length ((List.replicate s4.toNat [.int .u64 0]).flatten)] wx158 [.row w.heap.size 33 (Rep.size UInt64) (.slice (some ⟨b10, 0, none⟩) s4.toNat s4.toNat) xs156.length cs157] ∧ Cells wx158 (bl [.row w.heap.size 33 (Rep.size UInt64) (.slice (some ⟨b10, 0, none⟩) s4.toNat s4.toNat) xs156.length cs157] ++ L) cs157 xs156) (fun ⟨i155, xs156, cs157⟩ => (i155, xs156)) (0, xs6, (List.replicate s4.toNat [.int .u64 0]).flatten) ho163 ⟨rfl, rfl, rfl, rfl, rfl, trivial⟩ ⟨hS8, Tr.refl _ _, hc11⟩ ?_
  rintro J166 ⟨i155, xs156, cs157⟩ wx158 hJ167 ⟨hS159, hT160, hc158⟩ h
  unfold wide_moved_l1 at h
  try dsimp only at h
  refine MX.sr ?_
  refine RG.vv (FV.lssN (i := i155) (j := a0.length) rfl rfl) rfl ?_
  refine RG.nil ?_
  refine MX.seq ?_
  refine MX.ifd rfl h (fun c168 h => ?_) (fun c168 h => ?_)
  ·skip
   refine MX.skip ?_
   refine MX.seq ?_
   refine MX.block ?_
   refine MX.sr ?_
   refine RG.mv rfl rfl ?_
   obtain ⟨x169, hx169, h⟩ := bind_in h
   have hm177 := Rep.mv h0_0 (Tr.trans hT9 hT160)
   obtain ⟨A170, c171, he172, hk173, cs174, hr175, hm176⟩ := Rep.nth hm177 hx169
   have he178 : cs174 = [.int .u64 (x169.toNat : Int)] := hr175; subst he178
   refine RG.vv (FV.idxAddr (m := 1) (i := i155) (by kernel_rfl) rfl he172 rfl rfl hk173) rfl ?_
   refine RG.vv (FV.load1 (by kernel_rfl) rfl (hm176 0 _ rfl)) rfl ?_
   refine RG.sg rfl rfl ?_
   refine RG.sg rfl rfl ?_
   refine RG.nil ?_
   refine MX.seq ?_
   refine MX.drawT 13 tb216_5 (by kernel_rfl) (by kernel_rfl) (by kernel_rfl) (fun kt179 kp180 => ?_)
   refine RD.vw 0 1 kt179 rfl kp180 (fun _ => FV.move rfl) rfl ?_
   refine RD.vw 1 3 kt179 rfl kp180 (fun _ => FV.move rfl) rfl ?_
   refine RD.vw 2 7 kt179 rfl kp180 (fun _ => FV.move rfl) rfl ?_
   obtain ⟨s181, hs181, h⟩ := bind_in h
   refine RD.vw 3 15 kt179 rfl kp180 (fun _ => FV.quoc (i := a1) (j := 64) rfl rfl hs181) rfl ?_
   obtain ⟨s182, hs182, h⟩ := bind_in h
   refine RD.vw 4 31 kt179 rfl kp180 (fun _ => FV.addc (i := ((i155 : Nat) : Int)) (j := s181) rfl rfl hs182) rfl ?_
   obtain ⟨x183, hx183, h⟩ := bind_in h
   obtain ⟨hi184, hx185⟩ := idx_in hx183
   obtain ⟨A186, c187, he188, hk189, cs190, hr191, hm192⟩ := St.nth (α := UInt64) hS159 .hd hc158 hx185
   obtain ⟨b193, c194, he195⟩ := St.nthOwn (α := UInt64) hS159 .hd hk189
   obtain rfl : A186 = ⟨b193, 0, none⟩ := by rw [he195] at he188; cases he188; rfl
   have he196 : cs190 = [.int .u64 (x183.toNat : Int)] := hr191; subst he196
   refine RD.vw 5 63 kt179 rfl kp180 (fun _ => FV.idxAddr (m := 1) (i := s182.toNat) (by kernel_rfl) rfl he188 rfl hi184 hk189) rfl ?_
   refine RD.vx 6 127 14336 kt179 rfl kp180 (FV.load1 (by kernel_rfl) rfl (hm192 0 _ rfl)) rfl ?_
   refine RD.vw 7 255 kt179 rfl kp180 (fun _ => FV.move rfl) rfl ?_
   refine RD.vw 8 511 kt179 rfl kp180 (fun _ => FV.move rfl) rfl ?_
   obtain ⟨s197, hs197, h⟩ := bind_in h
   refine RD.vw 9 1023 kt179 rfl kp180 (fun _ => FV.remc (i := a1) (j := 64) rfl rfl hs197) rfl ?_
   obtain ⟨k198, hk198, h⟩ := bind_in h
   refine RD.vw 10 2047 kt179 rfl kp180 (fun _ => FV.shlI (a := x169) (i := s197) rfl rfl hk198) rfl ?_
   refine RD.vw 11 4095 kt179 rfl kp180 (fun _ => FV.orU (a := x183) (b := shlU x169 k198) rfl rfl) rfl ?_
   refine RD.vw 12 8191 kt179 rfl kp180 (fun _ => FV.idxAddr (m := 1) (i := s182.toNat) (by kernel_rfl) rfl he188 rfl hi184 hk189) rfl ?_
   obtain ⟨xs199, hxs199, h⟩ := bind_in h
   refine RD.one (i := 13) (readyD_ok kt179 (by kernel_rfl)) (RO.acts (m' := 16383) (stepC_ok kt179 (by kernel_rfl)) rfl rfl .plain (Acts.set (α := UInt64) (i := s182.toNat) (F := fun cs' => [.row w.heap.size 33 (Rep.size UInt64) (.slice (some ⟨b10, 0, none⟩) s4.toNat s4.toNat) xs199.length cs']) hxs199 hS159 he195 (fun _ => .hd) hc158 rfl rfl rfl rfl rfl (by kernel_rfl)) (fun w200 ⟨cs204, hS201, hT202, hc203⟩ => ?_))
   refine RD.done (doneD_ok kt179 (by kernel_rfl)) ?_
   refine MX.sr ?_
   refine RG.mv rfl rfl ?_
   obtain ⟨s205, hs205, h⟩ := bind_in h
   refine RG.vv (FV.remc (i := a1) (j := 64) rfl rfl hs205) rfl ?_
   refine RG.vv (FV.gtr (i := s205) (j := 0) rfl rfl) rfl ?_
   refine RG.nil ?_
   refine MX.ifd rfl h (fun c206 h => ?_) (fun c206 h => ?_)
   ·skip
    refine MX.region ?_
    refine RG.mv rfl rfl ?_
    refine RG.mv rfl rfl ?_
    refine RG.mv rfl rfl ?_
    obtain ⟨s207, hs207, h⟩ := bind_in h
    refine RG.vv (FV.quoc (i := a1) (j := 64) rfl rfl hs207) rfl ?_
    obtain ⟨s208, hs208, h⟩ := bind_in h
    refine RG.vv (FV.addc (i := ((i155 : Nat) : Int)) (j := s207) rfl rfl hs208) rfl ?_
    obtain ⟨s209, hs209, h⟩ := bind_in h
    refine RG.vv (FV.addc (i := s208) (j := 1) rfl rfl hs209) rfl ?_
    refine RG.mv rfl rfl ?_
    refine RG.mv rfl rfl ?_
    obtain ⟨s210, hs210, h⟩ := bind_in h
    refine RG.vv (FV.remc (i := a1) (j := 64) rfl rfl hs210) rfl ?_
    obtain ⟨s211, hs211, h⟩ := bind_in h
    refine RG.vv (FV.subc (i := 64) (j := s210) rfl rfl hs211) rfl ?_
    obtain ⟨k212, hk212, h⟩ := bind_in h
    refine RG.vv (FV.shrI (a := x169) (i := s211) rfl rfl hk212) rfl ?_
    obtain ⟨x213, hx213, h⟩ := bind_in h
    obtain ⟨hi214, hx215⟩ := idx_in hx213
    obtain ⟨A216, c217, he218, hk219, cs220, hr221, hm222⟩ := St.nth (α := UInt64) hS201 .hd hc203 hx215
    obtain ⟨b223, c224, he225⟩ := St.nthOwn (α := UInt64) hS201 .hd hk219
    obtain rfl : A216 = ⟨b223, 0, none⟩ := by rw [he225] at he218; cases he218; rfl
    have he226 : cs220 = [.int .u64 (x213.toNat : Int)] := hr221; subst he226
    refine RG.vv (FV.idxAddr (m := 1) (i := s209.toNat) (by kernel_rfl) rfl he218 rfl hi214 hk219) rfl ?_
    obtain ⟨xs227, hxs227, h⟩ := bind_in h
    refine RG.acts' .plain (Acts.set (α := UInt64) (i := s209.toNat) (F := fun cs' => [.row w.heap.size 33 (Rep.size UInt64) (.slice (some ⟨b10, 0, none⟩) s4.toNat s4.toNat) xs227.length cs']) hxs227 hS201 he225 (fun _ => .hd) hc203 rfl rfl rfl rfl rfl (by kernel_rfl)) (fun w228 ⟨cs232, hS229, hT230, hc231⟩ => ?_)
    refine RG.nil ?_
    refine MX.inBlock ?_
    refine MX.region ?_
    refine RG.vv (FV.addN (i := i155) (j := 1) rfl rfl (by omega)) rfl ?_
    refine RG.mv rfl rfl ?_
    refine RG.nil ?_
    exact hJ167 (i155 + 1, xs227, cs232) _ _ ⟨rfl, rfl, rfl, rfl, rfl, trivial⟩ ⟨hS229, (Tr.trans hT160 (Tr.trans hT202 hT230)), hc231⟩ h
   refine MX.skip ?_
   refine MX.inBlock ?_
   refine MX.region ?_
   refine RG.vv (FV.addN (i := i155) (j := 1) rfl rfl (by omega)) rfl ?_
   refine RG.mv rfl rfl ?_
   refine RG.nil ?_
   exact hJ167 (i155 + 1, xs199, cs204) _ _ ⟨rfl, rfl, rfl, rfl, rfl, trivial⟩ ⟨hS201, (Tr.trans hT160 hT202), hc203⟩ h
  refine MX.exit rfl ?_
  have h := hh165 _ h
  try dsimp only at h
  refine MX.sr ?_
  refine RG.mv rfl rfl ?_
  have hr234 := St.freeze (α := UInt64) hS159 .hd hc158 hL
  have hS235 := St.delS hS159 .hd
  have hT236 := St.delT hS159 .hd
  have hr237 := Rep.at_ (α := UInt64) (v := (.slice (some ⟨b10, 0, none⟩) s4.toNat s4.toNat)) (xs := xs156) hS235 L hr234
  obtain ⟨y233, hy233, h⟩ := bind_in h
  refine RG.call' (fst := []) (cap := []) .plain body169 rfl (evs_cons rfl (evs_cons rfl evs_nil)) (fun w9 hw9 => wide_trimmed_c n _ w9 (hS235.hL hL hw9) false xs156 (Rep.keep0 hr237 hw9) hy233) rfl (fun w238 vu239 hag240 ⟨v243, hu_, hr244⟩ => ?_)
  subst hu_
  obtain ⟨hS241, hT242⟩ := hS235.agr hag240
  refine RG.vv (FV.field1 (cs := [.bool y233.fBelow, v243]) (off := 1) (m := 1) (by kernel_rfl) (by kernel_rfl) rfl rfl) rfl ?_
  refine RG.sg rfl rfl ?_
  refine RG.nil ?_
  refine MX.ret rfl ?_
  refine RT.leave hb0 Tryz.func216 rfl (.cons (.tmp rfl) .nil) rfl ?_
  obtain rfl := Option.some.inj h
  exact ⟨hS241.ag, fun w9 hw9 => ⟨v243, rfl, Rep.keep0 (Rep.dropS hS241 hr244) hw9⟩⟩
def tb194_7 : List (Nat × Nat × Nat) := [(0, 16777216, 16), (0, 33554432, 128), (0, 67108864, 64), (0, 134217728, 1), (0, 268435456, 128), (24, 536870912, 402653184), (32, 1073741824, 536870912), (0, 2147483648, 2), (128, 4294967296, 2147483648), (256, 8589934592, 4294967296), (580, 17179869184, 9730785280), (1024, 8388608, 17179869184), (2048, 34359738368, 8388608), (2048, 68719476736, 8388608), (8191, 137438953472, 50331648), (24575, 0, 171798691840), (65535, 64, 68719476736)]
def tb194_16 : List (Nat × Nat × Nat) := [(0, 36893488147419103232, 16), (0, 73786976294838206464, 256), (2, 147573952589676412928, 73786976294838206464), (5, 295147905179352825856, 184467440737095516160), (8, 590295810358705651712, 295147905179352825856), (0, 1180591620717411303424, 256), (32, 2361183241434822606848, 1180591620717411303424), (64, 4722366482869645213696, 2361183241434822606848), (144, 9444732965739290427392, 5312662293228350865408), (511, 18889465931478580854784, 184467440737095516160), (1023, 0, 28334198897217871282176)]
theorem body172 : bodyB Tryz.prog 172 = true := by kernel_rfl
theorem body173 : bodyB Tryz.prog 173 = true := by kernel_rfl
theorem body214 : bodyB Tryz.prog 214 = true := by kernel_rfl
theorem body215 : bodyB Tryz.prog 215 = true := by kernel_rfl
theorem body216 : bodyB Tryz.prog 216 = true := by kernel_rfl
def wide_divided_l1 (n : Nat) (a0 : List UInt64) (a1 : List UInt64) (J133 : UInt64 × Int × (List UInt64) → Option (UInt64 × (List UInt64))) : UInt64 × Int × (List UInt64) → Option (UInt64 × (List UInt64))
  | (u121, z122, xs123) => (if 0 ≤ z122 then (idx a0 z122).bind fun x138 => (a1[0]?).bind fun x150 => (math_bits_Div64_p n u121 x138 x150).bind fun y160 => (idx xs123 z122).bind fun x161 => (put xs123 ((z122.toNat : Nat) : Int) y160.1).bind fun xs175 => (chk (z122 - 1)).bind fun s181 => J133 (y160.2, s181, xs175) else some (u121, xs123))
def wide_divided_l2 (n : Nat) (a1 : List UInt64) (J465 : (List UInt64) × Int × (List UInt64) → Option ((List UInt64) × (List UInt64))) : (List UInt64) × Int × (List UInt64) → Option ((List UInt64) × (List UInt64))
  | (xs451, z454, xs455) => (if 0 ≤ z454 then (wide_moved_p n a1 z454).bind fun y468 => (wide_compared_p n xs451 y468).bind fun y477 => jn (fun (xs522, xs525) => (chk (z454 - 1)).bind fun s533 => J465 (xs522, s533, xs525)) (fun J531 => (if 0 ≤ y477 then (wide_taken_p n xs451 y468).bind fun y535 => (wide_trimmed_p n false y535).bind fun y543 => (quoI z454 64).bind fun s553 => (idx xs455 s553).bind fun x554 => (remI z454 64).bind fun s569 => (natOf s569).bind fun k570 => (put xs455 ((s553.toNat : Nat) : Int) (x554 ||| (shlU (1 : UInt64) k570))).bind fun xs571 => J531 (y543.fWords, xs571) else J531 (xs451, xs455))) else some (xs455, xs451))
def wide_divided_p (n : Nat) (a0 : List UInt64) (a1 : List UInt64) : Option ((List UInt64) × (List UInt64)) :=
  (mk ((a0.length : Nat) : Int) (0 : UInt64)).bind fun xs3 => (if a1.length = 1 then Option.bind (loopF (wide_divided_l1 n a0 a1) n ((0 : UInt64), ((a0.length : Nat) : Int) - 1, xs3)) (fun (u121, xs123) => (wide_trimmed_p n false ([u121] : List UInt64)).bind fun y188 => some (xs123, y188.fWords)) else (wide_length_p n a0).bind fun y206 => (wide_length_p n a1).bind fun y208 => (chk (y206 - y208)).bind fun s209 => Option.bind (loopF (wide_divided_l2 n a1) n (a0, s209, xs3)) (fun (xs455, xs451) => some (xs455, xs451)))
set_option maxRecDepth 4000 in
set_option maxHeartbeats 4000000 in
theorem wide_divided_c (n : Nat) (L : List Nat) (w : World) (hL : ∀ b ∈ L, b < w.heap.size) (a0 : List UInt64) {v0_0 : Value} (h0_0 : Rep.R w L [v0_0] a0) (a1 : List UInt64) {v1_0 : Value} (h1_0 : Rep.R w L [v1_0] a1)  {r : (List UInt64) × (List UInt64)} (h : wide_divided_p n a0 a1 = some r) :
    Calls Tryz.prog 194 #[v0_0, v1_0] w (Gives w fun w' u => ∃ v0_0 v1_0 : Value, u = .tuple #[v0_0, v1_0] ∧ Rep.R w' L [v0_0] r.1 ∧ Rep.R w' L [v1_0] r.2) := by
  unfold wide_divided_p at h
  have hS0 := St.start w
  refine MX.start Tryz.func194 rfl rfl rfl (fun _ cs0 hb0 => ?_)
  refine MX.sr ?_
  refine RG.sg rfl rfl ?_
  refine RG.sg rfl rfl ?_
  refine RG.nil ?_
  refine MX.sr ?_
  refine RG.mv rfl rfl ?_
  have hl1 : a0.length ≤ 281474976710656 := Rep.lenle h0_0
  refine RG.vv (FV.len (xs := a0) Tryz.underlying121 rfl h0_0) rfl ?_
  obtain ⟨xs3, hxs3, h⟩ := bind_in h
  refine RG.new .plain rfl (Does.mk (α := UInt64) hxs3 hS0 el121 rfl) (fun w4 b7 hS5 hT6 => ?_)
  have hc8 := Cells.at_ (cs := (List.replicate ((a0.length : Nat) : Int).toNat [.int .u64 0]).flatten) (xs := xs3) hS5 L (Cells.mk hxs3 rfl)
  refine RG.sg rfl rfl ?_
  refine RG.nil ?_
  refine MX.seq ?_
  refine MX.sr ?_
  refine RG.mv rfl rfl ?_
  have hm10 := Rep.mv h1_0 hT6
  have hl9 : a1.length ≤ 281474976710656 := Rep.lenle hm10
  refine RG.vv (FV.len (xs := a1) Tryz.underlying121 rfl hm10) rfl ?_
  refine RG.vv (FV.eqlN (i := a1.length) (j := 1) rfl rfl) rfl ?_
  refine RG.nil ?_
  refine MX.ifd rfl h (fun c11 h => ?_) (fun c11 h => ?_)
  ·skip
   refine MX.sr ?_
   refine RG.sg rfl rfl ?_
   refine RG.nil ?_
   refine MX.seq ?_
   refine MX.sr ?_
   refine RG.mv rfl rfl ?_
   have hm12 := Rep.mv h0_0 hT6
   refine RG.vv (FV.len (xs := a0) Tryz.underlying121 rfl hm12) rfl ?_
   refine RG.vv (FV.subI (i := ((a0.length : Nat) : Int)) (j := 1) rfl rfl (by omega)) rfl ?_
   refine RG.sg rfl rfl ?_
   refine RG.nil ?_
   refine MX.block ?_
   obtain ⟨o131, ho130, hh132⟩ := bind_in2 h
   refine MX.loop (α := UInt64 × Int × (List UInt64) × (List Value)) (fun ⟨u121, z122, xs123, cs124⟩ => [(0, v0_0), (1, v1_0), (4, (.slice (some ⟨b7, 0, none⟩) ((a0.length : Nat) : Int).toNat ((a0.length : Nat) : Int).toNat)), (6, .int .u64 (u121.toNat : Int)), (7, .int .i64 z122)]) (fun ⟨u121, z122, xs123, cs124⟩ wx125 => St w wx125 [.row w.heap.size 33 (Rep.size UInt64) (.slice (some ⟨b7, 0, none⟩) ((a0.length : Nat) : Int).toNat ((a0.length : Nat) : Int).toNat) xs123.length cs124] ∧ Tr w4 [.row w.heap.size 33 (Rep.size UInt64) (.slice (some ⟨b7, 0, none⟩) ((a0.length : Nat) : Int).toNat ((a0.length : Nat) : Int).toNat) xs3.length ((List.replicate ((a0.length : Nat) : Int).toNat [.int .u64 0]).flatten)] wx125 [.row w.heap.size 33 (Rep.size UInt64) (.slice (some ⟨b7, 0, none⟩) ((a0.length : Nat) : Int).toNat ((a0.length : Nat) : Int).toNat) xs123.length cs124] ∧ Cells wx125 (bl [.row w.heap.size 33 (Rep.size UInt64) (.slice (some ⟨b7, 0, none⟩) ((a0.length : Nat) : Int).toNat ((a0.length : Nat) : Int).toNat) xs123.length cs124] ++ L) cs124 xs123) (fun ⟨u121, z122, xs123, cs124⟩ => (u121, z122, xs123)) ((0 : UInt64), ((a0.length : Nat) : Int) - 1, xs3, (List.replicate ((a0.length : Nat) : Int).toNat [.int .u64 0]).flatten) ho130 ⟨rfl, rfl, rfl, rfl, rfl, trivial⟩ ⟨hS5, Tr.refl _ _, hc8⟩ ?_
   rintro J133 ⟨u121, z122, xs123, cs124⟩ wx125 hJ134 ⟨hS126, hT127, hc125⟩ h
   unfold wide_divided_l1 at h
   try dsimp only at h
   refine MX.seq ?_
   refine MX.sr ?_
   refine RG.mv rfl rfl ?_
   refine RG.vv (FV.geq (i := z122) (j := 0) rfl rfl) rfl ?_
   refine RG.nil ?_
   refine MX.ifd rfl h (fun c135 h => ?_) (fun c135 h => ?_)
   ·skip
    refine MX.skip ?_
    refine MX.seq ?_
    refine MX.block ?_
    refine MX.drawT 15 tb194_7 (by kernel_rfl) (by kernel_rfl) (by kernel_rfl) (fun kt136 kp137 => ?_)
    refine RD.vw 0 1 kt136 rfl kp137 (fun _ => FV.move rfl) rfl ?_
    refine RD.vw 1 3 kt136 rfl kp137 (fun _ => FV.move rfl) rfl ?_
    refine RD.vw 2 7 kt136 rfl kp137 (fun _ => FV.move rfl) rfl ?_
    refine RD.vw 3 15 kt136 rfl kp137 (fun _ => FV.move rfl) rfl ?_
    refine RD.vw 4 31 kt136 rfl kp137 (fun _ => FV.move rfl) rfl ?_
    obtain ⟨x138, hx138, h⟩ := bind_in h
    obtain ⟨hi139, hx140⟩ := idx_in hx138
    have hm148 := Rep.mv h0_0 (Tr.trans hT6 hT127)
    obtain ⟨A141, c142, he143, hk144, cs145, hr146, hm147⟩ := Rep.nth hm148 hx140
    have he149 : cs145 = [.int .u64 (x138.toNat : Int)] := hr146; subst he149
    refine RD.vw 5 63 kt136 rfl kp137 (fun _ => FV.idxAddr (m := 1) (i := z122.toNat) (by kernel_rfl) rfl he143 rfl hi139 hk144) rfl ?_
    refine RD.vx 6 127 130048 kt136 rfl kp137 (FV.load1 (by kernel_rfl) rfl (hm147 0 _ rfl)) rfl ?_
    refine RD.vw 7 255 kt136 rfl kp137 (fun _ => FV.move rfl) rfl ?_
    obtain ⟨x150, hx150, h⟩ := bind_in h
    have hm158 := Rep.mv h1_0 (Tr.trans hT6 hT127)
    obtain ⟨A151, c152, he153, hk154, cs155, hr156, hm157⟩ := Rep.nth hm158 hx150
    have he159 : cs155 = [.int .u64 (x150.toNat : Int)] := hr156; subst he159
    refine RD.vw 8 511 kt136 rfl kp137 (fun _ => FV.idxAddr (m := 1) (i := 0) (by kernel_rfl) rfl he153 rfl rfl hk154) rfl ?_
    refine RD.vx 9 1023 130048 kt136 rfl kp137 (FV.load1 (by kernel_rfl) rfl (hm157 0 _ rfl)) rfl ?_
    obtain ⟨y160, hy160, h⟩ := bind_in h
    refine RD.cq 10 2047 129024 (.tuple #[.int .u64 (y160.1.toNat : Int), .int .u64 (y160.2.toNat : Int)]) kt136 rfl kp137 body214 rfl (evs_cons rfl (evs_cons rfl (evs_cons rfl evs_nil))) (fun w9 hw9 => math_bits_Div64_c n _ w9 (hS126.hL0 hL hw9) u121 x138 x150 hy160) rfl ?_
    refine RD.vw 11 4095 kt136 rfl kp137 (fun _ => FV.move rfl) rfl ?_
    refine RD.vw 12 8191 kt136 rfl kp137 (fun _ => FV.extract rfl rfl) rfl ?_
    refine RD.vw 13 16383 kt136 rfl kp137 (fun _ => FV.extract rfl rfl) rfl ?_
    obtain ⟨x161, hx161, h⟩ := bind_in h
    obtain ⟨hi162, hx163⟩ := idx_in hx161
    obtain ⟨A164, c165, he166, hk167, cs168, hr169, hm170⟩ := St.nth (α := UInt64) hS126 .hd hc125 hx163
    obtain ⟨b171, c172, he173⟩ := St.nthOwn (α := UInt64) hS126 .hd hk167
    obtain rfl : A164 = ⟨b171, 0, none⟩ := by rw [he173] at he166; cases he166; rfl
    have he174 : cs168 = [.int .u64 (x161.toNat : Int)] := hr169; subst he174
    refine RD.vw 14 32767 kt136 rfl kp137 (fun _ => FV.idxAddr (m := 1) (i := z122.toNat) (by kernel_rfl) rfl he166 rfl hi162 hk167) rfl ?_
    obtain ⟨xs175, hxs175, h⟩ := bind_in h
    refine RD.one (i := 15) (readyD_ok kt136 (by kernel_rfl)) (RO.acts (m' := 65535) (stepC_ok kt136 (by kernel_rfl)) rfl rfl .plain (Acts.set (α := UInt64) (i := z122.toNat) (F := fun cs' => [.row w.heap.size 33 (Rep.size UInt64) (.slice (some ⟨b7, 0, none⟩) ((a0.length : Nat) : Int).toNat ((a0.length : Nat) : Int).toNat) xs175.length cs']) hxs175 hS126 he173 (fun _ => .hd) hc125 rfl rfl rfl rfl rfl (by kernel_rfl)) (fun w176 ⟨cs180, hS177, hT178, hc179⟩ => ?_))
    refine RD.one (i := 16) (readyD_ok kt136 (by kernel_rfl)) (RO.val (m' := 131071) (stepC_ok kt136 (by kernel_rfl)) rfl .plain rfl (FV.assign rfl) ?_)
    refine RD.done (doneD_ok kt136 (by kernel_rfl)) ?_
    refine MX.inBlock ?_
    refine MX.region ?_
    refine RG.mv rfl rfl ?_
    obtain ⟨s181, hs181, h⟩ := bind_in h
    refine RG.vv (FV.subc (i := z122) (j := 1) rfl rfl hs181) rfl ?_
    refine RG.sg rfl rfl ?_
    refine RG.nil ?_
    exact hJ134 (y160.2, s181, xs175, cs180) _ _ ⟨rfl, rfl, rfl, rfl, rfl, trivial⟩ ⟨hS177, (Tr.trans hT127 hT178), hc179⟩ h
   refine MX.exit rfl ?_
   have h := hh132 _ h
   try dsimp only at h
   refine MX.sr ?_
   refine RG.mv rfl rfl ?_
   refine RG.mv rfl rfl ?_
   refine RG.new .plain rfl (Does.build (α := UInt64) (xs := ([u121] : List UInt64)) (vs := [.int .u64 (u121.toNat : Int)]) (ds' := [.int .u64 (u121.toNat : Int)]) rfl hS126 el121 rfl (evs_cons rfl evs_nil) (by kernel_rfl) rfl) (fun w183 b186 hS184 hT185 => ?_)
   have hc187 := Cells.at_ (cs := [.int .u64 (u121.toNat : Int)]) (xs := (([u121] : List UInt64) : List UInt64)) hS184 L (Cells.cons (cs := [.int .u64 (u121.toNat : Int)]) (ds := []) rfl (Cells.nil _ _))
   have hr189 := St.freeze (α := UInt64) hS184 .hd hc187 hL
   have hS190 := St.delS hS184 .hd
   have hT191 := St.delT hS184 .hd
   have hr192 := Rep.at_ (α := UInt64) (v := (.slice (some ⟨b186, 0, none⟩) 1 1)) (xs := ([u121] : List UInt64)) hS190 L hr189
   obtain ⟨y188, hy188, h⟩ := bind_in h
   refine RG.call' (fst := []) (cap := []) .plain body169 rfl (evs_cons rfl (evs_cons rfl evs_nil)) (fun w9 hw9 => wide_trimmed_c n _ w9 (hS190.hL hL hw9) false ([u121] : List UInt64) (Rep.keep0 hr192 hw9) hy188) rfl (fun w193 vu194 hag195 ⟨v198, hu_, hr199⟩ => ?_)
   subst hu_
   obtain ⟨hS196, hT197⟩ := hS190.agr hag195
   refine RG.vv (FV.field1 (cs := [.bool y188.fBelow, v198]) (off := 1) (m := 1) (by kernel_rfl) (by kernel_rfl) rfl rfl) rfl ?_
   refine RG.sg rfl rfl ?_
   refine RG.sg rfl rfl ?_
   refine RG.nil ?_
   refine MX.ret rfl ?_
   have hm203 := Cells.mv hc125 (Tr.trans hT185 (Tr.trans hT191 hT197))
   have hr200 := St.freeze (α := UInt64) hS196 .hd hm203 hL
   have hS201 := St.delS hS196 .hd
   have hT202 := St.delT hS196 .hd
   have hr204 := Rep.at_ (α := UInt64) (v := (.slice (some ⟨b7, 0, none⟩) ((a0.length : Nat) : Int).toNat ((a0.length : Nat) : Int).toNat)) (xs := xs123) hS201 L hr200
   refine RT.leave hb0 Tryz.func194 rfl (.cons (.tmp rfl) (.cons (.tmp rfl) .nil)) rfl ?_
   obtain rfl := Option.some.inj h
   have hm205 := Rep.mv hr199 hT202
   exact ⟨hS201.ag, fun w9 hw9 => ⟨(.slice (some ⟨b7, 0, none⟩) ((a0.length : Nat) : Int).toNat ((a0.length : Nat) : Int).toNat), v198, rfl, Rep.keep0 (Rep.dropS hS201 hr204) hw9, Rep.keep0 (Rep.dropS hS201 hm205) hw9⟩⟩
  refine MX.skip ?_
  refine MX.sr ?_
  refine RG.mv rfl rfl ?_
  refine RG.sg rfl rfl ?_
  refine RG.nil ?_
  refine MX.seq ?_
  refine MX.sr ?_
  refine RG.mv rfl rfl ?_
  obtain ⟨y206, hy206, h⟩ := bind_in h
  have hm207 := Rep.mv h0_0 hT6
  refine RG.cq (.int .i64 y206) body215 rfl (evs_cons rfl evs_nil) (fun w9 hw9 => wide_length_c n _ w9 (hS5.hL0 hL hw9) a0 (Rep.keep0 (Rep.dropS hS5 hm207) hw9) hy206) rfl ?_
  refine RG.mv rfl rfl ?_
  obtain ⟨y208, hy208, h⟩ := bind_in h
  refine RG.cq (.int .i64 y208) body215 rfl (evs_cons rfl evs_nil) (fun w9 hw9 => wide_length_c n _ w9 (hS5.hL0 hL hw9) a1 (Rep.keep0 (Rep.dropS hS5 hm10) hw9) hy208) rfl ?_
  obtain ⟨s209, hs209, h⟩ := bind_in h
  refine RG.vv (FV.subc (i := y206) (j := y208) rfl rfl hs209) rfl ?_
  refine RG.sg rfl rfl ?_
  refine RG.nil ?_
  refine MX.block ?_
  obtain ⟨o463, ho462, hh464⟩ := bind_in2 h
  refine MX.loop (α := (List UInt64) × Int × (List UInt64) × Value × (List Value)) (fun ⟨xs451, z454, xs455, v452, cs456⟩ => [(1, v1_0), (4, (.slice (some ⟨b7, 0, none⟩) ((a0.length : Nat) : Int).toNat ((a0.length : Nat) : Int).toNat)), (5, v452), (8, .int .i64 z454)]) (fun ⟨xs451, z454, xs455, v452, cs456⟩ wx457 => St w wx457 [.row w.heap.size 33 (Rep.size UInt64) (.slice (some ⟨b7, 0, none⟩) ((a0.length : Nat) : Int).toNat ((a0.length : Nat) : Int).toNat) xs455.length cs456] ∧ Tr w4 [.row w.heap.size 33 (Rep.size UInt64) (.slice (some ⟨b7, 0, none⟩) ((a0.length : Nat) : Int).toNat ((a0.length : Nat) : Int).toNat) xs3.length ((List.replicate ((a0.length : Nat) : Int).toNat [.int .u64 0]).flatten)] wx457 [.row w.heap.size 33 (Rep.size UInt64) (.slice (some ⟨b7, 0, none⟩) ((a0.length : Nat) : Int).toNat ((a0.length : Nat) : Int).toNat) xs455.length cs456] ∧ Rep.R wx457 (bl [.row w.heap.size 33 (Rep.size UInt64) (.slice (some ⟨b7, 0, none⟩) ((a0.length : Nat) : Int).toNat ((a0.length : Nat) : Int).toNat) xs455.length cs456] ++ L) [v452] xs451 ∧ Cells wx457 (bl [.row w.heap.size 33 (Rep.size UInt64) (.slice (some ⟨b7, 0, none⟩) ((a0.length : Nat) : Int).toNat ((a0.length : Nat) : Int).toNat) xs455.length cs456] ++ L) cs456 xs455) (fun ⟨xs451, z454, xs455, v452, cs456⟩ => (xs451, z454, xs455)) (a0, s209, xs3, v0_0, (List.replicate ((a0.length : Nat) : Int).toNat [.int .u64 0]).flatten) ho462 ⟨rfl, rfl, rfl, rfl, trivial⟩ ⟨hS5, Tr.refl _ _, hm207, hc8⟩ ?_
  rintro J465 ⟨xs451, z454, xs455, v452, cs456⟩ wx457 hJ466 ⟨hS458, hT459, hr453, hc457⟩ h
  unfold wide_divided_l2 at h
  try dsimp only at h
  refine MX.seq ?_
  refine MX.sr ?_
  refine RG.mv rfl rfl ?_
  refine RG.vv (FV.geq (i := z454) (j := 0) rfl rfl) rfl ?_
  refine RG.nil ?_
  refine MX.ifd rfl h (fun c467 h => ?_) (fun c467 h => ?_)
  ·skip
   refine MX.skip ?_
   refine MX.seq ?_
   refine MX.block ?_
   refine MX.sr ?_
   refine RG.mv rfl rfl ?_
   refine RG.mv rfl rfl ?_
   obtain ⟨y468, hy468, h⟩ := bind_in h
   have hm469 := Rep.mv h1_0 (Tr.trans hT6 hT459)
   refine RG.call' (fst := []) (cap := []) .plain body216 rfl (evs_cons rfl (evs_cons rfl evs_nil)) (fun w9 hw9 => wide_moved_c n _ w9 (hS458.hL hL hw9) a1 (Rep.keep0 hm469 hw9) z454 hy468) rfl (fun w470 vu471 hag472 ⟨v475, hu_, hr476⟩ => ?_)
   subst hu_
   obtain ⟨hS473, hT474⟩ := hS458.agr hag472
   refine RG.sg rfl rfl ?_
   refine RG.nil ?_
   refine MX.sr ?_
   refine RG.mv rfl rfl ?_
   refine RG.mv rfl rfl ?_
   obtain ⟨y477, hy477, h⟩ := bind_in h
   have hm478 := Rep.mv hr453 hT474
   refine RG.cq (.int .i64 y477) body172 rfl (evs_cons rfl (evs_cons rfl evs_nil)) (fun w9 hw9 => wide_compared_c n _ w9 (hS473.hL0 hL hw9) xs451 (Rep.keep0 (Rep.dropS hS473 hm478) hw9) y468 (Rep.keep0 (Rep.dropS hS473 hr476) hw9) hy477) rfl ?_
   refine RG.vv (FV.geq (i := y477) (j := 0) rfl rfl) rfl ?_
   refine RG.nil ?_
   refine MX.join (α := (List UInt64) × (List UInt64) × Value × (List Value)) (fun ⟨xs522, xs525, v523, cs526⟩ => [(1, v1_0), (4, (.slice (some ⟨b7, 0, none⟩) ((a0.length : Nat) : Int).toNat ((a0.length : Nat) : Int).toNat)), (5, v523), (8, .int .i64 z454)]) (fun ⟨xs522, xs525, v523, cs526⟩ wx527 => St w wx527 [.row w.heap.size 33 (Rep.size UInt64) (.slice (some ⟨b7, 0, none⟩) ((a0.length : Nat) : Int).toNat ((a0.length : Nat) : Int).toNat) xs525.length cs526] ∧ Tr w470 [.row w.heap.size 33 (Rep.size UInt64) (.slice (some ⟨b7, 0, none⟩) ((a0.length : Nat) : Int).toNat ((a0.length : Nat) : Int).toNat) xs455.length cs456] wx527 [.row w.heap.size 33 (Rep.size UInt64) (.slice (some ⟨b7, 0, none⟩) ((a0.length : Nat) : Int).toNat ((a0.length : Nat) : Int).toNat) xs525.length cs526] ∧ Rep.R wx527 (bl [.row w.heap.size 33 (Rep.size UInt64) (.slice (some ⟨b7, 0, none⟩) ((a0.length : Nat) : Int).toNat ((a0.length : Nat) : Int).toNat) xs525.length cs526] ++ L) [v523] xs522 ∧ Cells wx527 (bl [.row w.heap.size 33 (Rep.size UInt64) (.slice (some ⟨b7, 0, none⟩) ((a0.length : Nat) : Int).toNat ((a0.length : Nat) : Int).toNat) xs525.length cs526] ++ L) cs526 xs525) (fun ⟨xs522, xs525, v523, cs526⟩ => (xs522, xs525)) h ?_ ?_
   ·skip
    rintro ⟨xs522, xs525, v523, cs526⟩ wx527 ⟨hS528, hT529, hr524, hc527⟩ h
    try dsimp only at h
    refine MX.inBlock ?_
    refine MX.region ?_
    refine RG.mv rfl rfl ?_
    obtain ⟨s533, hs533, h⟩ := bind_in h
    refine RG.vv (FV.subc (i := z454) (j := 1) rfl rfl hs533) rfl ?_
    refine RG.sg rfl rfl ?_
    refine RG.nil ?_
    exact hJ466 (xs522, s533, xs525, v523, cs526) _ _ ⟨rfl, rfl, rfl, rfl, trivial⟩ ⟨hS528, (Tr.trans hT459 (Tr.trans hT474 hT529)), hr524, hc527⟩ h
   ·skip
    intro J531 hJ532 h
    try dsimp only at h
    refine MX.ifd rfl h (fun c534 h => ?_) (fun c534 h => ?_)
    ·skip
     refine MX.sr ?_
     refine RG.mv rfl rfl ?_
     refine RG.mv rfl rfl ?_
     obtain ⟨y535, hy535, h⟩ := bind_in h
     refine RG.call' (fst := []) (cap := []) .plain body173 rfl (evs_cons rfl (evs_cons rfl evs_nil)) (fun w9 hw9 => wide_taken_c n _ w9 (hS473.hL hL hw9) xs451 (Rep.keep0 hm478 hw9) y468 (Rep.keep0 hr476 hw9) hy535) rfl (fun w536 vu537 hag538 ⟨v541, hu_, hr542⟩ => ?_)
     subst hu_
     obtain ⟨hS539, hT540⟩ := hS473.agr hag538
     obtain ⟨y543, hy543, h⟩ := bind_in h
     refine RG.call' (fst := []) (cap := []) .plain body169 rfl (evs_cons rfl (evs_cons rfl evs_nil)) (fun w9 hw9 => wide_trimmed_c n _ w9 (hS539.hL hL hw9) false y535 (Rep.keep0 hr542 hw9) hy543) rfl (fun w544 vu545 hag546 ⟨v549, hu_, hr550⟩ => ?_)
     subst hu_
     obtain ⟨hS547, hT548⟩ := hS539.agr hag546
     refine RG.vv (FV.field1 (cs := [.bool y543.fBelow, v549]) (off := 1) (m := 1) (by kernel_rfl) (by kernel_rfl) rfl rfl) rfl ?_
     refine RG.sg rfl rfl ?_
     refine RG.nil ?_
     refine MX.drawT 10 tb194_16 (by kernel_rfl) (by kernel_rfl) (by kernel_rfl) (fun kt551 kp552 => ?_)
     refine RD.vw 0 1 kt551 rfl kp552 (fun _ => FV.move rfl) rfl ?_
     refine RD.vw 1 3 kt551 rfl kp552 (fun _ => FV.move rfl) rfl ?_
     obtain ⟨s553, hs553, h⟩ := bind_in h
     refine RD.vw 2 7 kt551 rfl kp552 (fun _ => FV.quoc (i := z454) (j := 64) rfl rfl hs553) rfl ?_
     obtain ⟨x554, hx554, h⟩ := bind_in h
     obtain ⟨hi555, hx556⟩ := idx_in hx554
     have hm564 := Cells.mv hc457 (Tr.trans hT474 (Tr.trans hT540 hT548))
     obtain ⟨A557, c558, he559, hk560, cs561, hr562, hm563⟩ := St.nth (α := UInt64) hS547 .hd hm564 hx556
     obtain ⟨b565, c566, he567⟩ := St.nthOwn (α := UInt64) hS547 .hd hk560
     obtain rfl : A557 = ⟨b565, 0, none⟩ := by rw [he567] at he559; cases he559; rfl
     have he568 : cs561 = [.int .u64 (x554.toNat : Int)] := hr562; subst he568
     refine RD.vw 3 15 kt551 rfl kp552 (fun _ => FV.idxAddr (m := 1) (i := s553.toNat) (by kernel_rfl) rfl he559 rfl hi555 hk560) rfl ?_
     refine RD.vx 4 31 1792 kt551 rfl kp552 (FV.load1 (by kernel_rfl) rfl (hm563 0 _ rfl)) rfl ?_
     refine RD.vw 5 63 kt551 rfl kp552 (fun _ => FV.move rfl) rfl ?_
     obtain ⟨s569, hs569, h⟩ := bind_in h
     refine RD.vw 6 127 kt551 rfl kp552 (fun _ => FV.remc (i := z454) (j := 64) rfl rfl hs569) rfl ?_
     obtain ⟨k570, hk570, h⟩ := bind_in h
     refine RD.vw 7 255 kt551 rfl kp552 (fun _ => FV.shlI (a := (1 : UInt64)) (i := s569) rfl rfl hk570) rfl ?_
     refine RD.vw 8 511 kt551 rfl kp552 (fun _ => FV.orU (a := x554) (b := shlU (1 : UInt64) k570) rfl rfl) rfl ?_
     refine RD.vw 9 1023 kt551 rfl kp552 (fun _ => FV.idxAddr (m := 1) (i := s553.toNat) (by kernel_rfl) rfl he559 rfl hi555 hk560) rfl ?_
     obtain ⟨xs571, hxs571, h⟩ := bind_in h
     refine RD.one (i := 10) (readyD_ok kt551 (by kernel_rfl)) (RO.acts (m' := 2047) (stepC_ok kt551 (by kernel_rfl)) rfl rfl .plain (Acts.set (α := UInt64) (i := s553.toNat) (F := fun cs' => [.row w.heap.size 33 (Rep.size UInt64) (.slice (some ⟨b7, 0, none⟩) ((a0.length : Nat) : Int).toNat ((a0.length : Nat) : Int).toNat) xs571.length cs']) hxs571 hS547 he567 (fun _ => .hd) hm564 rfl rfl rfl rfl rfl (by kernel_rfl)) (fun w572 ⟨cs576, hS573, hT574, hc575⟩ => ?_))
     refine RD.done (doneD_ok kt551 (by kernel_rfl)) ?_
     have hm577 := Rep.mv hr550 hT574
     exact hJ532 (y543.fWords, xs571, v549, cs576) _ _ ⟨rfl, rfl, rfl, rfl, trivial⟩ ⟨hS573, (Tr.trans hT540 (Tr.trans hT548 hT574)), hm577, hc575⟩ h
    refine MX.skip ?_
    have hm578 := Cells.mv hc457 hT474
    exact hJ532 (xs451, xs455, v452, cs456) _ _ ⟨rfl, rfl, rfl, rfl, trivial⟩ ⟨hS473, Tr.refl _ _, hm478, hm578⟩ h
  refine MX.exit rfl ?_
  have h := hh464 _ h
  try dsimp only at h
  refine MX.sr ?_
  refine RG.mv rfl rfl ?_
  refine RG.mv rfl rfl ?_
  refine RG.sg rfl rfl ?_
  refine RG.sg rfl rfl ?_
  refine RG.nil ?_
  refine MX.ret rfl ?_
  have hr579 := St.freeze (α := UInt64) hS458 .hd hc457 hL
  have hS580 := St.delS hS458 .hd
  have hT581 := St.delT hS458 .hd
  have hr582 := Rep.at_ (α := UInt64) (v := (.slice (some ⟨b7, 0, none⟩) ((a0.length : Nat) : Int).toNat ((a0.length : Nat) : Int).toNat)) (xs := xs455) hS580 L hr579
  refine RT.leave hb0 Tryz.func194 rfl (.cons (.tmp rfl) (.cons (.tmp rfl) .nil)) rfl ?_
  obtain rfl := Option.some.inj h
  have hm583 := Rep.mv hr453 hT581
  exact ⟨hS580.ag, fun w9 hw9 => ⟨(.slice (some ⟨b7, 0, none⟩) ((a0.length : Nat) : Int).toNat ((a0.length : Nat) : Int).toNat), v452, rfl, Rep.keep0 (Rep.dropS hS580 hr582) hw9, Rep.keep0 (Rep.dropS hS580 hm583) hw9⟩⟩
def tb167_1 : List (Nat × Nat × Nat) := [(0, 512, 4), (1, 1024, 512), (0, 2048, 8), (4, 4096, 2048), (3, 32, 1024), (31, 64, 4096)]
theorem body194 : bodyB Tryz.prog 194 = true := by kernel_rfl
def wide_Long_Common_l1 (n : Nat) (J56 : (List UInt64) × (List UInt64) → Option (List UInt64)) : (List UInt64) × (List UInt64) → Option (List UInt64)
  | (xs43, xs46) => (if 0 < xs46.length then (wide_divided_p n xs43 xs46).bind fun y60 => J56 (xs46, y60.2) else some xs43)
def wide_Long_Common_p (n : Nat) (a0 : TLong) (a1 : TLong) : Option TLong :=
  Option.bind (loopF (wide_Long_Common_l1 n) n (a0.fWords, a1.fWords)) (fun xs43 => some (⟨false, xs43⟩ : TLong))
set_option maxRecDepth 4000 in
set_option maxHeartbeats 4000000 in
theorem wide_Long_Common_c (n : Nat) (L : List Nat) (w : World) (hL : ∀ b ∈ L, b < w.heap.size) (a0 : TLong) {v0_1 : Value} (h0_1 : Rep.R w L [v0_1] a0.fWords) (a1 : TLong) {v1_1 : Value} (h1_1 : Rep.R w L [v1_1] a1.fWords)  {r : TLong} (h : wide_Long_Common_p n a0 a1 = some r) :
    Calls Tryz.prog 167 #[.agg #[.bool a0.fBelow, v0_1], .agg #[.bool a1.fBelow, v1_1]] w (Gives w fun w' u => ∃ v0_1 : Value, u = .agg #[.bool r.fBelow, v0_1] ∧ Rep.R w' L [v0_1] r.fWords) := by
  unfold wide_Long_Common_p at h
  have hS0 := St.start w
  refine MX.start Tryz.func167 rfl rfl rfl (fun _ cs0 hb0 => ?_)
  refine MX.sr ?_
  refine RG.new .plain rfl (Does.box (vs := [.bool a0.fBelow, v0_1]) hS0 rfl rfl) (fun w2 b5 hS3 hT4 => ?_)
  refine RG.new .plain rfl (Does.box (vs := [.bool a1.fBelow, v1_1]) hS3 rfl rfl) (fun w7 b10 hS8 hT9 => ?_)
  refine RG.new .plain rfl (Does.alloc (zs := [.bool false, .slice none 0 0]) hS8 (zB (by kernel_rfl))) (fun w12 b15 hS13 hT14 => ?_)
  refine RG.nil ?_
  refine MX.seq ?_
  refine MX.drawT 6 tb167_1 (by kernel_rfl) (by kernel_rfl) (by kernel_rfl) (fun kt16 kp17 => ?_)
  refine RD.vw 0 1 kt16 rfl kp17 (fun _ => FV.fieldAddr (off := 1) (by kernel_rfl) rfl) rfl ?_
  refine RD.vx 1 3 48 kt16 rfl kp17 (FV.load1 (by kernel_rfl) rfl ((hS13.memA (.tl (.tl .hd))) 1 _ rfl)) rfl ?_
  refine RD.vw 2 7 kt16 rfl kp17 (fun _ => FV.fieldAddr (off := 1) (by kernel_rfl) rfl) rfl ?_
  refine RD.vx 3 15 32 kt16 rfl kp17 (FV.load1 (by kernel_rfl) rfl ((hS13.memA (.tl .hd)) 1 _ rfl)) rfl ?_
  refine RD.vw 4 31 kt16 rfl kp17 (fun _ => FV.assign rfl) rfl ?_
  refine RD.vw 5 63 kt16 rfl kp17 (fun _ => FV.assign rfl) rfl ?_
  refine RD.done (doneD_ok kt16 (by kernel_rfl)) ?_
  refine MX.seq ?_
  refine MX.block ?_
  obtain ⟨hS39, hT40⟩ := St.arrB hS13 (.one .hd .done)
  have hm41 := Rep.mv h0_1 (Tr.trans hT4 (Tr.trans hT9 (Tr.trans hT14 hT40)))
  have hm42 := Rep.mv h1_1 (Tr.trans hT4 (Tr.trans hT9 (Tr.trans hT14 hT40)))
  obtain ⟨o54, ho53, hh55⟩ := bind_in2 h
  refine MX.loop (α := (List UInt64) × (List UInt64) × Value × Value) (fun ⟨xs43, xs46, v44, v47⟩ => [(4, .pointer (some ⟨b15, 0, none⟩)), (5, v44), (6, v47)]) (fun ⟨xs43, xs46, v44, v47⟩ wx48 => St w wx48 [.cells b15 [.bool false, .slice none 0 0] 123] ∧ Tr w12 [.cells b15 [.bool false, .slice none 0 0] 123] wx48 [.cells b15 [.bool false, .slice none 0 0] 123] ∧ Rep.R wx48 (bl [.cells b15 [.bool false, .slice none 0 0] 123] ++ L) [v44] xs43 ∧ Rep.R wx48 (bl [.cells b15 [.bool false, .slice none 0 0] 123] ++ L) [v47] xs46) (fun ⟨xs43, xs46, v44, v47⟩ => (xs43, xs46)) (a0.fWords, a1.fWords, v0_1, v1_1) ho53 ⟨rfl, rfl, rfl, trivial⟩ ⟨hS39, Tr.refl _ _, hm41, hm42⟩ ?_
  rintro J56 ⟨xs43, xs46, v44, v47⟩ wx48 hJ57 ⟨hS49, hT50, hr45, hr48⟩ h
  unfold wide_Long_Common_l1 at h
  try dsimp only at h
  refine MX.seq ?_
  refine MX.sr ?_
  refine RG.mv rfl rfl ?_
  have hl58 : xs46.length ≤ 281474976710656 := Rep.lenle hr48
  refine RG.vv (FV.len (xs := xs46) Tryz.underlying121 rfl hr48) rfl ?_
  refine RG.vv (FV.gtrN (i := xs46.length) (j := 0) rfl rfl) rfl ?_
  refine RG.nil ?_
  refine MX.ifd rfl h (fun c59 h => ?_) (fun c59 h => ?_)
  ·skip
   refine MX.skip ?_
   refine MX.block ?_
   refine MX.sr ?_
   refine RG.mv rfl rfl ?_
   refine RG.mv rfl rfl ?_
   obtain ⟨y60, hy60, h⟩ := bind_in h
   refine RG.call' (fst := []) (cap := []) .plain body194 rfl (evs_cons rfl (evs_cons rfl evs_nil)) (fun w9 hw9 => wide_divided_c n _ w9 (hS49.hL hL hw9) xs43 (Rep.keep0 hr45 hw9) xs46 (Rep.keep0 hr48 hw9) hy60) rfl (fun w61 vu62 hag63 ⟨v66, v67, hu_, hr68, hr69⟩ => ?_)
   subst hu_
   obtain ⟨hS64, hT65⟩ := hS49.agr hag63
   refine RG.mv rfl rfl ?_
   refine RG.vv (FV.extract rfl rfl) rfl ?_
   refine RG.vv (FV.extract rfl rfl) rfl ?_
   refine RG.sg rfl rfl ?_
   refine RG.sg rfl rfl ?_
   refine RG.nil ?_
   refine MX.region ?_
   refine RG.mv rfl rfl ?_
   refine RG.mv rfl rfl ?_
   refine RG.sg rfl rfl ?_
   refine RG.sg rfl rfl ?_
   refine RG.nil ?_
   refine MX.inBlock ?_
   have hm70 := Rep.mv hr48 hT65
   exact hJ57 (xs46, y60.2, v47, v67) _ _ ⟨rfl, rfl, rfl, trivial⟩ ⟨hS64, (Tr.trans hT50 hT65), hm70, hr69⟩ h
  refine MX.exit rfl ?_
  have h := hh55 _ h
  try dsimp only at h
  refine MX.sr ?_
  refine RG.mv rfl rfl ?_
  obtain ⟨A71, c72, hv73, _⟩ := Rep.sl hr45
  refine RG.vv (FV.buildV (vs := [v44]) (u := .agg #[.bool false, v44]) (evs_cons rfl evs_nil) (fun w9 => by rw [hv73]; try kernel_rfl)) rfl ?_
  refine RG.now .plain (Acts.storeAll (news := [.bool false, v44]) hS49 .hd rfl rfl rfl rfl rfl rfl (ones_cons rfl (ones_cons (Rep.o1 hr45) ones_nil))) (fun w74 hS75 hT76 => ?_)
  refine RG.nil ?_
  refine MX.ret rfl ?_
  refine RT.leave hb0 Tryz.func167 rfl (.cons (.many (cs := [.bool false, v44]) (by kernel_rfl) rfl (hS75.memA .hd)) .nil) rfl ?_
  obtain rfl := Option.some.inj h
  have hm77 := Rep.mv hr45 hT76
  exact ⟨hS75.ag, fun w9 hw9 => ⟨v44, rfl, Rep.keep0 (Rep.dropS hS75 hm77) hw9⟩⟩
def wide_added_l1 (_n : Nat) (xs4 : List UInt64) (xs7 : List UInt64) (J167 : UInt64 × Nat × (List UInt64) → Option ((List UInt64) × UInt64)) : UInt64 × Nat × (List UInt64) → Option ((List UInt64) × UInt64)
  | (u155, i156, xs157) => (if i156 < xs4.length then (xs4[i156]?).bind fun x170 => jn (fun u192 => (add64 x170 u192 u155).bind fun z198 => (xs157[i156]?).bind fun x199 => (put xs157 ((i156 : Nat) : Int) z198.1).bind fun xs212 => J167 (z198.2, i156 + 1, xs212)) (fun J196 => (if i156 < xs7.length then (xs7[i156]?).bind fun x219 => J196 x219 else J196 (0 : UInt64))) else some (xs157, u155))
def wide_added_p (n : Nat) (a0 : List UInt64) (a1 : List UInt64) : Option (List UInt64) :=
  jn (fun (xs4, xs7) => (mk ((xs4.length + 1 : Nat) : Int) (0 : UInt64)).bind fun xs17 => Option.bind (loopF (wide_added_l1 n xs4 xs7) n ((0 : UInt64), 0, xs17)) (fun (xs157, u155) => (xs157[xs4.length]?).bind fun x229 => (put xs157 ((xs4.length : Nat) : Int) u155).bind fun xs241 => some xs241)) (fun J13 => (if a0.length < a1.length then J13 (a1, a0) else J13 (a0, a1)))
set_option maxRecDepth 4000 in
set_option maxHeartbeats 4000000 in
theorem wide_added_c (n : Nat) (L : List Nat) (w : World) (hL : ∀ b ∈ L, b < w.heap.size) (a0 : List UInt64) {v0_0 : Value} (h0_0 : Rep.R w L [v0_0] a0) (a1 : List UInt64) {v1_0 : Value} (h1_0 : Rep.R w L [v1_0] a1)  {r : List UInt64} (h : wide_added_p n a0 a1 = some r) :
    Calls Tryz.prog 171 #[v0_0, v1_0] w (Gives w fun w' u => ∃ v0_0 : Value, u = v0_0 ∧ Rep.R w' L [v0_0] r) := by
  unfold wide_added_p at h
  have hS0 := St.start w
  refine MX.start Tryz.func171 rfl rfl rfl (fun _ cs0 hb0 => ?_)
  refine MX.sr ?_
  refine RG.sg rfl rfl ?_
  refine RG.nil ?_
  refine MX.seq ?_
  refine MX.sr ?_
  refine RG.mv rfl rfl ?_
  have hl1 : a0.length ≤ 281474976710656 := Rep.lenle h0_0
  refine RG.vv (FV.len (xs := a0) Tryz.underlying121 rfl h0_0) rfl ?_
  refine RG.mv rfl rfl ?_
  have hl2 : a1.length ≤ 281474976710656 := Rep.lenle h1_0
  refine RG.vv (FV.len (xs := a1) Tryz.underlying121 rfl h1_0) rfl ?_
  refine RG.vv (FV.lssN (i := a0.length) (j := a1.length) rfl rfl) rfl ?_
  refine RG.nil ?_
  refine MX.join (α := (List UInt64) × (List UInt64) × Value × Value) (fun ⟨xs4, xs7, v5, v8⟩ => [(0, v5), (1, v8)]) (fun ⟨xs4, xs7, v5, v8⟩ wx9 => St w wx9 [] ∧ Tr w [] wx9 [] ∧ Rep.R wx9 (bl [] ++ L) [v5] xs4 ∧ Rep.R wx9 (bl [] ++ L) [v8] xs7) (fun ⟨xs4, xs7, v5, v8⟩ => (xs4, xs7)) h ?_ ?_
  ·skip
   rintro ⟨xs4, xs7, v5, v8⟩ wx9 ⟨hS10, hT11, hr6, hr9⟩ h
   try dsimp only at h
   refine MX.sr ?_
   refine RG.mv rfl rfl ?_
   have hl15 : xs4.length ≤ 281474976710656 := Rep.lenle hr6
   refine RG.vv (FV.len (xs := xs4) Tryz.underlying121 rfl hr6) rfl ?_
   refine RG.vv (FV.addN (i := xs4.length) (j := 1) rfl rfl (by omega)) rfl ?_
   obtain ⟨xs17, hxs17, h⟩ := bind_in h
   refine RG.new .plain rfl (Does.mk (α := UInt64) hxs17 hS10 el121 rfl) (fun w18 b21 hS19 hT20 => ?_)
   have hc22 := Cells.at_ (cs := (List.replicate ((xs4.length + 1 : Nat) : Int).toNat [.int .u64 0]).flatten) (xs := xs17) hS19 L (Cells.mk hxs17 rfl)
   refine RG.sg rfl rfl ?_
   refine RG.nil ?_
   refine MX.sr ?_
   refine RG.sg rfl rfl ?_
   refine RG.nil ?_
   refine MX.seq ?_
   refine MX.sr ?_
   refine RG.mv rfl rfl ?_
   have hm23 := Rep.mv hr6 hT20
   refine RG.vv (FV.len (xs := xs4) Tryz.underlying121 rfl hm23) rfl ?_
   refine RG.mv rfl rfl ?_
   refine RG.nil ?_
   refine MX.block ?_
   obtain ⟨o165, ho164, hh166⟩ := bind_in2 h
   refine MX.loop (α := UInt64 × Nat × (List UInt64) × (List Value)) (fun ⟨u155, i156, xs157, cs158⟩ => [(0, v5), (1, v8), (5, (.slice (some ⟨b21, 0, none⟩) ((xs4.length + 1 : Nat) : Int).toNat ((xs4.length + 1 : Nat) : Int).toNat)), (6, .int .u64 (u155.toNat : Int)), (21, v5), (22, .int .i64 ((xs4.length : Nat) : Int)), (23, .int .i64 ((i156 : Nat) : Int))]) (fun ⟨u155, i156, xs157, cs158⟩ wx159 => St w wx159 [.row w.heap.size 33 (Rep.size UInt64) (.slice (some ⟨b21, 0, none⟩) ((xs4.length + 1 : Nat) : Int).toNat ((xs4.length + 1 : Nat) : Int).toNat) xs157.length cs158] ∧ Tr w18 [.row w.heap.size 33 (Rep.size UInt64) (.slice (some ⟨b21, 0, none⟩) ((xs4.length + 1 : Nat) : Int).toNat ((xs4.length + 1 : Nat) : Int).toNat) xs17.length ((List.replicate ((xs4.length + 1 : Nat) : Int).toNat [.int .u64 0]).flatten)] wx159 [.row w.heap.size 33 (Rep.size UInt64) (.slice (some ⟨b21, 0, none⟩) ((xs4.length + 1 : Nat) : Int).toNat ((xs4.length + 1 : Nat) : Int).toNat) xs157.length cs158] ∧ Cells wx159 (bl [.row w.heap.size 33 (Rep.size UInt64) (.slice (some ⟨b21, 0, none⟩) ((xs4.length + 1 : Nat) : Int).toNat ((xs4.length + 1 : Nat) : Int).toNat) xs157.length cs158] ++ L) cs158 xs157) (fun ⟨u155, i156, xs157, cs158⟩ => (u155, i156, xs157)) ((0 : UInt64), 0, xs17, (List.replicate ((xs4.length + 1 : Nat) : Int).toNat [.int .u64 0]).flatten) ho164 ⟨rfl, rfl, rfl, rfl, rfl, rfl, rfl, trivial⟩ ⟨hS19, Tr.refl _ _, hc22⟩ ?_
   rintro J167 ⟨u155, i156, xs157, cs158⟩ wx159 hJ168 ⟨hS160, hT161, hc159⟩ h
   unfold wide_added_l1 at h
   try dsimp only at h
   refine MX.sr ?_
   refine RG.vv (FV.lssN (i := i156) (j := xs4.length) rfl rfl) rfl ?_
   refine RG.nil ?_
   refine MX.seq ?_
   refine MX.ifd rfl h (fun c169 h => ?_) (fun c169 h => ?_)
   ·skip
    refine MX.skip ?_
    refine MX.seq ?_
    refine MX.block ?_
    refine MX.sr ?_
    refine RG.mv rfl rfl ?_
    obtain ⟨x170, hx170, h⟩ := bind_in h
    have hm178 := Rep.mv hr6 (Tr.trans hT20 hT161)
    obtain ⟨A171, c172, he173, hk174, cs175, hr176, hm177⟩ := Rep.nth hm178 hx170
    have he179 : cs175 = [.int .u64 (x170.toNat : Int)] := hr176; subst he179
    refine RG.vv (FV.idxAddr (m := 1) (i := i156) (by kernel_rfl) rfl he173 rfl rfl hk174) rfl ?_
    refine RG.vv (FV.load1 (by kernel_rfl) rfl (hm177 0 _ rfl)) rfl ?_
    refine RG.sg rfl rfl ?_
    refine RG.sg rfl rfl ?_
    refine RG.nil ?_
    refine MX.sr ?_
    refine RG.sg rfl rfl ?_
    refine RG.nil ?_
    refine MX.seq ?_
    refine MX.sr ?_
    refine RG.mv rfl rfl ?_
    refine RG.mv rfl rfl ?_
    have hm181 := Rep.mv hr9 (Tr.trans hT20 hT161)
    have hl180 : xs7.length ≤ 281474976710656 := Rep.lenle hm181
    refine RG.vv (FV.len (xs := xs7) Tryz.underlying121 rfl hm181) rfl ?_
    refine RG.vv (FV.lssN (i := i156) (j := xs7.length) rfl rfl) rfl ?_
    refine RG.nil ?_
    refine MX.join (α := UInt64) (fun u192 => [(0, v5), (1, v8), (5, (.slice (some ⟨b21, 0, none⟩) ((xs4.length + 1 : Nat) : Int).toNat ((xs4.length + 1 : Nat) : Int).toNat)), (6, .int .u64 (u155.toNat : Int)), (21, v5), (22, .int .i64 ((xs4.length : Nat) : Int)), (23, .int .i64 ((i156 : Nat) : Int)), (7, .int .i64 ((i156 : Nat) : Int)), (8, .int .u64 (x170.toNat : Int)), (9, .int .u64 (u192.toNat : Int))]) (fun u192 wx192 => St w wx192 [.row w.heap.size 33 (Rep.size UInt64) (.slice (some ⟨b21, 0, none⟩) ((xs4.length + 1 : Nat) : Int).toNat ((xs4.length + 1 : Nat) : Int).toNat) xs157.length cs158] ∧ Tr wx159 [.row w.heap.size 33 (Rep.size UInt64) (.slice (some ⟨b21, 0, none⟩) ((xs4.length + 1 : Nat) : Int).toNat ((xs4.length + 1 : Nat) : Int).toNat) xs157.length cs158] wx192 [.row w.heap.size 33 (Rep.size UInt64) (.slice (some ⟨b21, 0, none⟩) ((xs4.length + 1 : Nat) : Int).toNat ((xs4.length + 1 : Nat) : Int).toNat) xs157.length cs158]) (fun u192 => u192) h ?_ ?_
    ·skip
     rintro u192 wx192 ⟨hS193, hT194⟩ h
     try dsimp only at h
     refine MX.region ?_
     refine RG.mv rfl rfl ?_
     refine RG.mv rfl rfl ?_
     refine RG.mv rfl rfl ?_
     refine RG.mv rfl rfl ?_
     refine RG.mv rfl rfl ?_
     obtain ⟨z198, hz198, h⟩ := bind_in h
     refine RG.vv (FV.add64 (a := x170) (b := u192) (c := u155) Tryz.func196 rfl (by kernel_rfl) (by kernel_rfl) (by kernel_rfl) rfl rfl rfl hz198) rfl ?_
     refine RG.mv rfl rfl ?_
     refine RG.vv (FV.extract rfl rfl) rfl ?_
     refine RG.vv (FV.extract rfl rfl) rfl ?_
     obtain ⟨x199, hx199, h⟩ := bind_in h
     have hm207 := Cells.mv hc159 hT194
     obtain ⟨A200, c201, he202, hk203, cs204, hr205, hm206⟩ := St.nth (α := UInt64) hS193 .hd hm207 hx199
     obtain ⟨b208, c209, he210⟩ := St.nthOwn (α := UInt64) hS193 .hd hk203
     obtain rfl : A200 = ⟨b208, 0, none⟩ := by rw [he210] at he202; cases he202; rfl
     have he211 : cs204 = [.int .u64 (x199.toNat : Int)] := hr205; subst he211
     refine RG.vv (FV.idxAddr (m := 1) (i := i156) (by kernel_rfl) rfl he202 rfl rfl hk203) rfl ?_
     obtain ⟨xs212, hxs212, h⟩ := bind_in h
     refine RG.acts' .plain (Acts.set (α := UInt64) (i := i156) (F := fun cs' => [.row w.heap.size 33 (Rep.size UInt64) (.slice (some ⟨b21, 0, none⟩) ((xs4.length + 1 : Nat) : Int).toNat ((xs4.length + 1 : Nat) : Int).toNat) xs212.length cs']) hxs212 hS193 he210 (fun _ => .hd) hm207 rfl rfl rfl rfl rfl (by kernel_rfl)) (fun w213 ⟨cs217, hS214, hT215, hc216⟩ => ?_)
     refine RG.sg rfl rfl ?_
     refine RG.nil ?_
     refine MX.inBlock ?_
     refine MX.region ?_
     refine RG.vv (FV.addN (i := i156) (j := 1) rfl rfl (by omega)) rfl ?_
     refine RG.mv rfl rfl ?_
     refine RG.nil ?_
     exact hJ168 (z198.2, i156 + 1, xs212, cs217) _ _ ⟨rfl, rfl, rfl, rfl, rfl, rfl, rfl, trivial⟩ ⟨hS214, (Tr.trans hT161 (Tr.trans hT194 hT215)), hc216⟩ h
    ·skip
     intro J196 hJ197 h
     try dsimp only at h
     refine MX.ifd rfl h (fun c218 h => ?_) (fun c218 h => ?_)
     ·skip
      refine MX.region ?_
      refine RG.mv rfl rfl ?_
      refine RG.mv rfl rfl ?_
      obtain ⟨x219, hx219, h⟩ := bind_in h
      obtain ⟨A220, c221, he222, hk223, cs224, hr225, hm226⟩ := Rep.nth hm181 hx219
      have he227 : cs224 = [.int .u64 (x219.toNat : Int)] := hr225; subst he227
      refine RG.vv (FV.idxAddr (m := 1) (i := i156) (by kernel_rfl) rfl he222 rfl rfl hk223) rfl ?_
      refine RG.vv (FV.load1 (by kernel_rfl) rfl (hm226 0 _ rfl)) rfl ?_
      refine RG.sg rfl rfl ?_
      refine RG.nil ?_
      exact hJ197 x219 _ _ ⟨rfl, rfl, rfl, rfl, rfl, rfl, rfl, rfl, rfl, rfl, trivial⟩ ⟨hS160, Tr.refl _ _⟩ h
     refine MX.skip ?_
     exact hJ197 (0 : UInt64) _ _ ⟨rfl, rfl, rfl, rfl, rfl, rfl, rfl, rfl, rfl, rfl, trivial⟩ ⟨hS160, Tr.refl _ _⟩ h
   refine MX.exit rfl ?_
   have h := hh166 _ h
   try dsimp only at h
   refine MX.sr ?_
   refine RG.mv rfl rfl ?_
   refine RG.mv rfl rfl ?_
   have hm228 := Rep.mv hr6 (Tr.trans hT20 hT161)
   refine RG.vv (FV.len (xs := xs4) Tryz.underlying121 rfl hm228) rfl ?_
   refine RG.mv rfl rfl ?_
   obtain ⟨x229, hx229, h⟩ := bind_in h
   obtain ⟨A230, c231, he232, hk233, cs234, hr235, hm236⟩ := St.nth (α := UInt64) hS160 .hd hc159 hx229
   obtain ⟨b237, c238, he239⟩ := St.nthOwn (α := UInt64) hS160 .hd hk233
   obtain rfl : A230 = ⟨b237, 0, none⟩ := by rw [he239] at he232; cases he232; rfl
   have he240 : cs234 = [.int .u64 (x229.toNat : Int)] := hr235; subst he240
   refine RG.vv (FV.idxAddr (m := 1) (i := xs4.length) (by kernel_rfl) rfl he232 rfl rfl hk233) rfl ?_
   obtain ⟨xs241, hxs241, h⟩ := bind_in h
   refine RG.acts' .plain (Acts.set (α := UInt64) (i := xs4.length) (F := fun cs' => [.row w.heap.size 33 (Rep.size UInt64) (.slice (some ⟨b21, 0, none⟩) ((xs4.length + 1 : Nat) : Int).toNat ((xs4.length + 1 : Nat) : Int).toNat) xs241.length cs']) hxs241 hS160 he239 (fun _ => .hd) hc159 rfl rfl rfl rfl rfl (by kernel_rfl)) (fun w242 ⟨cs246, hS243, hT244, hc245⟩ => ?_)
   refine RG.nil ?_
   refine MX.sr ?_
   refine RG.mv rfl rfl ?_
   refine RG.sg rfl rfl ?_
   refine RG.nil ?_
   refine MX.ret rfl ?_
   have hr247 := St.freeze (α := UInt64) hS243 .hd hc245 hL
   have hS248 := St.delS hS243 .hd
   have hT249 := St.delT hS243 .hd
   have hr250 := Rep.at_ (α := UInt64) (v := (.slice (some ⟨b21, 0, none⟩) ((xs4.length + 1 : Nat) : Int).toNat ((xs4.length + 1 : Nat) : Int).toNat)) (xs := xs241) hS248 L hr247
   refine RT.leave hb0 Tryz.func171 rfl (.cons (.tmp rfl) .nil) rfl ?_
   obtain rfl := Option.some.inj h
   exact ⟨hS248.ag, fun w9 hw9 => ⟨(.slice (some ⟨b21, 0, none⟩) ((xs4.length + 1 : Nat) : Int).toNat ((xs4.length + 1 : Nat) : Int).toNat), rfl, Rep.keep0 (Rep.dropS hS248 hr250) hw9⟩⟩
  ·skip
   intro J13 hJ14 h
   try dsimp only at h
   refine MX.ifd rfl h (fun c251 h => ?_) (fun c251 h => ?_)
   ·skip
    refine MX.region ?_
    refine RG.mv rfl rfl ?_
    refine RG.mv rfl rfl ?_
    refine RG.sg rfl rfl ?_
    refine RG.sg rfl rfl ?_
    refine RG.nil ?_
    exact hJ14 (a1, a0, v1_0, v0_0) _ _ ⟨rfl, rfl, trivial⟩ ⟨hS0, Tr.refl _ _, h1_0, h0_0⟩ h
   refine MX.skip ?_
   exact hJ14 (a0, a1, v0_0, v1_0) _ _ ⟨rfl, rfl, trivial⟩ ⟨hS0, Tr.refl _ _, h0_0, h1_0⟩ h
def tb133_2 : List (Nat × Nat × Nat) := [(0, 1024, 4), (1, 2048, 1024), (0, 4096, 4), (4, 8192, 4096), (0, 16384, 8), (16, 32768, 16384), (40, 65536, 40960), (66, 131072, 67584), (255, 0, 131088)]
def tb133_5 : List (Nat × Nat × Nat) := [(0, 67108864, 4), (1, 134217728, 67108864), (0, 268435456, 4), (4, 536870912, 268435456), (0, 1073741824, 8), (16, 2147483648, 1073741824), (40, 4294967296, 2684354560), (66, 8589934592, 4429185024), (255, 0, 8589934608)]
theorem body171 : bodyB Tryz.prog 171 = true := by kernel_rfl
def wide_Long_Plus_p (n : Nat) (a0 : TLong) (a1 : TLong) : Option TLong :=
  (if (a0.fBelow == a1.fBelow) = true then (wide_added_p n a0.fWords a1.fWords).bind fun y19 => (wide_trimmed_p n a0.fBelow y19).bind fun y29 => some y29 else (wide_compared_p n a0.fWords a1.fWords).bind fun y41 => jn (fun (q52, xs53, q56, xs57) => (wide_taken_p n xs57 xs53).bind fun y67 => (wide_trimmed_p n q56 y67).bind fun y75 => some y75) (fun J63 => (if y41 < 0 then J63 (a0.fBelow, a0.fWords, a1.fBelow, a1.fWords) else J63 (a1.fBelow, a1.fWords, a0.fBelow, a0.fWords))))
set_option maxRecDepth 4000 in
set_option maxHeartbeats 4000000 in
theorem wide_Long_Plus_c (n : Nat) (L : List Nat) (w : World) (hL : ∀ b ∈ L, b < w.heap.size) (a0 : TLong) {v0_1 : Value} (h0_1 : Rep.R w L [v0_1] a0.fWords) (a1 : TLong) {v1_1 : Value} (h1_1 : Rep.R w L [v1_1] a1.fWords)  {r : TLong} (h : wide_Long_Plus_p n a0 a1 = some r) :
    Calls Tryz.prog 133 #[.agg #[.bool a0.fBelow, v0_1], .agg #[.bool a1.fBelow, v1_1]] w (Gives w fun w' u => ∃ v0_1 : Value, u = .agg #[.bool r.fBelow, v0_1] ∧ Rep.R w' L [v0_1] r.fWords) := by
  unfold wide_Long_Plus_p at h
  have hS0 := St.start w
  refine MX.start Tryz.func133 rfl rfl rfl (fun _ cs0 hb0 => ?_)
  refine MX.sr ?_
  refine RG.new .plain rfl (Does.box (vs := [.bool a0.fBelow, v0_1]) hS0 rfl rfl) (fun w2 b5 hS3 hT4 => ?_)
  refine RG.new .plain rfl (Does.box (vs := [.bool a1.fBelow, v1_1]) hS3 rfl rfl) (fun w7 b10 hS8 hT9 => ?_)
  refine RG.new .plain rfl (Does.alloc (zs := [.bool false, .slice none 0 0]) hS8 (zB (by kernel_rfl))) (fun w12 b15 hS13 hT14 => ?_)
  refine RG.nil ?_
  refine MX.seq ?_
  refine MX.sr ?_
  refine RG.vv (FV.fieldAddr (off := 0) (by kernel_rfl) rfl) rfl ?_
  refine RG.vv (FV.load1 (by kernel_rfl) rfl ((hS13.memA (.tl (.tl .hd))) 0 _ rfl)) rfl ?_
  refine RG.vv (FV.fieldAddr (off := 0) (by kernel_rfl) rfl) rfl ?_
  refine RG.vv (FV.load1 (by kernel_rfl) rfl ((hS13.memA (.tl .hd)) 0 _ rfl)) rfl ?_
  refine RG.vv (FV.eqlB (a := a0.fBelow) (b := a1.fBelow) Tryz.underlying4 rfl rfl) rfl ?_
  refine RG.nil ?_
  refine MX.ifb rfl h (fun c16 h => ?_) (fun c16 h => ?_)
  ·skip
   refine MX.seq ?_
   refine MX.drawT 8 tb133_2 (by kernel_rfl) (by kernel_rfl) (by kernel_rfl) (fun kt17 kp18 => ?_)
   refine RD.vw 0 1 kt17 rfl kp18 (fun _ => FV.fieldAddr (off := 0) (by kernel_rfl) rfl) rfl ?_
   refine RD.vx 1 3 384 kt17 rfl kp18 (FV.load1 (by kernel_rfl) rfl ((hS13.memA (.tl (.tl .hd))) 0 _ rfl)) rfl ?_
   refine RD.vw 2 7 kt17 rfl kp18 (fun _ => FV.fieldAddr (off := 1) (by kernel_rfl) rfl) rfl ?_
   refine RD.vx 3 15 448 kt17 rfl kp18 (FV.load1 (by kernel_rfl) rfl ((hS13.memA (.tl (.tl .hd))) 1 _ rfl)) rfl ?_
   refine RD.vw 4 31 kt17 rfl kp18 (fun _ => FV.fieldAddr (off := 1) (by kernel_rfl) rfl) rfl ?_
   refine RD.vx 5 63 448 kt17 rfl kp18 (FV.load1 (by kernel_rfl) rfl ((hS13.memA (.tl .hd)) 1 _ rfl)) rfl ?_
   obtain ⟨y19, hy19, h⟩ := bind_in h
   have hm20 := Rep.mv h0_1 (Tr.trans hT4 (Tr.trans hT9 hT14))
   have hm21 := Rep.mv h1_1 (Tr.trans hT4 (Tr.trans hT9 hT14))
   refine RD.cl 6 127 kt17 rfl .plain body171 rfl (evs_cons rfl (evs_cons rfl evs_nil)) (fun w9 hw9 => wide_added_c n _ w9 (hS13.hL hL hw9) a0.fWords (Rep.keep0 hm20 hw9) a1.fWords (Rep.keep0 hm21 hw9) hy19) rfl (fun w22 vu23 hag24 ⟨v27, hu_, hr28⟩ => ?_)
   subst hu_
   obtain ⟨hS25, hT26⟩ := hS13.agr hag24
   obtain ⟨y29, hy29, h⟩ := bind_in h
   refine RD.cl 7 255 kt17 rfl .plain body169 rfl (evs_cons rfl (evs_cons rfl evs_nil)) (fun w9 hw9 => wide_trimmed_c n _ w9 (hS25.hL hL hw9) a0.fBelow y19 (Rep.keep0 hr28 hw9) hy29) rfl (fun w30 vu31 hag32 ⟨v35, hu_, hr36⟩ => ?_)
   subst hu_
   obtain ⟨hS33, hT34⟩ := hS25.agr hag32
   refine RD.nw 8 511 kt17 rfl rfl .plain (Acts.storeAll (news := [.bool y29.fBelow, v35]) hS33 .hd rfl rfl rfl rfl rfl rfl (ones_cons rfl (ones_cons (Rep.o1 hr36) ones_nil))) (fun w37 hS38 hT39 => ?_)
   refine RD.done (doneD_ok kt17 (by kernel_rfl)) ?_
   refine MX.ret rfl ?_
   refine RT.leave hb0 Tryz.func133 rfl (.cons (.many (cs := [.bool y29.fBelow, v35]) (by kernel_rfl) rfl (hS38.memA .hd)) .nil) rfl ?_
   obtain rfl := Option.some.inj h
   have hm40 := Rep.mv hr36 hT39
   exact ⟨hS38.ag, fun w9 hw9 => ⟨v35, rfl, Rep.keep0 (Rep.dropS hS38 hm40) hw9⟩⟩
  refine MX.skip ?_
  refine MX.seq ?_
  refine MX.sr ?_
  refine RG.vv (FV.fieldAddr (off := 1) (by kernel_rfl) rfl) rfl ?_
  refine RG.vv (FV.load1 (by kernel_rfl) rfl ((hS13.memA (.tl (.tl .hd))) 1 _ rfl)) rfl ?_
  refine RG.vv (FV.fieldAddr (off := 1) (by kernel_rfl) rfl) rfl ?_
  refine RG.vv (FV.load1 (by kernel_rfl) rfl ((hS13.memA (.tl .hd)) 1 _ rfl)) rfl ?_
  obtain ⟨y41, hy41, h⟩ := bind_in h
  have hm42 := Rep.mv h0_1 (Tr.trans hT4 (Tr.trans hT9 hT14))
  have hm43 := Rep.mv h1_1 (Tr.trans hT4 (Tr.trans hT9 hT14))
  refine RG.cq (.int .i64 y41) body172 rfl (evs_cons rfl (evs_cons rfl evs_nil)) (fun w9 hw9 => wide_compared_c n _ w9 (hS13.hL0 hL hw9) a0.fWords (Rep.keep0 (Rep.dropS hS13 hm42) hw9) a1.fWords (Rep.keep0 (Rep.dropS hS13 hm43) hw9) hy41) rfl ?_
  refine RG.vv (FV.lss (i := y41) (j := 0) rfl rfl) rfl ?_
  refine RG.nil ?_
  refine MX.join (α := Bool × (List UInt64) × Bool × (List UInt64) × Value × Value) (fun ⟨q52, xs53, q56, xs57, v54, v58⟩ => [(2, .pointer (some ⟨b5, 0, none⟩)), (3, .pointer (some ⟨b10, 0, none⟩)), (4, .pointer (some ⟨b15, 0, none⟩))]) (fun ⟨q52, xs53, q56, xs57, v54, v58⟩ wx59 => St w wx59 [.cells b15 [.bool false, .slice none 0 0] 123, .cells b10 [.bool q52, v54] 123, .cells b5 [.bool q56, v58] 123] ∧ Tr w12 [.cells b15 [.bool false, .slice none 0 0] 123, .cells b10 [.bool a1.fBelow, v1_1] 123, .cells b5 [.bool a0.fBelow, v0_1] 123] wx59 [.cells b15 [.bool false, .slice none 0 0] 123, .cells b10 [.bool q52, v54] 123, .cells b5 [.bool q56, v58] 123] ∧ Rep.R wx59 (bl [.cells b15 [.bool false, .slice none 0 0] 123, .cells b10 [.bool q52, v54] 123, .cells b5 [.bool q56, v58] 123] ++ L) [v54] xs53 ∧ Rep.R wx59 (bl [.cells b15 [.bool false, .slice none 0 0] 123, .cells b10 [.bool q52, v54] 123, .cells b5 [.bool q56, v58] 123] ++ L) [v58] xs57) (fun ⟨q52, xs53, q56, xs57, v54, v58⟩ => (q52, xs53, q56, xs57)) h ?_ ?_
  ·skip
   rintro ⟨q52, xs53, q56, xs57, v54, v58⟩ wx59 ⟨hS60, hT61, hr55, hr59⟩ h
   try dsimp only at h
   refine MX.seq ?_
   refine MX.drawT 8 tb133_5 (by kernel_rfl) (by kernel_rfl) (by kernel_rfl) (fun kt65 kp66 => ?_)
   refine RD.vw 0 1 kt65 rfl kp66 (fun _ => FV.fieldAddr (off := 0) (by kernel_rfl) rfl) rfl ?_
   refine RD.vx 1 3 384 kt65 rfl kp66 (FV.load1 (by kernel_rfl) rfl ((hS60.memA (.tl (.tl .hd))) 0 _ rfl)) rfl ?_
   refine RD.vw 2 7 kt65 rfl kp66 (fun _ => FV.fieldAddr (off := 1) (by kernel_rfl) rfl) rfl ?_
   refine RD.vx 3 15 448 kt65 rfl kp66 (FV.load1 (by kernel_rfl) rfl ((hS60.memA (.tl (.tl .hd))) 1 _ rfl)) rfl ?_
   refine RD.vw 4 31 kt65 rfl kp66 (fun _ => FV.fieldAddr (off := 1) (by kernel_rfl) rfl) rfl ?_
   refine RD.vx 5 63 448 kt65 rfl kp66 (FV.load1 (by kernel_rfl) rfl ((hS60.memA (.tl .hd)) 1 _ rfl)) rfl ?_
   obtain ⟨y67, hy67, h⟩ := bind_in h
   refine RD.cl 6 127 kt65 rfl .plain body173 rfl (evs_cons rfl (evs_cons rfl evs_nil)) (fun w9 hw9 => wide_taken_c n _ w9 (hS60.hL hL hw9) xs57 (Rep.keep0 hr59 hw9) xs53 (Rep.keep0 hr55 hw9) hy67) rfl (fun w68 vu69 hag70 ⟨v73, hu_, hr74⟩ => ?_)
   subst hu_
   obtain ⟨hS71, hT72⟩ := hS60.agr hag70
   obtain ⟨y75, hy75, h⟩ := bind_in h
   refine RD.cl 7 255 kt65 rfl .plain body169 rfl (evs_cons rfl (evs_cons rfl evs_nil)) (fun w9 hw9 => wide_trimmed_c n _ w9 (hS71.hL hL hw9) q56 y67 (Rep.keep0 hr74 hw9) hy75) rfl (fun w76 vu77 hag78 ⟨v81, hu_, hr82⟩ => ?_)
   subst hu_
   obtain ⟨hS79, hT80⟩ := hS71.agr hag78
   refine RD.nw 8 511 kt65 rfl rfl .plain (Acts.storeAll (news := [.bool y75.fBelow, v81]) hS79 .hd rfl rfl rfl rfl rfl rfl (ones_cons rfl (ones_cons (Rep.o1 hr82) ones_nil))) (fun w83 hS84 hT85 => ?_)
   refine RD.done (doneD_ok kt65 (by kernel_rfl)) ?_
   refine MX.ret rfl ?_
   refine RT.leave hb0 Tryz.func133 rfl (.cons (.many (cs := [.bool y75.fBelow, v81]) (by kernel_rfl) rfl (hS84.memA .hd)) .nil) rfl ?_
   obtain rfl := Option.some.inj h
   have hm86 := Rep.mv hr82 hT85
   exact ⟨hS84.ag, fun w9 hw9 => ⟨v81, rfl, Rep.keep0 (Rep.dropS hS84 hm86) hw9⟩⟩
  ·skip
   intro J63 hJ64 h
   try dsimp only at h
   refine MX.ifd rfl h (fun c87 h => ?_) (fun c87 h => ?_)
   ·skip
    refine MX.region ?_
    refine RG.vv (FV.loadN (by kernel_rfl) rfl (hS13.memA (.tl .hd))) rfl ?_
    refine RG.vv (FV.loadN (by kernel_rfl) rfl (hS13.memA (.tl (.tl .hd)))) rfl ?_
    refine RG.now .plain (Acts.storeAll (news := [.bool a1.fBelow, v1_1]) hS13 (.tl (.tl .hd)) rfl rfl rfl rfl rfl rfl (ones_cons rfl (ones_cons (Rep.o1 hm43) ones_nil))) (fun w88 hS89 hT90 => ?_)
    have hm91 := Rep.mv h0_1 (Tr.trans hT4 (Tr.trans hT9 (Tr.trans hT14 hT90)))
    refine RG.now .plain (Acts.storeAll (news := [.bool a0.fBelow, v0_1]) hS89 (.tl .hd) rfl rfl rfl rfl rfl rfl (ones_cons rfl (ones_cons (Rep.o1 hm91) ones_nil))) (fun w92 hS93 hT94 => ?_)
    refine RG.nil ?_
    have hm95 := Rep.mv h0_1 (Tr.trans hT4 (Tr.trans hT9 (Tr.trans hT14 (Tr.trans hT90 hT94))))
    have hm96 := Rep.mv h1_1 (Tr.trans hT4 (Tr.trans hT9 (Tr.trans hT14 (Tr.trans hT90 hT94))))
    exact hJ64 (a0.fBelow, a0.fWords, a1.fBelow, a1.fWords, v0_1, v1_1) _ _ ⟨rfl, rfl, rfl, trivial⟩ ⟨hS93, (Tr.trans hT90 hT94), hm95, hm96⟩ h
   refine MX.skip ?_
   exact hJ64 (a1.fBelow, a1.fWords, a0.fBelow, a0.fWords, v1_1, v0_1) _ _ ⟨rfl, rfl, rfl, trivial⟩ ⟨hS13, Tr.refl _ _, hm43, hm42⟩ h
def wide_Long_Turned_p (n : Nat) (a0 : TLong) : Option TLong :=
  (wide_trimmed_p n (!a0.fBelow) a0.fWords).bind fun y11 => some y11
set_option maxRecDepth 4000 in
set_option maxHeartbeats 4000000 in
theorem wide_Long_Turned_c (n : Nat) (L : List Nat) (w : World) (hL : ∀ b ∈ L, b < w.heap.size) (a0 : TLong) {v0_1 : Value} (h0_1 : Rep.R w L [v0_1] a0.fWords)  {r : TLong} (h : wide_Long_Turned_p n a0 = some r) :
    Calls Tryz.prog 137 #[.agg #[.bool a0.fBelow, v0_1]] w (Gives w fun w' u => ∃ v0_1 : Value, u = .agg #[.bool r.fBelow, v0_1] ∧ Rep.R w' L [v0_1] r.fWords) := by
  unfold wide_Long_Turned_p at h
  have hS0 := St.start w
  refine MX.start Tryz.func137 rfl rfl rfl (fun _ cs0 hb0 => ?_)
  refine MX.sr ?_
  refine RG.new .plain rfl (Does.box (vs := [.bool a0.fBelow, v0_1]) hS0 rfl rfl) (fun w2 b5 hS3 hT4 => ?_)
  refine RG.new .plain rfl (Does.alloc (zs := [.bool false, .slice none 0 0]) hS3 (zB (by kernel_rfl))) (fun w7 b10 hS8 hT9 => ?_)
  refine RG.nil ?_
  refine MX.sr ?_
  refine RG.vv (FV.fieldAddr (off := 0) (by kernel_rfl) rfl) rfl ?_
  refine RG.vv (FV.load1 (by kernel_rfl) rfl ((hS8.memA (.tl .hd)) 0 _ rfl)) rfl ?_
  refine RG.vv (FV.not rfl) rfl ?_
  refine RG.vv (FV.fieldAddr (off := 1) (by kernel_rfl) rfl) rfl ?_
  refine RG.vv (FV.load1 (by kernel_rfl) rfl ((hS8.memA (.tl .hd)) 1 _ rfl)) rfl ?_
  obtain ⟨y11, hy11, h⟩ := bind_in h
  have hm12 := Rep.mv h0_1 (Tr.trans hT4 hT9)
  refine RG.call' (fst := []) (cap := []) .plain body169 rfl (evs_cons rfl (evs_cons rfl evs_nil)) (fun w9 hw9 => wide_trimmed_c n _ w9 (hS8.hL hL hw9) (!a0.fBelow) a0.fWords (Rep.keep0 hm12 hw9) hy11) rfl (fun w13 vu14 hag15 ⟨v18, hu_, hr19⟩ => ?_)
  subst hu_
  obtain ⟨hS16, hT17⟩ := hS8.agr hag15
  refine RG.now .plain (Acts.storeAll (news := [.bool y11.fBelow, v18]) hS16 .hd rfl rfl rfl rfl rfl rfl (ones_cons rfl (ones_cons (Rep.o1 hr19) ones_nil))) (fun w20 hS21 hT22 => ?_)
  refine RG.nil ?_
  refine MX.ret rfl ?_
  refine RT.leave hb0 Tryz.func137 rfl (.cons (.many (cs := [.bool y11.fBelow, v18]) (by kernel_rfl) rfl (hS21.memA .hd)) .nil) rfl ?_
  obtain rfl := Option.some.inj h
  have hm23 := Rep.mv hr19 hT22
  exact ⟨hS21.ag, fun w9 hw9 => ⟨v18, rfl, Rep.keep0 (Rep.dropS hS21 hm23) hw9⟩⟩
def tb200_1 : List (Nat × Nat × Nat) := [(0, 32, 4), (0, 64, 8), (2, 128, 64), (5, 256, 160), (15, 0, 272)]
theorem body133 : bodyB Tryz.prog 133 = true := by kernel_rfl
theorem body137 : bodyB Tryz.prog 137 = true := by kernel_rfl
def wide_Long_Minus_p (n : Nat) (a0 : TLong) (a1 : TLong) : Option TLong :=
  (wide_Long_Turned_p n a1).bind fun y18 => (wide_Long_Plus_p n a0 y18).bind fun y27 => some y27
set_option maxRecDepth 4000 in
set_option maxHeartbeats 4000000 in
theorem wide_Long_Minus_c (n : Nat) (L : List Nat) (w : World) (hL : ∀ b ∈ L, b < w.heap.size) (a0 : TLong) {v0_1 : Value} (h0_1 : Rep.R w L [v0_1] a0.fWords) (a1 : TLong) {v1_1 : Value} (h1_1 : Rep.R w L [v1_1] a1.fWords)  {r : TLong} (h : wide_Long_Minus_p n a0 a1 = some r) :
    Calls Tryz.prog 200 #[.agg #[.bool a0.fBelow, v0_1], .agg #[.bool a1.fBelow, v1_1]] w (Gives w fun w' u => ∃ v0_1 : Value, u = .agg #[.bool r.fBelow, v0_1] ∧ Rep.R w' L [v0_1] r.fWords) := by
  unfold wide_Long_Minus_p at h
  have hS0 := St.start w
  refine MX.start Tryz.func200 rfl rfl rfl (fun _ cs0 hb0 => ?_)
  refine MX.sr ?_
  refine RG.new .plain rfl (Does.box (vs := [.bool a0.fBelow, v0_1]) hS0 rfl rfl) (fun w2 b5 hS3 hT4 => ?_)
  refine RG.new .plain rfl (Does.box (vs := [.bool a1.fBelow, v1_1]) hS3 rfl rfl) (fun w7 b10 hS8 hT9 => ?_)
  refine RG.new .plain rfl (Does.alloc (zs := [.bool false, .slice none 0 0]) hS8 (zB (by kernel_rfl))) (fun w12 b15 hS13 hT14 => ?_)
  refine RG.nil ?_
  refine MX.seq ?_
  refine MX.drawT 4 tb200_1 (by kernel_rfl) (by kernel_rfl) (by kernel_rfl) (fun kt16 kp17 => ?_)
  refine RD.vx 0 1 24 kt16 rfl kp17 (FV.loadN (by kernel_rfl) rfl (hS13.memA (.tl (.tl .hd)))) rfl ?_
  refine RD.vx 1 3 28 kt16 rfl kp17 (FV.loadN (by kernel_rfl) rfl (hS13.memA (.tl .hd))) rfl ?_
  obtain ⟨y18, hy18, h⟩ := bind_in h
  have hm19 := Rep.mv h1_1 (Tr.trans hT4 (Tr.trans hT9 hT14))
  refine RD.cl 2 7 kt16 rfl .plain body137 rfl (evs_cons rfl evs_nil) (fun w9 hw9 => wide_Long_Turned_c n _ w9 (hS13.hL hL hw9) a1 (Rep.keep0 hm19 hw9) hy18) rfl (fun w20 vu21 hag22 ⟨v25, hu_, hr26⟩ => ?_)
  subst hu_
  obtain ⟨hS23, hT24⟩ := hS13.agr hag22
  obtain ⟨y27, hy27, h⟩ := bind_in h
  have hm28 := Rep.mv h0_1 (Tr.trans hT4 (Tr.trans hT9 (Tr.trans hT14 hT24)))
  refine RD.cl 3 15 kt16 rfl .plain body133 rfl (evs_cons rfl (evs_cons rfl evs_nil)) (fun w9 hw9 => wide_Long_Plus_c n _ w9 (hS23.hL hL hw9) a0 (Rep.keep0 hm28 hw9) y18 (Rep.keep0 hr26 hw9) hy27) rfl (fun w29 vu30 hag31 ⟨v34, hu_, hr35⟩ => ?_)
  subst hu_
  obtain ⟨hS32, hT33⟩ := hS23.agr hag31
  refine RD.nw 4 31 kt16 rfl rfl .plain (Acts.storeAll (news := [.bool y27.fBelow, v34]) hS32 .hd rfl rfl rfl rfl rfl rfl (ones_cons rfl (ones_cons (Rep.o1 hr35) ones_nil))) (fun w36 hS37 hT38 => ?_)
  refine RD.done (doneD_ok kt16 (by kernel_rfl)) ?_
  refine MX.ret rfl ?_
  refine RT.leave hb0 Tryz.func200 rfl (.cons (.many (cs := [.bool y27.fBelow, v34]) (by kernel_rfl) rfl (hS37.memA .hd)) .nil) rfl ?_
  obtain rfl := Option.some.inj h
  have hm39 := Rep.mv hr35 hT38
  exact ⟨hS37.ag, fun w9 hw9 => ⟨v34, rfl, Rep.keep0 (Rep.dropS hS37 hm39) hw9⟩⟩
theorem body144 : bodyB Tryz.prog 144 = true := by kernel_rfl
theorem body200 : bodyB Tryz.prog 200 = true := by kernel_rfl
def wide_Long_Cmp_p (n : Nat) (a0 : TLong) (a1 : TLong) : Option Int :=
  (wide_Long_Minus_p n a0 a1).bind fun y11 => (wide_Long_Side_p n y11).bind fun y21 => some y21
set_option maxRecDepth 4000 in
set_option maxHeartbeats 4000000 in
theorem wide_Long_Cmp_c (n : Nat) (L : List Nat) (w : World) (hL : ∀ b ∈ L, b < w.heap.size) (a0 : TLong) {v0_1 : Value} (h0_1 : Rep.R w L [v0_1] a0.fWords) (a1 : TLong) {v1_1 : Value} (h1_1 : Rep.R w L [v1_1] a1.fWords)  {r : Int} (h : wide_Long_Cmp_p n a0 a1 = some r) :
    Calls Tryz.prog 176 #[.agg #[.bool a0.fBelow, v0_1], .agg #[.bool a1.fBelow, v1_1]] w (Gives w fun _ u => u = .int .i64 r) := by
  unfold wide_Long_Cmp_p at h
  have hS0 := St.start w
  refine MX.start Tryz.func176 rfl rfl rfl (fun _ cs0 hb0 => ?_)
  refine MX.sr ?_
  refine RG.new .plain rfl (Does.box (vs := [.bool a0.fBelow, v0_1]) hS0 rfl rfl) (fun w2 b5 hS3 hT4 => ?_)
  refine RG.new .plain rfl (Does.box (vs := [.bool a1.fBelow, v1_1]) hS3 rfl rfl) (fun w7 b10 hS8 hT9 => ?_)
  refine RG.sg rfl rfl ?_
  refine RG.nil ?_
  refine MX.sr ?_
  refine RG.vv (FV.loadN (by kernel_rfl) rfl (hS8.memA (.tl .hd))) rfl ?_
  refine RG.vv (FV.loadN (by kernel_rfl) rfl (hS8.memA .hd)) rfl ?_
  obtain ⟨y11, hy11, h⟩ := bind_in h
  have hm12 := Rep.mv h0_1 (Tr.trans hT4 hT9)
  have hm13 := Rep.mv h1_1 (Tr.trans hT4 hT9)
  refine RG.call' (fst := []) (cap := []) .plain body200 rfl (evs_cons rfl (evs_cons rfl evs_nil)) (fun w9 hw9 => wide_Long_Minus_c n _ w9 (hS8.hL hL hw9) a0 (Rep.keep0 hm12 hw9) a1 (Rep.keep0 hm13 hw9) hy11) rfl (fun w14 vu15 hag16 ⟨v19, hu_, hr20⟩ => ?_)
  subst hu_
  obtain ⟨hS17, hT18⟩ := hS8.agr hag16
  obtain ⟨y21, hy21, h⟩ := bind_in h
  refine RG.cq (.int .i64 y21) body144 rfl (evs_cons rfl evs_nil) (fun w9 hw9 => wide_Long_Side_c n _ w9 (hS17.hL0 hL hw9) y11 (Rep.keep0 (Rep.dropS hS17 hr20) hw9) hy21) rfl ?_
  refine RG.sg rfl rfl ?_
  refine RG.nil ?_
  refine MX.ret rfl ?_
  refine RT.leave hb0 Tryz.func176 rfl (.cons (.tmp rfl) .nil) rfl ?_
  obtain rfl := Option.some.inj h
  exact ⟨hS17.ag, fun w9 hw9 => rfl⟩
def wide_Of_l1 (_n : Nat) (J59 : Nat × UInt64 × UInt64 × UInt64 × UInt64 × UInt64 × UInt64 × UInt64 × UInt64 → Option (UInt64 × UInt64 × UInt64 × UInt64 × UInt64 × UInt64 × UInt64 × UInt64)) : Nat × UInt64 × UInt64 × UInt64 × UInt64 × UInt64 × UInt64 × UInt64 × UInt64 → Option (UInt64 × UInt64 × UInt64 × UInt64 × UInt64 × UInt64 × UInt64 × UInt64)
  | (i43, u44, u45, u46, u47, u48, u49, u50, u51) => (if i43 < 8 then (([u44, u45, u46, u47, u48, u49, u50, u51] : List UInt64)[i43]?).bind fun z62 => J59 (i43 + 1, setA i43 0 (18446744073709551615 : UInt64) u44, setA i43 1 (18446744073709551615 : UInt64) u45, setA i43 2 (18446744073709551615 : UInt64) u46, setA i43 3 (18446744073709551615 : UInt64) u47, setA i43 4 (18446744073709551615 : UInt64) u48, setA i43 5 (18446744073709551615 : UInt64) u49, setA i43 6 (18446744073709551615 : UInt64) u50, setA i43 7 (18446744073709551615 : UInt64) u51) else some (u44, u45, u46, u47, u48, u49, u50, u51))
def wide_Of_p (n : Nat) (a0 : Int) : Option (UInt64 × UInt64 × UInt64 × UInt64 × UInt64 × UInt64 × UInt64 × UInt64) :=
  (if a0 < 0 then Option.bind (loopF (wide_Of_l1 n) n (1, u64of a0, (0 : UInt64), (0 : UInt64), (0 : UInt64), (0 : UInt64), (0 : UInt64), (0 : UInt64), (0 : UInt64))) (fun (u44, u45, u46, u47, u48, u49, u50, u51) => some (u44, u45, u46, u47, u48, u49, u50, u51)) else some (u64of a0, (0 : UInt64), (0 : UInt64), (0 : UInt64), (0 : UInt64), (0 : UInt64), (0 : UInt64), (0 : UInt64)))
set_option maxRecDepth 4000 in
set_option maxHeartbeats 4000000 in
theorem wide_Of_c (n : Nat) (L : List Nat) (w : World) (_hL : ∀ b ∈ L, b < w.heap.size) (a0 : Int)  {r : UInt64 × UInt64 × UInt64 × UInt64 × UInt64 × UInt64 × UInt64 × UInt64} (h : wide_Of_p n a0 = some r) :
    Calls Tryz.prog 128 #[.int .i64 a0] w (Gives w fun _ u => u = .agg ((cs_A34 r)).toArray) := by
  unfold wide_Of_p at h
  have hS0 := St.start w
  refine MX.start Tryz.func128 rfl rfl rfl (fun _ cs0 hb0 => ?_)
  refine MX.sr ?_
  refine RG.new .plain rfl (Does.alloc (zs := [.int .u64 0, .int .u64 0, .int .u64 0, .int .u64 0, .int .u64 0, .int .u64 0, .int .u64 0, .int .u64 0]) hS0 (zB (by kernel_rfl))) (fun w2 b5 hS3 hT4 => ?_)
  refine RG.nil ?_
  refine MX.sr ?_
  refine RG.mv rfl rfl ?_
  refine RG.vv (FV.convU (i := a0) Tryz.underlying3 Tryz.underlying33 rfl) rfl ?_
  refine RG.vv (FV.buildV (vs := [.int .u64 ((u64of a0).toNat : Int)]) (u := .agg #[.int .u64 ((u64of a0).toNat : Int), .int .u64 0, .int .u64 0, .int .u64 0, .int .u64 0, .int .u64 0, .int .u64 0, .int .u64 0]) (evs_cons rfl evs_nil) (fun w9 => by kernel_rfl)) rfl ?_
  refine RG.new .plain rfl (Does.alloc (zs := [.int .u64 0, .int .u64 0, .int .u64 0, .int .u64 0, .int .u64 0, .int .u64 0, .int .u64 0, .int .u64 0]) hS3 (zB (by kernel_rfl))) (fun w7 b10 hS8 hT9 => ?_)
  refine RG.now .plain (Acts.storeAll (news := [.int .u64 ((u64of a0).toNat : Int), .int .u64 0, .int .u64 0, .int .u64 0, .int .u64 0, .int .u64 0, .int .u64 0, .int .u64 0]) hS8 .hd rfl rfl rfl rfl rfl rfl (onesB rfl)) (fun w11 hS12 hT13 => ?_)
  refine RG.nil ?_
  refine MX.seq ?_
  refine MX.sr ?_
  refine RG.mv rfl rfl ?_
  refine RG.vv (FV.lss (i := a0) (j := 0) rfl rfl) rfl ?_
  refine RG.nil ?_
  refine MX.ifd rfl h (fun c14 h => ?_) (fun c14 h => ?_)
  ·skip
   refine MX.sr ?_
   refine RG.sg rfl rfl ?_
   refine RG.nil ?_
   refine MX.block ?_
   obtain ⟨o57, ho56, hh58⟩ := bind_in2 h
   refine MX.loop (α := Nat × UInt64 × UInt64 × UInt64 × UInt64 × UInt64 × UInt64 × UInt64 × UInt64) (fun ⟨i43, u44, u45, u46, u47, u48, u49, u50, u51⟩ => [(2, .pointer (some ⟨b5, 0, none⟩)), (3, .pointer (some ⟨b10, 0, none⟩)), (4, .int .i64 ((i43 : Nat) : Int))]) (fun ⟨i43, u44, u45, u46, u47, u48, u49, u50, u51⟩ wx51 => St w wx51 [.cells b10 [.int .u64 (u44.toNat : Int), .int .u64 (u45.toNat : Int), .int .u64 (u46.toNat : Int), .int .u64 (u47.toNat : Int), .int .u64 (u48.toNat : Int), .int .u64 (u49.toNat : Int), .int .u64 (u50.toNat : Int), .int .u64 (u51.toNat : Int)] 35, .cells b5 [.int .u64 0, .int .u64 0, .int .u64 0, .int .u64 0, .int .u64 0, .int .u64 0, .int .u64 0, .int .u64 0] 35] ∧ Tr w11 [.cells b10 [.int .u64 ((u64of a0).toNat : Int), .int .u64 0, .int .u64 0, .int .u64 0, .int .u64 0, .int .u64 0, .int .u64 0, .int .u64 0] 35, .cells b5 [.int .u64 0, .int .u64 0, .int .u64 0, .int .u64 0, .int .u64 0, .int .u64 0, .int .u64 0, .int .u64 0] 35] wx51 [.cells b10 [.int .u64 (u44.toNat : Int), .int .u64 (u45.toNat : Int), .int .u64 (u46.toNat : Int), .int .u64 (u47.toNat : Int), .int .u64 (u48.toNat : Int), .int .u64 (u49.toNat : Int), .int .u64 (u50.toNat : Int), .int .u64 (u51.toNat : Int)] 35, .cells b5 [.int .u64 0, .int .u64 0, .int .u64 0, .int .u64 0, .int .u64 0, .int .u64 0, .int .u64 0, .int .u64 0] 35]) (fun ⟨i43, u44, u45, u46, u47, u48, u49, u50, u51⟩ => (i43, u44, u45, u46, u47, u48, u49, u50, u51)) (1, u64of a0, (0 : UInt64), (0 : UInt64), (0 : UInt64), (0 : UInt64), (0 : UInt64), (0 : UInt64), (0 : UInt64)) ho56 ⟨rfl, rfl, rfl, trivial⟩ ⟨hS12, Tr.refl _ _⟩ ?_
   rintro J59 ⟨i43, u44, u45, u46, u47, u48, u49, u50, u51⟩ wx51 hJ60 ⟨hS52, hT53⟩ h
   unfold wide_Of_l1 at h
   try dsimp only at h
   refine MX.seq ?_
   refine MX.sr ?_
   refine RG.mv rfl rfl ?_
   refine RG.vv (FV.lssN (i := i43) (j := 8) rfl rfl) rfl ?_
   refine RG.nil ?_
   refine MX.ifd rfl h (fun c61 h => ?_) (fun c61 h => ?_)
   ·skip
    refine MX.skip ?_
    refine MX.seq ?_
    refine MX.block ?_
    refine MX.region ?_
    refine RG.mv rfl rfl ?_
    obtain ⟨z62, hz62, h⟩ := bind_in h
    have hm63 := mem_elem1 (p := ⟨b10, 0, none⟩) (cs := ([u44, u45, u46, u47, u48, u49, u50, u51] : List UInt64).map (fun z9 : UInt64 => (.int .u64 (z9.toNat : Int) : Value)) ++ []) (i := i43) (hS52.memA .hd) (arr_get (fun z9 : UInt64 => (.int .u64 (z9.toNat : Int) : Value)) hz62)
    refine RG.vv (FV.indexArr (m := 1) (k := i43) (len := 8) (by kernel_rfl) rfl rfl rfl (arr_lt hz62 rfl)) rfl ?_
    refine RG.now .plain (Acts.storeArr (fun z9 : UInt64 => (.int .u64 (z9.toNat : Int) : Value)) (xs := ([u44, u45, u46, u47, u48, u49, u50, u51] : List UInt64)) (pre := []) (post := []) (i := i43) (m := 8) (x := (18446744073709551615 : UInt64)) (old := [.int .u64 (u44.toNat : Int), .int .u64 (u45.toNat : Int), .int .u64 (u46.toNat : Int), .int .u64 (u47.toNat : Int), .int .u64 (u48.toNat : Int), .int .u64 (u49.toNat : Int), .int .u64 (u50.toNat : Int), .int .u64 (u51.toNat : Int)]) (new' := [.int .u64 ((setA i43 0 (18446744073709551615 : UInt64) u44).toNat : Int), .int .u64 ((setA i43 1 (18446744073709551615 : UInt64) u45).toNat : Int), .int .u64 ((setA i43 2 (18446744073709551615 : UInt64) u46).toNat : Int), .int .u64 ((setA i43 3 (18446744073709551615 : UInt64) u47).toNat : Int), .int .u64 ((setA i43 4 (18446744073709551615 : UInt64) u48).toNat : Int), .int .u64 ((setA i43 5 (18446744073709551615 : UInt64) u49).toNat : Int), .int .u64 ((setA i43 6 (18446744073709551615 : UInt64) u50).toNat : Int), .int .u64 ((setA i43 7 (18446744073709551615 : UInt64) u51).toNat : Int)]) rfl rfl (arr_lt hz62 rfl) hS52 .hd rfl (addr_at _ _ _) rfl (by kernel_rfl) (fun _ => ⟨rfl, rfl⟩) rfl rfl) (fun w64 hS65 hT66 => ?_)
    refine RG.nil ?_
    refine MX.inBlock ?_
    refine MX.region ?_
    refine RG.mv rfl rfl ?_
    refine RG.vv (FV.addN (i := i43) (j := 1) rfl rfl (by omega)) rfl ?_
    refine RG.sg rfl rfl ?_
    refine RG.nil ?_
    exact hJ60 (i43 + 1, setA i43 0 (18446744073709551615 : UInt64) u44, setA i43 1 (18446744073709551615 : UInt64) u45, setA i43 2 (18446744073709551615 : UInt64) u46, setA i43 3 (18446744073709551615 : UInt64) u47, setA i43 4 (18446744073709551615 : UInt64) u48, setA i43 5 (18446744073709551615 : UInt64) u49, setA i43 6 (18446744073709551615 : UInt64) u50, setA i43 7 (18446744073709551615 : UInt64) u51) _ _ ⟨rfl, rfl, rfl, trivial⟩ ⟨hS65, (Tr.trans hT53 hT66)⟩ h
   refine MX.exit rfl ?_
   have h := hh58 _ h
   try dsimp only at h
   refine MX.sr ?_
   refine RG.vv (FV.loadN (by kernel_rfl) rfl (hS52.memA .hd)) rfl ?_
   refine RG.now .plain (Acts.storeAll (news := [.int .u64 (u44.toNat : Int), .int .u64 (u45.toNat : Int), .int .u64 (u46.toNat : Int), .int .u64 (u47.toNat : Int), .int .u64 (u48.toNat : Int), .int .u64 (u49.toNat : Int), .int .u64 (u50.toNat : Int), .int .u64 (u51.toNat : Int)]) hS52 (.tl .hd) rfl rfl rfl rfl rfl rfl (onesB rfl)) (fun w67 hS68 hT69 => ?_)
   refine RG.nil ?_
   refine MX.ret rfl ?_
   refine RT.leave hb0 Tryz.func128 rfl (.cons (.many (cs := [.int .u64 (u44.toNat : Int), .int .u64 (u45.toNat : Int), .int .u64 (u46.toNat : Int), .int .u64 (u47.toNat : Int), .int .u64 (u48.toNat : Int), .int .u64 (u49.toNat : Int), .int .u64 (u50.toNat : Int), .int .u64 (u51.toNat : Int)]) (by kernel_rfl) rfl (hS68.memA (.tl .hd))) .nil) rfl ?_
   obtain rfl := Option.some.inj h
   exact ⟨hS68.ag, fun w9 hw9 => rfl⟩
  refine MX.skip ?_
  refine MX.sr ?_
  refine RG.vv (FV.loadN (by kernel_rfl) rfl (hS12.memA .hd)) rfl ?_
  refine RG.now .plain (Acts.storeAll (news := [.int .u64 ((u64of a0).toNat : Int), .int .u64 0, .int .u64 0, .int .u64 0, .int .u64 0, .int .u64 0, .int .u64 0, .int .u64 0]) hS12 (.tl .hd) rfl rfl rfl rfl rfl rfl (onesB rfl)) (fun w70 hS71 hT72 => ?_)
  refine RG.nil ?_
  refine MX.ret rfl ?_
  refine RT.leave hb0 Tryz.func128 rfl (.cons (.many (cs := [.int .u64 ((u64of a0).toNat : Int), .int .u64 0, .int .u64 0, .int .u64 0, .int .u64 0, .int .u64 0, .int .u64 0, .int .u64 0]) (by kernel_rfl) rfl (hS71.memA (.tl .hd))) .nil) rfl ?_
  obtain rfl := Option.some.inj h
  exact ⟨hS71.ag, fun w9 hw9 => rfl⟩
theorem body128 : bodyB Tryz.prog 128 = true := by kernel_rfl
def wide_From_p (n : Nat) (a0 : Int) : Option TLong :=
  (wide_Of_p n a0).bind fun y6 => (wide_Longer_p n y6).bind fun y7 => some y7
set_option maxRecDepth 4000 in
set_option maxHeartbeats 4000000 in
theorem wide_From_c (n : Nat) (L : List Nat) (w : World) (hL : ∀ b ∈ L, b < w.heap.size) (a0 : Int)  {r : TLong} (h : wide_From_p n a0 = some r) :
    Calls Tryz.prog 191 #[.int .i64 a0] w (Gives w fun w' u => ∃ v0_1 : Value, u = .agg #[.bool r.fBelow, v0_1] ∧ Rep.R w' L [v0_1] r.fWords) := by
  unfold wide_From_p at h
  have hS0 := St.start w
  refine MX.start Tryz.func191 rfl rfl rfl (fun _ cs0 hb0 => ?_)
  refine MX.sr ?_
  refine RG.new .plain rfl (Does.alloc (zs := [.bool false, .slice none 0 0]) hS0 (zB (by kernel_rfl))) (fun w2 b5 hS3 hT4 => ?_)
  refine RG.nil ?_
  refine MX.sr ?_
  refine RG.mv rfl rfl ?_
  obtain ⟨y6, hy6, h⟩ := bind_in h
  refine RG.cq (.agg ((cs_A34 y6)).toArray) body128 rfl (evs_cons rfl evs_nil) (fun w9 hw9 => wide_Of_c n _ w9 (hS3.hL0 hL hw9) a0 hy6) rfl ?_
  obtain ⟨y7, hy7, h⟩ := bind_in h
  refine RG.call' (fst := []) (cap := []) .plain body165 rfl (evs_cons rfl evs_nil) (fun w9 hw9 => wide_Longer_c n _ w9 (hS3.hL hL hw9) y6 hy7) rfl (fun w8 vu9 hag10 ⟨v13, hu_, hr14⟩ => ?_)
  subst hu_
  obtain ⟨hS11, hT12⟩ := hS3.agr hag10
  refine RG.now .plain (Acts.storeAll (news := [.bool y7.fBelow, v13]) hS11 .hd rfl rfl rfl rfl rfl rfl (ones_cons rfl (ones_cons (Rep.o1 hr14) ones_nil))) (fun w15 hS16 hT17 => ?_)
  refine RG.nil ?_
  refine MX.ret rfl ?_
  refine RT.leave hb0 Tryz.func191 rfl (.cons (.many (cs := [.bool y7.fBelow, v13]) (by kernel_rfl) rfl (hS16.memA .hd)) .nil) rfl ?_
  obtain rfl := Option.some.inj h
  have hm18 := Rep.mv hr14 hT17
  exact ⟨hS16.ag, fun w9 hw9 => ⟨v13, rfl, Rep.keep0 (Rep.dropS hS16 hm18) hw9⟩⟩
def tb163_3 : List (Nat × Nat × Nat) := [(0, 256, 16), (1, 512, 256), (2, 1024, 512), (4, 2048, 1024), (12, 4096, 2048), (16, 8192, 4112), (48, 16384, 12288), (16, 32768, 4112), (144, 65536, 36864), (336, 131072, 86016), (16, 262144, 4104), (1552, 524288, 397312), (2064, 1048576, 528384), (4112, 2097152, 1052672)]
theorem body130 : bodyB Tryz.prog 130 = true := by kernel_rfl
theorem body167 : bodyB Tryz.prog 167 = true := by kernel_rfl
theorem body176 : bodyB Tryz.prog 176 = true := by kernel_rfl
theorem body191 : bodyB Tryz.prog 191 = true := by kernel_rfl
def share_Check_p (n : Nat) (a0 : TShare) : Option Int :=
  (wide_From_p n (1 : Int)).bind fun y6 => (share_Read_p n a0).bind fun y23 => (wide_Long_Side_p n y23.fUnder).bind fun y45 => (if y45 ≤ 0 then some (20 : Int) else (wide_Long_Common_p n y23.fLong y23.fUnder).bind fun y48 => (wide_Long_Cmp_p n y48 y6).bind fun y57 => (if y57 = 0 then some (0 : Int) else some (20 : Int)))
set_option maxRecDepth 4000 in
set_option maxHeartbeats 4000000 in
theorem share_Check_c (n : Nat) (L : List Nat) (w : World) (hL : ∀ b ∈ L, b < w.heap.size) (a0 : TShare)  {r : Int} (h : share_Check_p n a0 = some r) :
    Calls Tryz.prog 163 #[.agg ((cs_TShare a0)).toArray] w (Gives w fun _ u => u = .int .i64 r) := by
  unfold share_Check_p at h
  have hS0 := St.start w
  refine MX.start Tryz.func163 rfl rfl rfl (fun _ cs0 hb0 => ?_)
  refine MX.sr ?_
  refine RG.new .plain rfl (Does.box (vs := (cs_TShare a0)) hS0 rfl rfl) (fun w2 b5 hS3 hT4 => ?_)
  refine RG.sg rfl rfl ?_
  refine RG.nil ?_
  refine MX.sr ?_
  obtain ⟨y6, hy6, h⟩ := bind_in h
  refine RG.call' (fst := []) (cap := []) .plain body191 rfl (evs_cons rfl evs_nil) (fun w9 hw9 => wide_From_c n _ w9 (hS3.hL hL hw9) (1 : Int) hy6) rfl (fun w7 vu8 hag9 ⟨v12, hu_, hr13⟩ => ?_)
  subst hu_
  obtain ⟨hS10, hT11⟩ := hS3.agr hag9
  refine RG.new .plain rfl (Does.alloc (zs := [.bool false, .slice none 0 0]) hS10 (zB (by kernel_rfl))) (fun w15 b18 hS16 hT17 => ?_)
  have hm19 := Rep.mv hr13 hT17
  refine RG.now .plain (Acts.storeAll (news := [.bool y6.fBelow, v12]) hS16 .hd rfl rfl rfl rfl rfl rfl (ones_cons rfl (ones_cons (Rep.o1 hm19) ones_nil))) (fun w20 hS21 hT22 => ?_)
  refine RG.nil ?_
  refine MX.sr ?_
  refine RG.vv (FV.loadN (by kernel_rfl) rfl (hS21.memA (.tl .hd))) rfl ?_
  obtain ⟨y23, hy23, h⟩ := bind_in h
  refine RG.call' (fst := []) (cap := []) .plain body130 rfl (evs_cons rfl evs_nil) (fun w9 hw9 => share_Read_c n _ w9 (hS21.hL hL hw9) a0 hy23) rfl (fun w24 vu25 hag26 ⟨v29, v30, hu_, hr31, hr32⟩ => ?_)
  subst hu_
  obtain ⟨hS27, hT28⟩ := hS21.agr hag26
  refine RG.new .plain rfl (Does.alloc (zs := [.bool false, .slice none 0 0, .bool false, .slice none 0 0]) hS27 (zB (by kernel_rfl))) (fun w34 b37 hS35 hT36 => ?_)
  have hm38 := Rep.mv hr31 hT36
  have hm39 := Rep.mv hr32 hT36
  refine RG.now .plain (Acts.storeAll (news := [.bool y23.fLong.fBelow, v29, .bool y23.fUnder.fBelow, v30]) hS35 .hd rfl rfl rfl rfl rfl rfl (ones_cons rfl (ones_cons (Rep.o1 hm38) (ones_cons rfl (ones_cons (Rep.o1 hm39) ones_nil))))) (fun w40 hS41 hT42 => ?_)
  refine RG.nil ?_
  refine MX.seq ?_
  refine MX.seq ?_
  refine MX.drawT 14 tb163_3 (by kernel_rfl) (by kernel_rfl) (by kernel_rfl) (fun kt43 kp44 => ?_)
  refine RD.vw 0 1 kt43 rfl kp44 (fun _ => FV.fieldAddr (off := 2) (by kernel_rfl) rfl) rfl ?_
  refine RD.vx 1 3 16380 kt43 rfl kp44 (FV.loadN (cs := [.bool y23.fUnder.fBelow, v30]) (by kernel_rfl) rfl (mem_part (hS41.memA .hd) 2 2)) rfl ?_
  obtain ⟨y45, hy45, h⟩ := bind_in h
  have hm46 := Rep.mv hr32 (Tr.trans hT36 hT42)
  refine RD.cq 2 7 16376 (.int .i64 y45) kt43 rfl kp44 body144 rfl (evs_cons rfl evs_nil) (fun w9 hw9 => wide_Long_Side_c n _ w9 (hS41.hL0 hL hw9) y23.fUnder (Rep.keep0 (Rep.dropS hS41 hm46) hw9) hy45) rfl ?_
  refine RD.vw 3 15 kt43 rfl kp44 (fun _ => FV.leq (i := y45) (j := 0) rfl rfl) rfl ?_
  refine RD.vw 4 31 kt43 rfl kp44 (fun _ => FV.move rfl) rfl ?_
  refine RD.ifd (s := 12) rfl h (fun c47 h => ?_) (fun c47 h => ?_)
  ·skip
   refine RD.offs 8191 1 [(5, 13), (6, 14), (7, 15), (8, 16), (9, 17), (10, 18), (11, 19), (12, 20)] (F := [(12, true)]) (U := []) kt43 kp44 (.cons rfl .nil) .nil ?_
   dsimp only [offS, List.map]
   refine RD.vw 13 16383 kt43 rfl kp44 (fun _ => FV.pick_t rfl rfl) rfl ?_
   refine RD.done (doneD_ok kt43 (by kernel_rfl)) ?_
   refine MX.cond_t rfl ?_
   refine MX.sr ?_
   refine RG.sg rfl rfl ?_
   refine RG.nil ?_
   refine MX.ret rfl ?_
   refine RT.leave hb0 Tryz.func163 rfl (.cons (.tmp rfl) .nil) rfl ?_
   obtain rfl := Option.some.inj h
   exact ⟨hS41.ag, fun w9 hw9 => rfl⟩
  refine RD.vP 5 63 kt43 rfl kp44 (.yes rfl rfl) (fun _ => FV.fieldAddr (off := 0) (by kernel_rfl) rfl) rfl ?_
  refine RD.val (i := 6) (m' := 127) (W := 14848) (takeC_ok kt43 (by kernel_rfl)) rfl kp44 (.yes rfl rfl) (FV.loadN (cs := [.bool y23.fLong.fBelow, v29]) (by kernel_rfl) rfl (mem_part (hS41.memA .hd) 0 2)) rfl ?_
  refine RD.vP 7 255 kt43 rfl kp44 (.yes rfl rfl) (fun _ => FV.fieldAddr (off := 2) (by kernel_rfl) rfl) rfl ?_
  refine RD.val (i := 8) (m' := 511) (W := 14848) (takeC_ok kt43 (by kernel_rfl)) rfl kp44 (.yes rfl rfl) (FV.loadN (cs := [.bool y23.fUnder.fBelow, v30]) (by kernel_rfl) rfl (mem_part (hS41.memA .hd) 2 2)) rfl ?_
  refine RD.val (i := 10) (m' := 1535) (W := 14336) (takeC_ok kt43 (by kernel_rfl)) rfl kp44 (.yes rfl rfl) (FV.loadN (by kernel_rfl) rfl (hS41.memA (.tl .hd))) rfl ?_
  obtain ⟨y48, hy48, h⟩ := bind_in h
  have hm49 := Rep.mv hr31 (Tr.trans hT36 hT42)
  refine RD.cl 9 2047 kt43 rfl (.yes rfl rfl) body167 rfl (evs_cons rfl (evs_cons rfl evs_nil)) (fun w9 hw9 => wide_Long_Common_c n _ w9 (hS41.hL hL hw9) y23.fLong (Rep.keep0 hm49 hw9) y23.fUnder (Rep.keep0 hm46 hw9) hy48) rfl (fun w50 vu51 hag52 ⟨v55, hu_, hr56⟩ => ?_)
  subst hu_
  obtain ⟨hS53, hT54⟩ := hS41.agr hag52
  obtain ⟨y57, hy57, h⟩ := bind_in h
  have hm58 := Rep.mv hr13 (Tr.trans hT17 (Tr.trans hT22 (Tr.trans hT28 (Tr.trans hT36 (Tr.trans hT42 hT54)))))
  refine RD.callq (i := 11) (m' := 4095) (W := 12288) (takeC_ok kt43 (by kernel_rfl)) rfl kp44 (v := .int .i64 y57) (fst := []) (cap := []) (.yes rfl rfl) body176 rfl (evs_cons rfl (evs_cons rfl evs_nil)) (fun w9 hw9 => wide_Long_Cmp_c n _ w9 (hS53.hL0 hL hw9) y48 (Rep.keep0 (Rep.dropS hS53 hr56) hw9) y6 (Rep.keep0 (Rep.dropS hS53 hm58) hw9) hy57) rfl ?_
  refine RD.vP 12 8191 kt43 rfl kp44 (.yes rfl rfl) (fun _ => FV.neq (i := y57) (j := 0) rfl rfl) rfl ?_
  refine RD.vw 13 16383 kt43 rfl kp44 (fun _ => FV.pick_f rfl rfl) rfl ?_
  refine RD.done (doneD_ok kt43 (by kernel_rfl)) ?_
  refine MX.ifn rfl h (fun c59 h => ?_) (fun c59 h => ?_)
  ·skip
   refine MX.skip ?_
   refine MX.sr ?_
   refine RG.sg rfl rfl ?_
   refine RG.nil ?_
   refine MX.ret rfl ?_
   refine RT.leave hb0 Tryz.func163 rfl (.cons (.tmp rfl) .nil) rfl ?_
   obtain rfl := Option.some.inj h
   exact ⟨hS53.ag, fun w9 hw9 => rfl⟩
  refine MX.sr ?_
  refine RG.sg rfl rfl ?_
  refine RG.nil ?_
  refine MX.ret rfl ?_
  refine RT.leave hb0 Tryz.func163 rfl (.cons (.tmp rfl) .nil) rfl ?_
  obtain rfl := Option.some.inj h
  exact ⟨hS53.ag, fun w9 hw9 => rfl⟩
theorem body163 : bodyB Tryz.prog 163 = true := by kernel_rfl
def share_valid_1_p (n : Nat) (a0 : TShare) : Option Bool :=
  (share_Check_p n a0).bind fun y6 => some (decide (y6 = 0))
set_option maxRecDepth 4000 in
set_option maxHeartbeats 4000000 in
theorem share_valid_1_c (n : Nat) (L : List Nat) (w : World) (hL : ∀ b ∈ L, b < w.heap.size) (a0 : TShare)  {r : Bool} (h : share_valid_1_p n a0 = some r) :
    Calls Tryz.prog 162 #[.agg ((cs_TShare a0)).toArray] w (Gives w fun _ u => u = .bool r) := by
  unfold share_valid_1_p at h
  have hS0 := St.start w
  refine MX.start Tryz.func162 rfl rfl rfl (fun _ cs0 hb0 => ?_)
  refine MX.sr ?_
  refine RG.new .plain rfl (Does.box (vs := (cs_TShare a0)) hS0 rfl rfl) (fun w2 b5 hS3 hT4 => ?_)
  refine RG.sg rfl rfl ?_
  refine RG.nil ?_
  refine MX.sr ?_
  refine RG.vv (FV.loadN (by kernel_rfl) rfl (hS3.memA .hd)) rfl ?_
  obtain ⟨y6, hy6, h⟩ := bind_in h
  refine RG.cq (.int .i64 y6) body163 rfl (evs_cons rfl evs_nil) (fun w9 hw9 => share_Check_c n _ w9 (hS3.hL0 hL hw9) a0 hy6) rfl ?_
  refine RG.vv (FV.eql (i := y6) (j := 0) rfl rfl) rfl ?_
  refine RG.sg rfl rfl ?_
  refine RG.nil ?_
  refine MX.ret rfl ?_
  refine RT.leave hb0 Tryz.func162 rfl (.cons (.tmp rfl) .nil) rfl ?_
  obtain rfl := Option.some.inj h
  exact ⟨hS3.ag, fun w9 hw9 => rfl⟩
theorem op_A34 {w : World} {L : List Nat} {cs : List Value} {x : UInt64 × UInt64 × UInt64 × UInt64 × UInt64 × UInt64 × UInt64 × UInt64} (h : Rep.R w L cs x) : cs = [.int .u64 (x.1.toNat : Int), .int .u64 (x.2.1.toNat : Int), .int .u64 (x.2.2.1.toNat : Int), .int .u64 (x.2.2.2.1.toNat : Int), .int .u64 (x.2.2.2.2.1.toNat : Int), .int .u64 (x.2.2.2.2.2.1.toNat : Int), .int .u64 (x.2.2.2.2.2.2.1.toNat : Int), .int .u64 (x.2.2.2.2.2.2.2.toNat : Int)] := by
  obtain ⟨c0, r0, rfl, h0, h⟩ := h
  have e0 : c0 = [.int .u64 (x.1.toNat : Int)] := h0; subst e0
  obtain ⟨c1, r1, rfl, h1, h⟩ := h
  have e1 : c1 = [.int .u64 (x.2.1.toNat : Int)] := h1; subst e1
  obtain ⟨c2, r2, rfl, h2, h⟩ := h
  have e2 : c2 = [.int .u64 (x.2.2.1.toNat : Int)] := h2; subst e2
  obtain ⟨c3, r3, rfl, h3, h⟩ := h
  have e3 : c3 = [.int .u64 (x.2.2.2.1.toNat : Int)] := h3; subst e3
  obtain ⟨c4, r4, rfl, h4, h⟩ := h
  have e4 : c4 = [.int .u64 (x.2.2.2.2.1.toNat : Int)] := h4; subst e4
  obtain ⟨c5, r5, rfl, h5, h⟩ := h
  have e5 : c5 = [.int .u64 (x.2.2.2.2.2.1.toNat : Int)] := h5; subst e5
  obtain ⟨c6, r6, rfl, h6, h⟩ := h
  have e6 : c6 = [.int .u64 (x.2.2.2.2.2.2.1.toNat : Int)] := h6; subst e6
  have e7 : r6 = [.int .u64 (x.2.2.2.2.2.2.2.toNat : Int)] := h; subst e7
  rfl
theorem mk_A34 {w : World} {L : List Nat} (a0 : UInt64) (a1 : UInt64) (a2 : UInt64) (a3 : UInt64) (a4 : UInt64) (a5 : UInt64) (a6 : UInt64) (a7 : UInt64) : Rep.R w L [.int .u64 (a0.toNat : Int), .int .u64 (a1.toNat : Int), .int .u64 (a2.toNat : Int), .int .u64 (a3.toNat : Int), .int .u64 (a4.toNat : Int), .int .u64 (a5.toNat : Int), .int .u64 (a6.toNat : Int), .int .u64 (a7.toNat : Int)] ((a0, a1, a2, a3, a4, a5, a6, a7) : UInt64 × UInt64 × UInt64 × UInt64 × UInt64 × UInt64 × UInt64 × UInt64) := ⟨[.int .u64 (a0.toNat : Int)], [.int .u64 (a1.toNat : Int), .int .u64 (a2.toNat : Int), .int .u64 (a3.toNat : Int), .int .u64 (a4.toNat : Int), .int .u64 (a5.toNat : Int), .int .u64 (a6.toNat : Int), .int .u64 (a7.toNat : Int)], rfl, rfl, ⟨[.int .u64 (a1.toNat : Int)], [.int .u64 (a2.toNat : Int), .int .u64 (a3.toNat : Int), .int .u64 (a4.toNat : Int), .int .u64 (a5.toNat : Int), .int .u64 (a6.toNat : Int), .int .u64 (a7.toNat : Int)], rfl, rfl, ⟨[.int .u64 (a2.toNat : Int)], [.int .u64 (a3.toNat : Int), .int .u64 (a4.toNat : Int), .int .u64 (a5.toNat : Int), .int .u64 (a6.toNat : Int), .int .u64 (a7.toNat : Int)], rfl, rfl, ⟨[.int .u64 (a3.toNat : Int)], [.int .u64 (a4.toNat : Int), .int .u64 (a5.toNat : Int), .int .u64 (a6.toNat : Int), .int .u64 (a7.toNat : Int)], rfl, rfl, ⟨[.int .u64 (a4.toNat : Int)], [.int .u64 (a5.toNat : Int), .int .u64 (a6.toNat : Int), .int .u64 (a7.toNat : Int)], rfl, rfl, ⟨[.int .u64 (a5.toNat : Int)], [.int .u64 (a6.toNat : Int), .int .u64 (a7.toNat : Int)], rfl, rfl, ⟨[.int .u64 (a6.toNat : Int)], [.int .u64 (a7.toNat : Int)], rfl, rfl, rfl⟩⟩⟩⟩⟩⟩⟩
theorem op_TShare {w : World} {L : List Nat} {cs : List Value} {x : TShare} (h : Rep.R w L cs x) : cs = [.int .u64 (x.fN.1.toNat : Int), .int .u64 (x.fN.2.1.toNat : Int), .int .u64 (x.fN.2.2.1.toNat : Int), .int .u64 (x.fN.2.2.2.1.toNat : Int), .int .u64 (x.fN.2.2.2.2.1.toNat : Int), .int .u64 (x.fN.2.2.2.2.2.1.toNat : Int), .int .u64 (x.fN.2.2.2.2.2.2.1.toNat : Int), .int .u64 (x.fN.2.2.2.2.2.2.2.toNat : Int), .int .u64 (x.fD.1.toNat : Int), .int .u64 (x.fD.2.1.toNat : Int), .int .u64 (x.fD.2.2.1.toNat : Int), .int .u64 (x.fD.2.2.2.1.toNat : Int), .int .u64 (x.fD.2.2.2.2.1.toNat : Int), .int .u64 (x.fD.2.2.2.2.2.1.toNat : Int), .int .u64 (x.fD.2.2.2.2.2.2.1.toNat : Int), .int .u64 (x.fD.2.2.2.2.2.2.2.toNat : Int)] := by
  obtain ⟨c0, r0, rfl, h0, h⟩ := h
  obtain rfl := op_A34 (x := x.fN) h0
  obtain rfl := op_A34 (x := x.fD) h
  rfl
theorem mk_TShare {w : World} {L : List Nat} (a0 : UInt64 × UInt64 × UInt64 × UInt64 × UInt64 × UInt64 × UInt64 × UInt64) (a1 : UInt64 × UInt64 × UInt64 × UInt64 × UInt64 × UInt64 × UInt64 × UInt64) : Rep.R w L [.int .u64 (a0.1.toNat : Int), .int .u64 (a0.2.1.toNat : Int), .int .u64 (a0.2.2.1.toNat : Int), .int .u64 (a0.2.2.2.1.toNat : Int), .int .u64 (a0.2.2.2.2.1.toNat : Int), .int .u64 (a0.2.2.2.2.2.1.toNat : Int), .int .u64 (a0.2.2.2.2.2.2.1.toNat : Int), .int .u64 (a0.2.2.2.2.2.2.2.toNat : Int), .int .u64 (a1.1.toNat : Int), .int .u64 (a1.2.1.toNat : Int), .int .u64 (a1.2.2.1.toNat : Int), .int .u64 (a1.2.2.2.1.toNat : Int), .int .u64 (a1.2.2.2.2.1.toNat : Int), .int .u64 (a1.2.2.2.2.2.1.toNat : Int), .int .u64 (a1.2.2.2.2.2.2.1.toNat : Int), .int .u64 (a1.2.2.2.2.2.2.2.toNat : Int)] (⟨a0, a1⟩ : TShare) := ⟨[.int .u64 (a0.1.toNat : Int), .int .u64 (a0.2.1.toNat : Int), .int .u64 (a0.2.2.1.toNat : Int), .int .u64 (a0.2.2.2.1.toNat : Int), .int .u64 (a0.2.2.2.2.1.toNat : Int), .int .u64 (a0.2.2.2.2.2.1.toNat : Int), .int .u64 (a0.2.2.2.2.2.2.1.toNat : Int), .int .u64 (a0.2.2.2.2.2.2.2.toNat : Int)], [.int .u64 (a1.1.toNat : Int), .int .u64 (a1.2.1.toNat : Int), .int .u64 (a1.2.2.1.toNat : Int), .int .u64 (a1.2.2.2.1.toNat : Int), .int .u64 (a1.2.2.2.2.1.toNat : Int), .int .u64 (a1.2.2.2.2.2.1.toNat : Int), .int .u64 (a1.2.2.2.2.2.2.1.toNat : Int), .int .u64 (a1.2.2.2.2.2.2.2.toNat : Int)], rfl, mk_A34 a0.1 a0.2.1 a0.2.2.1 a0.2.2.2.1 a0.2.2.2.2.1 a0.2.2.2.2.2.1 a0.2.2.2.2.2.2.1 a0.2.2.2.2.2.2.2, mk_A34 a1.1 a1.2.1 a1.2.2.1 a1.2.2.2.1 a1.2.2.2.2.1 a1.2.2.2.2.2.1 a1.2.2.2.2.2.2.1 a1.2.2.2.2.2.2.2⟩
theorem body162 : bodyB Tryz.prog 162 = true := by kernel_rfl
theorem body164 : bodyB Tryz.prog 164 = true := by kernel_rfl
def share_valid_l1 (n : Nat) (a0 : List TShare) (J37 : Nat → Option (Bool ⊕ Unit)) : Nat → Option (Bool ⊕ Unit)
  | i29 => (if i29 < a0.length then (a0[i29]?).bind fun x40 => (share_valid_1_p n x40).bind fun y57 => (if y57 = true then J37 (i29 + 1) else some (.inl false)) else some (.inr ()))
def share_valid_p (n : Nat) (a0 : List TShare) : Option Bool :=
  thn (loopF (share_valid_l1 n a0) n 0) (fun _ => some true)
set_option maxRecDepth 4000 in
set_option maxHeartbeats 4000000 in
theorem share_valid_c (n : Nat) (L : List Nat) (w : World) (hL : ∀ b ∈ L, b < w.heap.size) (a0 : List TShare) {v0_0 : Value} (h0_0 : Rep.R w L [v0_0] a0)  {r : Bool} (h : share_valid_p n a0 = some r) :
    Calls Tryz.prog 125 #[v0_0] w (Gives w fun _ u => u = .bool r) := by
  unfold share_valid_p at h
  have hS0 := St.start w
  refine MX.start Tryz.func125 rfl rfl rfl (fun _ cs0 hb0 => ?_)
  refine MX.sr ?_
  refine RG.sg rfl rfl ?_
  refine RG.nil ?_
  refine MX.sr ?_
  refine RG.sg rfl rfl ?_
  refine RG.nil ?_
  refine MX.sr ?_
  refine RG.mv rfl rfl ?_
  refine RG.mv rfl rfl ?_
  refine RG.enterP (fst := []) (cap := []) (vs := [.func (.func 162) #[] #[], v0_0]) .plain body164 Tryz.func164 rfl rfl rfl rfl (evs_cons rfl (evs_cons rfl evs_nil)) rfl (fun cs2 hb1 hp3 => ?_)
  refine MX.sr ?_
  refine RG.sg rfl rfl ?_
  refine RG.nil ?_
  refine MX.seq ?_
  refine MX.sr ?_
  refine RG.mv rfl rfl ?_
  have hl4 : a0.length ≤ 281474976710656 := Rep.lenle h0_0
  refine RG.vv (FV.len (xs := a0) Tryz.underlying68 rfl h0_0) rfl ?_
  refine RG.mv rfl rfl ?_
  refine RG.nil ?_
  refine MX.block ?_
  obtain ⟨o35, ho34, hh36⟩ := thn_in h
  refine MX.loop (α := Nat) (fun i29 => [(0, .func (.func 162) #[] #[]), (7, v0_0), (8, .int .i64 ((a0.length : Nat) : Int)), (9, .int .i64 ((i29 : Nat) : Int))]) (fun i29 wx29 => St w wx29 [] ∧ Tr w [] wx29 []) (fun i29 => i29) 0 ho34 ⟨rfl, rfl, rfl, rfl, trivial⟩ ⟨hS0, Tr.refl _ _⟩ ?_
  rintro J37 i29 wx29 hJ38 ⟨hS30, hT31⟩ h
  unfold share_valid_l1 at h
  try dsimp only at h
  refine MX.sr ?_
  refine RG.vv (FV.lssN (i := i29) (j := a0.length) rfl rfl) rfl ?_
  refine RG.nil ?_
  refine MX.seq ?_
  refine MX.ifd rfl h (fun c39 h => ?_) (fun c39 h => ?_)
  ·skip
   refine MX.skip ?_
   refine MX.seq ?_
   refine MX.block ?_
   refine MX.sr ?_
   obtain ⟨x40, hx40, h⟩ := bind_in h
   have hm48 := Rep.mv h0_0 hT31
   obtain ⟨A41, c42, he43, hk44, cs45, hr46, hm47⟩ := Rep.nth hm48 hx40
   obtain rfl := op_TShare hr46
   refine RG.vv (FV.idxAddr (m := 16) (i := i29) (by kernel_rfl) rfl he43 rfl rfl hk44) rfl ?_
   refine RG.vv (FV.loadN (by kernel_rfl) rfl hm47) rfl ?_
   refine RG.new .plain rfl (Does.alloc (zs := [.int .u64 0, .int .u64 0, .int .u64 0, .int .u64 0, .int .u64 0, .int .u64 0, .int .u64 0, .int .u64 0, .int .u64 0, .int .u64 0, .int .u64 0, .int .u64 0, .int .u64 0, .int .u64 0, .int .u64 0, .int .u64 0]) hS30 (zB (by kernel_rfl))) (fun w50 b53 hS51 hT52 => ?_)
   refine RG.now .plain (Acts.storeAll (news := (cs_TShare x40)) hS51 .hd rfl rfl rfl rfl rfl rfl (onesB rfl)) (fun w54 hS55 hT56 => ?_)
   refine RG.nil ?_
   refine MX.sr ?_
   refine RG.mv rfl rfl ?_
   refine RG.vv (FV.loadN (by kernel_rfl) rfl (hS55.memA .hd)) rfl ?_
   obtain ⟨y57, hy57, h⟩ := bind_in h
   refine RG.cq (.bool y57) body162 rfl (evs_cons rfl evs_nil) (fun w9 hw9 => share_valid_1_c n _ w9 (hS55.hL0 hL hw9) x40 hy57) rfl ?_
   refine RG.vv (FV.not rfl) rfl ?_
   refine RG.nil ?_
   refine MX.ifnb rfl h (fun c58 h => ?_) (fun c58 h => ?_)
   ·skip
    refine MX.skip ?_
    refine MX.inBlock ?_
    refine MX.region ?_
    refine RG.vv (FV.addN (i := i29) (j := 1) rfl rfl (by omega)) rfl ?_
    refine RG.mv rfl rfl ?_
    refine RG.nil ?_
    obtain ⟨hS59, hT60⟩ := St.arrB hS55 .done
    exact hJ38 (i29 + 1) _ _ ⟨rfl, rfl, rfl, rfl, trivial⟩ ⟨hS59, (Tr.trans hT31 (Tr.trans hT52 (Tr.trans hT56 hT60)))⟩ h
   refine MX.sr ?_
   refine RG.sg rfl rfl ?_
   refine RG.nil ?_
   have h := thn_inl h hh36
   refine MX.ret rfl ?_
   refine RT.leave (u := .bool false) hb1 Tryz.func164 rfl (.cons (.tmp rfl) .nil) rfl ?_
   refine RG.sg rfl rfl ?_
   refine RG.nil ?_
   refine MX.ret rfl ?_
   refine RT.leave hb0 Tryz.func125 rfl (.cons (.tmp rfl) .nil) rfl ?_
   obtain rfl := Option.some.inj h
   exact ⟨hS55.ag, fun w9 hw9 => rfl⟩
  refine MX.exit rfl ?_
  have h := thn_inr h hh36
  try dsimp only at h
  refine MX.sr ?_
  refine RG.sg rfl rfl ?_
  refine RG.nil ?_
  refine MX.ret rfl ?_
  refine RT.leave (u := .bool true) hb1 Tryz.func164 rfl (.cons (.tmp rfl) .nil) rfl ?_
  refine RG.sg rfl rfl ?_
  refine RG.nil ?_
  refine MX.ret rfl ?_
  refine RT.leave hb0 Tryz.func125 rfl (.cons (.tmp rfl) .nil) rfl ?_
  obtain rfl := Option.some.inj h
  exact ⟨hS30.ag, fun w9 hw9 => rfl⟩
def tb168_2 : List (Nat × Nat × Nat) := [(0, 262144, 4), (1, 524288, 262144), (0, 1048576, 8), (4, 2097152, 1048576), (10, 4194304, 2621440), (0, 8388608, 64), (48, 16777216, 12582912), (0, 33554432, 4), (128, 67108864, 33554432), (0, 134217728, 128), (832, 268435456, 201326592), (1151, 0, 16777232), (4095, 0, 268435488)]
def tb168_8 : List (Nat × Nat × Nat) := [(0, 35184372088832, 16), (0, 70368744177664, 32), (1, 0, 35184372088848), (7, 0, 70368744177696)]
def wide_Long_Parts_p (n : Nat) (a0 : TLong) (a1 : TLong) : Option (TLong × TLong) :=
  (wide_divided_p n a0.fWords a1.fWords).bind fun y21 => (wide_trimmed_p n (!(a0.fBelow == a1.fBelow)) y21.1).bind fun y35 => (wide_trimmed_p n a0.fBelow y21.2).bind fun y43 => (if y43.fBelow = true then (wide_Long_Plus_p n y43 (⟨false, a1.fWords⟩ : TLong)).bind fun y74 => (wide_Long_Plus_p n y35 (⟨(!a1.fBelow), ([(1 : UInt64)] : List UInt64)⟩ : TLong)).bind fun y101 => some (y101, y74) else some (y35, y43))
set_option maxRecDepth 4000 in
set_option maxHeartbeats 4000000 in
theorem wide_Long_Parts_c (n : Nat) (L : List Nat) (w : World) (hL : ∀ b ∈ L, b < w.heap.size) (a0 : TLong) {v0_1 : Value} (h0_1 : Rep.R w L [v0_1] a0.fWords) (a1 : TLong) {v1_1 : Value} (h1_1 : Rep.R w L [v1_1] a1.fWords)  {r : TLong × TLong} (h : wide_Long_Parts_p n a0 a1 = some r) :
    Calls Tryz.prog 168 #[.agg #[.bool a0.fBelow, v0_1], .agg #[.bool a1.fBelow, v1_1]] w (Gives w fun w' u => ∃ v0_1 v1_1 : Value, u = .tuple #[.agg #[.bool r.1.fBelow, v0_1], .agg #[.bool r.2.fBelow, v1_1]] ∧ Rep.R w' L [v0_1] r.1.fWords ∧ Rep.R w' L [v1_1] r.2.fWords) := by
  unfold wide_Long_Parts_p at h
  have hS0 := St.start w
  refine MX.start Tryz.func168 rfl rfl rfl (fun _ cs0 hb0 => ?_)
  refine MX.sr ?_
  refine RG.new .plain rfl (Does.box (vs := [.bool a0.fBelow, v0_1]) hS0 rfl rfl) (fun w2 b5 hS3 hT4 => ?_)
  refine RG.new .plain rfl (Does.box (vs := [.bool a1.fBelow, v1_1]) hS3 rfl rfl) (fun w7 b10 hS8 hT9 => ?_)
  refine RG.new .plain rfl (Does.alloc (zs := [.bool false, .slice none 0 0]) hS8 (zB (by kernel_rfl))) (fun w12 b15 hS13 hT14 => ?_)
  refine RG.new .plain rfl (Does.alloc (zs := [.bool false, .slice none 0 0]) hS13 (zB (by kernel_rfl))) (fun w17 b20 hS18 hT19 => ?_)
  refine RG.nil ?_
  refine MX.sr ?_
  refine RG.vv (FV.fieldAddr (off := 1) (by kernel_rfl) rfl) rfl ?_
  refine RG.vv (FV.load1 (by kernel_rfl) rfl ((hS18.memA (.tl (.tl (.tl .hd)))) 1 _ rfl)) rfl ?_
  refine RG.vv (FV.fieldAddr (off := 1) (by kernel_rfl) rfl) rfl ?_
  refine RG.vv (FV.load1 (by kernel_rfl) rfl ((hS18.memA (.tl (.tl .hd))) 1 _ rfl)) rfl ?_
  obtain ⟨y21, hy21, h⟩ := bind_in h
  have hm22 := Rep.mv h0_1 (Tr.trans hT4 (Tr.trans hT9 (Tr.trans hT14 hT19)))
  have hm23 := Rep.mv h1_1 (Tr.trans hT4 (Tr.trans hT9 (Tr.trans hT14 hT19)))
  refine RG.call' (fst := []) (cap := []) .plain body194 rfl (evs_cons rfl (evs_cons rfl evs_nil)) (fun w9 hw9 => wide_divided_c n _ w9 (hS18.hL hL hw9) a0.fWords (Rep.keep0 hm22 hw9) a1.fWords (Rep.keep0 hm23 hw9) hy21) rfl (fun w24 vu25 hag26 ⟨v29, v30, hu_, hr31, hr32⟩ => ?_)
  subst hu_
  obtain ⟨hS27, hT28⟩ := hS18.agr hag26
  refine RG.mv rfl rfl ?_
  refine RG.vv (FV.extract rfl rfl) rfl ?_
  refine RG.vv (FV.extract rfl rfl) rfl ?_
  refine RG.sg rfl rfl ?_
  refine RG.sg rfl rfl ?_
  refine RG.nil ?_
  refine MX.seq ?_
  refine MX.drawT 11 tb168_2 (by kernel_rfl) (by kernel_rfl) (by kernel_rfl) (fun kt33 kp34 => ?_)
  refine RD.vw 0 1 kt33 rfl kp34 (fun _ => FV.fieldAddr (off := 0) (by kernel_rfl) rfl) rfl ?_
  refine RD.vx 1 3 7248 kt33 rfl kp34 (FV.load1 (by kernel_rfl) rfl ((hS27.memA (.tl (.tl (.tl .hd)))) 0 _ rfl)) rfl ?_
  refine RD.vw 2 7 kt33 rfl kp34 (fun _ => FV.fieldAddr (off := 0) (by kernel_rfl) rfl) rfl ?_
  refine RD.vx 3 15 7248 kt33 rfl kp34 (FV.load1 (by kernel_rfl) rfl ((hS27.memA (.tl (.tl .hd))) 0 _ rfl)) rfl ?_
  refine RD.vw 4 31 kt33 rfl kp34 (fun _ => FV.neqB (a := a0.fBelow) (b := a1.fBelow) Tryz.underlying4 rfl rfl) rfl ?_
  refine RD.vw 5 63 kt33 rfl kp34 (fun _ => FV.move rfl) rfl ?_
  refine RD.vw 7 191 kt33 rfl kp34 (fun _ => FV.fieldAddr (off := 0) (by kernel_rfl) rfl) rfl ?_
  refine RD.vx 8 447 7168 kt33 rfl kp34 (FV.load1 (by kernel_rfl) rfl ((hS27.memA (.tl (.tl (.tl .hd)))) 0 _ rfl)) rfl ?_
  refine RD.vw 9 959 kt33 rfl kp34 (fun _ => FV.move rfl) rfl ?_
  obtain ⟨y35, hy35, h⟩ := bind_in h
  refine RD.cl 6 1023 kt33 rfl .plain body169 rfl (evs_cons rfl (evs_cons rfl evs_nil)) (fun w9 hw9 => wide_trimmed_c n _ w9 (hS27.hL hL hw9) (!(a0.fBelow == a1.fBelow)) y21.1 (Rep.keep0 hr31 hw9) hy35) rfl (fun w36 vu37 hag38 ⟨v41, hu_, hr42⟩ => ?_)
  subst hu_
  obtain ⟨hS39, hT40⟩ := hS27.agr hag38
  obtain ⟨y43, hy43, h⟩ := bind_in h
  have hm44 := Rep.mv hr32 hT40
  refine RD.cl 10 2047 kt33 rfl .plain body169 rfl (evs_cons rfl (evs_cons rfl evs_nil)) (fun w9 hw9 => wide_trimmed_c n _ w9 (hS39.hL hL hw9) a0.fBelow y21.2 (Rep.keep0 hm44 hw9) hy43) rfl (fun w45 vu46 hag47 ⟨v50, hu_, hr51⟩ => ?_)
  subst hu_
  obtain ⟨hS48, hT49⟩ := hS39.agr hag47
  have hm52 := Rep.mv hr42 hT49
  refine RD.nw 11 4095 kt33 rfl rfl .plain (Acts.storeAll (news := [.bool y35.fBelow, v41]) hS48 (.tl .hd) rfl rfl rfl rfl rfl rfl (ones_cons rfl (ones_cons (Rep.o1 hm52) ones_nil))) (fun w53 hS54 hT55 => ?_)
  have hm56 := Rep.mv hr51 hT55
  refine RD.nw 12 8191 kt33 rfl rfl .plain (Acts.storeAll (news := [.bool y43.fBelow, v50]) hS54 .hd rfl rfl rfl rfl rfl rfl (ones_cons rfl (ones_cons (Rep.o1 hm56) ones_nil))) (fun w57 hS58 hT59 => ?_)
  refine RD.done (doneD_ok kt33 (by kernel_rfl)) ?_
  refine MX.seq ?_
  refine MX.sr ?_
  refine RG.vv (FV.fieldAddr (off := 0) (by kernel_rfl) rfl) rfl ?_
  refine RG.vv (FV.load1 (by kernel_rfl) rfl ((hS58.memA .hd) 0 _ rfl)) rfl ?_
  refine RG.nil ?_
  refine MX.ifb rfl h (fun c60 h => ?_) (fun c60 h => ?_)
  ·skip
   refine MX.sr ?_
   refine RG.vv (FV.fieldAddr (off := 1) (by kernel_rfl) rfl) rfl ?_
   refine RG.vv (FV.load1 (by kernel_rfl) rfl ((hS58.memA (.tl (.tl .hd))) 1 _ rfl)) rfl ?_
   have hm64 := Rep.mv h1_1 (Tr.trans hT4 (Tr.trans hT9 (Tr.trans hT14 (Tr.trans hT19 (Tr.trans hT28 (Tr.trans hT40 (Tr.trans hT49 (Tr.trans hT55 hT59))))))))
   obtain ⟨A61, c62, hv63, _⟩ := Rep.sl hm64
   refine RG.vv (FV.buildV (vs := [v1_1]) (u := .agg #[.bool false, v1_1]) (evs_cons rfl evs_nil) (fun w9 => by rw [hv63]; try kernel_rfl)) rfl ?_
   refine RG.new .plain rfl (Does.alloc (zs := [.bool false, .slice none 0 0]) hS58 (zB (by kernel_rfl))) (fun w66 b69 hS67 hT68 => ?_)
   have hm70 := Rep.mv h1_1 (Tr.trans hT4 (Tr.trans hT9 (Tr.trans hT14 (Tr.trans hT19 (Tr.trans hT28 (Tr.trans hT40 (Tr.trans hT49 (Tr.trans hT55 (Tr.trans hT59 hT68)))))))))
   refine RG.now .plain (Acts.storeAll (news := [.bool false, v1_1]) hS67 .hd rfl rfl rfl rfl rfl rfl (ones_cons rfl (ones_cons (Rep.o1 hm70) ones_nil))) (fun w71 hS72 hT73 => ?_)
   refine RG.nil ?_
   refine MX.sr ?_
   refine RG.vv (FV.loadN (by kernel_rfl) rfl (hS72.memA (.tl .hd))) rfl ?_
   refine RG.vv (FV.loadN (by kernel_rfl) rfl (hS72.memA .hd)) rfl ?_
   obtain ⟨y74, hy74, h⟩ := bind_in h
   have hm75 := Rep.mv hr51 (Tr.trans hT55 (Tr.trans hT59 (Tr.trans hT68 hT73)))
   have hm76 := Rep.mv h1_1 (Tr.trans hT4 (Tr.trans hT9 (Tr.trans hT14 (Tr.trans hT19 (Tr.trans hT28 (Tr.trans hT40 (Tr.trans hT49 (Tr.trans hT55 (Tr.trans hT59 (Tr.trans hT68 hT73))))))))))
   refine RG.call' (fst := []) (cap := []) .plain body133 rfl (evs_cons rfl (evs_cons rfl evs_nil)) (fun w9 hw9 => wide_Long_Plus_c n _ w9 (hS72.hL hL hw9) y43 (Rep.keep0 hm75 hw9) (⟨false, a1.fWords⟩ : TLong) (Rep.keep0 hm76 hw9) hy74) rfl (fun w77 vu78 hag79 ⟨v82, hu_, hr83⟩ => ?_)
   subst hu_
   obtain ⟨hS80, hT81⟩ := hS72.agr hag79
   refine RG.now .plain (Acts.storeAll (news := [.bool y74.fBelow, v82]) hS80 (.tl .hd) rfl rfl rfl rfl rfl rfl (ones_cons rfl (ones_cons (Rep.o1 hr83) ones_nil))) (fun w84 hS85 hT86 => ?_)
   refine RG.nil ?_
   refine MX.sr ?_
   refine RG.vv (FV.fieldAddr (off := 0) (by kernel_rfl) rfl) rfl ?_
   refine RG.vv (FV.load1 (by kernel_rfl) rfl ((hS85.memA (.tl (.tl (.tl .hd)))) 0 _ rfl)) rfl ?_
   refine RG.vv (FV.not rfl) rfl ?_
   refine RG.new .plain rfl (Does.build (α := UInt64) (xs := ([(1 : UInt64)] : List UInt64)) (vs := [.int .u64 1]) (ds' := [.int .u64 1]) rfl hS85 el121 rfl (evs_cons rfl evs_nil) (by kernel_rfl) rfl) (fun w88 b91 hS89 hT90 => ?_)
   have hc92 := Cells.at_ (cs := [.int .u64 1]) (xs := (([(1 : UInt64)] : List UInt64) : List UInt64)) hS89 L (Cells.cons (cs := [.int .u64 1]) (ds := []) rfl (Cells.nil _ _))
   refine RG.vv (FV.buildV (vs := [.bool (!a1.fBelow), (.slice (some ⟨b91, 0, none⟩) 1 1)]) (u := .agg #[.bool (!a1.fBelow), (.slice (some ⟨b91, 0, none⟩) 1 1)]) (evs_cons rfl (evs_cons rfl evs_nil)) (fun w9 => by kernel_rfl)) rfl ?_
   refine RG.new .plain rfl (Does.alloc (zs := [.bool false, .slice none 0 0]) hS89 (zB (by kernel_rfl))) (fun w94 b97 hS95 hT96 => ?_)
   refine RG.now .plain (Acts.storeAll (news := [.bool (!a1.fBelow), (.slice (some ⟨b91, 0, none⟩) 1 1)]) hS95 .hd rfl rfl rfl rfl rfl rfl (ones_cons rfl (ones_cons (St.o1 (α := UInt64) hS95 (.tl .hd)) ones_nil))) (fun w98 hS99 hT100 => ?_)
   refine RG.nil ?_
   refine MX.region ?_
   refine RG.vv (FV.loadN (by kernel_rfl) rfl (hS99.memA (.tl (.tl (.tl (.tl .hd)))))) rfl ?_
   refine RG.vv (FV.loadN (by kernel_rfl) rfl (hS99.memA .hd)) rfl ?_
   have hm105 := Cells.mv hc92 (Tr.trans hT96 hT100)
   have hr102 := St.freeze (α := UInt64) hS99 (.tl .hd) hm105 hL
   have hS103 := St.delS hS99 (.tl .hd)
   have hT104 := St.delT hS99 (.tl .hd)
   have hr106 := Rep.at_ (α := UInt64) (v := (.slice (some ⟨b91, 0, none⟩) 1 1)) (xs := ([(1 : UInt64)] : List UInt64)) hS103 L hr102
   obtain ⟨y101, hy101, h⟩ := bind_in h
   have hm107 := Rep.mv hr42 (Tr.trans hT49 (Tr.trans hT55 (Tr.trans hT59 (Tr.trans hT68 (Tr.trans hT73 (Tr.trans hT81 (Tr.trans hT86 (Tr.trans hT90 (Tr.trans hT96 (Tr.trans hT100 hT104))))))))))
   refine RG.call' (fst := []) (cap := []) .plain body133 rfl (evs_cons rfl (evs_cons rfl evs_nil)) (fun w9 hw9 => wide_Long_Plus_c n _ w9 (hS103.hL hL hw9) y35 (Rep.keep0 hm107 hw9) (⟨(!a1.fBelow), ([(1 : UInt64)] : List UInt64)⟩ : TLong) (Rep.keep0 hr106 hw9) hy101) rfl (fun w108 vu109 hag110 ⟨v113, hu_, hr114⟩ => ?_)
   subst hu_
   obtain ⟨hS111, hT112⟩ := hS103.agr hag110
   refine RG.now .plain (Acts.storeAll (news := [.bool y101.fBelow, v113]) hS111 (.tl (.tl (.tl .hd))) rfl rfl rfl rfl rfl rfl (ones_cons rfl (ones_cons (Rep.o1 hr114) ones_nil))) (fun w115 hS116 hT117 => ?_)
   refine RG.nil ?_
   refine MX.seq ?_
   refine MX.drawT 2 tb168_8 (by kernel_rfl) (by kernel_rfl) (by kernel_rfl) (fun kt118 kp119 => ?_)
   refine RD.vx 0 1 12 kt118 rfl kp119 (FV.loadN (by kernel_rfl) rfl (hS116.memA (.tl (.tl (.tl .hd))))) rfl ?_
   refine RD.meet (α := Unit) (fun () => [(4, .pointer (some ⟨b15, 0, none⟩)), (5, .pointer (some ⟨b20, 0, none⟩)), (46, .agg #[.bool y74.fBelow, v82])]) (fun () wx1323 => St w wx1323 [.cells b20 [.bool y74.fBelow, v82] 123, .cells b15 [.bool y101.fBelow, v113] 123] ∧ Tr w115 [.cells b97 [.bool (!a1.fBelow), (.slice (some ⟨b91, 0, none⟩) 1 1)] 123, .cells b69 [.bool false, v1_1] 123, .cells b20 [.bool y74.fBelow, v82] 123, .cells b15 [.bool y101.fBelow, v113] 123, .cells b10 [.bool a1.fBelow, v1_1] 123, .cells b5 [.bool a0.fBelow, v0_1] 123] wx1323 [.cells b20 [.bool y74.fBelow, v82] 123, .cells b15 [.bool y101.fBelow, v113] 123]) 1 7 ?_ ?_
   ·skip
    rintro ⟨⟩ wx1323 ⟨hS1324, hT1325⟩
    try dsimp only
    have hm1327 := Rep.mv hr83 (Tr.trans hT86 (Tr.trans hT90 (Tr.trans hT96 (Tr.trans hT100 (Tr.trans hT104 (Tr.trans hT112 (Tr.trans hT117 hT1325)))))))
    refine RD.nw 3 15 kt118 rfl rfl .plain (Acts.storeAll (news := [.bool y74.fBelow, v82]) hS1324 .hd rfl rfl rfl rfl rfl rfl (ones_cons rfl (ones_cons (Rep.o1 hm1327) ones_nil))) (fun w1328 hS1329 hT1330 => ?_)
    refine RD.done (doneD_ok kt118 (by kernel_rfl)) ?_
    refine MX.ret rfl ?_
    refine RT.leave hb0 Tryz.func168 rfl (.cons (.many (cs := [.bool y101.fBelow, v113]) (by kernel_rfl) rfl (hS1329.memA (.tl .hd))) (.cons (.many (cs := [.bool y74.fBelow, v82]) (by kernel_rfl) rfl (hS1329.memA .hd)) .nil)) rfl ?_
    obtain rfl := Option.some.inj h
    have hm1331 := Rep.mv hr114 (Tr.trans hT117 (Tr.trans hT1325 hT1330))
    have hm1332 := Rep.mv hr83 (Tr.trans hT86 (Tr.trans hT90 (Tr.trans hT96 (Tr.trans hT100 (Tr.trans hT104 (Tr.trans hT112 (Tr.trans hT117 (Tr.trans hT1325 hT1330))))))))
    exact ⟨hS1329.ag, fun w9 hw9 => ⟨v113, v82, rfl, Rep.keep0 (Rep.dropS hS1329 hm1331) hw9, Rep.keep0 (Rep.dropS hS1329 hm1332) hw9⟩⟩
   ·skip
    intro hJ1333
    refine RD.each [1, 2] (readyD_ok kt118 (by kernel_rfl)) ⟨?_, ?_, trivial⟩
    ·skip
     refine RO.val (m' := 3) (stepC_ok kt118 (by kernel_rfl)) rfl .plain rfl (FV.loadN (by kernel_rfl) rfl (hS116.memA (.tl (.tl .hd)))) ?_
     have hm720 := Rep.mv hr114 hT117
     refine RD.nw 2 7 kt118 rfl rfl .plain (Acts.storeAll (news := [.bool y101.fBelow, v113]) hS116 (.tl (.tl (.tl .hd))) rfl rfl rfl rfl rfl rfl (ones_cons rfl (ones_cons (Rep.o1 hm720) ones_nil))) (fun w721 hS722 hT723 => ?_)
     obtain ⟨hS1334, hT1335⟩ := St.arrB hS722 (.one (.tl (.tl .hd)) (.one (.tl (.tl .hd)) .done))
     exact hJ1333 () _ _ ⟨rfl, rfl, rfl, trivial⟩ ⟨hS1334, (Tr.trans hT723 hT1335)⟩
    ·skip
     have hm720 := Rep.mv hr114 hT117
     refine RO.now (m' := 5) (stepC_ok kt118 (by kernel_rfl)) rfl rfl .plain (Acts.storeAll (news := [.bool y101.fBelow, v113]) hS116 (.tl (.tl (.tl .hd))) rfl rfl rfl rfl rfl rfl (ones_cons rfl (ones_cons (Rep.o1 hm720) ones_nil))) (fun w721 hS722 hT723 => ?_)
     refine RD.vx 1 7 8 kt118 rfl kp119 (FV.loadN (by kernel_rfl) rfl (hS722.memA (.tl (.tl .hd)))) rfl ?_
     obtain ⟨hS1336, hT1337⟩ := St.arrB hS722 (.one (.tl (.tl .hd)) (.one (.tl (.tl .hd)) .done))
     exact hJ1333 () _ _ ⟨rfl, rfl, rfl, trivial⟩ ⟨hS1336, (Tr.trans hT723 hT1337)⟩
  refine MX.skip ?_
  refine MX.seq ?_
  refine MX.drawT 2 tb168_8 (by kernel_rfl) (by kernel_rfl) (by kernel_rfl) (fun kt1338 kp1339 => ?_)
  refine RD.vx 0 1 12 kt1338 rfl kp1339 (FV.loadN (by kernel_rfl) rfl (hS58.memA (.tl .hd))) rfl ?_
  refine RD.meet (α := Unit) (fun () => [(4, .pointer (some ⟨b15, 0, none⟩)), (5, .pointer (some ⟨b20, 0, none⟩)), (46, .agg #[.bool y43.fBelow, v50])]) (fun () wx2543 => St w wx2543 [.cells b20 [.bool y43.fBelow, v50] 123, .cells b15 [.bool y35.fBelow, v41] 123] ∧ Tr w57 [.cells b20 [.bool y43.fBelow, v50] 123, .cells b15 [.bool y35.fBelow, v41] 123, .cells b10 [.bool a1.fBelow, v1_1] 123, .cells b5 [.bool a0.fBelow, v0_1] 123] wx2543 [.cells b20 [.bool y43.fBelow, v50] 123, .cells b15 [.bool y35.fBelow, v41] 123]) 1 7 ?_ ?_
  ·skip
   rintro ⟨⟩ wx2543 ⟨hS2544, hT2545⟩
   try dsimp only
   have hm2547 := Rep.mv hr51 (Tr.trans hT55 (Tr.trans hT59 hT2545))
   refine RD.nw 3 15 kt1338 rfl rfl .plain (Acts.storeAll (news := [.bool y43.fBelow, v50]) hS2544 .hd rfl rfl rfl rfl rfl rfl (ones_cons rfl (ones_cons (Rep.o1 hm2547) ones_nil))) (fun w2548 hS2549 hT2550 => ?_)
   refine RD.done (doneD_ok kt1338 (by kernel_rfl)) ?_
   refine MX.ret rfl ?_
   refine RT.leave hb0 Tryz.func168 rfl (.cons (.many (cs := [.bool y35.fBelow, v41]) (by kernel_rfl) rfl (hS2549.memA (.tl .hd))) (.cons (.many (cs := [.bool y43.fBelow, v50]) (by kernel_rfl) rfl (hS2549.memA .hd)) .nil)) rfl ?_
   obtain rfl := Option.some.inj h
   have hm2551 := Rep.mv hr42 (Tr.trans hT49 (Tr.trans hT55 (Tr.trans hT59 (Tr.trans hT2545 hT2550))))
   have hm2552 := Rep.mv hr51 (Tr.trans hT55 (Tr.trans hT59 (Tr.trans hT2545 hT2550)))
   exact ⟨hS2549.ag, fun w9 hw9 => ⟨v41, v50, rfl, Rep.keep0 (Rep.dropS hS2549 hm2551) hw9, Rep.keep0 (Rep.dropS hS2549 hm2552) hw9⟩⟩
  ·skip
   intro hJ2553
   refine RD.each [1, 2] (readyD_ok kt1338 (by kernel_rfl)) ⟨?_, ?_, trivial⟩
   ·skip
    refine RO.val (m' := 3) (stepC_ok kt1338 (by kernel_rfl)) rfl .plain rfl (FV.loadN (by kernel_rfl) rfl (hS58.memA .hd)) ?_
    have hm1940 := Rep.mv hr42 (Tr.trans hT49 (Tr.trans hT55 hT59))
    refine RD.nw 2 7 kt1338 rfl rfl .plain (Acts.storeAll (news := [.bool y35.fBelow, v41]) hS58 (.tl .hd) rfl rfl rfl rfl rfl rfl (ones_cons rfl (ones_cons (Rep.o1 hm1940) ones_nil))) (fun w1941 hS1942 hT1943 => ?_)
    obtain ⟨hS2554, hT2555⟩ := St.arrB hS1942 (.one .hd (.one .hd .done))
    exact hJ2553 () _ _ ⟨rfl, rfl, rfl, trivial⟩ ⟨hS2554, (Tr.trans hT1943 hT2555)⟩
   ·skip
    have hm1940 := Rep.mv hr42 (Tr.trans hT49 (Tr.trans hT55 hT59))
    refine RO.now (m' := 5) (stepC_ok kt1338 (by kernel_rfl)) rfl rfl .plain (Acts.storeAll (news := [.bool y35.fBelow, v41]) hS58 (.tl .hd) rfl rfl rfl rfl rfl rfl (ones_cons rfl (ones_cons (Rep.o1 hm1940) ones_nil))) (fun w1941 hS1942 hT1943 => ?_)
    refine RD.vx 1 7 8 kt1338 rfl kp1339 (FV.loadN (by kernel_rfl) rfl (hS1942.memA .hd)) rfl ?_
    obtain ⟨hS2556, hT2557⟩ := St.arrB hS1942 (.one .hd (.one .hd .done))
    exact hJ2553 () _ _ ⟨rfl, rfl, rfl, trivial⟩ ⟨hS2556, (Tr.trans hT1943 hT2557)⟩
end Go.Proofs.YtmhgoecnjleagaaGreatDoor
