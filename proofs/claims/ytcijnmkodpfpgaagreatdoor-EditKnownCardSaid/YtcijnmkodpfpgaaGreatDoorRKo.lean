/- EditKnown: the long session, two changes at a time. -/
import Derived.Test.YtcijnmkodpfpgaaGreatDoorRK6
namespace Go.Proofs.YtcijnmkodpfpgaaGreatDoor
open Go Go.RowKit
def Y3 : TGraph × TRoll := ((⟨(4 : Int), ([((0 : Int), (1 : Int)), ((1 : Int), (2 : Int)), ((2 : Int), (3 : Int))] : List (Int × Int))⟩ : TGraph), (⟨(0 : Int), (0 : Int), (0 : Int), [(⟨⟨#[97]⟩, (10 : Int), ([] : List Int), ([] : List Int), ([] : List Int), false⟩ : TUnit), (⟨⟨#[98]⟩, (20 : Int), ([] : List Int), ([] : List Int), ([] : List Int), false⟩ : TUnit), (⟨⟨#[99]⟩, (30 : Int), ([] : List Int), ([] : List Int), ([] : List Int), false⟩ : TUnit), (⟨⟨#[100]⟩, (40 : Int), ([] : List Int), ([] : List Int), ([] : List Int), false⟩ : TUnit)]⟩ : TRoll))
def two : List TMove := [⟨1, 0, 1⟩, ⟨1, 1, 0⟩]
def mvs : Nat → List TMove
  | 0 => []
  | n + 1 => two ++ mvs n
def St9 (n : Nat) : Bool × Nat × Int × (List Int) × (List Int) × (List TMove) × (List TMove) := (true, n + n, 2, [0, 0, 1, 1], [30, 70], mvs n, [])
theorem kex : wardmotelaw26_example_p 3000 = some Y3 := by kernel_rfl
theorem kst : (edit_Start_p 3000 Y3.1 Y3.2 ([(0 : Int), (0 : Int), (1 : Int), (1 : Int)] : List Int) (2 : Int)) = some (⟨2, [0, 0, 1, 1], [30, 70], [], []⟩, 0) := by kernel_rfl
abbrev LB : (Bool × Nat × Int × (List Int) × (List Int) × (List TMove) × (List TMove) → Option ((List TMove) × Int × (List Int) × (List Int) × (List TMove) × Bool)) → Bool × Nat × Int × (List Int) × (List Int) × (List TMove) × (List TMove) → Option ((List TMove) × Int × (List Int) × (List Int) × (List TMove) × Bool) := wardmotelaw26_EditKnown_l2 3000 Y3
theorem lp2 (k : Nat) (s) : loopF LB (k + 2) s = LB (LB (loopF LB k)) s := rfl
theorem lend : loopF LB 2800 (St9 100) = some (mvs 100, 2, [0, 0, 1, 1], [30, 70], [], true) := by kernel_rfl
theorem kw : wardmotelaw26_works_p 3000 = some true := by kernel_rfl
end Go.Proofs.YtcijnmkodpfpgaaGreatDoor
