/- Plain laws: the examples, lists that equal themselves. No program in sight but the printed functions. -/
import Derived.Test.YtplkfbljncfdnaaDoorKLp
namespace Go.Proofs.YtplkfbljncfdnaaDoor
open Go

theorem works_true : wardmotelaw31_works_p 20000 = some true := by kernel_rfl
theorem ifT {α : Type} (x y : α) : (if True then x else y) = x := if_pos trivial
/-- A list equals itself. -/
theorem equal_self (n : Nat) (l : List Int) (h : l.length < n) : slices_Equal_int_int_p n l l = some true := by
  unfold slices_Equal_int_int_p
  rw [if_pos rfl]
  obtain ⟨r, h1, h2⟩ := loop_ok (B := slices_Equal_int_int_l1 n l l) (fun i => l.length - i) (fun i => i ≤ l.length) (fun r => r = .inr ()) (fun i J hi hJ => by
    unfold slices_Equal_int_int_l1
    simp only
    by_cases hl : i < l.length
    · rw [if_pos hl, List.getElem?_eq_getElem hl]
      simp only [obind]
      rw [ifT]
      exact hJ (i + 1) (by omega) (by omega)
    · rw [if_neg hl]; exact ⟨_, rfl, rfl⟩) n 0 (by omega) (by omega)
  rw [h1, h2]
  rfl
theorem cut_min {α : Type} (l : List α) (k : Nat) : cut l 0 ((min l.length k : Nat) : Int) = some (l.take (min l.length k)) := by
  unfold cut
  rw [if_pos ⟨by omega, by omega, by omega⟩]
  simp
end Go.Proofs.YtplkfbljncfdnaaDoor
