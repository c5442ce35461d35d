/- Plain laws: sets of all numbers below one, places of edges. No program in sight but the printed functions. -/
import Derived.Test.YtplkfbljncfdnaaDoorKGw
namespace Go.Proofs.YtplkfbljncfdnaaDoor
open Go

/-- All numbers below N. -/
theorem bit_all {N : Nat} (h : N < 64) (k : Nat) : bit (shlU 1 N - 1) k = decide (k < N) := by
  unfold bit
  have h1 := shlU_one h
  have h2 := Nat.two_pow_pos N
  rw [UInt64.toNat_sub_of_le _ _ (by rw [UInt64.le_iff_toNat_le, h1]; exact h2), h1]
  exact Nat.testBit_two_pow_sub_one N k
theorem fits_all {N : Nat} (h : N < 64) (u : UInt64) : Fits (N : Int) (u &&& (shlU 1 N - 1)) := by
  intro k hk
  rw [bit_and, Bool.and_eq_true, bit_all h, decide_eq_true_eq] at hk
  omega
theorem index2_ok (n : Nat) (xs : List (Int × Int)) (x : Int × Int) (hn : xs.length < n) : ∃ y, slices_Index_2_int_2_int_p n xs x = some y ∧ (0 ≤ y ↔ x ∈ xs) ∧ (0 ≤ y → xs[y.toNat]? = some x) := by
  unfold slices_Index_2_int_2_int_p
  obtain ⟨r, e1, e2⟩ := loop_ok (B := slices_Index_2_int_2_int_l1 n xs x) (fun i => xs.length - i) (fun i => i ≤ xs.length ∧ ∀ j, j < i → xs[j]? ≠ some x) (fun r => r = .inr () ∧ x ∉ xs ∨ ∃ j : Nat, r = .inl (j : Int) ∧ xs[j]? = some x) (fun i J ⟨hi, hno⟩ hJ => by
    unfold slices_Index_2_int_2_int_l1
    simp only
    by_cases hl : i < xs.length
    · rw [if_pos hl, List.getElem?_eq_getElem hl]
      simp only [obind]
      by_cases he : x.1 = xs[i].1 ∧ x.2 = xs[i].2
      · rw [if_pos he]
        exact ⟨_, rfl, .inr ⟨i, rfl, by rw [List.getElem?_eq_getElem hl]; congr 1; exact (Prod.ext he.1 he.2).symm⟩⟩
      · rw [if_neg he]
        refine hJ (i + 1) ⟨by omega, fun j hj => ?_⟩ (by omega)
        by_cases hji : j = i
        · subst hji
          rw [List.getElem?_eq_getElem hl]
          intro h
          exact he (by rw [Option.some.inj h]; exact ⟨rfl, rfl⟩)
        · exact hno j (by omega)
    · rw [if_neg hl]
      refine ⟨_, rfl, .inl ⟨rfl, fun hm => ?_⟩⟩
      obtain ⟨j, hj, hje⟩ := List.getElem_of_mem hm
      exact hno j (by omega) (by rw [List.getElem?_eq_getElem hj, hje])) n 0 ⟨by omega, fun j hj => by omega⟩ (by omega)
  rw [e1]
  rcases e2 with ⟨rfl, h⟩ | ⟨j, rfl, h⟩
  · exact ⟨-1, rfl, ⟨fun h1 => by omega, fun h1 => absurd h1 h⟩, fun h1 => by omega⟩
  · exact ⟨(j : Int), rfl, ⟨fun _ => List.mem_of_getElem? h, fun _ => by omega⟩, fun _ => by simpa using h⟩
theorem edge_in {g : TGraph} (h : Valid g) {a b : Nat} (k : Adj g a b) : (min (b : Int) (a : Int), max (b : Int) (a : Int)) ∈ g.fEdges := by
  rcases k with k | k
  · have := h.ok _ k
    simp only at this
    rwa [show min (b : Int) (a : Int) = a by omega, show max (b : Int) (a : Int) = b by omega]
  · have := h.ok _ k
    simp only at this
    rwa [show min (b : Int) (a : Int) = b by omega, show max (b : Int) (a : Int) = a by omega]
end Go.Proofs.YtplkfbljncfdnaaDoor
