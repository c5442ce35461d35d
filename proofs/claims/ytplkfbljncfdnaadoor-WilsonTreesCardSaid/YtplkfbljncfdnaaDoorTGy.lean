/- Plain laws: sorting short lists. No program in sight but the printed functions. -/
import Derived.Test.YtplkfbljncfdnaaDoorTGc
namespace Go.Proofs.YtplkfbljncfdnaaDoor
open Go

/-! ### Sorting by insertion -/
theorem less_eq (n : Nat) (a b : Int) : cmp_Less_int_p n a b = some (decide (a < b)) := by
  unfold cmp_Less_int_p cmp_isNaN_int_p
  simp
/-- What one number's way down gives. -/
theorem down_ok (N n : Nat) (xs0 : List Int) (z : Nat) (hz : z < xs0.length) (h12 : xs0.length ≤ 12) (hn : 20 < n) (hs : ∀ (p q : Nat) a b, p < q → q < z → xs0[p]? = some a → xs0[q]? = some b → a ≤ b) :
    ∃ ys, loopF (wilson_Draw_l5 N 0) n ((z : Int), xs0) = some ys ∧ ys.length = xs0.length ∧ ys.Perm xs0 ∧ ∀ (p q : Nat) a b, p < q → q < z + 1 → ys[p]? = some a → ys[q]? = some b → a ≤ b := by
  refine loop_ok (B := wilson_Draw_l5 N 0) (fun s => s.1.toNat) (fun (j, xs) => ∃ k : Nat, j = (k : Int) ∧ k ≤ z ∧ xs.length = xs0.length ∧ xs.Perm xs0 ∧ (∀ (p q : Nat) a b, p < q → q < z + 1 → p ≠ k → q ≠ k → xs[p]? = some a → xs[q]? = some b → a ≤ b) ∧ (∀ (q : Nat) a b, k < q → q < z + 1 → xs[k]? = some a → xs[q]? = some b → a ≤ b))
    (fun ys => ys.length = xs0.length ∧ ys.Perm xs0 ∧ ∀ (p q : Nat) a b, p < q → q < z + 1 → ys[p]? = some a → ys[q]? = some b → a ≤ b) (fun ⟨j, xs⟩ J hI hJ => ?_) n ((z : Int), xs0) ⟨z, rfl, Nat.le_refl _, rfl, List.Perm.refl _, fun p q a b h1 h2 h3 h4 h5 h6 => hs p q a b h1 (by omega) h5 h6, fun q a b h1 h2 => by omega⟩ (by simp only [Int.toNat_natCast]; omega)
  simp only at hI hJ
  obtain ⟨k, rfl, hk, hl, hp, h1, h2⟩ := hI
  unfold wilson_Draw_l5
  simp only
  have whole : (∀ a b, 0 < k → xs[k - 1]? = some a → xs[k]? = some b → a ≤ b) → ∀ (p q : Nat) a b, p < q → q < z + 1 → xs[p]? = some a → xs[q]? = some b → a ≤ b := fun hkk p q a b hpq hq ha hb => by
    by_cases hpk : p = k
    · subst hpk; exact h2 q a b hpq hq ha hb
    · by_cases hqk : q = k
      · subst hqk
        have hkl : q < xs.length := by omega
        by_cases hp1 : p = q - 1
        · subst hp1; exact hkk a b (by omega) ha hb
        · have hm : xs[q - 1]? = some (xs[q - 1]'(by omega)) := List.getElem?_eq_getElem _
          have e1 := h1 p (q - 1) a _ (by omega) (by omega) hpk (by omega) ha hm
          have e2 := hkk _ b (by omega) hm hb
          omega
      · exact h1 p q a b hpq hq hpk hqk ha hb
  by_cases h0 : (((0 : Nat) : Int)) < (k : Int)
  · rw [if_pos h0]
    have hkl : k < xs.length := by omega
    rw [idx_nat, List.getElem?_eq_getElem hkl]
    simp only [obind]
    rw [chk_ok (by omega)]
    simp only [obind]
    rw [show (k : Int) - 1 = ((k - 1 : Nat) : Int) by omega, idx_nat, List.getElem?_eq_getElem (show k - 1 < xs.length by omega)]
    simp only [obind]
    rw [less_eq]
    simp only [obind]
    by_cases hlt : xs[k] < xs[k - 1]
    · rw [if_pos (decide_eq_true hlt), Int.toNat_natCast, put_ok _ (by omega) (by omega), Int.toNat_natCast]
      simp only [obind]
      rw [idx_nat, List.getElem?_eq_getElem (show k - 1 < (xs.set k xs[k - 1]).length by rw [List.length_set]; omega)]
      simp only [obind]
      rw [Int.toNat_natCast, put_ok _ (by omega) (by rw [List.length_set]; omega), Int.toNat_natCast]
      simp only [obind]
      have get : ∀ (p : Nat), ((xs.set k xs[k - 1]).set (k - 1) xs[k])[p]? = if p = k - 1 then some xs[k] else if p = k then some xs[k - 1] else xs[p]? := fun p => by
        rw [List.getElem?_set, List.getElem?_set]
        by_cases hp1 : k - 1 = p
        · rw [if_pos hp1, if_pos (show p = k - 1 from hp1.symm), if_pos (by rw [List.length_set]; omega)]
        · rw [if_neg hp1, if_neg (show ¬ p = k - 1 from fun e => hp1 e.symm)]
          by_cases hp2 : k = p
          · rw [if_pos hp2, if_pos (show p = k from hp2.symm), if_pos (by omega)]
          · rw [if_neg hp2, if_neg (show ¬ p = k from fun e => hp2 e.symm)]
      have hgk : xs[k]? = some xs[k] := List.getElem?_eq_getElem hkl
      have hgk1 : xs[k - 1]? = some (xs[k - 1]'(by omega)) := List.getElem?_eq_getElem (by omega)
      refine hJ _ ⟨k - 1, rfl, by omega, by simp only [List.length_set]; exact hl, ?_, fun p q a b hpq hq hp1 hq1 ha hb => ?_, fun q a b hpq hq ha hb => ?_⟩ (by simp only [Int.toNat_natCast]; omega)
      · exact (List.set_set_perm (by omega) (by omega)).trans hp
      · simp only at ha hb
        rw [get, if_neg hp1] at ha
        rw [get, if_neg hq1] at hb
        by_cases hpk : p = k
        · rw [if_pos hpk] at ha
          rw [if_neg (by omega)] at hb
          cases ha
          exact h1 (k - 1) q _ b (by omega) hq (by omega) (by omega) hgk1 hb
        · rw [if_neg hpk] at ha
          by_cases hqk : q = k
          · rw [if_pos hqk] at hb
            cases hb
            exact h1 p (k - 1) a _ (by omega) (by omega) hpk (by omega) ha hgk1
          · rw [if_neg hqk] at hb
            exact h1 p q a b hpq hq hpk hqk ha hb
      · simp only at ha hb
        rw [get, if_pos rfl] at ha
        cases ha
        rw [get, if_neg (by omega)] at hb
        by_cases hqk : q = k
        · rw [if_pos hqk] at hb; cases hb; omega
        · rw [if_neg hqk] at hb
          exact h2 q _ b (by omega) hq hgk hb
    · rw [if_neg (by simp [hlt])]
      refine ⟨xs, rfl, hl, hp, whole fun a b _ ha hb => ?_⟩
      rw [List.getElem?_eq_getElem (by omega)] at ha hb
      cases ha; cases hb
      omega
  · rw [if_neg h0]
    exact ⟨xs, rfl, hl, hp, whole fun a b h => by omega⟩
theorem sort_ok (N n : Nat) (xs0 : List Int) (h12 : xs0.length ≤ 12) (hn : 20 < n) (hN : 20 < N) :
    ∃ ys, loopF (wilson_Draw_l6 N xs0.length 0) n (1, xs0) = some ys ∧ ys.length = xs0.length ∧ ys.Perm xs0 ∧ ∀ (p q : Nat) a b, p < q → ys[p]? = some a → ys[q]? = some b → a ≤ b := by
  refine loop_ok (B := wilson_Draw_l6 N xs0.length 0) (fun s => 13 - s.1.toNat) (fun (j, xs) => ∃ k : Nat, j = (k : Int) ∧ 1 ≤ k ∧ (k ≤ xs0.length ∨ k = 1) ∧ xs.length = xs0.length ∧ xs.Perm xs0 ∧ ∀ (p q : Nat) a b, p < q → q < k → xs[p]? = some a → xs[q]? = some b → a ≤ b)
    (fun ys => ys.length = xs0.length ∧ ys.Perm xs0 ∧ ∀ (p q : Nat) a b, p < q → ys[p]? = some a → ys[q]? = some b → a ≤ b) (fun ⟨j, xs⟩ J hI hJ => ?_) n (1, xs0) ⟨1, rfl, by omega, .inr rfl, rfl, List.Perm.refl _, fun p q a b h1 h2 => by omega⟩ (by simp only; omega)
  simp only at hI hJ
  obtain ⟨k, rfl, h1, hk, hl, hp, h2⟩ := hI
  unfold wilson_Draw_l6
  simp only [jn]
  by_cases hlt : (k : Int) < ((xs0.length : Nat) : Int)
  · rw [if_pos hlt]
    obtain ⟨ys, y1, y2, y3, y4⟩ := down_ok N N xs k (by omega) (by omega) hN h2
    rw [y1]
    simp only [obind]
    rw [chk_ok (by omega)]
    simp only [obind]
    exact hJ _ ⟨k + 1, by simp, by omega, .inl (by omega), by rw [y2]; exact hl, y3.trans hp, y4⟩ (by simp only; omega)
  · rw [if_neg hlt]
    refine ⟨xs, rfl, hl, hp, fun p q a b hpq ha hb => h2 p q a b hpq ?_ ha hb⟩
    have := (List.getElem?_eq_some_iff.1 hb).1
    omega
end Go.Proofs.YtplkfbljncfdnaaDoor
