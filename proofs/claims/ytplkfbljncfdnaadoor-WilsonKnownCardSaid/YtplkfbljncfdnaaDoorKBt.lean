/- Sets of numbers below 64, as bits of an unsigned number. No program in sight. -/
import Derived.Test.YtplkfbljncfdnaaDoorFw
import Derived.Lib.TrailingZeros
namespace Go.Proofs.YtplkfbljncfdnaaDoor
open Go

/-- Is k in the set? -/
def bit (u : UInt64) (k : Nat) : Bool := u.toNat.testBit k
theorem bit_big {u : UInt64} {k : Nat} (h : 64 ≤ k) : bit u k = false := by
  unfold bit
  apply Nat.testBit_lt_two_pow
  exact Nat.lt_of_lt_of_le (u64_lt u) (Nat.pow_le_pow_right (by decide) h : 2 ^ 64 ≤ 2 ^ k)
theorem bit_lt {u : UInt64} {k : Nat} (h : bit u k = true) : k < 64 := by
  rcases Nat.lt_or_ge k 64 with h1 | h1
  · exact h1
  · rw [bit_big h1] at h; cases h
theorem bit_ext {u v : UInt64} (h : ∀ k, bit u k = bit v k) : u = v := by
  apply UInt64.toNat_inj.1
  exact Nat.eq_of_testBit_eq h
theorem bit_zero (k : Nat) : bit 0 k = false := by unfold bit; simp
theorem bit_or (u v : UInt64) (k : Nat) : bit (u ||| v) k = (bit u k || bit v k) := by unfold bit; rw [UInt64.toNat_or, Nat.testBit_or]
theorem bit_and (u v : UInt64) (k : Nat) : bit (u &&& v) k = (bit u k && bit v k) := by unfold bit; rw [UInt64.toNat_and, Nat.testBit_and]
theorem bit_not (v : UInt64) (k : Nat) (h : k < 64) : bit (~~~v) k = !bit v k := by
  unfold bit
  have e : (~~~v).toNat = 2 ^ 64 - (v.toNat + 1) := by
    have := UInt64.toNat_not v
    rw [this]
    show 18446744073709551616 - 1 - v.toNat = 18446744073709551616 - (v.toNat + 1)
    omega
  rw [e, Nat.testBit_two_pow_sub_succ (u64_lt v)]
  simp [h]
theorem bit_andNot (u v : UInt64) (k : Nat) : bit (u &&& ~~~v) k = (bit u k && !bit v k) := by
  rw [bit_and]
  rcases Nat.lt_or_ge k 64 with h | h
  · rw [bit_not _ _ h]
  · rw [bit_big h, bit_big h]; rfl
theorem shlU_one {k : Nat} (h : k < 64) : (shlU 1 k).toNat = 2 ^ k := by
  unfold shlU
  rw [if_pos h]
  rw [show (1 : UInt64).toNat = 1 from rfl, Nat.one_mul]
  exact UInt64.toNat_ofNat_of_lt' (Nat.pow_lt_pow_right (by decide) h : 2 ^ k < 2 ^ 64)
theorem bit_one {k j : Nat} (h : k < 64) : bit (shlU 1 k) j = decide (j = k) := by
  unfold bit
  rw [shlU_one h, Nat.testBit_two_pow]
  exact decide_eq_decide.2 eq_comm
theorem shrU_bit (u : UInt64) (k : Nat) : shrU u k &&& 1 = if bit u k then 1 else 0 := by
  apply UInt64.toNat_inj.1
  rw [UInt64.toNat_and]
  unfold shrU
  rcases Nat.lt_or_ge k 64 with h | h
  · rw [if_pos h]
    have hlt : u.toNat / 2 ^ k < 2 ^ 64 := Nat.lt_of_le_of_lt (Nat.div_le_self _ _) (u64_lt u)
    rw [UInt64.toNat_ofNat_of_lt' hlt]
    show (u.toNat / 2 ^ k) &&& 1 = _
    rw [Nat.and_one_is_mod]
    unfold bit
    rw [Nat.testBit_eq_decide_div_mod_eq]
    rcases Nat.mod_two_eq_zero_or_one (u.toNat / 2 ^ k) with h1 | h1
    · rw [h1]; rfl
    · rw [h1]; rfl
  · rw [if_neg (by omega), bit_big h]; rfl
theorem has_iff (u : UInt64) (k : Nat) : (shrU u k &&& 1 = 1) ↔ bit u k = true := by
  rw [shrU_bit]
  cases bit u k <;> simp
theorem hasnt_iff (u : UInt64) (k : Nat) : (shrU u k &&& 1 = 0) ↔ bit u k = false := by
  rw [shrU_bit]
  cases bit u k <;> simp
theorem ne_zero_bit {u : UInt64} (h : u ≠ 0) : ∃ k, bit u k = true := by
  apply Classical.byContradiction
  intro hn
  apply h
  apply bit_ext
  intro k
  rw [bit_zero]
  cases hk : bit u k with
  | false => rfl
  | true => exact absurd ⟨k, hk⟩ hn
/-- The numbers of a set, rising. -/
def bitsL (u : UInt64) : List Nat := (List.range 64).filter (bit u ·)
theorem mem_bitsL {u : UInt64} {k : Nat} : k ∈ bitsL u ↔ bit u k = true := by
  unfold bitsL
  rw [List.mem_filter, List.mem_range]
  exact ⟨fun h => h.2, fun h => ⟨bit_lt h, h⟩⟩
theorem bitsL_len (u : UInt64) : (bitsL u).length ≤ 64 := by
  unfold bitsL
  exact Nat.le_trans (List.length_filter_le _ _) (by simp)
theorem bitsL_zero : bitsL 0 = [] := by
  unfold bitsL
  rw [List.filter_eq_nil_iff]
  intro k _
  rw [bit_zero]; simp
/-- The lowest one. -/
def low (u : UInt64) : Nat := Lib.ctz 64 u.toNat
theorem low_form {u : UInt64} (h : u ≠ 0) : ∃ m, u.toNat = 2 ^ low u * (2 * m + 1) ∧ low u < 64 := by
  have h0 : u.toNat ≠ 0 := fun e => h (UInt64.toNat_inj.1 e)
  obtain ⟨m, h1, h2⟩ := Lib.ctzFrom_spec 64 u.toNat (by omega) (u64_lt u)
  have e : low u = Lib.ctzFrom 64 u.toNat := by simp [low, Lib.ctz, h0]
  rw [e]
  exact ⟨m, h1, h2⟩
theorem bit_form {t m i : Nat} {u : UInt64} (h : u.toNat = 2 ^ t * (2 * m + 1)) : bit u i = (decide (t ≤ i) && (2 * m + 1).testBit (i - t)) := by
  unfold bit
  rw [h, Nat.mul_comm, Nat.testBit_mul_two_pow]
theorem low_bit {u : UInt64} (h : u ≠ 0) : bit u (low u) = true := by
  obtain ⟨m, h1, _⟩ := low_form h
  rw [bit_form h1, Nat.sub_self, Nat.testBit_zero]
  simp
theorem low_lt {u : UInt64} {k : Nat} (h : u ≠ 0) (hk : k < low u) : bit u k = false := by
  obtain ⟨m, h1, _⟩ := low_form h
  rw [bit_form h1]
  simp; omega
theorem and_neg64 {u : UInt64} (h : u ≠ 0) : u &&& (-u) = shlU 1 (low u) := by
  have h0 : u.toNat ≠ 0 := fun e => h (UInt64.toNat_inj.1 e)
  obtain ⟨h1, h2⟩ := Lib.lowest_bit 64 u.toNat h0 (u64_lt u)
  apply UInt64.toNat_inj.1
  rw [UInt64.toNat_and, shlU_one (show low u < 64 from h2)]
  have e : (-u).toNat = 2 ^ 64 - u.toNat := by
    rw [UInt64.toNat_neg]
    have := u64_lt u
    show (18446744073709551616 - u.toNat) % 18446744073709551616 = 18446744073709551616 - u.toNat
    omega
  rw [e]
  exact h1
/-- Without the lowest one. -/
theorem bit_rest {u : UInt64} (h : u ≠ 0) (k : Nat) : bit (u &&& (u - 1)) k = (bit u k && decide (k ≠ low u)) := by
  obtain ⟨m, h1, h2⟩ := low_form h
  have e : (u - 1).toNat = u.toNat - 1 := by
    rw [UInt64.toNat_sub_of_le]
    · rfl
    · rw [UInt64.le_iff_toNat_le]
      have : u.toNat ≠ 0 := fun e => h (UInt64.toNat_inj.1 e)
      show 1 ≤ _
      omega
  generalize ht : low u = t at *
  have hp : 0 < 2 ^ t := Nat.two_pow_pos t
  have e2 : u.toNat - 1 = 2 ^ t * (2 * m) + (2 ^ t - 1) := by
    rw [h1, Nat.mul_add, Nat.mul_one]; omega
  have hb : (u - 1).toNat.testBit k = if k < t then true else (2 * m).testBit (k - t) := by
    rw [e, e2, Nat.testBit_two_pow_mul_add _ (by omega)]
    by_cases hk : k < t
    · rw [if_pos hk, if_pos hk, Nat.testBit_two_pow_sub_one]; simp [hk]
    · rw [if_neg hk, if_neg hk]
  rw [bit_and]
  show (bit u k && (u - 1).toNat.testBit k) = _
  rw [hb, bit_form h1]
  by_cases hk : k < t
  · have : ¬ t ≤ k := by omega
    simp [this]
  · rw [if_neg hk]
    by_cases hkt : k = t
    · subst hkt; simp
    · obtain ⟨j, rfl⟩ : ∃ j, k = t + (j + 1) := ⟨k - t - 1, by omega⟩
      rw [show t + (j + 1) - t = j + 1 by omega, Nat.testBit_succ, Nat.testBit_succ]
      rw [show (2 * m + 1) / 2 = m by omega, show 2 * m / 2 = m by omega]
      have h3 : t ≤ t + (j + 1) := by omega
      have h4 : t + (j + 1) ≠ t := by omega
      simp [h3]
theorem filter_first {p : Nat → Bool} : ∀ (l : List Nat) (t : Nat), l.Pairwise (· < ·) → t ∈ l → p t = true → (∀ k, k < t → p k = false) → l.filter p = t :: l.filter (fun k => p k && decide (k ≠ t))
  | [], t, _, h, _, _ => by cases h
  | x :: l, t, hp, hm, ht, hlow => by
    have hx := List.pairwise_cons.1 hp
    by_cases hxt : x = t
    · subst hxt
      rw [List.filter_cons_of_pos ht, List.filter_cons_of_neg (by simp)]
      congr 1
      apply List.filter_congr
      intro k hk
      have : k ≠ x := by have := hx.1 k hk; omega
      simp [this]
    · have hm' : t ∈ l := (List.mem_cons.1 hm).resolve_left (fun e => hxt e.symm)
      have hlt := hx.1 t hm'
      have hpx : p x = false := hlow x hlt
      rw [List.filter_cons_of_neg (by simp [hpx]), List.filter_cons_of_neg (by simp [hpx])]
      exact filter_first l t hx.2 hm' ht hlow
theorem bitsL_cons {u : UInt64} (h : u ≠ 0) : bitsL u = low u :: bitsL (u &&& (u - 1)) := by
  unfold bitsL
  rw [filter_first (List.range 64) (low u) List.pairwise_lt_range (List.mem_range.2 (bit_lt (low_bit h))) (low_bit h) (fun k hk => low_lt h hk)]
  congr 1
  apply List.filter_congr
  intro k _
  rw [bit_rest h]
theorem bitsL_sorted (u : UInt64) : (bitsL u).Pairwise (· < ·) := by
  unfold bitsL
  exact List.Pairwise.filter _ List.pairwise_lt_range
/-- How many bits a number takes. -/
def blen (x : Nat) : Nat := if x = 0 then 0 else x.log2 + 1
theorem blen_le {x k : Nat} : blen x ≤ k ↔ x < 2 ^ k := by
  unfold blen
  by_cases h : x = 0
  · rw [if_pos h]; subst h; simp [Nat.two_pow_pos]
  · rw [if_neg h, ← Nat.log2_lt h]; omega
theorem blen_shift {x k : Nat} (h : 2 ^ k ≤ x) : blen x = blen (x / 2 ^ k) + k := by
  have hp : 0 < 2 ^ k := Nat.two_pow_pos k
  have h0 : 0 < x / 2 ^ k := Nat.div_pos h hp
  apply Nat.le_antisymm
  · rw [blen_le, Nat.pow_add]
    have := (blen_le (x := x / 2 ^ k) (k := blen (x / 2 ^ k))).1 (Nat.le_refl _)
    exact (Nat.div_lt_iff_lt_mul hp).1 this
  · have h1 := (blen_le (x := x) (k := blen x)).1 (Nat.le_refl _)
    have h2 : k ≤ blen x := by
      rcases Nat.lt_or_ge (blen x) k with h3 | h3
      · have := (blen_le (x := x) (k := k)).1 (by omega); omega
      · exact h3
    have h3 : blen (x / 2 ^ k) ≤ blen x - k := by
      rw [blen_le, Nat.div_lt_iff_lt_mul hp, ← Nat.pow_add, Nat.sub_add_cancel h2]
      exact h1
    omega
/-- The set is below N exactly if the number is short. -/
theorem fits_iff {u : UInt64} {N : Nat} : u.toNat < 2 ^ N ↔ ∀ k, bit u k = true → k < N := by
  constructor
  · intro h k hk
    rcases Nat.lt_or_ge k N with h1 | h1
    · exact h1
    · unfold bit at hk
      rw [Nat.testBit_lt_two_pow (Nat.lt_of_lt_of_le h (Nat.pow_le_pow_right (by decide) h1))] at hk
      cases hk
  · intro h
    apply Nat.lt_pow_two_of_testBit
    intro k hk
    cases hb : u.toNat.testBit k with
    | false => rfl
    | true => have := h k hb; omega
end Go.Proofs.YtplkfbljncfdnaaDoor
