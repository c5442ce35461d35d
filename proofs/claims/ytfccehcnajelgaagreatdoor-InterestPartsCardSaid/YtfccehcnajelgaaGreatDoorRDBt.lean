/- Sets of numbers below 64, as bits of an unsigned number. No program in sight. -/
import Derived.Test.YtfccehcnajelgaaGreatDoorRFw
import Derived.Lib.TrailingZeros
namespace Go.Proofs.YtfccehcnajelgaaGreatDoor
open Go
def bit (u:UInt64) (k:Nat):Bool:=u.toNat.testBit k
theorem bit_big {u:UInt64} {k:Nat} (h:64 ≤ k):bit u k = false:=by
  unfold bit
  apply Nat.testBit_lt_two_pow
  exact Nat.lt_of_lt_of_le (u64_lt u) (Nat.pow_le_pow_right (by decide) h:2 ^ 64 ≤ 2 ^ k)
theorem bit_lt {u:UInt64} {k:Nat} (h:bit u k = true):k < 64:=by
  rcases Nat.lt_or_ge k 64 with h1 | h1
  · exact h1
  · rw [bit_big h1] at h; cases h
theorem bit_ext {u v:UInt64} (h:∀ k,bit u k = bit v k):u = v:=by
  apply UInt64.toNat_inj.1
  exact Nat.eq_of_testBit_eq h
theorem bit_zero (k:Nat):bit 0 k = false:=by unfold bit; simp
theorem bit_or (u v:UInt64) (k:Nat):bit (u ||| v) k = (bit u k || bit v k):=by unfold bit; rw [UInt64.toNat_or,Nat.testBit_or]
theorem bit_and (u v:UInt64) (k:Nat):bit (u &&& v) k = (bit u k && bit v k):=by unfold bit; rw [UInt64.toNat_and,Nat.testBit_and]
theorem shlU_one {k:Nat} (h:k < 64):(shlU 1 k).toNat = 2 ^ k:=by
  unfold shlU
  rw [if_pos h]
  rw [show (1:UInt64).toNat = 1 from rfl,Nat.one_mul]
  exact UInt64.toNat_ofNat_of_lt' (Nat.pow_lt_pow_right (by decide) h:2 ^ k < 2 ^ 64)
theorem bit_one {k j:Nat} (h:k < 64):bit (shlU 1 k) j = decide (j = k):=by
  unfold bit
  rw [shlU_one h,Nat.testBit_two_pow]
  exact decide_eq_decide.2 eq_comm
theorem ne_zero_bit {u:UInt64} (h:u ≠ 0):∃ k,bit u k = true:=by
  apply Classical.byContradiction
  intro hn
  apply h
  apply bit_ext
  intro k
  rw [bit_zero]
  cases hk:bit u k with
  | false=>rfl
  | true=>exact absurd ⟨k,hk⟩ hn
def bitsL (u:UInt64):List Nat:=(List.range 64).filter (bit u ·)
theorem mem_bitsL {u:UInt64} {k:Nat}:k ∈ bitsL u ↔ bit u k = true:=by
  unfold bitsL
  rw [List.mem_filter,List.mem_range]
  exact ⟨fun h=>h.2,fun h=>⟨bit_lt h,h⟩⟩
theorem bitsL_len (u:UInt64):(bitsL u).length ≤ 64:=by
  unfold bitsL
  exact Nat.le_trans (List.length_filter_le _ _) (by simp)
theorem bitsL_zero:bitsL 0 = []:=by
  unfold bitsL
  rw [List.filter_eq_nil_iff]
  intro k _
  rw [bit_zero]; simp
def low (u:UInt64):Nat:=Lib.ctz 64 u.toNat
theorem low_form {u:UInt64} (h:u ≠ 0):∃ m,u.toNat = 2 ^ low u * (2 * m + 1)∧low u < 64:=by
  have h0:u.toNat ≠ 0:=fun e=>h (UInt64.toNat_inj.1 e)
  obtain ⟨m,h1,h2⟩:=Lib.ctzFrom_spec 64 u.toNat (by omega) (u64_lt u)
  have e:low u = Lib.ctzFrom 64 u.toNat:=by simp [low,Lib.ctz,h0]
  rw [e]
  exact ⟨m,h1,h2⟩
theorem bit_form {t m i:Nat} {u:UInt64} (h:u.toNat = 2 ^ t * (2 * m + 1)):bit u i = (decide (t ≤ i) && (2 * m + 1).testBit (i - t)):=by
  unfold bit
  rw [h,Nat.mul_comm,Nat.testBit_mul_two_pow]
theorem low_bit {u:UInt64} (h:u ≠ 0):bit u (low u) = true:=by
  obtain ⟨m,h1,_⟩:=low_form h
  rw [bit_form h1,Nat.sub_self,Nat.testBit_zero]
  simp
theorem low_lt {u:UInt64} {k:Nat} (h:u ≠ 0) (hk:k < low u):bit u k = false:=by
  obtain ⟨m,h1,_⟩:=low_form h
  rw [bit_form h1]
  simp; omega
theorem and_neg64 {u:UInt64} (h:u ≠ 0):u &&& (-u) = shlU 1 (low u):=by
  have h0:u.toNat ≠ 0:=fun e=>h (UInt64.toNat_inj.1 e)
  obtain ⟨h1,h2⟩:=Lib.lowest_bit 64 u.toNat h0 (u64_lt u)
  apply UInt64.toNat_inj.1
  rw [UInt64.toNat_and,shlU_one (show low u < 64 from h2)]
  have e:(-u).toNat = 2 ^ 64 - u.toNat:=by
    rw [UInt64.toNat_neg]
    have:=u64_lt u
    show (18446744073709551616 - u.toNat) % 18446744073709551616 = 18446744073709551616 - u.toNat
    omega
  rw [e]
  exact h1
theorem bit_rest {u:UInt64} (h:u ≠ 0) (k:Nat):bit (u &&& (u - 1)) k = (bit u k && decide (k ≠ low u)):=by
  obtain ⟨m,h1,h2⟩:=low_form h
  have e:(u - 1).toNat = u.toNat - 1:=by
    rw [UInt64.toNat_sub_of_le]
    · rfl
    · rw [UInt64.le_iff_toNat_le]
      have:u.toNat ≠ 0:=fun e=>h (UInt64.toNat_inj.1 e)
      show 1 ≤ _
      omega
  generalize ht:low u = t at *
  have hp:0 < 2 ^ t:=Nat.two_pow_pos t
  have e2:u.toNat - 1 = 2 ^ t * (2 * m) + (2 ^ t - 1):=by
    rw [h1,Nat.mul_add,Nat.mul_one]; omega
  have hb:(u - 1).toNat.testBit k = if k < t then true else (2 * m).testBit (k - t):=by
    rw [e,e2,Nat.testBit_two_pow_mul_add _ (by omega)]
    by_cases hk:k < t
    · rw [if_pos hk,if_pos hk,Nat.testBit_two_pow_sub_one]; simp [hk]
    · rw [if_neg hk,if_neg hk]
  rw [bit_and]
  show (bit u k && (u - 1).toNat.testBit k) = _
  rw [hb,bit_form h1]
  by_cases hk:k < t
  · have:¬ t ≤ k:=by omega
    simp [this]
  · rw [if_neg hk]
    by_cases hkt:k = t
    · subst hkt; simp
    · obtain ⟨j,rfl⟩:∃ j,k = t + (j + 1):=⟨k - t - 1,by omega⟩
      rw [show t + (j + 1) - t = j + 1 by omega,Nat.testBit_succ,Nat.testBit_succ]
      rw [show (2 * m + 1) / 2 = m by omega,show 2 * m / 2 = m by omega]
      have h3:t ≤ t + (j + 1):=by omega
      have h4:t + (j + 1) ≠ t:=by omega
      simp [h3]
theorem filter_first {p:Nat → Bool}:∀ (l:List Nat) (t:Nat),l.Pairwise (· < ·) → t ∈ l → p t = true → (∀ k,k < t → p k = false) → l.filter p = t :: l.filter (fun k=>p k && decide (k ≠ t))
  | [],t,_,h,_,_=>by cases h
  | x :: l,t,hp,hm,ht,hlow=>by
    have hx:=List.pairwise_cons.1 hp
    by_cases hxt:x = t
    · subst hxt
      rw [List.filter_cons_of_pos ht,List.filter_cons_of_neg (by simp)]
      congr 1
      apply List.filter_congr
      intro k hk
      have:k ≠ x:=by have:=hx.1 k hk; omega
      simp [this]
    · have hm' : t ∈ l:=(List.mem_cons.1 hm).resolve_left (fun e=>hxt e.symm)
      have hlt:=hx.1 t hm'
      have hpx:p x = false:=hlow x hlt
      rw [List.filter_cons_of_neg (by simp [hpx]),List.filter_cons_of_neg (by simp [hpx])]
      exact filter_first l t hx.2 hm' ht hlow
theorem bitsL_cons {u:UInt64} (h:u ≠ 0):bitsL u = low u :: bitsL (u &&& (u - 1)):=by
  unfold bitsL
  rw [filter_first (List.range 64) (low u) List.pairwise_lt_range (List.mem_range.2 (bit_lt (low_bit h))) (low_bit h) (fun k hk=>low_lt h hk)]
  congr 1
  apply List.filter_congr
  intro k _
  rw [bit_rest h]
theorem fits_iff {u:UInt64} {N:Nat}:u.toNat < 2 ^ N ↔ ∀ k,bit u k = true → k < N:=by
  constructor
  · intro h k hk
    rcases Nat.lt_or_ge k N with h1 | h1
    · exact h1
    · unfold bit at hk
      rw [Nat.testBit_lt_two_pow (Nat.lt_of_lt_of_le h (Nat.pow_le_pow_right (by decide) h1))] at hk
      cases hk
  · intro h
    apply Nat.lt_pow_two_of_testBit
    intro k hk
    cases hb:u.toNat.testBit k with
    | false=>rfl
    | true=>have:=h k hb; omega
end Go.Proofs.YtfccehcnajelgaaGreatDoor
