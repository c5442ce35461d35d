/- Plain laws: words shifted and divided: numbers alone. No program in sight. -/
import Derived.Test.YtfccehcnajelgaaGreatDoorRDWb
namespace Go.Proofs.YtfccehcnajelgaaGreatDoor
open Go
theorem val_put:∀ {xs:List UInt64} {j:Nat} (v:UInt64) (h:j < xs.length),val (xs.set j v) + 18446744073709551616 ^ j * xs[j].toNat = val xs + 18446744073709551616 ^ j * v.toNat
  | x :: xs,0,v,_=>by simp only [List.set_cons_zero,val,List.getElem_cons_zero,Nat.pow_zero]; omega
  | x :: xs,j + 1,v,h=>by
    have:=val_put (xs:=xs) (j:=j) v (by simpa using h)
    simp only [List.set_cons_succ,val,List.getElem_cons_succ,Nat.pow_succ]
    grind
theorem or_low {a b:UInt64} {s:Nat} (ha:a.toNat < 2 ^ s) (hb:2 ^ s ∣ b.toNat):(a ||| b).toNat = a.toNat + b.toNat:=by
  obtain ⟨y,e⟩:=hb
  rw [UInt64.toNat_or,e,Nat.or_comm,← Nat.two_pow_add_eq_or_of_lt ha,Nat.add_comm]
theorem pow64 (w:Nat):18446744073709551616 ^ w = 2 ^ (64 * w):=by
  rw [show (18446744073709551616:Nat) = 2 ^ 64 from rfl,← Nat.pow_mul]
theorem shl_nat (x:UInt64) {s:Nat} (hs:s < 64):(shlU x s).toNat = x.toNat * 2 ^ s % 18446744073709551616:=by
  unfold shlU; rw [if_pos hs,UInt64.toNat_ofNat']
theorem shr_nat (x:UInt64) {s:Nat} (hs:s < 64):(shrU x s).toNat = x.toNat / 2 ^ s:=by
  unfold shrU; rw [if_pos hs,UInt64.toNat_ofNat']
  exact Nat.mod_eq_of_lt (Nat.lt_of_le_of_lt (Nat.div_le_self _ _) x.toNat_lt)
theorem split64 {s:Nat} (hs:s ≤ 64):(18446744073709551616:Nat) = 2 ^ (64 - s) * 2 ^ s:=by
  rw [← Nat.pow_add,show 64 - s + s = 64 by omega]
theorem shift_two (x:UInt64) {s:Nat} (h0:0 < s) (hs:s < 64):(shlU x s).toNat + 18446744073709551616 * (shrU x (64 - s)).toNat = x.toNat * 2 ^ s∧2 ^ s ∣ (shlU x s).toNat∧(shrU x (64 - s)).toNat < 2 ^ s:=by
  have e:=split64 (s:=s) (by omega)
  have e1:x.toNat * 2 ^ s / 18446744073709551616 = x.toNat / 2 ^ (64 - s):=by
    rw [e]; exact Nat.mul_div_mul_right _ _ (Nat.two_pow_pos s)
  have e2:x.toNat * 2 ^ s % 18446744073709551616 = x.toNat % 2 ^ (64 - s) * 2 ^ s:=by
    rw [e]; exact Nat.mul_mod_mul_right ..
  rw [shl_nat x hs,shr_nat x (by omega)]
  refine ⟨?_,?_,?_⟩
  · rw [← e1]; exact Nat.mod_add_div ..
  · rw [e2]; exact Nat.dvd_mul_left ..
  · refine Nat.div_lt_of_lt_mul ?_
    rw [← e]; exact x.toNat_lt
theorem shl_zero (x:UInt64):shlU x 0 = x:=by
  refine UInt64.toNat_inj.1 ?_
  rw [shl_nat x (by decide),Nat.pow_zero,Nat.mul_one]
  exact Nat.mod_eq_of_lt x.toNat_lt
theorem or_zero_left (x:UInt64):(0:UInt64) ||| x = x:=by
  refine UInt64.toNat_inj.1 ?_
  rw [UInt64.toNat_or]; simp
theorem bit_add {q:List UInt64} {k:Nat} (h:k / 64 < q.length) (hd:2 ^ (k + 1) ∣ val q) (hb:(shlU 1 (k % 64)).toNat = 2 ^ (k % 64)):val (q.set (k / 64) (q[k / 64] ||| shlU 1 (k % 64))) = val q + 2 ^ k:=by
  have hs:=val_split q h
  have hl:=val_lt (q.take (k / 64))
  rw [List.length_take,Nat.min_eq_left (by omega)] at hl
  have hk:k = 64 * (k / 64) + k % 64:=by omega
  have hm:k % 64 < 64:=by omega
  have e1:2 ^ (k + 1) = 18446744073709551616 ^ (k / 64) * 2 ^ (k % 64 + 1):=by rw [pow64,← Nat.pow_add]; congr 1; omega
  have e2:(18446744073709551616:Nat) = 2 ^ (k % 64 + 1) * 2 ^ (63 - k % 64):=by rw [← Nat.pow_add,show k % 64 + 1 + (63 - k % 64) = 64 by omega]
  have h0:val (q.take (k / 64)) = 0:=by
    have h1:18446744073709551616 ^ (k / 64) ∣ val q:=Nat.dvd_trans ⟨_,e1⟩ hd
    rw [hs,Nat.pow_succ,Nat.mul_assoc,Nat.add_assoc,← Nat.mul_add] at h1
    have h2:=(Nat.dvd_add_left (Nat.dvd_mul_right ..)).1 h1
    exact Nat.eq_zero_of_dvd_of_lt h2 hl
  have h3:2 ^ (k % 64 + 1) ∣ (q[k / 64]).toNat:=by
    rw [e1,hs,h0,Nat.zero_add,show (18446744073709551616:Nat) ^ (k / 64 + 1) = 18446744073709551616 ^ (k / 64) * 18446744073709551616 from Nat.pow_succ ..,Nat.mul_assoc (18446744073709551616 ^ (k / 64)) 18446744073709551616,← Nat.mul_add] at hd
    have h4:=Nat.dvd_of_mul_dvd_mul_left (Nat.pow_pos (by decide)) hd
    have h5:2 ^ (k % 64 + 1) ∣ 18446744073709551616 * val (q.drop (k / 64 + 1)):=Nat.dvd_trans ⟨_,e2⟩ (Nat.dvd_mul_right ..)
    exact (Nat.dvd_add_left h5).1 h4
  have h6:(q[k / 64] ||| shlU 1 (k % 64)).toNat = 2 ^ (k % 64) + (q[k / 64]).toNat:=by
    rw [UInt64.or_comm]
    have:=or_low (a:=shlU 1 (k % 64)) (b:=q[k / 64]) (s:=k % 64 + 1) (by rw [hb]; exact Nat.pow_lt_pow_right (by decide) (by omega)) h3
    rw [this,hb]
  have h7:=val_put (q[k / 64] ||| shlU 1 (k % 64)) h
  have e3:2 ^ k = 18446744073709551616 ^ (k / 64) * 2 ^ (k % 64):=by rw [pow64,← Nat.pow_add]; congr 1
  rw [h6,Nat.mul_add,← e3] at h7
  omega
theorem shl_one {s:Nat} (hs:s < 64):(shlU 1 s).toNat = 2 ^ s:=by
  rw [shl_nat 1 hs]
  have:2 ^ s < 2 ^ 64:=Nat.pow_lt_pow_right (by decide) hs
  simp only [UInt64.toNat_one,Nat.one_mul]
  exact Nat.mod_eq_of_lt (by omega)
theorem div_step {a b q r k:Nat} (h1:a = b * q + r) (h2:r < b * 2 ^ (k + 1)) (h3:2 ^ (k + 1) ∣ q) :
    (b * 2 ^ k ≤ r → a = b * (q + 2 ^ k) + (r - b * 2 ^ k)∧r - b * 2 ^ k < b * 2 ^ k∧2 ^ k ∣ q + 2 ^ k)∧(r < b * 2 ^ k → 2 ^ k ∣ q):=by
  have h4:2 ^ k ∣ q:=Nat.dvd_trans ⟨2,by rw [Nat.pow_succ]⟩ h3
  rw [Nat.pow_succ,← Nat.mul_assoc] at h2
  refine ⟨fun h=>⟨?_,by omega,Nat.dvd_add h4 (Nat.dvd_refl _)⟩,fun _=>h4⟩
  rw [Nat.mul_add]; omega
def eu (x y:Nat):Nat:=if y = 0 then 0 else (if x < y then 1 else 0) + Nat.log2 (x * y) + 1
theorem eu_step {x y:Nat} (h:y ≠ 0):eu y (x % y) < eu x y:=by
  have hm:x % y < y:=Nat.mod_lt _ (by omega)
  unfold eu
  rw [if_neg h]
  by_cases h0:x % y = 0
  · rw [if_pos h0]; omega
  · rw [if_neg h0,if_neg (show ¬ y < x % y by omega)]
    by_cases h1:x < y
    · rw [if_pos h1,Nat.mod_eq_of_lt h1,Nat.mul_comm y x]; omega
    · rw [if_neg h1]
      have h2:2 * (x % y) < x ∨ 2 * (x % y) = x:=by
        have h3:=Nat.div_add_mod x y
        have h4:1 ≤ x / y:=Nat.div_pos (by omega) (by omega)
        have h5:y * 1 ≤ y * (x / y):=Nat.mul_le_mul_left _ h4
        omega
      have h6:2 * (y * (x % y)) ≤ x * y:=by
        rw [Nat.mul_comm x y,Nat.mul_left_comm]
        exact Nat.mul_le_mul_left _ (by omega)
      have h7:y * (x % y) ≠ 0:=Nat.mul_ne_zero h h0
      have h8:Nat.log2 (y * (x % y)) + 1 ≤ Nat.log2 (x * y):=by
        rw [Nat.le_log2 (by omega),Nat.pow_succ]
        have:=Nat.log2_self_le h7
        omega
      omega
theorem eu_le {x y l:Nat} (hx:x < 2 ^ l) (hy:y < 2 ^ l):eu x y ≤ 2 * l + 2:=by
  unfold eu
  split
  · omega
  · rename_i h
    have h1:Nat.log2 (x * y) ≤ 2 * l:=by
      by_cases h0:x * y = 0
      · rw [h0]; simp
      · have:Nat.log2 (x * y) < 2 * l:=by
          rw [Nat.log2_lt h0,Nat.two_mul,Nat.pow_add]
          exact Nat.mul_lt_mul'' hx hy
        omega
    split <;> omega
end Go.Proofs.YtfccehcnajelgaaGreatDoor
