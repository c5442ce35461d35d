/- Plain laws: quotient, remainder, greatest common divisor, lowest terms, of integers of one word. No program in sight but the printed functions. -/
import Derived.Test.YtfccehcnajelgaaGreatDoorRDWb
namespace Go.Proofs.YtfccehcnajelgaaGreatDoor
open Go
theorem dg1 {m:Nat} (h0:m ≠ 0) (h:m < 18446744073709551616):dg m = [UInt64.ofNat m]:=by
  rw [dg_ne h0,show m / 18446744073709551616 = 0 by omega,dg0]
theorem ofNat_ne {m:Nat} (h0:m ≠ 0) (h:m < 18446744073709551616):UInt64.ofNat m ≠ 0:=fun e=>by
  have:=congrArg UInt64.toNat e
  rw [UInt64.toNat_ofNat'] at this
  simp at this; omega
theorem toNat_of {m:Nat} (h:m < 18446744073709551616):(UInt64.ofNat m).toNat = m:=by rw [UInt64.toNat_ofNat']; exact Nat.mod_eq_of_lt h
theorem div64_ok (n:Nat) (x y:UInt64) (h:y ≠ 0):math_bits_Div64_p n 0 x y = some (x / y,x % y):=by
  unfold math_bits_Div64_p
  have h1:¬ y ≤ 0:=fun h1=>h (UInt64.toNat_inj.1 (by rw [UInt64.le_iff_toNat_le] at h1; simpa using h1))
  rw [if_neg h,if_neg h1,if_pos rfl]
  unfold quoW remW
  rw [if_neg h,obind,if_neg h,obind]
theorem divided_ok (n a b:Nat) (ha:a < 18446744073709551616) (hb:b < 18446744073709551616) (h0:b ≠ 0) (hn:4 < n):∃ q,wide_divided_p n (dg a) (dg b) = some (q,dg (a % b))∧q.length ≤ 1∧val q = a / b:=by
  obtain ⟨k,rfl⟩:∃ k,n = k + 3:=⟨n - 3,by omega⟩
  rw [dg1 h0 hb]
  unfold wide_divided_p
  by_cases h:a = 0
  · subst h
    refine ⟨[],?_,by simp,by simp [val]⟩
    rw [dg0,Nat.zero_mod,dg0]
    rw [mk_ok _ _ (by simp),obind,if_pos (show [UInt64.ofNat b].length = 1 from rfl),loopF_succ]
    unfold wide_divided_l1
    simp only
    rw [if_neg (by decide),obind]
    simp only
    rw [trimmed_ok _ _ _ (by simp) (by simp),obind]
    simp [val,dg0]
  · have hm:a % b < 18446744073709551616:=Nat.lt_of_le_of_lt (Nat.mod_le _ _) ha
    have e2:(UInt64.ofNat a % UInt64.ofNat b).toNat = a % b:=by rw [UInt64.toNat_mod,toNat_of ha,toNat_of hb]
    refine ⟨[UInt64.ofNat a / UInt64.ofNat b],?_,by simp,?_⟩
    · rw [dg1 h ha,mk_ok _ _ (by simp),obind,if_pos (show [UInt64.ofNat b].length = 1 from rfl),loopF_succ]
      unfold wide_divided_l1
      simp only
      rw [if_pos (show (0:Int) ≤ ((([UInt64.ofNat a]:List UInt64).length:Nat):Int) - 1 by simp),idx_ok (by simp) (by simp),obind]
      simp only [List.length_cons,List.length_nil,List.getElem?_cons_zero,obind]
      show ((math_bits_Div64_p (k + 3) 0 (UInt64.ofNat a) (UInt64.ofNat b)).bind _).bind _ = _
      rw [div64_ok _ _ _ (ofNat_ne h0 hb),obind]
      show (((some (0:UInt64)).bind _)).bind _ = _
      rw [obind]
      show ((put [(0:UInt64)] ((0:Nat):Int) _).bind _).bind _ = _
      rw [put_ok _ (by decide),obind]
      show (((some (-1:Int)).bind _)).bind _ = _
      rw [obind,loopF_succ]
      simp only
      rw [if_neg (by decide),obind]
      simp only
      rw [trimmed_ok _ _ _ (by simp) (by simp),obind]
      simp [val,e2]
    · simp only [val]
      rw [UInt64.toNat_div,toNat_of ha,toNat_of hb]; simp
theorem ediv_uniq {a b q r:Int} (h:a = b * q + r) (h0:0 ≤ r) (h1:r < b.natAbs):a / b = q∧a % b = r:=by
  by_cases hb:0 < b
  · exact (Int.ediv_emod_unique hb).2 ⟨by rw [h]; omega,h0,by omega⟩
  · have hb2:0 < -b:=by omega
    have h3:a = (-b) * (-q) + r:=by rw [h,Int.neg_mul_neg]
    obtain ⟨e1,e2⟩:=(Int.ediv_emod_unique (a:=a) (r:=r) (q:=-q) hb2).2 ⟨by rw [h3]; omega,h0,by omega⟩
    rw [Int.ediv_neg] at e1
    rw [Int.emod_neg] at e2
    exact ⟨by omega,e2⟩
def W1 (z:Int):Prop:=z.natAbs < 18446744073709551616
theorem W1.fit {z:Int} (h:W1 z):Fit 1 z:=by unfold Fit; rw [Nat.pow_one]; exact h
theorem parts_ok (n:Nat) (a b:Int) (ha:W1 a) (hb:W1 b) (h0:b ≠ 0) (hn:10 < n):wide_Long_Parts_p n (L a) (L b) = some (L (a / b),L (a % b)):=by
  obtain ⟨q,e1,e2,e3⟩:=divided_ok n a.natAbs b.natAbs ha hb (by omega) (by omega)
  have hm:a.natAbs % b.natAbs < b.natAbs:=Nat.mod_lt _ (by omega)
  have hl:(dg (a.natAbs % b.natAbs)).length ≤ 1:=dg_len (by rw [Nat.pow_one]; unfold W1 at hb; omega)
  have hdm:=Nat.div_add_mod a.natAbs b.natAbs
  have hq:a.natAbs / b.natAbs ≤ a.natAbs:=Nat.div_le_self _ _
  unfold wide_Long_Parts_p
  rw [show (L a).fm = dg a.natAbs from rfl,show (L b).fm = dg b.natAbs from rfl,e1,obind]
  simp only
  rw [trimmed_ok n _ _ (by omega) (by omega),obind,trimmed_ok n _ _ (by omega) (by omega),obind,e3,val_dg]
  generalize hx:a.natAbs / b.natAbs = x at *
  generalize hy:a.natAbs % b.natAbs = y at *
  simp only [L_sg]
  show (if (decide (a < 0) && decide (0 < y)) = true then _ else _) = _
  unfold W1 at ha hb
  have hab:(b.natAbs:Int) * x + y = a.natAbs:=by exact_mod_cast hdm
  by_cases hr:a < 0∧0 < y
  · obtain ⟨h1,h2⟩:=hr
    rw [if_pos (by simp [h1,h2])]
    have f1:(⟨false,dg b.natAbs⟩:TLong) = L b.natAbs:=by unfold L; simp
    have f2:(⟨!(L b).fj,([(1:UInt64)]:List UInt64)⟩:TLong) = L (if b < 0 then 1 else -1):=by
      unfold L
      by_cases hb0:b < 0 <;> simp [hb0] <;> rw [dg1 (by decide) (by decide)] <;> rfl
    rw [f1,f2,plus_ok n 1 _ _ ?_ ?_ (by omega) (by omega),obind,plus_ok n 1 _ _ ?_ ?_ (by omega) (by omega),obind]
    · have e:sg (!(decide (a < 0) == decide (b < 0))) x + (if b < 0 then 1 else -1) = a / b∧sg (decide (a < 0)) y + b.natAbs = a % b:=by
        have:=ediv_uniq (a:=a) (b:=b) (q:=sg (!(decide (a < 0) == decide (b < 0))) x + (if b < 0 then 1 else -1)) (r:=sg (decide (a < 0)) y + b.natAbs) ?_ ?_ ?_
        · exact ⟨this.1.symm,this.2.symm⟩
        · unfold sg
          by_cases hb0:b < 0
          · have:(b.natAbs:Int) = -b:=by omega
            rw [this] at hab ⊢
            have h3:(a.natAbs:Int) = -a:=by omega
            simp [h1,hb0]
            rw [Int.mul_add]; grind
          · have:(b.natAbs:Int) = b:=by omega
            rw [this] at hab ⊢
            have h3:(a.natAbs:Int) = -a:=by omega
            simp [h1,hb0]
            rw [Int.mul_add]; grind
        · unfold sg; simp [h1]; omega
        · unfold sg; simp [h1]; omega
      show some (L (sg (!(decide (a < 0) == decide (b < 0))) x + (if b < 0 then 1 else -1)),L (sg (decide (a < 0)) y + b.natAbs)) = _
      rw [e.1,e.2]
    · unfold Fit; rw [Nat.pow_one,sg_abs]; omega
    · unfold Fit; rw [Nat.pow_one]; split <;> decide
    · unfold Fit; rw [Nat.pow_one,sg_abs]; omega
    · unfold Fit; rw [Nat.pow_one]; omega
  · rw [if_neg (by simpa using hr)]
    have e:=ediv_uniq (a:=a) (b:=b) (q:=sg (!(decide (a < 0) == decide (b < 0))) x) (r:=sg (decide (a < 0)) y) ?_ ?_ ?_
    · rw [e.1,e.2]; rfl
    · unfold sg
      by_cases h1:a < 0
      · have hy0:y = 0:=by omega
        have h3:(a.natAbs:Int) = -a:=by omega
        by_cases hb0:b < 0
        · have:(b.natAbs:Int) = -b:=by omega
          rw [this] at hab; simp [h1,hb0,hy0] at hab ⊢; grind
        · have:(b.natAbs:Int) = b:=by omega
          rw [this] at hab; simp [h1,hb0,hy0] at hab ⊢; grind
      · have h3:(a.natAbs:Int) = a:=by omega
        by_cases hb0:b < 0
        · have:(b.natAbs:Int) = -b:=by omega
          rw [this] at hab; simp [h1,hb0] at hab ⊢; grind
        · have:(b.natAbs:Int) = b:=by omega
          rw [this] at hab; simp [h1,hb0] at hab ⊢; grind
    · unfold sg
      by_cases h1:a < 0
      · have hy0:y = 0:=by omega
        simp [hy0]
      · simp [h1]
    · unfold sg
      by_cases h1:a < 0
      · have hy0:y = 0:=by omega
        simp [hy0]; omega
      · simp [h1]; omega
theorem common_ok (n:Nat) (a b:Int) (ha:W1 a) (hb:W1 b) (hn:18446744073709551616 < n):wide_Long_Common_p n (L a) (L b) = some (L (Nat.gcd a.natAbs b.natAbs:Nat)):=by
  have h:=loop_ok (B:=wide_Long_Common_l1 n) (fun s:List UInt64 × List UInt64=>val s.2) (fun s=>∃ x y,s = (dg x,dg y)∧x < 18446744073709551616∧y < 18446744073709551616∧Nat.gcd x y = Nat.gcd a.natAbs b.natAbs)
    (fun r=>r = dg (Nat.gcd a.natAbs b.natAbs)) ?_ n (dg a.natAbs,dg b.natAbs) ⟨_,_,rfl,ha,hb,rfl⟩ (by simp only [val_dg]; unfold W1 at hb; omega)
  · obtain ⟨r,h1,rfl⟩:=h
    unfold wide_Long_Common_p
    rw [show (L a).fm = dg a.natAbs from rfl,show (L b).fm = dg b.natAbs from rfl,h1,obind]
    unfold L
    simp
  · rintro _ J ⟨x,y,rfl,h1,h2,h3⟩ hJ
    unfold wide_Long_Common_l1
    simp only
    by_cases h0:y = 0
    · subst h0
      rw [if_neg (by rw [dg0]; simp)]
      exact ⟨_,rfl,by rw [← h3,Nat.gcd_zero_right]⟩
    · obtain ⟨q,e1,_,_⟩:=divided_ok n x y h1 h2 h0 (by omega)
      have hm:x % y < y:=Nat.mod_lt _ (by omega)
      rw [if_pos (by rw [dg1 h0 h2]; simp),e1,obind]
      simp only
      refine hJ (dg y,dg (x % y)) ⟨_,_,rfl,h2,by omega,?_⟩ (by simp only [val_dg]; exact hm)
      rw [← h3,Nat.gcd_comm x y,Nat.gcd_rec y x,Nat.gcd_comm]
end Go.Proofs.YtfccehcnajelgaaGreatDoor
