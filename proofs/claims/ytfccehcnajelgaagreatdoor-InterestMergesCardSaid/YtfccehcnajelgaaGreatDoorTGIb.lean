/- Plain laws: how long the parts of fractions are, in bits. No program in sight. -/
import Derived.Test.YtfccehcnajelgaaGreatDoorTGVf
import Derived.Test.YtfccehcnajelgaaGreatDoorTBase
namespace Go.Proofs.YtfccehcnajelgaaGreatDoor
open Go
set_option maxRecDepth 8000
theorem div_num {a b:Int} (hb:b ≠ 0):(Rat.divInt a b).num * b = a * (Rat.divInt a b).den:=by
  have h:=Rat.num_divInt_den (Rat.divInt a b)
  exact (Rat.divInt_eq_divInt_iff FQ.ndnz hb).1 h
theorem div_le {a b:Int} (hb:b ≠ 0):(Rat.divInt a b).num.natAbs ≤ a.natAbs∧(Rat.divInt a b).den ≤ b.natAbs:=by
  have h:=congrArg Int.natAbs (div_num (a:=a) hb)
  rw [Int.natAbs_mul,Int.natAbs_mul,Int.natAbs_natCast] at h
  have hc:=(Rat.divInt a b).reduced
  have hd:=(Rat.divInt a b).den_pos
  generalize (Rat.divInt a b).num.natAbs = x at *
  generalize (Rat.divInt a b).den = y at *
  have hbp:0 < b.natAbs:=by omega
  constructor
  · by_cases h0:a.natAbs = 0
    · rw [h0,Nat.zero_mul] at h
      rcases Nat.mul_eq_zero.1 h with h1 | h1
      · omega
      · omega
    · exact Nat.le_of_dvd (by omega) (hc.dvd_of_dvd_mul_right (by rw [← h]; exact Nat.dvd_mul_right ..))
  · exact Nat.le_of_dvd hbp (hc.symm.dvd_of_dvd_mul_left (by rw [h]; exact Nat.dvd_mul_left ..))
def Bt (i j:Nat) (q:Rat):Prop:=q.num.natAbs < 2 ^ i∧q.den < 2 ^ j
theorem Bt.mono {i j i' j' : Nat} {q:Rat} (h:Bt i j q) (hi:i ≤ i') (hj:j ≤ j'):Bt i' j' q:=⟨Nat.lt_of_lt_of_le h.1 (Nat.pow_le_pow_right (by decide) hi),Nat.lt_of_lt_of_le h.2 (Nat.pow_le_pow_right (by decide) hj)⟩
theorem hb_pow (w:Nat):9223372036854775808 * 18446744073709551616 ^ w = 2 ^ (63 + 64 * w):=by
  rw [Nat.pow_add,← pow64]
def hbl:Nat:=511
theorem hb_pow' {w l:Nat} (h:l = 63 + 64 * w):9223372036854775808 * 18446744073709551616 ^ w = 2 ^ l:=by subst h; exact hb_pow w
theorem HB_pow:HB = 2 ^ hbl:=hb_pow' (w:=7) (l:=hbl) rfl
theorem Bt.fq {i j:Nat} {q:Rat} (h:Bt i j q) (hi:i ≤ 500) (hj:j ≤ 500):FQ q:=by
  have e:hbl = 511:=rfl
  have h1:2 ^ i ≤ HB:=by rw [HB_pow]; exact Nat.pow_le_pow_right (by decide) (by omega)
  have h2:2 ^ j ≤ HB:=by rw [HB_pow]; exact Nat.pow_le_pow_right (by decide) (by omega)
  have h3:=h.1
  have h4:=h.2
  exact ⟨⟨by omega,by omega⟩,⟨by omega,by omega⟩⟩
theorem Bt.of {i j:Nat} {a b:Int} (hb:b ≠ 0) (h1:a.natAbs < 2 ^ i) (h2:b.natAbs < 2 ^ j):Bt i j (Rat.divInt a b):=by
  obtain ⟨d1,d2⟩:=div_le (a:=a) hb
  exact ⟨by omega,by omega⟩
theorem mul_pow {a b i j:Nat} (ha:a < 2 ^ i) (hb:b < 2 ^ j):a * b < 2 ^ (i + j):=by
  rw [Nat.pow_add]; exact Nat.mul_lt_mul'' ha hb
theorem Bt.mul {i1 j1 i2 j2:Nat} {a b:Rat} (ha:Bt i1 j1 a) (hb:Bt i2 j2 b):Bt (i1 + i2) (j1 + j2) (a * b):=by
  have d0:(a.den:Int) * b.den ≠ 0:=Int.mul_ne_zero FQ.ndnz FQ.ndnz
  have e:a * b = Rat.divInt (a.num * b.num) (a.den * b.den):=by
    conv=>lhs; rw [← Rat.num_divInt_den a,← Rat.num_divInt_den b]
    exact Rat.divInt_mul_divInt _ _
  rw [e]
  exact Bt.of d0 (by rw [Int.natAbs_mul]; exact mul_pow ha.1 hb.1) (by rw [Int.natAbs_mul,Int.natAbs_natCast,Int.natAbs_natCast]; exact mul_pow ha.2 hb.2)
theorem Bt.div {i1 j1 i2 j2:Nat} {a b:Rat} (ha:Bt i1 j1 a) (hb:Bt i2 j2 b) (h0:b ≠ 0):Bt (i1 + j2) (j1 + i2) (a / b):=by
  have b0:b.num ≠ 0:=fun e=>h0 (Rat.num_eq_zero.1 e)
  have d0:(a.den:Int) * b.num ≠ 0:=Int.mul_ne_zero FQ.ndnz b0
  have e:a / b = Rat.divInt (a.num * b.den) (a.den * b.num):=by
    conv=>lhs; rw [Rat.div_def,← Rat.num_divInt_den a,← Rat.num_divInt_den b,Rat.inv_divInt]
    exact Rat.divInt_mul_divInt _ _
  rw [e]
  exact Bt.of d0 (by rw [Int.natAbs_mul,Int.natAbs_natCast]; exact mul_pow ha.1 hb.2) (by rw [Int.natAbs_mul,Int.natAbs_natCast]; exact mul_pow ha.2 hb.1)
theorem Bt.add {i1 j1 i2 j2 i:Nat} {a b:Rat} (ha:Bt i1 j1 a) (hb:Bt i2 j2 b) (h1:i1 + j2 + 1 ≤ i) (h2:i2 + j1 + 1 ≤ i):Bt i (j1 + j2) (a + b):=by
  have d0:(a.den:Int) * b.den ≠ 0:=Int.mul_ne_zero FQ.ndnz FQ.ndnz
  have e:a + b = Rat.divInt (a.num * b.den + b.num * a.den) (a.den * b.den):=by
    conv=>lhs; rw [← Rat.num_divInt_den a,← Rat.num_divInt_den b]
    exact Rat.divInt_add_divInt _ _ FQ.ndnz FQ.ndnz
  have m1:(a.num * b.den).natAbs < 2 ^ (i1 + j2):=by rw [Int.natAbs_mul,Int.natAbs_natCast]; exact mul_pow ha.1 hb.2
  have m2:(b.num * a.den).natAbs < 2 ^ (i2 + j1):=by rw [Int.natAbs_mul,Int.natAbs_natCast]; exact mul_pow hb.1 ha.2
  have p1:2 ^ (i1 + j2) ≤ 2 ^ (i - 1):=Nat.pow_le_pow_right (by decide) (by omega)
  have p2:2 ^ (i2 + j1) ≤ 2 ^ (i - 1):=Nat.pow_le_pow_right (by decide) (by omega)
  have p3:2 ^ i = 2 * 2 ^ (i - 1):=by rw [← Nat.pow_succ']; congr 1; omega
  rw [e]
  exact Bt.of d0 (by omega) (by rw [Int.natAbs_mul,Int.natAbs_natCast,Int.natAbs_natCast]; exact mul_pow ha.2 hb.2)
theorem Bt.neg {i j:Nat} {q:Rat} (h:Bt i j q):Bt i j (-q):=⟨by rw [Rat.neg_num,Int.natAbs_neg]; exact h.1,by rw [Rat.neg_den]; exact h.2⟩
theorem Bt.sub {i1 j1 i2 j2 i:Nat} {a b:Rat} (ha:Bt i1 j1 a) (hb:Bt i2 j2 b) (h1:i1 + j2 + 1 ≤ i) (h2:i2 + j1 + 1 ≤ i):Bt i (j1 + j2) (a - b):=by
  rw [Rat.sub_eq_add_neg]; exact Bt.add ha hb.neg h1 h2
section
variable {n:Nat} {a b:Rat}
theorem add_q (ha:FQ a) (hb:FQ b) (h:FQ (a + b)) (hn:18446744073709551616 < n):share_Add_p n (Sg a) (Sg b) = some (Sg (a + b),0):=by rw [addG n a b ha hb hn,if_pos h]
theorem mul_q (ha:FQ a) (hb:FQ b) (h:FQ (a * b)) (hn:18446744073709551616 < n):share_Mul_p n (Sg a) (Sg b) = some (Sg (a * b),0):=by rw [mulG n a b ha hb hn,if_pos h]
theorem div_q (ha:FQ a) (hb:FQ b) (h0:b ≠ 0) (h:FQ (a / b)) (hn:18446744073709551616 < n):share_Div_p n (Sg a) (Sg b) = some (Sg (a / b),0):=by rw [divG n a b ha hb h0 hn,if_pos h]
end
end Go.Proofs.YtfccehcnajelgaaGreatDoor
/- Plain laws: shares of small numbers; how they compare. No program in sight but the printed functions. -/
namespace Go.Proofs.YtfccehcnajelgaaGreatDoor
open Go
set_option maxRecDepth 8000
def FU:Nat:=18446744073709552000
theorem FU_lt:(1000000:Nat) < FU:=by decide
theorem FU_big:(18446744073709551616:Nat) < FU:=by decide
theorem mget_mset {κ ν:Type} [DecidableEq κ]:∀ (D:List (κ × ν)) (k x:κ) (v:ν),mget (mset D k v) x = if x = k then some v else mget D x
  | [],k,x,v=>by simp [mset,mget]
  | e :: D,k,x,v=>by
    unfold mset
    split
    · rename_i h; subst h; simp only [mget]; split <;> rfl
    · rename_i h
      simp only [mget]
      rw [mget_mset D k x v]
      by_cases h1:x = k
      · subst h1; simp [h]
      · simp [h1]
theorem sof {a b:Int} (h0:b ≠ 0) (ha:Sm a) (hb:Sm b):share_Of_p FU a b = some (Sg (Rat.divInt a b),0):=by
  obtain ⟨d1,d2⟩:=div_le (a:=a) h0
  rw [share_of_ok FU a b ha hb h0 FU_big,Sh_Sg (by unfold Sm at *; omega) (by unfold Sm at *; omega)]
theorem Sm_of {z:Int} (h:z.natAbs < 1000000):Sm z:=by unfold Sm; omega
theorem cmpG {a b:Rat} (ha:FQ a) (hb:FQ b):share_Cmp_p FU (Sg a) (Sg b) = some ((a.num * b.den - b.num * a.den).sign,0):=by
  have hF:=FU_big
  unfold share_Cmp_p
  rw [valid2G FU a b ha hb FU_big,obind,if_pos rfl,sreadG FU a ha (by omega),obind,sreadG FU b hb (by omega),obind]
  unfold share_Ratio_Cmp_p Rt
  rw [times_ok FU 8 8 _ _ ha.n hb.d (by omega) (by omega),obind,times_ok FU 8 8 _ _ hb.n ha.d (by omega) (by omega),obind]
  unfold wide_Long_Cmp_p
  rw [minus_ok FU 16 _ _ (ha.n.mul hb.d) (hb.n.mul ha.d) (by omega) (by omega),obind,side_ok]
  rfl
theorem atMostG {a b:Rat} (ha:FQ a) (hb:FQ b):wardmotelaw27_atMost_p FU (Sg a) (Sg b) = some (decide (a ≤ b)):=by
  unfold wardmotelaw27_atMost_p
  rw [cmpG ha hb,obind]
  simp only [if_true]
  refine congrArg some (decide_eq_decide.2 ?_)
  rw [Rat.le_iff,Int.sign_nonpos_iff]
  omega
theorem lof {a b:Int} (h0:b ≠ 0) (ha:Sm a) (hb:Sm b):wardmotelaw27_of_p FU a b = some (Sg (Rat.divInt a b)):=by
  unfold wardmotelaw27_of_p
  rw [sof h0 ha hb,obind]
theorem part_fq {n d:Int} (h0:n.natAbs < 1000000) (hd:d ≠ 0) (h1:d.natAbs < 1000000):FQ (Rat.divInt n d):=(Bt.of (i:=20) (j:=20) hd (by omega) (by omega)).fq (by decide) (by decide)
end Go.Proofs.YtfccehcnajelgaaGreatDoor
/- Plain laws: the number of bits of a mask. No program in sight. -/
namespace Go.Proofs.YtfccehcnajelgaaGreatDoor
open Go
set_option maxRecDepth 8000
def pc:Nat → Nat → Nat
  | 0,_=>0
  | k + 1,x=>x % 2 + pc k (x / 2)
theorem pc_mod:∀ (k x:Nat),pc k (x % 2 ^ k) = pc k x
  | 0,_=>rfl
  | k + 1,x=>by
    have e1:x % 2 ^ (k + 1) % 2 = x % 2:=by rw [Nat.pow_succ,Nat.mul_comm,Nat.mod_mul_right_mod]
    have e2:x % 2 ^ (k + 1) / 2 = x / 2 % 2 ^ k:=by rw [Nat.pow_succ,Nat.mul_comm,Nat.mod_mul_right_div_self]
    rw [pc,pc,e1,e2,pc_mod k]
theorem pc_add:∀ (a k x:Nat),pc (a + k) x = pc a x + pc k (x / 2 ^ a)
  | 0,k,x=>by simp [pc]
  | a + 1,k,x=>by
    rw [show a + 1 + k = (a + k) + 1 by omega,pc,pc,pc_add a k (x / 2),Nat.div_div_eq_div_mul,Nat.pow_succ,Nat.mul_comm 2]
    omega
theorem pc_le:∀ (k x:Nat),pc k x ≤ k
  | 0,_=>Nat.le_refl _
  | k + 1,x=>by rw [pc]; have:=pc_le k (x / 2); omega
/-! ### Bytes -/
def mk8 (c:Nat):Nat → Nat
  | 0=>0
  | k + 1=>c + 256 * mk8 c k
def by8 (f:Nat → Nat):Nat → Nat → Nat
  | 0,_=>0
  | k + 1,x=>f (x % 256) + 256 * by8 f k (x / 256)
theorem and_byte {c:Nat} (hc:c < 256) (k x:Nat):x &&& mk8 c (k + 1) = (x % 256 &&& c) + 256 * (x / 256 &&& mk8 c k):=by
  have e1:mk8 c (k + 1) % 2 ^ 8 = c:=by rw [mk8]; omega
  have e2:mk8 c (k + 1) / 2 ^ 8 = mk8 c k:=by rw [mk8]; omega
  have h1:=Nat.and_mod_two_pow (a:=x) (b:=mk8 c (k + 1)) (n:=8)
  have h2:=Nat.and_div_two_pow (a:=x) (b:=mk8 c (k + 1)) (n:=8)
  rw [e1] at h1
  rw [e2] at h2
  have:=Nat.mod_add_div (x &&& mk8 c (k + 1)) (2 ^ 8)
  rw [h1,h2] at this
  exact this.symm
theorem tabA:∀ b,b < 256 → ∀ e,e < 2 → (b / 2 + 128 * e) &&& 85 = b / 2 &&& 85:=by decide +kernel
theorem tabB:∀ b,b < 256 → ∀ e,e < 4 → (b / 4 + 64 * e) &&& 51 = b / 4 &&& 51:=by decide +kernel
def fA (b:Nat):Nat:=(b / 2 &&& 85) + (b &&& 85)
def fB (b:Nat):Nat:=(b / 4 &&& 51) + (b &&& 51)
def fC (b:Nat):Nat:=(b / 16 + b) &&& 15
theorem swA:∀ (k x:Nat),(x / 2 &&& mk8 85 k) + (x &&& mk8 85 k) = by8 fA k x
  | 0,x=>by simp [mk8,by8]
  | k + 1,x=>by
    rw [and_byte (by decide),and_byte (by decide),by8,← swA k (x / 256)]
    have e1:x / 2 / 256 = x / 256 / 2:=by omega
    have e2:x / 2 % 256 = x % 256 / 2 + 128 * (x / 256 % 2):=by omega
    rw [e1,e2,tabA _ (by omega) _ (by omega),fA]
    omega
theorem swB:∀ (k x:Nat),(x / 4 &&& mk8 51 k) + (x &&& mk8 51 k) = by8 fB k x
  | 0,x=>by simp [mk8,by8]
  | k + 1,x=>by
    rw [and_byte (by decide),and_byte (by decide),by8,← swB k (x / 256)]
    have e1:x / 4 / 256 = x / 256 / 4:=by omega
    have e2:x / 4 % 256 = x % 256 / 4 + 64 * (x / 256 % 4):=by omega
    rw [e1,e2,tabB _ (by omega) _ (by omega),fB]
    omega
theorem tabC:∀ b,b < 69 → ∀ e,e < 5 → (b / 16 + b + 16 * e) &&& 15 = (b / 16 + b) &&& 15:=by decide +kernel
theorem swC {g:Nat → Nat} (hg:∀ b,b < 256 → g b < 69∧g b % 16 < 5):∀ (k x:Nat),(by8 g k x / 16 + by8 g k x) &&& mk8 15 k = by8 (fun b=>fC (g b)) k x
  | 0,x=>by simp [mk8,by8]
  | k + 1,x=>by
    rw [and_byte (by decide)]
    have h0:=hg (x % 256) (by omega)
    have ih:=swC hg k (x / 256)
    have hb:by8 g (k + 1) x = g (x % 256) + 256 * by8 g k (x / 256):=rfl
    have he:by8 g k (x / 256) % 16 < 5:=by
      cases k with
      | zero=>simp [by8]
      | succ k=>have:=hg (x / 256 % 256) (by omega); rw [by8]; omega
    rw [hb]
    generalize by8 g k (x / 256) = y at *
    have e1:((g (x % 256) + 256 * y) / 16 + (g (x % 256) + 256 * y)) % 256 = g (x % 256) / 16 + g (x % 256) + 16 * (y % 16):=by omega
    have e2:((g (x % 256) + 256 * y) / 16 + (g (x % 256) + 256 * y)) / 256 = y / 16 + y:=by omega
    rw [e1,e2,ih,tabC _ h0.1 _ he,by8,fC]
theorem by8_comp {f g:Nat → Nat} (hg:∀ b,b < 256 → g b < 256):∀ (k x:Nat),by8 f k (by8 g k x) = by8 (fun b=>f (g b)) k x
  | 0,_=>rfl
  | k + 1,x=>by
    have h0:=hg (x % 256) (by omega)
    rw [by8,by8,by8]
    have e1:(g (x % 256) + 256 * by8 g k (x / 256)) % 256 = g (x % 256):=by omega
    have e2:(g (x % 256) + 256 * by8 g k (x / 256)) / 256 = by8 g k (x / 256):=by omega
    rw [e1,e2,by8_comp hg k]
theorem tab1:∀ b,b < 256 → fA b < 256∧fB (fA b) < 69∧fB (fA b) % 16 < 5∧fC (fB (fA b)) = pc 8 b:=by decide +kernel
theorem by8_eq {f g:Nat → Nat} (h:∀ b,b < 256 → f b = g b):∀ (k x:Nat),by8 f k x = by8 g k x
  | 0,_=>rfl
  | k + 1,x=>by rw [by8,by8,h _ (by omega),by8_eq h k]
theorem swar (x:Nat):(by8 fB 8 (by8 fA 8 x) / 16 + by8 fB 8 (by8 fA 8 x)) &&& mk8 15 8 = by8 (pc 8) 8 x:=by
  rw [by8_comp (fun b hb=>(tab1 b hb).1),swC fun b hb=>⟨(tab1 b hb).2.1,(tab1 b hb).2.2.1⟩]
  exact by8_eq (fun b hb=>(tab1 b hb).2.2.2) 8 x
theorem pc8 (x:Nat):pc 8 (x % 256) = pc 8 x:=pc_mod 8 x
theorem pc64 (x:Nat):pc 64 x = pc 8 (x % 256) + pc 8 (x / 256 % 256) + pc 8 (x / 65536 % 256) + pc 8 (x / 16777216 % 256) + pc 8 (x / 4294967296 % 256) + pc 8 (x / 1099511627776 % 256) + pc 8 (x / 281474976710656 % 256) + pc 8 (x / 72057594037927936 % 256):=by
  simp only [pc8]
  rw [show (64:Nat) = 8 + (8 + (8 + (8 + (8 + (8 + (8 + 8)))))) from rfl,pc_add,pc_add,pc_add,pc_add,pc_add,pc_add,pc_add]
  simp only [Nat.div_div_eq_div_mul,Nat.reducePow,Nat.reduceMul]
  omega
theorem sdv1 {a c:Nat} (h:a < 256):(a + 256 * c) / 256 = c:=by omega
theorem dv2 {a b c:Nat} (h:a + 256 * b < 65536):(a + 256 * (b + 256 * c)) / 65536 = c:=by omega
theorem dv4 {a b c d e:Nat} (h:a + 256 * b + 65536 * c + 16777216 * d < 4294967296):(a + 256 * (b + 256 * (c + 256 * (d + 256 * e)))) / 4294967296 = e:=by omega
theorem md1 {a b c d:Nat} (h:a + c < 128):((a + 256 * b) + (c + 256 * d)) % 128 = a + c:=by omega
theorem le1 {a t B:Nat} (ha:a ≤ 8) (ht:t ≤ B):a + 256 * t ≤ 8 + 256 * B:=by omega
theorem fold8 (p0 p1 p2 p3 p4 p5 p6 p7:Nat) (b0:p0 ≤ 8) (b1:p1 ≤ 8) (b2:p2 ≤ 8) (b3:p3 ≤ 8) (b4:p4 ≤ 8) (b5:p5 ≤ 8) (b6:p6 ≤ 8) (b7:p7 ≤ 8) {y z v:Nat} (hy:y = p0 + 256 * (p1 + 256 * (p2 + 256 * (p3 + 256 * (p4 + 256 * (p5 + 256 * (p6 + 256 * (p7 + 256 * 0)))))))) (hz:z = y + y / 256) (hv:v = z + z / 65536):y ≤ 578721382704613384∧(v + v / 4294967296) % 128 = p0 + p1 + p2 + p3 + p4 + p5 + p6 + p7:=by
  refine ⟨by rw [hy]; exact le1 b0 (le1 b1 (le1 b2 (le1 b3 (le1 b4 (le1 b5 (le1 b6 (le1 b7 (Nat.le_refl 0)))))))),?_⟩
  have e1:y / 256 = p1 + 256 * (p2 + 256 * (p3 + 256 * (p4 + 256 * (p5 + 256 * (p6 + 256 * (p7 + 256 * 0)))))):=by rw [hy]; exact sdv1 (by omega)
  have ez:z = (p0 + p1) + 256 * ((p1 + p2) + 256 * ((p2 + p3) + 256 * ((p3 + p4) + 256 * ((p4 + p5) + 256 * ((p5 + p6) + 256 * ((p6 + p7) + 256 * p7)))))):=by rw [hz,e1,hy]; clear hz e1 hy; omega
  clear hy e1 hz
  have e2:z / 65536 = (p2 + p3) + 256 * ((p3 + p4) + 256 * ((p4 + p5) + 256 * ((p5 + p6) + 256 * ((p6 + p7) + 256 * p7)))):=by rw [ez]; exact dv2 (by omega)
  have ev:v = (p0 + p1 + p2 + p3) + 256 * ((p1 + p2 + p3 + p4) + 256 * ((p2 + p3 + p4 + p5) + 256 * ((p3 + p4 + p5 + p6) + 256 * ((p4 + p5 + p6 + p7) + 256 * ((p5 + p6 + p7) + 256 * ((p6 + p7) + 256 * p7)))))):=by rw [hv,e2,ez]; clear hv e2 ez; omega
  clear hv e2 ez
  have e3:v / 4294967296 = (p4 + p5 + p6 + p7) + 256 * ((p5 + p6 + p7) + 256 * ((p6 + p7) + 256 * p7)):=by rw [ev]; exact dv4 (by omega)
  rw [e3,ev,md1 (by omega)]
  omega
theorem fold64 (x:Nat):∃ y,y = by8 (pc 8) 8 x∧y < 18446744073709551616∧y + y / 256 < 18446744073709551616∧(y + y / 256) + (y + y / 256) / 65536 < 18446744073709551616∧((y + y / 256) + (y + y / 256) / 65536) + ((y + y / 256) + (y + y / 256) / 65536) / 4294967296 < 9223372036854775808∧(((y + y / 256) + (y + y / 256) / 65536) + ((y + y / 256) + (y + y / 256) / 65536) / 4294967296) % 128 = pc 64 x:=by
  refine ⟨_,rfl,?_⟩
  rw [pc64]
  have hy:by8 (pc 8) 8 x = pc 8 (x % 256) + 256 * (pc 8 (x / 256 % 256) + 256 * (pc 8 (x / 65536 % 256) + 256 * (pc 8 (x / 16777216 % 256) + 256 * (pc 8 (x / 4294967296 % 256) + 256 * (pc 8 (x / 1099511627776 % 256) + 256 * (pc 8 (x / 281474976710656 % 256) + 256 * (pc 8 (x / 72057594037927936 % 256) + 256 * 0))))))):=by
    simp only [by8,Nat.div_div_eq_div_mul,Nat.reduceMul]
  obtain ⟨h1,h2⟩:=fold8 _ _ _ _ _ _ _ _ (pc_le 8 _) (pc_le 8 _) (pc_le 8 _) (pc_le 8 _) (pc_le 8 _) (pc_le 8 _) (pc_le 8 _) (pc_le 8 _) hy rfl rfl
  rw [h2]
  clear h2 hy
  generalize by8 (pc 8) 8 x = y at *
  refine ⟨by omega,by omega,by omega,by omega,rfl⟩
def rp8:Nat → Nat
  | 0=>0
  | k + 1=>1 + 256 * rp8 k
theorem by8_le {f:Nat → Nat} {c:Nat} (h:∀ b,b < 256 → f b ≤ c):∀ (k x:Nat),by8 f k x ≤ c * rp8 k
  | 0,_=>Nat.zero_le _
  | k + 1,x=>by
    have h1:=h (x % 256) (by omega)
    have h2:=by8_le h k (x / 256)
    have e:c * rp8 (k + 1) = c + 256 * (c * rp8 k):=by rw [rp8,Nat.mul_add,Nat.mul_one,Nat.mul_left_comm]
    rw [by8,e]; omega
theorem fAB_le:∀ b,b < 256 → fA b ≤ 170∧fB b ≤ 102:=by decide +kernel
/-! ### Masks -/
end Go.Proofs.YtfccehcnajelgaaGreatDoor
/- Plain laws: overlaps of masks; InterestOverlaps. No program in sight but the printed functions. -/
namespace Go.Proofs.YtfccehcnajelgaaGreatDoor
open Go
set_option maxRecDepth 8000
theorem shrU_toNat (u:UInt64) {k:Nat} (h:k < 64):(shrU u k).toNat = u.toNat / 2 ^ k:=by
  unfold shrU
  rw [if_pos h]
  exact UInt64.toNat_ofNat_of_lt' (Nat.lt_of_le_of_lt (Nat.div_le_self _ _) u.toNat_lt)
theorem andI127 (w:Nat) (h:w < 9223372036854775808):andI (w:Int) 127 = ((w % 128:Nat):Int):=by
  unfold andI
  have e:(BitVec.ofInt 64 (w:Int) &&& BitVec.ofInt 64 127).toNat = w % 128:=by
    rw [BitVec.toNat_and]
    have h1:(BitVec.ofInt 64 (w:Int)).toNat = w:=by
      rw [BitVec.toNat_ofInt]; omega
    rw [h1,show (BitVec.ofInt 64 127).toNat = 2 ^ 7 - 1 from rfl,Nat.and_two_pow_sub_one_eq_mod]
  rw [e]
  exact IntWalk.i64_in _ (by omega)
theorem ones_ok (n:Nat) (u:UInt64):math_bits_OnesCount64_p n u = some ((pc 64 u.toNat:Nat):Int):=by
  unfold math_bits_OnesCount64_p
  have hu:=u.toNat_lt
  have e1:(((shrU u 1) &&& (6148914691236517205:UInt64)) + (u &&& (6148914691236517205:UInt64))).toNat = by8 fA 8 u.toNat:=by
    rw [UInt64.toNat_add,UInt64.toNat_and,UInt64.toNat_and,shrU_toNat u (by decide),show (6148914691236517205:UInt64).toNat = mk8 85 8 from rfl,Nat.pow_one,swA]
    have:=by8_le (fun b hb=>(fAB_le b hb).1) 8 u.toNat
    exact Nat.mod_eq_of_lt (Nat.lt_of_le_of_lt this (by decide))
  generalize ((shrU u 1) &&& (6148914691236517205:UInt64)) + (u &&& (6148914691236517205:UInt64)) = u1 at *
  rw [obind]
  have e2:(((shrU u1 2) &&& (3689348814741910323:UInt64)) + (u1 &&& (3689348814741910323:UInt64))).toNat = by8 fB 8 (by8 fA 8 u.toNat):=by
    rw [UInt64.toNat_add,UInt64.toNat_and,UInt64.toNat_and,shrU_toNat u1 (by decide),show (3689348814741910323:UInt64).toNat = mk8 51 8 from rfl,e1,show (2:Nat) ^ 2 = 4 from rfl,swB]
    have:=by8_le (fun b hb=>(fAB_le b hb).2) 8 (by8 fA 8 u.toNat)
    exact Nat.mod_eq_of_lt (Nat.lt_of_le_of_lt this (by decide))
  generalize ((shrU u1 2) &&& (3689348814741910323:UInt64)) + (u1 &&& (3689348814741910323:UInt64)) = u2 at *
  rw [obind]
  have hb2:u2.toNat ≤ 68 * 72340172838076673:=by
    rw [e2,by8_comp (fun b hb=>(tab1 b hb).1)]
    exact by8_le (fun b hb=>by have:=(tab1 b hb).2.1; omega) 8 u.toNat
  have e3:(((shrU u2 4) + u2) &&& (1085102592571150095:UInt64)).toNat = by8 (pc 8) 8 u.toNat:=by
    rw [UInt64.toNat_and,UInt64.toNat_add,shrU_toNat u2 (by decide),show (1085102592571150095:UInt64).toNat = mk8 15 8 from rfl,show (2:Nat) ^ 4 = 16 from rfl,Nat.mod_eq_of_lt (by omega),e2,swar]
  generalize ((shrU u2 4) + u2) &&& (1085102592571150095:UInt64) = u3 at *
  obtain ⟨y,hy,b1,b2,b3,b4,b5⟩:=fold64 u.toNat
  rw [← e3] at hy
  have e4:(u3 + shrU u3 8).toNat = y + y / 256:=by
    rw [UInt64.toNat_add,shrU_toNat u3 (by decide),← hy,show (2:Nat) ^ 8 = 256 from rfl]
    exact Nat.mod_eq_of_lt b2
  generalize hu4:u3 + shrU u3 8 = u4 at *
  have e5:(u4 + shrU u4 16).toNat = (y + y / 256) + (y + y / 256) / 65536:=by
    rw [UInt64.toNat_add,shrU_toNat u4 (by decide),e4,show (2:Nat) ^ 16 = 65536 from rfl]
    exact Nat.mod_eq_of_lt b3
  have e6:((u4 + shrU u4 16) + shrU (u4 + shrU u4 16) 32).toNat = ((y + y / 256) + (y + y / 256) / 65536) + ((y + y / 256) + (y + y / 256) / 65536) / 4294967296:=by
    rw [UInt64.toNat_add,shrU_toNat _ (by decide),e5,show (2:Nat) ^ 32 = 4294967296 from rfl]
    exact Nat.mod_eq_of_lt (by omega)
  rw [obind]
  generalize (u4 + shrU u4 16) + shrU (u4 + shrU u4 16) 32 = u6 at *
  unfold i64of
  rw [if_pos (by omega),andI127 _ (by omega),e6,b5]
theorem works27:wardmotelaw27_works_p FU = some true:=by kernel_rfl
end Go.Proofs.YtfccehcnajelgaaGreatDoor
