/- Plain laws: the number of bits of a mask. No program in sight. -/
import Derived.Test.YtfccehcnajelgaaGreatDoorRBase
namespace Go.Proofs.YtfccehcnajelgaaGreatDoor
open Go
set_option maxRecDepth 8000
def pc:Nat → Nat → Nat
  | 0,_=>0
  | k + 1,x=>x % 2 + pc k (x / 2)
theorem pc_mod:∀ (k x:Nat),pc k (x % 2 ^ k) = pc k x
  | 0,_=>rfl
  | k + 1,x=>by
    have e1:x % 2 ^ (k + 1) % 2 = x % 2:=by rw [Nat.pow_succ,Nat.mul_comm,Nat.mod_mul_right_mod]
    have e2:x % 2 ^ (k + 1) / 2 = x / 2 % 2 ^ k:=by rw [Nat.pow_succ,Nat.mul_comm,Nat.mod_mul_right_div_self]
    rw [pc,pc,e1,e2,pc_mod k]
theorem pc_add:∀ (a k x:Nat),pc (a + k) x = pc a x + pc k (x / 2 ^ a)
  | 0,k,x=>by simp [pc]
  | a + 1,k,x=>by
    rw [show a + 1 + k = (a + k) + 1 by omega,pc,pc,pc_add a k (x / 2),Nat.div_div_eq_div_mul,Nat.pow_succ,Nat.mul_comm 2]
    omega
theorem pc_le:∀ (k x:Nat),pc k x ≤ k
  | 0,_=>Nat.le_refl _
  | k + 1,x=>by rw [pc]; have:=pc_le k (x / 2); omega
/-! ### Bytes -/
def mk8 (c:Nat):Nat → Nat
  | 0=>0
  | k + 1=>c + 256 * mk8 c k
def by8 (f:Nat → Nat):Nat → Nat → Nat
  | 0,_=>0
  | k + 1,x=>f (x % 256) + 256 * by8 f k (x / 256)
theorem and_byte {c:Nat} (hc:c < 256) (k x:Nat):x &&& mk8 c (k + 1) = (x % 256 &&& c) + 256 * (x / 256 &&& mk8 c k):=by
  have e1:mk8 c (k + 1) % 2 ^ 8 = c:=by rw [mk8]; omega
  have e2:mk8 c (k + 1) / 2 ^ 8 = mk8 c k:=by rw [mk8]; omega
  have h1:=Nat.and_mod_two_pow (a:=x) (b:=mk8 c (k + 1)) (n:=8)
  have h2:=Nat.and_div_two_pow (a:=x) (b:=mk8 c (k + 1)) (n:=8)
  rw [e1] at h1
  rw [e2] at h2
  have:=Nat.mod_add_div (x &&& mk8 c (k + 1)) (2 ^ 8)
  rw [h1,h2] at this
  exact this.symm
theorem tabA:∀ b,b < 256 → ∀ e,e < 2 → (b / 2 + 128 * e) &&& 85 = b / 2 &&& 85:=by decide +kernel
theorem tabB:∀ b,b < 256 → ∀ e,e < 4 → (b / 4 + 64 * e) &&& 51 = b / 4 &&& 51:=by decide +kernel
def fA (b:Nat):Nat:=(b / 2 &&& 85) + (b &&& 85)
def fB (b:Nat):Nat:=(b / 4 &&& 51) + (b &&& 51)
def fC (b:Nat):Nat:=(b / 16 + b) &&& 15
theorem swA:∀ (k x:Nat),(x / 2 &&& mk8 85 k) + (x &&& mk8 85 k) = by8 fA k x
  | 0,x=>by simp [mk8,by8]
  | k + 1,x=>by
    rw [and_byte (by decide),and_byte (by decide),by8,← swA k (x / 256)]
    have e1:x / 2 / 256 = x / 256 / 2:=by omega
    have e2:x / 2 % 256 = x % 256 / 2 + 128 * (x / 256 % 2):=by omega
    rw [e1,e2,tabA _ (by omega) _ (by omega),fA]
    omega
theorem swB:∀ (k x:Nat),(x / 4 &&& mk8 51 k) + (x &&& mk8 51 k) = by8 fB k x
  | 0,x=>by simp [mk8,by8]
  | k + 1,x=>by
    rw [and_byte (by decide),and_byte (by decide),by8,← swB k (x / 256)]
    have e1:x / 4 / 256 = x / 256 / 4:=by omega
    have e2:x / 4 % 256 = x % 256 / 4 + 64 * (x / 256 % 4):=by omega
    rw [e1,e2,tabB _ (by omega) _ (by omega),fB]
    omega
theorem tabC:∀ b,b < 69 → ∀ e,e < 5 → (b / 16 + b + 16 * e) &&& 15 = (b / 16 + b) &&& 15:=by decide +kernel
theorem swC {g:Nat → Nat} (hg:∀ b,b < 256 → g b < 69∧g b % 16 < 5):∀ (k x:Nat),(by8 g k x / 16 + by8 g k x) &&& mk8 15 k = by8 (fun b=>fC (g b)) k x
  | 0,x=>by simp [mk8,by8]
  | k + 1,x=>by
    rw [and_byte (by decide)]
    have h0:=hg (x % 256) (by omega)
    have ih:=swC hg k (x / 256)
    have hb:by8 g (k + 1) x = g (x % 256) + 256 * by8 g k (x / 256):=rfl
    have he:by8 g k (x / 256) % 16 < 5:=by
      cases k with
      | zero=>simp [by8]
      | succ k=>have:=hg (x / 256 % 256) (by omega); rw [by8]; omega
    rw [hb]
    generalize by8 g k (x / 256) = y at *
    have e1:((g (x % 256) + 256 * y) / 16 + (g (x % 256) + 256 * y)) % 256 = g (x % 256) / 16 + g (x % 256) + 16 * (y % 16):=by omega
    have e2:((g (x % 256) + 256 * y) / 16 + (g (x % 256) + 256 * y)) / 256 = y / 16 + y:=by omega
    rw [e1,e2,ih,tabC _ h0.1 _ he,by8,fC]
theorem by8_comp {f g:Nat → Nat} (hg:∀ b,b < 256 → g b < 256):∀ (k x:Nat),by8 f k (by8 g k x) = by8 (fun b=>f (g b)) k x
  | 0,_=>rfl
  | k + 1,x=>by
    have h0:=hg (x % 256) (by omega)
    rw [by8,by8,by8]
    have e1:(g (x % 256) + 256 * by8 g k (x / 256)) % 256 = g (x % 256):=by omega
    have e2:(g (x % 256) + 256 * by8 g k (x / 256)) / 256 = by8 g k (x / 256):=by omega
    rw [e1,e2,by8_comp hg k]
theorem tab1:∀ b,b < 256 → fA b < 256∧fB (fA b) < 69∧fB (fA b) % 16 < 5∧fC (fB (fA b)) = pc 8 b:=by decide +kernel
theorem by8_eq {f g:Nat → Nat} (h:∀ b,b < 256 → f b = g b):∀ (k x:Nat),by8 f k x = by8 g k x
  | 0,_=>rfl
  | k + 1,x=>by rw [by8,by8,h _ (by omega),by8_eq h k]
theorem swar (x:Nat):(by8 fB 8 (by8 fA 8 x) / 16 + by8 fB 8 (by8 fA 8 x)) &&& mk8 15 8 = by8 (pc 8) 8 x:=by
  rw [by8_comp (fun b hb=>(tab1 b hb).1),swC fun b hb=>⟨(tab1 b hb).2.1,(tab1 b hb).2.2.1⟩]
  exact by8_eq (fun b hb=>(tab1 b hb).2.2.2) 8 x
theorem pc8 (x:Nat):pc 8 (x % 256) = pc 8 x:=pc_mod 8 x
theorem pc64 (x:Nat):pc 64 x = pc 8 (x % 256) + pc 8 (x / 256 % 256) + pc 8 (x / 65536 % 256) + pc 8 (x / 16777216 % 256) + pc 8 (x / 4294967296 % 256) + pc 8 (x / 1099511627776 % 256) + pc 8 (x / 281474976710656 % 256) + pc 8 (x / 72057594037927936 % 256):=by
  simp only [pc8]
  rw [show (64:Nat) = 8 + (8 + (8 + (8 + (8 + (8 + (8 + 8)))))) from rfl,pc_add,pc_add,pc_add,pc_add,pc_add,pc_add,pc_add]
  simp only [Nat.div_div_eq_div_mul,Nat.reducePow,Nat.reduceMul]
  omega
theorem sdv1 {a c:Nat} (h:a < 256):(a + 256 * c) / 256 = c:=by omega
theorem dv2 {a b c:Nat} (h:a + 256 * b < 65536):(a + 256 * (b + 256 * c)) / 65536 = c:=by omega
theorem dv4 {a b c d e:Nat} (h:a + 256 * b + 65536 * c + 16777216 * d < 4294967296):(a + 256 * (b + 256 * (c + 256 * (d + 256 * e)))) / 4294967296 = e:=by omega
theorem md1 {a b c d:Nat} (h:a + c < 128):((a + 256 * b) + (c + 256 * d)) % 128 = a + c:=by omega
theorem le1 {a t B:Nat} (ha:a ≤ 8) (ht:t ≤ B):a + 256 * t ≤ 8 + 256 * B:=by omega
theorem fold8 (p0 p1 p2 p3 p4 p5 p6 p7:Nat) (b0:p0 ≤ 8) (b1:p1 ≤ 8) (b2:p2 ≤ 8) (b3:p3 ≤ 8) (b4:p4 ≤ 8) (b5:p5 ≤ 8) (b6:p6 ≤ 8) (b7:p7 ≤ 8) {y z v:Nat} (hy:y = p0 + 256 * (p1 + 256 * (p2 + 256 * (p3 + 256 * (p4 + 256 * (p5 + 256 * (p6 + 256 * (p7 + 256 * 0)))))))) (hz:z = y + y / 256) (hv:v = z + z / 65536):y ≤ 578721382704613384∧(v + v / 4294967296) % 128 = p0 + p1 + p2 + p3 + p4 + p5 + p6 + p7:=by
  refine ⟨by rw [hy]; exact le1 b0 (le1 b1 (le1 b2 (le1 b3 (le1 b4 (le1 b5 (le1 b6 (le1 b7 (Nat.le_refl 0)))))))),?_⟩
  have e1:y / 256 = p1 + 256 * (p2 + 256 * (p3 + 256 * (p4 + 256 * (p5 + 256 * (p6 + 256 * (p7 + 256 * 0)))))):=by rw [hy]; exact sdv1 (by omega)
  have ez:z = (p0 + p1) + 256 * ((p1 + p2) + 256 * ((p2 + p3) + 256 * ((p3 + p4) + 256 * ((p4 + p5) + 256 * ((p5 + p6) + 256 * ((p6 + p7) + 256 * p7)))))):=by rw [hz,e1,hy]; clear hz e1 hy; omega
  clear hy e1 hz
  have e2:z / 65536 = (p2 + p3) + 256 * ((p3 + p4) + 256 * ((p4 + p5) + 256 * ((p5 + p6) + 256 * ((p6 + p7) + 256 * p7)))):=by rw [ez]; exact dv2 (by omega)
  have ev:v = (p0 + p1 + p2 + p3) + 256 * ((p1 + p2 + p3 + p4) + 256 * ((p2 + p3 + p4 + p5) + 256 * ((p3 + p4 + p5 + p6) + 256 * ((p4 + p5 + p6 + p7) + 256 * ((p5 + p6 + p7) + 256 * ((p6 + p7) + 256 * p7)))))):=by rw [hv,e2,ez]; clear hv e2 ez; omega
  clear hv e2 ez
  have e3:v / 4294967296 = (p4 + p5 + p6 + p7) + 256 * ((p5 + p6 + p7) + 256 * ((p6 + p7) + 256 * p7)):=by rw [ev]; exact dv4 (by omega)
  rw [e3,ev,md1 (by omega)]
  omega
theorem fold64 (x:Nat):∃ y,y = by8 (pc 8) 8 x∧y < 18446744073709551616∧y + y / 256 < 18446744073709551616∧(y + y / 256) + (y + y / 256) / 65536 < 18446744073709551616∧((y + y / 256) + (y + y / 256) / 65536) + ((y + y / 256) + (y + y / 256) / 65536) / 4294967296 < 9223372036854775808∧(((y + y / 256) + (y + y / 256) / 65536) + ((y + y / 256) + (y + y / 256) / 65536) / 4294967296) % 128 = pc 64 x:=by
  refine ⟨_,rfl,?_⟩
  rw [pc64]
  have hy:by8 (pc 8) 8 x = pc 8 (x % 256) + 256 * (pc 8 (x / 256 % 256) + 256 * (pc 8 (x / 65536 % 256) + 256 * (pc 8 (x / 16777216 % 256) + 256 * (pc 8 (x / 4294967296 % 256) + 256 * (pc 8 (x / 1099511627776 % 256) + 256 * (pc 8 (x / 281474976710656 % 256) + 256 * (pc 8 (x / 72057594037927936 % 256) + 256 * 0))))))):=by
    simp only [by8,Nat.div_div_eq_div_mul,Nat.reduceMul]
  obtain ⟨h1,h2⟩:=fold8 _ _ _ _ _ _ _ _ (pc_le 8 _) (pc_le 8 _) (pc_le 8 _) (pc_le 8 _) (pc_le 8 _) (pc_le 8 _) (pc_le 8 _) (pc_le 8 _) hy rfl rfl
  rw [h2]
  clear h2 hy
  generalize by8 (pc 8) 8 x = y at *
  refine ⟨by omega,by omega,by omega,by omega,rfl⟩
def rp8:Nat → Nat
  | 0=>0
  | k + 1=>1 + 256 * rp8 k
theorem by8_le {f:Nat → Nat} {c:Nat} (h:∀ b,b < 256 → f b ≤ c):∀ (k x:Nat),by8 f k x ≤ c * rp8 k
  | 0,_=>Nat.zero_le _
  | k + 1,x=>by
    have h1:=h (x % 256) (by omega)
    have h2:=by8_le h k (x / 256)
    have e:c * rp8 (k + 1) = c + 256 * (c * rp8 k):=by rw [rp8,Nat.mul_add,Nat.mul_one,Nat.mul_left_comm]
    rw [by8,e]; omega
theorem fAB_le:∀ b,b < 256 → fA b ≤ 170∧fB b ≤ 102:=by decide +kernel
/-! ### Masks -/
end Go.Proofs.YtfccehcnajelgaaGreatDoor
