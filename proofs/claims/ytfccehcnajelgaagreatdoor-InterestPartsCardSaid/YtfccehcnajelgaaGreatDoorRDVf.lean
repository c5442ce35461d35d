/- Plain laws: shares of any integers of 512 bits: read, told, checked, added, taken, multiplied, divided, compared. No program in sight but the printed functions. -/
import Derived.Test.YtfccehcnajelgaaGreatDoorRDVe
namespace Go.Proofs.YtfccehcnajelgaaGreatDoor
open Go
set_option maxRecDepth 8000
def Sg (q:Rat):TShare:=⟨Wg q.num,Wg q.den⟩
def FQ (q:Rat):Prop:=Fw q.num∧Fw (q.den:Int)
theorem Fw.fit {z:Int} (h:Fw z):Fit 8 z:=by
  have h1:=FB_HB
  have h2:=HB_pos
  unfold Fit
  show z.natAbs < FB
  have:=h.1
  have:=h.2
  omega
theorem FQ.n {q:Rat} (h:FQ q):Fit 8 q.num:=h.1.fit
theorem FQ.d {q:Rat} (h:FQ q):Fit 8 (q.den:Int):=h.2.fit
theorem FQ.ndnz {q:Rat}:(q.den:Int) ≠ 0:=by have:=q.den_pos; omega
theorem W8_Wg {z:Int} (h:Sm z):W8 z = Wg z:=by
  have hp:9223372036854775808 ≤ HB:=by unfold HB; decide
  have hf:=FB_HB
  refine Wg_of ?_
  unfold W8
  by_cases h0:z < 0
  · have e5:z % (FB:Int) = z + FB:=by
      rw [← Int.add_emod_right]
      exact Int.emod_eq_of_lt (by unfold Sm at h; omega) (by omega)
    rw [if_pos h0,e5]
    have hv:val (wv ((u64of z,18446744073709551615,18446744073709551615,18446744073709551615,18446744073709551615,18446744073709551615,18446744073709551615,18446744073709551615):T8)) = (u64of z).toNat + 18446744073709551616 * val [18446744073709551615,18446744073709551615,18446744073709551615,18446744073709551615,18446744073709551615,18446744073709551615,18446744073709551615]:=rfl
    have hc:18446744073709551616 * val [18446744073709551615,18446744073709551615,18446744073709551615,18446744073709551615,18446744073709551615,18446744073709551615,18446744073709551615] + 18446744073709551616 = FB:=by decide
    rw [hv,u64_neg h h0]
    unfold Sm at h
    omega
  · rw [if_neg h0,Int.emod_eq_of_lt (by omega) (by unfold Sm at h; omega)]
    have hv:val (wv ((u64of z,0,0,0,0,0,0,0):T8)) = (u64of z).toNat:=by unfold wv; simp [val]
    rw [hv,u64_pos h h0,toNat_of h.w]
    omega
theorem Sh_Sg {q:Rat} (h1:Sm q.num) (h2:Sm (q.den:Int)):Sh q = Sg q:=by unfold Sh Sg; rw [W8_Wg h1,W8_Wg h2]
theorem sreadG (n:Nat) (q:Rat) (h:FQ q) (hn:10 < n):share_Read_p n (Sg q) = some (Rt q):=by
  unfold share_Read_p
  rw [show (Sg q).fN = Wg q.num from rfl,show (Sg q).fD = Wg q.den from rfl,longerG n _ h.1 hn,obind,longerG n _ h.2 hn,obind]
  rfl
theorem checkG (n:Nat) (q:Rat) (h:FQ q) (hn:18446744073709551616 < n):share_Check_p n (Sg q) = some 0:=by
  have hd:=q.den_pos
  unfold share_Check_p
  rw [from_ok n 1 (by unfold Sm; decide) (by omega),obind,sreadG n q h (by omega),obind,show (Rt q).fx = L q.num from rfl,show (Rt q).ft = L q.den from rfl,side_ok,obind,Int.sign_eq_one_of_pos (by omega),if_neg (by decide)]
  rw [commonG n 8 _ _ h.n h.d (by decide) hn,obind,show Nat.gcd q.num.natAbs (q.den:Int).natAbs = 1 from q.reduced]
  unfold wide_Long_Cmp_p
  rw [minus_ok n 1 _ _ (by unfold Fit; decide) (by unfold Fit; decide) (by omega) (by omega),obind,side_ok]
  rfl
theorem valid1G (n:Nat) (q:Rat) (h:FQ q) (hn:18446744073709551616 < n):share_valid_1_p n (Sg q) = some true:=by
  unfold share_valid_1_p; rw [checkG n q h hn]; rfl
theorem validG (n:Nat) (l:List Rat) (h:∀ q ∈ l,FQ q) (hl:l.length < n) (hn:18446744073709551616 < n):share_valid_p n (l.map Sg) = some true:=by
  have hh:=loop_ok (B:=share_valid_l1 n (l.map Sg)) (fun i:Nat=>l.length - i) (fun i=>i ≤ l.length) (fun r=>r = .inr ()) ?_ n 0 (Nat.zero_le _) (by simpa using hl)
  · obtain ⟨r,e,rfl⟩:=hh
    unfold share_valid_p
    rw [e]; rfl
  · intro i J hi hJ
    unfold share_valid_l1
    simp only
    by_cases h0:i < l.length
    · rw [if_pos (by simpa using h0),List.getElem?_eq_getElem (by simpa using h0),obind,List.getElem_map]
      rw [valid1G n _ (h l[i] (List.getElem_mem _)) hn,obind,if_pos rfl]
      exact hJ (i + 1) h0 (by omega)
    · rw [if_neg (by simpa using h0)]
      exact ⟨_,rfl,rfl⟩
theorem valid2G (n:Nat) (a b:Rat) (ha:FQ a) (hb:FQ b) (hn:18446744073709551616 < n):share_valid_p n [Sg a,Sg b] = some true:=
  validG n [a,b] (fun q hq=>by
    rcases List.mem_cons.1 hq with rfl | hq
    · exact ha
    · rw [List.mem_singleton.1 hq]; exact hb) (by simp only [List.length_cons,List.length_nil]; omega) hn
theorem Fit.mul {l m:Nat} {a b:Int} (ha:Fit l a) (hb:Fit m b):Fit (l + m) (a * b):=by
  unfold Fit at *
  rw [Int.natAbs_mul,Nat.pow_add]
  exact Nat.mul_lt_mul'' ha hb
theorem Fit.add {l:Nat} {a b:Int} (ha:Fit l a) (hb:Fit l b):Fit (l + 1) (a + b):=by
  unfold Fit at *
  have:2 * 18446744073709551616 ^ l ≤ 18446744073709551616 ^ (l + 1):=by rw [Nat.pow_succ,Nat.mul_comm]; exact Nat.mul_le_mul_left _ (by decide)
  omega
theorem Fit.mono {l m:Nat} {a:Int} (ha:Fit l a) (h:l ≤ m):Fit m a:=Nat.lt_of_lt_of_le ha (Nat.pow_le_pow_right (by decide) h)
structure RF (l:Nat) (q:Rat):Prop where
  n:Fit l q.num
  d:Fit l (q.den:Int)
theorem RF.neg {l:Nat} {q:Rat} (h:RF l q):RF l (-q):=⟨by rw [Rat.neg_num]; exact h.n.neg,by rw [Rat.neg_den]; exact h.d⟩
end Go.Proofs.YtfccehcnajelgaaGreatDoor
