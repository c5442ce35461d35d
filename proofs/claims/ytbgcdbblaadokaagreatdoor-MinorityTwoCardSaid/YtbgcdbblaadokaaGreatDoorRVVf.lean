/- Plain laws: shares of any integers of 512 bits: read, told, checked, added, taken, multiplied, divided, compared. No program in sight but the printed functions. -/
import Derived.Test.YtbgcdbblaadokaaGreatDoorRVVe
namespace Go.Proofs.YtbgcdbblaadokaaGreatDoor
open Go
set_option maxRecDepth 8000
def Sg (q:Rat):TShare:=⟨Wg q.num,Wg q.den⟩
def FQ (q:Rat):Prop:=Fw q.num∧Fw (q.den:Int)
def noS:TShare:=⟨(0,0,0,0,0,0,0,0),(0,0,0,0,0,0,0,0)⟩
theorem Fw.fit {z:Int} (h:Fw z):Fit 8 z:=by
  have h1:=FB_HB
  have h2:=HB_pos
  unfold Fit
  show z.natAbs < FB
  have:=h.1
  have:=h.2
  omega
theorem FQ.n {q:Rat} (h:FQ q):Fit 8 q.num:=h.1.fit
theorem FQ.d {q:Rat} (h:FQ q):Fit 8 (q.den:Int):=h.2.fit
theorem FQ.ndnz {q:Rat}:(q.den:Int) ≠ 0:=by have:=q.den_pos; omega
theorem W8_Wg {z:Int} (h:Sm z):W8 z = Wg z:=by
  have hp:9223372036854775808 ≤ HB:=by unfold HB; decide
  have hf:=FB_HB
  refine Wg_of ?_
  unfold W8
  by_cases h0:z < 0
  · have e5:z % (FB:Int) = z + FB:=by
      rw [← Int.add_emod_right]
      exact Int.emod_eq_of_lt (by unfold Sm at h; omega) (by omega)
    rw [if_pos h0,e5]
    have hv:val (wv ((u64of z,18446744073709551615,18446744073709551615,18446744073709551615,18446744073709551615,18446744073709551615,18446744073709551615,18446744073709551615):T8)) = (u64of z).toNat + 18446744073709551616 * val [18446744073709551615,18446744073709551615,18446744073709551615,18446744073709551615,18446744073709551615,18446744073709551615,18446744073709551615]:=rfl
    have hc:18446744073709551616 * val [18446744073709551615,18446744073709551615,18446744073709551615,18446744073709551615,18446744073709551615,18446744073709551615,18446744073709551615] + 18446744073709551616 = FB:=by decide
    rw [hv,u64_neg h h0]
    unfold Sm at h
    omega
  · rw [if_neg h0,Int.emod_eq_of_lt (by omega) (by unfold Sm at h; omega)]
    have hv:val (wv ((u64of z,0,0,0,0,0,0,0):T8)) = (u64of z).toNat:=by unfold wv; simp [val]
    rw [hv,u64_pos h h0,toNat_of h.w]
    omega
theorem Sh_Sg {q:Rat} (h1:Sm q.num) (h2:Sm (q.den:Int)):Sh q = Sg q:=by unfold Sh Sg; rw [W8_Wg h1,W8_Wg h2]
theorem Wg_inj {x y:Int} (hx:Fw x) (hy:Fw y) (e:Wg x = Wg y):x = y:=by
  have h1:=Wg_val x
  have h2:=Wg_val y
  rw [e,h2] at h1
  have hf:=FB_HB
  have hp:=HB_pos
  have a:=hx.1; have b:=hx.2; have c:=hy.1; have d:=hy.2
  have e3:=Int.emod_eq_emod_iff_emod_sub_eq_zero.1 h1
  obtain ⟨k,hk⟩:=Int.dvd_of_emod_eq_zero e3
  by_cases k0:k = 0
  · rw [k0,Int.mul_zero] at hk; omega
  · by_cases kp:1 ≤ k
    · have:(FB:Int) * 1 ≤ FB * k:=Int.mul_le_mul_of_nonneg_left kp (by omega)
      omega
    · have:(FB:Int) * k ≤ FB * (-1):=Int.mul_le_mul_of_nonneg_left (show k ≤ -1 by omega) (by omega)
      omega
theorem Sg_inj {x y:Rat} (hx:FQ x) (hy:FQ y) (e:Sg x = Sg y):x = y:=by
  unfold Sg at e
  injection e with e1 e2
  have h1:=Wg_inj hx.1 hy.1 e1
  have h2:=Wg_inj hx.2 hy.2 e2
  exact Rat.ext h1 (by omega)
theorem sreadG (n:Nat) (q:Rat) (h:FQ q) (hn:10 < n):share_Read_p n (Sg q) = some (Rt q):=by
  unfold share_Read_p
  rw [show (Sg q).fN = Wg q.num from rfl,show (Sg q).fD = Wg q.den from rfl,longerG n _ h.1 hn,obind,longerG n _ h.2 hn,obind]
  rfl
open Classical in
theorem rtoldG (n:Nat) (q:Rat) (hn:10 < n):share_Ratio_Told_p n (Rt q) = some (if FQ q then (Sg q,0) else (noS,6)):=by
  unfold share_Ratio_Told_p
  rw [show (Rt q).ft = L q.num from rfl,show (Rt q).fp = L q.den from rfl,toldG n _ hn,obind,toldG n _ hn,obind]
  by_cases h1:Fw q.num
  · by_cases h2:Fw (q.den:Int)
    · rw [if_pos h1,if_pos h2,if_pos (show FQ q from ⟨h1,h2⟩)]
      rfl
    · rw [if_pos h1,if_neg h2,if_neg fun h:FQ q=>h2 h.2]
      rfl
  · rw [if_neg h1,if_neg fun h:FQ q=>h1 h.1]
    rfl
theorem checkG (n:Nat) (q:Rat) (h:FQ q) (hn:18446744073709551616 < n):share_Check_p n (Sg q) = some 0:=by
  have hd:=q.den_pos
  unfold share_Check_p
  rw [from_ok n 1 (by unfold Sm; decide) (by omega),obind,sreadG n q h (by omega),obind,show (Rt q).ft = L q.num from rfl,show (Rt q).fp = L q.den from rfl,side_ok,obind,Int.sign_eq_one_of_pos (by omega),if_neg (by decide)]
  rw [commonG n 8 _ _ h.n h.d (by decide) hn,obind,show Nat.gcd q.num.natAbs (q.den:Int).natAbs = 1 from q.reduced]
  unfold wide_Long_Cmp_p
  rw [minus_ok n 1 _ _ (by unfold Fit; decide) (by unfold Fit; decide) (by omega) (by omega),obind,side_ok]
  rfl
theorem valid1G (n:Nat) (q:Rat) (h:FQ q) (hn:18446744073709551616 < n):share_valid_1_p n (Sg q) = some true:=by
  unfold share_valid_1_p; rw [checkG n q h hn]; rfl
theorem validG (n:Nat) (l:List Rat) (h:∀ q ∈ l,FQ q) (hl:l.length < n) (hn:18446744073709551616 < n):share_valid_p n (l.map Sg) = some true:=by
  have hh:=loop_ok (B:=share_valid_l1 n (l.map Sg)) (fun i:Nat=>l.length - i) (fun i=>i ≤ l.length) (fun r=>r = .inr ()) ?_ n 0 (Nat.zero_le _) (by simpa using hl)
  · obtain ⟨r,e,rfl⟩:=hh
    unfold share_valid_p
    rw [e]; rfl
  · intro i J hi hJ
    unfold share_valid_l1
    simp only
    by_cases h0:i < l.length
    · rw [if_pos (by simpa using h0),List.getElem?_eq_getElem (by simpa using h0),obind,List.getElem_map]
      rw [valid1G n _ (h l[i] (List.getElem_mem _)) hn,obind,if_pos rfl]
      exact hJ (i + 1) h0 (by omega)
    · rw [if_neg (by simpa using h0)]
      exact ⟨_,rfl,rfl⟩
theorem valid2G (n:Nat) (a b:Rat) (ha:FQ a) (hb:FQ b) (hn:18446744073709551616 < n):share_valid_p n [Sg a,Sg b] = some true:=
  validG n [a,b] (fun q hq=>by
    rcases List.mem_cons.1 hq with rfl | hq
    · exact ha
    · rw [List.mem_singleton.1 hq]; exact hb) (by simp only [List.length_cons,List.length_nil]; omega) hn
theorem Fit.mul {l m:Nat} {a b:Int} (ha:Fit l a) (hb:Fit m b):Fit (l + m) (a * b):=by
  unfold Fit at *
  rw [Int.natAbs_mul,Nat.pow_add]
  exact Nat.mul_lt_mul'' ha hb
theorem Fit.add {l:Nat} {a b:Int} (ha:Fit l a) (hb:Fit l b):Fit (l + 1) (a + b):=by
  unfold Fit at *
  have:2 * 18446744073709551616 ^ l ≤ 18446744073709551616 ^ (l + 1):=by rw [Nat.pow_succ,Nat.mul_comm]; exact Nat.mul_le_mul_left _ (by decide)
  omega
theorem Fit.mono {l m:Nat} {a:Int} (ha:Fit l a) (h:l ≤ m):Fit m a:=Nat.lt_of_lt_of_le ha (Nat.pow_le_pow_right (by decide) h)
structure RF (l:Nat) (q:Rat):Prop where
  n:Fit l q.num
  d:Fit l (q.den:Int)
theorem FQ.rf {q:Rat} (h:FQ q):RF 8 q:=⟨h.n,h.d⟩
theorem RF.of {l:Nat} {a b:Int} (ha:Fit l a) (hb:Fit l b) (h1:(Rat.divInt a b).num.natAbs ≤ a.natAbs) (h2:(Rat.divInt a b).den ≤ b.natAbs):RF l (Rat.divInt a b):=
  ⟨Nat.lt_of_le_of_lt h1 ha,by unfold Fit; rw [Int.natAbs_natCast]; exact Nat.lt_of_le_of_lt h2 hb⟩
theorem plusG (n l:Nat) (a b:Rat) (ha:RF l a) (hb:RF l b) (hl:l < 1000) (hn:18446744073709551616 < n):share_Ratio_Plus_p n (Rt a) (Rt b) = some (Rt (a + b))∧RF (l + l + 1) (a + b):=by
  have d0:(a.den:Int) * b.den ≠ 0:=Int.mul_ne_zero FQ.ndnz FQ.ndnz
  have e:a + b = Rat.divInt (a.num * b.den + b.num * a.den) (a.den * b.den):=by
    conv=>lhs; rw [← Rat.num_divInt_den a,← Rat.num_divInt_den b]
    exact Rat.divInt_add_divInt _ _ FQ.ndnz FQ.ndnz
  have f1:=(ha.n.mul hb.d).add (hb.n.mul ha.d)
  have f2:=(ha.d.mul hb.d).mono (show l + l ≤ l + l + 1 by omega)
  obtain ⟨e1,e2,e3⟩:=lowestG n (l + l + 1) _ _ f1 f2 d0 (by omega) hn
  rw [← e] at e1 e2 e3
  refine ⟨?_,?_⟩
  · unfold share_Ratio_Plus_p Rt
    rw [times_ok n l l _ _ ha.n hb.d (by omega) (by omega),obind,times_ok n l l _ _ hb.n ha.d (by omega) (by omega),obind,plus_ok n (l + l) _ _ (ha.n.mul hb.d) (hb.n.mul ha.d) (by omega) (by omega),obind,times_ok n l l _ _ ha.d hb.d (by omega) (by omega),obind,e1]
    rfl
  · rw [e]; rw [e] at e2 e3; exact RF.of f1 f2 e2 e3
theorem timesG (n l:Nat) (a b:Rat) (ha:RF l a) (hb:RF l b) (hl:l < 1000) (hn:18446744073709551616 < n):share_Ratio_Times_p n (Rt a) (Rt b) = some (Rt (a * b))∧RF (l + l) (a * b):=by
  have d0:(a.den:Int) * b.den ≠ 0:=Int.mul_ne_zero FQ.ndnz FQ.ndnz
  have e:a * b = Rat.divInt (a.num * b.num) (a.den * b.den):=by
    conv=>lhs; rw [← Rat.num_divInt_den a,← Rat.num_divInt_den b]
    exact Rat.divInt_mul_divInt _ _
  have f1:=ha.n.mul hb.n
  have f2:=ha.d.mul hb.d
  obtain ⟨e1,e2,e3⟩:=lowestG n (l + l) _ _ f1 f2 d0 (by omega) hn
  rw [← e] at e1 e2 e3
  refine ⟨?_,?_⟩
  · unfold share_Ratio_Times_p Rt
    rw [times_ok n l l _ _ ha.n hb.n (by omega) (by omega),obind,times_ok n l l _ _ ha.d hb.d (by omega) (by omega),obind,e1]
    rfl
  · rw [e]; rw [e] at e2 e3; exact RF.of f1 f2 e2 e3
theorem overG (n l:Nat) (a b:Rat) (ha:RF l a) (hb:RF l b) (h0:b ≠ 0) (hl:l < 1000) (hn:18446744073709551616 < n):share_Ratio_Over_p n (Rt a) (Rt b) = some (Rt (a / b))∧RF (l + l) (a / b):=by
  have b0:b.num ≠ 0:=fun e=>h0 (Rat.num_eq_zero.1 e)
  have d0:(a.den:Int) * b.num ≠ 0:=Int.mul_ne_zero FQ.ndnz b0
  have e:a / b = Rat.divInt (a.num * b.den) (a.den * b.num):=by
    conv=>lhs; rw [Rat.div_def,← Rat.num_divInt_den a,← Rat.num_divInt_den b,Rat.inv_divInt]
    exact Rat.divInt_mul_divInt _ _
  have f1:=ha.n.mul hb.d
  have f2:=ha.d.mul hb.n
  obtain ⟨e1,e2,e3⟩:=lowestG n (l + l) _ _ f1 f2 d0 (by omega) hn
  rw [← e] at e1 e2 e3
  refine ⟨?_,?_⟩
  · unfold share_Ratio_Over_p Rt
    rw [times_ok n l l _ _ ha.n hb.d (by omega) (by omega),obind,times_ok n l l _ _ ha.d hb.n (by omega) (by omega),obind,e1]
    rfl
  · rw [e]; rw [e] at e2 e3; exact RF.of f1 f2 e2 e3
theorem RF.neg {l:Nat} {q:Rat} (h:RF l q):RF l (-q):=⟨by rw [Rat.neg_num]; exact h.n.neg,by rw [Rat.neg_den]; exact h.d⟩
theorem turnedG (n l:Nat) (a:Rat) (ha:RF l a) (hl:l < 1000) (hn:18446744073709551616 < n):share_Ratio_Turned_p n (Rt a) = some (Rt (-a)):=by
  unfold share_Ratio_Turned_p Rt
  rw [turned_ok n l _ ha.n (by omega) (by omega),obind,Rat.neg_num,Rat.neg_den]
open Classical in
theorem stoldG (n:Nat) (q:Rat) (hn:10 < n):share_told_p n (Rt q) 0 = some (if FQ q then (Sg q,0) else (noS,6)):=by
  unfold share_told_p
  rw [if_pos rfl,rtoldG n q hn]
  rfl
open Classical in
theorem addG (n:Nat) (a b:Rat) (ha:FQ a) (hb:FQ b) (hn:18446744073709551616 < n):share_Add_p n (Sg a) (Sg b) = some (if FQ (a + b) then (Sg (a + b),0) else (noS,6)):=by
  obtain ⟨e1,_⟩:=plusG n 8 a b ha.rf hb.rf (by decide) hn
  unfold share_Add_p
  rw [valid2G n a b ha hb hn,obind,if_pos rfl,sreadG n a ha (by omega),obind,sreadG n b hb (by omega),obind,e1,obind,stoldG n _ (by omega)]
  rfl
open Classical in
theorem subG (n:Nat) (a b:Rat) (ha:FQ a) (hb:FQ b) (hn:18446744073709551616 < n):share_Sub_p n (Sg a) (Sg b) = some (if FQ (a - b) then (Sg (a - b),0) else (noS,6)):=by
  obtain ⟨e1,_⟩:=plusG n 8 a (-b) ha.rf hb.rf.neg (by decide) hn
  rw [← Rat.sub_eq_add_neg] at e1
  unfold share_Sub_p
  rw [valid2G n a b ha hb hn,obind,if_pos rfl,sreadG n a ha (by omega),obind,sreadG n b hb (by omega),obind]
  unfold share_Ratio_Minus_p
  rw [turnedG n 8 b hb.rf (by decide) hn,obind,e1,obind,obind,stoldG n _ (by omega)]
  rfl
open Classical in
theorem mulG (n:Nat) (a b:Rat) (ha:FQ a) (hb:FQ b) (hn:18446744073709551616 < n):share_Mul_p n (Sg a) (Sg b) = some (if FQ (a * b) then (Sg (a * b),0) else (noS,6)):=by
  obtain ⟨e1,_⟩:=timesG n 8 a b ha.rf hb.rf (by decide) hn
  unfold share_Mul_p
  rw [valid2G n a b ha hb hn,obind,if_pos rfl,sreadG n a ha (by omega),obind,sreadG n b hb (by omega),obind,e1,obind,stoldG n _ (by omega)]
  rfl
theorem Wg_zero:Wg 0 = (0,0,0,0,0,0,0,0):=(Wg_of (by decide)).symm
open Classical in
theorem divG (n:Nat) (a b:Rat) (ha:FQ a) (hb:FQ b) (h0:b ≠ 0) (hn:18446744073709551616 < n):share_Div_p n (Sg a) (Sg b) = some (if FQ (a / b) then (Sg (a / b),0) else (noS,6)):=by
  obtain ⟨e1,_⟩:=overG n 8 a b ha.rf hb.rf h0 (by decide) hn
  have hz:Fw 0:=⟨by have:=HB_pos; omega,by have:=HB_pos; omega⟩
  unfold share_Div_p
  rw [valid2G n a b ha hb hn,obind,if_pos rfl,if_neg (show ¬ (Sg b).fN = (0,0,0,0,0,0,0,0) from fun e=>h0 (Rat.num_eq_zero.1 (Wg_inj hb.1 hz (e.trans Wg_zero.symm)))),obind,if_pos rfl,sreadG n a ha (by omega),obind,sreadG n b hb (by omega),obind,e1,obind,stoldG n _ (by omega)]
  rfl
end Go.Proofs.YtbgcdbblaadokaaGreatDoor
