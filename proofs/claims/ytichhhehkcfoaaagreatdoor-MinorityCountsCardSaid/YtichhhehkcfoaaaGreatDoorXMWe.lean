/- Plain laws: shares of small numbers. No program in sight but the printed functions. -/
import Derived.Test.YtichhhehkcfoaaaGreatDoorXMWd
namespace Go.Proofs.YtichhhehkcfoaaaGreatDoor
open Go
def SmQ (q:Rat):Prop:=q.num.natAbs < 2147483648∧q.den < 2147483648
theorem SmQ.n {q:Rat} (h:SmQ q):Sm q.num:=by have:=h.1; unfold Sm; omega
theorem SmQ.d {q:Rat} (h:SmQ q):Sm (q.den:Int):=by have:=h.2; unfold Sm; omega
theorem W8_ne {z:Int} (h:Sm z) (h0:z ≠ 0):W8 z ≠ (0,0,0,0,0,0,0,0):=fun e=>by
  have e1:u64of z = 0:=by
    have:=congrArg Prod.fst e
    unfold W8 at this
    split at this <;> exact this
  by_cases hz:z < 0
  · have:=u64_neg h hz
    rw [e1] at this; unfold Sm at h; simp at this; omega
  · rw [u64_pos h hz] at e1
    exact ofNat_ne (by omega) h.w e1
theorem rtold_ok (n:Nat) (q:Rat) (h1:Sm q.num) (h2:Sm (q.den:Int)) (hn:10 < n):share_Ratio_Told_p n (Rt q) = some (Sh q,0):=by
  unfold share_Ratio_Told_p
  rw [show (Rt q).ft = L q.num from rfl,show (Rt q).fp = L q.den from rfl,told_ok n _ h1 hn,obind,told_ok n _ h2 hn,obind]
  rfl
theorem sread_ok (n:Nat) (q:Rat) (h1:Sm q.num) (h2:Sm (q.den:Int)) (hn:10 < n):share_Read_p n (Sh q) = some (Rt q):=by
  unfold share_Read_p
  rw [show (Sh q).fN = W8 q.num from rfl,show (Sh q).fD = W8 q.den from rfl,longer_ok n _ h1 hn,obind,longer_ok n _ h2 hn,obind]
  rfl
theorem check_ok (n:Nat) (q:Rat) (h1:Sm q.num) (h2:Sm (q.den:Int)) (hn:18446744073709551616 < n):share_Check_p n (Sh q) = some 0:=by
  have hd:=q.den_pos
  unfold share_Check_p
  rw [from_ok n 1 (by unfold Sm; decide) (by omega),obind,sread_ok n q h1 h2 (by omega),obind,show (Rt q).ft = L q.num from rfl,show (Rt q).fp = L q.den from rfl,side_ok,obind,Int.sign_eq_one_of_pos (by omega),if_neg (by decide)]
  rw [common_ok n _ _ h1.w h2.w hn,obind,show Nat.gcd q.num.natAbs (q.den:Int).natAbs = 1 from q.reduced]
  unfold wide_Long_Cmp_p
  rw [minus_ok n 1 _ _ (by unfold Fit; decide) (by unfold Fit; decide) (by omega) (by omega),obind,side_ok]
  rfl
theorem valid1_ok (n:Nat) (q:Rat) (h1:Sm q.num) (h2:Sm (q.den:Int)) (hn:18446744073709551616 < n):share_valid_1_p n (Sh q) = some true:=by
  unfold share_valid_1_p; rw [check_ok n q h1 h2 hn]; rfl
theorem valid_ok (n:Nat) (l:List Rat) (h:∀ q ∈ l,Sm q.num∧Sm (q.den:Int)) (hl:l.length < n) (hn:18446744073709551616 < n):share_valid_p n (l.map Sh) = some true:=by
  have hh:=loop_ok (B:=share_valid_l1 n (l.map Sh)) (fun i:Nat=>l.length - i) (fun i=>i ≤ l.length) (fun r=>r = .inr ()) ?_ n 0 (Nat.zero_le _) (by simpa using hl)
  · obtain ⟨r,e,rfl⟩:=hh
    unfold share_valid_p
    rw [e]; rfl
  · intro i J hi hJ
    unfold share_valid_l1
    simp only
    by_cases h0:i < l.length
    · rw [if_pos (by simpa using h0),List.getElem?_eq_getElem (by simpa using h0),obind,List.getElem_map]
      have:=h l[i] (List.getElem_mem _)
      rw [valid1_ok n _ this.1 this.2 hn,obind,if_pos rfl]
      exact hJ (i + 1) h0 (by omega)
    · rw [if_neg (by simpa using h0)]
      exact ⟨_,rfl,rfl⟩
theorem valid2_ok (n:Nat) (a b:Rat) (ha:SmQ a) (hb:SmQ b) (hn:18446744073709551616 < n):share_valid_p n [Sh a,Sh b] = some true:=
  valid_ok n [a,b] (fun q hq=>by
    rcases List.mem_cons.1 hq with rfl | hq
    · exact ⟨ha.n,ha.d⟩
    · rw [List.mem_singleton.1 hq]; exact ⟨hb.n,hb.d⟩) (by simp only [List.length_cons,List.length_nil]; omega) hn
theorem share_of_ok (n:Nat) (a b:Int) (ha:Sm a) (hb:Sm b) (h0:b ≠ 0) (hn:18446744073709551616 < n):share_Of_p n a b = some (Sh (Rat.divInt a b),0):=by
  obtain ⟨e1,e2,e3⟩:=lowest_ok n a b ha.w hb.w h0 hn
  unfold share_Of_p
  rw [of_ok n a (by omega),obind,of_ok n b (by omega),obind]
  unfold share_Make_p
  rw [if_neg (W8_ne hb h0),longer_ok n a ha (by omega),obind,longer_ok n b hb (by omega),obind,e1,obind,rtold_ok n _ (by unfold Sm at *; omega) (by unfold Sm at *; omega) (by omega)]
  rfl
theorem mul_small {a b:Nat} (ha:a < 2147483648) (hb:b < 2147483648):a * b < 4611686018427387904:=by
  have:a * b ≤ 2147483647 * 2147483647:=Nat.mul_le_mul (by omega) (by omega)
  omega
theorem SmQ.fitn {q:Rat} (h:SmQ q):Fit 1 q.num:=h.n.w.fit
theorem SmQ.fitd {q:Rat} (h:SmQ q):Fit 1 (q.den:Int):=h.d.w.fit
theorem plus_q (n:Nat) (a b:Rat) (ha:SmQ a) (hb:SmQ b) (hn:18446744073709551616 < n):share_Ratio_Plus_p n (Rt a) (Rt b) = some (Rt (a + b))∧Sm (a + b).num∧Sm ((a + b).den:Int):=by
  have p1:=mul_small ha.1 hb.2
  have p2:=mul_small hb.1 ha.2
  have p3:=mul_small ha.2 hb.2
  have q1:(a.num * b.den).natAbs < 4611686018427387904:=by rw [Int.natAbs_mul]; exact p1
  have q2:(b.num * a.den).natAbs < 4611686018427387904:=by rw [Int.natAbs_mul]; exact p2
  have q3:((a.den:Int) * b.den).natAbs < 4611686018427387904:=by rw [Int.natAbs_mul]; exact p3
  have d0:(a.den:Int) * b.den ≠ 0:=Int.mul_ne_zero (by have:=a.den_pos; omega) (by have:=b.den_pos; omega)
  have e:a + b = Rat.divInt (a.num * b.den + b.num * a.den) (a.den * b.den):=by
    conv=>lhs; rw [← Rat.num_divInt_den a,← Rat.num_divInt_den b]
    exact Rat.divInt_add_divInt _ _ (by have:=a.den_pos; omega) (by have:=b.den_pos; omega)
  obtain ⟨e1,e2,e3⟩:=lowest_ok n (a.num * b.den + b.num * a.den) (a.den * b.den) (by unfold W1; omega) (by unfold W1; omega) d0 hn
  rw [← e] at e1 e2 e3
  refine ⟨?_,by unfold Sm; omega,by unfold Sm; omega⟩
  unfold share_Ratio_Plus_p Rt
  rw [times_ok n 1 1 _ _ ha.fitn hb.fitd (by omega) (by omega),obind,times_ok n 1 1 _ _ hb.fitn ha.fitd (by omega) (by omega),obind,plus_ok n 1 _ _ (by unfold Fit; omega) (by unfold Fit; omega) (by omega) (by omega),obind,times_ok n 1 1 _ _ ha.fitd hb.fitd (by omega) (by omega),obind,e1]
  rfl
theorem times_q (n:Nat) (a b:Rat) (ha:SmQ a) (hb:SmQ b) (hn:18446744073709551616 < n):share_Ratio_Times_p n (Rt a) (Rt b) = some (Rt (a * b))∧Sm (a * b).num∧Sm ((a * b).den:Int):=by
  have p1:=mul_small ha.1 hb.1
  have p3:=mul_small ha.2 hb.2
  have q1:(a.num * b.num).natAbs < 4611686018427387904:=by rw [Int.natAbs_mul]; exact p1
  have q3:((a.den:Int) * b.den).natAbs < 4611686018427387904:=by rw [Int.natAbs_mul]; exact p3
  have d0:(a.den:Int) * b.den ≠ 0:=Int.mul_ne_zero (by have:=a.den_pos; omega) (by have:=b.den_pos; omega)
  have e:a * b = Rat.divInt (a.num * b.num) (a.den * b.den):=by
    conv=>lhs; rw [← Rat.num_divInt_den a,← Rat.num_divInt_den b]
    exact Rat.divInt_mul_divInt _ _
  obtain ⟨e1,e2,e3⟩:=lowest_ok n (a.num * b.num) (a.den * b.den) (by unfold W1; omega) (by unfold W1; omega) d0 hn
  rw [← e] at e1 e2 e3
  refine ⟨?_,by unfold Sm; omega,by unfold Sm; omega⟩
  unfold share_Ratio_Times_p Rt
  rw [times_ok n 1 1 _ _ ha.fitn hb.fitn (by omega) (by omega),obind,times_ok n 1 1 _ _ ha.fitd hb.fitd (by omega) (by omega),obind,e1]
  rfl
theorem SmQ.neg {q:Rat} (h:SmQ q):SmQ (-q):=by unfold SmQ at *; rw [Rat.neg_num,Rat.neg_den,Int.natAbs_neg]; exact h
theorem share_add_ok (n:Nat) (a b:Rat) (ha:SmQ a) (hb:SmQ b) (hn:18446744073709551616 < n):share_Add_p n (Sh a) (Sh b) = some (Sh (a + b),0):=by
  obtain ⟨e1,e2,e3⟩:=plus_q n a b ha hb hn
  unfold share_Add_p
  rw [valid2_ok n a b ha hb hn,obind,if_pos rfl,sread_ok n a ha.n ha.d (by omega),obind,sread_ok n b hb.n hb.d (by omega),obind,e1,obind]
  unfold share_told_p
  rw [if_pos rfl,rtold_ok n _ e2 e3 (by omega)]
  rfl
theorem share_mul_ok (n:Nat) (a b:Rat) (ha:SmQ a) (hb:SmQ b) (hn:18446744073709551616 < n):share_Mul_p n (Sh a) (Sh b) = some (Sh (a * b),0):=by
  obtain ⟨e1,e2,e3⟩:=times_q n a b ha hb hn
  unfold share_Mul_p
  rw [valid2_ok n a b ha hb hn,obind,if_pos rfl,sread_ok n a ha.n ha.d (by omega),obind,sread_ok n b hb.n hb.d (by omega),obind,e1,obind]
  unfold share_told_p
  rw [if_pos rfl,rtold_ok n _ e2 e3 (by omega)]
  rfl
end Go.Proofs.YtichhhehkcfoaaaGreatDoor
