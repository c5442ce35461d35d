/- Plain laws: small fractions compared, rounded. No program in sight but the printed functions. -/
import Derived.Test.YtmhgoecnjleagaaGreatDoorXWTb
namespace Go.Proofs.YtmhgoecnjleagaaGreatDoor
open Go
theorem num_mul {a b:Int} (hb:b ≠ 0):(Rat.divInt a b).num * b = a * (Rat.divInt a b).den:=by
  have h:=Rat.num_divInt_den (Rat.divInt a b)
  exact (Rat.divInt_eq_divInt_iff (by have:=(Rat.divInt a b).den_pos; omega) hb).1 h
theorem q_le {a b c d:Int} (hb:0 < b) (hd:0 < d):Rat.divInt a b ≤ Rat.divInt c d ↔ a * d ≤ c * b:=by
  have e1:=num_mul (a:=a) (b:=b) (by omega)
  have e2:=num_mul (a:=c) (b:=d) (by omega)
  have p1:=(Rat.divInt a b).den_pos
  have p2:=(Rat.divInt c d).den_pos
  rw [Rat.le_iff]
  generalize (Rat.divInt a b).num = x at *
  generalize (Rat.divInt c d).num = y at *
  generalize (Rat.divInt a b).den = u at *
  generalize (Rat.divInt c d).den = v at *
  have hbd:0 < b * d:=Int.mul_pos hb hd
  have huv:0 < (u:Int) * v:=Int.mul_pos (by omega) (by omega)
  have h1:x * v * (b * d) = a * d * (u * v):=by
    have:x * v * (b * d) = x * b * (v * d):=by grind
    rw [this,e1]; grind
  have h2:y * u * (b * d) = c * b * (u * v):=by
    have:y * u * (b * d) = y * d * (u * b):=by grind
    rw [this,e2]; grind
  rw [← Int.mul_le_mul_right (b:=x * v) hbd,h1,h2]
  exact Int.mul_le_mul_right huv
theorem q_eq {a b c d:Int} (hb:0 < b) (hd:0 < d):Rat.divInt a b = Rat.divInt c d ↔ a * d = c * b:=Rat.divInt_eq_divInt_iff (by omega) (by omega)
theorem q_floor {a b:Int} (hb:0 < b):(Rat.divInt a b).num / ((Rat.divInt a b).den:Int) = a / b:=by
  have e1:=num_mul (a:=a) (b:=b) (by omega)
  have p1:=(Rat.divInt a b).den_pos
  generalize (Rat.divInt a b).num = x at *
  generalize (Rat.divInt a b).den = u at *
  rw [← Int.mul_ediv_mul_of_pos_left x (u:Int) hb,e1,Int.mul_comm (u:Int) b,Int.mul_ediv_mul_of_pos_left a b (by omega)]
theorem ratio_cmp (a b:Rat) (ha:SmQ a) (hb:SmQ b):share_Ratio_Cmp_p FU (Rt a) (Rt b) = some ((a.num * b.den - b.num * a.den).sign):=by
  have hF:=FU_big
  have p1:=mul_small ha.1 hb.2
  have p2:=mul_small hb.1 ha.2
  have q1:(a.num * b.den).natAbs < 4611686018427387904:=by rw [Int.natAbs_mul]; exact p1
  have q2:(b.num * a.den).natAbs < 4611686018427387904:=by rw [Int.natAbs_mul]; exact p2
  unfold share_Ratio_Cmp_p Rt
  rw [times_ok FU 1 1 _ _ ha.fitn hb.fitd (by omega) (by omega),obind,times_ok FU 1 1 _ _ hb.fitn ha.fitd (by omega) (by omega),obind]
  unfold wide_Long_Cmp_p
  rw [minus_ok FU 1 _ _ (by unfold Fit; omega) (by unfold Fit; omega) (by omega) (by omega),obind,side_ok]
  rfl
theorem sign_le (a b:Rat):(a.num * b.den - b.num * a.den).sign ≤ 0 ↔ a ≤ b:=by
  rw [Rat.le_iff,Int.sign_nonpos_iff]
  omega
theorem share_cmp_ok (a b:Rat) (ha:SmQ a) (hb:SmQ b):share_Cmp_p FU (Sh a) (Sh b) = some ((a.num * b.den - b.num * a.den).sign,0):=by
  have hF:=FU_big
  unfold share_Cmp_p
  rw [valid2_ok FU a b ha hb FU_big,obind,if_pos rfl,sread_ok FU a ha.n ha.d (by omega),obind,sread_ok FU b hb.n hb.d (by omega),obind,ratio_cmp a b ha hb,obind]
theorem atMost_ok (a b:Rat) (ha:SmQ a) (hb:SmQ b):wardmotelaw22_atMost_p FU (Sh a) (Sh b) = some (decide (a ≤ b)):=by
  unfold wardmotelaw22_atMost_p
  rw [share_cmp_ok a b ha hb,obind]
  simp only [if_true]
  exact congrArg some (decide_eq_decide.2 (sign_le a b))
def qabs (a:Rat):Rat:=if -a ≤ a then a else -a
theorem share_abs_ok (a:Rat) (ha:SmQ a):share_Abs_p FU (Sh a) = some (Sh (qabs a),0):=by
  have hF:=FU_big
  unfold share_Abs_p
  rw [valid2_ok FU a a ha ha FU_big,obind,if_pos rfl,sread_ok FU a ha.n ha.d (by omega),obind,obind]
  unfold share_Abs_1_p
  rw [turned_q FU a ha (by omega),obind]
  unfold share_Ratio_greater_p
  rw [turned_q FU a ha (by omega),obind,turned_q FU (-a) ha.neg (by omega),obind,Rat.neg_neg]
  unfold share_Ratio_lesser_p
  rw [ratio_cmp (-a) a ha.neg ha,obind]
  unfold qabs share_told_p
  by_cases h:-a ≤ a
  · rw [if_pos ((sign_le _ _).2 h),if_pos h,obind,turned_q FU (-a) ha.neg (by omega),obind,Rat.neg_neg]
    simp only [obind,if_true]
    rw [rtold_ok FU a ha.n ha.d (by omega),obind,obind]
  · rw [if_neg fun h2=>h ((sign_le _ _).1 h2),if_neg h,obind,turned_q FU a ha (by omega),obind]
    simp only [obind,if_true]
    rw [rtold_ok FU (-a) ha.neg.n ha.neg.d (by omega),obind,obind]
theorem share_sign_ok (a:Rat) (ha:SmQ a):share_Sign_p FU (Sh a) = some (a.num.sign,0):=by
  have hF:=FU_big
  unfold share_Sign_p
  rw [valid2_ok FU a a ha ha FU_big,obind,if_pos rfl,sread_ok FU a ha.n ha.d (by omega),obind,obind]
  unfold share_Sign_1_p
  rw [show (Rt a).fLong = L a.num from rfl,side_ok]
  rfl
theorem valid1s (a:Rat) (ha:SmQ a):share_valid_p FU [Sh a] = some true:=
  valid_ok FU [a] (fun q hq=>by rw [List.mem_singleton.1 hq]; exact ⟨ha.n,ha.d⟩) (by have:=FU_big; simp only [List.length_cons,List.length_nil]; omega) FU_big
theorem down_ok (a:Rat) (ha:SmQ a):share_Ratio_Down_p FU (Rt a) = some (L (a.num / a.den)):=by
  have hF:=FU_big
  have:=a.den_pos
  unfold share_Ratio_Down_p
  rw [show (Rt a).fLong = L a.num from rfl,show (Rt a).fUnder = L a.den from rfl,parts_ok FU _ _ ha.n.w ha.d.w (by omega) (by omega)]
  rfl
theorem div_small {x:Int} {d:Nat} (hx:Sm x):Sm (x / (d:Int)):=by
  unfold Sm at *
  have:=Int.natAbs_ediv_le_natAbs x (d:Int)
  omega
theorem share_floor_ok (a:Rat) (ha:SmQ a):share_Floor_p FU (Sh a) = some (W8 (a.num / a.den),0):=by
  have hF:=FU_big
  unfold share_Floor_p
  rw [valid1s a ha,obind,if_pos rfl,sread_ok FU a ha.n ha.d (by omega),obind,down_ok a ha,obind,told_ok FU _ (div_small ha.n) (by omega)]
  rfl
theorem share_ceil_ok (a:Rat) (ha:SmQ a):share_Ceil_p FU (Sh a) = some (W8 (-((-a).num / (-a).den)),0):=by
  have hF:=FU_big
  have hd:=div_small (d:=(-a).den) ha.neg.n
  unfold share_Ceil_p
  rw [valid1s a ha,obind,if_pos rfl,sread_ok FU a ha.n ha.d (by omega),obind]
  unfold share_Ceil_1_p
  rw [turned_q FU a ha (by omega),obind,down_ok _ ha.neg,obind,turned_ok FU 1 _ hd.w.fit (by omega) (by omega),obind]
  simp only [obind]
  rw [told_ok FU _ (by unfold Sm at *; rw [Int.natAbs_neg]; exact hd) (by omega)]
  rfl
theorem int_ok (z:Int) (h:Sm z):wide_Int_p FU (W8 z) = some (z,0):=by
  have hF:=FU_big
  have e:i64of (W8 z).1 = z:=by
    have:(W8 z).1 = u64of z:=by unfold W8; split <;> rfl
    rw [this]
    unfold i64of
    unfold Sm at h
    by_cases hz:z < 0
    · rw [u64_neg h hz,if_neg (by omega)]; omega
    · rw [u64_pos h hz,toNat_of (by omega),if_pos (by omega)]; omega
  unfold wide_Int_p
  rw [e,of_ok FU z (by omega),obind,if_pos rfl]
end Go.Proofs.YtmhgoecnjleagaaGreatDoor
