/- Plain laws: the reference's fractions of small numbers. No program in sight but the printed functions. -/
import Derived.Test.YtfccehcnajelgaaGreatDoorQARb
namespace Go.Proofs.YtfccehcnajelgaaGreatDoor
open Go
theorem rd_pos {m:Nat}:0 < (rd m).length ↔ 0 < m:=by
  constructor
  · intro h
    by_cases h0:m = 0
    · rw [h0,rd0] at h; simp at h
    · omega
  · intro h
    rcases e:rd m with _ | ⟨x,xs⟩
    · have:=rd_nil.1 e; omega
    · simp
theorem made_ok (n:Nat) (b:Bool) (ws:List Int) (hd:Dig ws) (hn:ws.length < n) (hl:ws.length ≤ 1000000):wardmoteref01_made_p n b ws = some ⟨b && decide (0 < dv ws),rd (dv ws)⟩:=by
  unfold wardmoteref01_made_p
  rw [cutR_ok n ws hd hn hl,obind]
  cases b
  · simp
  · rw [if_pos rfl,decide_eq_decide.2 rd_pos,Bool.true_and]
def R8 (z:Int):TLong188:=⟨decide (z < 0),rd z.natAbs⟩
theorem R_sg (s:Bool) (m:Nat):(⟨s && decide (0 < m),rd m⟩:TLong188) = R8 (sg s m):=by
  unfold R8
  rw [sg_abs]
  cases s
  · simp [sg]
  · simp [sg]
theorem rd_short {m:Nat} (h:m < 18446744073709551616):(rd m).length ≤ 2:=rd_len (by simpa using h)
theorem long1_ok (n:Nat) (z:Int) (h:Sm z) (hn:10 < n):wardmoteref01_Long1_p n z = some (R8 z):=by
  have key:∀ u:UInt64,u.toNat = z.natAbs → ((wardmoteref01_made_p n (decide (z < 0)) ([i64of (u % (4294967296:UInt64)),i64of (u / (4294967296:UInt64))]:List Int)).bind fun y28=>some y28) = some (R8 z):=fun u hu=>by
    unfold Sm at h
    have h1:i64of (u % (4294967296:UInt64)) = ((z.natAbs % 4294967296:Nat):Int):=by
      unfold i64of
      rw [UInt64.toNat_mod,hu]
      rw [if_pos (by simp; omega)]
      rfl
    have h2:i64of (u / (4294967296:UInt64)) = ((z.natAbs / 4294967296:Nat):Int):=by
      unfold i64of
      rw [UInt64.toNat_div,hu]
      rw [if_pos (by simp; omega)]
      rfl
    rw [h1,h2,made_ok n _ _ (fun x hx=>by
      rcases List.mem_cons.1 hx with rfl | hx
      · omega
      · rw [List.mem_singleton.1 hx]; omega) (by simp only [List.length_cons,List.length_nil]; omega) (by simp),obind]
    have e:dv [((z.natAbs % 4294967296:Nat):Int),((z.natAbs / 4294967296:Nat):Int)] = z.natAbs:=by
      simp only [dv,Int.toNat_natCast]; omega
    rw [e]
    unfold R8
    congr 2
    by_cases hz:z < 0
    · simp [hz]; omega
    · simp [hz]
  unfold wardmoteref01_Long1_p jn
  simp only
  by_cases hz:z < 0
  · rw [if_pos hz]
    refine key _ ?_
    rw [UInt64.toNat_neg,u64_neg h hz,show UInt64.size = 18446744073709551616 from rfl]
    unfold Sm at h
    omega
  · rw [if_neg hz]
    refine key _ ?_
    rw [u64_pos h hz,toNat_of h.w]
theorem turnR_ok (n:Nat) (z:Int) (h:(rd z.natAbs).length < 10000) (hn:20000 < n):wardmoteref01_Turn_p n (R8 z) = some (R8 (-z)):=by
  unfold wardmoteref01_Turn_p
  rw [show (R8 z).fD = rd z.natAbs from rfl,made_ok n _ _ (rd_dig _) (by omega) (by omega),obind,dv_rd]
  unfold R8
  rw [Int.natAbs_neg]
  congr 2
  show (!decide (z < 0) && decide (0 < z.natAbs)) = decide (-z < 0)
  by_cases hz:z < 0
  · rw [decide_eq_true hz,decide_eq_false (show ¬ -z < 0 by omega)]; rfl
  · rw [decide_eq_false hz]
    by_cases h0:z = 0
    · subst h0; rfl
    · rw [decide_eq_true (by omega),decide_eq_true (by omega)]; rfl
theorem sg_mul (g x:Int) (hg:g ≠ 0):sg (!(decide (g * x < 0) == decide (g < 0))) x.natAbs = x:=by
  unfold sg
  by_cases h1:g < 0
  · by_cases h2:x < 0
    · have:=Int.mul_pos_of_neg_of_neg h1 h2
      rw [decide_eq_true h1,decide_eq_false (by omega)]; simp; omega
    · by_cases h3:x = 0
      · subst h3; simp
      · have:=Int.mul_neg_of_neg_of_pos h1 (by omega:0 < x)
        rw [decide_eq_true h1,decide_eq_true this]; simp; omega
  · by_cases h2:x < 0
    · have:=Int.mul_neg_of_pos_of_neg (by omega:0 < g) h2
      rw [decide_eq_false h1,decide_eq_true this]; simp; omega
    · have:=Int.mul_nonneg (by omega:0 ≤ g) (by omega:0 ≤ x)
      rw [decide_eq_false h1,decide_eq_false (by omega)]; simp; omega
theorem partsE (n:Nat) (a g x:Int) (e:a = g * x) (hg:g ≠ 0) (ha:(rd a.natAbs).length < 10000) (hl:(rd g.natAbs).length < 10000) (hn:20000 < n):wardmoteref01_Parts_p n (R8 a) (R8 g) = some (R8 x,R8 0):=by
  subst e
  have hd:(g * x).natAbs / g.natAbs = x.natAbs:=by rw [Int.natAbs_mul]; exact Nat.mul_div_cancel_left _ (by omega)
  have hm:(g * x).natAbs % g.natAbs = 0:=by rw [Int.natAbs_mul]; exact Nat.mul_mod_right ..
  have hx:(rd x.natAbs).length < 10000:=Nat.lt_of_le_of_lt (rd_mono (by rw [Int.natAbs_mul]; exact Nat.le_mul_of_pos_left _ (by omega))) ha
  unfold wardmoteref01_Parts_p
  rw [show (R8 (g * x)).fD = rd (g * x).natAbs from rfl,show (R8 g).fD = rd g.natAbs from rfl,partsD_ok n _ _ (by omega) ha hl hn,obind,hd,hm]
  simp only
  rw [made_ok n _ _ (rd_dig _) (by omega) (by omega),obind,dv_rd,rd0,made_ok n _ [] dig_nil (by simp; omega) (by simp),obind]
  show (if ((decide (g * x < 0)) && decide (0 < 0)) = true then _ else _) = _
  rw [if_neg (by simp)]
  rw [show (R8 (g * x)).fc = decide (g * x < 0) from rfl,show (R8 g).fc = decide (g < 0) from rfl,R_sg,sg_mul g x hg,show dv [] = 0 from rfl,R_sg]
  congr 2
  congr 1
  unfold sg; split <;> simp
theorem refLowest_ok (n:Nat) (a b:Int) (h0:b ≠ 0) (ha:(rd a.natAbs).length < 10000) (hb:(rd b.natAbs).length < 10000) (hn:18446744073709551616 < n) :
    wardmoteref02_Lowest_p n (R8 a) (R8 b) = some ⟨R8 (Rat.divInt a b).num,R8 ((Rat.divInt a b).den:Int)⟩∧(Rat.divInt a b).num.natAbs ≤ a.natAbs∧(Rat.divInt a b).den ≤ b.natAbs:=by
  have hg:0 < Nat.gcd a.natAbs b.natAbs:=Nat.gcd_pos_of_pos_right _ (by omega)
  have hgl:(rd (Nat.gcd a.natAbs b.natAbs)).length < 10000:=Nat.lt_of_le_of_lt (rd_mono (Nat.gcd_le_right _ (by omega))) hb
  obtain ⟨x,hx⟩:((Nat.gcd a.natAbs b.natAbs:Nat):Int) ∣ a:=Int.ofNat_dvd_left.2 (Nat.gcd_dvd_left _ _)
  obtain ⟨y,hy⟩:((Nat.gcd a.natAbs b.natAbs:Nat):Int) ∣ b:=Int.ofNat_dvd_left.2 (Nat.gcd_dvd_right _ _)
  have hco:=Nat.coprime_div_gcd_div_gcd hg
  unfold wardmoteref02_Lowest_p
  rw [show R8 a = ⟨decide (a < 0),rd a.natAbs⟩ from rfl,show R8 b = ⟨decide (b < 0),rd b.natAbs⟩ from rfl,divisor_ok n _ _ _ _ ha hb hn,obind,← show R8 a = ⟨decide (a < 0),rd a.natAbs⟩ from rfl,← show R8 b = ⟨decide (b < 0),rd b.natAbs⟩ from rfl]
  generalize Nat.gcd a.natAbs b.natAbs = g at *
  have hg0:(g:Int) ≠ 0:=by omega
  have e3:a.natAbs = g * x.natAbs:=by rw [hx,Int.natAbs_mul]; rfl
  have e4:b.natAbs = g * y.natAbs:=by rw [hy,Int.natAbs_mul]; rfl
  have hc:x.natAbs.Coprime y.natAbs:=by
    rw [e3,e4,Nat.mul_div_cancel_left _ hg,Nat.mul_div_cancel_left _ hg] at hco; exact hco
  have hxl:x.natAbs ≤ a.natAbs:=by rw [e3]; exact Nat.le_mul_of_pos_left _ hg
  have hyl:y.natAbs ≤ b.natAbs:=by rw [e4]; exact Nat.le_mul_of_pos_left _ hg
  have hy0:y ≠ 0:=fun e=>h0 (by rw [hy,e,Int.mul_zero])
  have eq:Rat.divInt a b = Rat.divInt x y:=by
    conv=>lhs; rw [hx,hy]
    exact Rat.divInt_mul_left hg0
  rw [eq]
  have egR:(⟨false,rd g⟩:TLong188) = R8 (g:Int):=by unfold R8; simp
  unfold jn
  simp only
  by_cases hs:b < 0
  · have hyn:y < 0:=by
      by_cases hy1:y < 0
      · exact hy1
      · have:=Int.mul_nonneg (by omega:(0:Int) ≤ g) (by omega:0 ≤ y); omega
    rw [if_pos (show (R8 b).fc = true from decide_eq_true hs),egR,turnR_ok n _ (by simpa using hgl) (by omega),obind]
    show (wardmoteref01_Parts_p n (R8 a) (R8 (-(g:Int)))).bind _ = _∧_
    rw [partsE n a (-(g:Int)) (-x) (by rw [Int.neg_mul_neg]; exact hx) (by omega) ha (by rw [Int.natAbs_neg]; simpa using hgl) (by omega),obind,partsE n b (-(g:Int)) (-y) (by rw [Int.neg_mul_neg]; exact hy) (by omega) hb (by rw [Int.natAbs_neg]; simpa using hgl) (by omega),obind]
    have h5:=rat_is (x:=-x) (y:=-y) (by omega) (by rwa [Int.natAbs_neg,Int.natAbs_neg])
    rw [Rat.neg_divInt_neg] at h5
    rw [h5.1,h5.2]
    exact ⟨rfl,by rw [Int.natAbs_neg]; exact hxl,by have:=h5.2; omega⟩
  · have hyp:0 < y:=by
      by_cases hy1:0 < y
      · exact hy1
      · have:=Int.mul_neg_of_pos_of_neg (by omega:(0:Int) < g) (by omega:y < 0); omega
    rw [if_neg (show ¬ (R8 b).fc = true from by simpa [R8] using hs)]
    show (wardmoteref01_Parts_p n (R8 a) (⟨false,rd g⟩:TLong188)).bind _ = _∧_
    rw [egR,partsE n a g x hx hg0 ha (by simpa using hgl) (by omega),obind,partsE n b g y hy hg0 hb (by simpa using hgl) (by omega),obind]
    have h5:=rat_is (x:=x) (y:=y) hyp hc
    rw [h5.1,h5.2]
    exact ⟨rfl,hxl,by have:=h5.2; omega⟩
theorem rd_two {m:Nat} (h:m < 18446744073709551616):rd m = []∧m = 0 ∨ rd m = [(m:Int)]∧m < 4294967296 ∨ rd m = [((m % 4294967296:Nat):Int),((m / 4294967296:Nat):Int)]:=by
  by_cases h0:m = 0
  · exact .inl ⟨rd_nil.2 h0,h0⟩
  · by_cases h1:m / 4294967296 = 0
    · refine .inr (.inl ⟨?_,by omega⟩)
      rw [rd_ne h0,h1,rd0,Nat.mod_eq_of_lt (by omega)]
    · refine .inr (.inr ?_)
      rw [rd_ne h0,rd_ne h1,show m / 4294967296 / 4294967296 = 0 by omega,rd0,Nat.mod_eq_of_lt (show m / 4294967296 < 4294967296 by omega)]
theorem two_words {m:Nat} (h:m < 18446744073709551616):(0:UInt64) + shlU (u64of ((m % 4294967296:Nat):Int)) 0 + shlU (u64of ((m / 4294967296:Nat):Int)) 32 = UInt64.ofNat m:=by
  refine UInt64.toNat_inj.1 ?_
  rw [shl_zero,toNat_of h]
  have h1:(u64of ((m % 4294967296:Nat):Int)).toNat = m % 4294967296:=by unfold u64of; rw [UInt64.toNat_ofNat']; omega
  have h2:(u64of ((m / 4294967296:Nat):Int)).toNat = m / 4294967296:=by unfold u64of; rw [UInt64.toNat_ofNat']; omega
  rw [UInt64.toNat_add,UInt64.toNat_add,shl_nat _ (by decide),h1,h2]
  simp; omega
theorem outR_ok (n:Nat) (z:Int) (h:Sm z) (hz:0 ≤ z) (hn:10 < n):wardmoteref01_Out_p n (R8 z) = some (W8 z,0):=by
  have hw:z.natAbs < 18446744073709551616:=h.w
  have hl:=rd_short hw
  obtain ⟨k,rfl⟩:∃ k,n = k + 4:=⟨n - 4,by omega⟩
  unfold wardmoteref01_Out_p
  rw [show mk 16 (0:Int) = some (List.replicate 16 0) from rfl,obind,show (List.replicate 16 (0:Int))[15]? = some 0 from rfl,obind,show put (List.replicate 16 (0:Int)) ((15:Nat):Int) 2147483648 = some ((List.replicate 16 (0:Int)).set 15 2147483648) from rfl,obind]
  unfold wardmoteref01_order_p
  rw [show (R8 z).fD = rd z.natAbs from rfl,if_neg (by simp only [List.length_set,List.length_replicate]; omega),obind]
  simp only [List.length_set,List.length_replicate]
  rw [if_neg (by omega),if_neg (by omega)]
  unfold jn
  simp only
  rw [if_neg (show ¬ (R8 z).fc = true from by simp [R8]; omega)]
  unfold W8
  rw [if_neg (by omega),u64_pos h (by omega)]
  rcases rd_two hw with ⟨e,e0⟩ | ⟨e,e0⟩ | e
  · rw [e,e0,loopF_succ]
    rfl
  · rw [e,loopF_succ]
    have h2:=two_words hw
    rw [show z.natAbs / 4294967296 = 0 by omega,Nat.mod_eq_of_lt e0] at h2
    rw [← h2]
    have h3:shlU (u64of ((0:Nat):Int)) 32 = 0:=by decide
    rw [h3,UInt64.add_zero]
    rfl
  · rw [e,loopF_succ,← two_words hw]
    rfl
theorem refOf_ok (n:Nat) (a b:Int) (ha:Sm a) (hb:Sm b) (h0:0 < b) (ha0:0 ≤ a) (hn:18446744073709551616 < n):wardmoteref22_Of_p n a b = some (Sh (Rat.divInt a b)):=by
  obtain ⟨e,l1,l2⟩:=refLowest_ok n a b (by omega) (by have:=rd_short ha.w; omega) (by have:=rd_short hb.w; omega) hn
  have hnn:0 ≤ (Rat.divInt a b).num:=by
    have:=Rat.divInt_nonneg ha0 (by omega:0 ≤ b)
    exact Rat.num_nonneg.2 this
  unfold wardmoteref22_Of_p wardmoteref02_Of_p
  rw [if_neg (by omega)]
  unfold wardmoteref02_Quick_p
  rw [long1_ok n a ha (by omega),obind,long1_ok n b hb (by omega),obind,e,obind]
  simp only [obind]
  unfold wardmoteref02_Out_p
  simp only
  rw [outR_ok n _ (by unfold Sm at *; omega) hnn (by omega),obind,outR_ok n _ (by unfold Sm at *; omega) (by omega) (by omega),obind,if_pos rfl,if_pos rfl]
  rfl
end Go.Proofs.YtfccehcnajelgaaGreatDoor
