/- Plain laws: small fractions, lists, the totals, for the seat of wardmotelaw29. No program in sight but the printed functions. -/
import Derived.Test.YtichhhehkcfoaaaGreatDoorXMSd
import Derived.Test.YtichhhehkcfoaaaGreatDoorXMRc
namespace Go.Proofs.YtichhhehkcfoaaaGreatDoor
open Go
theorem FU_big:(18446744073709551616:Nat) < FU:=by decide
theorem smq {a b:Int} (h0:b ≠ 0) (ha:a.natAbs < 2147483648) (hb:b.natAbs < 2147483648):SmQ (Rat.divInt a b):=by
  have:=lowest_ok FU a b (by unfold W1; omega) (by unfold W1; omega) h0 FU_big
  unfold SmQ; omega
theorem lof_ok (a b:Int) (h0:b ≠ 0) (ha:a.natAbs < 2147483648) (hb:b.natAbs < 2147483648):wardmotelaw29_of_p FU a b = some (Sh (Rat.divInt a b)):=by
  unfold wardmotelaw29_of_p
  rw [share_of_ok FU a b (by unfold Sm; omega) (by unfold Sm; omega) h0 FU_big,obind]
theorem q_add (a b c:Int) (hc:c ≠ 0):Rat.divInt a c + Rat.divInt b c = Rat.divInt (a + b) c:=by
  rw [Rat.divInt_add_divInt _ _ hc hc,← Int.add_mul,Rat.divInt_mul_right hc]
theorem eq_loop {α:Type} [DecidableEq α] {a b:List α} (hl:a.length = b.length) {B:(Nat → Option (Bool ⊕ Unit)) → Nat → Option (Bool ⊕ Unit)} (hB:∀ J i,B J i = if i < a.length then (a[i]?).bind fun x=>(b[i]?).bind fun y=>if x = y then J (i + 1) else some (.inl false) else some (.inr ())) {n:Nat} (hn:a.length < n) :
    thn (loopF B n 0) (fun _=>some true) = some (decide (a = b)):=by
  have hh:=loop_ok (B:=B) (fun i:Nat=>a.length - i) (fun i=>i ≤ a.length∧a.take i = b.take i) (fun y=>y = .inr ()∧a = b ∨ y = .inl false∧a ≠ b) ?_ n 0 ⟨Nat.zero_le _,by simp⟩ (by omega)
  · obtain ⟨y,e,hy⟩:=hh
    rw [e]
    rcases hy with ⟨rfl,hy⟩ | ⟨rfl,hy⟩
    · simp [thn,hy]
    · simp [thn,hy]
  · intro i J ⟨h1,h2⟩ hJ
    rw [hB]
    split
    · rename_i hi
      rw [List.getElem?_eq_getElem hi,obind,List.getElem?_eq_getElem (by omega),obind]
      split
      · rename_i he
        refine hJ (i + 1) ⟨hi,?_⟩ (by omega)
        rw [List.take_succ_eq_append_getElem hi,List.take_succ_eq_append_getElem (by omega),h2,he]
      · rename_i he
        exact ⟨_,rfl,.inr ⟨rfl,fun e=>he (by subst e; rfl)⟩⟩
    · refine ⟨_,rfl,.inl ⟨rfl,?_⟩⟩
      rwa [List.take_of_length_le (by omega),List.take_of_length_le (by omega)] at h2
theorem equal_ok (a b:List Int) (h:a.length ≤ 1000):slices_Equal_int_int_p FU a b = some (decide (a = b)):=by
  have hF:=FU_lt
  unfold slices_Equal_int_int_p
  split
  · rename_i hl; exact eq_loop hl (fun J i=>by rfl) (by omega)
  · rename_i hl; rw [decide_eq_false fun e=>hl (by rw [e])]
theorem num_mul {a b:Int} (hb:b ≠ 0):(Rat.divInt a b).num * b = a * (Rat.divInt a b).den:=by
  have h:=Rat.num_divInt_den (Rat.divInt a b)
  exact (Rat.divInt_eq_divInt_iff (by have:=(Rat.divInt a b).den_pos; omega) hb).1 h
theorem q_le {a b c d:Int} (hb:0 < b) (hd:0 < d):Rat.divInt a b ≤ Rat.divInt c d ↔ a * d ≤ c * b:=by
  have e1:=num_mul (a:=a) (b:=b) (by omega)
  have e2:=num_mul (a:=c) (b:=d) (by omega)
  have p1:=(Rat.divInt a b).den_pos
  have p2:=(Rat.divInt c d).den_pos
  rw [Rat.le_iff]
  generalize (Rat.divInt a b).num = x at *
  generalize (Rat.divInt c d).num = y at *
  generalize (Rat.divInt a b).den = u at *
  generalize (Rat.divInt c d).den = v at *
  have hbd:0 < b * d:=Int.mul_pos hb hd
  have huv:0 < (u:Int) * v:=Int.mul_pos (by omega) (by omega)
  have h1:x * v * (b * d) = a * d * (u * v):=by
    have:x * v * (b * d) = x * b * (v * d):=by grind
    rw [this,e1]; grind
  have h2:y * u * (b * d) = c * b * (u * v):=by
    have:y * u * (b * d) = y * d * (u * b):=by grind
    rw [this,e2]; grind
  rw [← Int.mul_le_mul_right (b:=x * v) hbd,h1,h2]
  exact Int.mul_le_mul_right huv
theorem ratio_cmp (a b:Rat) (ha:SmQ a) (hb:SmQ b):share_Ratio_Cmp_p FU (Rt a) (Rt b) = some ((a.num * b.den - b.num * a.den).sign):=by
  have hF:=FU_big
  have p1:=mul_small ha.1 hb.2
  have p2:=mul_small hb.1 ha.2
  have q1:(a.num * b.den).natAbs < 4611686018427387904:=by rw [Int.natAbs_mul]; exact p1
  have q2:(b.num * a.den).natAbs < 4611686018427387904:=by rw [Int.natAbs_mul]; exact p2
  unfold share_Ratio_Cmp_p Rt
  rw [times_ok FU 1 1 _ _ ha.fitn hb.fitd (by omega) (by omega),obind,times_ok FU 1 1 _ _ hb.fitn ha.fitd (by omega) (by omega),obind]
  unfold wide_Long_Cmp_p
  rw [minus_ok FU 1 _ _ (by unfold Fit; omega) (by unfold Fit; omega) (by omega) (by omega),obind,side_ok]
  rfl
theorem sign_le (a b:Rat):(a.num * b.den - b.num * a.den).sign ≤ 0 ↔ a ≤ b:=by
  rw [Rat.le_iff,Int.sign_nonpos_iff]
  omega
theorem share_cmp_ok (a b:Rat) (ha:SmQ a) (hb:SmQ b):share_Cmp_p FU (Sh a) (Sh b) = some ((a.num * b.den - b.num * a.den).sign,0):=by
  have hF:=FU_big
  unfold share_Cmp_p
  rw [valid2_ok FU a b ha hb FU_big,obind,if_pos rfl,sread_ok FU a ha.n ha.d (by omega),obind,sread_ok FU b hb.n hb.d (by omega),obind,ratio_cmp a b ha hb,obind]
theorem atMost_ok (a b:Rat) (ha:SmQ a) (hb:SmQ b):wardmotelaw29_atMost_p FU (Sh a) (Sh b) = some (decide (a ≤ b)):=by
  unfold wardmotelaw29_atMost_p
  rw [share_cmp_ok a b ha hb,obind]
  simp only [if_true]
  exact congrArg some (decide_eq_decide.2 (sign_le a b))
theorem part_ok (a:TPart):∃ n d:Int,wardmoteref22_Part_Unit_p FU a = some (Sh (Rat.divInt n d))∧(0 ≤ n∧n ≤ 256)∧(0 < d∧d ≤ 256):=by
  have hd:=a.fD.toNat_lt
  have key:∀ z:Int,0 ≤ z → ∃ n d:Int,((remI z ((a.fD.toNat + 2:Nat):Int)).bind fun s32=>(wardmoteref22_Of_p FU s32 ((1 + a.fD.toNat:Nat):Int)).bind fun y34=>some y34) = some (Sh (Rat.divInt n d))∧(0 ≤ n∧n ≤ 256)∧(0 < d∧d ≤ 256):=fun z hz=>by
    have m0:=Int.emod_nonneg z (b:=((a.fD.toNat + 2:Nat):Int)) (by omega)
    have m1:=Int.emod_lt_of_pos z (b:=((a.fD.toNat + 2:Nat):Int)) (by omega)
    refine ⟨z % ((a.fD.toNat + 2:Nat):Int),((1 + a.fD.toNat:Nat):Int),?_,by omega,by omega⟩
    rw [remI_ok (by omega),obind,Int.tmod_eq_emod_of_nonneg hz,refOf_ok FU _ _ (by unfold Sm; omega) (by unfold Sm; omega) (by omega) m0 FU_big,obind]
  unfold wardmoteref22_Part_Unit_p jn
  simp only
  split
  · exact key _ (by omega)
  · exact key _ (by omega)
def peo:List TUnit → List Int → Int → Int
  | u :: us,x :: p,d=>(if x = d then u.fA else 0) + peo us p d
  | _,_,_=>0
def tlO (us:List TUnit) (p:List Int) (k:Int):List Int:=(List.range k.toNat).map fun d:Nat=>peo us p d
theorem tl_len (us:List TUnit) (p:List Int) (k:Int):(tlO us p k).length = k.toNat:=by simp [tlO]
theorem tl_get (us:List TUnit) (p:List Int) (k:Int) (d:Nat) (h:d < (tlO us p k).length):(tlO us p k)[d] = peo us p d:=by simp [tlO]
theorem peo_take:∀ {us:List TUnit} {p:List Int} {i:Nat} (h:i < us.length) (h2:i < p.length) (d:Int),peo (us.take (i + 1)) p d = peo (us.take i) p d + (if p[i] = d then us[i].fA else 0)
  | u :: us,x :: p,0,_,_,d=>by simp [peo]
  | u :: us,x :: p,i + 1,h,h2,d=>by
    have:=peo_take (us:=us) (p:=p) (i:=i) (by simpa using h) (by simpa using h2) d
    simp only [List.take_succ_cons,peo,List.getElem_cons_succ,this]; omega
theorem peo_le:∀ {us:List TUnit} {p:List Int} (d:Int),(∀ u ∈ us,0 ≤ u.fA∧u.fA ≤ 255) → 0 ≤ peo us p d∧peo us p d ≤ 255 * us.length
  | [],p,d,_=>by unfold peo; simp
  | u :: us,[],d,h=>by unfold peo; simp; omega
  | u :: us,x :: p,d,h=>by
    have h1:=h u (List.mem_cons_self ..)
    have h2:=peo_le (us:=us) (p:=p) d fun y hy=>h y (List.mem_cons_of_mem _ hy)
    simp only [peo,List.length_cons]
    split <;> omega
theorem tl_take {us:List TUnit} {p:List Int} {k:Int} {i:Nat} (h:i < us.length) (h2:i < p.length) (x0:0 ≤ p[i]) (x1:p[i] < k) (a:p[i].toNat < (tlO (us.take i) p k).length) :
    tlO (us.take (i + 1)) p k = (tlO (us.take i) p k).set p[i].toNat ((tlO (us.take i) p k)[p[i].toNat] + us[i].fA):=by
  apply List.ext_getElem
  · simp [tlO]
  · intro d h3 h4
    rw [tl_get,peo_take h h2]
    by_cases e1:p[i].toNat = d
    · subst e1
      rw [List.getElem_set_self,tl_get,if_pos (by omega)]
    · rw [List.getElem_set_ne e1,tl_get,if_neg (by omega)]; omega
theorem tl_zero (p:List Int) (k:Int):tlO [] p k = List.replicate k.toNat 0:=by
  apply List.ext_getElem
  · simp [tlO]
  · intro d h1 h2
    rw [tl_get]; simp [peo]
theorem RollOk.ppl {r:TRoll} {us:List TUnit} (h:RollOk r us) (i:Nat) (p:List Int) (d:Int):0 ≤ peo (us.take i) p d∧peo (us.take i) p d ≤ 2295:=by
  have:=peo_le (us:=us.take i) (p:=p) d fun u hu=>h.people u (List.mem_of_mem_take hu)
  have:=h.len
  rw [List.length_take] at *
  omega
theorem totalsC_ok (r:TRoll) (us:List TUnit) (hr:RollOk r us) (p:List Int) (k:Int) (hk:1 ≤ k) (hk8:k ≤ 8) (h:PlanOk p k) (hl:p.length = us.length):balance_count_totals_p FU ⟨r,k⟩ p = some (.ok (tlO us p k)):=by
  have hF:=FU_lt
  have hs:=hr.size
  have hlen:=hr.len
  have hh:=loop_ok (B:=balance_count_totals_l1 FU ⟨r,k⟩ p) (fun s:Nat × List Int=>r.fu.length - s.1) (fun s=>s.1 ≤ us.length + 1∧s.2 = tlO (us.take s.1) p k)
    (fun y=>y = .inl (.ok (tlO us p k)) ∨ y = .inr (tlO us p k)) ?_ FU (0,List.replicate k.toNat 0) ⟨by simp,by simp only [List.take_zero]; rw [tl_zero]⟩ (by simp only; omega)
  · obtain ⟨y,e,hy⟩:=hh
    unfold balance_count_totals_p
    rw [check_plan r us hr p k hk h hl,obind]
    unfold exc
    simp only
    rw [show mk k (0:Int) = some (List.replicate k.toNat 0) from if_pos ⟨by omega,by omega⟩,obind,e]
    rcases hy with rfl | rfl <;> rfl
  · rintro ⟨i,xs⟩ J ⟨a1,a2⟩ hJ
    simp only at a1 a2 hJ
    subst a2
    unfold balance_count_totals_l1
    simp only
    split
    · rename_i hi
      rw [List.getElem?_eq_getElem hi,obind]
      rcases hr.unit hi with ⟨h2,e3⟩ | ⟨h2,e3⟩
      · have hx:=h.1 (p[i]'(by omega)) (List.getElem_mem _)
        have hp:(p[i]'(by omega)).toNat < (tlO (us.take i) p k).length:=by rw [tl_len]; omega
        have hb:=hr.ppl i p ((p[i]'(by omega)).toNat:Nat)
        have hu:=(hr.land i h2).2.2.1
        rw [e3,if_neg (by rw [(hr.land i h2).2.1]; decide),List.getElem?_eq_getElem (by omega),obind,idx_ok hx.1 hp,obind,tl_get,chkI (by omega) (by omega),obind,put_ok _ hp,obind]
        refine hJ _ ⟨by simp only; omega,?_⟩ (by simp only; omega)
        simp only
        rw [tl_take h2 (by omega) hx.1 hx.2 hp,tl_get]
      · rw [e3,if_pos (show (sea r.fj r.fh r.fl).fq = true from rfl)]
        exact ⟨_,rfl,.inl (by rw [List.take_of_length_le (by omega)])⟩
    · exact ⟨_,rfl,.inr (by rw [List.take_of_length_le (by omega)])⟩
theorem totalsP_ok (r:TRoll) (us:List TUnit) (hr:RollOk r us) (p:List Int) (k:Int) (hk:1 ≤ k) (hk8:k ≤ 8) (h:PlanOk p k) (hl:p.length = us.length):balance_Totals_p FU r p k = some (tlO us p k,0):=by
  unfold balance_Totals_p balance_Totals_1_p
  rw [counted_ok r us hr k hk hk8,obind]
  unfold exc
  simp only
  rw [totalsC_ok r us hr p k hk hk8 h hl,obind]
  rfl
end Go.Proofs.YtichhhehkcfoaaaGreatDoor
