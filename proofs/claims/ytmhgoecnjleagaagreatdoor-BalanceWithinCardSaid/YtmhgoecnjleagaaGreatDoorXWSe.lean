/- Plain laws: BalanceSums. No program in sight but the printed functions. -/
import Derived.Test.YtmhgoecnjleagaaGreatDoorXWSd
namespace Go.Proofs.YtmhgoecnjleagaaGreatDoor
open Go
theorem FU_big:(18446744073709551616:Nat) < FU:=by decide
theorem works_ok:wardmotelaw22_works_p FU = some true:=by kernel_rfl
theorem mulb {k x:Int} (h1:0 ≤ k) (h2:k ≤ 8) (h3:0 ≤ x) (h4:x ≤ 2295):0 ≤ k * x∧k * x ≤ 18360:=
  ⟨Int.mul_nonneg h1 h3,by have:=Int.mul_le_mul h2 h4 h3 (by omega:(0:Int) ≤ 8); omega⟩
theorem smq {a b:Int} (h0:b ≠ 0) (ha:a.natAbs < 2147483648) (hb:b.natAbs < 2147483648):SmQ (Rat.divInt a b):=by
  have:=lowest_ok FU a b (by unfold W1; omega) (by unfold W1; omega) h0 FU_big
  unfold SmQ; omega
theorem lof_ok (a b:Int) (h0:b ≠ 0) (ha:a.natAbs < 2147483648) (hb:b.natAbs < 2147483648):wardmotelaw22_of_p FU a b = some (Sh (Rat.divInt a b)):=by
  unfold wardmotelaw22_of_p
  rw [share_of_ok FU a b (by unfold Sm; omega) (by unfold Sm; omega) h0 FU_big,obind]
theorem bof_ok (a b:Int) (h0:b ≠ 0) (ha:a.natAbs < 2147483648) (hb:b.natAbs < 2147483648):balance_of_p FU a b = some (.ok (Sh (Rat.divInt a b))):=by
  unfold balance_of_p
  rw [share_of_ok FU a b (by unfold Sm; omega) (by unfold Sm; omega) h0 FU_big,obind]
  rfl
theorem q_sub (x all k:Int) (hk:k ≠ 0):Rat.divInt x 1 - Rat.divInt all k = Rat.divInt (x * k - all) k:=by
  rw [Rat.sub_eq_add_neg,Rat.neg_divInt,Rat.divInt_add_divInt _ _ (by decide) hk]
  congr 1 <;> omega
theorem q_ne {all k:Int} (hk:k ≠ 0) (ha:all ≠ 0):Rat.divInt all k ≠ 0:=fun e=>by
  have e2:Rat.divInt all k = Rat.divInt 0 1:=e
  rw [Rat.divInt_eq_divInt_iff hk (by decide)] at e2
  omega
theorem q_div (y all k:Int) (hk:k ≠ 0):Rat.divInt y k / Rat.divInt all k = Rat.divInt y all:=by
  rw [Rat.div_def,Rat.inv_divInt,Rat.divInt_mul_divInt,Int.mul_comm k all,Rat.divInt_mul_right hk]
theorem q_zero (c:Int) (hc:c ≠ 0):Rat.divInt 0 c = Rat.divInt 0 1:=by
  rw [Rat.divInt_eq_divInt_iff hc (by decide)]; omega
theorem Totals_ok (r:TRoll) (us:List TUnit) (hr:RollOk r us) (p:List Int) (k:Int) (hk:1 ≤ k) (hk8:k ≤ 8) (h:PlanOk p k) (hl:p.length = us.length):∃ l,balance_count_totals_p FU ⟨r,k⟩ p = some (.ok l)∧balance_Totals_p FU r p k = some (l,0)∧(l.length:Int) = k∧(∀ x ∈ l,0 ≤ x)∧l.sum = tot us:=by
  obtain ⟨l,e,h1⟩:=totals_ok r us hr p k hk hk8 h hl
  refine ⟨l,e,?_,h1⟩
  unfold balance_Totals_p balance_Totals_1_p
  rw [counted_ok r us hr k hk hk8,obind]
  unfold exc
  simp only
  rw [e,obind]
  rfl
def offs (all k:Int) (l:List Int):List TShare:=l.map fun x=>Sh (Rat.divInt (x * k - all) all)
theorem off_loop (l:List Int) (all k:Int) (hk:1 ≤ k) (hk8:k ≤ 8) (ha:0 < all) (ha2:all ≤ 2295) (hl:(l.length:Int) = k) (h:∀ x ∈ l,0 ≤ x∧x ≤ all):loopF (balance_Off_1_l1 FU l (Sh (Rat.divInt all k))) FU (0,[]) = some (.inr (offs all k l)):=by
  have hF:=FU_lt
  have hh:=loop_ok (B:=balance_Off_1_l1 FU l (Sh (Rat.divInt all k))) (fun s:Nat × List TShare=>l.length - s.1) (fun s=>s.1 ≤ l.length∧s.2 = offs all k (l.take s.1)) (fun y=>y = .inr (offs all k l)) ?_ FU (0,[]) ⟨by simp,by simp [offs]⟩ (by simp only; omega)
  · obtain ⟨y,e,rfl⟩:=hh; exact e
  · rintro ⟨i,xs⟩ J ⟨a1,a2⟩ hJ
    simp only at a1 a2 hJ
    unfold balance_Off_1_l1
    simp only
    split
    · rename_i hi
      have hx:=h l[i] (List.getElem_mem _)
      have hm:=mulb (k:=k) (x:=l[i]) (by omega) hk8 hx.1 (by omega)
      rw [Int.mul_comm] at hm
      rw [List.getElem?_eq_getElem hi,obind,bof_ok _ _ (by decide) (by omega) (by decide),obind]
      unfold exc
      simp only
      rw [share_sub_ok FU _ _ (smq (by decide) (by omega) (by decide)) (smq (by omega) (by omega) (by omega)) FU_big,obind,q_sub _ _ _ (by omega)]
      unfold balance_must_api_Share_p
      simp only [if_true,obind]
      rw [share_div_ok FU _ _ (smq (by omega) (by omega) (by omega)) (smq (by omega) (by omega) (by omega)) (q_ne (by omega) (by omega)) FU_big,obind,q_div _ _ _ (by omega)]
      simp only [if_true,obind]
      rw [appS _ _ (by rw [a2]; unfold offs; simp only [List.length_map,List.length_take,List.length_cons,List.length_nil]; omega),obind]
      refine hJ _ ⟨hi,?_⟩ (by simp only; omega)
      simp only
      rw [a2,← List.take_append_getElem hi]
      unfold offs
      rw [List.map_append]
      rfl
    · refine ⟨_,rfl,?_⟩
      rw [a2,List.take_of_length_le (by omega)]
end Go.Proofs.YtmhgoecnjleagaaGreatDoor
