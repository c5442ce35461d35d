/- Plain laws: BalanceSums, the whole. No program in sight but the printed functions. -/
import Derived.Test.YtmhgoecnjleagaaGreatDoorSTSe
namespace Go.Proofs.YtmhgoecnjleagaaGreatDoor
open Go
theorem Off_ok (r : TRoll) (us : List TUnit) (hr : RollOk r us) (p : List Int) (k : Int) (hk : 1 ≤ k) (hk8 : k ≤ 8) (l : List Int) (e : balance_count_totals_p FU ⟨r, k⟩ p = some (.ok l)) (hl : (l.length : Int) = k) (h0 : ∀ x ∈ l, 0 ≤ x) (hs : l.sum = tot us) :
    balance_Off_p FU r p k = if tot us = 0 then some ([], 7) else some (offs (tot us) k l, 0) := by
  have hb := tot_bound hr us.length
  rw [List.take_length] at hb
  have hm := (le_sum h0).2
  unfold balance_Off_p balance_Off_1_p
  rw [counted_ok r us hr k hk hk8, obind]
  unfold exc
  simp only
  rw [e, obind]
  simp only
  rw [people_ok r us hr k, obind]
  by_cases ha : tot us = 0
  · rw [if_pos ha, decide_eq_true ha]
    rfl
  · rw [if_neg ha, decide_eq_false ha, fail_no, obind]
    simp only
    rw [bof_ok _ _ (by omega) (by omega) (by omega), obind]
    simp only
    rw [off_loop l (tot us) k hk hk8 (by omega) (by omega) hl fun x hx => ⟨h0 x hx, by have := hm x hx; omega⟩]
    rfl
theorem all_loop (r : TRoll) (us : List TUnit) (hr : RollOk r us) : loopF (wardmotelaw22_BalanceSums_l2 FU r) FU (0, 0) = some (tot us) := by
  have hF := FU_lt
  have hs := hr.size
  have hl := hr.len
  have hb := tot_bound hr us.length
  rw [List.take_length] at hb
  have hh := loop_ok (B := wardmotelaw22_BalanceSums_l2 FU r) (fun s : Int × Nat => r.fUnits.length - s.2) (fun s => s.2 ≤ r.fUnits.length ∧ s.1 = tot (us.take s.2)) (fun x => x = tot us) ?_ FU (0, 0) ⟨by simp, by simp [tot]⟩ (by simp only; omega)
  · obtain ⟨x, e, rfl⟩ := hh; exact e
  · rintro ⟨z, i⟩ J ⟨a1, a2⟩ hJ
    simp only at a1 a2 hJ
    unfold wardmotelaw22_BalanceSums_l2
    simp only
    split
    · rename_i hi
      rw [List.getElem?_eq_getElem hi, obind]
      rcases hr.unit hi with ⟨h2, e2⟩ | ⟨h2, e2⟩
      · have hb2 := tot_bound hr (i + 1)
        rw [tot_take h2] at hb2
        rw [e2, chkI (by omega) (by omega), obind]
        exact hJ _ ⟨by simp only; omega, by simp only; rw [tot_take h2, a2]⟩ (by simp only; omega)
      · rw [e2]
        have e3 : (sea r.fGroups r.fParties r.fLevels).fPeople = 0 := rfl
        rw [List.take_of_length_le (by omega)] at a2
        rw [e3, chkI (by omega) (by omega), obind]
        exact hJ _ ⟨by simp only; omega, by simp only; rw [List.take_of_length_le (by omega), a2]; omega⟩ (by simp only; omega)
    · exact ⟨_, rfl, by rw [a2, List.take_of_length_le (by omega)]⟩
theorem sum_take {l : List Int} {i : Nat} (h : i < l.length) : (l.take (i + 1)).sum = (l.take i).sum + l[i] := by
  rw [← List.take_append_getElem h, List.sum_append]; simp
theorem sums_loop (l : List Int) (all k : Int) (hk : 1 ≤ k) (hk8 : k ≤ 8) (ha : 0 < all) (ha2 : all ≤ 2295) (hl : (l.length : Int) = k) (h : ∀ x ∈ l, 0 ≤ x) (hs : l.sum = all) (q : Rat) (hq : q = Rat.divInt all k) :
    ∃ u v, loopF (wardmotelaw22_BalanceSums_l1 FU (l, 0) (Sh q, 0) (offs all k l, 0)) FU (0, 0, (Sh (Rat.divInt 0 1)).fN.1, (Sh (Rat.divInt 0 1)).fN.2.1, (Sh (Rat.divInt 0 1)).fN.2.2.1, (Sh (Rat.divInt 0 1)).fN.2.2.2.1, (Sh (Rat.divInt 0 1)).fN.2.2.2.2.1, (Sh (Rat.divInt 0 1)).fN.2.2.2.2.2.1, (Sh (Rat.divInt 0 1)).fN.2.2.2.2.2.2.1, (Sh (Rat.divInt 0 1)).fN.2.2.2.2.2.2.2, (Sh (Rat.divInt 0 1)).fD.1, (Sh (Rat.divInt 0 1)).fD.2.1, (Sh (Rat.divInt 0 1)).fD.2.2.1, (Sh (Rat.divInt 0 1)).fD.2.2.2.1, (Sh (Rat.divInt 0 1)).fD.2.2.2.2.1, (Sh (Rat.divInt 0 1)).fD.2.2.2.2.2.1, (Sh (Rat.divInt 0 1)).fD.2.2.2.2.2.2.1, (Sh (Rat.divInt 0 1)).fD.2.2.2.2.2.2.2) =
      some (.inr (all, u.1, u.2.1, u.2.2.1, u.2.2.2.1, u.2.2.2.2.1, u.2.2.2.2.2.1, u.2.2.2.2.2.2.1, u.2.2.2.2.2.2.2, v)) ∧ (⟨u, v⟩ : TShare) = Sh (Rat.divInt 0 1) := by
  have hF := FU_lt
  have hm := (le_sum h).2
  rw [hs] at hm
  have hps : ∀ i, 0 ≤ (l.take i).sum ∧ (l.take i).sum ≤ all := fun i => by
    have h1 := (le_sum (xs := l.take i) fun x hx => h x (List.mem_of_mem_take hx)).1
    have h2 := (le_sum (xs := l.drop i) fun x hx => h x (List.mem_of_mem_drop hx)).1
    have h3 := congrArg List.sum (List.take_append_drop i l)
    rw [List.sum_append] at h3
    omega
  have hh := loop_ok (B := wardmotelaw22_BalanceSums_l1 FU (l, 0) (Sh q, 0) (offs all k l, 0)) (fun s => l.length - s.2.1)
    (fun s => s.2.1 ≤ l.length ∧ s.1 = (l.take s.2.1).sum ∧ (⟨(s.2.2.1, s.2.2.2.1, s.2.2.2.2.1, s.2.2.2.2.2.1, s.2.2.2.2.2.2.1, s.2.2.2.2.2.2.2.1, s.2.2.2.2.2.2.2.2.1, s.2.2.2.2.2.2.2.2.2.1), s.2.2.2.2.2.2.2.2.2.2⟩ : TShare) = Sh (Rat.divInt (k * (l.take s.2.1).sum - s.2.1 * all) all))
    (fun y => ∃ u v, y = .inr (all, u.1, u.2.1, u.2.2.1, u.2.2.2.1, u.2.2.2.2.1, u.2.2.2.2.2.1, u.2.2.2.2.2.2.1, u.2.2.2.2.2.2.2, v) ∧ (⟨u, v⟩ : TShare) = Sh (Rat.divInt 0 1)) ?_ FU
    (0, 0, (Sh (Rat.divInt 0 1)).fN.1, (Sh (Rat.divInt 0 1)).fN.2.1, (Sh (Rat.divInt 0 1)).fN.2.2.1, (Sh (Rat.divInt 0 1)).fN.2.2.2.1, (Sh (Rat.divInt 0 1)).fN.2.2.2.2.1, (Sh (Rat.divInt 0 1)).fN.2.2.2.2.2.1, (Sh (Rat.divInt 0 1)).fN.2.2.2.2.2.2.1, (Sh (Rat.divInt 0 1)).fN.2.2.2.2.2.2.2, (Sh (Rat.divInt 0 1)).fD.1, (Sh (Rat.divInt 0 1)).fD.2.1, (Sh (Rat.divInt 0 1)).fD.2.2.1, (Sh (Rat.divInt 0 1)).fD.2.2.2.1, (Sh (Rat.divInt 0 1)).fD.2.2.2.2.1, (Sh (Rat.divInt 0 1)).fD.2.2.2.2.2.1, (Sh (Rat.divInt 0 1)).fD.2.2.2.2.2.2.1, (Sh (Rat.divInt 0 1)).fD.2.2.2.2.2.2.2)
    ⟨Nat.zero_le _, rfl, ?_⟩ (by simp only; omega)
  · obtain ⟨y, e, u, v, rfl, h1⟩ := hh; exact ⟨u, v, e, h1⟩
  · rintro ⟨z, i, u1, u2, u3, u4, u5, u6, u7, u8, v1, v2, v3, v4, v5, v6, v7, v8⟩ J ⟨a1, a2, a3⟩ hJ
    simp only at a1 a2 a3 hJ
    unfold wardmotelaw22_BalanceSums_l1
    simp only
    split
    · rename_i hi
      have hx := h l[i] (List.getElem_mem _)
      have hxm := hm l[i] (List.getElem_mem _)
      have m1 := mulb (k := k) (x := l[i]) (by omega) hk8 hx (by omega)
      have m2 := mulb (k := k) (x := (l.take i).sum) (by omega) hk8 (hps i).1 (by have := (hps i).2; omega)
      have m3 := mulb (k := (i : Int)) (x := all) (by omega) (by omega) (by omega) ha2
      have hp1 := hps (i + 1)
      rw [sum_take hi] at hp1
      have m1' := m1
      rw [Int.mul_comm] at m1'
      have sq : SmQ q := by rw [hq]; exact smq (by omega) (by omega) (by omega)
      have so : SmQ (Rat.divInt (l[i] * k - all) all) := smq (by omega) (by omega) (by omega)
      have eo : (offs all k l)[i]? = some (Sh (Rat.divInt (l[i] * k - all) all)) := by
        unfold offs
        rw [List.getElem?_map, List.getElem?_eq_getElem hi]; rfl
      rw [List.getElem?_eq_getElem hi, obind, chkI (by omega) (by omega), obind, lof_ok _ _ (by decide) (by omega) (by decide), obind, share_sub_ok FU _ _ (smq (by decide) (by omega) (by decide)) sq FU_big, obind, eo, obind, share_mul_ok FU _ _ so sq FU_big, obind]
      simp only [if_true]
      have e1 : Rat.divInt l[i] 1 - q = Rat.divInt (l[i] * k - all) all * q := by
        rw [hq, q_sub _ _ _ (by omega), ← q_div (l[i] * k - all) all k (by omega), Rat.div_mul_cancel (q_ne (by omega) (by omega))]
      rw [if_pos (congrArg Sh e1), a3, share_add_ok FU _ _ (smq (by omega) (by omega) (by omega)) so FU_big, obind, q_add _ _ _ (by omega)]
      simp only [if_true]
      refine hJ _ ⟨hi, ?_, ?_⟩ (by simp only; omega)
      · simp only
        rw [sum_take hi, a2]
      · simp only
        rw [sum_take hi]
        have e2 : k * (l.take i).sum - i * all + (l[i] * k - all) = k * ((l.take i).sum + l[i]) - ((i + 1 : Nat) : Int) * all := by
          rw [Int.mul_add, Int.natCast_add, Int.add_mul]
          have := Int.mul_comm l[i] k
          omega
        rw [e2]
    · have hi : i = l.length := by omega
      refine ⟨_, rfl, (u1, u2, u3, u4, u5, u6, u7, u8), (v1, v2, v3, v4, v5, v6, v7, v8), ?_, ?_⟩
      · rw [a2, List.take_of_length_le (by omega), hs]
      · rw [a3, List.take_of_length_le (by omega), hs, hi, hl, Int.sub_self, q_zero _ (by omega)]
  · simp only [List.take_zero, List.sum_nil, Int.mul_zero]
    have : (0 : Int) - ((0 : Nat) : Int) * all = 0 := by simp
    rw [this, q_zero all (by omega)]
theorem balanceSums_at (a0 : TDraft) (a1 : TDraft26) : wardmotelaw22_BalanceSums_p FU a0 a1 = some true := by
  have hF := FU_lt
  obtain ⟨p, k, e1, p1, p2, pk, k1, k8⟩ := loose_ok FU a0 (by omega)
  obtain ⟨r, us, e2, u1, hr⟩ := roll_ok FU a1 p.length p1 p2 (by omega)
  obtain ⟨l, et, eT, l1, l2, l3⟩ := Totals_ok r us hr p k k1 k8 pk u1.symm
  have hb := tot_bound hr us.length
  rw [List.take_length] at hb
  unfold wardmotelaw22_BalanceSums_p
  rw [works_ok, obind, if_pos rfl, e1, obind, e2, obind]
  simp only
  rw [eT, obind, Ideal_ok r us hr k k1 k8, obind, all_loop r us hr, obind]
  simp only [if_true]
  rw [if_pos l1]
  unfold wardmotelaw22_part_1_p
  rw [lof_ok _ _ (by omega) (by omega) (by omega), obind, if_pos rfl, obind, if_pos (by decide), Off_ok r us hr p k k1 k8 l et l1 l2 l3]
  by_cases ha : tot us = 0
  · rw [if_pos ha, obind, if_pos ha]
    rfl
  · rw [if_neg ha, obind, if_neg ha]
    simp only [if_true]
    have lo : (offs (tot us) k l).length = l.length := by unfold offs; rw [List.length_map]
    rw [lo, if_pos l1, lof_ok _ _ (by decide) (by decide) (by decide), obind]
    obtain ⟨u, v, e3, e4⟩ := sums_loop l (tot us) k k1 k8 (by omega) (by omega) l1 l2 l3 _ rfl
    rw [e3]
    show (if tot us = tot us then some (decide ((⟨u, v⟩ : TShare) = Sh (Rat.divInt 0 1))) else some false) = _
    rw [if_pos rfl, decide_eq_true e4]
theorem balanceSums_ex (a0 : TDraft) (a1 : TDraft26) : ∃ n, wardmotelaw22_BalanceSums_p n a0 a1 = some true := ⟨FU, balanceSums_at a0 a1⟩
end Go.Proofs.YtmhgoecnjleagaaGreatDoor
