/- The plain law of WilsonLoops. No program in sight but the printed functions. -/
import Derived.Test.YtplkfbljncfdnaaDoorF7
import Derived.Test.YtplkfbljncfdnaaDoorLb
namespace Go.Proofs.YtplkfbljncfdnaaDoor
open Go

theorem nodup_inj {l : List Int} (h : l.Nodup) {i j : Nat} {hi : i < l.length} {hj : j < l.length} (e : l[i] = l[j]) : i = j := by
  have hp := List.pairwise_iff_getElem.1 h
  rcases Nat.lt_trichotomy i j with h1 | h1 | h1
  · exact absurd e (hp i j hi hj h1)
  · exact h1
  · exact absurd e.symm (hp j i hj hi h1)
/-- What the erased walk is. -/
structure Erased (l r : List Int) : Prop where
  len : r.length ≤ l.length
  pos : 0 < r.length
  first : r[0]? = l[0]?
  last : r[r.length - 1]? = l[l.length - 1]?
  once : r.Nodup
  steps : ∀ i, 0 < i → i < r.length → ∃ k, 0 < k ∧ k < l.length ∧ l[k - 1]? = r[i - 1]? ∧ l[k]? = r[i]?
theorem erased_run (N : Nat) (l : List Int) (D : List (Int × Int)) (hD : LastP l l.length D) (hl : l.length ≤ 10001) : ∀ (m : Nat) (at_ : Int) (pre : List Int) (p : Nat), l[p]? = some at_ → l.length - p ≤ m → pre.length ≤ p → (pre ++ [at_])[0]? = l[0]? → pre.Nodup → (∀ x ∈ pre, ∀ j : Nat, l[j]? = some x → j < p) →
    (∀ i, 0 < i → i < (pre ++ [at_]).length → ∃ k, 0 < k ∧ k < l.length ∧ l[k - 1]? = (pre ++ [at_])[i - 1]? ∧ l[k]? = (pre ++ [at_])[i]?) → ∀ n, m < n →
    ∃ r, loopF (wilson_erased_l1 N l D) n (at_, pre ++ [at_]) = some r ∧ Erased l r := by
  intro m
  induction m with
  | zero =>
    intro at_ pre p hp hm
    have hpl : p < l.length := (List.getElem?_eq_some_iff.1 hp).1
    omega
  | succ m ih =>
    intro at_ pre p hp hm hpp h0 hnd hold hst n hn
    have hpl : p < l.length := (List.getElem?_eq_some_iff.1 hp).1
    obtain ⟨k, k1, k2, k3, k4⟩ := hD at_ p hpl hp
    have hnew : at_ ∉ pre := fun hm => Nat.lt_irrefl _ (hold at_ hm p hp)
    have hnd2 : (pre ++ [at_]).Nodup := by
      rw [List.nodup_append]
      refine ⟨hnd, by simp, fun a ha b hb => ?_⟩
      rcases List.mem_singleton.1 hb with rfl
      exact fun e => hnew (e ▸ ha)
    cases n with
    | zero => omega
    | succ n =>
      have e1 : idx l (((l.length : Nat) : Int) - 1) = some (l[l.length - 1]'(by omega)) := by
        rw [show (((l.length : Nat) : Int) - 1) = ((l.length - 1 : Nat) : Int) by omega, idx_nat, List.getElem?_eq_getElem]
      rw [loopF_succ]
      generalize hJ1 : loopF (wilson_erased_l1 N l D) n = J1
      unfold wilson_erased_l1
      simp only
      rw [e1]
      simp only [obind]
      by_cases hend : at_ = l[l.length - 1]'(by omega)
      · rw [if_pos hend]
        refine ⟨_, rfl, by simp only [List.length_append, List.length_singleton]; omega, by simp, h0, ?_, hnd2, hst⟩
        rw [List.getElem?_eq_getElem (show l.length - 1 < l.length by omega), ← hend]
        simp
      · rw [if_neg hend]
        have hkl : k + 1 < l.length := by
          rcases Nat.lt_or_ge (k + 1) l.length with h | h
          · exact h
          · have hkk : k = l.length - 1 := by omega
            subst hkk
            rw [List.getElem?_eq_getElem (by omega)] at k4
            exact absurd (by cases k4; rfl) hend
        have e3 : mgetD D at_ (0 : Int) = (k : Int) := by simp [mgetD, k1]
        rw [e3, chk_ok (by omega)]
        simp only [obind]
        have e4 : idx l ((k : Int) + 1) = some l[k + 1] := by rw [show ((k : Int) + 1) = ((k + 1 : Nat) : Int) by omega, idx_nat, List.getElem?_eq_getElem hkl]
        rw [e4]
        simp only [obind]
        rw [app_ok (by simp; omega)]
        simp only [obind]
        obtain ⟨r, r1, r2⟩ := ih l[k + 1] (pre ++ [at_]) (k + 1) (List.getElem?_eq_getElem hkl) (by omega) (by simp only [List.length_append, List.length_singleton]; omega)
          (by rw [List.getElem?_append_left (by simp)]; exact h0) hnd2
          (fun x hx j hj => by
            rcases List.mem_append.1 hx with hx | hx
            · have := hold x hx j hj; omega
            · rcases List.mem_singleton.1 hx with rfl
              obtain ⟨k', q1, q2, _, _⟩ := hD x j (List.getElem?_eq_some_iff.1 hj).1 hj
              rw [k1] at q1
              have : (k : Int) = k' := by cases q1; rfl
              omega)
          (fun i hi hil => by
            by_cases hlast : i = (pre ++ [at_]).length
            · refine ⟨k + 1, by omega, hkl, ?_, ?_⟩
              · rw [Nat.add_sub_cancel, k4, List.getElem?_append_left (by omega)]
                subst hlast
                simp
              · subst hlast
                rw [List.getElem?_append_right (Nat.le_refl _), Nat.sub_self]
                exact List.getElem?_eq_getElem hkl
            · have hil' : i < (pre ++ [at_]).length := by
                rw [List.length_append] at hil
                simp only [List.length_singleton] at hil
                omega
              obtain ⟨q, q1, q2, q3, q4⟩ := hst i hi hil'
              refine ⟨q, q1, q2, ?_, ?_⟩
              · rw [List.getElem?_append_left (by omega)]; exact q3
              · rw [List.getElem?_append_left hil']; exact q4) n (by omega)
        exact ⟨r, by rw [← hJ1]; exact r1, r2⟩
theorem erased_props (N : Nat) (l : List Int) (hl : l.length ≤ 10001) (hN : 10002 < N) (h0 : 0 < l.length) : ∃ r, wilson_erased_p N l = some r ∧ Erased l r := by
  unfold wilson_erased_p
  obtain ⟨D, d1, d2⟩ := erased_map N N l (by omega)
  rw [d1]
  have e0 : l[0]? = some (l[0]'h0) := List.getElem?_eq_getElem _
  rw [e0]
  simp only [obind]
  obtain ⟨r, r1, r2⟩ := erased_run N l D d2 (by omega) l.length (l[0]'h0) [] 0 e0 (by omega) (Nat.zero_le _) (by rw [e0]; rfl) (by simp) (by simp) (fun i h1 h2 => by simp at h2; omega) N (by omega)
  rw [show ([] : List Int) ++ [l[0]'h0] = [l[0]'h0] from rfl] at r1
  rw [r1]
  exact ⟨r, rfl, r2⟩
/-- Nothing is erased where no number stands twice. -/
theorem erased_same (N : Nat) (l : List Int) (D : List (Int × Int)) (hD : LastP l l.length D) (hl : l.length ≤ 10001) (hnd : l.Nodup) : ∀ (m i : Nat) (hi : i < l.length), l.length - i ≤ m → ∀ n, m < n →
    loopF (wilson_erased_l1 N l D) n (l[i], l.take (i + 1)) = some l := by
  intro m
  induction m with
  | zero => intro i hi hm; omega
  | succ m ih =>
    intro i hi hm n hn
    obtain ⟨k, k1, k2, k3, k4⟩ := hD l[i] i hi (List.getElem?_eq_getElem hi)
    have hki : k = i := by
      have hk : k < l.length := k3
      rw [List.getElem?_eq_getElem hk] at k4
      exact nodup_inj hnd (Option.some.inj k4)
    subst hki
    cases n with
    | zero => omega
    | succ n =>
      have e1 : idx l (((l.length : Nat) : Int) - 1) = some (l[l.length - 1]'(by omega)) := by
        rw [show (((l.length : Nat) : Int) - 1) = ((l.length - 1 : Nat) : Int) by omega, idx_nat, List.getElem?_eq_getElem]
      rw [loopF_succ]
      generalize hJ1 : loopF (wilson_erased_l1 N l D) n = J1
      unfold wilson_erased_l1
      simp only
      rw [e1]
      simp only [obind]
      by_cases hend : l[k] = l[l.length - 1]'(by omega)
      · rw [if_pos hend]
        have : k = l.length - 1 := nodup_inj hnd hend
        rw [List.take_of_length_le (by omega)]
      · rw [if_neg hend]
        have hkl : k + 1 < l.length := by
          rcases Nat.lt_or_ge (k + 1) l.length with h | h
          · exact h
          · exact absurd (by congr 1; omega) hend
        have e3 : mgetD D l[k] (0 : Int) = (k : Int) := by simp [mgetD, k1]
        rw [e3, chk_ok (by omega)]
        simp only [obind]
        have e4 : idx l ((k : Int) + 1) = some l[k + 1] := by rw [show ((k : Int) + 1) = ((k + 1 : Nat) : Int) by omega, idx_nat, List.getElem?_eq_getElem hkl]
        rw [e4]
        simp only [obind]
        rw [app_ok (by simp; omega)]
        simp only [obind]
        rw [show l.take (k + 1) ++ [l[k + 1]] = l.take (k + 1 + 1) by rw [List.take_succ_eq_append_getElem hkl], ← hJ1]
        exact ih (k + 1) hkl (by omega) n (by omega)
theorem erase_again (N : Nat) (l : List Int) (hl : l.length ≤ 10001) (hN : 10002 < N) (h0 : 0 < l.length) (hnd : l.Nodup) : wilson_Erase_p N l = some (l, 0) := by
  unfold wilson_Erase_p
  rw [if_neg (by omega), if_neg (by omega)]
  unfold wilson_erased_p
  obtain ⟨D, d1, d2⟩ := erased_map N N l (by omega)
  rw [d1]
  have e0 : l[0]? = some (l[0]'h0) := List.getElem?_eq_getElem _
  rw [e0]
  simp only [obind]
  have := erased_same N l D d2 hl hnd l.length 0 h0 (by omega) N (by omega)
  rw [show l.take (0 + 1) = [l[0]'h0] by rw [List.take_succ_eq_append_getElem h0]; rfl] at this
  rw [this]
  rfl
theorem index_none (n : Nat) (xs : List Int) (x : Int) (h : x ∉ xs) (hn : xs.length < n) : slices_Index_int_int_p n xs x = some (-1) := by
  unfold slices_Index_int_int_p
  obtain ⟨r, h1, rfl⟩ := loop_ok (B := slices_Index_int_int_l1 n xs x) (fun i => xs.length - i) (fun i => i ≤ xs.length) (fun r => r = .inr ()) (fun i J hi hJ => by
    unfold slices_Index_int_int_l1
    simp only
    by_cases hl : i < xs.length
    · rw [if_pos hl, List.getElem?_eq_getElem hl]
      simp only [obind]
      rw [if_neg (show ¬ x = xs[i] from fun e => h (by rw [e]; exact List.getElem_mem hl))]
      exact hJ (i + 1) (by omega) (by omega)
    · rw [if_neg hl]; exact ⟨_, rfl, rfl⟩) n 0 (by omega) (by omega)
  rw [h1]
  rfl
theorem found_ok (N n : Nat) (l r : List Int) (e : Int) (i : Nat) (x : Int) (hi : 0 < i) (hir : i < r.length) (k : Nat) (hk : 0 < k) (hkl : k < l.length) (h1 : l[k - 1]? = r[i - 1]?) (h2 : l[k]? = some x) (h : l.length < n) :
    loopF (wardmotelaw31_WilsonLoops_l1 N l (r, e) i x) n (false, 1) = some true := by
  obtain ⟨q, q1, rfl⟩ := loop_ok (B := wardmotelaw31_WilsonLoops_l1 N l (r, e) i x) (fun s => l.length - s.2) (fun s => 1 ≤ s.2 ∧ s.2 ≤ l.length ∧ (s.1 = true ∨ s.2 ≤ k)) (fun q => q = true) (fun ⟨q, j⟩ J ⟨h3, h4, h5⟩ hJ => by
    simp only at h3 h4 h5 hJ
    unfold wardmotelaw31_WilsonLoops_l1
    simp only
    by_cases hj : j < l.length
    · rw [if_pos hj]
      cases q with
      | true =>
        rw [if_pos rfl]
        exact hJ _ ⟨by simp only; omega, by simp only; omega, .inl rfl⟩ (by simp only; omega)
      | false =>
        rw [if_neg (by simp)]
        have e1 : idx l (((j : Nat) : Int) - 1) = some (l[j - 1]'(by omega)) := by
          rw [show (((j : Nat) : Int) - 1) = ((j - 1 : Nat) : Int) by omega, idx_nat, List.getElem?_eq_getElem]
        have e2 : idx r (((i : Nat) : Int) - 1) = some (r[i - 1]'(by omega)) := by
          rw [show (((i : Nat) : Int) - 1) = ((i - 1 : Nat) : Int) by omega, idx_nat, List.getElem?_eq_getElem]
        rw [e1, e2]
        simp only [obind]
        have hjk : j ≤ k := by simpa using h5
        by_cases heq : l[j - 1]'(by omega) = r[i - 1]'(by omega)
        · rw [if_pos heq, List.getElem?_eq_getElem hj]
          simp only [obind]
          refine hJ _ ⟨by simp only; omega, by simp only; omega, ?_⟩ (by simp only; omega)
          simp only
          by_cases hk2 : j = k
          · subst hk2
            rw [List.getElem?_eq_getElem hj] at h2
            left
            simp only [decide_eq_true_eq]
            cases h2; rfl
          · right; omega
        · rw [if_neg heq]
          refine hJ _ ⟨by simp only; omega, by simp only; omega, .inr ?_⟩ (by simp only; omega)
          simp only
          rcases Nat.lt_or_ge j k with h6 | h6
          · omega
          · have : j = k := by omega
            subst this
            rw [List.getElem?_eq_getElem (by omega), List.getElem?_eq_getElem (by omega)] at h1
            exact absurd (Option.some.inj h1) heq
    · rw [if_neg hj]
      refine ⟨_, rfl, ?_⟩
      rcases h5 with h5 | h5
      · exact h5
      · omega) n (false, 1) ⟨by simp, by simp only; omega, .inr (by simp only; omega)⟩ (by simp only; omega)
  exact q1
theorem small_list10 (N n : Nat) (xs : List UInt8) (hx : xs.length ≤ 60) (h : xs.length < n) : ∃ l, loopF (wardmotelaw31_WilsonLoops_l3 N xs) n (0, ([] : List Int)) = some l ∧ l.length = xs.length := by
  obtain ⟨r, h1, h2⟩ := loop_ok (B := wardmotelaw31_WilsonLoops_l3 N xs) (fun s => xs.length - s.1) (fun s => s.1 ≤ xs.length ∧ s.2.length = s.1) (fun l => l.length = xs.length) (fun ⟨i, l⟩ J ⟨h1, h2⟩ hJ => by
    unfold wardmotelaw31_WilsonLoops_l3
    simp only at h1 h2 hJ ⊢
    by_cases hl : i < xs.length
    · rw [if_pos hl, List.getElem?_eq_getElem hl]
      simp only [obind]
      rw [app_ok (by simp only [List.length_singleton]; omega)]
      simp only [obind]
      exact hJ _ ⟨by simp only; omega, by simp [h2]⟩ (by simp only; omega)
    · rw [if_neg hl]; exact ⟨_, rfl, by omega⟩) n (0, []) ⟨by simp, by simp⟩ (by simpa using h)
  exact ⟨r, h1, h2⟩
theorem all_steps (N n : Nat) (l r : List Int) (e : Int) (hE : Erased l r) (hl : l.length < N) (h : r.length < n) : loopF (wardmotelaw31_WilsonLoops_l2 N (r, e) l) n 0 = some (.inr ()) := by
  obtain ⟨q, h1, rfl⟩ := loop_ok (B := wardmotelaw31_WilsonLoops_l2 N (r, e) l) (fun i => r.length - i) (fun i => i ≤ r.length) (fun q => q = .inr ()) (fun i J hi hJ => by
    unfold wardmotelaw31_WilsonLoops_l2
    simp only
    by_cases hl' : i < r.length
    · rw [if_pos hl']
      have hc : cut r 0 ((i : Nat) : Int) = some (r.take i) := by
        unfold cut
        rw [if_pos ⟨by omega, by omega, by omega⟩]
        simp
      rw [hc, List.getElem?_eq_getElem hl']
      simp only [obind]
      unfold slices_Contains_int_int_p
      rw [index_none N (r.take i) r[i] (fun hm => by
        obtain ⟨j, hj, hje⟩ := List.getElem_of_mem hm
        rw [List.getElem_take] at hje
        have := nodup_inj hE.once hje
        simp at hj
        omega) (by have := hE.len; simp; omega)]
      simp only [obind]
      rw [show decide ((0 : Int) ≤ -1) = false from rfl, if_neg (by simp)]
      by_cases h0 : i = 0
      · rw [if_pos h0]; exact hJ (i + 1) (by omega) (by omega)
      · rw [if_neg h0]
        obtain ⟨k, k1, k2, k3, k4⟩ := hE.steps i (by omega) hl'
        rw [found_ok N N l r e i r[i] (by omega) hl' k k1 k2 k3 (by rw [k4, List.getElem?_eq_getElem hl']) hl]
        simp only [obind]
        rw [ifT]
        exact hJ (i + 1) (by omega) (by omega)
    · rw [if_neg hl']; exact ⟨_, rfl, rfl⟩) n 0 (by omega) (by omega)
  exact h1
theorem idx_last {l : List Int} (h : 0 < l.length) : idx l (((l.length : Nat) : Int) - 1) = some (l[l.length - 1]'(by omega)) := by
  rw [show (((l.length : Nat) : Int) - 1) = ((l.length - 1 : Nat) : Int) by omega, idx_nat, List.getElem?_eq_getElem]
theorem wilsonLoops_true (a0 : List UInt8) : ∃ n, wardmotelaw31_WilsonLoops_p n a0 = some true := by
  refine ⟨20000, ?_⟩
  unfold wardmotelaw31_WilsonLoops_p
  rw [works_true]
  simp only [obind]
  rw [ifT, cut_min]
  simp only [obind]
  obtain ⟨l, h2, hl⟩ := small_list10 20000 20000 (a0.take (min a0.length 60)) (by simp; omega) (by simp; omega)
  have hl60 : l.length ≤ 60 := by rw [hl]; simp; omega
  rw [h2]
  simp only [obind]
  by_cases h0 : l.length = 0
  · unfold wilson_Erase_p
    rw [if_pos h0]
    simp only [obind]
    rw [if_pos h0]
    rfl
  · obtain ⟨r, r1, hE⟩ := erased_props 20000 l (by omega) (by omega) (by omega)
    have he : wilson_Erase_p 20000 l = some (r, 0) := by
      unfold wilson_Erase_p
      rw [if_neg h0, if_neg (by omega), r1]
      rfl
    rw [he]
    simp only [obind]
    rw [if_neg h0]
    have hr0 := hE.pos
    have hrl := hE.len
    have e1 := hE.first
    have e2 := hE.last
    rw [List.getElem?_eq_getElem hr0, List.getElem?_eq_getElem (by omega)] at e1
    rw [List.getElem?_eq_getElem (by omega), List.getElem?_eq_getElem (by omega)] at e2
    simp only [jn]
    rw [ifT, if_neg (by omega), List.getElem?_eq_getElem hr0, List.getElem?_eq_getElem (by omega)]
    simp only [obind]
    rw [if_pos (Option.some.inj e1), idx_last hr0, idx_last (by omega)]
    simp only [obind]
    rw [if_pos (Option.some.inj e2), erase_again 20000 r (by omega) (by omega) hr0 hE.once]
    simp only [obind]
    unfold wardmotelaw31_lists_1_p
    rw [equal_self 20000 r (by omega)]
    simp only [obind]
    rw [ifT]
    simp only [obind]
    rw [if_neg (by simp), all_steps 20000 20000 l r 0 hE (by omega) (by omega)]
    rfl
end Go.Proofs.YtplkfbljncfdnaaDoor
