/- Plain laws: erased walks. No program in sight but the printed functions. -/
import Derived.Test.YtplkfbljncfdnaaDoorK7
import Derived.Test.YtplkfbljncfdnaaDoorKLq
namespace Go.Proofs.YtplkfbljncfdnaaDoor
open Go

theorem nodup_inj {l : List Int} (h : l.Nodup) {i j : Nat} {hi : i < l.length} {hj : j < l.length} (e : l[i] = l[j]) : i = j := by
  have hp := List.pairwise_iff_getElem.1 h
  rcases Nat.lt_trichotomy i j with h1 | h1 | h1
  · exact absurd e (hp i j hi hj h1)
  · exact h1
  · exact absurd e.symm (hp j i hj hi h1)
/-- What the erased walk is. -/
structure Erased (l r : List Int) : Prop where
  len : r.length ≤ l.length
  pos : 0 < r.length
  first : r[0]? = l[0]?
  last : r[r.length - 1]? = l[l.length - 1]?
  once : r.Nodup
  steps : ∀ i, 0 < i → i < r.length → ∃ k, 0 < k ∧ k < l.length ∧ l[k - 1]? = r[i - 1]? ∧ l[k]? = r[i]?
theorem erased_run (N : Nat) (l : List Int) (D : List (Int × Int)) (hD : LastP l l.length D) (hl : l.length ≤ 10001) : ∀ (m : Nat) (at_ : Int) (pre : List Int) (p : Nat), l[p]? = some at_ → l.length - p ≤ m → pre.length ≤ p → (pre ++ [at_])[0]? = l[0]? → pre.Nodup → (∀ x ∈ pre, ∀ j : Nat, l[j]? = some x → j < p) →
    (∀ i, 0 < i → i < (pre ++ [at_]).length → ∃ k, 0 < k ∧ k < l.length ∧ l[k - 1]? = (pre ++ [at_])[i - 1]? ∧ l[k]? = (pre ++ [at_])[i]?) → ∀ n, m < n →
    ∃ r, loopF (wilson_erased_l1 N l D) n (at_, pre ++ [at_]) = some r ∧ Erased l r := by
  intro m
  induction m with
  | zero =>
    intro at_ pre p hp hm
    have hpl : p < l.length := (List.getElem?_eq_some_iff.1 hp).1
    omega
  | succ m ih =>
    intro at_ pre p hp hm hpp h0 hnd hold hst n hn
    have hpl : p < l.length := (List.getElem?_eq_some_iff.1 hp).1
    obtain ⟨k, k1, k2, k3, k4⟩ := hD at_ p hpl hp
    have hnew : at_ ∉ pre := fun hm => Nat.lt_irrefl _ (hold at_ hm p hp)
    have hnd2 : (pre ++ [at_]).Nodup := by
      rw [List.nodup_append]
      refine ⟨hnd, by simp, fun a ha b hb => ?_⟩
      rcases List.mem_singleton.1 hb with rfl
      exact fun e => hnew (e ▸ ha)
    cases n with
    | zero => omega
    | succ n =>
      have e1 : idx l (((l.length : Nat) : Int) - 1) = some (l[l.length - 1]'(by omega)) := by
        rw [show (((l.length : Nat) : Int) - 1) = ((l.length - 1 : Nat) : Int) by omega, idx_nat, List.getElem?_eq_getElem]
      rw [loopF_succ]
      generalize hJ1 : loopF (wilson_erased_l1 N l D) n = J1
      unfold wilson_erased_l1
      simp only
      rw [e1]
      simp only [obind]
      by_cases hend : at_ = l[l.length - 1]'(by omega)
      · rw [if_pos hend]
        refine ⟨_, rfl, by simp only [List.length_append, List.length_singleton]; omega, by simp, h0, ?_, hnd2, hst⟩
        rw [List.getElem?_eq_getElem (show l.length - 1 < l.length by omega), ← hend]
        simp
      · rw [if_neg hend]
        have hkl : k + 1 < l.length := by
          rcases Nat.lt_or_ge (k + 1) l.length with h | h
          · exact h
          · have hkk : k = l.length - 1 := by omega
            subst hkk
            rw [List.getElem?_eq_getElem (by omega)] at k4
            exact absurd (by cases k4; rfl) hend
        have e3 : mgetD D at_ (0 : Int) = (k : Int) := by simp [mgetD, k1]
        rw [e3, chk_ok (by omega)]
        simp only [obind]
        have e4 : idx l ((k : Int) + 1) = some l[k + 1] := by rw [show ((k : Int) + 1) = ((k + 1 : Nat) : Int) by omega, idx_nat, List.getElem?_eq_getElem hkl]
        rw [e4]
        simp only [obind]
        rw [app_ok (by simp; omega)]
        simp only [obind]
        obtain ⟨r, r1, r2⟩ := ih l[k + 1] (pre ++ [at_]) (k + 1) (List.getElem?_eq_getElem hkl) (by omega) (by simp only [List.length_append, List.length_singleton]; omega)
          (by rw [List.getElem?_append_left (by simp)]; exact h0) hnd2
          (fun x hx j hj => by
            rcases List.mem_append.1 hx with hx | hx
            · have := hold x hx j hj; omega
            · rcases List.mem_singleton.1 hx with rfl
              obtain ⟨k', q1, q2, _, _⟩ := hD x j (List.getElem?_eq_some_iff.1 hj).1 hj
              rw [k1] at q1
              have : (k : Int) = k' := by cases q1; rfl
              omega)
          (fun i hi hil => by
            by_cases hlast : i = (pre ++ [at_]).length
            · refine ⟨k + 1, by omega, hkl, ?_, ?_⟩
              · rw [Nat.add_sub_cancel, k4, List.getElem?_append_left (by omega)]
                subst hlast
                simp
              · subst hlast
                rw [List.getElem?_append_right (Nat.le_refl _), Nat.sub_self]
                exact List.getElem?_eq_getElem hkl
            · have hil' : i < (pre ++ [at_]).length := by
                rw [List.length_append] at hil
                simp only [List.length_singleton] at hil
                omega
              obtain ⟨q, q1, q2, q3, q4⟩ := hst i hi hil'
              refine ⟨q, q1, q2, ?_, ?_⟩
              · rw [List.getElem?_append_left (by omega)]; exact q3
              · rw [List.getElem?_append_left hil']; exact q4) n (by omega)
        exact ⟨r, by rw [← hJ1]; exact r1, r2⟩
theorem erased_props (N : Nat) (l : List Int) (hl : l.length ≤ 10001) (hN : 10002 < N) (h0 : 0 < l.length) : ∃ r, wilson_erased_p N l = some r ∧ Erased l r := by
  unfold wilson_erased_p
  obtain ⟨D, d1, d2⟩ := erased_map N N l (by omega)
  rw [d1]
  have e0 : l[0]? = some (l[0]'h0) := List.getElem?_eq_getElem _
  rw [e0]
  simp only [obind]
  obtain ⟨r, r1, r2⟩ := erased_run N l D d2 (by omega) l.length (l[0]'h0) [] 0 e0 (by omega) (Nat.zero_le _) (by rw [e0]; rfl) (by simp) (by simp) (fun i h1 h2 => by simp at h2; omega) N (by omega)
  rw [show ([] : List Int) ++ [l[0]'h0] = [l[0]'h0] from rfl] at r1
  rw [r1]
  exact ⟨r, rfl, r2⟩
/-- Nothing is erased where no number stands twice. -/
theorem erased_same (N : Nat) (l : List Int) (D : List (Int × Int)) (hD : LastP l l.length D) (hl : l.length ≤ 10001) (hnd : l.Nodup) : ∀ (m i : Nat) (hi : i < l.length), l.length - i ≤ m → ∀ n, m < n →
    loopF (wilson_erased_l1 N l D) n (l[i], l.take (i + 1)) = some l := by
  intro m
  induction m with
  | zero => intro i hi hm; omega
  | succ m ih =>
    intro i hi hm n hn
    obtain ⟨k, k1, k2, k3, k4⟩ := hD l[i] i hi (List.getElem?_eq_getElem hi)
    have hki : k = i := by
      have hk : k < l.length := k3
      rw [List.getElem?_eq_getElem hk] at k4
      exact nodup_inj hnd (Option.some.inj k4)
    subst hki
    cases n with
    | zero => omega
    | succ n =>
      have e1 : idx l (((l.length : Nat) : Int) - 1) = some (l[l.length - 1]'(by omega)) := by
        rw [show (((l.length : Nat) : Int) - 1) = ((l.length - 1 : Nat) : Int) by omega, idx_nat, List.getElem?_eq_getElem]
      rw [loopF_succ]
      generalize hJ1 : loopF (wilson_erased_l1 N l D) n = J1
      unfold wilson_erased_l1
      simp only
      rw [e1]
      simp only [obind]
      by_cases hend : l[k] = l[l.length - 1]'(by omega)
      · rw [if_pos hend]
        have : k = l.length - 1 := nodup_inj hnd hend
        rw [List.take_of_length_le (by omega)]
      · rw [if_neg hend]
        have hkl : k + 1 < l.length := by
          rcases Nat.lt_or_ge (k + 1) l.length with h | h
          · exact h
          · exact absurd (by congr 1; omega) hend
        have e3 : mgetD D l[k] (0 : Int) = (k : Int) := by simp [mgetD, k1]
        rw [e3, chk_ok (by omega)]
        simp only [obind]
        have e4 : idx l ((k : Int) + 1) = some l[k + 1] := by rw [show ((k : Int) + 1) = ((k + 1 : Nat) : Int) by omega, idx_nat, List.getElem?_eq_getElem hkl]
        rw [e4]
        simp only [obind]
        rw [app_ok (by simp; omega)]
        simp only [obind]
        rw [show l.take (k + 1) ++ [l[k + 1]] = l.take (k + 1 + 1) by rw [List.take_succ_eq_append_getElem hkl], ← hJ1]
        exact ih (k + 1) hkl (by omega) n (by omega)
theorem erase_again (N : Nat) (l : List Int) (hl : l.length ≤ 10001) (hN : 10002 < N) (h0 : 0 < l.length) (hnd : l.Nodup) : wilson_Erase_p N l = some (l, 0) := by
  unfold wilson_Erase_p
  rw [if_neg (by omega), if_neg (by omega)]
  unfold wilson_erased_p
  obtain ⟨D, d1, d2⟩ := erased_map N N l (by omega)
  rw [d1]
  have e0 : l[0]? = some (l[0]'h0) := List.getElem?_eq_getElem _
  rw [e0]
  simp only [obind]
  have := erased_same N l D d2 hl hnd l.length 0 h0 (by omega) N (by omega)
  rw [show l.take (0 + 1) = [l[0]'h0] by rw [List.take_succ_eq_append_getElem h0]; rfl] at this
  rw [this]
  rfl
end Go.Proofs.YtplkfbljncfdnaaDoor
