/- The plain law: erasing as the program does it and as the reference does it. No program in sight but the printed functions. -/
import Derived.Test.YtplkfbljncfdnaaDoorF7
namespace Go.Proofs.YtplkfbljncfdnaaDoor
open Go

theorem obind {α β : Type} (x : α) (f : α → Option β) : (some x).bind f = f x := Eq.trans (Eq.refl _) (Eq.refl _)
/-- A loop with a measure. -/
theorem loopF_succ {α β : Type} (B : (α → Option β) → α → Option β) (n : Nat) (s : α) : loopF B (n + 1) s = B (loopF B n) s := rfl
theorem loop_ok {α β : Type} {B : (α → Option β) → α → Option β} (m : α → Nat) (I : α → Prop) (Q : β → Prop)
    (step : ∀ s J, I s → (∀ s', I s' → m s' < m s → ∃ r, J s' = some r ∧ Q r) → ∃ r, B J s = some r ∧ Q r) : ∀ n s, I s → m s < n → ∃ r, loopF B n s = some r ∧ Q r := by
  intro n
  induction n with
  | zero => intro s _ h; omega
  | succ n ih => intro s hI h; exact step s (loopF B n) hI fun s' h1 h2 => ih s' h1 (by omega)
theorem mget_mset {κ ν : Type} [DecidableEq κ] : ∀ (D : List (κ × ν)) (k x : κ) (v : ν), mget (mset D k v) x = if x = k then some v else mget D x
  | [], k, x, v => by simp [mset, mget]
  | e :: D, k, x, v => by
    unfold mset
    split
    · rename_i h; subst h; simp only [mget]; split <;> rfl
    · rename_i h
      simp only [mget]
      rw [mget_mset D k x v]
      by_cases h1 : x = k
      · subst h1; simp [h]
      · simp [h1]
/-- D has the last places of the first i elements. -/
def LastP (l : List Int) (i : Nat) (D : List (Int × Int)) : Prop := ∀ x j, j < i → l[j]? = some x → ∃ k : Nat, mget D x = some (k : Int) ∧ j ≤ k ∧ k < i ∧ l[k]? = some x
theorem erased_map (N n : Nat) (l : List Int) (h : l.length < n) : ∃ D, loopF (wilson_erased_l2 N l) n (0, []) = some D ∧ LastP l l.length D := by
  refine loop_ok (fun s => l.length - s.1) (fun s => s.1 ≤ l.length ∧ LastP l s.1 s.2) _ ?_ n (0, []) ⟨Nat.zero_le _, fun x j hj => (by omega)⟩ (by simpa using h)
  rintro ⟨i, D⟩ J ⟨h1, h2⟩ hJ
  simp only at h1 h2 hJ
  unfold wilson_erased_l2
  simp only
  by_cases hi : i < l.length
  · rw [if_pos hi, List.getElem?_eq_getElem hi, Option.bind_some]
    refine hJ (i + 1, mset D l[i] (i : Int)) ⟨by simp only; omega, fun x j hj hx => ?_⟩ (by simp only; omega)
    simp only at hj ⊢
    rw [mget_mset]
    by_cases hxi : x = l[i]
    · subst hxi; exact ⟨i, by simp, by omega, by omega, List.getElem?_eq_getElem hi⟩
    · rw [if_neg hxi]
      have hji : j ≠ i := fun e => by subst e; rw [List.getElem?_eq_getElem hi] at hx; exact hxi (by cases hx; rfl)
      obtain ⟨k, k1, k2, k3, k4⟩ := h2 x j (by omega) hx
      exact ⟨k, k1, k2, by omega, k4⟩
  · rw [if_neg hi]
    exact ⟨D, rfl, by rw [show l.length = i by omega]; exact h2⟩
/-- The search from the end. -/
theorem search_ok (N n : Nat) (l : List Int) (x : Int) (k : Nat) (hk : l[k]? = some x) (hlast : ∀ j, l[j]? = some x → j ≤ k) (hl : l.length ≤ 4294967296) (h : l.length < n) : loopF (wardmoteref31_Erased_l1 N l x) n (((l.length : Nat) : Int) - 1) = some (k : Int) := by
  have hkl : k < l.length := (List.getElem?_eq_some_iff.1 hk).1
  have := loop_ok (B := wardmoteref31_Erased_l1 N l x) (fun z => (z - k).toNat) (fun z => (k : Int) ≤ z ∧ z < l.length) (fun r => r = (k : Int)) (fun z J ⟨h1, h2⟩ hJ => by
    unfold wardmoteref31_Erased_l1
    simp only
    obtain ⟨q, rfl⟩ : ∃ q : Nat, z = (q : Int) := ⟨z.toNat, by omega⟩
    have hq : q < l.length := by omega
    rw [idx_nat, List.getElem?_eq_getElem hq, Option.bind_some]
    by_cases hx : l[q] = x
    · rw [if_pos hx]
      have := hlast q (by rw [List.getElem?_eq_getElem hq, hx])
      exact ⟨_, rfl, by omega⟩
    · rw [if_neg hx, chk_ok (by omega), Option.bind_some]
      have hne : q ≠ k := fun e => by subst e; rw [List.getElem?_eq_getElem hq] at hk; exact hx (by cases hk; rfl)
      exact hJ _ ⟨by omega, by omega⟩ (by omega)) n (((l.length : Nat) : Int) - 1) ⟨by omega, by omega⟩ (by omega)
  obtain ⟨r, h1, rfl⟩ := this
  exact h1
/-- Both go on alike. -/
theorem erased_sim (N : Nat) (l : List Int) (D : List (Int × Int)) (hD : LastP l l.length D) (hl : l.length ≤ 10001) (hN : l.length < N) : ∀ (m : Nat) (at_ : Int) (pre : List Int) (p : Nat), l[p]? = some at_ → (∀ k : Nat, mget D at_ = some (k : Int) → pre.length ≤ k ∧ l.length - k ≤ m) → ∀ n, m < n →
    ∃ r, loopF (wilson_erased_l1 N l D) n (at_, pre ++ [at_]) = some r ∧ loopF (wardmoteref31_Erased_l2 N l) n (pre ++ [at_]) = some r ∧ r.length ≤ l.length := by
  intro m
  induction m with
  | zero =>
    intro at_ pre p hp hk n hn
    have hpl : p < l.length := (List.getElem?_eq_some_iff.1 hp).1
    obtain ⟨k, k1, k2, k3, k4⟩ := hD at_ p hpl hp
    have := (hk k k1).2
    omega
  | succ m ih =>
    intro at_ pre p hp hk n hn
    have hpl : p < l.length := (List.getElem?_eq_some_iff.1 hp).1
    obtain ⟨k, k1, k2, k3, k4⟩ := hD at_ p hpl hp
    obtain ⟨hk5, hk6⟩ := hk k k1
    cases n with
    | zero => omega
    | succ n =>
      have e1 : idx l (((l.length : Nat) : Int) - 1) = some (l[l.length - 1]'(by omega)) := by
        rw [show (((l.length : Nat) : Int) - 1) = ((l.length - 1 : Nat) : Int) by omega, idx_nat, List.getElem?_eq_getElem]
      have e2 : idx (pre ++ [at_]) ((((pre ++ [at_]).length : Nat) : Int) - 1) = some at_ := by
        rw [show ((((pre ++ [at_]).length : Nat) : Int) - 1) = ((pre.length : Nat) : Int) by simp, idx_nat]; simp
      rw [loopF_succ, loopF_succ]
      generalize hJ1 : loopF (wilson_erased_l1 N l D) n = J1
      generalize hJ2 : loopF (wardmoteref31_Erased_l2 N l) n = J2
      unfold wilson_erased_l1 wardmoteref31_Erased_l2
      simp only
      rw [e1, e2]
      simp only [obind]
      by_cases hend : at_ = l[l.length - 1]'(by omega)
      · rw [if_pos hend, if_pos hend]; exact ⟨_, rfl, rfl, by simp only [List.length_append, List.length_singleton]; omega⟩
      · rw [if_neg hend, if_neg hend]
        have hkl : k + 1 < l.length := by
          rcases Nat.lt_or_ge (k + 1) l.length with h | h
          · exact h
          · have hkk : k = l.length - 1 := by omega
            subst hkk
            rw [List.getElem?_eq_getElem (by omega)] at k4
            exact absurd (by cases k4; rfl) hend
        have hlast : ∀ j, l[j]? = some at_ → j ≤ k := fun j hj => by
          obtain ⟨k', q1, q2, _, _⟩ := hD at_ j (List.getElem?_eq_some_iff.1 hj).1 hj
          rw [k1] at q1
          have : (k : Int) = k' := by cases q1; rfl
          omega
        rw [search_ok N N l at_ k k4 hlast (by omega) hN]
        simp only [obind]
        have e3 : mgetD D at_ (0 : Int) = (k : Int) := by simp [mgetD, k1]
        rw [e3, chk_ok (by omega)]
        simp only [obind]
        have e4 : idx l ((k : Int) + 1) = some l[k + 1] := by rw [show ((k : Int) + 1) = ((k + 1 : Nat) : Int) by omega, idx_nat, List.getElem?_eq_getElem hkl]
        rw [e4]
        simp only [obind]
        rw [app_ok (by simp; omega)]
        simp only [obind]
        obtain ⟨r, r1, r2, r3⟩ := ih l[k + 1] (pre ++ [at_]) (k + 1) (List.getElem?_eq_getElem hkl) (fun k' hk' => by
          obtain ⟨k2', q1, q2, _, _⟩ := hD l[k + 1] (k + 1) hkl (List.getElem?_eq_getElem hkl)
          rw [hk'] at q1
          have : (k' : Int) = k2' := by cases q1; rfl
          simp only [List.length_append, List.length_singleton]
          omega) n (by omega)
        exact ⟨r, by rw [← hJ1]; exact r1, by rw [← hJ2]; exact r2, r3⟩
theorem erase_len (N : Nat) (hN : 10002 < N) (l : List Int) : ∃ r, wilson_Erase_p N l = some r ∧ wardmoteref31_Erase_p N l = some r ∧ r.1.length < N := by
  unfold wilson_Erase_p wardmoteref31_Erase_p
  by_cases h0 : l.length = 0
  · rw [if_pos h0, if_pos h0]; exact ⟨_, rfl, rfl, by simp only [List.length_nil]; omega⟩
  · rw [if_neg h0, if_neg h0]
    by_cases h1 : 10001 < l.length
    · rw [if_pos h1, if_pos h1]; exact ⟨_, rfl, rfl, by simp only [List.length_nil]; omega⟩
    · rw [if_neg h1, if_neg h1]
      unfold wilson_erased_p wardmoteref31_Erased_p
      obtain ⟨D, d1, d2⟩ := erased_map N N l (by omega)
      rw [d1]
      have e0 : l[0]? = some (l[0]'(by omega)) := List.getElem?_eq_getElem _
      rw [e0]
      simp only [obind]
      obtain ⟨r, r1, r2, r3⟩ := erased_sim N l D d2 (by omega) (by omega) l.length (l[0]'(by omega)) [] 0 e0 (fun k _ => ⟨Nat.zero_le _, by omega⟩) N (by omega)
      rw [show ([] : List Int) ++ [l[0]'(by omega)] = [l[0]'(by omega)] from rfl] at r1 r2
      rw [r1, r2]
      exact ⟨(r, 0), rfl, rfl, by simp only; omega⟩
end Go.Proofs.YtplkfbljncfdnaaDoor
