/- Plain laws: loops, maps, the last places. No program in sight but the printed functions. -/
import Derived.Test.YtplkfbljncfdnaaDoorK7
namespace Go.Proofs.YtplkfbljncfdnaaDoor
open Go

theorem obind {α β : Type} (x : α) (f : α → Option β) : (some x).bind f = f x := Eq.trans (Eq.refl _) (Eq.refl _)
/-- A loop with a measure. -/
theorem loopF_succ {α β : Type} (B : (α → Option β) → α → Option β) (n : Nat) (s : α) : loopF B (n + 1) s = B (loopF B n) s := rfl
theorem loop_ok {α β : Type} {B : (α → Option β) → α → Option β} (m : α → Nat) (I : α → Prop) (Q : β → Prop)
    (step : ∀ s J, I s → (∀ s', I s' → m s' < m s → ∃ r, J s' = some r ∧ Q r) → ∃ r, B J s = some r ∧ Q r) : ∀ n s, I s → m s < n → ∃ r, loopF B n s = some r ∧ Q r := by
  intro n
  induction n with
  | zero => intro s _ h; omega
  | succ n ih => intro s hI h; exact step s (loopF B n) hI fun s' h1 h2 => ih s' h1 (by omega)
theorem mget_mset {κ ν : Type} [DecidableEq κ] : ∀ (D : List (κ × ν)) (k x : κ) (v : ν), mget (mset D k v) x = if x = k then some v else mget D x
  | [], k, x, v => by simp [mset, mget]
  | e :: D, k, x, v => by
    unfold mset
    split
    · rename_i h; subst h; simp only [mget]; split <;> rfl
    · rename_i h
      simp only [mget]
      rw [mget_mset D k x v]
      by_cases h1 : x = k
      · subst h1; simp [h]
      · simp [h1]
/-- D has the last places of the first i elements. -/
def LastP (l : List Int) (i : Nat) (D : List (Int × Int)) : Prop := ∀ x j, j < i → l[j]? = some x → ∃ k : Nat, mget D x = some (k : Int) ∧ j ≤ k ∧ k < i ∧ l[k]? = some x
theorem erased_map (N n : Nat) (l : List Int) (h : l.length < n) : ∃ D, loopF (wilson_erased_l2 N l) n (0, []) = some D ∧ LastP l l.length D := by
  refine loop_ok (fun s => l.length - s.1) (fun s => s.1 ≤ l.length ∧ LastP l s.1 s.2) _ ?_ n (0, []) ⟨Nat.zero_le _, fun x j hj => (by omega)⟩ (by simpa using h)
  rintro ⟨i, D⟩ J ⟨h1, h2⟩ hJ
  simp only at h1 h2 hJ
  unfold wilson_erased_l2
  simp only
  by_cases hi : i < l.length
  · rw [if_pos hi, List.getElem?_eq_getElem hi, Option.bind_some]
    refine hJ (i + 1, mset D l[i] (i : Int)) ⟨by simp only; omega, fun x j hj hx => ?_⟩ (by simp only; omega)
    simp only at hj ⊢
    rw [mget_mset]
    by_cases hxi : x = l[i]
    · subst hxi; exact ⟨i, by simp, by omega, by omega, List.getElem?_eq_getElem hi⟩
    · rw [if_neg hxi]
      have hji : j ≠ i := fun e => by subst e; rw [List.getElem?_eq_getElem hi] at hx; exact hxi (by cases hx; rfl)
      obtain ⟨k, k1, k2, k3, k4⟩ := h2 x j (by omega) hx
      exact ⟨k, k1, k2, by omega, k4⟩
  · rw [if_neg hi]
    exact ⟨D, rfl, by rw [show l.length = i by omega]; exact h2⟩
end Go.Proofs.YtplkfbljncfdnaaDoor
