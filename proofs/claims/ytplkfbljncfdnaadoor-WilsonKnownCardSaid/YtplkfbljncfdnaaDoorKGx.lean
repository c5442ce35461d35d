/- Plain laws: walks with a common store of steps. No program in sight but the printed functions. -/
import Derived.Test.YtplkfbljncfdnaaDoorKGc
namespace Go.Proofs.YtplkfbljncfdnaaDoor
open Go

/-! ### The walk with a common store of steps -/
theorem draw3 : wilson_Draw_l3 = wilson_Walk_l2 := rfl
theorem draw2 : wilson_Draw_l2 = wilson_Walk_l1 := rfl
theorem app_len {α : Type} {xs ys zs : List α} (h : app xs ys = some zs) : zs = xs ++ ys := (app_in h).1
theorem l4_sim (N : Nat) (v : UInt64) (g : TGraph) (s : UInt64) : ∀ (n : Nat) (z : Int) (xs : List Int) (u : UInt64) (l : Int),
    (∀ r, loopF (wilson_Walk_l3 N v g s) n (z, xs, u, l) = some (.inl r) → loopF (wilson_Draw_l4 N v g s) n (z, xs, u, l) = some (.inl (.inl r))) ∧
    (∀ w u', loopF (wilson_Walk_l3 N v g s) n (z, xs, u, l) = some (.inr (w, u')) → xs.length ≤ w.length ∧ loopF (wilson_Draw_l4 N v g s) n (z, xs, u, l) = some (.inr (w, u', l - ((w.length : Int) - (xs.length : Int)))) ∧
      ∀ l2, 0 ≤ l → l ≤ l2 → l2 ≤ 10000 → loopF (wilson_Walk_l3 N v g s) n (z, xs, u, l2) = some (.inr (w, u'))) := by
  intro n
  induction n with
  | zero => intro z xs u l; exact ⟨fun r h => (by cases h), fun w u' h => (by cases h)⟩
  | succ n ih =>
    intro z xs u l
    simp only [loopF_succ]
    generalize hJ1 : loopF (wilson_Walk_l3 N v g s) n = J1 at *
    generalize hJ2 : loopF (wilson_Draw_l4 N v g s) n = J2 at *
    unfold wilson_Walk_l3 wilson_Draw_l4
    simp only [draw3, draw2]
    cases hk : natOf z with
    | none => exact ⟨fun r h => (by cases h), fun w u' h => (by cases h)⟩
    | some k =>
      simp only [obind]
      by_cases hv : shrU v k &&& 1 = 1
      · simp only [if_pos hv]
        refine ⟨fun r h => (by cases h), fun w u' h => ?_⟩
        cases h
        refine ⟨Nat.le_refl _, ?_, fun l2 _ _ _ => rfl⟩
        congr 4
        omega
      · simp only [if_neg hv]
        by_cases h0 : l = 0
        · simp only [if_pos h0]
          exact ⟨fun r h => (by cases h; rfl), fun w u' h => (by cases h)⟩
        · simp only [if_neg h0]
          cases hc : chk (l - 1) with
          | none => exact ⟨fun r h => (by cases h), fun w u' h => (by cases h)⟩
          | some l1 =>
            obtain ⟨rfl, hc1, hc2⟩ := chk_in hc
            simp only [obind]
            cases hb : loopF (wilson_Walk_l2 N g z) N (0, 0) with
            | none => exact ⟨fun r h => (by cases h), fun w u' h => (by cases h)⟩
            | some nb =>
              simp only [obind]
              cases hcol : loopF (wilson_Walk_l1 N) N (nb &&& s, []) with
              | none => exact ⟨fun r h => (by cases h), fun w u' h => (by cases h)⟩
              | some near =>
                simp only [obind]
                cases hbel : chance_Below_p N ⟨u⟩ ((near.length : Nat) : Int) with
                | none => exact ⟨fun r h => (by cases h), fun w u' h => (by cases h)⟩
                | some y =>
                  obtain ⟨y1, y2, y3⟩ := y
                  simp only [obind]
                  by_cases he : y3 = 0
                  · simp only [if_pos he]
                    cases hi : idx near y1 with
                    | none => exact ⟨fun r h => (by cases h), fun w u' h => (by cases h)⟩
                    | some x =>
                      simp only [obind]
                      cases ha : app xs [x] with
                      | none => exact ⟨fun r h => (by cases h), fun w u' h => (by cases h)⟩
                      | some xs' =>
                        have hxs' := app_len ha
                        simp only [obind]
                        obtain ⟨i1, i2⟩ := ih x xs' y2.fState (l - 1)
                        refine ⟨i1, fun w u' h => ?_⟩
                        obtain ⟨j1, j2, j3⟩ := i2 w u' h
                        have hlen : xs'.length = xs.length + 1 := by rw [hxs']; simp
                        refine ⟨by omega, ?_, fun l2 hl0 h1 h2 => ?_⟩
                        · rw [j2]
                          congr 4
                          omega
                        · rw [if_neg (by omega), chk_ok (by omega)]
                          simp only [obind]
                          exact j3 (l2 - 1) (by omega) (by omega) (by omega)
                  · simp only [if_neg he]
                    exact ⟨fun r h => (by cases h; rfl), fun w u' h => (by cases h)⟩
end Go.Proofs.YtplkfbljncfdnaaDoor
