/- Plain laws: changed sessions. No program in sight but the printed functions. -/
import Derived.Test.YtcijnmkodpfpgaaGreatDoorWYEh
namespace Go.Proofs.YtcijnmkodpfpgaaGreatDoor
open Go
theorem bend_ok (b : TBend) (s : TSession) (h1 : s.fPlan.length ≤ 100) (h2 : s.fTotals.length ≤ 100) (h3 : s.fDone.length ≤ 100) (h4 : s.fUndone.length ≤ 100) : ∃ y, wardmoteref26_Bend_Of_p FU b s = some y ∧ y.fPlan.length ≤ 101 ∧ y.fTotals.length ≤ 101 ∧ y.fDone.length ≤ 101 ∧ y.fUndone.length ≤ 101 := by
  unfold wardmoteref26_Bend_Of_p
  rw [appS [] _ (by simp only [List.length_nil]; omega), obind, appS [] _ (by simp only [List.length_nil]; omega), obind, appS [] _ (by simp only [List.length_nil]; omega), obind, appS [] _ (by simp only [List.length_nil]; omega), obind]
  simp only [List.nil_append]
  split
  · exact ⟨_, rfl, by simp only; omega⟩
  · split
    · rw [appS _ _ (by simp only [List.length_cons, List.length_nil]; omega), obind]
      exact ⟨_, rfl, by simp only [List.length_append, List.length_cons, List.length_nil]; omega⟩
    · split
      · rw [appS _ _ (by simp only [List.length_cons, List.length_nil]; omega), obind]
        exact ⟨_, rfl, by simp only [List.length_append, List.length_cons, List.length_nil]; omega⟩
      · split
        · rw [appS _ _ (by simp only [List.length_cons, List.length_nil]; omega), obind]
          exact ⟨_, rfl, by simp only [List.length_append, List.length_cons, List.length_nil]; omega⟩
        · split
          · split
            · rename_i hl
              have m0 := Int.emod_nonneg ((b.fAt.toNat : Nat) : Int) (b := ((s.fDone.length : Nat) : Int)) (by omega)
              have m1 := Int.emod_lt_of_pos ((b.fAt.toNat : Nat) : Int) (b := ((s.fDone.length : Nat) : Int)) (by omega)
              rw [remI_ok (by omega), obind, Int.tmod_eq_emod_of_nonneg (by omega), idx_ok m0 (by omega), obind, put_ok _ (by omega), obind]
              exact ⟨_, rfl, by simp only [List.length_set]; omega⟩
            · exact ⟨_, rfl, by simp only; omega⟩
          · split
            · split
              · rename_i hl
                have m0 := Int.emod_nonneg ((b.fAt.toNat : Nat) : Int) (b := ((s.fPlan.length : Nat) : Int)) (by omega)
                have m1 := Int.emod_lt_of_pos ((b.fAt.toNat : Nat) : Int) (b := ((s.fPlan.length : Nat) : Int)) (by omega)
                rw [remI_ok (by omega), obind, Int.tmod_eq_emod_of_nonneg (by omega), idx_ok m0 (by omega), obind, put_ok _ (by omega), obind]
                exact ⟨_, rfl, by simp only [List.length_set]; omega⟩
              · exact ⟨_, rfl, by simp only; omega⟩
            · split
              · rename_i hl
                rw [List.getElem?_eq_getElem hl, obind, List.getElem?_eq_getElem (by omega), obind, put_ok _ (by omega), obind, List.getElem?_eq_getElem (by simpa using hl), obind, put_ok _ (by simpa using hl), obind]
                exact ⟨_, rfl, by simp only [List.length_set]; omega⟩
              · exact ⟨_, rfl, by simp only; omega⟩
end Go.Proofs.YtcijnmkodpfpgaaGreatDoor
