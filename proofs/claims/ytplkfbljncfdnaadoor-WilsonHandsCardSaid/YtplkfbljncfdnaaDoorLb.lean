/- The plain law of WilsonErases. No program in sight but the printed functions. -/
import Derived.Test.YtplkfbljncfdnaaDoorLa
namespace Go.Proofs.YtplkfbljncfdnaaDoor
open Go

theorem works_true : wardmotelaw31_works_p 20000 = some true := by kernel_rfl
theorem ifT {α : Type} (x y : α) : (if True then x else y) = x := if_pos trivial
/-- A list equals itself. -/
theorem equal_self (n : Nat) (l : List Int) (h : l.length < n) : slices_Equal_int_int_p n l l = some true := by
  unfold slices_Equal_int_int_p
  rw [if_pos rfl]
  obtain ⟨r, h1, h2⟩ := loop_ok (B := slices_Equal_int_int_l1 n l l) (fun i => l.length - i) (fun i => i ≤ l.length) (fun r => r = .inr ()) (fun i J hi hJ => by
    unfold slices_Equal_int_int_l1
    simp only
    by_cases hl : i < l.length
    · rw [if_pos hl, List.getElem?_eq_getElem hl]
      simp only [obind]
      rw [ifT]
      exact hJ (i + 1) (by omega) (by omega)
    · rw [if_neg hl]; exact ⟨_, rfl, rfl⟩) n 0 (by omega) (by omega)
  rw [h1, h2]
  rfl
theorem cut_min {α : Type} (l : List α) (k : Nat) : cut l 0 ((min l.length k : Nat) : Int) = some (l.take (min l.length k)) := by
  unfold cut
  rw [if_pos ⟨by omega, by omega, by omega⟩]
  simp
theorem small_list (N n : Nat) (xs : List UInt8) (hx : xs.length ≤ 60) (h : xs.length < n) : ∃ l, loopF (wardmotelaw31_WilsonErases_l2 N xs) n (0, ([] : List Int)) = some l := by
  obtain ⟨r, h1, _⟩ := loop_ok (B := wardmotelaw31_WilsonErases_l2 N xs) (fun s => xs.length - s.1) (fun s => s.1 ≤ xs.length ∧ s.2.length = s.1) (fun _ => True) (fun ⟨i, l⟩ J ⟨h1, h2⟩ hJ => by
    unfold wardmotelaw31_WilsonErases_l2
    simp only at h1 h2 hJ ⊢
    by_cases hl : i < xs.length
    · rw [if_pos hl, List.getElem?_eq_getElem hl]
      simp only [obind]
      rw [app_ok (by simp only [List.length_singleton]; omega)]
      simp only [obind]
      exact hJ _ ⟨by simp only; omega, by simp [h2]⟩ (by simp only; omega)
    · rw [if_neg hl]; exact ⟨_, rfl, trivial⟩) n (0, []) ⟨by simp, by simp⟩ (by simpa using h)
  exact ⟨r, h1⟩
theorem both_lists (N n : Nat) (ls : List (List Int)) (hl : ∀ l ∈ ls, ∃ r, wilson_Erase_p N l = some r ∧ wardmoteref31_Erase_p N l = some r ∧ r.1.length < N) (h : ls.length < n) : loopF (wardmotelaw31_WilsonErases_l1 N ls) n 0 = some (.inr ()) := by
  obtain ⟨r, h1, rfl⟩ := loop_ok (B := wardmotelaw31_WilsonErases_l1 N ls) (fun i => ls.length - i) (fun i => i ≤ ls.length) (fun r => r = .inr ()) (fun i J hi hJ => by
    unfold wardmotelaw31_WilsonErases_l1
    simp only
    by_cases hl' : i < ls.length
    · rw [if_pos hl', List.getElem?_eq_getElem hl']
      simp only [obind]
      obtain ⟨r, r1, r2, r3⟩ := hl _ (List.getElem_mem hl')
      rw [r1, r2]
      simp only [obind]
      rw [equal_self N r.1 r3]
      simp only [obind]
      rw [ifT, ifT]
      exact hJ (i + 1) (by omega) (by omega)
    · rw [if_neg hl']; exact ⟨_, rfl, rfl⟩) n 0 (by omega) (by omega)
  exact h1
theorem wilsonErases_true (a0 : List Int) (a1 : List UInt8) (a2 : UInt16) : ∃ n, wardmotelaw31_WilsonErases_p n a0 a1 a2 = some true := by
  refine ⟨20000, ?_⟩
  unfold wardmotelaw31_WilsonErases_p
  rw [works_true]
  simp only [obind]
  rw [ifT, cut_min]
  simp only [obind]
  obtain ⟨l2, h2⟩ := small_list 20000 20000 (a1.take (min a1.length 40)) (by simp; omega) (by simp; omega)
  rw [h2]
  simp only [obind]
  rw [cut_min]
  simp only [obind]
  have key : ∀ l, ∃ r, wilson_Erase_p 20000 l = some r ∧ wardmoteref31_Erase_p 20000 l = some r ∧ r.1.length < 20000 := erase_len 20000 (by omega)
  simp only [jn]
  by_cases h64 : (a2 % (64 : UInt16)).toNat = 0
  · rw [if_pos h64]
    have hm : mk ((9950 + ((a2 / (64 : UInt16)).toNat) : Nat) : Int) (0 : Int) = some (List.replicate (9950 + (a2 / (64 : UInt16)).toNat) (0 : Int)) := by
      unfold mk
      have := (a2 / (64 : UInt16)).toNat_lt
      rw [if_pos ⟨by omega, by omega⟩]
      rfl
    rw [hm]
    simp only [obind]
    rw [app_ok (by simp only [List.length_cons, List.length_nil]; omega)]
    simp only [obind]
    rw [both_lists 20000 20000 _ (fun l _ => key l) (by simp only [List.length_append, List.length_cons, List.length_nil]; omega)]
    rfl
  · rw [if_neg h64]
    rw [both_lists 20000 20000 _ (fun l _ => key l) (by simp only [List.length_cons, List.length_nil]; omega)]
    rfl
end Go.Proofs.YtplkfbljncfdnaaDoor
