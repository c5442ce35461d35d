/- Plain law: SplitMerges. No program in sight but the printed functions. -/
import Derived.Test.YtfncplndfpgngaaGreatDoorTHQc
namespace Go.Proofs.YtfncplndfpgngaaGreatDoor
open Go
set_option maxRecDepth 8000
theorem equal_ok (a b:List Int) (hl:a.length ≤ 1000):slices_Equal_int_int_p FU a b = some (decide (a = b)):=by
  have hF:=FU_lt
  unfold slices_Equal_int_int_p
  by_cases h:a.length = b.length
  · rw [if_pos h]
    have hh:=loop_ok (B:=slices_Equal_int_int_l1 FU a b) (fun i:Nat=>a.length - i) (fun i=>i ≤ a.length∧a.take i = b.take i) (fun y=>if a = b then y = .inr () else y = .inl false) ?_ FU 0 ⟨Nat.zero_le _,rfl⟩ (by omega)
    · obtain ⟨y,e,hy⟩:=hh
      rw [e]
      split at hy
      · rename_i he; rw [hy,decide_eq_true he]; rfl
      · rename_i he; rw [hy,decide_eq_false he]; rfl
    · rintro i J ⟨a1,a2⟩ hJ
      unfold slices_Equal_int_int_l1
      simp only
      by_cases hi:i < a.length
      · rw [if_pos hi,List.getElem?_eq_getElem hi,obind,List.getElem?_eq_getElem (by omega),obind]
        by_cases he:a[i] = b[i]'(by omega)
        · rw [if_pos he]
          refine hJ _ ⟨hi,?_⟩ (by omega)
          rw [List.take_succ_eq_append_getElem hi,List.take_succ_eq_append_getElem (by omega),a2,he]
        · rw [if_neg he]
          refine ⟨_,rfl,?_⟩
          rw [if_neg fun e=>he (by simp only [e])]
      · rw [if_neg hi]
        rw [List.take_of_length_le (by omega),List.take_of_length_le (by omega)] at a2
        exact ⟨_,rfl,by rw [if_pos a2]⟩
  · rw [if_neg h,decide_eq_false fun e=>h (by rw [e])]
/-! ### Other labels -/
end Go.Proofs.YtfncplndfpgngaaGreatDoor
