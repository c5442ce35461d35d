/- Plain laws: drafted rolls and plans under layer 23; SplitCounts. No program in sight but the printed functions. -/
import Derived.Test.YtfncplndfpgngaaGreatDoorTHQb
namespace Go.Proofs.YtfncplndfpgngaaGreatDoor
open Go
set_option maxRecDepth 8000
theorem works23:wardmotelaw23_works_p FU = some true:=by kernel_rfl
/-! ### Sums over the parents -/
theorem sum_nonneg:∀ {l:List Int},(∀ x ∈ l,0 ≤ x) → 0 ≤ l.sum
  | [],_=>by simp
  | x :: l,h=>by
    have:=sum_nonneg (l:=l) fun y hy=>h y (List.mem_cons_of_mem _ hy)
    have:=h x (List.mem_cons_self ..)
    rw [List.sum_cons]; omega
theorem take_sum_le {l:List Int} (h:∀ x ∈ l,0 ≤ x) (i:Nat):0 ≤ (l.take i).sum∧(l.take i).sum ≤ l.sum:=by
  have h1:=sum_nonneg (l:=l.take i) fun x hx=>h x (List.mem_of_mem_take hx)
  have h2:=sum_nonneg (l:=l.drop i) fun x hx=>h x (List.mem_of_mem_drop hx)
  have h3:l.sum = (l.take i).sum + (l.drop i).sum:=by rw [← List.sum_append,List.take_append_drop]
  omega
end Go.Proofs.YtfncplndfpgngaaGreatDoor
