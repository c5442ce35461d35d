/- Plain laws: drafted rolls and plans under layer 23; SplitCounts. No program in sight but the printed functions. -/
import Derived.Test.YtfncplndfpgngaaGreatDoorUHQb
namespace Go.Proofs.YtfncplndfpgngaaGreatDoor
open Go
set_option maxRecDepth 8000
theorem pl_of {us:List TUnit} {p:List Int} {k:Int} (hk8:k ≤ 8) (h:PlanOk p k) (hl:p.length = us.length):PL us p:=.inr ⟨hl,fun x hx=>by have:=h.1 x hx; omega⟩
theorem works23:wardmotelaw23_works_p FU = some true:=by kernel_rfl
/-! ### Sums over the parents -/
theorem pcs_pos {D:List T3} (h:∀ t ∈ D,0 ≤ t.2.2∧t.2.2 < 8) {k:Int} (hk:k ∈ keys D):1 ≤ pcs D k:=by
  obtain ⟨t,ht,rfl⟩:=List.mem_map.1 hk
  have h1:=h t ht
  refine List.length_pos_of_mem (a:=t.2.2.toNat) ?_
  unfold dsd
  rw [List.mem_filter]
  refine ⟨List.mem_range.2 (by omega),List.any_eq_true.2 ⟨t,ht,?_⟩⟩
  simp only [decide_true,Bool.true_and,decide_eq_true_eq]
  omega
theorem dsd_mem {D:List T3} {k:Int} {i:Nat}:i ∈ dsd D k ↔ i < 8∧∃ t ∈ D,t.1 = k∧t.2.2 = (i:Int):=by
  unfold dsd
  rw [List.mem_filter,List.mem_range,List.any_eq_true]
  simp
theorem dsd_nodup (D:List T3) (k:Int):(dsd D k).Nodup:=List.Nodup.sublist List.filter_sublist List.nodup_range
theorem pcs_le (D:List T3) (k:Int):pcs D k ≤ 8:=Nat.le_trans (List.length_filter_le ..) (by decide)
end Go.Proofs.YtfncplndfpgngaaGreatDoor
