/- Plain laws: a drafted plan fits; the totals. No program in sight but the printed functions. -/
import Derived.Test.YtfncplndfpgngaaGreatDoorUHSc
namespace Go.Proofs.YtfncplndfpgngaaGreatDoor
open Go
theorem mset_keys {κ ν:Type} [DecidableEq κ]:∀ (D:List (κ × ν)) (k:κ) (v:ν),(mset D k v).map Prod.fst = if k ∈ D.map Prod.fst then D.map Prod.fst else D.map Prod.fst ++ [k]
  | [],k,v=>by simp [mset]
  | e :: D,k,v=>by
    unfold mset
    by_cases h:k = e.1
    · rw [if_pos h]; simp [h]
    · rw [if_neg h]
      simp only [List.map_cons,mset_keys D k v,List.mem_cons]
      by_cases h2:k ∈ D.map Prod.fst
      · simp [h2]
      · rw [if_neg h2,if_neg (by rintro (h3 | h3); exact h h3; exact h2 h3)]; rfl
theorem range_len {l:List Int} {k:Int} (hk:0 ≤ k) (hn:l.Nodup) (h:∀ x,x ∈ l ↔ 0 ≤ x∧x < k):(l.length:Int) = k:=by
  have h2:((List.range k.toNat).map fun i:Nat=>(i:Int)).Nodup:=by
    unfold List.Nodup
    exact List.Pairwise.map _ (fun a b hab=>by omega) List.nodup_range
  have h3:l.length ≤ ((List.range k.toNat).map fun i:Nat=>(i:Int)).length:=hn.length_le_of_subset fun x hx=>List.mem_map.2 ⟨x.toNat,List.mem_range.2 (by have:=(h x).1 hx; omega),by have:=(h x).1 hx; omega⟩
  have h4:((List.range k.toNat).map fun i:Nat=>(i:Int)).length ≤ l.length:=h2.length_le_of_subset fun x hx=>by
    obtain ⟨i,hi,rfl⟩:=List.mem_map.1 hx
    have:=List.mem_range.1 hi
    exact (h _).2 ⟨by omega,by omega⟩
  rw [List.length_map,List.length_range] at h3 h4
  omega
end Go.Proofs.YtfncplndfpgngaaGreatDoor
