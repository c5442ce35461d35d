/- Plain laws: drafted rolls and plans under layer 23; SplitCounts. No program in sight but the printed functions. -/
import Derived.Test.YtfncplndfpgngaaGreatDoorSGQb
namespace Go.Proofs.YtfncplndfpgngaaGreatDoor
open Go
set_option maxRecDepth 8000
theorem full_ok (n:Nat) (d:TDraft26) (m:Nat) (h1:1 ≤ m) (h2:m ≤ 9) (hn:200 < n):∃ r us,wardmoteref22_Draft_Full_p n d m = some r∧us.length = m∧RollOk r us∧r.fe = 2∧r.fc = 3∧r.fh = 2:=by
  obtain ⟨r,us,e,h,h', a,b,c⟩:=roll_all n ⟨2,3,2,d.fo,d.fF⟩ m h1 h2 hn
  refine ⟨r,us,?_,h,h', a,b,c⟩
  unfold wardmoteref22_Draft_Full_p
  rw [e,obind]
theorem lr_of {r:TRoll} {us:List TUnit} (h:RollOk r us) {at_:Nat} (ha:(at_:Int) < r.fh):LR r us at_:=by
  have hu:∀ u ∈ us,UnitOk r.fe r.fc r.fh u:=fun u hu=>by
    obtain ⟨i,hi,rfl⟩:=List.getElem_of_mem hu
    exact (h.land i hi).2
  have hs:=h.size
  have hl:=h.len
  refine ⟨checkroll_ok r us h,?_,fun u hm=>(hu u hm).1,by omega,by omega,ha,fun u hm=>?_,fun u hm=>⟨?_,(hu u hm).2.2.2.2.2⟩⟩
  · rcases h.all with e | e
    · exact ⟨[],by rw [e,List.append_nil],fun u hu=>by cases hu⟩
    · exact ⟨_,e,fun u hu=>by rw [List.mem_singleton.1 hu]; rfl⟩
  · have:=(hu u hm).2.1; omega
  · have:=(hu u hm).2.2.2.2.1; omega
theorem check_okS {r:TRoll} {us:List TUnit} (hr:RollOk r us) {p:List Int} {k:Int} (hk:1 ≤ k) (hk8:k ≤ 8) (h:PlanOk p k) (hl:p.length = us.length):balance_Check_p FU r p k = some 0:=by
  unfold balance_Check_p balance_Check_1_p
  rw [counted_ok r us hr k hk hk8,obind]
  unfold exc
  simp only
  rw [check_plan r us hr p k hk h hl]
  rfl
theorem pl_of {us:List TUnit} {p:List Int} {k:Int} (hk8:k ≤ 8) (h:PlanOk p k) (hl:p.length = us.length):PL us p:=.inr ⟨hl,fun x hx=>by have:=h.1 x hx; omega⟩
theorem works23:wardmotelaw23_works_p FU = some true:=by kernel_rfl
/-! ### Sums over the parents -/
theorem pcs_pos {D:List T3} (h:∀ t ∈ D,0 ≤ t.2.2∧t.2.2 < 8) {k:Int} (hk:k ∈ keys D):1 ≤ pcs D k:=by
  obtain ⟨t,ht,rfl⟩:=List.mem_map.1 hk
  have h1:=h t ht
  refine List.length_pos_of_mem (a:=t.2.2.toNat) ?_
  unfold dsd
  rw [List.mem_filter]
  refine ⟨List.mem_range.2 (by omega),List.any_eq_true.2 ⟨t,ht,?_⟩⟩
  simp only [decide_true,Bool.true_and,decide_eq_true_eq]
  omega
theorem dsd_mem {D:List T3} {k:Int} {i:Nat}:i ∈ dsd D k ↔ i < 8∧∃ t ∈ D,t.1 = k∧t.2.2 = (i:Int):=by
  unfold dsd
  rw [List.mem_filter,List.mem_range,List.any_eq_true]
  simp
theorem dsd_nodup (D:List T3) (k:Int):(dsd D k).Nodup:=List.Nodup.sublist List.filter_sublist List.nodup_range
theorem pcs_le (D:List T3) (k:Int):pcs D k ≤ 8:=Nat.le_trans (List.length_filter_le ..) (by decide)
theorem truth_ok (b c:Bool) (h:b = c):wardmotelaw23_truth_1_p FU b 0 c = some true:=by
  subst h
  unfold wardmotelaw23_truth_1_p
  simp
end Go.Proofs.YtfncplndfpgngaaGreatDoor
