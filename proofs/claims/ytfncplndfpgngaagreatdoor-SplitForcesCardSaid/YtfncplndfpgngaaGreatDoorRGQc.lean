/- Plain laws: drafted rolls and plans under layer 23; SplitCounts. No program in sight but the printed functions. -/
import Derived.Test.YtfncplndfpgngaaGreatDoorRGQb
namespace Go.Proofs.YtfncplndfpgngaaGreatDoor
open Go
set_option maxRecDepth 8000
theorem full_ok (n:Nat) (d:TDraft26) (m:Nat) (h1:1 ≤ m) (h2:m ≤ 9) (hn:200 < n):∃ r us,wardmoteref22_Draft_Full_p n d m = some r∧us.length = m∧RollOk r us∧r.fe = 2∧r.fc = 3∧r.fh = 2:=by
  obtain ⟨r,us,e,h,h', a,b,c⟩:=roll_all n ⟨2,3,2,d.fm,d.fE⟩ m h1 h2 hn
  refine ⟨r,us,?_,h,h', a,b,c⟩
  unfold wardmoteref22_Draft_Full_p
  rw [e,obind]
theorem lr_of {r:TRoll} {us:List TUnit} (h:RollOk r us) {at_:Nat} (ha:(at_:Int) < r.fh):LR r us at_:=by
  have hu:∀ u ∈ us,UnitOk r.fe r.fc r.fh u:=fun u hu=>by
    obtain ⟨i,hi,rfl⟩:=List.getElem_of_mem hu
    exact (h.land i hi).2
  have hs:=h.size
  have hl:=h.len
  refine ⟨checkroll_ok r us h,?_,fun u hm=>(hu u hm).1,by omega,by omega,ha,fun u hm=>?_,fun u hm=>⟨?_,(hu u hm).2.2.2.2.2⟩⟩
  · rcases h.all with e | e
    · exact ⟨[],by rw [e,List.append_nil],fun u hu=>by cases hu⟩
    · exact ⟨_,e,fun u hu=>by rw [List.mem_singleton.1 hu]; rfl⟩
  · have:=(hu u hm).2.1; omega
  · have:=(hu u hm).2.2.2.2.1; omega
theorem check_okS {r:TRoll} {us:List TUnit} (hr:RollOk r us) {p:List Int} {k:Int} (hk:1 ≤ k) (hk8:k ≤ 8) (h:PlanOk p k) (hl:p.length = us.length):balance_Check_p FU r p k = some 0:=by
  unfold balance_Check_p balance_Check_1_p
  rw [counted_ok r us hr k hk hk8,obind]
  unfold exc
  simp only
  rw [check_plan r us hr p k hk h hl]
  rfl
theorem pl_of {us:List TUnit} {p:List Int} {k:Int} (hk8:k ≤ 8) (h:PlanOk p k) (hl:p.length = us.length):PL us p:=.inr ⟨hl,fun x hx=>by have:=h.1 x hx; omega⟩
theorem works23:wardmotelaw23_works_p FU = some true:=by kernel_rfl
/-! ### Sums over the parents -/
theorem sum_ind {K:List Int} (hn:K.Nodup) (x y:Int):(K.map fun k=>if x = k then y else 0).sum = if x ∈ K then y else 0:=by
  induction K with
  | nil=>rfl
  | cons k K ih=>
    obtain ⟨h1,h2⟩:=List.nodup_cons.1 hn
    rw [List.map_cons,List.sum_cons,ih h2]
    by_cases e:x = k
    · subst e; rw [if_pos rfl,if_neg h1,if_pos (List.mem_cons_self ..)]; omega
    · rw [if_neg e]
      simp only [List.mem_cons,e,false_or]
      omega
theorem sum_addm {α:Type} (f g:α → Int):∀ l:List α,(l.map fun x=>f x + g x).sum = (l.map f).sum + (l.map g).sum
  | []=>rfl
  | x :: l=>by simp only [List.map_cons,List.sum_cons,sum_addm f g l]; omega
theorem ppl_cons (t:T3) (D:List T3) (k:Int):ppl (t :: D) k = (if t.1 = k then t.2.1 else 0) + ppl D k:=by
  unfold ppl
  by_cases h:t.1 = k
  · rw [List.filter_cons_of_pos (by simpa using h),if_pos h,List.map_cons,List.sum_cons]
  · rw [List.filter_cons_of_neg (by simpa using h),if_neg h]; omega
theorem sum_ppl {K:List Int} (hn:K.Nodup):∀ {D:List T3},(∀ t ∈ D,t.1 ∈ K) → (K.map (ppl D)).sum = (D.map (·.2.1)).sum
  | [],_=>by
    have:∀ K:List Int,(K.map (ppl [])).sum = 0:=fun K=>by
      induction K with
      | nil=>rfl
      | cons k K ih=>rw [List.map_cons,List.sum_cons,ih]; rfl
    rw [this]; rfl
  | t :: D,h=>by
    have e:ppl (t :: D) = fun k=>(if t.1 = k then t.2.1 else 0) + ppl D k:=funext fun k=>ppl_cons t D k
    rw [e,sum_addm,sum_ind hn,if_pos (h t (List.mem_cons_self ..)),sum_ppl hn fun x hx=>h x (List.mem_cons_of_mem _ hx),List.map_cons,List.sum_cons]
theorem dat_ppl {us:List TUnit} {at_:Nat} {p:List Int} (hp:PL us p):((dat us at_ p).map (·.2.1)).sum = tot us:=by
  unfold dat tot
  rw [List.map_zipWith]
  have:=pl0_len hp
  generalize pl0 us p = q at *
  clear hp
  induction us generalizing q with
  | nil=>simp
  | cons u us ih=>
    cases q with
    | nil=>simp at this
    | cons d q=>
      simp only [List.zipWith_cons_cons,List.map_cons,List.sum_cons]
      rw [ih q (by simpa using this)]
theorem dsd_mem {D:List T3} {k:Int} {i:Nat}:i ∈ dsd D k ↔ i < 8∧∃ t ∈ D,t.1 = k∧t.2.2 = (i:Int):=by
  unfold dsd
  rw [List.mem_filter,List.mem_range,List.any_eq_true]
  simp
theorem sum_nonneg:∀ {l:List Int},(∀ x ∈ l,0 ≤ x) → 0 ≤ l.sum
  | [],_=>by simp
  | x :: l,h=>by
    have:=sum_nonneg (l:=l) fun y hy=>h y (List.mem_cons_of_mem _ hy)
    have:=h x (List.mem_cons_self ..)
    rw [List.sum_cons]; omega
theorem take_sum_le {l:List Int} (h:∀ x ∈ l,0 ≤ x) (i:Nat):0 ≤ (l.take i).sum∧(l.take i).sum ≤ l.sum:=by
  have h1:=sum_nonneg (l:=l.take i) fun x hx=>h x (List.mem_of_mem_take hx)
  have h2:=sum_nonneg (l:=l.drop i) fun x hx=>h x (List.mem_of_mem_drop hx)
  have h3:l.sum = (l.take i).sum + (l.drop i).sum:=by rw [← List.sum_append,List.take_append_drop]
  omega
theorem truth_ok (b c:Bool) (h:b = c):wardmotelaw23_truth_1_p FU b 0 c = some true:=by
  subst h
  unfold wardmotelaw23_truth_1_p
  simp
end Go.Proofs.YtfncplndfpgngaaGreatDoor
