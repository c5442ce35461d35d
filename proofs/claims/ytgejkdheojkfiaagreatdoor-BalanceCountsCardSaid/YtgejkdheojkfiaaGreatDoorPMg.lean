/- Drawn regions by numbers: what the checks on the orders need of a region, in tables of bits. No program in sight. -/
import Derived.Test.YtgejkdheojkfiaaGreatDoorPMf
import Derived.Laws.StructEq
import Derived.ChangeKeysEq
namespace Go.Proofs.YtgejkdheojkfiaaGreatDoor
open Go Go.RowKit
def bits (l:List Nat):Nat:=l.foldl (fun a k=>a ||| 2 ^ k) 0
theorem bits_acc:∀ (l:List Nat) (a k:Nat),(l.foldl (fun a k=>a ||| 2 ^ k) a).testBit k = (a.testBit k || decide (k ∈ l))
  | [],a,k=>by simp
  | x :: l,a,k=>by
    rw [List.foldl_cons,bits_acc l]
    rw [Nat.testBit_or,Nat.testBit_two_pow]
    by_cases h:x = k <;> simp [h,eq_comm]
theorem bits_spec {l:List Nat} {k:Nat}:(bits l).testBit k = decide (k ∈ l):=by unfold bits; rw [bits_acc]; simp
def tabOf (ops:Array Oper) (o:Oper):Nat × Nat × Nat:=(bits ((o.after.toList.filter (Region.binds .any)).map (·.on)),bits o.dst.toList,bits (o.looksAt ops))
def tabs (ops:Array Oper):List (Nat × Nat × Nat):=ops.toList.map (tabOf ops)
def sub (x y:Nat):Bool:=x &&& y == x
theorem sub_spec {x y:Nat} (h:sub x y = true) {k:Nat} (hk:x.testBit k = true):y.testBit k = true:=by
  have h:x &&& y = x:=by simpa [sub] using h
  rw [<- h,Nat.testBit_and,Bool.and_eq_true] at hk
  exact hk.2
theorem sub_of {x y:Nat} (h:∀ k,x.testBit k = true -> y.testBit k = true):sub x y = true:=by
  have:x &&& y = x:=Nat.eq_of_testBit_eq fun k=>by
    rw [Nat.testBit_and]
    cases hx:x.testBit k
    · rfl
    · rw [h k hx]; rfl
  simp [sub,this]
def allI (p:Nat -> Nat × Nat × Nat -> Bool):Nat -> List (Nat × Nat × Nat) -> Bool
  | _,[]=>true
  | k,x :: l=>p k x && allI p (k + 1) l
theorem allI_spec {p:Nat -> Nat × Nat × Nat -> Bool}:∀ {k:Nat} {l:List (Nat × Nat × Nat)},allI p k l = true -> ∀ (j:Nat) x,l[j]? = some x -> p (k + j) x = true
  | _,[],_,j,x,hj=>by simp at hj
  | k,y :: l,h,0,x,hj=>by
    unfold allI at h
    rw [Bool.and_eq_true] at h
    simp at hj; subst hj; exact h.1
  | k,y :: l,h,j + 1,x,hj=>by
    unfold allI at h
    rw [Bool.and_eq_true] at h
    have:=allI_spec h.2 j x (by simpa using hj)
    rwa [show k + 1 + j = k + (j + 1) by omega] at this
def takeC (T:List (Nat × Nat × Nat)) (t m W i m' : Nat):Bool:=match T[i]? with
  | some (d,s,l)=>Nat.blt i t && !m.testBit i && sub d m && m' == (m ||| 2 ^ i) && Nat.blt m (2 ^ T.length) && allI (fun j (d', s', l')=>
      (j == i || m.testBit j || d'.testBit i || ((s &&& (l' ||| s')) == 0 && (s' &&& l) == 0)) && (Nat.blt j t || m.testBit j || W.testBit j) && (!W.testBit j || (!m.testBit j && (d' &&& (2 ^ i ||| (W &&& (2 ^ T.length - 1)))) != 0))) 0 T
  | none=>false
def takePC (T:List (Nat × Nat × Nat)) (_t m i m' : Nat):Bool:=match T[i]? with
  | some (d,s,l)=>!m.testBit i && sub d m && m' == (m ||| 2 ^ i) && Nat.blt m (2 ^ T.length) && allI (fun j (d', s', l')=>
      j == i || m.testBit j || d'.testBit i || ((s &&& (l' ||| s')) == 0 && (s' &&& l) == 0)) 0 T
  | none=>false
def readyC (T:List (Nat × Nat × Nat)) (m:Nat):List Nat:=(List.range T.length).filter fun j=>!m.testBit j && (match T[j]? with
  | some (d,_,_)=>sub d m && Nat.blt m (2 ^ T.length)
  | none=>false)
section
variable {ops:Array Oper} {T:List (Nat × Nat × Nat)} {t m W i m' : Nat}
theorem tabs_get (hT:tabs ops = T) {j:Nat} {o:Oper} (hj:ops[j]? = some o):T[j]? = some (tabOf ops o):=by
  subst hT
  simp only [tabs,List.getElem?_map,Array.getElem?_toList,hj,Option.map_some]
theorem tabs_len (hT:tabs ops = T):T.length = ops.size:=by subst hT; simp [tabs]
theorem tabs_op (hT:tabs ops = T) {j:Nat} (hj:j < T.length):∃ o,ops[j]? = some o:=⟨ops[j]'(by rw [<- tabs_len hT]; exact hj),by simp⟩
theorem dep_spec {o:Oper} {k:Nat}:(tabOf ops o).1.testBit k = true ↔ ∃ e ∈ o.after,Region.binds .any e = true/\e.on = k:=by
  unfold tabOf
  simp only [bits_spec,decide_eq_true_eq,List.mem_map,List.mem_filter]
  constructor
  · rintro ⟨e,⟨h1,h2⟩,h3⟩; exact ⟨e,by simpa using h1,h2,h3⟩
  · rintro ⟨e,h1,h2,h3⟩; exact ⟨e,⟨by simpa using h1,h2⟩,h3⟩
theorem lst_false {n m k:Nat}:(lst n m).getD k false = (Nat.blt k n && m.testBit k):=by
  rcases Nat.lt_or_ge k n with hk | hk
  · simp [lst,Array.getD,hk]
  · simp [lst,Array.getD,Nat.not_lt.2 hk]
theorem ready_of (hT:tabs ops = T) {o:Oper} (hi:ops[i]? = some o) (h1:m.testBit i = false) (h2:sub (tabOf ops o).1 m = true) (h3:m < 2 ^ T.length):i ∈ Region.ready .any ops (lst ops.size m):=by
  have hlt:i < ops.size:=(Array.getElem?_eq_some_iff.1 hi).1
  rw [mem_ready]
  refine ⟨by rw [lst_getD hlt]; exact h1,o,hi,fun e he hb=>?_⟩
  have hk:=sub_spec h2 (dep_spec.2 ⟨e,he,hb,rfl⟩)
  rw [lst_false,Bool.and_eq_true]
  refine ⟨?_,hk⟩
  rw [Nat.blt_eq]
  rcases Nat.lt_or_ge e.on ops.size with h | h
  · exact h
  · have:m < 2 ^ e.on:=Nat.lt_of_lt_of_le h3 (Nat.pow_le_pow_right (by decide) (by rw [tabs_len hT]; exact h))
    rw [Nat.testBit_lt_two_pow this] at hk; cases hk
theorem ready_to (_hT:tabs ops = T) {o:Oper} (hi:ops[i]? = some o) (h:i ∈ Region.ready .any ops (lst ops.size m)):m.testBit i = false/\sub (tabOf ops o).1 m = true:=by
  have hlt:i < ops.size:=(Array.getElem?_eq_some_iff.1 hi).1
  rw [mem_ready] at h
  obtain ⟨h1,o', ho', h2⟩:=h
  rw [hi] at ho'; cases ho'
  rw [lst_getD hlt] at h1
  refine ⟨h1,sub_of fun k hk=>?_⟩
  obtain ⟨e,he,hb,rfl⟩:=dep_spec.1 hk
  have:=h2 e he hb
  rw [lst_false,Bool.and_eq_true] at this
  exact this.2
theorem apart_of {x y:Oper} (h1:((tabOf ops x).2.1 &&& ((tabOf ops y).2.2 ||| (tabOf ops y).2.1)) = 0) (h2:((tabOf ops y).2.1 &&& (tabOf ops x).2.2) = 0):x.apart ops y = true:=by
  have key:∀ {a b k:Nat},a &&& b = 0 -> a.testBit k = true -> b.testBit k = false:=fun {a b k} h hk=>by
    have:=congrArg (fun z=>Nat.testBit z k) h
    simp only [Nat.testBit_and,Nat.zero_testBit,hk,Bool.true_and] at this
    exact this
  unfold Oper.apart
  rw [Bool.and_eq_true]
  constructor
  · cases hd:x.dst with
    | none=>rfl
    | some d=>
      have h:=key (k:=d) h1 (by simp [tabOf,hd,bits_spec])
      rw [Nat.testBit_or,Bool.or_eq_false_iff] at h
      simp only [tabOf,bits_spec,decide_eq_false_iff_not] at h
      simp only [Bool.and_eq_true,Bool.not_eq_true', bne_iff_ne,ne_eq]
      refine ⟨by simpa using h.1,fun hy=>h.2 (by rw [hy]; simp)⟩
  · cases hd:y.dst with
    | none=>rfl
    | some d=>
      have h:=key (k:=d) h2 (by simp [tabOf,hd,bits_spec])
      simp only [tabOf,bits_spec,decide_eq_false_iff_not] at h
      simpa using h
theorem step_of (hi:i < ops.size) (hm:m' = m ||| 2 ^ i):stepB ops.size m i m' = true:=by
  subst hm
  unfold stepB
  rw [beq_iff_eq]
  apply Array.ext_getElem?
  intro j
  rw [Array.getElem?_setIfInBounds]
  by_cases hij:i = j
  · subst hij; simp [lst,hi,Nat.testBit_or,Nat.testBit_two_pow]
  · rw [if_neg hij]
    rcases Nat.lt_or_ge j ops.size with hj | hj
    · simp [lst,hj,hij,Nat.testBit_or,Nat.testBit_two_pow]
    · simp [lst,Nat.not_lt.2 hj]
theorem tail_false {t i:Nat} (h:i < t):tail t i = false:=by
  unfold tail
  cases hb:Nat.ble t i
  · rfl
  · exact absurd (Nat.le_of_ble_eq_true hb) (by omega)
theorem free_of {oi:Oper} (hi:ops[i]? = some oi) (h:∀ j oj,ops[j]? = some oj -> j = i ∨ m.testBit j = true ∨ (tabOf ops oj).1.testBit i = true ∨ oi.apart ops oj = true):Region.free .any ops (lst ops.size m) i = true:=by
  unfold Region.free
  rw [hi]
  simp only
  rw [List.all_eq_true]
  intro j hj
  have hj' :=List.mem_range.1 hj
  have ho:ops[j]? = some ops[j]:=by simp [hj']
  rw [ho,lst_getD hj']
  simp only [Bool.or_eq_true,beq_iff_eq]
  rcases h j _ ho with h | h | h | h
  · exact .inl (.inl h)
  · exact .inl (.inr h)
  · right; left
    obtain ⟨e,he,hb,h3⟩:=dep_spec.1 h
    rw [Array.any_eq_true]
    obtain ⟨q,hq,rfl⟩:=Array.getElem_of_mem he
    exact ⟨q,hq,by simp [hb,h3]⟩
  · exact .inr (.inr h)
theorem takePC_ok (hT:tabs ops = T) (h:takePC T t m i m' = true):takeP ops t m i m' = true:=by
  unfold takePC at h
  split at h
  · rename_i d s l hi
    have hlt:i < T.length:=(List.getElem?_eq_some_iff.1 hi).1
    obtain ⟨oi,hoi⟩:=tabs_op hT hlt
    have e:=tabs_get hT hoi
    rw [hi] at e
    have e1:d = (tabOf ops oi).1:=by cases e; rfl
    have e2:s = (tabOf ops oi).2.1:=by cases e; rfl
    have e3:l = (tabOf ops oi).2.2:=by cases e; rfl
    simp only [Bool.and_eq_true,Bool.not_eq_true', beq_iff_eq] at h
    obtain ⟨⟨⟨⟨h2,h3⟩,h4⟩,h5⟩,h6⟩:=h
    unfold takeP
    simp only [Bool.and_eq_true]
    refine ⟨⟨?_,free_of hoi fun j oj hoj=>?_⟩,step_of (by rw [<- tabs_len hT]; exact hlt) h4⟩
    · simpa using ready_of hT hoi h2 (by rw [<- e1]; exact h3) (by simpa [Nat.blt_eq] using h5)
    · have h7:=allI_spec h6 j _ (tabs_get hT hoj)
      simp only [Nat.zero_add,Bool.or_eq_true,beq_iff_eq,Bool.and_eq_true] at h7
      rcases h7 with ((h7 | h7) | h7) | h7
      · exact .inl h7
      · exact .inr (.inl h7)
      · exact .inr (.inr (.inl h7))
      · exact .inr (.inr (.inr (apart_of (by rw [<- e2]; exact h7.1) (by rw [<- e3]; exact h7.2))))
  · cases h
theorem takeC_ok (hT:tabs ops = T) (h:takeC T t m W i m' = true):takeB ops t m W i m' = true:=by
  unfold takeC at h
  split at h
  · rename_i d s l hi
    have hlt:i < T.length:=(List.getElem?_eq_some_iff.1 hi).1
    obtain ⟨oi,hoi⟩:=tabs_op hT hlt
    have e:=tabs_get hT hoi
    rw [hi] at e
    have e1:d = (tabOf ops oi).1:=by cases e; rfl
    have e2:s = (tabOf ops oi).2.1:=by cases e; rfl
    have e3:l = (tabOf ops oi).2.2:=by cases e; rfl
    simp only [Bool.and_eq_true,Bool.not_eq_true', beq_iff_eq] at h
    obtain ⟨⟨⟨⟨⟨h1,h2⟩,h3⟩,h4⟩,h5⟩,h6⟩:=h
    unfold takeB
    simp only [Bool.and_eq_true]
    have h7:∀ j oj,ops[j]? = some oj -> _:=fun j oj hoj=>allI_spec h6 j _ (tabs_get hT hoj)
    refine ⟨⟨⟨?_,free_of hoi fun j oj hoj=>?_⟩,?_⟩,step_of (by rw [<- tabs_len hT]; exact hlt) h4⟩
    · simpa using ready_of hT hoi h2 (by rw [<- e1]; exact h3) (by simpa [Nat.blt_eq] using h5)
    · have h7:=h7 j oj hoj
      simp only [Nat.zero_add,Bool.or_eq_true,beq_iff_eq,Bool.and_eq_true] at h7
      rcases h7.1.1 with ((h7 | h7) | h7) | h7
      · exact .inl h7
      · exact .inr (.inl h7)
      · exact .inr (.inr (.inl h7))
      · exact .inr (.inr (.inr (apart_of (by rw [<- e2]; exact h7.1) (by rw [<- e3]; exact h7.2))))
    · unfold waitB
      rw [Bool.and_eq_true,List.all_eq_true]
      rw [Nat.blt_eq] at h1
      refine ⟨by rw [tail_false h1]; rfl,fun j hj=>?_⟩
      have hj' :=List.mem_range.1 hj
      have ho:ops[j]? = some ops[j]:=by simp [hj']
      have h7:=h7 j _ ho
      rw [ho]
      simp only [Nat.zero_add,Bool.or_eq_true,beq_iff_eq,Bool.and_eq_true,Bool.not_eq_true', bne_iff_ne,ne_eq] at h7
      obtain ⟨⟨_,h8⟩,h9⟩:=h7
      simp only [Bool.and_eq_true,Bool.or_eq_true,Bool.not_eq_true']
      constructor
      · rcases h8 with (h8 | h8) | h8
        · rw [Nat.blt_eq] at h8
          exact .inl (.inl (tail_false h8))
        · exact .inl (.inr h8)
        · exact .inr h8
      · rcases h9 with h9 | ⟨h9,h10⟩
        · exact .inl h9
        · refine .inr ⟨h9,?_⟩
          obtain ⟨k,hk⟩:∃ k,((tabOf ops ops[j]).1 &&& (2 ^ i ||| (W &&& (2 ^ T.length - 1)))).testBit k = true:=by
            refine Classical.byContradiction fun hn=>?_
            exact h10 (Nat.eq_of_testBit_eq fun k=>by
              rw [Nat.zero_testBit]
              cases hq:((tabOf ops ops[j]).1 &&& (2 ^ i ||| (W &&& (2 ^ T.length - 1)))).testBit k
              · rfl
              · exact absurd ⟨k,hq⟩ hn)
          rw [Nat.testBit_and,Bool.and_eq_true,Nat.testBit_or,Bool.or_eq_true,Nat.testBit_two_pow,decide_eq_true_eq,Nat.testBit_and,Bool.and_eq_true,Nat.testBit_two_pow_sub_one,decide_eq_true_eq] at hk
          obtain ⟨h11,h12⟩:=hk
          obtain ⟨ed,he,hb,h13⟩:=dep_spec.1 h11
          rw [Array.any_eq_true]
          obtain ⟨q,hq,rfl⟩:=Array.getElem_of_mem he
          refine ⟨q,hq,?_⟩
          simp only [hb,Bool.true_and,Bool.or_eq_true,beq_iff_eq,Bool.and_eq_true,Nat.blt_eq]
          rcases h12 with h12 | ⟨h12,h14⟩
          · exact .inl (by rw [h13,h12])
          · exact .inr ⟨by rw [h13]; exact h12,by rw [h13,<- tabs_len hT]; exact h14⟩
  · cases h
theorem ready_eq (hT:tabs ops = T) (hm:Nat.blt m (2 ^ T.length) = true):Region.ready .any ops (lst ops.size m) = readyC T m:=by
  have hm' : m < 2 ^ T.length:=by simpa [Nat.blt_eq] using hm
  unfold Region.ready readyC
  rw [tabs_len hT]
  apply List.filter_congr
  intro j hj
  have hj' :=List.mem_range.1 hj
  have ho:ops[j]? = some ops[j]:=by simp [hj']
  have key:(j ∈ Region.ready .any ops (lst ops.size m)) ↔ (m.testBit j = false/\sub (tabOf ops ops[j]).1 m = true):=⟨fun h=>ready_to hT ho h,fun ⟨h1,h2⟩=>ready_of hT ho h1 h2 hm'⟩
  unfold Region.ready at key
  rw [List.mem_filter] at key
  rw [tabs_get hT ho]
  have key2:∀ {a b:Bool},(a = true ↔ b = true) -> a = b:=fun {a b} h=>by cases a <;> cases b <;> simp_all
  apply key2
  simp only [hj,true_and] at key
  rw [key]
  simp only [Bool.and_eq_true,Bool.not_eq_true']
  rw [tabs_len hT] at hm
  exact ⟨fun ⟨h1,h2⟩=>⟨h1,h2,hm⟩,fun ⟨h1,h2,_⟩=>⟨h1,h2⟩⟩
def readyD (T:List (Nat × Nat × Nat)) (m:Nat) (rs:List Nat):Bool:=Nat.blt m (2 ^ T.length) && readyC T m == rs && !rs.isEmpty
def doneD (T:List (Nat × Nat × Nat)) (m:Nat):Bool:=Nat.blt m (2 ^ T.length) && (readyC T m).isEmpty
theorem readyD_ok {rs:List Nat} (hT:tabs ops = T) (h:readyD T m rs = true):readyB ops m rs = true:=by
  unfold readyD at h
  simp only [Bool.and_eq_true] at h
  unfold readyB
  rw [ready_eq hT h.1.1,Bool.and_eq_true]
  exact ⟨h.1.2,h.2⟩
theorem doneD_ok (hT:tabs ops = T) (h:doneD T m = true):Region.ready .any ops (lst ops.size m) = []:=by
  unfold doneD at h
  simp only [Bool.and_eq_true] at h
  rw [ready_eq hT h.1]
  simpa using h.2
def stepC (T:List (Nat × Nat × Nat)) (m i m' : Nat):Bool:=Nat.blt i T.length && m' == (m ||| 2 ^ i)
theorem stepC_ok (hT:tabs ops = T) (h:stepC T m i m' = true):stepB ops.size m i m' = true:=by
  unfold stepC at h
  simp only [Bool.and_eq_true,beq_iff_eq,Nat.blt_eq] at h
  exact step_of (by rw [<- tabs_len hT]; exact h.1) h.2
end
section
variable {P:Program} {Z:Machine -> Prop} {b:Frame} {n:Nat} {ds:List Deferred} {cs:List Frame} {k:List Item} {σ:List (Nat × Value)} {w:World} {κ:KP}
theorem MX.drawT {id:Nat} {l:List Oper} (t:Nat) (T:List (Nat × Nat × Nat)) (hT:tabs l.toArray = T) (hm:P.follows .mixedOrders = true) (hp:plainB l.toArray = true) (h:tabs l.toArray = T -> plainB l.toArray = true -> RD kp0 P Z b n ds cs l.toArray t l.length 0 k σ w):MX P Z b n ds cs (.code (.region id l.toArray true) :: k) σ w:=MX.draw t hm hp (h hT hp)
end
section
variable {P:Program} {σ:List (Nat × Value)} {w:World} {x y:Operand} {d:Option Tmp} {t t' ty:TypeId} {ps:String} {af:Array Edge} {g:Option (Nat × Bool)}
theorem FV.eqlB {a b:Bool} (ht:P.underlying t = some .bool) (hx:ev σ x = some (.bool a)) (hy:ev σ y = some (.bool b)):FV P ⟨d,.binOp .eql t x y t', ty,ps,af,g⟩ σ w (.bool (a == b)):=fun ρ ha w' _=>by
  have hs:(Op.equal t (.bool a) (.bool b)).run P w' = .ok (a == b) w' :=by
    unfold Op.equal; rw [show Op.maxDepth = 9999 + 1 from rfl,Op.equalIn]; simp [run_underlying ht]
  simp [execOp,ha _ _ hx,ha _ _ hy,eqGuard,binOp,hs]
theorem FV.neqB {a b:Bool} (ht:P.underlying t = some .bool) (hx:ev σ x = some (.bool a)) (hy:ev σ y = some (.bool b)):FV P ⟨d,.binOp .neq t x y t', ty,ps,af,g⟩ σ w (.bool (!(a == b))):=fun ρ ha w' _=>by
  have hs:(Op.equal t (.bool a) (.bool b)).run P w' = .ok (a == b) w' :=by
    unfold Op.equal; rw [show Op.maxDepth = 9999 + 1 from rfl,Op.equalIn]; simp [run_underlying ht]
  simp [execOp,ha _ _ hx,ha _ _ hy,eqGuard,binOp,hs]
end
theorem FV.neqV {P:Program} {σ:List (Nat × Value)} {w:World} {x y:Operand} {d:Option Tmp} {t t' ty:TypeId} {ps:String} {af:Array Edge} {g:Option (Nat × Bool)} {q:Bool} {xs ys:Array Value} (hx:ev σ x = some (.agg xs)) (hy:ev σ y = some (.agg ys)) (hg:P.eqGuardType P.depth t = false)
    (he:∀ w', (do eqGuard .eql t (.tmp 0) (.tmp 0) (.agg xs) (.agg ys); binOp .eql t (.agg xs) (.agg ys):Sem Value).run P w' = .ok (.bool q) w'):FV P ⟨d,.binOp .neq t x y t', ty,ps,af,g⟩ σ w (.bool (!q)):=fun ρ ha w' _=>by
  have h:=he w'
  rw [Sem.run_bind,run_eqGuard_agg w' .eql t _ _ _ _ hg] at h
  simp only [Result.andThen_ok] at h
  rw [run_eql_struct] at h
  have hq:(Op.equalIn 10000 t (.agg xs) (.agg ys)).run P w' = .ok q w' :=by
    cases hr:(Op.equalIn 10000 t (.agg xs) (.agg ys)).run P w' with
    | ok b w2=>rw [hr] at h; simp only [Result.andThen_ok] at h; cases h; rfl
    | halt z w2=>rw [hr] at h; simp [Result.andThen] at h
  simp only [execOp,ha _ _ hx,ha _ _ hy]
  rw [Sem.run_bind,Sem.run_bind,run_eqGuard_agg w' .neq t _ _ _ _ hg]
  simp only [Result.andThen_ok]
  rw [run_neq_struct,hq]
  simp
end Go.Proofs.YtgejkdheojkfiaaGreatDoor
