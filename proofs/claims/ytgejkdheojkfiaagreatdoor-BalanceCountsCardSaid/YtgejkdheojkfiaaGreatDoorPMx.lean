/- A walk by explicit steps, at the machine: frames, statements, regions in order, calls by contract and calls walked in place. No program in sight. -/
import Derived.Test.YtgejkdheojkfiaaGreatDoorPFw
import Derived.RangeFuncIn
import Derived.Maps.OwnIn
namespace Go.Proofs.YtgejkdheojkfiaaGreatDoor
open Go Go.RowKit
def Reach (P:Program) (Z:Machine -> Prop) (m:Machine):Prop:=∃ m', Steps P m m' /\Z m'
section
variable {P:Program} {Z Z' : Machine -> Prop} {m m1:Machine}
theorem Reach.step (h:step P m = .next m1) (k:Reach P Z m1):Reach P Z m:=let ⟨m', s,z⟩:=k; ⟨m', Steps.head h s,z⟩
theorem Reach.steps (h:Steps P m m1) (k:Reach P Z m1):Reach P Z m:=let ⟨m', s,z⟩:=k; ⟨m', Steps.trans h s,z⟩
theorem Reach.now (h:Z m):Reach P Z m:=⟨m,Steps.refl P m,h⟩
end
def fb (f:FuncId) (k:CallKind) (r:Option Nat):Frame:={ (default:Frame) with fn:=f,kind:=k,roundOf:=r }
def Ends (P:Program) (f:FuncId) (cs:List Frame) (R:Ending -> World -> Prop) (m:Machine):Prop:=∃ e w' fr,R e w' /\e ≠ .outgrown/\m = lone fr cs w' /\fr.fn = f/\fr.leaving P w' e
def Gives (w:World) (R:World -> Value -> Prop):Ending -> World -> Prop:=fun e w' =>∃ v,e = .returned v/\R w' v/\Agree [] w w'
def MX (P:Program) (Z:Machine -> Prop) (b:Frame) (n:Nat) (ds:List Deferred) (cs:List Frame) (k:List Item) (σ:List (Nat × Value)) (w:World):Prop:=
  ∀ a w', Fr n ds σ a -> Agree [] w w' -> Reach P Z (lone (b.atR a k) cs w')
def RG (P:Program) (Z:Machine -> Prop) (b:Frame) (n:Nat) (ds:List Deferred) (cs:List Frame) (ops:Array Oper) (l:List Oper) (k:List Item) (σ:List (Nat × Value)) (w:World):Prop:=
  ∀ i,ops.toList.drop i = l -> ∀ a w', Fr n ds σ a -> Agree [] w w' -> Reach P Z (lone (b.atR a (.inRegion ops (List.range' i l.length) :: k)) cs w')
def RT (P:Program) (Z:Machine -> Prop) (b:Frame) (n:Nat) (ds:List Deferred) (cs:List Frame) (σ:List (Nat × Value)) (w:World):Prop:=
  ∀ a w' todo,Fr n ds σ a -> Agree [] w w' -> Reach P Z (lone { b.atR a todo with mode:=.returning } cs w')
def Back (P:Program) (Z:Machine -> Prop) (fr:Frame) (cs:List Frame) (X:Value -> World -> Prop):Prop:=∀ v w1 w', X v w1 -> Agree [] w1 w' -> Reach P Z (lone (fr.finish v) cs w')
def RetOK (P:Program) (Z:Machine -> Prop) (f:FuncId) (cs:List Frame) (X:Value -> World -> Prop):Prop:=∀ v w1 w' fr,X v w1 -> Agree [] w1 w' -> fr.fn = f -> fr.leaving P w' (.returned v) -> Reach P Z (lone fr cs w')
theorem RetOK.of_back {P:Program} {Z:Machine -> Prop} {f:FuncId} {fr:Frame} {cs:List Frame} {X:Value -> World -> Prop} (h:Back P Z fr cs X):RetOK P Z f (fr :: cs) X:=fun v w1 w' _ hx hw _ hl=>.step (step_leave_returned hl) (h v w1 w' hx hw)
section
variable {P:Program} {Z:Machine -> Prop} {b:Frame} {n:Nat} {ds:List Deferred} {cs:List Frame} {k:List Item} {σ τ:List (Nat × Value)} {w:World}
theorem MX.seq {x y:Code} (h:MX P Z b n ds cs (.code x :: .code y :: k) σ w):MX P Z b n ds cs (.code (.seq x y) :: k) σ w:=fun a w' ha hw=>.step stepR_seq (h a w' ha hw)
theorem MX.block {id:Nat} {c:Code} (h:MX P Z b n ds cs (.code c :: .inBlock id :: k) σ w):MX P Z b n ds cs (.code (.block id c) :: k) σ w:=fun a w' ha hw=>.step stepR_block (h a w' ha hw)
theorem MX.inBlock {id:Nat} (h:MX P Z b n ds cs k σ w):MX P Z b n ds cs (.inBlock id :: k) σ w:=fun a w' ha hw=>.step stepR_inBlock (h a w' ha hw)
theorem MX.skip (h:MX P Z b n ds cs k σ w):MX P Z b n ds cs (.code .skip :: k) σ w:=fun a w' ha hw=>.step stepR_skip (h a w' ha hw)
theorem MX.exit {id:Nat} {k' : List Item} (hx:exitTo id k = some k') (h:MX P Z b n ds cs k' σ w):MX P Z b n ds cs (.code (.exit id) :: k) σ w:=fun a w' ha hw=>.step (stepR_exit hx) (h a w' ha hw)
theorem MX.loop1 {c:Code} (h:MX P Z b n ds cs (.code c :: .inLoop c :: k) σ w):MX P Z b n ds cs (.code (.loop c) :: k) σ w:=fun a w' ha hw=>.step stepR_loop (h a w' ha hw)
theorem MX.again1 {c:Code} (h:MX P Z b n ds cs (.code c :: .inLoop c :: k) σ w):MX P Z b n ds cs (.inLoop c :: k) σ w:=fun a w' ha hw=>.step stepR_inLoop (h a w' ha hw)
theorem MX.ret (hb:b.roundOf = none) (h:RT P Z b n ds cs σ w):MX P Z b n ds cs (.code .ret :: k) σ w:=fun a w' ha hw=>.step (stepR_ret hb) (h a w' _ ha hw)
theorem MX.fin (hb:b.roundOf = none) (h:RT P Z b n ds cs σ w):MX P Z b n ds cs [] σ w:=fun a w' ha hw=>.step (stepR_end hb) (h a w' _ ha hw)
theorem MX.sub (h:MX P Z b n ds cs k τ w) (hs:Sub σ τ):MX P Z b n ds cs k σ w:=fun a w' ha hw=>h a w' (ha.sub hs.look) hw
theorem MX.cond_t {c:Operand} {x y:Code} (hc:ev σ c = some (.bool true)) (h:MX P Z b n ds cs (.code x :: k) σ w):MX P Z b n ds cs (.code (.cond c x y) :: k) σ w:=fun a w' ha hw=>.step (stepR_cond (ha.ev hc)) (h a w' ha hw)
theorem MX.cond_f {c:Operand} {x y:Code} (hc:ev σ c = some (.bool false)) (h:MX P Z b n ds cs (.code y :: k) σ w):MX P Z b n ds cs (.code (.cond c x y) :: k) σ w:=fun a w' ha hw=>.step (stepR_cond (ha.ev hc)) (h a w' ha hw)
theorem MX.ifd {β:Type} {c:Operand} {x y:Code} {p:Prop} [Decidable p] {A B:Option β} {r:β} (hc:ev σ c = some (.bool (decide p))) (h:(if p then A else B) = some r)
    (ht:p -> A = some r -> MX P Z b n ds cs (.code x :: k) σ w) (hf:¬ p -> B = some r -> MX P Z b n ds cs (.code y :: k) σ w):MX P Z b n ds cs (.code (.cond c x y) :: k) σ w:=by
  by_cases hp:p
  · exact MX.cond_t (by rw [hc,decide_eq_true hp]) (ht hp (ite_t hp h))
  · exact MX.cond_f (by rw [hc,decide_eq_false hp]) (hf hp (ite_f hp h))
theorem MX.ifn {β:Type} {c:Operand} {x y:Code} {p:Prop} [Decidable p] {A B:Option β} {r:β} (hc:ev σ c = some (.bool (!decide p))) (h:(if p then A else B) = some r)
    (ht:p -> A = some r -> MX P Z b n ds cs (.code y :: k) σ w) (hf:¬ p -> B = some r -> MX P Z b n ds cs (.code x :: k) σ w):MX P Z b n ds cs (.code (.cond c x y) :: k) σ w:=by
  by_cases hp:p
  · exact MX.cond_f (by rw [hc,decide_eq_true hp]; rfl) (ht hp (ite_t hp h))
  · exact MX.cond_t (by rw [hc,decide_eq_false hp]; rfl) (hf hp (ite_f hp h))
theorem MX.ifb {β:Type} {c:Operand} {x y:Code} {q:Bool} {A B:Option β} {r:β} (hc:ev σ c = some (.bool q)) (h:(if q = true then A else B) = some r)
    (ht:q = true -> A = some r -> MX P Z b n ds cs (.code x :: k) σ w) (hf:¬ q = true -> B = some r -> MX P Z b n ds cs (.code y :: k) σ w):MX P Z b n ds cs (.code (.cond c x y) :: k) σ w:=
  MX.ifd (p:=q = true) (by rw [hc]; simp) h ht hf
theorem MX.ifnb {β:Type} {c:Operand} {x y:Code} {q:Bool} {A B:Option β} {r:β} (hc:ev σ c = some (.bool (!q))) (h:(if q = true then A else B) = some r)
    (ht:q = true -> A = some r -> MX P Z b n ds cs (.code y :: k) σ w) (hf:¬ q = true -> B = some r -> MX P Z b n ds cs (.code x :: k) σ w):MX P Z b n ds cs (.code (.cond c x y) :: k) σ w:=
  MX.ifn (p:=q = true) (by rw [hc]; simp) h ht hf
theorem MX.cond_kt {c:Operand} {x y:Code} {q:Bool} (hc:ev σ c = some (.bool q)) (hb:q = true) (h:MX P Z b n ds cs (.code x :: k) σ w):MX P Z b n ds cs (.code (.cond c x y) :: k) σ w:=MX.cond_t (by rw [hc,hb]) h
theorem MX.cond_kf {c:Operand} {x y:Code} {q:Bool} (hc:ev σ c = some (.bool q)) (hb:q = false) (h:MX P Z b n ds cs (.code y :: k) σ w):MX P Z b n ds cs (.code (.cond c x y) :: k) σ w:=MX.cond_f (by rw [hc,hb]) h
theorem MX.join {α γ O:Type} {K:γ -> Option O} {B:(γ -> Option O) -> Option O} {r:O} {it:Item} (S:α -> List (Nat × Value)) (R:α -> World -> Prop) (p:α -> γ) (hh:jn K B = some r)
    (hJ:∀ x wx,R x wx -> K (p x) = some r -> MX P Z b n ds cs k (S x) wx)
    (h:∀ J:γ -> Option O,(∀ x wx σ', Sub σ' (S x) -> R x wx -> J (p x) = some r -> MX P Z b n ds cs k σ' wx) -> B J = some r -> MX P Z b n ds cs (it :: k) σ w):MX P Z b n ds cs (it :: k) σ w:=
  h K (fun x wx _σ' hs hR hK=>(hJ x wx hR hK).sub hs) hh
theorem MX.joinx {α γ O:Type} {K:γ -> Option O} {B:(γ -> Option O) -> Option O} {r:O} {it:Item} {id:Nat} {k' : List Item} (S:α -> List (Nat × Value)) (R:α -> World -> Prop) (p:α -> γ) (_hx:exitTo id k = some k') (hh:jn K B = some r)
    (hJ:∀ x wx,R x wx -> K (p x) = some r -> MX P Z b n ds cs k' (S x) wx)
    (h:∀ J:γ -> Option O,(∀ x wx σ', Sub σ' (S x) -> R x wx -> J (p x) = some r -> MX P Z b n ds cs k' σ' wx) -> B J = some r -> MX P Z b n ds cs (it :: k) σ w):MX P Z b n ds cs (it :: k) σ w:=
  h K (fun x wx _σ' hs hR hK=>(hJ x wx hR hK).sub hs) hh
theorem MX.loop {α γ O:Type} {B:(γ -> Option O) -> γ -> Option O} {N:Nat} {r:O} {c:Code} (S:α -> List (Nat × Value)) (R:α -> World -> Prop) (p:α -> γ) (x0:α) (hh:loopF B N (p x0) = some r) (hs:Sub σ (S x0)) (hR:R x0 w)
    (round:∀ (J:γ -> Option O) x wx,(∀ x' wx' σ', Sub σ' (S x') -> R x' wx' -> J (p x') = some r -> MX P Z b n ds cs (.inLoop c :: k) σ' wx') -> R x wx -> B J (p x) = some r -> MX P Z b n ds cs (.code c :: .inLoop c :: k) (S x) wx):MX P Z b n ds cs (.code (.loop c) :: k) σ w:=by
  have key:∀ N x wx,R x wx -> loopF B N (p x) = some r -> MX P Z b n ds cs (.code c :: .inLoop c :: k) (S x) wx:=by
    intro N
    induction N with
    | zero=>intro x wx _ h; cases h
    | succ N ih=>intro x wx hx h; exact round (loopF B N) x wx (fun x' wx' σ' hs' hR' hJ=>(MX.again1 (ih x' wx' hR' hJ)).sub hs') hx h
  exact MX.loop1 ((key N x0 w hR hh).sub hs)
/-! ### Regions in order -/
variable {ops:Array Oper} {l:List Oper} {o:Oper} {d:Nat} {op:Op} {ty:TypeId} {ps:String} {af:Array Edge} {v:Value}
theorem drop_cons {α:Type} {xs:List α} {i:Nat} {x:α} {l:List α} (h:xs.drop i = x :: l):xs[i]? = some x/\xs.drop (i + 1) = l:=by
  have hi:i < xs.length:=by
    by_cases hi:i < xs.length
    · exact hi
    · rw [List.drop_of_length_le (by omega)] at h; cases h
  rw [List.drop_eq_getElem_cons hi] at h
  injection h with h1 h2
  exact ⟨by rw [List.getElem?_eq_getElem hi,h1],h2⟩
theorem op_get {i:Nat} (h:ops.toList.drop i = o :: l):ops[i]? = some o:=by rw [<- Array.getElem?_toList]; exact (drop_cons h).1
theorem MX.region {id:Nat} (h:RG P Z b n ds cs l.toArray l k σ w):MX P Z b n ds cs (.code (.region id l.toArray false) :: k) σ w:=fun a w' ha hw=>by
  refine .step stepR_region ?_
  have:=h 0 (by simp) a w' ha hw
  simpa [List.range_eq_range'] using this
theorem RG.nil (h:MX P Z b n ds cs k σ w):RG P Z b n ds cs ops [] k σ w:=fun _ _ a w' ha hw=>.step stepR_region_end (h a w' ha hw)
theorem semAt_of_value {ρ:Operand -> Value} {r:Option Nat} {w1 w2:World} {u:Value} (h:(execOp ρ o).run P w1 = .ok (.value u) w2):(o.semAt r ρ).run P w1 = .ok (.value u) w2:=by
  rw [Oper.semAt_eq _ _ _ ?_]
  · exact h
  · intro c hc
    obtain ⟨dst,op,ty,ps,af,g⟩:=o
    simp only at hc
    subst hc
    simp only [execOp,Sem.run_bind] at h
    cases hr:(resolve ρ c ty).run P w1 with
    | ok d w3=>rw [hr] at h; simp [Result.andThen] at h
    | halt x w3=>rw [hr] at h; simp [Result.andThen] at h
theorem step_value {a:Act} {w1 w2:World} {i:Nat} {rest:List Nat} {u:Value} (ho:ops[i]? = some o) (hw:Region.wanted o (yielded ops a.tmps) = true) (hr:(o.semAt b.roundOf a.eval).run P w1 = .ok (.value u) w2) :
    step P (lone (b.atR a (.inRegion ops (i :: rest) :: k)) cs w1) = .next (lone (b.atR (a.put o.dst u) (.inRegion ops rest :: k)) cs w2):=by
  have hfin:(b.atR a (.inRegion ops (i :: rest) :: k)).finish u = b.atR (a.put o.dst u) (.inRegion ops rest :: k):=by rw [Frame.finish_atR,ho]; rfl
  refine step_lone_go ?_
  rw [stepGR_op ho hw,<- hfin]
  simp [stepG.apply,hr]
theorem step_skip' {a:Act} {w1 w2:World} {i:Nat} {rest:List Nat} (ho:ops[i]? = some o) (hw:Region.wanted o (yielded ops a.tmps) = true) (hr:(o.semAt b.roundOf a.eval).run P w1 = .ok .skip w2) :
    step P (lone (b.atR a (.inRegion ops (i :: rest) :: k)) cs w1) = .next (lone (b.atR (a.put o.dst undef) (.inRegion ops rest :: k)) cs w2):=by
  have hfin:(b.atR a (.inRegion ops (i :: rest) :: k)).finish undef = b.atR (a.put o.dst undef) (.inRegion ops rest :: k):=by rw [Frame.finish_atR,ho]; rfl
  refine step_lone_go ?_
  rw [stepGR_op ho hw,<- hfin]
  simp [stepG.apply,hr]
theorem step_enter {a:Act} {w1 w2:World} {i:Nat} {rest:List Nat} {f:FuncId} {vs:Array Value} (ho:ops[i]? = some o) (hw:Region.wanted o (yielded ops a.tmps) = true) (hr:(o.semAt b.roundOf a.eval).run P w1 = .ok (.enter f vs) w2) :
    step P (lone (b.atR a (.inRegion ops (i :: rest) :: k)) cs w1) = .next (lone (Frame.enter P f vs .normal) (b.atR a (.inRegion ops (i :: rest) :: k) :: cs) w2):=by
  refine step_lone_go ?_
  rw [stepGR_op ho hw]
  simp [stepG.apply,hr,Frame.atR]
theorem step_round {a:Act} {w1 w2:World} {i:Nat} {rest:List Nat} {lp:Nat} {f:FuncId} {tmps:Array Value} {assign body:Code} (ho:ops[i]? = some o) (hw:Region.wanted o (yielded ops a.tmps) = true) (hr:(o.semAt b.roundOf a.eval).run P w1 = .ok (.round lp f tmps assign body) w2) :
    step P (lone (b.atR a (.inRegion ops (i :: rest) :: k)) cs w1) = .next (lone (Frame.round lp f tmps assign body .normal) (b.atR a (.inRegion ops (i :: rest) :: k) :: cs) w2):=by
  refine step_lone_go ?_
  rw [stepGR_op ho hw]
  simp [stepG.apply,hr,Frame.atR]
theorem wanted_some {a:Act} {s j:Nat} {q q' : Bool} {dd:Option Tmp} (ha:Fr n ds σ a) (hj:(ops[j]?).bind (·.dst) = some s) (hs:look σ s = some (.bool q')):Region.wanted ⟨dd,op,ty,ps,af,some (j,q)⟩ (yielded ops a.tmps) = (q' == q):=by
  have:=ha.get s _ hs
  simp [Region.wanted,yielded,hj,this]
theorem wanted_undef {a:Act} {s j:Nat} {q:Bool} {dd:Option Tmp} (ha:Fr n ds σ a) (hj:(ops[j]?).bind (·.dst) = some s) (hs:look σ s = some undef):Region.wanted ⟨dd,op,ty,ps,af,some (j,q)⟩ (yielded ops a.tmps) = false:=by
  have:=ha.get s _ hs
  simp [Region.wanted,yielded,hj,this,undef]
inductive Want (ops:Array Oper) (σ:List (Nat × Value)):Option (Nat × Bool) -> Bool -> Prop
  | plain:Want ops σ none true
  | yes {s j:Nat} {q:Bool} (hj:(ops[j]?).bind (·.dst) = some s) (hs:look σ s = some (.bool q)):Want ops σ (some (j,q)) true
  | no {s j:Nat} {q:Bool} (hj:(ops[j]?).bind (·.dst) = some s) (hs:look σ s = some (.bool (!q))):Want ops σ (some (j,q)) false
  | undef {s j:Nat} {q:Bool} (hj:(ops[j]?).bind (·.dst) = some s) (hs:look σ s = some undef):Want ops σ (some (j,q)) false
theorem Want.eq {g:Option (Nat × Bool)} {q:Bool} {dd:Option Tmp} (h:Want ops σ g q) {a:Act} (ha:Fr n ds σ a):Region.wanted ⟨dd,op,ty,ps,af,g⟩ (yielded ops a.tmps) = q:=by
  cases h with
  | plain=>rfl
  | yes hj hs=>rw [wanted_some ha hj hs,beq_self_eq_true]
  | @no s j q hj hs=>rw [wanted_some ha hj hs]; cases q <;> rfl
  | undef hj hs=>exact wanted_undef ha hj hs
variable {g:Option (Nat × Bool)}
theorem RG.val' (hg:Want ops σ g true) (hq:FV P ⟨some d,op,ty,ps,af,g⟩ σ w v) (hd:Nat.blt d n = true) (h:RG P Z b n ds cs ops l k ((d,v) :: σ) w):RG P Z b n ds cs ops (⟨some d,op,ty,ps,af,g⟩ :: l) k σ w:=by
  intro i hi a w' ha hw
  obtain ⟨h1,h2⟩:=drop_cons hi
  rw [List.length_cons,List.range'_succ]
  exact .step (step_value (op_get hi) (hg.eq ha) (semAt_of_value (hq a.eval (fun x u hx=>ha.ev hx) w' hw))) (h (i + 1) h2 _ _ (ha.put d v hd) hw)
theorem RG.off (hg:Want ops σ g false) (hd:Nat.blt d n = true) (h:RG P Z b n ds cs ops l k ((d,undef) :: σ) w):RG P Z b n ds cs ops (⟨some d,op,ty,ps,af,g⟩ :: l) k σ w:=by
  intro i hi a w' ha hw
  obtain ⟨h1,h2⟩:=drop_cons hi
  rw [List.length_cons,List.range'_succ]
  refine .step (stepR_op_skip (by rw [op_get hi]; simpa using hg.eq ha)) ?_
  rw [op_get hi]
  exact h (i + 1) h2 _ _ (ha.put d undef hd) hw
theorem Fr.known {a:Act} (ha:Fr n ds σ a) {s:Nat} {q q' : Bool} (hs:look σ s = some (.bool q)) (hb:q = q'):Fr n ds ((s,.bool q') :: σ) a:=by
  subst hb
  refine ⟨ha.size,ha.defers,fun t u hu=>?_⟩
  simp only [look] at hu
  cases hbeq:Nat.beq s t
  · rw [hbeq] at hu; exact ha.get t u hu
  · rw [hbeq] at hu; injection hu with hu; subst hu; rw [<- Nat.eq_of_beq_eq_true hbeq]; exact ha.get s _ hs
theorem RG.known {s:Nat} {q q' : Bool} (hs:look σ s = some (.bool q)) (hb:q = q') (h:RG P Z b n ds cs ops l k ((s,.bool q') :: σ) w):RG P Z b n ds cs ops l k σ w:=fun i hi a w' ha hw=>h i hi a w' (ha.known hs hb) hw
theorem RG.ifd {β:Type} {s:Nat} {p:Prop} [Decidable p] {A B:Option β} {r:β} (hs:look σ s = some (.bool (decide p))) (h:(if p then A else B) = some r)
    (ht:p -> A = some r -> RG P Z b n ds cs ops l k ((s,.bool true) :: σ) w) (hf:¬ p -> B = some r -> RG P Z b n ds cs ops l k ((s,.bool false) :: σ) w):RG P Z b n ds cs ops l k σ w:=by
  by_cases hp:p
  · exact RG.known hs (decide_eq_true hp) (ht hp (ite_t hp h))
  · exact RG.known hs (decide_eq_false hp) (hf hp (ite_f hp h))
theorem RG.ifn {β:Type} {s:Nat} {p:Prop} [Decidable p] {A B:Option β} {r:β} (hs:look σ s = some (.bool (!decide p))) (h:(if p then A else B) = some r)
    (ht:p -> A = some r -> RG P Z b n ds cs ops l k ((s,.bool false) :: σ) w) (hf:¬ p -> B = some r -> RG P Z b n ds cs ops l k ((s,.bool true) :: σ) w):RG P Z b n ds cs ops l k σ w:=by
  by_cases hp:p
  · exact RG.known hs (by rw [decide_eq_true hp]; rfl) (ht hp (ite_t hp h))
  · exact RG.known hs (by rw [decide_eq_false hp]; rfl) (hf hp (ite_f hp h))
theorem RG.ifb {β:Type} {s:Nat} {q:Bool} {A B:Option β} {r:β} (hs:look σ s = some (.bool q)) (h:(if q = true then A else B) = some r)
    (ht:q = true -> A = some r -> RG P Z b n ds cs ops l k ((s,.bool true) :: σ) w) (hf:¬ q = true -> B = some r -> RG P Z b n ds cs ops l k ((s,.bool false) :: σ) w):RG P Z b n ds cs ops l k σ w:=
  RG.ifd (p:=q = true) (by rw [hs]; simp) h ht hf
theorem RG.ifnb {β:Type} {s:Nat} {q:Bool} {A B:Option β} {r:β} (hs:look σ s = some (.bool (!q))) (h:(if q = true then A else B) = some r)
    (ht:q = true -> A = some r -> RG P Z b n ds cs ops l k ((s,.bool false) :: σ) w) (hf:¬ q = true -> B = some r -> RG P Z b n ds cs ops l k ((s,.bool true) :: σ) w):RG P Z b n ds cs ops l k σ w:=
  RG.ifn (p:=q = true) (by rw [hs]; simp) h ht hf
theorem RG.does (hg:Want ops σ g true) (hd:Nat.blt d n = true)
    (h:∀ ρ:Operand -> Value,(∀ x u,ev σ x = some u -> ρ x = u) -> ∀ w', Agree [] w w' -> ∃ u w1,(execOp ρ ⟨some d,op,ty,ps,af,g⟩).run P w' = .ok (.value u) w1/\RG P Z b n ds cs ops l k ((d,u) :: σ) w1) :
    RG P Z b n ds cs ops (⟨some d,op,ty,ps,af,g⟩ :: l) k σ w:=by
  intro i hi a w' ha hw
  obtain ⟨h1,h2⟩:=drop_cons hi
  rw [List.length_cons,List.range'_succ]
  obtain ⟨u,w1,hr,hk⟩:=h a.eval (fun x u hx=>ha.ev hx) w' hw
  exact .step (step_value (op_get hi) (hg.eq ha) (semAt_of_value hr)) (hk (i + 1) h2 _ _ (ha.put d u hd) (Agree.refl _ _))
theorem semAt_of_skip {ρ:Operand -> Value} {r:Option Nat} {w1 w2:World} (h:(execOp ρ o).run P w1 = .ok .skip w2):(o.semAt r ρ).run P w1 = .ok .skip w2:=by
  rw [Oper.semAt_eq _ _ _ ?_]
  · exact h
  · intro c hc
    obtain ⟨dst,op,ty,ps,af,g⟩:=o
    simp only at hc
    subst hc
    simp only [execOp,Sem.run_bind] at h
    cases hr:(resolve ρ c ty).run P w1 with
    | ok d w3=>rw [hr] at h; simp [Result.andThen] at h
    | halt x w3=>rw [hr] at h; simp [Result.andThen] at h
theorem RG.acts (hg:Want ops σ g true)
    (h:∀ ρ:Operand -> Value,(∀ x u,ev σ x = some u -> ρ x = u) -> ∀ w', Agree [] w w' -> ∃ w1,(execOp ρ ⟨none,op,ty,ps,af,g⟩).run P w' = .ok .skip w1/\RG P Z b n ds cs ops l k σ w1) :
    RG P Z b n ds cs ops (⟨none,op,ty,ps,af,g⟩ :: l) k σ w:=by
  intro i hi a w' ha hw
  obtain ⟨h1,h2⟩:=drop_cons hi
  rw [List.length_cons,List.range'_succ]
  obtain ⟨w1,hr,hk⟩:=h a.eval (fun x u hx=>ha.ev hx) w' hw
  exact .step (step_skip' (op_get hi) (hg.eq ha) (semAt_of_skip hr)) (hk (i + 1) h2 _ _ ha (Agree.refl _ _))
/-! ### Calls -/
def bodyB (P:Program) (f:FuncId):Bool:=match P.funcs[f]? with
  | some fn => fn.body.isSome && !(fn.name == "runtime.NumGoroutine")
  | none=>false
theorem run_callBody {f:FuncId} (hf:bodyB P f = true) (vs:Array Value) (w:World):(callFunc f vs).run P w = .ok (.enter f vs) w:=by
  unfold bodyB at hf
  split at hf
  · rename_i fn hfn
    rw [Bool.and_eq_true] at hf
    have h1:¬ fn.body = none:=by have:=hf.1; cases h:fn.body <;> simp_all
    have h2 : ¬ fn.name = "runtime.NumGoroutine" := by simpa using hf.2
    simp [callFunc,hfn,h1,h2]
  · cases hf
theorem run_call {f:FuncId} (hf:bodyB P f = true) {c:Operand} {xs:Array Operand} {ts:Array TypeId} {ρ:Operand -> Value} {fst cap vs:Array Value} {dd:Option Tmp} (hc:ρ c = .func (.func f) fst cap) (hv:xs.map ρ = vs) (w:World) :
    (execOp ρ ⟨dd,.call { callee:=.value c,args:=xs,argTypes:=ts },ty,ps,af,g⟩).run P w = .ok (.enter f (fst ++ vs ++ cap)) w:=by
  simp [execOp,resolve,hc,hv,invoke,Deferred.ofValue,run_callBody hf]
theorem semAt_call {c:Call} {dd:Option Tmp} (r:Option Nat) (ρ:Operand -> Value):Oper.semAt r ρ ⟨dd,.call c,ty,ps,af,g⟩ = execOp ρ ⟨dd,.call c,ty,ps,af,g⟩:=Oper.semAt_eq _ _ _ (by simp)
theorem RG.call' {f:FuncId} {c:Operand} {fst cap:List Value} {xs:List Operand} {vs:List Value} {ts:Array TypeId} {R:World -> Value -> Prop} (hg:Want ops σ g true) (hf:bodyB P f = true) (hcal:ev σ c = some (.func (.func f) fst.toArray cap.toArray)) (hv:evs σ xs vs)
    (hc:∀ w', Agree [] w w' -> Calls P f (fst ++ vs ++ cap).toArray w' (Gives w' R)) (hd:Nat.blt d n = true) (h:∀ w1 v,Agree [] w w1 -> R w1 v -> RG P Z b n ds cs ops l k ((d,v) :: σ) w1) :
    RG P Z b n ds cs ops (⟨some d,.call { callee:=.value c,args:=xs.toArray,argTypes:=ts },ty,ps,af,g⟩ :: l) k σ w:=by
  intro i hi a w' ha hw
  obtain ⟨h1,h2⟩:=drop_cons hi
  rw [List.length_cons,List.range'_succ]
  have he:=run_call (P:=P) (ty:=ty) (ps:=ps) (af:=af) (g:=g) (dd:=some d) (ts:=ts) hf (ρ:=a.eval) (ha.ev hcal) (vs:=vs.toArray) (xs:=xs.toArray) (by rw [List.map_toArray,evs_map (fun x u hx=>ha.ev hx) hv]) w'
  refine .step (step_enter (op_get hi) (hg.eq ha) (by rw [semAt_call]; exact he)) ?_
  have hc' :=hc w' hw
  simp only [List.append_toArray]
  obtain ⟨e,w1,fr,⟨u,rfl,hR,hag⟩,hs,_,hl⟩:=hc' (b.atR a (.inRegion ops (i :: List.range' (i + 1) l.length) :: k) :: cs)
  refine .steps hs (.step (step_leave_returned hl) ?_)
  rw [Frame.finish_atR,op_get hi]
  exact h w1 u (hw.trans hag) hR (i + 1) h2 _ _ (ha.put d u hd) (Agree.refl _ _)
theorem RG.callq' {f:FuncId} {c:Operand} {fst cap:List Value} {xs:List Operand} {vs:List Value} {ts:Array TypeId} (hg:Want ops σ g true) (hf:bodyB P f = true) (hcal:ev σ c = some (.func (.func f) fst.toArray cap.toArray)) (hv:evs σ xs vs)
    (hc:∀ w', Agree [] w w' -> Calls P f (fst ++ vs ++ cap).toArray w' (Gives w' fun _ u=>u = v)) (hd:Nat.blt d n = true) (h:RG P Z b n ds cs ops l k ((d,v) :: σ) w) :
    RG P Z b n ds cs ops (⟨some d,.call { callee:=.value c,args:=xs.toArray,argTypes:=ts },ty,ps,af,g⟩ :: l) k σ w:=
  RG.call' hg hf hcal hv hc hd fun w1 u hag hu=>by subst hu; exact fun i hi a w' ha hw=>h i hi a w' ha (hag.trans hw)
def args:Nat -> List Value -> List (Nat × Value)
  | _,[]=>[]
  | k,v :: vs=>(k,v) :: args (k + 1) vs
theorem look_args:∀ (vs:List Value) (k s:Nat) (v:Value),look (args k vs) s = some v -> k <= s/\vs[s - k]? = some v
  | [],k,s,v,h=>by cases h
  | u :: vs,k,s,v,h=>by
    simp only [args,look] at h
    cases hb:Nat.beq k s
    · rw [hb] at h
      obtain ⟨h1,h2⟩:=look_args vs (k + 1) s v h
      refine ⟨by omega,?_⟩
      rw [show s - k = (s - (k + 1)) + 1 from by omega]
      exact h2
    · rw [hb] at h
      have:=Nat.eq_of_beq_eq_true hb
      subst this
      exact ⟨Nat.le_refl _,by simpa using h⟩
theorem fr_args {n:Nat} {vs:List Value} (hl:Nat.ble vs.length n = true):Fr n [] (args 0 vs) { tmps:=vs.toArray ++ Array.replicate (n - vs.toArray.size) undef,defers:=[] }:=by
  have hl:vs.length <= n:=by simpa [Nat.ble_eq] using hl
  refine ⟨by simp; omega,rfl,fun s v hs=>?_⟩
  obtain ⟨_,h2⟩:=look_args vs 0 s v hs
  have h3:vs[s]? = some v:=by simpa using h2
  have hlt:=(List.getElem?_eq_some_iff.1 h3).1
  simp only
  rw [Array.getElem?_append_left (by simpa using hlt)]
  simpa using h3
theorem enter_atR {f:FuncId} {fn:Func} {c:Code} {vs:Array Value} (kd:CallKind) (hf:P.funcs[f]? = some fn) (hb:fn.body = some c) :
    Frame.enter P f vs kd = (fb f kd none).atR { tmps:=vs ++ Array.replicate (fn.ntmps - vs.size) undef,defers:=[] } [.code c]:=by
  simp [Frame.enter,Frame.atR,hf,hb,fb]
theorem MX.start' {f:FuncId} {fn:Func} {c:Code} {vs:List Value} {X:Value -> World -> Prop} {R:Ending -> World -> Prop} (hf:P.funcs[f]? = some fn) (hb:fn.body = some c) (hn:fn.ntmps = n) (hl:Nat.ble vs.length n = true)
    (h:∀ Z cs,RetOK P Z f cs X -> MX P Z (fb f .normal none) n [] cs [.code c] (args 0 vs) w) {w' : World} (hw:Agree [] w w') (hX:∀ v w1 w2,X v w1 -> Agree [] w1 w2 -> R (.returned v) w2):Calls P f vs.toArray w' R:=by
  intro cs
  obtain ⟨m', hs,e,w', fr,hR,hne,rfl,hfn,hlv⟩:=h (Ends P f cs R) cs (fun v w1 w2 fr hx hag hfr hl=>.now ⟨_,_,fr,hX v w1 w2 hx hag,by simp,rfl,hfr,hl⟩) _ w' (fr_args hl) hw
  refine ⟨e,w', fr,hR,?_,hfn,hlv⟩
  rw [enter_atR .normal hf hb,hn]
  cases e with
  | outgrown=>exact absurd rfl hne
  | returned v=>exact hs
  | panicked ch=>exact hs
theorem MX.start {f:FuncId} {fn:Func} {c:Code} {vs:List Value} {R:World -> Value -> Prop} (hf:P.funcs[f]? = some fn) (hb:fn.body = some c) (hn:fn.ntmps = n) (hl:Nat.ble vs.length n = true)
    (h:∀ Z cs,RetOK P Z f cs (fun v w1=>Agree [] w w1/\∀ w', Agree [] w1 w' -> R w' v) -> MX P Z (fb f .normal none) n [] cs [.code c] (args 0 vs) w):Calls P f vs.toArray w (Gives w R):=
  MX.start' hf hb hn hl h (Agree.refl _ _) fun v _w1 w2 hx hag=>⟨v,rfl,hx.2 w2 hag,hx.1.trans hag⟩
def ResV (P:Program) (σ:List (Nat × Value)) (w:World):ResultVar -> Value -> Prop
  | .tmp t,v=>look σ t = some v
  | .cell a t,v=>∃ p,look σ a = some (.pointer (some p))/\∀ w', Agree [] w w' -> (loadVar t p).run P w' = .ok v w'
def ResVs (P:Program) (σ:List (Nat × Value)) (w:World):List ResultVar -> List Value -> Prop
  | [],[]=>True
  | r :: rs,v :: vs=>ResV P σ w r v/\ResVs P σ w rs vs
  | _,_=>False
end
end Go.Proofs.YtgejkdheojkfiaaGreatDoor
