/- Laws of the walk: panics, deferred closures, recover. No program in sight. -/
import Derived.Test.YtgejkdheojkfiaaGreatDoorPMi
import Derived.Recover
namespace Go.Proofs.YtgejkdheojkfiaaGreatDoor
open Go Go.RowKit
def PanOK (P:Program) (Z:Machine -> Prop) (f:FuncId) (cs:List Frame) (Y:List PanicEntry -> World -> Prop):Prop:=∀ ch w1 w' fr,Y ch w1 -> Agree [] w1 w' -> fr.fn = f -> fr.leaving P w' (.panicked ch) -> Reach P Z (lone fr cs w')
section
variable {P:Program} {Z:Machine -> Prop} {b:Frame} {n:Nat} {ds:List Deferred} {cs:List Frame} {k:List Item} {σ τ:List (Nat × Value)} {w w0:World} {ops:Array Oper} {l:List Oper} {o:Oper} {d:Nat} {ty:TypeId} {ps:String} {af:Array Edge} {v:Value} {x y:Operand} {t:TypeId} {O O' : List Ob} {g:Option (Nat × Bool)} {ch:List PanicEntry} {κ:KP}
theorem PanOK.of_pn {f:FuncId} {a:Act} {todo:List Item} {Y:List PanicEntry -> World -> Prop} (ha:Fr n ds σ a) (h:∀ ch w1,Y ch w1 -> PN P Z b n ds cs ch σ w1):PanOK P Z f (b.atR a todo :: cs) Y:=fun ch w1 w' fr hy hw _ hl=>.step (step_leave_panicked hl) (by rw [Frame.raise_atR]; exact h ch w1 hy a w' todo ha hw)
theorem PN.leave {f:FuncId} {fn:Func} {kd:CallKind} {r:Option Nat} {Y:List PanicEntry -> World -> Prop} (hk:PanOK P Z f cs Y) (hf:P.funcs[f]? = some fn) (h:Y ch w):PN P Z (fb f kd r) n [] cs ch σ w:=by
  intro a w' todo ha hw
  exact hk ch w w' _ h hw rfl ⟨rfl,ha.defers,fn,hf⟩
theorem PN.take {D:Nat} (s:St w0 w O) (u:Upd O (.obj D (.deferred (some []))) (.obj D (.deferred none)) O') (h:∀ w1,St w0 w1 O' -> Tr w O w1 O' -> PN P Z b n ds cs ch σ w1):PN P Z b n ({ target:=.collected D,args:=#[] } :: ds) cs ch σ w:=by
  intro a w' todo ha hw
  have hr:=run_takeDeferred (P:=P) (blk_keep0 hw (s.get u))
  obtain ⟨h1,h2⟩:=upd_put s u hw
  refine .step (m1:=lone { b.atR { a with defers:=ds } todo with mode:=.panicking ch } cs (w'.putObj D (.deferred none))) (step_lone_go ?_) (h _ h1 h2 { a with defers:=ds } _ todo ⟨ha.size,rfl,ha.get⟩ (Agree.refl _ _))
  have hd:=ha.defers
  obtain ⟨T,dd⟩:=a
  simp only at hd
  subst hd
  simp [stepG,unwind,Sem.runT_eq,hr,Frame.atR]
/-! ### The panic -/
theorem step_panic {a:Act} {w1 w2:World} {i:Nat} {rest:List Nat} {u:Value} (ho:ops[i]? = some o) (hw:Region.wanted o (yielded ops a.tmps) = true) (hr:(o.semAt b.roundOf a.eval).run P w1 = .halt (.panic u) w2) :
    step P (lone (b.atR a (.inRegion ops (i :: rest) :: k)) cs w1) = .next (lone { b.atR a (.inRegion ops (i :: rest) :: k) with mode:=.panicking (pan u) } cs w2):=by
  refine step_lone_go ?_
  rw [stepGR_op ho hw,<- Frame.raise_atR]
  simp [stepG.apply,hr]
theorem RG.panic {dd:Option Tmp} {t:TypeId} {u:Value} (hg:Want ops σ g true) (hx:ev σ x = some (.iface t u)) (h:PN P Z b n ds cs (pan (.iface t u)) σ w):RG P Z b n ds cs ops (⟨dd,.panic x,ty,ps,af,g⟩ :: l) k σ w:=by
  intro i hi a w' ha hw
  obtain ⟨h1,h2⟩:=drop_cons hi
  rw [List.length_cons,List.range'_succ]
  refine .step (step_panic (op_get hi) (hg.eq ha) (u:=.iface t u) (w2:=w') ?_) (h a w' _ ha hw)
  rw [Oper.semAt_eq _ _ _ (by simp)]
  simp [execOp,ha.ev hx,Instr.panic,goPanic]
/-! ### Calls that may panic -/
theorem RG.enterP {f:FuncId} {fn:Func} {body:Code} {m:Nat} {c:Operand} {fst cap:List Value} {xs:List Operand} {vs:List Value} {ts:Array TypeId} (hg:Want ops σ g true) (hf:bodyB P f = true) (hfn:P.funcs[f]? = some fn) (hb:fn.body = some body) (hm:fn.ntmps = m) (hl:Nat.ble (fst ++ vs ++ cap).length m = true)
    (hcal:ev σ c = some (.func (.func f) fst.toArray cap.toArray)) (hv:evs σ xs vs) (hd:Nat.blt d n = true)
    (h:∀ cs', RetOK P Z f cs' (fun v w1=>RG P Z b n ds cs ops l k ((d,v) :: σ) w1) -> PanOK P Z f cs' (fun ch w1=>PN P Z b n ds cs ch σ w1) -> MX P Z (fb f .normal none) m [] cs' [.code body] (args 0 (fst ++ vs ++ cap)) w) :
    RG P Z b n ds cs ops (⟨some d,.call { callee:=.value c,args:=xs.toArray,argTypes:=ts },ty,ps,af,g⟩ :: l) k σ w:=by
  intro i hi a w' ha hw
  obtain ⟨h1,h2⟩:=drop_cons hi
  rw [List.length_cons,List.range'_succ]
  have he:=run_call (P:=P) (ty:=ty) (ps:=ps) (af:=af) (g:=g) (dd:=some d) (ts:=ts) hf (ρ:=a.eval) (ha.ev hcal) (vs:=vs.toArray) (xs:=xs.toArray) (by rw [List.map_toArray,evs_map (fun x u hx=>ha.ev hx) hv]) w'
  refine .step (step_enter (op_get hi) (hg.eq ha) (by rw [semAt_call]; exact he)) ?_
  simp only [List.append_toArray]
  rw [enter_atR .normal hfn hb,hm]
  refine h _ (.of_back fun u w1 w2 hx hag=>?_) (.of_pn ha fun ch w1 hy=>hy) _ _ (fr_args hl) hw
  rw [Frame.finish_atR,op_get hi]
  exact hx (i + 1) h2 _ _ (ha.put d u hd) hag
structure RecF (r:Loop) (n:Nat) (σ:List (Nat × Value)) (ps:List Tmp) (assign body:Code) (fd:FuncId):Prop where
  rc:Rec r n σ ps assign body
  fn:r.fn = fd
theorem RG.yieldP {c:Operand} {lk nL:Nat} {r:Loop} {fd:FuncId} {σL:List (Nat × Value)} {pt:List Tmp} {assign body:Code} {xs:List Operand} {vs:List Value} {ts:Array TypeId} (hg:Want ops σ g true) (hcal:ev σ c = some (.func (.yield lk) #[] #[])) (hv:evs σ xs vs) (s:St w0 w O) (u:At O (.obj lk (lpO r .ready none))) (rc:RecF r nL σL pt assign body fd)
    (hlen:Nat.beq vs.length pt.length = true) (hp:pt.all (fun p=>Nat.blt p nL) = true) (hd:Nat.blt d n = true)
    (h:∀ fr,Back P Z fr cs (fun v w1=>RG P Z b n ds cs ops l k ((d,v) :: σ) w1) -> PanOK P Z fd (fr :: cs) (fun ch w1=>PN P Z b n ds cs ch σ w1) -> MX P Z (fb fd .normal (some lk)) nL [] (fr :: cs) [.code assign,.beginRound,.code body] (puts pt vs σL) w) :
    RG P Z b n ds cs ops (⟨some d,.call { callee:=.value c,args:=xs.toArray,argTypes:=ts },ty,ps,af,g⟩ :: l) k σ w:=by
  obtain ⟨rc,e9⟩:=rc; subst e9
  intro i hi a w' ha hw
  obtain ⟨h1,h2⟩:=drop_cons hi
  have hlen:vs.length = pt.length:=Nat.eq_of_beq_eq_true hlen
  rw [List.length_cons,List.range'_succ]
  have hy:=run_yield (P:=P) (args:=vs.toArray) (r:={ r with state:=.ready,pending:=none }) (blk_keep0 hw (s.get u.upd)) (by simp [rc.params,hlen])
  have he:(execOp a.eval ⟨some d,.call { callee:=.value c,args:=xs.toArray,argTypes:=ts },ty,ps,af,g⟩).run P w' = .ok (.round lk r.fn ((pt.zip vs).foldl (fun t (p,v)=>t.setIfInBounds p v) r.tmps) assign body) w' :=by
    have hmap:xs.toArray.map a.eval = vs.toArray:=by rw [List.map_toArray,evs_map (fun x u hx=>ha.ev hx) hv]
    simp only [execOp,resolve,hmap,ha.ev hcal]
    simp [Deferred.ofValue,invoke,hy,rc.params,rc.assign,rc.body]
  refine .step (step_round (op_get hi) (hg.eq ha) (by rw [semAt_call]; exact he)) ?_
  have hround:Frame.round lk r.fn ((pt.zip vs).foldl (fun t (p,v)=>t.setIfInBounds p v) r.tmps) assign body .normal = (fb r.fn .normal (some lk)).atR { tmps:=(pt.zip vs).foldl (fun t (p,v)=>t.setIfInBounds p v) r.tmps,defers:=[] } [.code assign,.beginRound,.code body]:=by
    simp [Frame.round,Frame.atR,fb]
  rw [hround]
  refine h _ (fun u' w1 w2 hx hag=>?_) (.of_pn ha fun ch w1 hy=>hy) _ _ (fr_puts pt vs σL r.tmps ⟨rc.size,rfl,rc.get⟩ hp) hw
  rw [Frame.finish_atR,op_get hi]
  exact hx (i + 1) h2 _ _ (ha.put d u' hd) hag
theorem MX.rangeP {gop:Operand} {pt:List Tmp} {assign body:Code} {gf:FuncId} {fn:Func} {c:Code} {m:Nat} {lb:List Value} (hro:b.roundOf = none) (s:St w0 w O) (hgv:ev σ gop = some (.func (.func gf) #[] lb.toArray)) (hbody:bodyB P gf = true) (hfn:P.funcs[gf]? = some fn) (hb:fn.body = some c) (hm:fn.ntmps = m)
    (hl:Nat.ble (lb.length + 1) m = true)
    (h:∀ w1 lk D r cs', St w0 w1 (.obj lk (lpO r .ready none) :: .obj D (.deferred (some [])) :: O) -> Tr w O w1 (.obj lk (lpO r .ready none) :: .obj D (.deferred (some [])) :: O) -> RecF r n σ pt assign body b.fn ->
      RetOK P Z gf cs' (fun _ w2=>MX P Z b n ({ target:=.collected D,args:=#[] } :: ds) cs (.endRangeFunc lk :: k) σ w2) -> PanOK P Z gf cs' (fun ch w2=>PN P Z b n ({ target:=.collected D,args:=#[] } :: ds) cs ch σ w2) -> MX P Z (fb gf .normal none) m [] cs' [.code c] (args 0 (.func (.yield lk) #[] #[] :: lb)) w1) :
    MX P Z b n ds cs (.code (.rangeFunc gop pt.toArray assign body) :: k) σ w:=by
  intro a w' ha hw
  have he:=run_enterLoop_outer (P:=P) (w:=w') b.fn a.tmps pt.toArray assign body
  rw [<- hro] at he
  have hst:=stepR_rangeFunc (P:=P) (b:=b) (a:=a) (k:=k) (cs:=cs) (g:=gop) (d:={ target:=.fn (.func gf) lb.toArray,args:=#[.func (.yield (w'.heap.size + 1)) #[] #[]] }) (f:=gf) (args:=#[.func (.yield (w'.heap.size + 1)) #[] #[]] ++ lb.toArray) he (by simp only [resolve,ha.ev hgv]; simp [Deferred.ofValue]; exact ⟨rfl,rfl⟩) (by simp [invoke,run_callBody hbody]; rfl)
  refine .step hst ?_
  rw [show (#[.func (.yield (w'.heap.size + 1)) #[] #[]] ++ lb.toArray:Array Value) = (Value.func (.yield (w'.heap.size + 1)) #[] #[] :: lb).toArray by simp,enter_atR .normal hfn hb,hm]
  generalize hr:({ state:=.ready,pending:=none,fn:=b.fn,tmps:=a.tmps,params:=pt.toArray,assign:=assign,body:=body,defers:=w'.heap.size }:Loop) = r
  have hrr:lpO r .ready none = .loop r:=by rw [<- hr]; rfl
  have hag1:Agree [] w' (w'.alloc (.deferred (some []))):=agree_new _ _ _
  have hag2:Agree [] (w'.alloc (.deferred (some []))) ((w'.alloc (.deferred (some []))).alloc (.loop r)):=agree_new _ _ _
  have hb1:∀ b', (Ob.obj w'.heap.size (.deferred (some []))).block = some b' -> w.heap.size <= b' :=fun b' e=>by cases e; exact hw.size
  have s1:=s.push (o:=.obj w'.heap.size (.deferred (some []))) (hw.trans hag1) (heap_alloc_new w' _) hb1
  have hb2:∀ b', (Ob.obj (w'.heap.size + 1) (lpO r .ready none)).block = some b' -> (w'.alloc (.deferred (some []))).heap.size <= b' :=fun b' e=>by cases e; simp
  have hn2:((w'.alloc (.deferred (some []))).alloc (.loop r)).heap[w'.heap.size + 1]? = some (.loop r):=by have:=heap_alloc_new (w'.alloc (.deferred (some []))) (.loop r); rwa [World.size_alloc] at this
  have s2:=s1.push (o:=.obj (w'.heap.size + 1) (lpO r .ready none)) hag2 (by rw [hrr]; exact hn2) hb2
  refine h _ _ _ r _ s2 ((Tr.push (hw.trans hag1) hb1).trans (Tr.push hag2 hb2)) ⟨⟨by rw [<- hr]; exact ha.size,by rw [<- hr]; exact ha.get,by rw [<- hr],by rw [<- hr],by rw [<- hr]⟩,by rw [<- hr]⟩ ?_ ?_ _ _ (fr_args (by simpa using hl)) (Agree.refl _ _)
  · refine .of_back fun u w2 w3 hx hag3=>?_
    rw [finish_atR_inRangeFunc]
    refine hx _ _ ⟨ha.size,?_,ha.get⟩ hag3
    rw [<- ha.defers]; rfl
  · refine fun ch w2 w3 fr hy hag3 _ hl=>.step (step_leave_panicked hl) ?_
    have:=hy { a with defers:={ target:=.collected w'.heap.size,args:=#[] } :: a.defers } w3 (.inRangeFunc (w'.heap.size + 1) :: k) ⟨ha.size,by rw [<- ha.defers],ha.get⟩ hag3
    exact this
/-! ### Contracts of what may panic -/
@[reducible] def OkOf {α ε:Type} (R:α -> World -> Value -> Prop):Except ε α -> World -> Value -> Prop
  | .ok y=>R y
  | .error _=>fun _ _=>False
@[reducible] def ErOf {α ε:Type} (E:ε -> Value):Except ε α -> List PanicEntry -> Prop
  | .ok _=>fun _=>False
  | .error e=>fun ch=>ch = pan (E e)
def PGives {α ε:Type} (w:World) (R:α -> World -> Value -> Prop) (E:ε -> Value) (r:Except ε α):Ending -> World -> Prop:=fun e w' =>Agree [] w w' /\match e with
  | .returned v=>OkOf R r w' v
  | .panicked ch=>ErOf E r ch
  | .outgrown=>False
theorem okOf_in {α ε:Type} {R:α -> World -> Value -> Prop} {y:α} {w' : World} {u:Value} (h:R y w' u):OkOf (ε:=ε) R (.ok y) w' u:=h
def exc {ε α β:Type} (y:Except ε α) (f:α -> Option β) (g:ε -> Option β):Option β:=match y with
  | .ok y=>f y
  | .error e=>g e
theorem MX.startP {f:FuncId} {fn:Func} {c:Code} {vs:List Value} {α ε:Type} {R:α -> World -> Value -> Prop} {E:ε -> Value} {r:Except ε α} (hf:P.funcs[f]? = some fn) (hb:fn.body = some c) (hn:fn.ntmps = n) (hl:Nat.ble vs.length n = true)
    (h:∀ Z cs,RetOK P Z f cs (fun v w1=>Agree [] w w1/\∀ w', Agree [] w1 w' -> OkOf R r w' v) -> PanOK P Z f cs (fun ch w1=>Agree [] w w1/\ErOf E r ch) -> MX P Z (fb f .normal none) n [] cs [.code c] (args 0 vs) w):Calls P f vs.toArray w (PGives w R E r):=by
  intro cs
  obtain ⟨m', hs,e,w', fr,hR,hne,rfl,hfn,hlv⟩:=h (Ends P f cs (PGives w R E r)) cs
    (fun v w1 w2 fr hx hag hfr hl=>.now ⟨.returned v,_,fr,⟨hx.1.trans hag,hx.2 w2 hag⟩,by simp,rfl,hfr,hl⟩)
    (fun ch w1 w2 fr hx hag hfr hl=>.now ⟨.panicked ch,_,fr,⟨hx.1.trans hag,hx.2⟩,by simp,rfl,hfr,hl⟩) _ w (fr_args hl) (Agree.refl _ _)
  refine ⟨e,w', fr,hR,?_,hfn,hlv⟩
  rw [enter_atR .normal hf hb,hn]
  cases e with
  | outgrown=>exact absurd rfl hne
  | returned v=>exact hs
  | panicked ch=>exact hs
theorem Calls.okp {f:FuncId} {vs:Array Value} {w:World} {α ε:Type} {R:α -> World -> Value -> Prop} {E:ε -> Value} {y:α} (h:Calls P f vs w (PGives w R E (.ok y))):Calls P f vs w (Gives w (R y)):=h.mono fun e w' ⟨h1,h2⟩=>by
  cases e with
  | returned v=>exact ⟨v,rfl,h2,h1⟩
  | panicked ch=>exact h2.elim
  | outgrown=>exact h2.elim
theorem RG.callE {f:FuncId} {c:Operand} {fst cap:List Value} {xs:List Operand} {vs:List Value} {ts:Array TypeId} {α ε:Type} {R:α -> World -> Value -> Prop} {E:ε -> Value} {e:ε} {dd:Option Tmp} (hg:Want ops σ g true) (hf:bodyB P f = true) (hcal:ev σ c = some (.func (.func f) fst.toArray cap.toArray)) (hv:evs σ xs vs)
    (hc:∀ w', Agree [] w w' -> Calls P f (fst ++ vs ++ cap).toArray w' (PGives w' R E (.error e))) (h:∀ w1,Agree [] w w1 -> PN P Z b n ds cs (pan (E e)) σ w1) :
    RG P Z b n ds cs ops (⟨dd,.call { callee:=.value c,args:=xs.toArray,argTypes:=ts },ty,ps,af,g⟩ :: l) k σ w:=by
  intro i hi a w' ha hw
  obtain ⟨h1,h2⟩:=drop_cons hi
  rw [List.length_cons,List.range'_succ]
  have he:=run_call (P:=P) (ty:=ty) (ps:=ps) (af:=af) (g:=g) (dd:=dd) (ts:=ts) hf (ρ:=a.eval) (ha.ev hcal) (vs:=vs.toArray) (xs:=xs.toArray) (by rw [List.map_toArray,evs_map (fun x u hx=>ha.ev hx) hv]) w'
  refine .step (step_enter (op_get hi) (hg.eq ha) (by rw [semAt_call]; exact he)) ?_
  have hc' :=hc w' hw
  simp only [List.append_toArray]
  obtain ⟨en,w1,fr,⟨hag,hE⟩,hs,_,hl⟩:=hc' (b.atR a (.inRegion ops (i :: List.range' (i + 1) l.length) :: k) :: cs)
  cases en with
  | returned v=>exact hE.elim
  | outgrown=>exact hE.elim
  | panicked ch=>
    have hE:ch = pan (E e):=hE
    subst hE
    refine .steps hs (.step (step_leave_panicked hl) ?_)
    rw [Frame.raise_atR]
    exact h w1 (hw.trans hag) a w1 _ ha (Agree.refl _ _)
/-! ### Panics out of a drawn region -/
section
variable {tt f m m' i:Nat}
theorem MX.start2 {ff:FuncId} {fn:Func} {c:Code} {vs:List Value} {nn:Nat} {X:Value -> World -> Prop} {Y:List PanicEntry -> World -> Prop} {R:Ending -> World -> Prop} (hf:P.funcs[ff]? = some fn) (hb:fn.body = some c) (hn:fn.ntmps = nn) (hl:Nat.ble vs.length nn = true)
    (h:∀ Z cs,RetOK P Z ff cs X -> PanOK P Z ff cs Y -> MX P Z (fb ff .normal none) nn [] cs [.code c] (args 0 vs) w) {w' : World} (hw:Agree [] w w') (hX:∀ v w1 w2,X v w1 -> Agree [] w1 w2 -> R (.returned v) w2) (hY:∀ ch w1 w2,Y ch w1 -> Agree [] w1 w2 -> R (.panicked ch) w2):Calls P ff vs.toArray w' R:=by
  intro cs
  obtain ⟨m', hs,e,w2,fr,hR,hne,rfl,hfn,hlv⟩:=h (Ends P ff cs R) cs
    (fun v w1 w2 fr hx hag hfr hl=>.now ⟨.returned v,_,fr,hX v w1 w2 hx hag,by simp,rfl,hfr,hl⟩)
    (fun ch w1 w2 fr hx hag hfr hl=>.now ⟨.panicked ch,_,fr,hY ch w1 w2 hx hag,by simp,rfl,hfr,hl⟩) _ w' (fr_args hl) hw
  refine ⟨e,w2,fr,hR,?_,hfn,hlv⟩
  rw [enter_atR .normal hf hb,hn]
  cases e with
  | outgrown=>exact absurd rfl hne
  | returned v=>exact hs
  | panicked ch=>exact hs
theorem PN.agree {w1:World} (h:PN P Z b n ds cs ch σ w) (hw:Agree [] w w1):PN P Z b n ds cs ch σ w1:=fun a w' todo ha hag=>h a w' todo ha (hw.trans hag)
theorem RO.enterPT {fn:FuncId} {fun_:Func} {body:Code} {nn:Nat} {c:Operand} {fst cap:List Value} {xs:List Operand} {vs:List Value} {ts:Array TypeId} (hst:stepB ops.size m i m' = true) (hi:ops[i]? = some ⟨some d,.call { callee:=.value c,args:=xs.toArray,argTypes:=ts },ty,ps,af,g⟩) (htl:tail tt i = true) (hg:Want ops σ g true)
    (hf:bodyB P fn = true) (hfn:P.funcs[fn]? = some fun_) (hb:fun_.body = some body) (hn:fun_.ntmps = nn) (hl:Nat.ble (fst ++ vs ++ cap).length nn = true) (hcal:ev σ c = some (.func (.func fn) fst.toArray cap.toArray)) (hv:evs σ xs vs) (hd:Nat.blt d n = true)
    (h:∀ Z' cs', RetOK P Z' fn cs' (fun v w1=>RD κ P Z b n ds cs ops tt f m' k ((d,v) :: σ) w1) -> PanOK P Z' fn cs' (fun ch w1=>PN P Z b n ds cs ch [] w1) -> MX P Z' (fb fn .normal none) nn [] cs' [.code body] (args 0 (fst ++ vs ++ cap)) w):RO κ P Z b n ds cs ops tt f m k σ w i:=by
  intro a w' ha hw
  unfold OpI
  rw [hi]
  simp only
  rw [if_pos (hg.eq ha)]
  have he:=run_call (P:=P) (ty:=ty) (ps:=ps) (af:=af) (g:=g) (dd:=some d) (ts:=ts) hf (ρ:=a.eval) (ha.ev hcal) (vs:=vs.toArray) (xs:=xs.toArray) (by rw [List.map_toArray,evs_map (fun x u hx=>ha.ev hx) hv]) w'
  unfold OpW
  rw [he,stepB_eq hst]
  simp only [List.append_toArray]
  exact MX.start2 hfn hb hn hl (fun Z' cs' hr hp=>h Z' cs' hr hp) hw (fun v w1 w2 hx hag=>.inl ⟨v,rfl,⟨fun h9=>(by rw [htl] at h9; cases h9),fun hn=>Kp.agree hag (hx.1 hn),hx.2 _ _ (ha.put d v hd) hag⟩⟩) (fun ch w1 w2 hy hag=>.inr ⟨ch,rfl,hy.agree hag⟩)
theorem RO.callE {fn:FuncId} {c:Operand} {fst cap:List Value} {xs:List Operand} {vs:List Value} {ts:Array TypeId} {α ε:Type} {R:α -> World -> Value -> Prop} {E:ε -> Value} {e:ε} {dd:Option Tmp} (hi:ops[i]? = some ⟨dd,.call { callee:=.value c,args:=xs.toArray,argTypes:=ts },ty,ps,af,g⟩) (hg:Want ops σ g true)
    (hf:bodyB P fn = true) (hcal:ev σ c = some (.func (.func fn) fst.toArray cap.toArray)) (hv:evs σ xs vs) (hc:∀ w', Agree [] w w' -> Calls P fn (fst ++ vs ++ cap).toArray w' (PGives w' R E (.error e))) (h:∀ w1,Agree [] w w1 -> PN P Z b n ds cs (pan (E e)) [] w1):RO κ P Z b n ds cs ops tt f m k σ w i:=by
  intro a w' ha hw
  unfold OpI
  rw [hi]
  simp only
  rw [if_pos (hg.eq ha)]
  have he:=run_call (P:=P) (ty:=ty) (ps:=ps) (af:=af) (g:=g) (dd:=dd) (ts:=ts) hf (ρ:=a.eval) (ha.ev hcal) (vs:=vs.toArray) (xs:=xs.toArray) (by rw [List.map_toArray,evs_map (fun x u hx=>ha.ev hx) hv]) w'
  unfold OpW
  rw [he]
  simp only [List.append_toArray]
  refine (hc w' hw).mono fun en w1 ⟨hag,hE⟩=>?_
  cases en with
  | returned v=>exact hE.elim
  | outgrown=>exact hE.elim
  | panicked ch=>
    have hE:ch = pan (E e):=hE
    subst hE
    exact .inr ⟨_,rfl,h w1 (hw.trans hag)⟩
end
/-! ### Deferred closures -/
theorem RG.defer {f:FuncId} {c:Operand} {fst cap:List Value} {xs:List Operand} {vs:List Value} {ts:Array TypeId} (hro:b.roundOf = none) (hg:Want ops σ g true) (hcal:ev σ c = some (.func (.func f) fst.toArray cap.toArray)) (hv:evs σ xs vs)
    (h:RG P Z b n ({ target:=.fn (.func f) cap.toArray,args:=(fst ++ vs).toArray } :: ds) cs ops l k σ w):RG P Z b n ds cs ops (⟨none,.defer { callee:=.value c,args:=xs.toArray,argTypes:=ts },ty,ps,af,g⟩ :: l) k σ w:=by
  intro i hi a w' ha hw
  obtain ⟨h1,h2⟩:=drop_cons hi
  rw [List.length_cons,List.range'_succ]
  have hmap:xs.toArray.map a.eval = vs.toArray:=by rw [List.map_toArray,evs_map (fun x u hx=>ha.ev hx) hv]
  have hr:((⟨none,.defer { callee:=.value c,args:=xs.toArray,argTypes:=ts },ty,ps,af,g⟩:Oper).semAt b.roundOf a.eval).run P w' = .ok (.defer { target:=.fn (.func f) cap.toArray,args:=(fst ++ vs).toArray }) w' :=by
    rw [hro,Oper.semAt_none]
    simp only [execOp,resolve,hmap,ha.ev hcal]
    simp [Deferred.ofValue]
  refine .step (m1:=lone (b.atR { a with defers:={ target:=.fn (.func f) cap.toArray,args:=(fst ++ vs).toArray } :: a.defers } (.inRegion ops (List.range' (i + 1) l.length) :: k)) cs w') (step_lone_go ?_) (h (i + 1) h2 _ w' ⟨ha.size,by rw [<- ha.defers],ha.get⟩ hw)
  rw [stepGR_op (op_get hi) (hg.eq ha)]
  have hfin:({ b.atR a (.inRegion ops (i :: List.range' (i + 1) l.length) :: k) with defers:=({ target:=.fn (.func f) cap.toArray,args:=(fst ++ vs).toArray }:Deferred) :: a.defers }:Frame).finish undef = b.atR { a with defers:={ target:=.fn (.func f) cap.toArray,args:=(fst ++ vs).toArray } :: a.defers } (.inRegion ops (List.range' (i + 1) l.length) :: k):=by
    have:=Frame.finish_atR b { a with defers:={ target:=.fn (.func f) cap.toArray,args:=(fst ++ vs).toArray } :: a.defers } ops i (List.range' (i + 1) l.length) k undef
    rw [op_get hi] at this
    exact this
  simp only [stepG.apply,Sem.runT_eq,hr,GStep.bare_after]
  exact congrArg (fun fr=>GStep.go { frame:=fr,callers:=cs,status:=.running,dying:=none } w') hfin
theorem run_invokeFn {f:FuncId} (hf:bodyB P f = true) (cap vs:List Value) (w:World):(invoke (.fn (.func f) cap.toArray) vs.toArray).run P w = .ok (.enter f (vs ++ cap).toArray) w:=by
  simp [invoke,run_callBody hf]
theorem RT.callD {f:FuncId} {fn:Func} {body:Code} {m:Nat} {cap vs:List Value} (hf:bodyB P f = true) (hfn:P.funcs[f]? = some fn) (hb:fn.body = some body) (hm:fn.ntmps = m) (hl:Nat.ble (vs ++ cap).length m = true)
    (h:∀ c:Frame,c.mode = .returning -> (∀ w1 w', RT P Z b n ds cs σ w1 -> Agree [] w1 w' -> Reach P Z (lone c cs w')) -> MX P Z (fb f .deferred none) m [] (c :: cs) [.code body] (args 0 (vs ++ cap)) w) :
    RT P Z b n ({ target:=.fn (.func f) cap.toArray,args:=vs.toArray } :: ds) cs σ w:=by
  intro a w' todo ha hw
  refine .step (step_defer (fr:={ b.atR a todo with mode:=.returning }) (by simp) ha.defers rfl (run_invokeFn hf cap vs w')) ?_
  rw [enter_atR .deferred hfn hb,hm]
  exact h { b.atR { a with defers:=ds } todo with mode:=.returning } rfl (fun w1 w2 hr hag=>hr { a with defers:=ds } w2 todo ⟨ha.size,rfl,ha.get⟩ hag) _ w' (fr_args hl) hw
theorem PN.callD {f:FuncId} {fn:Func} {body:Code} {m:Nat} {cap vs:List Value} (hf:bodyB P f = true) (hfn:P.funcs[f]? = some fn) (hb:fn.body = some body) (hm:fn.ntmps = m) (hl:Nat.ble (vs ++ cap).length m = true)
    (h:∀ c:Frame,c.mode = .panicking ch -> (∀ w1 w', RT P Z b n ds cs σ w1 -> Agree [] w1 w' -> Reach P Z (lone { c with mode:=.returning } cs w')) -> MX P Z (fb f .deferred none) m [] (c :: cs) [.code body] (args 0 (vs ++ cap)) w) :
    PN P Z b n ({ target:=.fn (.func f) cap.toArray,args:=vs.toArray } :: ds) cs ch σ w:=by
  intro a w' todo ha hw
  refine .step (step_defer (fr:={ b.atR a todo with mode:=.panicking ch }) (by simp) ha.defers rfl (run_invokeFn hf cap vs w')) ?_
  rw [enter_atR .deferred hfn hb,hm]
  exact h { b.atR { a with defers:=ds } todo with mode:=.panicking ch } rfl (fun w1 w2 hr hag=>hr { a with defers:=ds } w2 todo ⟨ha.size,rfl,ha.get⟩ hag) _ w' (fr_args hl) hw
theorem step_recover {f:FuncId} {c:Frame} {a:Act} {w1:World} {i:Nat} {rest:List Nat} {u:Value} {cs' : List Frame} (ho:ops[i]? = some o) (hw:Region.wanted o (yielded ops a.tmps) = true) (hr:(o.semAt none a.eval).run P w1 = .ok .recover w1)
    (hu:recoverD (c :: cs) = some (u,cs') ∨ recoverD (c :: cs) = none/\u = .nilIface/\cs' = c :: cs) :
    step P (lone ((fb f .deferred none).atR a (.inRegion ops (i :: rest) :: k)) (c :: cs) w1) = .next (lone ((fb f .deferred none).atR (a.put o.dst u) (.inRegion ops rest :: k)) cs' w1):=by
  have hfin:((fb f .deferred none).atR a (.inRegion ops (i :: rest) :: k)).finish u = (fb f .deferred none).atR (a.put o.dst u) (.inRegion ops rest :: k):=by rw [Frame.finish_atR,ho]; rfl
  have htr:=tryRecover_deferred (fr:=(fb f .deferred none).atR a (.inRegion ops (i :: rest) :: k)) rfl (c :: cs)
  refine step_lone_go ?_
  rw [stepGR_op ho hw,<- hfin]
  have hr' : (o.semAt (fb f .deferred none).roundOf a.eval).run P w1 = .ok .recover w1:=hr
  have hro:((fb f .deferred none).atR a (.inRegion ops (i :: rest) :: k)).roundOf = none:=rfl
  rcases hu with hu | ⟨hu,rfl,rfl⟩
  · simp [stepG.apply,hr', hro,htr,hu]
  · simp [stepG.apply,hr', hro,htr,hu]
theorem run_recover {ts:Array TypeId} {dd:Option Tmp} (ρ:Operand -> Value) (w:World):((⟨dd,.call { callee:=.builtin .recover,args:=#[],argTypes:=ts },ty,ps,af,g⟩:Oper).semAt none ρ).run P w = .ok .recover w:=by
  rw [Oper.semAt_none]; simp [execOp,resolve,invoke,builtin]
theorem RG.recover0 {f:FuncId} {c:Frame} {ts:Array TypeId} (hg:Want ops σ g true) (hc:c.mode = .returning) (hd:Nat.blt d n = true) (h:RG P Z (fb f .deferred none) n ds (c :: cs) ops l k ((d,.nilIface) :: σ) w) :
    RG P Z (fb f .deferred none) n ds (c :: cs) ops (⟨some d,.call { callee:=.builtin .recover,args:=#[],argTypes:=ts },ty,ps,af,g⟩ :: l) k σ w:=by
  intro i hi a w' ha hw
  obtain ⟨h1,h2⟩:=drop_cons hi
  rw [List.length_cons,List.range'_succ]
  exact .step (step_recover (op_get hi) (hg.eq ha) (run_recover _ _) (.inr ⟨by simp [recoverD,hc],rfl,rfl⟩)) (h (i + 1) h2 _ _ (ha.put d _ hd) hw)
theorem RG.recover1 {f:FuncId} {c:Frame} {ts:Array TypeId} {u:Value} (hg:Want ops σ g true) (hc:c.mode = .panicking (pan u)) (hd:Nat.blt d n = true) (h:RG P Z (fb f .deferred none) n ds ({ c with mode:=.panicking [{ v:=u,recovered:=true }] } :: cs) ops l k ((d,u) :: σ) w) :
    RG P Z (fb f .deferred none) n ds (c :: cs) ops (⟨some d,.call { callee:=.builtin .recover,args:=#[],argTypes:=ts },ty,ps,af,g⟩ :: l) k σ w:=by
  intro i hi a w' ha hw
  obtain ⟨h1,h2⟩:=drop_cons hi
  rw [List.length_cons,List.range'_succ]
  exact .step (step_recover (op_get hi) (hg.eq ha) (run_recover _ _) (.inl (by simp [recoverD,hc,pan]))) (h (i + 1) h2 _ _ (ha.put d _ hd) hw)
theorem RT.leaveD {f:FuncId} {fn:Func} {c:Frame} {rs:List ResultVar} {vs:List Value} (hf:P.funcs[f]? = some fn) (hr:fn.results = rs.toArray) (hv:ResVs P σ w rs vs) (h:∀ w', Agree [] w w' -> Reach P Z (lone { c with mode:=settle c.mode } cs w')):RT P Z (fb f .deferred none) n [] (c :: cs) σ w:=by
  intro a w' todo ha hw
  exact .step (step_going_returned rfl ⟨rfl,ha.defers,fn,hf,run_results hr hv ha hw⟩) (h w' hw)
theorem RT.leaveD0 {f:FuncId} {fn:Func} {c:Frame} {rs:List ResultVar} {vs:List Value} {R:World -> Prop} (hc:c.mode = .returning) (hk:∀ w1 w', R w1 -> Agree [] w1 w' -> Reach P Z (lone c cs w')) (hf:P.funcs[f]? = some fn) (hr:fn.results = rs.toArray) (hv:ResVs P σ w rs vs) (h:R w):RT P Z (fb f .deferred none) n [] (c :: cs) σ w:=
  RT.leaveD hf hr hv fun w' hw=>by
    have:({ c with mode:=settle c.mode }:Frame) = c:=by rw [hc]; obtain ⟨_,_,_,_,m,_,_⟩:=c; simp only at hc; subst hc; rfl
    rw [this]; exact hk w w' h hw
theorem RT.leaveD1 {f:FuncId} {fn:Func} {c:Frame} {u:Value} {rs:List ResultVar} {vs:List Value} {R:World -> Prop} (hk:∀ w1 w', R w1 -> Agree [] w1 w' -> Reach P Z (lone { c with mode:=.returning } cs w')) (hf:P.funcs[f]? = some fn) (hr:fn.results = rs.toArray) (hv:ResVs P σ w rs vs) (h:R w):RT P Z (fb f .deferred none) n [] ({ c with mode:=.panicking [{ v:=u,recovered:=true }] } :: cs) σ w:=
  RT.leaveD hf hr hv fun w' hw=>hk w w' h hw
/-! ### Interfaces -/
theorem FV.assertT {xt at_:TypeId} {u:Value} {dd:Option Tmp} (ht:concreteB P at_ = true) (hx:ev σ x = some (.iface at_ u)):FV P ⟨dd,.typeAssert x xt at_ true,ty,ps,af,g⟩ σ w (.tuple #[u,.bool true]):=fun ρ ha w' _=>by
  unfold concreteB at ht
  split at ht
  · cases ht
  · rename_i k hk hu
    simp only [execOp,ha _ _ hx,Instr.typeAssert,Sem.run_bind,run_underlying hu]
    cases k <;> simp_all
  · cases ht
theorem run_eqI {ms:Array (String × TypeId)} {t1:TypeId} {u:Value} (ht:P.underlying t = some (.interface ms)) (w' : World):(Op.equal t (.iface t1 u) .nilIface).run P w' = .ok false w' :=by
  unfold Op.equal
  rw [show Op.maxDepth = 9999 + 1 from rfl,Op.equalIn,Sem.run_bind,run_underlying ht w']
  rfl
theorem run_eqI0 {ms:Array (String × TypeId)} (ht:P.underlying t = some (.interface ms)) (w' : World):(Op.equal t .nilIface .nilIface).run P w' = .ok true w' :=by
  unfold Op.equal
  rw [show Op.maxDepth = 9999 + 1 from rfl,Op.equalIn,Sem.run_bind,run_underlying ht w']
  rfl
theorem FV.neqI {t' : TypeId} {u:Value} {dd:Option Tmp} {ms:Array (String × TypeId)} {t1:TypeId} (ht:P.underlying t = some (.interface ms)) (hx:ev σ x = some (.iface t1 u)) (hy:ev σ y = some .nilIface):FV P ⟨dd,.binOp .neq t x y t', ty,ps,af,g⟩ σ w (.bool true):=fun ρ ha w' _=>by
  have h:=run_eqI (t1:=t1) (u:=u) ht w'
  simp only [execOp,ha _ _ hx,ha _ _ hy,Sem.run_bind,eqGuard,binOp]
  simp
  exact (congrArg (fun z=>Result.andThen (Result.andThen z _) _) h).trans rfl
theorem FV.neqI0 {t' : TypeId} {dd:Option Tmp} {ms:Array (String × TypeId)} {c:Value} (ht:P.underlying t = some (.interface ms)) (hx:ev σ x = some .nilIface) (hc:c = .nilIface):FV P ⟨dd,.binOp .neq t x (.const c) t', ty,ps,af,g⟩ σ w (.bool false):=fun ρ ha w' _=>by
  subst hc
  have hy:ρ (.const .nilIface) = .nilIface:=ha _ _ rfl
  have h:=run_eqI0 ht w'
  simp only [execOp,ha _ _ hx,hy,Sem.run_bind,eqGuard,binOp]
  simp
  exact (congrArg (fun z=>Result.andThen (Result.andThen z _) _) h).trans rfl
end
end Go.Proofs.YtgejkdheojkfiaaGreatDoor
