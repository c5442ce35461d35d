/- Laws of the walk: panics, deferred closures, recover. No program in sight. -/
import Derived.Test.YtkhpmhhnolpcnaaGreatDoorVMi
import Derived.Recover
import Derived.Laws.BytesString
import Derived.Laws.CopyRow
import Derived.Maps.RangeRun
namespace Go.Proofs.YtkhpmhhnolpcnaaGreatDoor
open Go Go.RowKit
def PanOK (P:Program) (Z:Machine -> Prop) (f:FuncId) (cs:List Frame) (Y:List PanicEntry -> World -> Prop):Prop:=∀ ch w1 w' fr,Y ch w1 -> Agree [] w1 w' -> fr.fn = f -> fr.leaving P w' (.panicked ch) -> Reach P Z (lone fr cs w')
section
variable {P:Program} {Z:Machine -> Prop} {b:Frame} {n:Nat} {ds:List Deferred} {cs:List Frame} {k:List Item} {σ τ:List (Nat × Value)} {w w0:World} {ops:Array Oper} {l:List Oper} {o:Oper} {d:Nat} {ty:TypeId} {ps:String} {af:Array Edge} {v:Value} {x y:Operand} {t:TypeId} {O O' : List Ob} {g:Option (Nat × Bool)} {ch:List PanicEntry} {κ:KP}
theorem PanOK.of_pn {f:FuncId} {a:Act} {todo:List Item} {Y:List PanicEntry -> World -> Prop} (ha:Fr n ds σ a) (h:∀ ch w1,Y ch w1 -> PN P Z b n ds cs ch σ w1):PanOK P Z f (b.atR a todo :: cs) Y:=fun ch w1 w' fr hy hw _ hl=>.step (step_leave_panicked hl) (by rw [Frame.raise_atR]; exact h ch w1 hy a w' todo ha hw)
theorem PN.leave {f:FuncId} {fn:Func} {kd:CallKind} {r:Option Nat} {Y:List PanicEntry -> World -> Prop} (hk:PanOK P Z f cs Y) (hf:P.funcs[f]? = some fn) (h:Y ch w):PN P Z (fb f kd r) n [] cs ch σ w:=by
 intro a w' todo ha hw
 exact hk ch w w' _ h hw rfl ⟨rfl,ha.defers,fn,hf⟩
theorem PN.take {D:Nat} (s:St w0 w O) (u:Upd O (.obj D (.deferred (some []))) (.obj D (.deferred none)) O') (h:∀ w1,St w0 w1 O' -> Tr w O w1 O' -> PN P Z b n ds cs ch σ w1):PN P Z b n ({ target:=.collected D,args:=#[] } :: ds) cs ch σ w:=by
 intro a w' todo ha hw
 have hr:=run_takeDeferred (P:=P) (aK hw (s.get u))
 obtain ⟨h1,h2⟩:=cR s u hw
 refine .step (m1:=lone { b.atR { a with defers:=ds } todo with mode:=.panicking ch } cs (w'.putObj D (.deferred none))) (step_lone_go ?_) (h _ h1 h2 { a with defers:=ds } _ todo ⟨ha.size,rfl,ha.get⟩ (Agree.refl _ _))
 have hd:=ha.defers
 obtain ⟨T,dd⟩:=a
 simp only at hd
 subst hd
 simp [stepG,unwind,Sem.runT_eq,hr,Frame.atR]
/-! ### The panic -/
theorem jw {a:Act} {w1 w2:World} {i:Nat} {rest:List Nat} {u:Value} (ho:ops[i]? = some o) (hw:Region.wanted o (yielded ops a.tmps) = true) (hr:(o.semAt b.roundOf a.eval).run P w1 = .halt (.panic u) w2) :
  step P (lone (b.atR a (.inRegion ops (i :: rest) :: k)) cs w1) = .next (lone { b.atR a (.inRegion ops (i :: rest) :: k) with mode:=.panicking (pan u) } cs w2):=by
 refine step_lone_go ?_
 rw [stepGR_op ho hw,<- Frame.raise_atR]
 simp [stepG.apply,hr]
theorem RG.panic {dd:Option Tmp} {t:TypeId} {u:Value} (hg:Want ops σ g true) (hx:ev σ x = some (.iface t u)) (h:PN P Z b n ds cs (pan (.iface t u)) σ w):RG P Z b n ds cs ops (⟨dd,.panic x,ty,ps,af,g⟩ :: l) k σ w:=by
 intro i hi a w' ha hw
 obtain ⟨h1,h2⟩:=aL hi
 rw [List.length_cons,List.range'_succ]
 refine .step (jw (aW hi) (hg.eq ha) (u:=.iface t u) (w2:=w') ?_) (h a w' _ ha hw)
 rw [Oper.semAt_eq _ _ _ (by simp)]
 simp [execOp,ha.ev hx,Instr.panic,goPanic]
/-! ### Calls that may panic -/
theorem RG.enterP {f:FuncId} {fn:Func} {body:Code} {m:Nat} {c:Operand} {fst cap:List Value} {xs:List Operand} {vs:List Value} {ts:Array TypeId} (hg:Want ops σ g true) (hf:bh P f = true) (hfn:P.funcs[f]? = some fn) (hb:fn.body = some body) (hm:fn.ntmps = m) (hl:Nat.ble (fst ++ vs ++ cap).length m = true)
  (hcal:ev σ c = some (.func (.func f) fst.toArray cap.toArray)) (hv:evs σ xs vs) (hd:Nat.blt d n = true)
  (h:∀ cs', RetOK P Z f cs' (fun v w1=>RG P Z b n ds cs ops l k ((d,v) :: σ) w1) -> PanOK P Z f cs' (fun ch w1=>PN P Z b n ds cs ch σ w1) -> MX P Z (fb f .normal none) m [] cs' [.code body] (args 0 (fst ++ vs ++ cap)) w) :
  RG P Z b n ds cs ops (⟨some d,.call { callee:=.value c,args:=xs.toArray,argTypes:=ts },ty,ps,af,g⟩ :: l) k σ w:=by
 intro i hi a w' ha hw
 obtain ⟨h1,h2⟩:=aL hi
 rw [List.length_cons,List.range'_succ]
 have he:=bP (P:=P) (ty:=ty) (ps:=ps) (af:=af) (g:=g) (dd:=some d) (ts:=ts) hf (ρ:=a.eval) (ha.ev hcal) (vs:=vs.toArray) (xs:=xs.toArray) (by rw [List.map_toArray,aS (fun x u hx=>ha.ev hx) hv]) w'
 refine .step (bX (aW hi) (hg.eq ha) (by rw [cy]; exact he)) ?_
 simp only [List.append_toArray]
 rw [bC .normal hfn hb,hm]
 refine h _ (.of_back fun u w1 w2 hx hag=>?_) (.of_pn ha fun ch w1 hy=>hy) _ _ (cx hl) hw
 rw [Frame.finish_atR,aW hi]
 exact hx (i + 1) h2 _ _ (ha.put d u hd) hag
structure RecF (r:Loop) (n:Nat) (σ:List (Nat × Value)) (ps:List Tmp) (assign body:Code) (fd:FuncId):Prop where
 rc:Rec r n σ ps assign body
 fn:r.fn = fd
theorem RG.yieldP {c:Operand} {lk nL:Nat} {r:Loop} {fd:FuncId} {σL:List (Nat × Value)} {pt:List Tmp} {assign body:Code} {xs:List Operand} {vs:List Value} {ts:Array TypeId} (hg:Want ops σ g true) (hcal:ev σ c = some (.func (.yield lk) #[] #[])) (hv:evs σ xs vs) (s:St w0 w O) (u:At O (.obj lk (lpO r .ready none))) (rc:RecF r nL σL pt assign body fd)
  (hlen:Nat.beq vs.length pt.length = true) (hp:pt.all (fun p=>Nat.blt p nL) = true) (hd:Nat.blt d n = true)
  (h:∀ fr,Back P Z fr cs (fun v w1=>RG P Z b n ds cs ops l k ((d,v) :: σ) w1) -> PanOK P Z fd (fr :: cs) (fun ch w1=>PN P Z b n ds cs ch σ w1) -> MX P Z (fb fd .normal (some lk)) nL [] (fr :: cs) [.code assign,.beginRound,.code body] (puts pt vs σL) w) :
  RG P Z b n ds cs ops (⟨some d,.call { callee:=.value c,args:=xs.toArray,argTypes:=ts },ty,ps,af,g⟩ :: l) k σ w:=by
 obtain ⟨rc,e9⟩:=rc; subst e9
 intro i hi a w' ha hw
 obtain ⟨h1,h2⟩:=aL hi
 have hlen:vs.length = pt.length:=Nat.eq_of_beq_eq_true hlen
 rw [List.length_cons,List.range'_succ]
 have hy:=run_yield (P:=P) (args:=vs.toArray) (r:={ r with state:=.ready,pending:=none }) (aK hw (s.get u.upd)) (by simp [rc.params,hlen])
 have he:(execOp a.eval ⟨some d,.call { callee:=.value c,args:=xs.toArray,argTypes:=ts },ty,ps,af,g⟩).run P w' = .ok (.round lk r.fn ((pt.zip vs).foldl (fun t (p,v)=>t.setIfInBounds p v) r.tmps) assign body) w' :=by
  have hmap:xs.toArray.map a.eval = vs.toArray:=by rw [List.map_toArray,aS (fun x u hx=>ha.ev hx) hv]
  simp only [execOp,resolve,hmap,ha.ev hcal]
  simp [Deferred.ofValue,invoke,hy,rc.params,rc.assign,rc.body]
 refine .step (dh (aW hi) (hg.eq ha) (by rw [cy]; exact he)) ?_
 have hround:Frame.round lk r.fn ((pt.zip vs).foldl (fun t (p,v)=>t.setIfInBounds p v) r.tmps) assign body .normal = (fb r.fn .normal (some lk)).atR { tmps:=(pt.zip vs).foldl (fun t (p,v)=>t.setIfInBounds p v) r.tmps,defers:=[] } [.code assign,.beginRound,.code body]:=by
  simp [Frame.round,Frame.atR,fb]
 rw [hround]
 refine h _ (fun u' w1 w2 hx hag=>?_) (.of_pn ha fun ch w1 hy=>hy) _ _ (iq pt vs σL r.tmps ⟨rc.size,rfl,rc.get⟩ hp) hw
 rw [Frame.finish_atR,aW hi]
 exact hx (i + 1) h2 _ _ (ha.put d u' hd) hag
theorem MX.rangeP {gop:Operand} {pt:List Tmp} {assign body:Code} {gf:FuncId} {fn:Func} {c:Code} {m:Nat} {lb:List Value} (hro:b.roundOf = none) (s:St w0 w O) (hgv:ev σ gop = some (.func (.func gf) #[] lb.toArray)) (hbody:bh P gf = true) (hfn:P.funcs[gf]? = some fn) (hb:fn.body = some c) (hm:fn.ntmps = m)
  (hl:Nat.ble (lb.length + 1) m = true)
  (h:∀ w1 lk D r cs', St w0 w1 (.obj lk (lpO r .ready none) :: .obj D (.deferred (some [])) :: O) -> Tr w O w1 (.obj lk (lpO r .ready none) :: .obj D (.deferred (some [])) :: O) -> RecF r n σ pt assign body b.fn ->
   RetOK P Z gf cs' (fun _ w2=>MX P Z b n ({ target:=.collected D,args:=#[] } :: ds) cs (.endRangeFunc lk :: k) σ w2) -> PanOK P Z gf cs' (fun ch w2=>PN P Z b n ({ target:=.collected D,args:=#[] } :: ds) cs ch σ w2) -> MX P Z (fb gf .normal none) m [] cs' [.code c] (args 0 (.func (.yield lk) #[] #[] :: lb)) w1) :
  MX P Z b n ds cs (.code (.rangeFunc gop pt.toArray assign body) :: k) σ w:=by
 intro a w' ha hw
 have he:=run_enterLoop_outer (P:=P) (w:=w') b.fn a.tmps pt.toArray assign body
 rw [<- hro] at he
 have hst:=stepR_rangeFunc (P:=P) (b:=b) (a:=a) (k:=k) (cs:=cs) (g:=gop) (d:={ target:=.fn (.func gf) lb.toArray,args:=#[.func (.yield (w'.heap.size + 1)) #[] #[]] }) (f:=gf) (args:=#[.func (.yield (w'.heap.size + 1)) #[] #[]] ++ lb.toArray) he (by simp only [resolve,ha.ev hgv]; simp [Deferred.ofValue]; exact ⟨rfl,rfl⟩) (by simp [invoke,ct hbody]; rfl)
 refine .step hst ?_
 rw [show (#[.func (.yield (w'.heap.size + 1)) #[] #[]] ++ lb.toArray:Array Value) = (Value.func (.yield (w'.heap.size + 1)) #[] #[] :: lb).toArray by simp,bC .normal hfn hb,hm]
 generalize hr:({ state:=.ready,pending:=none,fn:=b.fn,tmps:=a.tmps,params:=pt.toArray,assign:=assign,body:=body,defers:=w'.heap.size }:Loop) = r
 have hrr:lpO r .ready none = .loop r:=by rw [<- hr]; rfl
 have hag1:Agree [] w' (w'.alloc (.deferred (some []))):=aP _ _ _
 have hag2:Agree [] (w'.alloc (.deferred (some []))) ((w'.alloc (.deferred (some []))).alloc (.loop r)):=aP _ _ _
 have hb1:∀ b', (Ob.obj w'.heap.size (.deferred (some []))).block = some b' -> w.heap.size <= b' :=fun b' e=>by cases e; exact hw.size
 have s1:=s.push (o:=.obj w'.heap.size (.deferred (some []))) (hw.trans hag1) (heap_alloc_new w' _) hb1
 have hb2:∀ b', (Ob.obj (w'.heap.size + 1) (lpO r .ready none)).block = some b' -> (w'.alloc (.deferred (some []))).heap.size <= b' :=fun b' e=>by cases e; simp
 have hn2:((w'.alloc (.deferred (some []))).alloc (.loop r)).heap[w'.heap.size + 1]? = some (.loop r):=by have:=heap_alloc_new (w'.alloc (.deferred (some []))) (.loop r); rwa [World.size_alloc] at this
 have s2:=s1.push (o:=.obj (w'.heap.size + 1) (lpO r .ready none)) hag2 (by rw [hrr]; exact hn2) hb2
 refine h _ _ _ r _ s2 ((Tr.push (hw.trans hag1) hb1).trans (Tr.push hag2 hb2)) ⟨⟨by rw [<- hr]; exact ha.size,by rw [<- hr]; exact ha.get,by rw [<- hr],by rw [<- hr],by rw [<- hr]⟩,by rw [<- hr]⟩ ?_ ?_ _ _ (cx (by simpa using hl)) (Agree.refl _ _)
 ·refine .of_back fun u w2 w3 hx hag3=>?_
  rw [finish_atR_inRangeFunc]
  refine hx _ _ ⟨ha.size,?_,ha.get⟩ hag3
  rw [<- ha.defers]; rfl
 ·refine fun ch w2 w3 fr hy hag3 _ hl=>.step (step_leave_panicked hl) ?_
  have:=hy { a with defers:={ target:=.collected w'.heap.size,args:=#[] } :: a.defers } w3 (.inRangeFunc (w'.heap.size + 1) :: k) ⟨ha.size,by rw [<- ha.defers],ha.get⟩ hag3
  exact this
/-! ### Contracts of what may panic -/
@[reducible] def OkOf {α ε:Type} (R:α -> World -> Value -> Prop):Except ε α -> World -> Value -> Prop
 | .ok y=>R y
 | .error _=>fun _ _=>False
@[reducible] def ErOf {α ε:Type} (E:ε -> Value):Except ε α -> List PanicEntry -> Prop
 | .ok _=>fun _=>False
 | .error e=>fun ch=>ch = pan (E e)
def aD {α ε:Type} (w:World) (R:α -> World -> Value -> Prop) (E:ε -> Value) (r:Except ε α):Ending -> World -> Prop:=fun e w' =>Agree [] w w' /\match e with
 | .returned v=>OkOf R r w' v
 | .panicked ch=>ErOf E r ch
 | .outgrown=>False
theorem ay {α ε:Type} {R:α -> World -> Value -> Prop} {y:α} {w' : World} {u:Value} (h:R y w' u):OkOf (ε:=ε) R (.ok y) w' u:=h
def exc {ε α β:Type} (y:Except ε α) (f:α -> Option β) (g:ε -> Option β):Option β:=match y with
 | .ok y=>f y
 | .error e=>g e
theorem MX.startP {f:FuncId} {fn:Func} {c:Code} {vs:List Value} {α ε:Type} {R:α -> World -> Value -> Prop} {E:ε -> Value} {r:Except ε α} (hf:P.funcs[f]? = some fn) (hb:fn.body = some c) (hn:fn.ntmps = n) (hl:Nat.ble vs.length n = true)
  (h:∀ Z cs,RetOK P Z f cs (fun v w1=>Agree [] w w1/\∀ w', Agree [] w1 w' -> OkOf R r w' v) -> PanOK P Z f cs (fun ch w1=>Agree [] w w1/\ErOf E r ch) -> MX P Z (fb f .normal none) n [] cs [.code c] (args 0 vs) w):Calls P f vs.toArray w (aD w R E r):=by
 intro cs
 obtain ⟨m', hs,e,w', fr,hR,hne,rfl,hfn,hlv⟩:=h (Ends P f cs (aD w R E r)) cs
  (fun v w1 w2 fr hx hag hfr hl=>.now ⟨.returned v,_,fr,⟨hx.1.trans hag,hx.2 w2 hag⟩,by simp,rfl,hfr,hl⟩)
  (fun ch w1 w2 fr hx hag hfr hl=>.now ⟨.panicked ch,_,fr,⟨hx.1.trans hag,hx.2⟩,by simp,rfl,hfr,hl⟩) _ w (cx hl) (Agree.refl _ _)
 refine ⟨e,w', fr,hR,?_,hfn,hlv⟩
 rw [bC .normal hf hb,hn]
 cases e with
 | outgrown=>exact absurd rfl hne
 | returned v=>exact hs
 | panicked ch=>exact hs
theorem Calls.okp {f:FuncId} {vs:Array Value} {w:World} {α ε:Type} {R:α -> World -> Value -> Prop} {E:ε -> Value} {y:α} (h:Calls P f vs w (aD w R E (.ok y))):Calls P f vs w (aj w (R y)):=h.mono fun e w' ⟨h1,h2⟩=>by
 cases e with
 | returned v=>exact ⟨v,rfl,h2,h1⟩
 | panicked ch=>exact h2.elim
 | outgrown=>exact h2.elim
theorem RG.callE {f:FuncId} {c:Operand} {fst cap:List Value} {xs:List Operand} {vs:List Value} {ts:Array TypeId} {α ε:Type} {R:α -> World -> Value -> Prop} {E:ε -> Value} {e:ε} {dd:Option Tmp} (hg:Want ops σ g true) (hf:bh P f = true) (hcal:ev σ c = some (.func (.func f) fst.toArray cap.toArray)) (hv:evs σ xs vs)
  (hc:∀ w', Agree [] w w' -> Calls P f (fst ++ vs ++ cap).toArray w' (aD w' R E (.error e))) (h:∀ w1,Agree [] w w1 -> PN P Z b n ds cs (pan (E e)) σ w1) :
  RG P Z b n ds cs ops (⟨dd,.call { callee:=.value c,args:=xs.toArray,argTypes:=ts },ty,ps,af,g⟩ :: l) k σ w:=by
 intro i hi a w' ha hw
 obtain ⟨h1,h2⟩:=aL hi
 rw [List.length_cons,List.range'_succ]
 have he:=bP (P:=P) (ty:=ty) (ps:=ps) (af:=af) (g:=g) (dd:=dd) (ts:=ts) hf (ρ:=a.eval) (ha.ev hcal) (vs:=vs.toArray) (xs:=xs.toArray) (by rw [List.map_toArray,aS (fun x u hx=>ha.ev hx) hv]) w'
 refine .step (bX (aW hi) (hg.eq ha) (by rw [cy]; exact he)) ?_
 have hc' :=hc w' hw
 simp only [List.append_toArray]
 obtain ⟨en,w1,fr,⟨hag,hE⟩,hs,_,hl⟩:=hc' (b.atR a (.inRegion ops (i :: List.range' (i + 1) l.length) :: k) :: cs)
 cases en with
 | returned v=>exact hE.elim
 | outgrown=>exact hE.elim
 | panicked ch=>
  have hE:ch = pan (E e):=hE
  subst hE
  refine .steps hs (.step (step_leave_panicked hl) ?_)
  rw [Frame.raise_atR]
  exact h w1 (hw.trans hag) a w1 _ ha (Agree.refl _ _)
/-! ### Panics out of a drawn region -/
section
variable {tt f m m' i:Nat}
theorem MX.start2 {ff:FuncId} {fn:Func} {c:Code} {vs:List Value} {nn:Nat} {X:Value -> World -> Prop} {Y:List PanicEntry -> World -> Prop} {R:Ending -> World -> Prop} (hf:P.funcs[ff]? = some fn) (hb:fn.body = some c) (hn:fn.ntmps = nn) (hl:Nat.ble vs.length nn = true)
  (h:∀ Z cs,RetOK P Z ff cs X -> PanOK P Z ff cs Y -> MX P Z (fb ff .normal none) nn [] cs [.code c] (args 0 vs) w) {w' : World} (hw:Agree [] w w') (hX:∀ v w1 w2,X v w1 -> Agree [] w1 w2 -> R (.returned v) w2) (hY:∀ ch w1 w2,Y ch w1 -> Agree [] w1 w2 -> R (.panicked ch) w2):Calls P ff vs.toArray w' R:=by
 intro cs
 obtain ⟨m', hs,e,w2,fr,hR,hne,rfl,hfn,hlv⟩:=h (Ends P ff cs R) cs
  (fun v w1 w2 fr hx hag hfr hl=>.now ⟨.returned v,_,fr,hX v w1 w2 hx hag,by simp,rfl,hfr,hl⟩)
  (fun ch w1 w2 fr hx hag hfr hl=>.now ⟨.panicked ch,_,fr,hY ch w1 w2 hx hag,by simp,rfl,hfr,hl⟩) _ w' (cx hl) hw
 refine ⟨e,w2,fr,hR,?_,hfn,hlv⟩
 rw [bC .normal hf hb,hn]
 cases e with
 | outgrown=>exact absurd rfl hne
 | returned v=>exact hs
 | panicked ch=>exact hs
theorem PN.agree {w1:World} (h:PN P Z b n ds cs ch σ w) (hw:Agree [] w w1):PN P Z b n ds cs ch σ w1:=fun a w' todo ha hag=>h a w' todo ha (hw.trans hag)
theorem RO.enterPT {fn:FuncId} {fun_:Func} {body:Code} {nn:Nat} {c:Operand} {fst cap:List Value} {xs:List Operand} {vs:List Value} {ts:Array TypeId} (hst:bz ops.size m i m' = true) (hi:ops[i]? = some ⟨some d,.call { callee:=.value c,args:=xs.toArray,argTypes:=ts },ty,ps,af,g⟩) (htl:tail tt i = true) (hg:Want ops σ g true)
  (hf:bh P fn = true) (hfn:P.funcs[fn]? = some fun_) (hb:fun_.body = some body) (hn:fun_.ntmps = nn) (hl:Nat.ble (fst ++ vs ++ cap).length nn = true) (hcal:ev σ c = some (.func (.func fn) fst.toArray cap.toArray)) (hv:evs σ xs vs) (hd:Nat.blt d n = true)
  (h:∀ Z' cs', RetOK P Z' fn cs' (fun v w1=>RD κ P Z b n ds cs ops tt f m' k ((d,v) :: σ) w1) -> PanOK P Z' fn cs' (fun ch w1=>PN P Z b n ds cs ch [] w1) -> MX P Z' (fb fn .normal none) nn [] cs' [.code body] (args 0 (fst ++ vs ++ cap)) w):RO κ P Z b n ds cs ops tt f m k σ w i:=by
 intro a w' ha hw
 unfold OpI
 rw [hi]
 simp only
 rw [if_pos (hg.eq ha)]
 have he:=bP (P:=P) (ty:=ty) (ps:=ps) (af:=af) (g:=g) (dd:=some d) (ts:=ts) hf (ρ:=a.eval) (ha.ev hcal) (vs:=vs.toArray) (xs:=xs.toArray) (by rw [List.map_toArray,aS (fun x u hx=>ha.ev hx) hv]) w'
 unfold OpW
 rw [he,aV hst]
 simp only [List.append_toArray]
 exact MX.start2 hfn hb hn hl (fun Z' cs' hr hp=>h Z' cs' hr hp) hw (fun v w1 w2 hx hag=>.inl ⟨v,rfl,⟨fun h9=>(by rw [htl] at h9; cases h9),fun hn=>Kp.agree hag (hx.1 hn),hx.2 _ _ (ha.put d v hd) hag⟩⟩) (fun ch w1 w2 hy hag=>.inr ⟨ch,rfl,hy.agree hag⟩)
theorem RO.yieldPT {c:Operand} {lk nL:Nat} {r:Loop} {fd:FuncId} {σL:List (Nat × Value)} {pt:List Tmp} {assign body:Code} {xs:List Operand} {vs:List Value} {ts:Array TypeId} (hst:bz ops.size m i m' = true) (hi:ops[i]? = some ⟨some d,.call { callee:=.value c,args:=xs.toArray,argTypes:=ts },ty,ps,af,g⟩) (htl:tail tt i = true) (hg:Want ops σ g true)
  (hcal:ev σ c = some (.func (.yield lk) #[] #[])) (hv:evs σ xs vs) (s:St w0 w O) (u:At O (.obj lk (lpO r .ready none))) (rc:RecF r nL σL pt assign body fd) (hlen:Nat.beq vs.length pt.length = true) (hp:pt.all (fun p=>Nat.blt p nL) = true) (hd:Nat.blt d n = true)
  (h:∀ Z' fr,Back P Z' fr cs (fun v w1=>RD κ P Z b n ds cs ops tt f m' k ((d,v) :: σ) w1) -> PanOK P Z' fd (fr :: cs) (fun ch w1=>PN P Z b n ds cs ch [] w1) -> MX P Z' (fb fd .normal (some lk)) nL [] (fr :: cs) [.code assign,.beginRound,.code body] (puts pt vs σL) w):RO κ P Z b n ds cs ops tt f m k σ w i:=by
 obtain ⟨rc,e9⟩:=rc; subst e9
 intro a w' ha hw
 unfold OpI
 rw [hi]
 simp only
 rw [if_pos (hg.eq ha)]
 have hlen:vs.length = pt.length:=Nat.eq_of_beq_eq_true hlen
 have hy:=run_yield (P:=P) (args:=vs.toArray) (r:={ r with state:=.ready,pending:=none }) (aK hw (s.get u.upd)) (by simp [rc.params,hlen])
 have he:(execOp a.eval ⟨some d,.call { callee:=.value c,args:=xs.toArray,argTypes:=ts },ty,ps,af,g⟩).run P w' = .ok (.round lk r.fn ((pt.zip vs).foldl (fun t (p,v)=>t.setIfInBounds p v) r.tmps) assign body) w' :=by
  have hmap:xs.toArray.map a.eval = vs.toArray:=by rw [List.map_toArray,aS (fun x u hx=>ha.ev hx) hv]
  simp only [execOp,resolve,hmap,ha.ev hcal]
  simp [Deferred.ofValue,invoke,hy,rc.params,rc.assign,rc.body]
 have hround:Frame.round lk r.fn ((pt.zip vs).foldl (fun t (p,v)=>t.setIfInBounds p v) r.tmps) assign body .normal = (fb r.fn .normal (some lk)).atR { tmps:=(pt.zip vs).foldl (fun t (p,v)=>t.setIfInBounds p v) r.tmps,defers:=[] } [.code assign,.beginRound,.code body]:=by
  simp [Frame.round,Frame.atR,fb]
 unfold OpW
 rw [he,aV hst]
 refine ⟨fun v w'' =>∃ w1,RD κ P Z b n ds cs ops tt f m' k ((d,v) :: σ) w1/\Agree [] w1 w'', ?_,fun v w'' ⟨w1,hx,hag⟩=>⟨fun h9=>(by rw [htl] at h9; cases h9),fun hn=>Kp.agree hag (hx.1 hn),hx.2 _ _ (ha.put d v hd) hag⟩⟩
 intro a2 l2 hsz hdf
 obtain ⟨m1,hs,hz⟩:=h (fun mm=>(∃ v w'', (∃ w1,RD κ P Z b n ds cs ops tt f m' k ((d,v) :: σ) w1/\Agree [] w1 w'')/\mm = lone ((b.atR a2 l2).finish v) cs w'') ∨ ∃ ch w'', PN P Z b n ds cs ch [] w'' /\mm = lone { b.atR a2 l2 with mode:=.panicking ch } cs w'') (b.atR a2 l2)
  (fun v w1 w2 hx hag=>.now (.inl ⟨v,w2,⟨w1,hx,hag⟩,rfl⟩))
  (fun ch w1 w2 fr hy hag _ hl=>.step (step_leave_panicked hl) (.now (.inr ⟨ch,w2,hy.agree hag,by rw [Frame.raise_atR]⟩))) _ _ (iq pt vs σL r.tmps ⟨rc.size,rfl,rc.get⟩ hp) hw
 rw [hround]
 rcases hz with ⟨v,w'', hq,rfl⟩ | ⟨ch,w'', hy,rfl⟩
 ·exact .inl ⟨v,w'', hq,hs⟩
 ·exact .inr ⟨ch,w'', hy,hs⟩
theorem RO.callE {fn:FuncId} {c:Operand} {fst cap:List Value} {xs:List Operand} {vs:List Value} {ts:Array TypeId} {α ε:Type} {R:α -> World -> Value -> Prop} {E:ε -> Value} {e:ε} {dd:Option Tmp} (hi:ops[i]? = some ⟨dd,.call { callee:=.value c,args:=xs.toArray,argTypes:=ts },ty,ps,af,g⟩) (hg:Want ops σ g true)
  (hf:bh P fn = true) (hcal:ev σ c = some (.func (.func fn) fst.toArray cap.toArray)) (hv:evs σ xs vs) (hc:∀ w', Agree [] w w' -> Calls P fn (fst ++ vs ++ cap).toArray w' (aD w' R E (.error e))) (h:∀ w1,Agree [] w w1 -> PN P Z b n ds cs (pan (E e)) [] w1):RO κ P Z b n ds cs ops tt f m k σ w i:=by
 intro a w' ha hw
 unfold OpI
 rw [hi]
 simp only
 rw [if_pos (hg.eq ha)]
 have he:=bP (P:=P) (ty:=ty) (ps:=ps) (af:=af) (g:=g) (dd:=dd) (ts:=ts) hf (ρ:=a.eval) (ha.ev hcal) (vs:=vs.toArray) (xs:=xs.toArray) (by rw [List.map_toArray,aS (fun x u hx=>ha.ev hx) hv]) w'
 unfold OpW
 rw [he]
 simp only [List.append_toArray]
 refine (hc w' hw).mono fun en w1 ⟨hag,hE⟩=>?_
 cases en with
 | returned v=>exact hE.elim
 | outgrown=>exact hE.elim
 | panicked ch=>
  have hE:ch = pan (E e):=hE
  subst hE
  exact .inr ⟨_,rfl,h w1 (hw.trans hag)⟩
end
/-! ### Deferred closures -/
theorem RG.defer {f:FuncId} {c:Operand} {fst cap:List Value} {xs:List Operand} {vs:List Value} {ts:Array TypeId} (hro:b.roundOf = none) (hg:Want ops σ g true) (hcal:ev σ c = some (.func (.func f) fst.toArray cap.toArray)) (hv:evs σ xs vs)
  (h:RG P Z b n ({ target:=.fn (.func f) cap.toArray,args:=(fst ++ vs).toArray } :: ds) cs ops l k σ w):RG P Z b n ds cs ops (⟨none,.defer { callee:=.value c,args:=xs.toArray,argTypes:=ts },ty,ps,af,g⟩ :: l) k σ w:=by
 intro i hi a w' ha hw
 obtain ⟨h1,h2⟩:=aL hi
 rw [List.length_cons,List.range'_succ]
 have hmap:xs.toArray.map a.eval = vs.toArray:=by rw [List.map_toArray,aS (fun x u hx=>ha.ev hx) hv]
 have hr:((⟨none,.defer { callee:=.value c,args:=xs.toArray,argTypes:=ts },ty,ps,af,g⟩:Oper).semAt b.roundOf a.eval).run P w' = .ok (.defer { target:=.fn (.func f) cap.toArray,args:=(fst ++ vs).toArray }) w' :=by
  rw [hro,Oper.semAt_none]
  simp only [execOp,resolve,hmap,ha.ev hcal]
  simp [Deferred.ofValue]
 refine .step (m1:=lone (b.atR { a with defers:={ target:=.fn (.func f) cap.toArray,args:=(fst ++ vs).toArray } :: a.defers } (.inRegion ops (List.range' (i + 1) l.length) :: k)) cs w') (step_lone_go ?_) (h (i + 1) h2 _ w' ⟨ha.size,by rw [<- ha.defers],ha.get⟩ hw)
 rw [stepGR_op (aW hi) (hg.eq ha)]
 have hfin:({ b.atR a (.inRegion ops (i :: List.range' (i + 1) l.length) :: k) with defers:=({ target:=.fn (.func f) cap.toArray,args:=(fst ++ vs).toArray }:Deferred) :: a.defers }:Frame).finish undef = b.atR { a with defers:={ target:=.fn (.func f) cap.toArray,args:=(fst ++ vs).toArray } :: a.defers } (.inRegion ops (List.range' (i + 1) l.length) :: k):=by
  have:=Frame.finish_atR b { a with defers:={ target:=.fn (.func f) cap.toArray,args:=(fst ++ vs).toArray } :: a.defers } ops i (List.range' (i + 1) l.length) k undef
  rw [aW hi] at this
  exact this
 simp only [stepG.apply,Sem.runT_eq,hr,GStep.bare_after]
 exact congrArg (fun fr=>GStep.go { frame:=fr,callers:=cs,status:=.running,dying:=none } w') hfin
theorem dA {f:FuncId} (hf:bh P f = true) (cap vs:List Value) (w:World):(invoke (.fn (.func f) cap.toArray) vs.toArray).run P w = .ok (.enter f (vs ++ cap).toArray) w:=by
 simp [invoke,ct hf]
theorem RT.callD {f:FuncId} {fn:Func} {body:Code} {m:Nat} {cap vs:List Value} (hf:bh P f = true) (hfn:P.funcs[f]? = some fn) (hb:fn.body = some body) (hm:fn.ntmps = m) (hl:Nat.ble (vs ++ cap).length m = true)
  (h:∀ c:Frame,c.mode = .returning -> (∀ w1 w', RT P Z b n ds cs σ w1 -> Agree [] w1 w' -> Reach P Z (lone c cs w')) -> MX P Z (fb f .deferred none) m [] (c :: cs) [.code body] (args 0 (vs ++ cap)) w) :
  RT P Z b n ({ target:=.fn (.func f) cap.toArray,args:=vs.toArray } :: ds) cs σ w:=by
 intro a w' todo ha hw
 refine .step (step_defer (fr:={ b.atR a todo with mode:=.returning }) (by simp) ha.defers rfl (dA hf cap vs w')) ?_
 rw [bC .deferred hfn hb,hm]
 exact h { b.atR { a with defers:=ds } todo with mode:=.returning } rfl (fun w1 w2 hr hag=>hr { a with defers:=ds } w2 todo ⟨ha.size,rfl,ha.get⟩ hag) _ w' (cx hl) hw
theorem PN.callD {f:FuncId} {fn:Func} {body:Code} {m:Nat} {cap vs:List Value} (hf:bh P f = true) (hfn:P.funcs[f]? = some fn) (hb:fn.body = some body) (hm:fn.ntmps = m) (hl:Nat.ble (vs ++ cap).length m = true)
  (h:∀ c:Frame,c.mode = .panicking ch -> (∀ w1 w', RT P Z b n ds cs σ w1 -> Agree [] w1 w' -> Reach P Z (lone { c with mode:=.returning } cs w')) -> MX P Z (fb f .deferred none) m [] (c :: cs) [.code body] (args 0 (vs ++ cap)) w) :
  PN P Z b n ({ target:=.fn (.func f) cap.toArray,args:=vs.toArray } :: ds) cs ch σ w:=by
 intro a w' todo ha hw
 refine .step (step_defer (fr:={ b.atR a todo with mode:=.panicking ch }) (by simp) ha.defers rfl (dA hf cap vs w')) ?_
 rw [bC .deferred hfn hb,hm]
 exact h { b.atR { a with defers:=ds } todo with mode:=.panicking ch } rfl (fun w1 w2 hr hag=>hr { a with defers:=ds } w2 todo ⟨ha.size,rfl,ha.get⟩ hag) _ w' (cx hl) hw
theorem dp {f:FuncId} {c:Frame} {a:Act} {w1:World} {i:Nat} {rest:List Nat} {u:Value} {cs' : List Frame} (ho:ops[i]? = some o) (hw:Region.wanted o (yielded ops a.tmps) = true) (hr:(o.semAt none a.eval).run P w1 = .ok .recover w1)
  (hu:recoverD (c :: cs) = some (u,cs') ∨ recoverD (c :: cs) = none/\u = .nilIface/\cs' = c :: cs) :
  step P (lone ((fb f .deferred none).atR a (.inRegion ops (i :: rest) :: k)) (c :: cs) w1) = .next (lone ((fb f .deferred none).atR (a.put o.dst u) (.inRegion ops rest :: k)) cs' w1):=by
 have hfin:((fb f .deferred none).atR a (.inRegion ops (i :: rest) :: k)).finish u = (fb f .deferred none).atR (a.put o.dst u) (.inRegion ops rest :: k):=by rw [Frame.finish_atR,ho]; rfl
 have htr:=tryRecover_deferred (fr:=(fb f .deferred none).atR a (.inRegion ops (i :: rest) :: k)) rfl (c :: cs)
 refine step_lone_go ?_
 rw [stepGR_op ho hw,<- hfin]
 have hr' : (o.semAt (fb f .deferred none).roundOf a.eval).run P w1 = .ok .recover w1:=hr
 have hro:((fb f .deferred none).atR a (.inRegion ops (i :: rest) :: k)).roundOf = none:=rfl
 rcases hu with hu | ⟨hu,rfl,rfl⟩
 ·simp [stepG.apply,hr', hro,htr,hu]
 ·simp [stepG.apply,hr', hro,htr,hu]
theorem eA {ts:Array TypeId} {dd:Option Tmp} (ρ:Operand -> Value) (w:World):((⟨dd,.call { callee:=.builtin .recover,args:=#[],argTypes:=ts },ty,ps,af,g⟩:Oper).semAt none ρ).run P w = .ok .recover w:=by
 rw [Oper.semAt_none]; simp [execOp,resolve,invoke,builtin]
theorem RG.recover0 {f:FuncId} {c:Frame} {ts:Array TypeId} (hg:Want ops σ g true) (hc:c.mode = .returning) (hd:Nat.blt d n = true) (h:RG P Z (fb f .deferred none) n ds (c :: cs) ops l k ((d,.nilIface) :: σ) w) :
  RG P Z (fb f .deferred none) n ds (c :: cs) ops (⟨some d,.call { callee:=.builtin .recover,args:=#[],argTypes:=ts },ty,ps,af,g⟩ :: l) k σ w:=by
 intro i hi a w' ha hw
 obtain ⟨h1,h2⟩:=aL hi
 rw [List.length_cons,List.range'_succ]
 exact .step (dp (aW hi) (hg.eq ha) (eA _ _) (.inr ⟨by simp [recoverD,hc],rfl,rfl⟩)) (h (i + 1) h2 _ _ (ha.put d _ hd) hw)
theorem RG.recover1 {f:FuncId} {c:Frame} {ts:Array TypeId} {u:Value} (hg:Want ops σ g true) (hc:c.mode = .panicking (pan u)) (hd:Nat.blt d n = true) (h:RG P Z (fb f .deferred none) n ds ({ c with mode:=.panicking [{ v:=u,recovered:=true }] } :: cs) ops l k ((d,u) :: σ) w) :
  RG P Z (fb f .deferred none) n ds (c :: cs) ops (⟨some d,.call { callee:=.builtin .recover,args:=#[],argTypes:=ts },ty,ps,af,g⟩ :: l) k σ w:=by
 intro i hi a w' ha hw
 obtain ⟨h1,h2⟩:=aL hi
 rw [List.length_cons,List.range'_succ]
 exact .step (dp (aW hi) (hg.eq ha) (eA _ _) (.inl (by simp [recoverD,hc,pan]))) (h (i + 1) h2 _ _ (ha.put d _ hd) hw)
theorem RT.leaveD {f:FuncId} {fn:Func} {c:Frame} {rs:List ResultVar} {vs:List Value} (hf:P.funcs[f]? = some fn) (hr:fn.results = rs.toArray) (hv:ResVs P σ w rs vs) (h:∀ w', Agree [] w w' -> Reach P Z (lone { c with mode:=settle c.mode } cs w')):RT P Z (fb f .deferred none) n [] (c :: cs) σ w:=by
 intro a w' todo ha hw
 exact .step (step_going_returned rfl ⟨rfl,ha.defers,fn,hf,eF hr hv ha hw⟩) (h w' hw)
theorem RT.leaveD0 {f:FuncId} {fn:Func} {c:Frame} {rs:List ResultVar} {vs:List Value} {R:World -> Prop} (hc:c.mode = .returning) (hk:∀ w1 w', R w1 -> Agree [] w1 w' -> Reach P Z (lone c cs w')) (hf:P.funcs[f]? = some fn) (hr:fn.results = rs.toArray) (hv:ResVs P σ w rs vs) (h:R w):RT P Z (fb f .deferred none) n [] (c :: cs) σ w:=
 RT.leaveD hf hr hv fun w' hw=>by
  have:({ c with mode:=settle c.mode }:Frame) = c:=by rw [hc]; obtain ⟨_,_,_,_,m,_,_⟩:=c; simp only at hc; subst hc; rfl
  rw [this]; exact hk w w' h hw
theorem RT.leaveD1 {f:FuncId} {fn:Func} {c:Frame} {u:Value} {rs:List ResultVar} {vs:List Value} {R:World -> Prop} (hk:∀ w1 w', R w1 -> Agree [] w1 w' -> Reach P Z (lone { c with mode:=.returning } cs w')) (hf:P.funcs[f]? = some fn) (hr:fn.results = rs.toArray) (hv:ResVs P σ w rs vs) (h:R w):RT P Z (fb f .deferred none) n [] ({ c with mode:=.panicking [{ v:=u,recovered:=true }] } :: cs) σ w:=
 RT.leaveD hf hr hv fun w' hw=>hk w w' h hw
/-! ### Interfaces -/
theorem FV.assertT {xt at_:TypeId} {u:Value} {dd:Option Tmp} (ht:cX P at_ = true) (hx:ev σ x = some (.iface at_ u)):FV P ⟨dd,.typeAssert x xt at_ true,ty,ps,af,g⟩ σ w (.tuple #[u,.bool true]):=fun ρ ha w' _=>by
 unfold cX at ht
 split at ht
 ·cases ht
 ·rename_i k hk hu
  simp only [execOp,ha _ _ hx,Instr.typeAssert,Sem.run_bind,run_underlying hu]
  cases k <;> simp_all
 ·cases ht
theorem run_eqI {ms:Array (String × TypeId)} {t1:TypeId} {u:Value} (ht:P.underlying t = some (.interface ms)) (w' : World):(Op.equal t (.iface t1 u) .nilIface).run P w' = .ok false w' :=by
 unfold Op.equal
 rw [show Op.maxDepth = 9999 + 1 from rfl,Op.equalIn,Sem.run_bind,run_underlying ht w']
 rfl
theorem mK {ms:Array (String × TypeId)} (ht:P.underlying t = some (.interface ms)) (w' : World):(Op.equal t .nilIface .nilIface).run P w' = .ok true w' :=by
 unfold Op.equal
 rw [show Op.maxDepth = 9999 + 1 from rfl,Op.equalIn,Sem.run_bind,run_underlying ht w']
 rfl
theorem FV.neqI {t' : TypeId} {u:Value} {dd:Option Tmp} {ms:Array (String × TypeId)} {t1:TypeId} (ht:P.underlying t = some (.interface ms)) (hx:ev σ x = some (.iface t1 u)) (hy:ev σ y = some .nilIface):FV P ⟨dd,.binOp .neq t x y t', ty,ps,af,g⟩ σ w (.bool true):=fun ρ ha w' _=>by
 have h:=run_eqI (t1:=t1) (u:=u) ht w'
 simp only [execOp,ha _ _ hx,ha _ _ hy,Sem.run_bind,eqGuard,binOp]
 simp
 exact (congrArg (fun z=>Result.andThen (Result.andThen z _) _) h).trans rfl
theorem FV.neqI0 {t' : TypeId} {dd:Option Tmp} {ms:Array (String × TypeId)} {c:Value} (ht:P.underlying t = some (.interface ms)) (hx:ev σ x = some .nilIface) (hc:c = .nilIface):FV P ⟨dd,.binOp .neq t x (.const c) t', ty,ps,af,g⟩ σ w (.bool false):=fun ρ ha w' _=>by
 subst hc
 have hy:ρ (.const .nilIface) = .nilIface:=ha _ _ rfl
 have h:=mK ht w'
 simp only [execOp,ha _ _ hx,hy,Sem.run_bind,eqGuard,binOp]
 simp
 exact (congrArg (fun z=>Result.andThen (Result.andThen z _) _) h).trans rfl
end
end Go.Proofs.YtkhpmhhnolpcnaaGreatDoor
namespace Go.Proofs.YtkhpmhhnolpcnaaGreatDoor
open Go Go.RowKit
instance:Rep Int16:=Rep.plain (fun x=>.int .i16 x.toInt) (fun _=>rfl)
def aE (x:Int):UInt8:=UInt8.ofNat (x % 256).toNat
def mU (s:ByteArray) (i:Int):Option UInt8:=if 0 <= i then s.data[i.toNat]? else none
theorem gV {s:ByteArray} {i:Int} {z:UInt8} (h:mU s i = some z):i = (i.toNat:Int)/\s.data[i.toNat]? = some z:=by
 unfold mU at h
 split at h
 ·exact ⟨by omega,h⟩
 ·cases h
theorem wrap_u8 (x:Int):IntKind.u8.wrap x = ((aE x).toNat:Int):=by
 unfold aE
 have h:(x % 256).toNat < 256:=by omega
 rw [UInt8.toNat_ofNat_of_lt' (by simp [UInt8.size]; omega)]
 simp only [IntKind.wrap,IntKind.bits,IntKind.signed]
 simp
 omega
theorem eR {α:Type} (f:α -> Value) {xs:List α} {i:Nat} {x:α} (h:xs[i]? = some x):(xs.map f)[i * 1]? = some (f x):=by rw [Nat.mul_one,List.getElem?_map,h]; rfl
def add64 (x y c:UInt64):Option (UInt64 × UInt64):=if c.toNat <= 1 then some (UInt64.ofNat ((x.toNat + y.toNat + c.toNat) % 18446744073709551616),UInt64.ofNat ((x.toNat + y.toNat + c.toNat) / 18446744073709551616)) else none
def sub64 (x y b:UInt64):Option (UInt64 × UInt64):=if b.toNat <= 1 then some (UInt64.ofNat ((x.toNat + 18446744073709551616 - y.toNat - b.toNat) % 18446744073709551616),if x.toNat < y.toNat + b.toNat then 1 else 0) else none
section
variable {P:Program} {σ:List (Nat × Value)} {w w0:World} {x y z:Operand} {d:Option Tmp} {t t' s ty e:TypeId} {ps:String} {af:Array Edge} {g:Option (Nat × Bool)} {O O' : List Ob} {v:Value}
theorem FV.convU8 {k1:IntKind} {i:Int} (hs:P.underlying s = some (.int k1)) (ht:P.underlying t = some (.int .u8)) (hx:ev σ x = some (.int k1 i)):FV P ⟨d,.convert s t x,ty,ps,af,g⟩ σ w (.int .u8 ((aE i).toNat:Int)):=FV.conv hs ht hx (wrap_u8 i)
def fldB (P:Program) (t f off m:Nat):Bool:=match P.underlying t with
 | some (.struct fs)=>match fs[f]? with
  | some fd=>fd.offset == off && P.cellsOf fd.type == m && (P.underlying fd.type).isSome
  | none=>false
 | _=>false
def lD (P:Program) (t f:Nat):TypeId:=match P.underlying t with
 | some (.struct fs)=>match fs[f]? with
  | some fd=>fd.type
  | none=>0
 | _=>0
theorem kM {f off m:Nat} {cs:Array Value} (h:fldB P t f off m = true) (w' : World):(Instr.field t (.agg cs) f).run P w' = (part (lD P t f) cs off).run P w' /\P.cellsOf (lD P t f) = m/\∃ u,P.underlying (lD P t f) = some u:=by
 unfold fldB at h
 unfold lD
 split at h
 ·rename_i fs hu
  split at h
  ·rename_i fd hf
   rw [Bool.and_eq_true,Bool.and_eq_true] at h
   have h1:fd.offset = off:=by simpa using h.1.1
   have h2:P.cellsOf fd.type = m:=by simpa using h.1.2
   refine ⟨?_,h2,Option.isSome_iff_exists.1 h.2⟩
   simp [Instr.field,Sem.run_bind,run_underlying hu,hf,asAgg,h1]
  ·cases h
 ·cases h
theorem FV.field1 {f off m:Nat} {cs:List Value} (h:fldB P t f off m = true) (h2:bY P (lD P t f) = false) (hx:ev σ x = some (.agg cs.toArray)) (hv:cs[off]? = some v):FV P ⟨d,.field t x f,ty,ps,af,g⟩ σ w v:=fun ρ ha w' _=>by
 obtain ⟨h3,h4,u,hu⟩:=kM (cs:=cs.toArray) h w'
 have hagg:(isAgg (lD P t f)).run P w' = .ok false w' :=by
  unfold bY at h2
  unfold isAgg
  rw [hu] at h2; rw [Sem.run_bind,run_underlying hu w']; cases u <;> simp_all
 simp only [execOp,ha _ _ hx,Sem.run_bind,h3]
 simp [part,hagg,hv]
def lw (P:Program) (t:Nat):TypeId:=match P.underlying t with
 | some (.array _ e)=>e
 | _=>0
def arrL (P:Program) (t:Nat):Nat:=match P.underlying t with
 | some (.array n _)=>n
 | _=>0
def idxB (P:Program) (t m:Nat) (q:Bool):Bool:=match P.underlying t with
 | some (.array _ e)=>P.cellsOf e == m && (P.underlying e).isSome && bY P e == q
 | _=>false
theorem jF {m k:Nat} {q:Bool} {cs:Array Value} (h:idxB P t m q = true) {kd:IntKind} (hk:k < arrL P t) (w' : World):(Instr.index t (.agg cs) (.int kd (k:Int))).run P w' = (part (lw P t) cs (k * m)).run P w' /\P.cellsOf (lw P t) = m/\bY P (lw P t) = q/\∃ u,P.underlying (lw P t) = some u:=by
 unfold idxB at h
 unfold lw arrL at *
 split at h
 ·rename_i n e hu
  simp only [hu] at hk ⊢
  rw [Bool.and_eq_true,Bool.and_eq_true] at h
  have h1:P.cellsOf e = m:=by simpa using h.1.1
  have h3:bY P e = q:=by simpa using h.2
  obtain ⟨u,hu2⟩:=Option.isSome_iff_exists.1 h.1.2
  obtain ⟨i,hi⟩:=info_of_underlying hu2
  refine ⟨?_,h1,h3,u,hu2⟩
  have hlt:(0:Int) <= (k:Int)/\(k:Int) < (n:Int):=by omega
  simp [Instr.index,asIntOf,Sem.run_bind,run_underlying hu,hk,run_sizeOf w' hi,h1]
 ·cases h
theorem FV.idxN {m len k:Nat} {kd:IntKind} {i:Int} {cs ds:List Value} (h:idxB P t m true = true) (hl:arrL P t = len) (hx:ev σ x = some (.agg cs.toArray)) (hy:ev σ y = some (.int kd i)) (hi:i = (k:Int)) (hk:k < len) (hv:(cs.drop (k * m)).take m = ds):FV P ⟨d,.index t x y,ty,ps,af,g⟩ σ w (.agg ds.toArray):=fun ρ ha w' _=>by
 subst hi
 obtain ⟨h3,h4,h2,u,hu⟩:=jF (cs:=cs.toArray) (kd:=kd) h (by rw [hl]; exact hk) w'
 obtain ⟨i,hi⟩:=info_of_underlying hu
 have hagg:(isAgg (lw P t)).run P w' = .ok true w' :=by
  unfold bY at h2
  unfold isAgg
  rw [hu] at h2; rw [Sem.run_bind,run_underlying hu w']; cases u <;> simp_all
 have hcs:cs.toArray.extract (k * m) (k * m + m) = ds.toArray:=by
  apply Array.ext'
  rw [<- hv]
  simp
 simp only [execOp,ha _ _ hx,ha _ _ hy,Sem.run_bind,h3]
 simp only [part,Sem.run_bind,hagg,Result.andThen_ok,if_true,run_sizeOf w' hi,h4,Sem.run_pure,hcs]
/-! ### Functions without a body -/
theorem jP {f : FuncId} {fn : Func} {ex : Array Value → Sem Value} (hfn : P.funcs[f]? = some fn) (hb : fn.body = none) (hn : (fn.name == "runtime.NumGoroutine") = false) (h1 : (Extern.findNext fn).isNone = true) (h2 : Extern.find fn = some ex) {vs : Array Value} {w' : World} {u : Value} (he : (ex vs).run P w' = .ok u w') : (callFunc f vs).run P w' = .ok (.value u) w' := by
 have h1' : Extern.findNext fn = none:=by simpa using h1
 simp only [callFunc,Sem.run_bind,run_program,Result.andThen_ok,hfn,hn,hb,Option.isNone_none,if_true,Bool.false_eq_true,if_false]
 simp [h1', h2,he,mark,Sem.run]
theorem FV.ext3 {f : FuncId} {fn : Func} {ex : Array Value → Sem Value} {a b c u : Value} {ts : Array TypeId} (hfn : P.funcs[f]? = some fn) (hb : fn.body = none) (hn : (fn.name == "runtime.NumGoroutine") = false) (h1 : (Extern.findNext fn).isNone = true) (h2 : Extern.find fn = some ex) (hx : ev σ x = some a) (hy : ev σ y = some b) (hz : ev σ z = some c)
  (he:∀ w', (ex #[a,b,c]).run P w' = .ok u w'):FV P ⟨d,.call { callee:=.value (.func f),args:=#[x,y,z],argTypes:=ts },ty,ps,af,g⟩ σ w u:=fun ρ ha w' _=>by
 have hc:ρ (.func f) = .func (.func f) #[] #[]:=ha _ _ rfl
 have hr:=jP (P:=P) (vs:=#[a,b,c]) (w' :=w') hfn hb hn h1 h2 (he w')
 simp [execOp,resolve,hc,ha _ _ hx,ha _ _ hy,ha _ _ hz,Deferred.ofValue,invoke,hr]
def lO:Array Value -> Sem Value:=(Extern.MathBitsCarry.rows.head!).2
def lP:Array Value -> Sem Value:=(Extern.MathBitsCarry.rows.tail.head!).2
theorem ly {a b c:UInt64} {r:UInt64 × UInt64} (h:add64 a b c = some r) (w' : World):(lO #[.int .u64 (a.toNat:Int),.int .u64 (b.toNat:Int),.int .u64 (c.toNat:Int)]).run P w' = .ok (.tuple #[.int .u64 (r.1.toNat:Int),.int .u64 (r.2.toNat:Int)]) w' :=by
 unfold add64 at h
 split at h
 ·rename_i hc
  cases h
  have hc' : ¬ c.toNat > 1:=by omega
  have ha:=bM a; have hb:=bM b
  rw [UInt64.toNat_ofNat_of_lt' (by simp only [UInt64.size]; omega),UInt64.toNat_ofNat_of_lt' (by simp only [UInt64.size]; omega)]
  have h3:∀ nm,(Extern.MathBitsCarry.three nm #[.int .u64 (a.toNat:Int),.int .u64 (b.toNat:Int),.int .u64 (c.toNat:Int)]).run P w' = .ok (a.toNat,b.toNat,c.toNat) w' :=fun nm=>by
   show (do
    let c' :=(<- asInt (.int .u64 (c.toNat:Int))).toNat
    if c' > 1 then unsupported (.noEntry ("extern/math/bits." ++ nm ++ ": a carry that is neither 0 nor 1"))
    pure ((<- asInt (.int .u64 (a.toNat:Int))).toNat,(<- asInt (.int .u64 (b.toNat:Int))).toNat,c'):Sem (Nat × Nat × Nat)).run P w' = _
   have hc2:¬ 1 < c.toNat:=hc'
   simp [asInt,asIntOf]
   omega
  show (do let (x, y, c) ← Extern.MathBitsCarry.three "Add64" #[.int .u64 (a.toNat : Int), .int .u64 (b.toNat : Int), .int .u64 (c.toNat : Int)]; pure (Extern.MathBitsCarry.pair ((x + y + c) % Extern.MathBitsCarry.m64) ((x + y + c) / Extern.MathBitsCarry.m64)) : Sem Value).run P w' = _
  rw [Sem.run_bind,h3]
  simp [Extern.MathBitsCarry.pair,Extern.MathBitsCarry.m64]
 ·cases h
theorem kP {a b c:UInt64} {r:UInt64 × UInt64} (h:sub64 a b c = some r) (w' : World):(lP #[.int .u64 (a.toNat:Int),.int .u64 (b.toNat:Int),.int .u64 (c.toNat:Int)]).run P w' = .ok (.tuple #[.int .u64 (r.1.toNat:Int),.int .u64 (r.2.toNat:Int)]) w' :=by
 unfold sub64 at h
 split at h
 ·rename_i hc
  cases h
  have hc' : ¬ c.toNat > 1:=by omega
  have ha:=bM a; have hb:=bM b
  have hi:((if a.toNat < b.toNat + c.toNat then (1:UInt64) else 0).toNat:Int) = if a.toNat < b.toNat + c.toNat then 1 else 0:=by split <;> rfl
  rw [UInt64.toNat_ofNat_of_lt' (by simp only [UInt64.size]; omega),hi]
  have h3:∀ nm,(Extern.MathBitsCarry.three nm #[.int .u64 (a.toNat:Int),.int .u64 (b.toNat:Int),.int .u64 (c.toNat:Int)]).run P w' = .ok (a.toNat,b.toNat,c.toNat) w' :=fun nm=>by
   show (do
    let c' :=(<- asInt (.int .u64 (c.toNat:Int))).toNat
    if c' > 1 then unsupported (.noEntry ("extern/math/bits." ++ nm ++ ": a carry that is neither 0 nor 1"))
    pure ((<- asInt (.int .u64 (a.toNat:Int))).toNat,(<- asInt (.int .u64 (b.toNat:Int))).toNat,c'):Sem (Nat × Nat × Nat)).run P w' = _
   have hc2:¬ 1 < c.toNat:=hc'
   simp [asInt,asIntOf]
   omega
  show (do let (x, y, c) ← Extern.MathBitsCarry.three "Sub64" #[.int .u64 (a.toNat : Int), .int .u64 (b.toNat : Int), .int .u64 (c.toNat : Int)]; pure (Extern.MathBitsCarry.pair ((x + Extern.MathBitsCarry.m64 - y - c) % Extern.MathBitsCarry.m64) (if x < y + c then 1 else 0)) : Sem Value).run P w' = _
  rw [Sem.run_bind,h3]
  simp [Extern.MathBitsCarry.pair,Extern.MathBitsCarry.m64]
  split <;> rfl
 ·cases h
theorem FV.add64 {f : FuncId} {fn : Func} {a b c : UInt64} {r : UInt64 × UInt64} {ts : Array TypeId} (hfn : P.funcs[f]? = some fn) (hb : fn.body = none) (hn : (fn.name == "runtime.NumGoroutine") = false) (h1 : (Extern.findNext fn).isNone = true) (h2 : Extern.find fn = some lO) (hx : ev σ x = some (.int .u64 (a.toNat : Int))) (hy : ev σ y = some (.int .u64 (b.toNat : Int))) (hz : ev σ z = some (.int .u64 (c.toNat : Int)))
  (h:Proofs.YtkhpmhhnolpcnaaGreatDoor.add64 a b c = some r):FV P ⟨d,.call { callee:=.value (.func f),args:=#[x,y,z],argTypes:=ts },ty,ps,af,g⟩ σ w (.tuple #[.int .u64 (r.1.toNat:Int),.int .u64 (r.2.toNat:Int)]):=FV.ext3 hfn hb hn h1 h2 hx hy hz (ly h)
theorem FV.sub64 {f : FuncId} {fn : Func} {a b c : UInt64} {r : UInt64 × UInt64} {ts : Array TypeId} (hfn : P.funcs[f]? = some fn) (hb : fn.body = none) (hn : (fn.name == "runtime.NumGoroutine") = false) (h1 : (Extern.findNext fn).isNone = true) (h2 : Extern.find fn = some lP) (hx : ev σ x = some (.int .u64 (a.toNat : Int))) (hy : ev σ y = some (.int .u64 (b.toNat : Int))) (hz : ev σ z = some (.int .u64 (c.toNat : Int)))
  (h:Proofs.YtkhpmhhnolpcnaaGreatDoor.sub64 a b c = some r):FV P ⟨d,.call { callee:=.value (.func f),args:=#[x,y,z],argTypes:=ts },ty,ps,af,g⟩ σ w (.tuple #[.int .u64 (r.1.toNat:Int),.int .u64 (r.2.toNat:Int)]):=FV.ext3 hfn hb hn h1 h2 hx hy hz (kP h)
end
/-! ### Elements of the call's own rows -/
section
variable {α:Type} [Rep α] {P:Program} {σ:List (Nat × Value)} {w w0:World} {x y:Operand} {t ty:TypeId} {ps:String} {af:Array Edge} {g:Option (Nat × Bool)} {O O' : List Ob} {v:Value} {base:Nat} {e:TypeId} {cs:List Value} {xs ys:List α} {L:List Nat} {dd:Option Tmp}
theorem ln (a:Addr) (i j:Nat):(a.add i).add j = a.add (i + j):=bj _ _ _
theorem St.nthAt (s:St w0 w O) (u:At O (.row base e (Rep.size α) v xs.length cs)) (hc:Cells w L cs xs) {i:Nat} {x:α} (hx:xs[i]? = some x) {bk n' c' : Nat} (he:v = .slice (some ⟨bk,0,none⟩) n' c') :
  ∃ c,v = .slice (some ⟨bk,0,none⟩) xs.length c/\i < xs.length/\∃ es,Rep.R w L es x/\(∀ j u,es[j]? = some u -> w.cell? (((⟨bk,0,none⟩:Addr).add (i * Rep.size α)).add j) = some u)/\(cs.drop (i * Rep.size α)).take (Rep.size α) = es:=by
 obtain ⟨hi,rfl⟩:=List.getElem?_eq_some_iff.1 hx
 obtain ⟨A,c,h1,_,_,_,h5,h6⟩:=s.rowForm u.upd
 obtain ⟨bk', rfl⟩:=h5 (by omega)
 obtain rfl:bk' = bk:=by rw [h1] at he; cases he; rfl
 exact ⟨c,h1,hi,_,hc.2 i hi,fun j u hu=>ae (h6 _ rfl) _ _ j u hu,rfl⟩
theorem Acts.setPart {i tot:Nat} {yv:Value} {zx:α} {ds news full:List Value} {bk c:Nat} {F:List Value -> List Ob} {pa:Addr} (hput:put xs (i:Int) zx = some ys) (s:St w0 w O) (he:v = .slice (some ⟨bk,0,none⟩) xs.length c) (u:∀ cs', Upd O (.row base e (Rep.size α) v xs.length cs) (.row base e (Rep.size α) v ys.length cs') (F cs')) (hc:Cells w (bl O ++ L) cs xs)
  (hch:(cs.drop (i * Rep.size α)).take (Rep.size α) = ds) (hf:ds.take tot ++ news ++ ds.drop (tot + news.length) = full) (hn:Nat.ble (tot + news.length) (Rep.size α) = true)
  (hx:ev σ x = some (.pointer (some pa))) (hp:pa = ((⟨bk,0,none⟩:Addr).add (i * Rep.size α)).add tot) (hy:ev σ y = some yv) (hv:yv.cells = news.toArray) (hr:Rep.R w (bl O ++ L) full zx) (hs:bV P t news.length = true) (h1:∀ u ∈ news,u.oneCell' = true) :
  Acts P ⟨dd,.store t x y,ty,ps,af,g⟩ σ w (fun w1=>∃ cs', St w0 w1 (F cs')/\Tr w O w1 (F cs')/\Cells w1 (bl (F cs') ++ L) cs' ys):=by
 subst he
 obtain ⟨rfl,_,hi⟩:=lV hput
 simp only [Int.toNat_natCast,List.length_set] at *
 have hn:tot + news.length <= Rep.size α:=by simpa [Nat.ble_eq] using hn
 have hl:=Rep.len hr
 have hle:i * Rep.size α + Rep.size α <= cs.length:=by rw [hc.1,<- Nat.succ_mul]; exact Nat.mul_le_mul_right _ hi
 have hdl:ds.length = Rep.size α:=by rw [<- hch,List.length_take,List.length_drop]; omega
 have hsplit:cs = cs.take (i * Rep.size α) ++ (ds ++ cs.drop (i * Rep.size α + Rep.size α)):=by
  rw [<- hch,<- List.drop_drop,List.take_append_drop,List.take_append_drop]
 have hA:(cs.take (i * Rep.size α)).length = i * Rep.size α:=by rw [List.length_take]; omega
 have hlist:cs.take (i * Rep.size α + tot) ++ news ++ cs.drop (i * Rep.size α + tot + news.length) = cs.take (i * Rep.size α) ++ full ++ cs.drop (i * Rep.size α + full.length):=by
  rw [hl,<- hf]
  generalize hB:cs.drop (i * Rep.size α + Rep.size α) = B at *
  generalize hA' : cs.take (i * Rep.size α) = A at *
  rw [hsplit]
  have e1:(A ++ (ds ++ B)).take (i * Rep.size α + tot) = A ++ ds.take tot:=by
   rw [<- hA,List.take_length_add_append,List.take_append_of_le_length (by omega)]
  have e2:(A ++ (ds ++ B)).drop (i * Rep.size α + tot + news.length) = ds.drop (tot + news.length) ++ B:=by
   rw [<- hA,Nat.add_assoc,List.drop_length_add_append,List.drop_append_of_le_length (by omega)]
  rw [e1,e2]
  simp [List.append_assoc]
 have hpa:pa = (⟨bk,0,none⟩:Addr).add (i * Rep.size α + tot):=by rw [hp,ln]
 have key:=Acts.storeRow (P:=P) (t:=t) (dd:=dd) (ty:=ty) (ps:=ps) (af:=af) (g:=g) (old:=cs) (news:=news) s (u _) hx hpa hy hv hs (by omega) h1 rfl
 intro ρ ha w' hw
 obtain ⟨w1,h5,h6,h7⟩:=key ρ ha w' hw
 refine ⟨w1,h5,_,h6,h7,?_⟩
 rw [hlist]
 rw [hlist] at h7
 exact (hc.set hi hr).mv h7
end
end Go.Proofs.YtkhpmhhnolpcnaaGreatDoor
namespace Go.Proofs.YtkhpmhhnolpcnaaGreatDoor
open Go Go.RowKit
instance:Rep UInt32:=Rep.plain (fun x=>.int .u32 (x.toNat:Int)) (fun _=>rfl)
def ld (s:ByteArray) (l h:Int):Option ByteArray:=if 0 <= l/\l <= h/\h <= s.size then some (s.extract l.toNat h.toNat) else none
def jI (a b:ByteArray):Option ByteArray:=if a.size + b.size <= 4611686018427387904 then some (a ++ b) else none
def bstr (xs:List UInt8):ByteArray:=⟨xs.toArray⟩
section
variable {P:Program} {σ:List (Nat × Value)} {w w0:World} {x y z:Operand} {d:Option Tmp} {t t' s ty e:TypeId} {ps:String} {af:Array Edge} {g:Option (Nat × Bool)} {O O' : List Ob} {v:Value}
theorem FV.strCut {s r:ByteArray} {l h:Int} {lo hi:Option Operand} (hc:ld s l h = some r) (ht:P.underlying t = some .string) (hx:ev σ x = some (.string s)) (hlo:match lo with | none=>l = 0 | some y=>∃ k,ev σ y = some (.int k l)) (hhi:match hi with | none=>h = (s.size:Int) | some y=>∃ k,ev σ y = some (.int k h)) :
  FV P ⟨d,.slice t x lo hi none,ty,ps,af,g⟩ σ w (.string r):=fun ρ ha w' _=>by
 unfold ld at hc
 split at hc
 ·rename_i hh
  obtain ⟨h1,h2,h3⟩:=hh
  cases hc
  have h0:0 <= h:=by omega
  cases lo with
  | none=>
   simp only at hlo
   subst hlo
   cases hi with
   | none=>
    simp only at hhi
    subst hhi
    simp [execOp,ha _ _ hx,Instr.sliceAt,Instr.slice,Instr.sliceBounds,run_underlying ht]
   | some y=>
    obtain ⟨k,hy⟩:=hhi
    simp [execOp,ha _ _ hx,ha _ _ hy,Instr.sliceAt,Instr.slice,Instr.sliceBounds,Instr.sliceBound,asIntOf,run_underlying ht,h0,h3]
  | some q=>
   obtain ⟨k2,hq⟩:=hlo
   cases hi with
   | none=>
    simp only at hhi
    subst hhi
    simp [execOp,ha _ _ hx,ha _ _ hq,Instr.sliceAt,Instr.slice,Instr.sliceBounds,Instr.sliceBound,asIntOf,run_underlying ht,h1,h2]
   | some y=>
    obtain ⟨k,hy⟩:=hhi
    have h2' : l <= (h.toNat:Int):=by omega
    simp [execOp,ha _ _ hx,ha _ _ hy,ha _ _ hq,Instr.sliceAt,Instr.slice,Instr.sliceBounds,Instr.sliceBound,asIntOf,run_underlying ht,h0,h3,h1]
    intro h9; exfalso; omega
 ·cases hc
theorem FV.addS {a b c:ByteArray} (h:jI a b = some c) (hx:ev σ x = some (.string a)) (hy:ev σ y = some (.string b)):FV P ⟨d,.binOp .add t x y t', ty,ps,af,g⟩ σ w (.string c):=fun ρ ha w' _=>by
 unfold jI at h
 split at h
 ·rename_i hh
  cases h
  have hm:¬ (((a.size + b.size:Nat):Int) > IntKind.i64.max):=by simp [IntKind.max,IntKind.bits,IntKind.signed]; omega
  have hs:(Op.stringOp .add a b).run P w' = .ok (.string (a ++ b)) w' :=by unfold Op.stringOp; simp only; rw [if_neg hm]; rfl
  simp [execOp,ha _ _ hx,ha _ _ hy,eqGuard,binOp,hs]
 ·cases h
/-! ### Bytes as a string -/
theorem js (xs:List UInt8):∀ r:ByteArray,(xs.map fun x=>(x.toNat:Int)).foldl (fun r n=>r.push (UInt8.ofNat n.toNat)) r = ⟨(r.data.toList ++ xs).toArray⟩:=by
 induction xs with
 | nil=>intro r; obtain ⟨⟨r⟩⟩:=r; simp
 | cons x xs ih=>
  intro r
  rw [List.map_cons,List.foldl_cons,ih]
  have hx:UInt8.ofNat ((x.toNat:Int).toNat) = x:=by simp
  rw [hx]
  obtain ⟨⟨r⟩⟩:=r
  simp [ByteArray.push]
theorem FV.convIS {k1:IntKind} {i:Int} {r:ByteArray} (hs:P.underlying s = some (.int k1)) (ht:P.underlying t = some .string) (hx:ev σ x = some (.int k1 i)) (hr:Utf8.encode i = r):FV P ⟨d,.convert s t x,ty,ps,af,g⟩ σ w (.string r):=fun ρ ha w' _=>by
 subst hr
 simp [execOp,ha _ _ hx,go_sem,hs,ht]
theorem FV.bytesS {xs:List UInt8} {L:List Nat} (hs:P.underlying s = some (.slice e)) (ht:P.underlying t = some .string) (he:P.underlying e = some (.int .u8)) (hx:ev σ x = some v) (h:Src w L v xs):FV P ⟨d,.convert s t x,ty,ps,af,g⟩ σ w (.string (bstr xs)):=fun ρ ha w' hw=>by
 obtain ⟨A,c,ds,rfl,hc,hm,hA⟩:=h
 have hds:ds = xs.map fun x=>(Value.int .u8 (x.toNat:Int)):=by
  apply List.ext_getElem?
  intro i
  have hl:ds.length = xs.length:=by have:=hc.1; rwa [show Rep.size UInt8 = 1 from rfl,Nat.mul_one] at this
  rcases Nat.lt_or_ge i xs.length with hi | hi
  ·have h2:=hc.2 i hi
   rw [show Rep.size UInt8 = 1 from rfl,Nat.mul_one] at h2
   have h3:(ds.drop i).take 1 = [.int .u8 (xs[i].toNat:Int)]:=h2
   have h4:=congrArg (·[0]?) h3
   simp only [List.getElem?_cons_zero,List.getElem?_take,Nat.zero_lt_one,if_true,List.getElem?_drop,Nat.add_zero] at h4
   rw [h4,List.getElem?_map,List.getElem?_eq_getElem hi]; rfl
  ·rw [List.getElem?_eq_none (by omega),List.getElem?_eq_none (by rw [List.length_map]; omega)]
 have key:(Conv.bytesToString (.slice A xs.length c)).run P w' = .ok (.string (bstr xs)) w' :=by
  cases A with
  | none=>
   obtain rfl:=List.eq_nil_of_length_eq_zero (hA rfl)
   rfl
  | some ad=>
   have hl:(loadCells ad xs.length).run P w' = .ok ((xs.map fun x=>(x.toNat:Int)).map (Value.int .u8)).toArray w' :=by
    have h1:=run_loadCells_list (P:=P) w' ad ds (fun j u hu=>hw.cell0 (hm ad rfl j u hu))
    rw [hds,List.length_map] at h1
    rw [h1,List.map_map]; rfl
   rw [run_bytesToString w' ad xs.length c _ hl,js]
   rfl
 simp [execOp,convert,ha _ _ hx,run_underlying hs,run_underlying ht,run_underlying he,key]
/-! ### Arrays as slices -/
theorem Src.arr {α:Type} [Rep α] {L:List Nat} {ys:List α} {p:Addr} {ds:List Value} {n:Nat} (hm:∀ j u,ds[j]? = some u -> w.cell? (p.add j) = some u) (hc:Cells w L ds ys) (hn:ys.length = n):Src w L (.slice (some p) n n) ys:=by
 subst hn
 exact ⟨some p,_,ds,rfl,hc,fun ad e=>by cases e; exact hm,fun e=>by cases e⟩
def aI {α:Type} (ys:List α) (j:Nat) (o:α):α:=(ys[j]?).getD o
def cpL {α:Type} (ys:List α):Nat -> List α -> List α
 | _,[]=>[]
 | j,o :: os=>aI ys j o :: cpL ys (j + 1) os
theorem mV {α:Type} (ys:List α):∀ (os:List α) (j:Nat),cpL ys j os = (ys.drop j).take os.length ++ os.drop (min (ys.length - j) os.length)
 | [],j=>by simp [cpL]
 | o :: os,j=>by
  rw [cpL,mV ys os (j + 1)]
  unfold aI
  rcases Nat.lt_or_ge j ys.length with hj | hj
  ·rw [List.getElem?_eq_getElem hj,Option.getD_some,List.drop_eq_getElem_cons hj,List.length_cons,List.take_succ_cons,List.cons_append]
   congr 2
   rw [show min (ys.length - j) (os.length + 1) = min (ys.length - (j + 1)) os.length + 1 by omega,List.drop_succ_cons]
  ·rw [List.getElem?_eq_none hj,Option.getD_none,List.drop_of_length_le hj,List.drop_of_length_le (by omega:ys.length <= j + 1)]
   rw [show ys.length - j = 0 by omega,show ys.length - (j + 1) = 0 by omega]
   simp
theorem DoesL.copyArr {α:Type} [Rep α] (f:α -> Value) {L:List Nat} {olds ys:List α} {pre post old new' : List Value} {bk m' n:Nat} {eo:TypeId} {p:Addr} {sv:Value} {dd:Option Tmp} (hsz:Rep.size α = 1) (hf:∀ w L cs (x:α),Rep.R w L cs x -> cs = [f x]) (s:St w0 w O) (u:Upd O (.cells bk old eo) (.cells bk new' eo) O') (ht:cB P t 1 = true)
  (hx:ev σ x = some (.slice (some p) n n)) (hp:p = ⟨bk,m', none⟩) (hm:pre.length = m') (hn:olds.length = n) (ho:old = pre ++ olds.map f ++ post) (hnw:new' = pre ++ (cpL ys 0 olds).map f ++ post) (hy:ev σ y = some sv) (hs:Src w L sv ys) :
  DoesL P ⟨dd,.call { callee:=.builtin .copy,args:=#[x,y],argTypes:=#[t,t'] },ty,ps,af,g⟩ σ w (fun r w1=>r = .int .i64 ((min ys.length n:Nat):Int)/\Now w0 w O O' w1):=by
 intro ρ ha w' hw
 subst hp
 obtain ⟨As,cc,ds,rfl,g2,g3,g4⟩:=hs
 have hl:ds.length = ys.length:=by rw [g2.1,hsz,Nat.mul_one]
 have hds:ds = ys.map f:=by
  apply List.ext_getElem?
  intro i
  rcases Nat.lt_or_ge i ys.length with hi | hi
  ·have h2:=hf _ _ _ _ (g2.2 i hi)
   rw [hsz,Nat.mul_one] at h2
   have h4:=congrArg (·[0]?) h2
   simp only [List.getElem?_cons_zero,List.getElem?_take,Nat.zero_lt_one,if_true,List.getElem?_drop,Nat.add_zero] at h4
   rw [h4,List.getElem?_map,List.getElem?_eq_getElem hi]; rfl
  ·rw [List.getElem?_eq_none (by omega),List.getElem?_eq_none (by rw [List.length_map]; omega)]
 have hb:=s.get u
 have hb' : w'.heap[bk]? = some (.cells old.toArray eo (0,0)):=aK hw hb
 have hnew:new' = old.take m' ++ ds.take (min ys.length n) ++ old.drop (m' + (ds.take (min ys.length n)).length):=by
  have e1:cpL ys 0 olds = ys.take (min ys.length n) ++ olds.drop (min ys.length n):=by
   rw [mV,List.drop_zero,Nat.sub_zero,hn]
   congr 1
   rcases Nat.le_total ys.length n with h | h
   ·rw [Nat.min_eq_left h,List.take_of_length_le h,List.take_length]
   ·rw [Nat.min_eq_right h]
  have e2:(ds.take (min ys.length n)).length = min ys.length n:=by rw [List.length_take,hl]; omega
  rw [hnw,e1,e2,ho,hds,<- List.map_take]
  subst hm
  rw [List.append_assoc pre (List.map f olds),List.take_left,List.drop_length_add_append,List.map_append,List.drop_append_of_le_length (by rw [List.length_map]; omega),List.map_drop]
  simp [List.append_assoc]
 unfold cB at ht
 split at ht
 ·rename_i el hun
  split at ht
  ·rename_i jj hjj
   have hinfo:(P.info? el).map (·.size) = some 1:=by rw [hjj]; simp; simpa using ht
   have hst:∀ w1,Agree [bk] w' w1 -> w1.heap[bk]? = some (.cells new'.toArray eo (0,0)) -> Now w0 w O O' w1:=fun w1 hag h1=>by
    have hag' : Agree [bk] w w1:=(hw.widen).trans hag
    have hL:∀ b ∈ [bk],(Ob.cells bk old eo).block = some b:=by simp [Ob.block]
    exact ⟨s.upd u hag' hL h1 (fun b e=>.inl e),Tr.upd u hag' hL (fun b e=>.inl e)⟩
   by_cases hk:min ys.length n = 0
   ·refine ⟨.int .i64 0,w', ?_,by rw [hk]; rfl,hst w' (Agree.refl _ _) ?_⟩
    ·have:=run_copy_none (P:=P) w' t t' ty el (some ⟨bk,m', none⟩) As n n ys.length cc hun hinfo hk
     simp only [execOp,resolve,invoke,builtin,Array.map]
     simp [ha _ _ hx,ha _ _ hy,this,goInt]
    ·rw [hb']
     have:new' = old:=by rw [hnew,hk]; simp
     rw [this]
   ·cases hAs:As with
    | none=>have:=g4 hAs; omega
    | some a=>
     have hfit:m' + (ds.take (min ys.length n)).length <= old.length:=by
      rw [ho,List.length_take,hl]; simp only [List.length_append,List.length_map]; omega
     have key:=run_copy_row (P:=P) w' t t' ty el bk m' n n a ys.length cc old.toArray eo (ds.take (min ys.length n)) hun hinfo hb' (by rw [List.length_take,hl]; show _ = min _ _; omega)
      (fun j u9 hj=>hw.cell0 (lB (g3 a hAs) _ j u9 hj)) (by simpa using hfit) (fun u9 hm=>g2.cell u9 (List.mem_of_mem_take hm))
     refine ⟨.int .i64 ((min ys.length n:Nat):Int),w'.setRow bk (old.take m' ++ ds.take (min ys.length n) ++ old.drop (m' + (ds.take (min ys.length n)).length)).toArray,?_,rfl,hst _ (bH hb' _) ?_⟩
     ·have hkl:(ds.take (min ys.length n)).length = min ys.length n:=by rw [List.length_take,hl]; omega
      rw [hkl] at key ⊢
      subst hAs
      simp only [execOp,resolve,invoke,builtin,Array.map]
      simp only [Sem.run_bind]
      simp [ha _ _ hx,ha _ _ hy,key,goInt]
     ·rw [hnew]; exact setRow_heap w' bk _ _ eo _ hb'
  ·cases ht
 ·cases ht
/-! ### Great arrays -/
theorem Acts.storeBig {α:Type} (f:α -> Value) {xs ys:List α} {m bk:Nat} {eo:TypeId} {dd:Option Tmp} {xo yo:Operand} (hx:xs.length = m) (hy:ys.length = m) (s:St w0 w O) (u:Upd O (.cells bk (xs.map f) eo) (.cells bk (ys.map f) eo) O') (hxo:ev σ xo = some (.pointer (some ⟨bk,0,none⟩))) (hyo:ev σ yo = some (.agg (ys.map f).toArray)) (hs:bV P t m = true)
  (h1:∀ x,(f x).oneCell' = true):Acts P ⟨dd,.store t xo yo,ty,ps,af,g⟩ σ w (Now w0 w O O'):=
 Acts.store (j:=0) (news:=ys.map f) s u hxo rfl hyo rfl (by rw [List.length_map,hy]; exact hs) (by rw [Nat.ble_eq]; simp only [List.length_map]; omega) (fun u hu=>by obtain ⟨x,_,rfl⟩:=List.mem_map.1 hu; exact h1 x)
  (by rw [List.take_zero,List.nil_append,Nat.zero_add,List.drop_of_length_le (by simp only [List.length_map]; omega),List.append_nil])
theorem Acts.setBig {α:Type} (f:α -> Value) {xs:List α} {m i bk:Nat} {x:α} {p:Addr} {eo:TypeId} {dd:Option Tmp} {xo yo:Operand} (hx:xs.length = m) (hi:i < m) (s:St w0 w O) (u:Upd O (.cells bk (xs.map f) eo) (.cells bk ((xs.set i x).map f) eo) O') (hxo:ev σ xo = some (.pointer (some p))) (hp:p = ⟨bk,0 + i,none⟩) (hyo:ev σ yo = some (f x)) (hs:bV P t 1 = true)
  (h1:∀ x,(f x).cells = #[f x]/\(f x).oneCell' = true):Acts P ⟨dd,.store t xo yo,ty,ps,af,g⟩ σ w (Now w0 w O O'):=
 Acts.store (j:=i) (news:=[f x]) s u hxo (by rw [hp,Nat.zero_add]) hyo (h1 x).1 hs (by rw [Nat.ble_eq]; simp only [List.length_map,List.length_singleton]; omega) (fun u hu=>by simp only [List.mem_singleton] at hu; subst hu; exact (h1 x).2)
  (by rw [List.map_set,List.length_singleton,List.append_assoc,List.set_eq_take_append_cons_drop,if_pos (by rw [List.length_map]; omega)]; rfl)
end
/-! ### Calls that hand over slices of their own -/
def aO (base:Nat) (l:List (TypeId × Nat × Value × Nat × List Value)):List Ob:=l.map fun r=>.row base r.1 r.2.1 r.2.2.1 r.2.2.2.1 r.2.2.2.2
theorem cW (b b' : Nat):∀ l,bl (aO b l) = bl (aO b' l)
 | []=>rfl
 | r :: l=>by
  have:=cW b b' l
  unfold aO at *
  rw [List.map_cons,List.map_cons,iw,iw,this]; rfl
theorem Owns.rebase {w:World} {b b' : Nat} (h:b' <= b):∀ {l},Owns w (aO b l) -> Owns w (aO b' l)
 | [],_=>trivial
 | r :: l,⟨h1,h2,h3⟩=>by
  refine ⟨?_,fun c hc=>?_,Owns.rebase h h3⟩
  ·obtain ⟨⟨h4,h5⟩,h6⟩:=h1
   refine ⟨⟨h4,?_⟩,h6⟩
   rcases h5 with h5 | ⟨g,cap,cur,e1,e2,rest⟩
   ·exact .inl h5
   ·exact .inr ⟨g,cap,cur,e1,Nat.le_trans h e2,rest⟩
  ·rw [show List.map _ l = aO b' l from rfl,cW b' b]; exact h2 c hc
theorem St.rebase {w w9 w8:World} {b b' : Nat} {l:List (TypeId × Nat × Value × Nat × List Value)} (s:St w9 w8 (aO b l)) (hw:Agree [] w w9) (h:b' <= b):St w w8 (aO b' l):=
 ⟨hw.trans s.ag,fun c hc=>Nat.le_trans hw.size (s.new c (by rw [cW b b']; exact hc)),s.ok.rebase h⟩
theorem Cells.rebase {α:Type} [Rep α] {w:World} {b b' : Nat} {l:List (TypeId × Nat × Value × Nat × List Value)} {L:List Nat} {cs:List Value} {xs:List α} (h:Cells w (bl (aO b l) ++ L) cs xs):Cells w (bl (aO b' l) ++ L) cs xs:=by rw [cW b' b]; exact h
theorem dW {α:Type} [Rep α] {w:World} {b:Nat} {l:List (TypeId × Nat × Value × Nat × List Value)} {O:List Ob} {L:List Nat} {cs:List Value} {xs:List α} (h:Cells w (bl (aO b l) ++ (bl O ++ L)) cs xs):Cells w (bl (aO b l ++ O) ++ L) cs xs:=by
 rw [cQ,List.append_assoc]; exact h
/-! ### Facts at a standing -/
section
variable {α:Type} [Rep α] {w0 w w1:World} {O O' : List Ob}
theorem Rep.nilAt (_:St w0 w O) (L:List Nat):Rep.R w (bl O ++ L) [.slice none 0 0] ([]:List α):=Rep.nilSlice _ _
theorem Rep.at_ {v:Value} {xs:List α} (_:St w0 w O) (L:List Nat) (h:Rep.R w (bl O ++ L) [v] xs):Rep.R w (bl O ++ L) [v] xs:=h
theorem Cells.at_ {cs:List Value} {xs:List α} (_:St w0 w O) (L:List Nat) (h:Cells w (bl O ++ L) cs xs):Cells w (bl O ++ L) cs xs:=h
end
section
variable {w0 w w1:World} {O O' : List Ob}
theorem St.delS {o:Ob} (s:St w0 w O) (u:Out O o O'):St w0 w O' :=s.del u.del
theorem St.delT {o:Ob} (_:St w0 w O) (u:Out O o O'):Tr w O w O' :=Tr.del u.del
theorem St.arrB (s:St w0 w O) (h:Arr O O'):St w0 w O' /\Tr w O w O' :=⟨s.arr h,Tr.arr h⟩
theorem St.agr (s:St w0 w O) (h:Agree [] w w1):St w0 w1 O/\Tr w O w1 O:=⟨s.agree h,Tr.agree h⟩
theorem St.nilRowT (_:St w0 w O) (e:TypeId) (sz:Nat):Tr w O w (.row w0.heap.size e sz (.slice none 0 0) 0 [] :: O):=Tr.nilRow _ _ _
theorem fT {e:TypeId} {sz n:Nat} {v:Value} {cs:List Value} {b:Nat} (s:St w0 w O) (s1:St w w1 (aO b [(e,sz,v,n,cs)])):St w0 w1 (.row b e sz v n cs :: O):=St.merge s s1
theorem jR {e:TypeId} {sz n:Nat} {v:Value} {cs:List Value} {b:Nat} (s:St w0 w O) (s1:St w w1 (aO b [(e,sz,v,n,cs)])):Tr w O w1 (.row b e sz v n cs :: O):=Tr.merge s s1
theorem eh {P:Program} {f:FuncId} {vs:Array Value} {w9:World} {α:Type} [Rep α] {F:Value -> Value} {e:TypeId} {sz n b0:Nat} {L:List Nat} {xs:List α} (h:Calls P f vs w9 (aj w9 fun w' u=>∃ (v:Value) (cs:List Value),u = F v/\St w9 w' (aO w9.heap.size [(e,sz,v,n,cs)])/\Cells w' (bl (aO w9.heap.size [(e,sz,v,n,cs)]) ++ L) cs xs)) (hw:Agree [] w w9) (hb:b0 <= w9.heap.size) :
  Calls P f vs w9 (aj w9 fun w' u=>∃ (v:Value) (cs:List Value),u = F v/\St w w' (aO b0 [(e,sz,v,n,cs)])/\Cells w' (bl (aO b0 [(e,sz,v,n,cs)]) ++ L) cs xs):=
 Calls.gives h fun _ _ ⟨v,cs,hu,s,hc⟩=>⟨v,cs,hu,s.rebase hw hb,hc.rebase⟩
end
/-! ### Short forms -/
section
variable {P:Program} {Z:Machine -> Prop} {b:Frame} {n:Nat} {ds:List Deferred} {cs:List Frame} {k:List Item} {σ:List (Nat × Value)} {w w0:World} {ops:Array Oper} {l:List Oper} {d:Nat} {op:Op} {ty:TypeId} {ps:String} {af:Array Edge} {v:Value} {x y:Operand} {t f m m' i:Nat} {O O' : List Ob} {g:Option (Nat × Bool)} {κ:KP}
theorem RG.vv (hq:FV P ⟨some d,op,ty,ps,af,none⟩ σ w v) (hd:Nat.blt d n = true) (h:RG P Z b n ds cs ops l k ((d,v) :: σ) w):RG P Z b n ds cs ops (⟨some d,op,ty,ps,af,none⟩ :: l) k σ w:=RG.val' .plain hq hd h
theorem RG.mv (hx:ev σ x = some v) (hd:Nat.blt d n = true) (h:RG P Z b n ds cs ops l k ((d,v) :: σ) w):RG P Z b n ds cs ops (⟨some d,.move x,ty,ps,af,none⟩ :: l) k σ w:=RG.val' .plain (FV.move hx) hd h
theorem RG.sg (hx:ev σ x = some v) (hd:Nat.blt d n = true) (h:RG P Z b n ds cs ops l k ((d,v) :: σ) w):RG P Z b n ds cs ops (⟨some d,.assign x,ty,ps,af,none⟩ :: l) k σ w:=RG.val' .plain (FV.assign hx) hd h
theorem MX.sr {id:Nat} {c:Code} (h:RG P Z b n ds cs l.toArray l (.code c :: k) σ w):MX P Z b n ds cs (.code (.seq (.region id l.toArray false) c) :: k) σ w:=MX.seq (MX.region h)
theorem Acts.storeAll {bk:Nat} {p:Addr} {old news:List Value} {e t:TypeId} {dd:Option Tmp} (s:St w0 w O) (u:Upd O (.cells bk old e) (.cells bk news e) O') (hx:ev σ x = some (.pointer (some p))) (hp:p = ⟨bk,0,none⟩) (hy:ev σ y = some v) (hv:v.cells = news.toArray) (hs:bV P t news.length = true) (hl:old.length = news.length) (h1:∀ u ∈ news,u.oneCell' = true):Acts P ⟨dd,.store t x y,ty,ps,af,g⟩ σ w (Now w0 w O O'):=
 Acts.store (j:=0) s u hx hp hy hv hs (by rw [Nat.ble_eq,hl]; omega) h1 (by rw [Nat.zero_add,<- hl,List.drop_length,List.take_zero]; simp)
theorem RD.vw {T:List (Nat × Nat × Nat)} (i m' : Nat) (hT:ba ops = T) (hi:ops[i]? = some ⟨some d,op,ty,ps,af,none⟩) (hp:aF ops = true) (hq:∀ w,FV P ⟨some d,op,ty,ps,af,none⟩ σ w v) (hd:Nat.blt d n = true)
  (h:RD κ P Z b n ds cs ops t f m' k ((d,v) :: σ) w) (hB:dT T t m i m' = true:=by kernel_rfl) (hfr:κ.free i = true:=by rfl):RD κ P Z b n ds cs ops t (f + 1) m k σ w:=RD.vP i m' hT hi hp .plain hq hd h hB hfr
theorem RD.vx {T:List (Nat × Nat × Nat)} (i m' W:Nat) (hT:ba ops = T) (hi:ops[i]? = some ⟨some d,op,ty,ps,af,none⟩) (hp:aF ops = true) (hq:FV P ⟨some d,op,ty,ps,af,none⟩ σ w v) (hd:Nat.blt d n = true)
  (h:RD κ P Z b n ds cs ops t f m' k ((d,v) :: σ) w) (hB:gR T t m W i m' = true:=by kernel_rfl) (hfr:κ.free i = true:=by rfl):RD κ P Z b n ds cs ops t (f + 1) m k σ w:=RD.val (fM hT hB) hi hp .plain hq hd h hfr
theorem RD.cq {T:List (Nat × Nat × Nat)} {fn:FuncId} {c:Operand} {xs:List Operand} {vs:List Value} {ts:Array TypeId} (i m' W:Nat) (v:Value) (hT:ba ops = T) (hi:ops[i]? = some ⟨some d,.call { callee:=.value c,args:=xs.toArray,argTypes:=ts },ty,ps,af,none⟩) (hp:aF ops = true)
  (hf:bh P fn = true) (hcal:ev σ c = some (.func (.func fn) #[] #[])) (hv:evs σ xs vs) (hc:∀ w', Agree [] w w' -> Calls P fn ([] ++ vs ++ []).toArray w' (aj w' fun _ u=>u = v)) (hd:Nat.blt d n = true)
  (h:RD κ P Z b n ds cs ops t f m' k ((d,v) :: σ) w) (hB:gR T t m W i m' = true:=by kernel_rfl) (hfr:κ.free i = true:=by rfl):RD κ P Z b n ds cs ops t (f + 1) m k σ w:=RD.callq (fst:=[]) (cap:=[]) (fM hT hB) hi hp .plain hf hcal hv hc hd h hfr
theorem RG.cq {fn:FuncId} {c:Operand} {xs:List Operand} {vs:List Value} {ts:Array TypeId} (v:Value) (hf:bh P fn = true) (hcal:ev σ c = some (.func (.func fn) #[] #[])) (hv:evs σ xs vs)
  (hc:∀ w', Agree [] w w' -> Calls P fn ([] ++ vs ++ []).toArray w' (aj w' fun _ u=>u = v)) (hd:Nat.blt d n = true) (h:RG P Z b n ds cs ops l k ((d,v) :: σ) w) :
  RG P Z b n ds cs ops (⟨some d,.call { callee:=.value c,args:=xs.toArray,argTypes:=ts },ty,ps,af,none⟩ :: l) k σ w:=RG.callq' (fst:=[]) (cap:=[]) .plain hf hcal hv hc hd h
theorem RD.nu {T:List (Nat × Nat × Nat)} {mk:Nat -> Ob} {pv:Nat -> Value} (i m' : Nat) (hT:ba ops = T) (hi:ops[i]? = some ⟨some d,op,ty,ps,af,g⟩) (hg:Want ops σ g true) (hd:Nat.blt d n = true) (D:Does P ⟨some d,op,ty,ps,af,g⟩ σ w (New w0 w O mk pv)) (h:∀ w1 b', St w0 w1 (mk b' :: O) -> Tr w O w1 (mk b' :: O) -> RD κ P Z b n ds cs ops t f m' k ((d,pv b') :: σ) w1)
  (h1:ef T m [i] = true:=by kernel_rfl) (h2:gP T m i m' = true:=by kernel_rfl) (hk:κ.nd (lst ops.size m) -> Kp κ.c w:=by exact KP.triv):RD κ P Z b n ds cs ops t (f + 1) m k σ w:=RD.one (cV hT h1) (RO.new (dM hT h2) hi hg hd D h) hk
theorem RD.nw {T:List (Nat × Nat × Nat)} (i m' : Nat) (hT:ba ops = T) (hi:ops[i]? = some ⟨none,op,ty,ps,af,g⟩) (htl:tail t i = true) (hg:Want ops σ g true) (D:Acts P ⟨none,op,ty,ps,af,g⟩ σ w (Now w0 w O O')) (h:∀ w1,St w0 w1 O' -> Tr w O w1 O' -> RD κ P Z b n ds cs ops t f m' k σ w1)
  (h1:ef T m [i] = true:=by kernel_rfl) (h2:gP T m i m' = true:=by kernel_rfl) (hk:κ.nd (lst ops.size m) -> Kp κ.c w:=by exact KP.triv):RD κ P Z b n ds cs ops t (f + 1) m k σ w:=RD.one (cV hT h1) (RO.now (dM hT h2) hi htl hg D h) hk
theorem RD.cl {T:List (Nat × Nat × Nat)} {fn:FuncId} {c:Operand} {xs:List Operand} {vs:List Value} {ts:Array TypeId} {R:World -> Value -> Prop} (i m' : Nat) (hT:ba ops = T) (hi:ops[i]? = some ⟨some d,.call { callee:=.value c,args:=xs.toArray,argTypes:=ts },ty,ps,af,g⟩) (hg:Want ops σ g true)
  (hf:bh P fn = true) (hcal:ev σ c = some (.func (.func fn) #[] #[])) (hv:evs σ xs vs) (hc:∀ w', Agree [] w w' -> Calls P fn ([] ++ vs ++ []).toArray w' (aj w' R)) (hd:Nat.blt d n = true)
  (h:∀ w1 v,Agree [] w w1 -> R w1 v -> RD κ P Z b n ds cs ops t f m' k ((d,v) :: σ) w1) (h1:ef T m [i] = true:=by kernel_rfl) (h2:gP T m i m' = true:=by kernel_rfl) (hk:κ.nd (lst ops.size m) -> Kp κ.c w:=by exact KP.triv):RD κ P Z b n ds cs ops t (f + 1) m k σ w:=
 RD.one (cV hT h1) (RO.call (fst:=[]) (cap:=[]) (dM hT h2) hi hg hf hcal hv hc hd h) hk
end
theorem ah {l:List Value} (h:l.all (·.oneCell') = true):∀ u ∈ l,u.oneCell' = true:=List.all_eq_true.1 h
section
variable {α:Type} [Rep α] {w w0:World} {O O' : List Ob} {L:List Nat} {v:Value} {xs ys zs:List α} {cs:List Value} {e:TypeId} {base:Nat}
variable {P:Program} {σ:List (Nat × Value)} {ty:TypeId} {ps:String} {af:Array Edge} {x y:Operand} {t:TypeId} {g:Option (Nat × Bool)} {bytes:Nat} {z:Value} {zc:List Value} {dd:Option Tmp}
inductive Reps {α:Type} [Rep α] (w:World) (L:List Nat):List (List Value) -> List α -> Prop
 | nil:Reps w L [] []
 | cons {c:List Value} {u:α} {css:List (List Value)} {us:List α} (h:Rep.R w L c u) (t:Reps w L css us):Reps w L (c :: css) (u :: us)
end
section
variable {α:Type} [Rep α] {w0 w w9:World} {O:List Ob} {L:List Nat} {cs:List Value} {x:α}
theorem St.k0 (s:St w0 w O) (h:Rep.R w0 L cs x) (hw:Agree [] w w9):Rep.R w9 L cs x:=Rep.keep0 h (s.ag.trans hw)
theorem St.km (s:St w0 w O) (h:Rep.R w0 L cs x) (hw:Agree [] w w9):Rep.R w9 (bl O ++ L) cs x:=Rep.keep0 (Rep.mv0 h s) hw
theorem St.kd (_:St w0 w O) (h:Rep.R w (bl O ++ L) cs x) (hw:Agree [] w w9):Rep.R w9 L cs x:=Rep.keep0 (Rep.dropO h) hw
end
section
variable {P:Program} {Z:Machine -> Prop} {b:Frame} {n:Nat} {ds:List Deferred} {cs:List Frame} {k:List Item} {σ τ:List (Nat × Value)} {w:World} {ops:Array Oper} {l:List Oper} {d:Nat} {op:Op} {ty:TypeId} {ps:String} {af:Array Edge} {g:Option (Nat × Bool)} {t f m m' i:Nat} {Q:Value -> Prop} {κ:KP}
end
section
variable {w0 w w1:World} {O O' : List Ob}
end
/-! ### Shorter forms -/
@[reducible] def vI (x:Int):Value:=.int .i64 x
@[reducible] def vN:Value:=.slice none 0 0
@[reducible] def vP (b:Nat):Value:=.pointer (some ⟨b,0,none⟩)
@[reducible] def vS (b n:Nat):Value:=.slice (some ⟨b,0,none⟩) n n
section
variable {P:Program} {Z:Machine -> Prop} {b:Frame} {n:Nat} {ds:List Deferred} {cs:List Frame} {k:List Item} {σ:List (Nat × Value)} {w w0:World} {ops:Array Oper} {l:List Oper} {d:Nat} {op:Op} {ty:TypeId} {ps:String} {af:Array Edge} {v:Value} {x y c:Operand} {t f m m' i:Nat} {O O' : List Ob} {g:Option (Nat × Bool)} {dd:Option Tmp} {j:Nat} {q:Bool} {p:Addr}
theorem RG.mo (hx:ev σ x = some v) (h:RG P Z b n ds cs ops l k ((d,v) :: σ) w) (hd:Nat.blt d n = true:=by rfl):RG P Z b n ds cs ops (⟨some d,.move x,ty,ps,af,none⟩ :: l) k σ w:=RG.mv hx hd h
theorem RG.so (hx:ev σ x = some v) (h:RG P Z b n ds cs ops l k ((d,v) :: σ) w) (hd:Nat.blt d n = true:=by rfl):RG P Z b n ds cs ops (⟨some d,.assign x,ty,ps,af,none⟩ :: l) k σ w:=RG.sg hx hd h
theorem RG.va (hq:FV P ⟨some d,op,ty,ps,af,none⟩ σ w v) (h:RG P Z b n ds cs ops l k ((d,v) :: σ) w) (hd:Nat.blt d n = true:=by rfl):RG P Z b n ds cs ops (⟨some d,op,ty,ps,af,none⟩ :: l) k σ w:=RG.vv hq hd h
theorem RG.ga (hq:FV P ⟨some d,op,ty,ps,af,some (j,q)⟩ σ w v) (h:RG P Z b n ds cs ops l k ((d,v) :: σ) w) (hg:Want ops σ (some (j,q)) true:=by exact .yes rfl rfl) (hd:Nat.blt d n = true:=by rfl):RG P Z b n ds cs ops (⟨some d,op,ty,ps,af,some (j,q)⟩ :: l) k σ w:=RG.val' hg hq hd h
theorem RG.no  (h:RG P Z b n ds cs ops l k ((d,undef) :: σ) w) (hg:Want ops σ (some (j,q)) false:=by exact .no rfl rfl) (hd:Nat.blt d n = true:=by rfl):RG P Z b n ds cs ops (⟨some d,op,ty,ps,af,some (j,q)⟩ :: l) k σ w:=RG.off hg hd h
theorem RG.un  (h:RG P Z b n ds cs ops l k ((d,undef) :: σ) w) (hg:Want ops σ (some (j,q)) false:=by exact .undef rfl rfl) (hd:Nat.blt d n = true:=by rfl):RG P Z b n ds cs ops (⟨some d,op,ty,ps,af,some (j,q)⟩ :: l) k σ w:=RG.off hg hd h
theorem FV.fa {fi:Nat} (off:Nat) (hx:ev σ x = some (.pointer (some p))) (hf:eT P t fi off = true:=by kernel_rfl):FV P ⟨dd,.fieldAddr t x fi,ty,ps,af,g⟩ σ w (.pointer (some (p.add off))):=FV.fieldAddr hf hx
theorem FV.l1 (hx:ev σ x = some (.pointer (some p))) (hc:w.cell? p = some v) (ht:jy P t = true:=by kernel_rfl):FV P ⟨dd,.load t x,ty,ps,af,g⟩ σ w v:=FV.load1 ht hx hc
theorem FV.lN {cl:List Value} (hx:ev σ x = some (.pointer (some p))) (hc:∀ j v,cl[j]? = some v -> w.cell? (p.add j) = some v) (ht:lq P t cl.length = true:=by kernel_rfl):FV P ⟨dd,.load t x,ty,ps,af,g⟩ σ w (.agg cl.toArray):=FV.loadN ht hx hc
theorem FV.ia {len c:Nat} {kd:IntKind} {j:Int} (m i:Nat) (hx:ev σ x = some v) (he:v = .slice (some p) len c) (hy:ev σ y = some (.int kd j)) (hj:j = (i:Int)) (hk:i < len) (ht:cB P t m = true:=by kernel_rfl):FV P ⟨dd,.indexAddr t x y,ty,ps,af,g⟩ σ w (.pointer (some (p.add (i * m)))):=FV.idxAddr ht hx he hy hj hk
theorem RG.fa {fi:Nat} (off:Nat) (hx:ev σ x = some (.pointer (some p))) (h:RG P Z b n ds cs ops l k ((d,.pointer (some (p.add off))) :: σ) w) (hf:eT P t fi off = true:=by kernel_rfl) (hd:Nat.blt d n = true:=by rfl):RG P Z b n ds cs ops (⟨some d,.fieldAddr t x fi,ty,ps,af,none⟩ :: l) k σ w:=RG.vv (FV.fieldAddr hf hx) hd h
theorem RG.fg {fi:Nat} (off:Nat) (hx:ev σ x = some (.pointer (some p))) (h:RG P Z b n ds cs ops l k ((d,.pointer (some (p.add off))) :: σ) w) (hf:eT P t fi off = true:=by kernel_rfl) (hg:Want ops σ (some (j,q)) true:=by exact .yes rfl rfl) (hd:Nat.blt d n = true:=by rfl):RG P Z b n ds cs ops (⟨some d,.fieldAddr t x fi,ty,ps,af,some (j,q)⟩ :: l) k σ w:=RG.val' hg (FV.fieldAddr hf hx) hd h
theorem RG.l1 (hx:ev σ x = some (.pointer (some p))) (hc:w.cell? p = some v) (h:RG P Z b n ds cs ops l k ((d,v) :: σ) w) (ht:jy P t = true:=by kernel_rfl) (hd:Nat.blt d n = true:=by rfl):RG P Z b n ds cs ops (⟨some d,.load t x,ty,ps,af,none⟩ :: l) k σ w:=RG.vv (FV.load1 ht hx hc) hd h
theorem RG.pt (hc:ev σ c = some (.bool true)) (hx:ev σ x = some v) (h:RG P Z b n ds cs ops l k ((d,v) :: σ) w) (hd:Nat.blt d n = true:=by rfl):RG P Z b n ds cs ops (⟨some d,.pick c x y,ty,ps,af,none⟩ :: l) k σ w:=RG.vv (FV.pick_t hc hx) hd h
theorem RG.pf (hc:ev σ c = some (.bool false)) (hx:ev σ y = some v) (h:RG P Z b n ds cs ops l k ((d,v) :: σ) w) (hd:Nat.blt d n = true:=by rfl):RG P Z b n ds cs ops (⟨some d,.pick c x y,ty,ps,af,none⟩ :: l) k σ w:=RG.vv (FV.pick_f hc hx) hd h
theorem e1 {x0:Operand} {v0:Value} (h0:ev σ x0 = some v0):evs σ [x0] [v0]:=aq h0 (ak)
theorem o1 {v0:Value} (h0:v0.oneCell' = true):∀ u ∈ [v0],u.oneCell' = true:=aB h0 (cI)
theorem e2 {x0 x1:Operand} {v0 v1:Value} (h0:ev σ x0 = some v0) (h1:ev σ x1 = some v1):evs σ [x0,x1] [v0,v1]:=aq h0 (aq h1 (ak))
theorem o2 {v0 v1:Value} (h0:v0.oneCell' = true) (h1:v1.oneCell' = true):∀ u ∈ [v0,v1],u.oneCell' = true:=aB h0 (aB h1 (cI))
theorem e3 {x0 x1 x2:Operand} {v0 v1 v2:Value} (h0:ev σ x0 = some v0) (h1:ev σ x1 = some v1) (h2:ev σ x2 = some v2):evs σ [x0,x1,x2] [v0,v1,v2]:=aq h0 (aq h1 (aq h2 (ak)))
theorem e4 {x0 x1 x2 x3:Operand} {v0 v1 v2 v3:Value} (h0:ev σ x0 = some v0) (h1:ev σ x1 = some v1) (h2:ev σ x2 = some v2) (h3:ev σ x3 = some v3):evs σ [x0,x1,x2,x3] [v0,v1,v2,v3]:=aq h0 (aq h1 (aq h2 (aq h3 (ak))))
theorem o4 {v0 v1 v2 v3:Value} (h0:v0.oneCell' = true) (h1:v1.oneCell' = true) (h2:v2.oneCell' = true) (h3:v3.oneCell' = true):∀ u ∈ [v0,v1,v2,v3],u.oneCell' = true:=aB h0 (aB h1 (aB h2 (aB h3 (cI))))
theorem e5 {x0 x1 x2 x3 x4:Operand} {v0 v1 v2 v3 v4:Value} (h0:ev σ x0 = some v0) (h1:ev σ x1 = some v1) (h2:ev σ x2 = some v2) (h3:ev σ x3 = some v3) (h4:ev σ x4 = some v4):evs σ [x0,x1,x2,x3,x4] [v0,v1,v2,v3,v4]:=aq h0 (aq h1 (aq h2 (aq h3 (aq h4 (ak)))))
theorem o5 {v0 v1 v2 v3 v4:Value} (h0:v0.oneCell' = true) (h1:v1.oneCell' = true) (h2:v2.oneCell' = true) (h3:v3.oneCell' = true) (h4:v4.oneCell' = true):∀ u ∈ [v0,v1,v2,v3,v4],u.oneCell' = true:=aB h0 (aB h1 (aB h2 (aB h3 (aB h4 (cI)))))
theorem e6 {x0 x1 x2 x3 x4 x5:Operand} {v0 v1 v2 v3 v4 v5:Value} (h0:ev σ x0 = some v0) (h1:ev σ x1 = some v1) (h2:ev σ x2 = some v2) (h3:ev σ x3 = some v3) (h4:ev σ x4 = some v4) (h5:ev σ x5 = some v5):evs σ [x0,x1,x2,x3,x4,x5] [v0,v1,v2,v3,v4,v5]:=aq h0 (aq h1 (aq h2 (aq h3 (aq h4 (aq h5 (ak))))))
theorem o6 {v0 v1 v2 v3 v4 v5:Value} (h0:v0.oneCell' = true) (h1:v1.oneCell' = true) (h2:v2.oneCell' = true) (h3:v3.oneCell' = true) (h4:v4.oneCell' = true) (h5:v5.oneCell' = true):∀ u ∈ [v0,v1,v2,v3,v4,v5],u.oneCell' = true:=aB h0 (aB h1 (aB h2 (aB h3 (aB h4 (aB h5 (cI))))))
theorem e7 {x0 x1 x2 x3 x4 x5 x6:Operand} {v0 v1 v2 v3 v4 v5 v6:Value} (h0:ev σ x0 = some v0) (h1:ev σ x1 = some v1) (h2:ev σ x2 = some v2) (h3:ev σ x3 = some v3) (h4:ev σ x4 = some v4) (h5:ev σ x5 = some v5) (h6:ev σ x6 = some v6):evs σ [x0,x1,x2,x3,x4,x5,x6] [v0,v1,v2,v3,v4,v5,v6]:=aq h0 (aq h1 (aq h2 (aq h3 (aq h4 (aq h5 (aq h6 (ak)))))))
theorem e8 {x0 x1 x2 x3 x4 x5 x6 x7:Operand} {v0 v1 v2 v3 v4 v5 v6 v7:Value} (h0:ev σ x0 = some v0) (h1:ev σ x1 = some v1) (h2:ev σ x2 = some v2) (h3:ev σ x3 = some v3) (h4:ev σ x4 = some v4) (h5:ev σ x5 = some v5) (h6:ev σ x6 = some v6) (h7:ev σ x7 = some v7):evs σ [x0,x1,x2,x3,x4,x5,x6,x7] [v0,v1,v2,v3,v4,v5,v6,v7]:=aq h0 (aq h1 (aq h2 (aq h3 (aq h4 (aq h5 (aq h6 (aq h7 (ak))))))))
theorem RT.t1 {fi:FuncId} {fn:Func} {r:Tmp} {X:Value -> World -> Prop} (hk:RetOK P Z fi cs X) (hf:P.funcs[fi]? = some fn) (hr:fn.results = #[.tmp r]) (hx:look σ r = some v) (h:X v w):RT P Z (fb fi .normal none) n [] cs σ w:=RT.leave hk hf hr (.cons (.tmp hx) .nil) rfl h
theorem St.gv {u:Value} (s:St w0 w O):Agree [] w0 w/\∀ w9,Agree [] w w9 -> u = u:=⟨s.ag,fun _ _=>rfl⟩
end
section
variable {P:Program} {Z:Machine -> Prop} {b:Frame} {n:Nat} {ds:List Deferred} {cs:List Frame} {k:List Item} {σ:List (Nat × Value)} {w w0 w1:World} {ops:Array Oper} {l:List Oper} {ty:TypeId} {ps:String} {af:Array Edge} {v:Value} {x y:Operand} {t:TypeId} {O O' : List Ob} {g:Option (Nat × Bool)} {dd:Option Tmp} {p:Addr}
theorem RG.sa {bk:Nat} {old:List Value} {e:TypeId} (news:List Value) (s:St w0 w O) (u:Upd O (.cells bk old e) (.cells bk news e) O') (h1:∀ u ∈ news,u.oneCell' = true) (h:∀ w1,St w0 w1 O' -> Tr w O w1 O' -> RG P Z b n ds cs ops l k σ w1) (hx:ev σ x = some (.pointer (some p)):=by rfl) (hp:p = ⟨bk,0,none⟩:=by rfl) (hy:ev σ y = some v:=by rfl) (hv:v.cells = news.toArray:=by rfl) (hs:bV P t news.length = true:=by rfl) (hl:old.length = news.length:=by rfl):RG P Z b n ds cs ops (⟨none,.store t x y,ty,ps,af,none⟩ :: l) k σ w:=RG.now .plain (Acts.storeAll s u hx hp hy hv hs hl h1) h
theorem Does.al (zs:List Value) (s:St w0 w O) (hz:cr P t zs:=by exact zB (by kernel_rfl)):Does P ⟨dd,.alloc t,ty,ps,af,g⟩ σ w (New w0 w O (fun b' =>.cells b' zs t) (fun b' =>.pointer (some ⟨b', 0,none⟩))):=Does.alloc s hz
theorem dS {o:Ob} (s:St w0 w O) (s1:St w w1 [o]):St w0 w1 (o :: O):=St.merge s s1
theorem il {o:Ob} (s:St w0 w O) (s1:St w w1 [o]):Tr w O w1 (o :: O):=Tr.merge s s1
theorem fR {o o2:Ob} (s:St w0 w O) (s1:St w w1 [o,o2]):St w0 w1 (o :: o2 :: O):=St.merge s s1
theorem jT {o o2:Ob} (s:St w0 w O) (s1:St w w1 [o,o2]):Tr w O w1 (o :: o2 :: O):=Tr.merge s s1
end
end Go.Proofs.YtkhpmhhnolpcnaaGreatDoor
namespace Go.Proofs.YtkhpmhhnolpcnaaGreatDoor
open Go Go.RowKit
def left {ε:Type} (D:List ε) (sn:Array Nat):List ε:=(D.zipIdx.filter fun e=>!sn.contains e.2).map (·.1)
section
variable {P:Program} {Z:Machine -> Prop} {b:Frame} {n:Nat} {ds:List Deferred} {cs:List Frame} {k:List Item} {σ τ:List (Nat × Value)} {w w0:World} {ops:Array Oper} {l:List Oper} {d:Nat} {ty:TypeId} {ps:String} {af:Array Edge} {x:Operand} {t:TypeId} {O O' : List Ob} {dd:Option Tmp} {g:Option (Nat × Bool)}
variable {κ ν:Type} [Enc κ] [Enc ν]
end
end Go.Proofs.YtkhpmhhnolpcnaaGreatDoor
namespace Go.Proofs.YtkhpmhhnolpcnaaGreatDoor
open Go Go.RowKit
instance:Enc (Option Nat):=⟨fun a=>.pointer (a.map fun b=>⟨b,0,none⟩)⟩
section
variable {κ β:Type}
variable {w w0:World} {T pre:List Ob} {t:TypeId} {f:β -> List Value} {Z Z1 Z2:List ((κ × β) × Nat)} {k:κ} {y y' : β} {b:Nat}
end
section
variable {P:Program} {Z:Machine -> Prop} {b:Frame} {n:Nat} {ds:List Deferred} {cs:List Frame} {k:List Item} {σ τ:List (Nat × Value)} {w w0:World} {ops:Array Oper} {l:List Oper} {d:Nat} {ty:TypeId} {ps:String} {af:Array Edge} {x y:Operand} {t t' e:TypeId} {O O' : List Ob} {dd:Option Tmp} {g:Option (Nat × Bool)}
end
end Go.Proofs.YtkhpmhhnolpcnaaGreatDoor
namespace Go.Proofs.YtkhpmhhnolpcnaaGreatDoor
open Go Go.RowKit
section
variable {w w0:World} {O O' T pre pre' : List Ob} {L:List Nat} {base e e2:Nat} {v0 v y:Value} {Z Z1 Z2:List (Value × List Int)} {xs xs' : List Int} {cs cs' : List Value}
end
end Go.Proofs.YtkhpmhhnolpcnaaGreatDoor
namespace Go.Proofs.YtkhpmhhnolpcnaaGreatDoor
open Go Go.RowKit
theorem At.t1 {x0 o:Ob} {O:List Ob}:At (x0 :: o :: O) o:=.tl .hd
theorem Upd.t1 {x0 o o' : Ob} {O:List Ob}:Upd (x0 :: o :: O) o o' (x0 :: o' :: O):=.tl .hd
theorem Out.t1 {x0 o:Ob} {O:List Ob}:Out (x0 :: o :: O) o (x0 :: O):=.tl .hd
theorem At.t2 {x0 x1 o:Ob} {O:List Ob}:At (x0 :: x1 :: o :: O) o:=.tl (.tl .hd)
theorem Upd.t2 {x0 x1 o o' : Ob} {O:List Ob}:Upd (x0 :: x1 :: o :: O) o o' (x0 :: x1 :: o' :: O):=.tl (.tl .hd)
theorem Out.t2 {x0 x1 o:Ob} {O:List Ob}:Out (x0 :: x1 :: o :: O) o (x0 :: x1 :: O):=.tl (.tl .hd)
theorem At.t3 {x0 x1 x2 o:Ob} {O:List Ob}:At (x0 :: x1 :: x2 :: o :: O) o:=.tl (.tl (.tl .hd))
theorem Upd.t3 {x0 x1 x2 o o' : Ob} {O:List Ob}:Upd (x0 :: x1 :: x2 :: o :: O) o o' (x0 :: x1 :: x2 :: o' :: O):=.tl (.tl (.tl .hd))
theorem Out.t3 {x0 x1 x2 o:Ob} {O:List Ob}:Out (x0 :: x1 :: x2 :: o :: O) o (x0 :: x1 :: x2 :: O):=.tl (.tl (.tl .hd))
theorem At.t4 {x0 x1 x2 x3 o:Ob} {O:List Ob}:At (x0 :: x1 :: x2 :: x3 :: o :: O) o:=.tl (.tl (.tl (.tl .hd)))
theorem Upd.t4 {x0 x1 x2 x3 o o' : Ob} {O:List Ob}:Upd (x0 :: x1 :: x2 :: x3 :: o :: O) o o' (x0 :: x1 :: x2 :: x3 :: o' :: O):=.tl (.tl (.tl (.tl .hd)))
theorem At.t5 {x0 x1 x2 x3 x4 o:Ob} {O:List Ob}:At (x0 :: x1 :: x2 :: x3 :: x4 :: o :: O) o:=.tl (.tl (.tl (.tl (.tl .hd))))
theorem Upd.t5 {x0 x1 x2 x3 x4 o o' : Ob} {O:List Ob}:Upd (x0 :: x1 :: x2 :: x3 :: x4 :: o :: O) o o' (x0 :: x1 :: x2 :: x3 :: x4 :: o' :: O):=.tl (.tl (.tl (.tl (.tl .hd))))
theorem At.t6 {x0 x1 x2 x3 x4 x5 o:Ob} {O:List Ob}:At (x0 :: x1 :: x2 :: x3 :: x4 :: x5 :: o :: O) o:=.tl (.tl (.tl (.tl (.tl (.tl .hd)))))
theorem Upd.t6 {x0 x1 x2 x3 x4 x5 o o' : Ob} {O:List Ob}:Upd (x0 :: x1 :: x2 :: x3 :: x4 :: x5 :: o :: O) o o' (x0 :: x1 :: x2 :: x3 :: x4 :: x5 :: o' :: O):=.tl (.tl (.tl (.tl (.tl (.tl .hd)))))
theorem At.t7 {x0 x1 x2 x3 x4 x5 x6 o:Ob} {O:List Ob}:At (x0 :: x1 :: x2 :: x3 :: x4 :: x5 :: x6 :: o :: O) o:=.tl (.tl (.tl (.tl (.tl (.tl (.tl .hd))))))
theorem At.t8 {x0 x1 x2 x3 x4 x5 x6 x7 o:Ob} {O:List Ob}:At (x0 :: x1 :: x2 :: x3 :: x4 :: x5 :: x6 :: x7 :: o :: O) o:=.tl (.tl (.tl (.tl (.tl (.tl (.tl (.tl .hd)))))))
theorem Arr.d0:∀ {O:List Ob},Arr O O
 | []=>.done
 | _ :: _=>.one .hd Arr.d0
theorem Arr.a0 {o:Ob} {O O' : List Ob} (h:Arr O O'):Arr (o :: O) (o :: O'):=.one .hd h
theorem Arr.a1 {x0 o:Ob} {O O' : List Ob} (h:Arr (x0 :: O) O'):Arr (x0 :: o :: O) (o :: O'):=.one .t1 h
theorem Arr.a2 {x0 x1 o:Ob} {O O' : List Ob} (h:Arr (x0 :: x1 :: O) O'):Arr (x0 :: x1 :: o :: O) (o :: O'):=.one .t2 h
theorem Arr.a3 {x0 x1 x2 o:Ob} {O O' : List Ob} (h:Arr (x0 :: x1 :: x2 :: O) O'):Arr (x0 :: x1 :: x2 :: o :: O) (o :: O'):=.one .t3 h
theorem Arr.dr {x:Ob}:∀ {O O' : List Ob},Arr O O' -> Arr (x :: O) O'
 | _,_,.done=>.done
 | _,_,.one h h2=>.one (.tl h) (Arr.dr h2)
theorem Arr.d1 {x0:Ob} {O:List Ob}:Arr (x0 :: O) O:=.dr Arr.d0
theorem Arr.d2 {x0 x1:Ob} {O:List Ob}:Arr (x0 :: x1 :: O) O:=.dr (Arr.d1)
theorem Arr.d3 {x0 x1 x2:Ob} {O:List Ob}:Arr (x0 :: x1 :: x2 :: O) O:=.dr (Arr.d2)
section
variable {P:Program} {Z:Machine -> Prop} {b:Frame} {n:Nat} {ds:List Deferred} {cs:List Frame} {k:List Item} {σ τ:List (Nat × Value)} {w w0:World} {ops:Array Oper} {t f m:Nat} {κ:KP} {O1:List Ob}
theorem MX.lf {α γ Q:Type} {B:(γ -> Option Q) -> γ -> Option Q} {N:Nat} {r:Q} {c:Code} (S:α -> List (Nat × Value)) (E:α -> List Ob) (G:α -> World -> Prop) (p:α -> γ) (x0:α) (hh:ao B N (p x0) = some r) (s:St w0 w (E x0)) (hG:G x0 w)
  (round:∀ (J:γ -> Option Q) x wx,(∀ x' {wx' σ'},St w0 wx' (E x') -> Tr w (E x0) wx' (E x') -> G x' wx' -> J (p x') = some r -> ∀ (_:Sub σ' (S x'):=by repeat (first | refine ⟨rfl,?_⟩ | exact trivial)),MX P Z b n ds cs (.inLoop c :: k) σ' wx') -> St w0 wx (E x) -> Tr w (E x0) wx (E x) -> G x wx -> B J (p x) = some r -> MX P Z b n ds cs (.code c :: .inLoop c :: k) (S x) wx)
  (hs:Sub σ (S x0):=by repeat (first | refine ⟨rfl,?_⟩ | exact trivial)):MX P Z b n ds cs (.code (.loop c) :: k) σ w:=
 MX.loop S (fun x wx=>St w0 wx (E x)/\Tr w (E x0) wx (E x)/\G x wx) p x0 hh hs ⟨s,Tr.refl _ _,hG⟩ fun J x wx h1 h2=>round J x wx (fun x' {wx' σ'} a2 a3 a4 a5 a1=>h1 x' wx' σ' a1 ⟨a2,a3,a4⟩ a5) h2.1 h2.2.1 h2.2.2
theorem MX.lo {α γ Q:Type} {B:(γ -> Option Q) -> γ -> Option Q} {N:Nat} {r:Q} {c:Code} (S:α -> List (Nat × Value)) (E:α -> List Ob) (p:α -> γ) (x0:α) (hh:ao B N (p x0) = some r) (s:St w0 w (E x0))
  (round:∀ (J:γ -> Option Q) x wx,(∀ x' {wx' σ'},St w0 wx' (E x') -> Tr w (E x0) wx' (E x') -> J (p x') = some r -> ∀ (_:Sub σ' (S x'):=by repeat (first | refine ⟨rfl,?_⟩ | exact trivial)),MX P Z b n ds cs (.inLoop c :: k) σ' wx') -> St w0 wx (E x) -> Tr w (E x0) wx (E x) -> B J (p x) = some r -> MX P Z b n ds cs (.code c :: .inLoop c :: k) (S x) wx)
  (hs:Sub σ (S x0):=by repeat (first | refine ⟨rfl,?_⟩ | exact trivial)):MX P Z b n ds cs (.code (.loop c) :: k) σ w:=
 MX.loop S (fun x wx=>St w0 wx (E x)/\Tr w (E x0) wx (E x)) p x0 hh hs ⟨s,Tr.refl _ _⟩ fun J x wx h1 h2=>round J x wx (fun x' {wx' σ'} a2 a3 a5 a1=>h1 x' wx' σ' a1 ⟨a2,a3⟩ a5) h2.1 h2.2
theorem MX.jf {α γ Q:Type} {K:γ -> Option Q} {B:(γ -> Option Q) -> Option Q} {r:Q} {it:Item} (S:α -> List (Nat × Value)) (E:α -> List Ob) (G:α -> World -> Prop) (p:α -> γ) (_s:St w0 w O1) (hh:jn K B = some r)
  (hJ:∀ x wx,St w0 wx (E x) -> Tr w O1 wx (E x) -> G x wx -> K (p x) = some r -> MX P Z b n ds cs k (S x) wx)
  (h:∀ J:γ -> Option Q,(∀ x {wx σ'},St w0 wx (E x) -> Tr w O1 wx (E x) -> G x wx -> J (p x) = some r -> ∀ (_:Sub σ' (S x):=by repeat (first | refine ⟨rfl,?_⟩ | exact trivial)),MX P Z b n ds cs k σ' wx) -> B J = some r -> MX P Z b n ds cs (it :: k) σ w):MX P Z b n ds cs (it :: k) σ w:=
 MX.join S (fun x wx=>St w0 wx (E x)/\Tr w O1 wx (E x)/\G x wx) p hh (fun x wx h1 h2=>hJ x wx h1.1 h1.2.1 h1.2.2 h2) fun J h1 h2=>h J (fun x {wx σ'} a2 a3 a4 a5 a1=>h1 x wx σ' a1 ⟨a2,a3,a4⟩ a5) h2
theorem MX.jo {α γ Q:Type} {K:γ -> Option Q} {B:(γ -> Option Q) -> Option Q} {r:Q} {it:Item} (S:α -> List (Nat × Value)) (E:α -> List Ob) (p:α -> γ) (_s:St w0 w O1) (hh:jn K B = some r)
  (hJ:∀ x wx,St w0 wx (E x) -> Tr w O1 wx (E x) -> K (p x) = some r -> MX P Z b n ds cs k (S x) wx)
  (h:∀ J:γ -> Option Q,(∀ x {wx σ'},St w0 wx (E x) -> Tr w O1 wx (E x) -> J (p x) = some r -> ∀ (_:Sub σ' (S x):=by repeat (first | refine ⟨rfl,?_⟩ | exact trivial)),MX P Z b n ds cs k σ' wx) -> B J = some r -> MX P Z b n ds cs (it :: k) σ w):MX P Z b n ds cs (it :: k) σ w:=
 MX.join S (fun x wx=>St w0 wx (E x)/\Tr w O1 wx (E x)) p hh (fun x wx h1 h2=>hJ x wx h1.1 h1.2 h2) fun J h1 h2=>h J (fun x {wx σ'} a2 a3 a5 a1=>h1 x wx σ' a1 ⟨a2,a3⟩ a5) h2
theorem MX.xo {α γ Q:Type} {K:γ -> Option Q} {B:(γ -> Option Q) -> Option Q} {r:Q} {it:Item} {k' : List Item} (id:Nat) (S:α -> List (Nat × Value)) (E:α -> List Ob) (p:α -> γ) (_s:St w0 w O1) (hx:exitTo id k = some k') (hh:jn K B = some r)
  (hJ:∀ x wx,St w0 wx (E x) -> Tr w O1 wx (E x) -> K (p x) = some r -> MX P Z b n ds cs k' (S x) wx)
  (h:∀ J:γ -> Option Q,(∀ x {wx σ'},St w0 wx (E x) -> Tr w O1 wx (E x) -> J (p x) = some r -> ∀ (_:Sub σ' (S x):=by repeat (first | refine ⟨rfl,?_⟩ | exact trivial)),MX P Z b n ds cs k' σ' wx) -> B J = some r -> MX P Z b n ds cs (it :: k) σ w):MX P Z b n ds cs (it :: k) σ w:=
 MX.joinx S (fun x wx=>St w0 wx (E x)/\Tr w O1 wx (E x)) p hx hh (fun x wx h1 h2=>hJ x wx h1.1 h1.2 h2) fun J h1 h2=>h J (fun x {wx σ'} a2 a3 a5 a1=>h1 x wx σ' a1 ⟨a2,a3⟩ a5) h2
theorem RD.mf {α:Type} (S:α -> List (Nat × Value)) (E:α -> List Ob) (G:α -> World -> Prop) (_s:St w0 w O1) (f' m' : Nat)
  (hJ:∀ x wx,St w0 wx (E x) -> Tr w O1 wx (E x) -> G x wx -> RD κ P Z b n ds cs ops t f' m' k (S x) wx)
  (h:(∀ x {wx σ'},St w0 wx (E x) -> Tr w O1 wx (E x) -> G x wx -> ∀ (_:Sub σ' (S x):=by repeat (first | refine ⟨rfl,?_⟩ | exact trivial)),RD κ P Z b n ds cs ops t f' m' k σ' wx) -> RD κ P Z b n ds cs ops t f m k σ w):RD κ P Z b n ds cs ops t f m k σ w:=
 RD.meet S (fun x wx=>St w0 wx (E x)/\Tr w O1 wx (E x)/\G x wx) f' m' (fun x wx h1=>hJ x wx h1.1 h1.2.1 h1.2.2) fun h1=>h fun x {wx σ'} a2 a3 a4 a1=>h1 x wx σ' a1 ⟨a2,a3,a4⟩
theorem RD.mo {α:Type} (S:α -> List (Nat × Value)) (E:α -> List Ob) (_s:St w0 w O1) (f' m' : Nat)
  (hJ:∀ x wx,St w0 wx (E x) -> Tr w O1 wx (E x) -> RD κ P Z b n ds cs ops t f' m' k (S x) wx)
  (h:(∀ x {wx σ'},St w0 wx (E x) -> Tr w O1 wx (E x) -> ∀ (_:Sub σ' (S x):=by repeat (first | refine ⟨rfl,?_⟩ | exact trivial)),RD κ P Z b n ds cs ops t f' m' k σ' wx) -> RD κ P Z b n ds cs ops t f m k σ w):RD κ P Z b n ds cs ops t f m k σ w:=
 RD.meet S (fun x wx=>St w0 wx (E x)/\Tr w O1 wx (E x)) f' m' (fun x wx h1=>hJ x wx h1.1 h1.2) fun h1=>h fun x {wx σ'} a2 a3 a1=>h1 x wx σ' a1 ⟨a2,a3⟩
theorem RG.bx {d:Tmp} {t ty:TypeId} {ps:String} {af:Array Edge} {x:Operand} {v:Value} {vs:List Value} {l:List Oper} {O:List Ob} (s:St w0 w O) (hx:ev σ x = some v) (hc:v.cells = vs.toArray) (h:∀ w1 b', St w0 w1 (.cells b' vs t :: O) -> Tr w O w1 (.cells b' vs t :: O) -> RG P Z b n ds cs ops l k ((d,.pointer (some ⟨b', 0,none⟩)) :: σ) w1) (hd:Nat.blt d n = true:=by rfl):RG P Z b n ds cs ops (⟨some d,.box t x,ty,ps,af,none⟩ :: l) k σ w:=RG.new .plain hd (Does.box s hx hc) h
theorem RG.nl {d:Tmp} {t ty:TypeId} {ps:String} {af:Array Edge} {l:List Oper} {O:List Ob} (zs:List Value) (s:St w0 w O) (h:∀ w1 b', St w0 w1 (.cells b' zs t :: O) -> Tr w O w1 (.cells b' zs t :: O) -> RG P Z b n ds cs ops l k ((d,.pointer (some ⟨b', 0,none⟩)) :: σ) w1) (hz:cr P t zs:=by exact zB (by kernel_rfl)) (hd:Nat.blt d n = true:=by rfl):RG P Z b n ds cs ops (⟨some d,.alloc t,ty,ps,af,none⟩ :: l) k σ w:=RG.new .plain hd (Does.alloc s hz) h
theorem bk {α β:Type} {C:Prop} {x:Option α} {g:α -> Option β} {r:β} (h:x.bind g = some r) (k:∀ y,x = some y -> g y = some r -> C):C:=
 let ⟨y,h1,h2⟩:=gZ h; k y h1 h2
theorem xk {ε α β:Type} {C:Prop} {x:Option (Except ε α)} {f:α -> Option β} {g:ε -> Option β} {r:β} (h:(x.bind fun y=>exc y f g) = some r) (k1:∀ e,x = some (.error e) -> g e = some r -> C) (k2:∀ y,x = some (.ok y) -> f y = some r -> C):C:=by
 obtain ⟨y,h1,h2⟩:=gZ h
 rcases y with e | y
 ·exact k1 e h1 h2
 ·exact k2 y h1 h2
theorem tn {α β:Type} {C:Prop} {o:Option (α ⊕ β)} {K:β -> Option α} {r:α} (h:thn o K = some r) (k:∀ x,o = some x -> thn (some x) K = some r -> C):C:=
 let ⟨y,h1,h2⟩:=thn_in h; k y h1 h2
end
end Go.Proofs.YtkhpmhhnolpcnaaGreatDoor
namespace Go.Proofs.YtkhpmhhnolpcnaaGreatDoor
open Go Go.RowKit
def w32 (i:Int):Int:=IntKind.i32.wrap i
section
variable {P:Program} {σ:List (Nat × Value)} {w:World} {d:Option Nat} {ty s t:TypeId} {ps:String} {af:Array Edge} {g:Option (Nat × Bool)} {x:Operand}
end
end Go.Proofs.YtkhpmhhnolpcnaaGreatDoor
namespace Go.Proofs.YtkhpmhhnolpcnaaGreatDoor
open Go Go.RowKit
section
variable {w w0:World} {O O' T pre pre' : List Ob} {L:List Nat} {base e e2 i:Nat} {v0 v y v' : Value} {Z Z1 Z2:List (Value × List Int)} {xs xs' : List Int} {cs cs' : List Value} {M M2:List (List Int)}
end
section
variable {P:Program} {w w0:World} {O:List Ob} {σ:List (Nat × Value)} {dd:Option Nat} {ty t:TypeId} {ps:String} {af:Array Edge} {g:Option (Nat × Bool)} {x y:Operand} {base e:Nat} {v:Value}
end
@[reducible] def vn (n:Nat):Value:=.int .i64 (n:Int)
@[reducible] def rr (w:World) (e:TypeId) (α:Type) [Rep α] (v:Value) (n:Nat) (cs:List Value):Ob:=.row w.heap.size e (Rep.size α) v n cs
abbrev hl (L:List Nat) (w:World):Prop:=∀ b ∈ L,b < w.heap.size
@[reducible] def vW (x:Int):Value:=.int .u64 x
@[reducible] def vU (x:UInt64):Value:=.int .u64 (x.toNat:Int)
@[reducible] def zL:List Value:=[vW 0,vW 0,vW 0,vW 0,vW 0,vW 0,vW 0,vW 0,vW 0,vW 0,vW 0,vW 0,vW 0,vW 0,vW 0,vW 0]
@[reducible] def zM:Array Value:=#[vW 0,vW 0,vW 0,vW 0,vW 0,vW 0,vW 0,vW 0,vW 0,vW 0,vW 0,vW 0,vW 0,vW 0,vW 0,vW 0]
@[reducible] def zP:List Value:=[vW 0,vW 0,vW 0,vW 0,vW 0,vW 0,vW 0,vW 0]
@[reducible] def zQ:Array Value:=#[vW 0,vW 0,vW 0,vW 0,vW 0,vW 0,vW 0,vW 0]
section
variable {P:Program} {Z:Machine -> Prop} {b:Frame} {n:Nat} {ds:List Deferred} {cs:List Frame} {k:List Item} {σ:List (Nat × Value)} {w:World} {T:List (Nat × Nat × Nat)} {ops:Array Oper} {m m' i t W:Nat}
theorem Rv {κ:KP} {f d:Nat} {op:Op} {ty:TypeId} {ps:String} {af:Array Edge} {v:Value} (i:Nat) (hT:ba ops = T) (hi:ops[i]? = some ⟨some d,op,ty,ps,af,none⟩) (hp:aF ops = true) (hq:∀ w,FV P ⟨some d,op,ty,ps,af,none⟩ σ w v) (h:RD κ P Z b n ds cs ops t f (m ||| 1 <<< i) k ((d,v) :: σ) w) (hB:dT T t m i (m ||| 1 <<< i) = true:=by kernel_rfl) (hfr:κ.free i = true:=by rfl) (hd:Nat.blt d n = true:=by rfl):RD κ P Z b n ds cs ops t (f + 1) m k σ w:=RD.vw i _ hT hi hp hq hd h hB hfr
theorem Rx {κ:KP} {f d:Nat} {op:Op} {ty:TypeId} {ps:String} {af:Array Edge} {v:Value} (i W:Nat) (hT:ba ops = T) (hi:ops[i]? = some ⟨some d,op,ty,ps,af,none⟩) (hp:aF ops = true) (hq:FV P ⟨some d,op,ty,ps,af,none⟩ σ w v) (h:RD κ P Z b n ds cs ops t f (m ||| 1 <<< i) k ((d,v) :: σ) w) (hB:gR T t m W i (m ||| 1 <<< i) = true:=by kernel_rfl) (hfr:κ.free i = true:=by rfl) (hd:Nat.blt d n = true:=by rfl):RD κ P Z b n ds cs ops t (f + 1) m k σ w:=RD.vx i _ W hT hi hp hq hd h hB hfr
theorem rk {rs:List Nat} (hT:ba ops = T) (h:ef T m rs = true:=by kernel_rfl):di ops m rs = true:=cV hT h
theorem dk (hT:ba ops = T) (h:mB T m = true:=by kernel_rfl):Region.ready .any ops (lst ops.size m) = []:=lK hT h
theorem sk (hT:ba ops = T) (h:gP T m i m' = true:=by kernel_rfl):bz ops.size m i m' = true:=dM hT h
theorem tk (hT:ba ops = T) (h:gR T t m W i m' = true:=by kernel_rfl):fP ops t m W i m' = true:=fM hT h
theorem dt {id:Nat} {l:List Oper} (t:Nat) (T:List (Nat × Nat × Nat)) (h:ba l.toArray = T -> aF l.toArray = true -> RD kp0 P Z b n ds cs l.toArray t l.length 0 k σ w) (hT:ba l.toArray = T:=by kernel_rfl) (hm:P.follows .mixedOrders = true:=by kernel_rfl) (hp:aF l.toArray = true:=by kernel_rfl):MX P Z b n ds cs (.code (.region id l.toArray true) :: k) σ w:=MX.drawT t T hT hm hp h
theorem du {id:Nat} {l:List Oper} (t:Nat) (h:ba l.toArray = ba l.toArray -> aF l.toArray = true -> RD kp0 P Z b n ds cs l.toArray t l.length 0 k σ w) (hm:P.follows .mixedOrders = true:=by kernel_rfl) (hp:aF l.toArray = true:=by kernel_rfl):MX P Z b n ds cs (.code (.region id l.toArray true) :: k) σ w:=MX.drawT t (ba l.toArray) rfl hm hp h
theorem jA {α:Type} [Rep α] {w w0:World} {O:List Ob} {e:TypeId} {σ:List (Nat × Value)} {ty:TypeId} {ps:String} {af:Array Edge} {t:TypeId} {g:Option (Nat × Bool)} {bytes:Nat} {z:Value} {zc:List Value} {dd:Option Tmp} {p:Nat × Operand} (x:α) (v:Value) (h:St w0 w O) (hE:ElT P t e (Rep.size α) bytes z zc) (hv:evs σ [p.2] [v]) (hf:Instr.fill (fun i=>some (i * Rep.size α,Rep.size α)) (Array.map (fun x=>zc.toArray[x % zc.toArray.size]!) (Array.range (1 * Rep.size α))) (List.zip (List.map Prod.fst [p]) [v]) = some [v].toArray:=by kernel_rfl) (hb:(1 * Rep.size α).ble 16777216 = true:=by rfl) (hl:[v].length = 1 * Rep.size α:=by rfl):Does P ⟨dd,.buildSlice t 1 [p].toArray,ty,ps,af,g⟩ σ w (New w0 w O (fun b' =>.row w0.heap.size e (Rep.size α) (.slice (some { block:=b', off:=0 }) 1 1) [x].length [v]) fun b' =>.slice (some { block:=b', off:=0 }) 1 1):=Does.build (xs:=[x]) rfl h hE hb hv hf hl
theorem jB (α:Type) [Rep α] {w w0:World} {O:List Ob} {e:TypeId} {σ:List (Nat × Value)} {ty:TypeId} {ps:String} {af:Array Edge} {t:TypeId} {g:Option (Nat × Bool)} {bytes:Nat} {z:Value} {zc:List Value} {dd:Option Tmp} (h:St w0 w O) (hE:ElT P t e (Rep.size α) bytes z zc) (hf:Instr.fill (fun i=>some (i * Rep.size α,Rep.size α)) (Array.map (fun x=>zc.toArray[x % zc.toArray.size]!) (Array.range (0 * Rep.size α))) (List.zip (List.map Prod.fst ([]:List (Nat × Operand))) []) = some [].toArray:=by kernel_rfl) (hb:(0 * Rep.size α).ble 16777216 = true:=by rfl) (hl:([]:List Value).length = 0 * Rep.size α:=by rfl):Does P ⟨dd,.buildSlice t 0 [].toArray,ty,ps,af,g⟩ σ w (New w0 w O (fun b' =>.row w0.heap.size e (Rep.size α) (.slice (some { block:=b', off:=0 }) 0 0) ([]:List α).length []) fun b' =>.slice (some { block:=b', off:=0 }) 0 0):=Does.build (xs:=[]) rfl h hE hb ak hf hl
theorem jC {α:Type} [Rep α] {w0 w:World} {O:List Ob} (x:α) (v:Value) (h:St w0 w O) (L:List Nat) (hr:Rep.R w (bl O ++ L) [v] x):Cells w (bl O ++ L) [v] [x]:=Cells.at_ (cs:=[v]) h L (Cells.cons hr (Cells.nil _ _))
theorem jD (α:Type) [Rep α] {w0 w:World} {O:List Ob} (h:St w0 w O) (L:List Nat):Cells w (bl O ++ L) [] ([]:List α):=Cells.nil _ _
theorem jE {l:List Oper} {f:FuncId} {c:Operand} {xs:List Operand} {vs:List Value} {d:Nat} {ty:TypeId} {ps:String} {af:Array Edge} {ts:Array TypeId} {R:World -> Value -> Prop} (hB:bh P f = true) (hc:ev σ c = some (.func (.func f) #[] #[])) (hx:evs σ xs vs) (h:∀ w', Agree [] w w' -> Calls P f ([] ++ vs ++ []).toArray w' (aj w' R)) (hd:d.blt n = true) (K:∀ (w1:World) (v:Value),Agree [] w w1 -> R w1 v -> RG P Z b n ds cs ops l k ((d,v) :: σ) w1):RG P Z b n ds cs ops (⟨some d,.call ⟨.value c,xs.toArray,ts⟩,ty,ps,af,none⟩ :: l) k σ w:=RG.call' (fst:=[]) (cap:=[]) .plain hB hc hx h hd K
end
theorem geE.{u} {α:Type u} {l:List α} {i:Nat} (h:i < l.length):l[i]? = some l[i]:=List.getElem?_eq_getElem h
theorem leC.{u} {α:Type u} {a:α} {l:List α}:(a :: l).length = l.length + 1:=rfl
theorem leN.{u} {α:Type u}:([]:List α).length = 0:=rfl
abbrev U8:=UInt64 × UInt64 × UInt64 × UInt64 × UInt64 × UInt64 × UInt64 × UInt64
abbrev U16:=UInt64 × UInt64 × UInt64 × UInt64 × UInt64 × UInt64 × UInt64 × UInt64 × UInt64 × UInt64 × UInt64 × UInt64 × UInt64 × UInt64 × UInt64 × UInt64
theorem Tt {w1 w2 w3:World} {O1 O2 O3:List Ob} (h:Tr w1 O1 w2 O2) (k:Tr w2 O2 w3 O3):Tr w1 O1 w3 O3:=h.trans k
theorem bi {α β:Type} {x:Option α} {f:α -> Option β} {r:β} (h:x.bind f = some r):∃ y,x = some y/\f y = some r:=gZ h
abbrev Aa:=@RG.nil
abbrev Ab:=@RG.va
abbrev Ac:=@MX.sr
abbrev Ae:=@RG.mo
abbrev Af:=@RD.vw
abbrev Ag:=@RG.so
abbrev Ah:=@FV.extract
abbrev Ai:=@RG.new
abbrev Aj:=@MX.seq
abbrev Ak:=@FV.move
abbrev Am:=@MX.region
abbrev Ao:=@MX.ret
abbrev Ap:=@RT.leave
abbrev Aq:=@PN.leave
abbrev Ar:=@Cells.cons
abbrev Au:=@MX.skip
abbrev Av:=@Rep.keep0
abbrev Aw:=@Does.al
abbrev Ax:=@Does.box
abbrev Ay:=@MX.block
abbrev Az:=@Rep.mv
abbrev AA:=@Acts.storeAll
abbrev AB:=@St.start
abbrev AC:=@FV.lN
abbrev AD:=@RD.vx
abbrev AE:=@MX.inBlock
abbrev AF:=@St.arrB
abbrev AG:=@MX.start
abbrev AH:=@Cells.at_
abbrev AI:=@Calls.okp
abbrev AJ:=@RD.done
abbrev AK:=@MX.drawT
abbrev AL:=@RG.no
abbrev AM:=@RD.one
abbrev AN:=@Cells.mv
abbrev AO:=@FV.buildV
abbrev AP:=@FV.fa
abbrev AQ:=@FV.l1
abbrev AR:=@Cells.nil
abbrev AS:=@RG.sa
abbrev AT:=@Rep.mv0
abbrev AU:=@RG.l1
abbrev AV:=@FV.indexArr
abbrev AW:=@MX.ifd
abbrev AX:=@RG.ga
abbrev AY:=@FV.loadN
abbrev AZ:=@Rep.o1
abbrev Ba:=@FV.assign
abbrev Bb:=@Does.build
abbrev Bc:=@RT.t1
abbrev Bd:=@RO.val
abbrev Be:=@MX.cond_t
abbrev Bf:=@MX.exit
abbrev Bg:=@RG.fa
abbrev Bh:=@Rep.lenle
abbrev Bi:=@RG.cq
abbrev Bj:=@RO.callE
abbrev Bk:=@RG.enterP
abbrev Bl:=@FV.len
abbrev Bm:=@FV.pick_f
abbrev Bn:=@FV.lssN
abbrev Bo:=@RG.callE
abbrev Bp:=@FV.addN
abbrev Bq:=@RG.call'
abbrev Br:=@Rep.nth
abbrev Bs:=@Acts.store
abbrev Bu:=@FV.ia
abbrev Bv:=@St.freeze
abbrev Bw:=@FV.makeInterface
abbrev Bx:=@RD.cl
abbrev By:=@RD.nw
abbrev Bz:=@RD.offs
abbrev BA:=@MX.cond_f
abbrev BB:=@RD.each
abbrev BC:=@St.nthOwn
abbrev BD:=@RD.cq
abbrev BE:=@PN.take
abbrev BF:=@MX.startP
abbrev BG:=@FV.makeFunc
abbrev BH:=@FV.addc
abbrev BI:=@St.delS
abbrev BJ:=@St.delT
abbrev BK:=@Rep.at_
end Go.Proofs.YtkhpmhhnolpcnaaGreatDoor
namespace Go.Proofs.YtkhpmhhnolpcnaaGreatDoor
open Go Go.RowKit
section
variable {P:Program} {σ:List (Nat × Value)} {w w0:World} {x y:Operand} {d:Option Tmp} {t t' ty:TypeId} {ps:String} {af:Array Edge} {g:Option (Nat × Bool)} {O O' : List Ob} {α:Type} [Rep α] {L:List Nat} {xs ys:List α} {v v' : Value} {cs:List Value} {base:Nat} {e:TypeId} {n' cap bk j sz:Nat} {old news new' : List Value}
theorem row_put {w' : World} (s:St w0 w O) (u:Upd O (.row base e sz (.slice (some ⟨bk,0,none⟩) n' cap) n' old) (.row base e sz (.slice (some ⟨bk,0,none⟩) n' cap) n' new') O') (hw:Agree [] w w') (hfit:j + news.length <= old.length) (hcs:old.take j ++ news ++ old.drop (j + news.length) = new') :
  ∃ cur:Array Value,w'.heap[bk]? = some (.cells cur e (0,0))/\j + news.length <= cur.size/\St w0 (w'.setRow bk (cur.toList.take j ++ news ++ cur.toList.drop (j + news.length)).toArray) O' /\Tr w O (w'.setRow bk (cur.toList.take j ++ news ++ cur.toList.drop (j + news.length)).toArray) O' :=by
 obtain ⟨⟨hl,hh⟩,hmost⟩:=s.get u
 rcases hh with ⟨hh,_⟩ | ⟨g', cap', cur,he,hbase,hgk,hnc,hcm,hcur,htake⟩
 ·cases hh
 ·cases he
  have hb' : w'.heap[bk]? = some (.cells cur.toList.toArray e (0,0)):=aK hw (by simpa using hgk)
  have hle:old.length <= cur.toList.length:=by rw [<- htake,List.length_take]; omega
  have hag:Agree [bk] w (w'.setRow bk (cur.toList.take j ++ news ++ cur.toList.drop (j + news.length)).toArray):=(hw.widen).trans (bH hb' _)
  have hL:∀ b ∈ [bk],(Ob.row base e sz (.slice (some ⟨bk,0,none⟩) n' cap) n' old).block = some b:=by simp [Ob.block,Value.ownBlock]
  have hnl:new'.length = old.length:=by rw [<- hcs]; simp only [List.length_append,List.length_take,List.length_drop]; omega
  refine ⟨cur,by simpa using hb', by rw [<- Array.length_toList]; omega,s.upd u hag hL ⟨⟨by rw [hnl,hl],.inr ⟨bk,cap,_,rfl,hbase,setRow_heap w' bk _ _ e _ hb', hnc,hcm,?_,?_⟩⟩,hmost⟩ (fun b e=>.inl e),Tr.upd u hag hL (fun b e=>.inl e)⟩
  ·rw [List.size_toArray]; simp only [List.length_append,List.length_take,List.length_drop]
   rw [<- hcur,<- Array.length_toList]; omega
  ·rw [List.toList_toArray,<- hcs]
   have hn:n' * sz = old.length:=hl.symm
   have hoc:∀ i,i < old.length -> old[i]? = cur.toList[i]?:=fun i hi=>by rw [<- htake,List.getElem?_take_of_lt (by omega)]
   apply List.ext_getElem?
   intro i
   rcases Nat.lt_or_ge i old.length with hi | hi
   ·rw [List.getElem?_take_of_lt (by omega)]
    rcases Nat.lt_or_ge i j with h2 | h2
    ·rw [List.append_assoc,List.append_assoc,List.getElem?_append_left (by rw [List.length_take]; omega),List.getElem?_append_left (by rw [List.length_take]; omega),List.getElem?_take_of_lt h2,List.getElem?_take_of_lt h2,hoc i hi]
    ·rcases Nat.lt_or_ge i (j + news.length) with h3 | h3
     ·rw [List.getElem?_append_left (by rw [List.length_append,List.length_take]; omega),List.getElem?_append_right (by rw [List.length_take]; omega),List.getElem?_append_left (by rw [List.length_append,List.length_take]; omega),List.getElem?_append_right (by rw [List.length_take]; omega),List.length_take,List.length_take,Nat.min_eq_left (by omega),Nat.min_eq_left (by omega)]
     ·rw [List.getElem?_append_right (by rw [List.length_append,List.length_take]; omega),List.getElem?_append_right (by rw [List.length_append,List.length_take]; omega),List.getElem?_drop,List.getElem?_drop,List.length_append,List.length_append,List.length_take,List.length_take,Nat.min_eq_left (by omega),Nat.min_eq_left (by omega),show j + news.length + (i - (j + news.length)) = i by omega,hoc i hi]
   ·rw [List.getElem?_eq_none (by rw [List.length_take]; omega),List.getElem?_eq_none (by simp only [List.length_append,List.length_take,List.length_drop]; omega)]
omit [Rep α] in
theorem RG.doesN {Z:Machine -> Prop} {b:Frame} {n:Nat} {ds:List Deferred} {cs:List Frame} {k:List Item} {ops:Array Oper} {l:List Oper} {op:Op} {Q:Value -> World -> Prop} (hg:Want ops σ g true) (D:DoesL P ⟨none,op,ty,ps,af,g⟩ σ w Q) (h:∀ u w1,Q u w1 -> RG P Z b n ds cs ops l k σ w1):RG P Z b n ds cs ops (⟨none,op,ty,ps,af,g⟩ :: l) k σ w:=by
 intro i hi a w' ha hw
 obtain ⟨h1,h2⟩:=aL hi
 rw [List.length_cons,List.range'_succ]
 obtain ⟨u,w1,hr,hq⟩:=D a.eval (fun x u hx=>ha.ev hx) w' hw
 exact .step (cu (aW hi) (hg.eq ha) (bQ hr)) (h u w1 hq (i + 1) h2 _ _ ha (Agree.refl _ _))
theorem FV.lenSub {lo m n:Nat} (ht:P.underlying t = some (.slice e)) (h:SubV v v' lo sz m n) (hx:ev σ x = some v'):FV P ⟨d,.call { callee:=.builtin .len,args:=#[x],argTypes:=#[t] },ty,ps,af,g⟩ σ w (.int .i64 m):=by
 obtain ⟨A,c,e1,_⟩:=h.at_
 exact FV.lenV ht hx e1
theorem FV.idxSub {lo m n i bk n' c' : Nat} {kd:IntKind} {jj:Int} (ht:cB P t sz = true) (h:SubV v v' lo sz m n) (he:v = .slice (some ⟨bk,0,none⟩) n' c') (hx:ev σ x = some v') (hy:ev σ y = some (.int kd jj)) (hj:jj = (i:Int)) (hi:lo + i < lo + m):FV P ⟨d,.indexAddr t x y,ty,ps,af,g⟩ σ w (.pointer (some ((⟨bk,0,none⟩:Addr).add ((lo + i) * sz)))):=by
 obtain ⟨A,c,e1,e2⟩:=h.at_
 obtain ⟨bk', c0,e3,e4⟩:=e2 (by omega)
 rw [he] at e3
 cases e3
 subst e4
 have:=FV.idxAddr (P:=P) (dd:=d) (ty:=ty) (ps:=ps) (af:=af) (g:=g) (w:=w) ht hx e1 hy hj (show i < m by omega)
 rw [bj,<- Nat.add_mul] at this
 exact this
theorem gk (zs:List Value):∀ m,(Builtin.zeroCells zs.toArray m).toList = (List.replicate m zs).flatten:=by
 intro m
 unfold Builtin.zeroCells
 rw [Array.toList_map,Array.toList_range]
 induction m with
 | zero=>simp
 | succ m ih=>
  rw [List.replicate_succ', List.flatten_append,<- ih,Nat.succ_mul,List.range_add,List.map_append]
  congr 1
  simp only [List.flatten_cons,List.flatten_nil,List.append_nil,List.map_map,List.size_toArray]
  apply List.ext_getElem?
  intro i
  rw [List.getElem?_map]
  by_cases hi:i < zs.length
  ·rw [List.getElem?_range hi,List.getElem?_eq_getElem hi]
   simp only [Option.map_some,Function.comp,Nat.mul_add_mod_of_lt hi]
   rw [getElem!_pos _ _ (by simpa using hi)]
   simp
  ·rw [List.getElem?_eq_none (by simpa using hi),List.getElem?_eq_none (by omega)]; rfl
def clr (z:α) (xs:List α) (lo m:Nat):List α:=xs.take lo ++ List.replicate m z ++ xs.drop (lo + m)
omit [Rep α] in
theorem df {z:α} {lo m:Nat} (h:lo + m <= xs.length):(clr z xs lo m).length = xs.length:=by
 unfold clr
 simp only [List.length_append,List.length_take,List.length_drop,List.length_replicate]
 omega
theorem DoesL.clear {lo m bytes:Nat} {z:Value} {zc:List Value} {x0:α} {F:List Value -> List Ob} (s:St w0 w O) (h:SubV v v' lo (Rep.size α) m xs.length) (u:∀ cs', Upd O (.row base e (Rep.size α) v xs.length cs) (.row base e (Rep.size α) v (clr x0 xs lo m).length cs') (F cs')) (el:ElT P t e (Rep.size α) bytes z zc)
  (hx:ev σ x = some v') (hc:Cells w (bl O ++ L) cs xs) (hz:∀ (w:World) (L:List Nat),Rep.R w L zc x0) :
  DoesL P ⟨d,.call { callee:=.builtin .clear,args:=#[x],argTypes:=#[t] },ty,ps,af,g⟩ σ w (fun r w1=>r = .tuple #[]/\∃ cs', St w0 w1 (F cs')/\Tr w O w1 (F cs')/\Cells w1 (bl (F cs') ++ L) cs' (clr x0 xs lo m)):=by
 intro ρ ha w' hw
 obtain ⟨Ad,cd,rfl,g6⟩:=h.at_
 have hle:=h.le
 have hlen:=df (z:=x0) hle
 have hzl:zc.length = Rep.size α:=Rep.len (hz w [])
 have hCells:Cells w (bl O ++ L) (cs.take (lo * Rep.size α) ++ (List.replicate m zc).flatten ++ cs.drop (lo * Rep.size α + m * Rep.size α)) (clr x0 xs lo m):=by
  unfold clr
  have p1:=Cells.part (lo:=0) (m:=lo) hc (by omega)
  have p2:=Cells.replicate (hz w (bl O ++ L)) m
  have p3:=Cells.part (lo:=lo + m) (m:=xs.length - (lo + m)) hc (by omega)
  simp only [Nat.zero_mul,List.drop_zero] at p1
  rw [List.take_of_length_le (by rw [List.length_drop,hc.1,<- Nat.sub_mul]; exact Nat.le_refl _),List.take_of_length_le (by rw [List.length_drop]; exact Nat.le_refl _),Nat.add_mul] at p3
  exact (p1.append p2).append p3
 by_cases hk:m = 0
 ·subst hk
  refine ⟨.tuple #[],w', ?_,rfl,cs,?_⟩
  ·have hrun:(Builtin.clear_ #[t] ty #[.slice Ad 0 cd]).run P w' = .ok (.tuple #[]) w' :=by
    cases Ad <;> simp [Builtin.clear_,run_underlying el.ht]
   simp [execOp,resolve,invoke,builtin,ha _ _ hx,hrun]
  ·have e0:clr x0 xs lo 0 = xs:=by unfold clr; simp
   rw [e0] at hCells u ⊢
   simp only [List.replicate_zero,List.flatten_nil,List.append_nil,Nat.zero_mul,Nat.add_zero,List.take_append_drop] at hCells
   have hst:=s.upd (u cs) (L:=[]) hw (by simp) (Ob.keep (s.get (u cs)) hw (by simp)) (fun b hb=>.inl hb)
   have htr:Tr w O w' (F cs):=Tr.upd (u cs) (L:=[]) hw (by simp) (fun b hb=>.inl hb)
   exact ⟨hst,htr,hCells.mv htr⟩
 ·obtain ⟨bk,c0,rfl,rfl⟩:=g6 hk
  have hcl:=hc.1
  have hnl:((List.replicate m zc).flatten).length = m * Rep.size α:=by simp [hzl]
  have hfit:lo * Rep.size α + ((List.replicate m zc).flatten).length <= cs.length:=by rw [hnl,hcl,<- Nat.add_mul]; exact Nat.mul_le_mul_right _ hle
  have u2:=u (cs.take (lo * Rep.size α) ++ (List.replicate m zc).flatten ++ cs.drop (lo * Rep.size α + m * Rep.size α))
  rw [hlen] at u2
  obtain ⟨cur,hb,hcu,h2,h3⟩:=row_put (w' :=w') (j:=lo * Rep.size α) (news:=(List.replicate m zc).flatten) s u2 hw hfit (by rw [hnl])
  have h1:∀ q ∈ (List.replicate m zc).flatten,q.oneCell' = true:=fun q hq=>by
   obtain ⟨l,hl,hq⟩:=List.mem_flatten.1 hq
   rw [List.eq_of_mem_replicate hl] at hq
   exact Rep.one (hz w []) q hq
  have hst:=run_storeCells_at P bk (lo * Rep.size α) e (List.replicate m zc).flatten 0 cur w' hb (by simpa using hcu) h1
  have hadd:(⟨bk,0,none⟩:Addr).add (lo * Rep.size α) = ⟨bk,lo * Rep.size α,none⟩:=by unfold Addr.add; split <;> simp_all
  have hzero:(zeroValue e).run P w' = .ok z w' :=by
   have hi:=el.info
   cases hq:P.info? e with
   | none=>rw [hq] at hi; cases hi
   | some i=>rw [hq] at hi; simp at hi; simp [zeroValue,typeInfo,hq,hi.1]
  obtain ⟨m', rfl⟩:∃ m', m = m' + 1:=⟨m - 1,by omega⟩
  have hrun:(Builtin.clear_ #[t] ty #[.slice (some ((⟨bk,0,none⟩:Addr).add (lo * Rep.size α))) (m' + 1) cd]).run P w' = .ok (.tuple #[]) (w'.setRow bk (cur.toList.take (lo * Rep.size α) ++ (List.replicate (m' + 1) zc).flatten ++ cur.toList.drop (lo * Rep.size α + ((List.replicate (m' + 1) zc).flatten).length)).toArray):=by
   rw [hadd]
   simp only [Nat.add_zero] at hst
   simp [Builtin.clear_,run_underlying el.ht,hzero,el.hz,gk,hst]
  refine ⟨.tuple #[],w'.setRow bk (cur.toList.take (lo * Rep.size α) ++ (List.replicate (m' + 1) zc).flatten ++ cur.toList.drop (lo * Rep.size α + ((List.replicate (m' + 1) zc).flatten).length)).toArray,?_,rfl,cs.take (lo * Rep.size α) ++ (List.replicate (m' + 1) zc).flatten ++ cs.drop (lo * Rep.size α + (m' + 1) * Rep.size α),?_⟩
  ·simp only [execOp,resolve,invoke,builtin,Array.map]
   simp [ha _ _ hx,hrun]
  ·exact ⟨h2,h3,hCells.mv h3⟩
end
end Go.Proofs.YtkhpmhhnolpcnaaGreatDoor
