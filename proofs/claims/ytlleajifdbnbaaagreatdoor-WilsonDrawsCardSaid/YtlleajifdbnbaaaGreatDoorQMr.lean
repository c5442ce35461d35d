/- Laws of the walk, more of them: strings, words of 32 bits, arrays as slices. No program in sight. -/
import Derived.Test.YtlleajifdbnbaaaGreatDoorQMj
import Derived.Laws.BytesString
import Derived.Laws.CopyRow
import Derived.Maps.RangeRun
namespace Go.Proofs.YtlleajifdbnbaaaGreatDoor
open Go Go.RowKit
instance:Rep UInt32:=Rep.plain (fun x=>.int .u32 (x.toNat:Int)) (fun _=>rfl)
section
variable {P:Program} {σ:List (Nat × Value)} {w w0:World} {x y z:Operand} {d:Option Tmp} {t t' s ty e:TypeId} {ps:String} {af:Array Edge} {g:Option (Nat × Bool)} {O O' : List Ob} {v:Value}
/-! ### Bytes as a string -/
/-! ### Arrays as slices -/
/-! ### Great arrays -/
end
/-! ### Calls that hand over slices of their own -/
def aF (base:Nat) (l:List (TypeId × Nat × Value × Nat × List Value)):List Ob:=l.map fun r=>.row base r.1 r.2.1 r.2.2.1 r.2.2.2.1 r.2.2.2.2
theorem ce (b b' : Nat):∀ l,bl (aF b l) = bl (aF b' l)
 | []=>rfl
 | r :: l=>by
  have:=ce b b' l
  unfold aF at *
  rw [List.map_cons,List.map_cons,eg,eg,this]; rfl
theorem Owns.rebase {w:World} {b b' : Nat} (h:b' <= b):∀ {l},Owns w (aF b l) -> Owns w (aF b' l)
 | [],_=>trivial
 | r :: l,⟨h1,h2,h3⟩=>by
  refine ⟨?_,fun c hc=>?_,Owns.rebase h h3⟩
  ·obtain ⟨⟨h4,h5⟩,h6⟩:=h1
   refine ⟨⟨h4,?_⟩,h6⟩
   rcases h5 with h5 | ⟨g,cap,cur,e1,e2,rest⟩
   ·exact .inl h5
   ·exact .inr ⟨g,cap,cur,e1,Nat.le_trans h e2,rest⟩
  ·rw [show List.map _ l = aF b' l from rfl,ce b' b]; exact h2 c hc
theorem St.rebase {w w9 w8:World} {b b' : Nat} {l:List (TypeId × Nat × Value × Nat × List Value)} (s:St w9 w8 (aF b l)) (hw:Agree [] w w9) (h:b' <= b):St w w8 (aF b' l):=
 ⟨hw.trans s.ag,fun c hc=>Nat.le_trans hw.size (s.new c (by rw [ce b b']; exact hc)),s.ok.rebase h⟩
theorem Cells.rebase {α:Type} [Rep α] {w:World} {b b' : Nat} {l:List (TypeId × Nat × Value × Nat × List Value)} {L:List Nat} {cs:List Value} {xs:List α} (h:Cells w (bl (aF b l) ++ L) cs xs):Cells w (bl (aF b' l) ++ L) cs xs:=by rw [ce b' b]; exact h
theorem gI {α:Type} [Rep α] {w:World} {b:Nat} {l:List (TypeId × Nat × Value × Nat × List Value)} {O:List Ob} {L:List Nat} {cs:List Value} {xs:List α} (h:Cells w (bl (aF b l) ++ (bl O ++ L)) cs xs):Cells w (bl (aF b l ++ O) ++ L) cs xs:=by
 rw [ca,List.append_assoc]; exact h
/-! ### Facts at a standing -/
section
variable {α:Type} [Rep α] {w0 w w1:World} {O O' : List Ob}
theorem Rep.nilAt (_:St w0 w O) (L:List Nat):Rep.R w (bl O ++ L) [.slice none 0 0] ([]:List α):=Rep.nilSlice _ _
theorem Rep.at_ {v:Value} {xs:List α} (_:St w0 w O) (L:List Nat) (h:Rep.R w (bl O ++ L) [v] xs):Rep.R w (bl O ++ L) [v] xs:=h
theorem Cells.at_ {cs:List Value} {xs:List α} (_:St w0 w O) (L:List Nat) (h:Cells w (bl O ++ L) cs xs):Cells w (bl O ++ L) cs xs:=h
end
section
variable {w0 w w1:World} {O O' : List Ob}
theorem St.delS {o:Ob} (s:St w0 w O) (u:Out O o O'):St w0 w O' :=s.del u.del
theorem St.delT {o:Ob} (_:St w0 w O) (u:Out O o O'):Tr w O w O' :=Tr.del u.del
theorem St.arrB (s:St w0 w O) (h:Arr O O'):St w0 w O' /\Tr w O w O' :=⟨s.arr h,Tr.arr h⟩
theorem St.agr (s:St w0 w O) (h:Agree [] w w1):St w0 w1 O/\Tr w O w1 O:=⟨s.agree h,Tr.agree h⟩
theorem St.nilRowT (_:St w0 w O) (e:TypeId) (sz:Nat):Tr w O w (.row w0.heap.size e sz (.slice none 0 0) 0 [] :: O):=Tr.nilRow _ _ _
theorem gQ {e:TypeId} {sz n:Nat} {v:Value} {cs:List Value} {b:Nat} (s:St w0 w O) (s1:St w w1 (aF b [(e,sz,v,n,cs)])):St w0 w1 (.row b e sz v n cs :: O):=St.merge s s1
theorem own_tr {e:TypeId} {sz n:Nat} {v:Value} {cs:List Value} {b:Nat} (s:St w0 w O) (s1:St w w1 (aF b [(e,sz,v,n,cs)])):Tr w O w1 (.row b e sz v n cs :: O):=Tr.merge s s1
theorem gH {P:Program} {f:FuncId} {vs:Array Value} {w9:World} {α:Type} [Rep α] {F:Value -> Value} {e:TypeId} {sz n b0:Nat} {L:List Nat} {xs:List α} (h:Calls P f vs w9 (ah w9 fun w' u=>∃ (v:Value) (cs:List Value),u = F v/\St w9 w' (aF w9.heap.size [(e,sz,v,n,cs)])/\Cells w' (bl (aF w9.heap.size [(e,sz,v,n,cs)]) ++ L) cs xs)) (hw:Agree [] w w9) (hb:b0 <= w9.heap.size) :
  Calls P f vs w9 (ah w9 fun w' u=>∃ (v:Value) (cs:List Value),u = F v/\St w w' (aF b0 [(e,sz,v,n,cs)])/\Cells w' (bl (aF b0 [(e,sz,v,n,cs)]) ++ L) cs xs):=
 Calls.gives h fun _ _ ⟨v,cs,hu,s,hc⟩=>⟨v,cs,hu,s.rebase hw hb,hc.rebase⟩
end
/-! ### Short forms -/
section
variable {P:Program} {Z:Machine -> Prop} {b:Frame} {n:Nat} {ds:List Deferred} {cs:List Frame} {k:List Item} {σ:List (Nat × Value)} {w w0:World} {ops:Array Oper} {l:List Oper} {d:Nat} {op:Op} {ty:TypeId} {ps:String} {af:Array Edge} {v:Value} {x y:Operand} {t f m m' i:Nat} {O O' : List Ob} {g:Option (Nat × Bool)} {κ:KP}
theorem RG.vv (hq:FV P ⟨some d,op,ty,ps,af,none⟩ σ w v) (hd:Nat.blt d n = true) (h:RG P Z b n ds cs ops l k ((d,v) :: σ) w):RG P Z b n ds cs ops (⟨some d,op,ty,ps,af,none⟩ :: l) k σ w:=RG.val' .plain hq hd h
theorem RG.mv (hx:ev σ x = some v) (hd:Nat.blt d n = true) (h:RG P Z b n ds cs ops l k ((d,v) :: σ) w):RG P Z b n ds cs ops (⟨some d,.move x,ty,ps,af,none⟩ :: l) k σ w:=RG.val' .plain (FV.move hx) hd h
theorem RG.sg (hx:ev σ x = some v) (hd:Nat.blt d n = true) (h:RG P Z b n ds cs ops l k ((d,v) :: σ) w):RG P Z b n ds cs ops (⟨some d,.assign x,ty,ps,af,none⟩ :: l) k σ w:=RG.val' .plain (FV.assign hx) hd h
theorem MX.sr {id:Nat} {c:Code} (h:RG P Z b n ds cs l.toArray l (.code c :: k) σ w):MX P Z b n ds cs (.code (.seq (.region id l.toArray false) c) :: k) σ w:=MX.seq (MX.region h)
theorem Acts.storeAll {bk:Nat} {p:Addr} {old news:List Value} {e t:TypeId} {dd:Option Tmp} (s:St w0 w O) (u:Upd O (.cells bk old e) (.cells bk news e) O') (hx:ev σ x = some (.pointer (some p))) (hp:p = ⟨bk,0,none⟩) (hy:ev σ y = some v) (hv:v.cells = news.toArray) (hs:bO P t news.length = true) (hl:old.length = news.length) (h1:∀ u ∈ news,u.oneCell' = true):Acts P ⟨dd,.store t x y,ty,ps,af,g⟩ σ w (Now w0 w O O'):=
 Acts.store (j:=0) s u hx hp hy hv hs (by rw [Nat.ble_eq,hl]; omega) h1 (by rw [Nat.zero_add,<- hl,List.drop_length,List.take_zero]; simp)
theorem RD.vw {T:List (Nat × Nat × Nat)} (i m' : Nat) (hT:aP ops = T) (hi:ops[i]? = some ⟨some d,op,ty,ps,af,none⟩) (hp:aw ops = true) (hq:∀ w,FV P ⟨some d,op,ty,ps,af,none⟩ σ w v) (hd:Nat.blt d n = true)
  (h:RD κ P Z b n ds cs ops t f m' k ((d,v) :: σ) w) (hB:cI T t m i m' = true:=by kernel_rfl) (hfr:κ.free i = true:=by rfl):RD κ P Z b n ds cs ops t (f + 1) m k σ w:=RD.vP i m' hT hi hp .plain hq hd h hB hfr
theorem RD.vx {T:List (Nat × Nat × Nat)} (i m' W:Nat) (hT:aP ops = T) (hi:ops[i]? = some ⟨some d,op,ty,ps,af,none⟩) (hp:aw ops = true) (hq:FV P ⟨some d,op,ty,ps,af,none⟩ σ w v) (hd:Nat.blt d n = true)
  (h:RD κ P Z b n ds cs ops t f m' k ((d,v) :: σ) w) (hB:dS T t m W i m' = true:=by kernel_rfl) (hfr:κ.free i = true:=by rfl):RD κ P Z b n ds cs ops t (f + 1) m k σ w:=RD.val (dg hT hB) hi hp .plain hq hd h hfr
theorem RD.cq {T:List (Nat × Nat × Nat)} {fn:FuncId} {c:Operand} {xs:List Operand} {vs:List Value} {ts:Array TypeId} (i m' W:Nat) (v:Value) (hT:aP ops = T) (hi:ops[i]? = some ⟨some d,.call { callee:=.value c,args:=xs.toArray,argTypes:=ts },ty,ps,af,none⟩) (hp:aw ops = true)
  (hf:br P fn = true) (hcal:ev σ c = some (.func (.func fn) #[] #[])) (hv:evs σ xs vs) (hc:∀ w', Agree [] w w' -> Calls P fn ([] ++ vs ++ []).toArray w' (ah w' fun _ u=>u = v)) (hd:Nat.blt d n = true)
  (h:RD κ P Z b n ds cs ops t f m' k ((d,v) :: σ) w) (hB:dS T t m W i m' = true:=by kernel_rfl) (hfr:κ.free i = true:=by rfl):RD κ P Z b n ds cs ops t (f + 1) m k σ w:=RD.callq (fst:=[]) (cap:=[]) (dg hT hB) hi hp .plain hf hcal hv hc hd h hfr
theorem RG.cq {fn:FuncId} {c:Operand} {xs:List Operand} {vs:List Value} {ts:Array TypeId} (v:Value) (hf:br P fn = true) (hcal:ev σ c = some (.func (.func fn) #[] #[])) (hv:evs σ xs vs)
  (hc:∀ w', Agree [] w w' -> Calls P fn ([] ++ vs ++ []).toArray w' (ah w' fun _ u=>u = v)) (hd:Nat.blt d n = true) (h:RG P Z b n ds cs ops l k ((d,v) :: σ) w) :
  RG P Z b n ds cs ops (⟨some d,.call { callee:=.value c,args:=xs.toArray,argTypes:=ts },ty,ps,af,none⟩ :: l) k σ w:=RG.callq' (fst:=[]) (cap:=[]) .plain hf hcal hv hc hd h
theorem RD.nu {T:List (Nat × Nat × Nat)} {mk:Nat -> Ob} {pv:Nat -> Value} (i m' : Nat) (hT:aP ops = T) (hi:ops[i]? = some ⟨some d,op,ty,ps,af,g⟩) (hg:Want ops σ g true) (hd:Nat.blt d n = true) (D:Does P ⟨some d,op,ty,ps,af,g⟩ σ w (New w0 w O mk pv)) (h:∀ w1 b', St w0 w1 (mk b' :: O) -> Tr w O w1 (mk b' :: O) -> RD κ P Z b n ds cs ops t f m' k ((d,pv b') :: σ) w1)
  (h1:cK T m [i] = true:=by kernel_rfl) (h2:dV T m i m' = true:=by kernel_rfl) (hk:κ.nd (lst ops.size m) -> Kp κ.c w:=by exact KP.triv):RD κ P Z b n ds cs ops t (f + 1) m k σ w:=RD.one (cb hT h1) (RO.new (cE hT h2) hi hg hd D h) hk
theorem RD.nw {T:List (Nat × Nat × Nat)} (i m' : Nat) (hT:aP ops = T) (hi:ops[i]? = some ⟨none,op,ty,ps,af,g⟩) (htl:tail t i = true) (hg:Want ops σ g true) (D:Acts P ⟨none,op,ty,ps,af,g⟩ σ w (Now w0 w O O')) (h:∀ w1,St w0 w1 O' -> Tr w O w1 O' -> RD κ P Z b n ds cs ops t f m' k σ w1)
  (h1:cK T m [i] = true:=by kernel_rfl) (h2:dV T m i m' = true:=by kernel_rfl) (hk:κ.nd (lst ops.size m) -> Kp κ.c w:=by exact KP.triv):RD κ P Z b n ds cs ops t (f + 1) m k σ w:=RD.one (cb hT h1) (RO.now (cE hT h2) hi htl hg D h) hk
theorem RD.cl {T:List (Nat × Nat × Nat)} {fn:FuncId} {c:Operand} {xs:List Operand} {vs:List Value} {ts:Array TypeId} {R:World -> Value -> Prop} (i m' : Nat) (hT:aP ops = T) (hi:ops[i]? = some ⟨some d,.call { callee:=.value c,args:=xs.toArray,argTypes:=ts },ty,ps,af,g⟩) (hg:Want ops σ g true)
  (hf:br P fn = true) (hcal:ev σ c = some (.func (.func fn) #[] #[])) (hv:evs σ xs vs) (hc:∀ w', Agree [] w w' -> Calls P fn ([] ++ vs ++ []).toArray w' (ah w' R)) (hd:Nat.blt d n = true)
  (h:∀ w1 v,Agree [] w w1 -> R w1 v -> RD κ P Z b n ds cs ops t f m' k ((d,v) :: σ) w1) (h1:cK T m [i] = true:=by kernel_rfl) (h2:dV T m i m' = true:=by kernel_rfl) (hk:κ.nd (lst ops.size m) -> Kp κ.c w:=by exact KP.triv):RD κ P Z b n ds cs ops t (f + 1) m k σ w:=
 RD.one (cb hT h1) (RO.call (fst:=[]) (cap:=[]) (cE hT h2) hi hg hf hcal hv hc hd h) hk
end
theorem ck {l:List Value} (h:l.all (·.oneCell') = true):∀ u ∈ l,u.oneCell' = true:=List.all_eq_true.1 h
section
variable {α:Type} [Rep α] {w w0:World} {O O' : List Ob} {L:List Nat} {v:Value} {xs ys zs:List α} {cs:List Value} {e:TypeId} {base:Nat}
variable {P:Program} {σ:List (Nat × Value)} {ty:TypeId} {ps:String} {af:Array Edge} {x y:Operand} {t:TypeId} {g:Option (Nat × Bool)} {bytes:Nat} {z:Value} {zc:List Value} {dd:Option Tmp}
inductive Reps {α:Type} [Rep α] (w:World) (L:List Nat):List (List Value) -> List α -> Prop
 | nil:Reps w L [] []
 | cons {c:List Value} {u:α} {css:List (List Value)} {us:List α} (h:Rep.R w L c u) (t:Reps w L css us):Reps w L (c :: css) (u :: us)
end
section
variable {α:Type} [Rep α] {w0 w w9:World} {O:List Ob} {L:List Nat} {cs:List Value} {x:α}
theorem St.k0 (s:St w0 w O) (h:Rep.R w0 L cs x) (hw:Agree [] w w9):Rep.R w9 L cs x:=Rep.keep0 h (s.ag.trans hw)
theorem St.km (s:St w0 w O) (h:Rep.R w0 L cs x) (hw:Agree [] w w9):Rep.R w9 (bl O ++ L) cs x:=Rep.keep0 (Rep.mv0 h s) hw
theorem St.kd (_:St w0 w O) (h:Rep.R w (bl O ++ L) cs x) (hw:Agree [] w w9):Rep.R w9 L cs x:=Rep.keep0 (Rep.dropO h) hw
end
section
variable {P:Program} {Z:Machine -> Prop} {b:Frame} {n:Nat} {ds:List Deferred} {cs:List Frame} {k:List Item} {σ τ:List (Nat × Value)} {w:World} {ops:Array Oper} {l:List Oper} {d:Nat} {op:Op} {ty:TypeId} {ps:String} {af:Array Edge} {g:Option (Nat × Bool)} {t f m m' i:Nat} {Q:Value -> Prop} {κ:KP}
end
section
variable {w0 w w1:World} {O O' : List Ob}
end
/-! ### Shorter forms -/
@[reducible] def vI (x:Int):Value:=.int .i64 x
@[reducible] def vN:Value:=.slice none 0 0
@[reducible] def vP (b:Nat):Value:=.pointer (some ⟨b,0,none⟩)
@[reducible] def vS (b n:Nat):Value:=.slice (some ⟨b,0,none⟩) n n
section
variable {P:Program} {Z:Machine -> Prop} {b:Frame} {n:Nat} {ds:List Deferred} {cs:List Frame} {k:List Item} {σ:List (Nat × Value)} {w w0:World} {ops:Array Oper} {l:List Oper} {d:Nat} {op:Op} {ty:TypeId} {ps:String} {af:Array Edge} {v:Value} {x y c:Operand} {t f m m' i:Nat} {O O' : List Ob} {g:Option (Nat × Bool)} {dd:Option Tmp} {j:Nat} {q:Bool} {p:Addr}
theorem RG.mo (hx:ev σ x = some v) (h:RG P Z b n ds cs ops l k ((d,v) :: σ) w) (hd:Nat.blt d n = true:=by rfl):RG P Z b n ds cs ops (⟨some d,.move x,ty,ps,af,none⟩ :: l) k σ w:=RG.mv hx hd h
theorem RG.so (hx:ev σ x = some v) (h:RG P Z b n ds cs ops l k ((d,v) :: σ) w) (hd:Nat.blt d n = true:=by rfl):RG P Z b n ds cs ops (⟨some d,.assign x,ty,ps,af,none⟩ :: l) k σ w:=RG.sg hx hd h
theorem RG.va (hq:FV P ⟨some d,op,ty,ps,af,none⟩ σ w v) (h:RG P Z b n ds cs ops l k ((d,v) :: σ) w) (hd:Nat.blt d n = true:=by rfl):RG P Z b n ds cs ops (⟨some d,op,ty,ps,af,none⟩ :: l) k σ w:=RG.vv hq hd h
theorem RG.ga (hq:FV P ⟨some d,op,ty,ps,af,some (j,q)⟩ σ w v) (h:RG P Z b n ds cs ops l k ((d,v) :: σ) w) (hg:Want ops σ (some (j,q)) true:=by exact .yes rfl rfl) (hd:Nat.blt d n = true:=by rfl):RG P Z b n ds cs ops (⟨some d,op,ty,ps,af,some (j,q)⟩ :: l) k σ w:=RG.val' hg hq hd h
theorem RG.no  (h:RG P Z b n ds cs ops l k ((d,undef) :: σ) w) (hg:Want ops σ (some (j,q)) false:=by exact .no rfl rfl) (hd:Nat.blt d n = true:=by rfl):RG P Z b n ds cs ops (⟨some d,op,ty,ps,af,some (j,q)⟩ :: l) k σ w:=RG.off hg hd h
theorem RG.un  (h:RG P Z b n ds cs ops l k ((d,undef) :: σ) w) (hg:Want ops σ (some (j,q)) false:=by exact .undef rfl rfl) (hd:Nat.blt d n = true:=by rfl):RG P Z b n ds cs ops (⟨some d,op,ty,ps,af,some (j,q)⟩ :: l) k σ w:=RG.off hg hd h
theorem FV.fa {fi:Nat} (off:Nat) (hx:ev σ x = some (.pointer (some p))) (hf:dp P t fi off = true:=by kernel_rfl):FV P ⟨dd,.fieldAddr t x fi,ty,ps,af,g⟩ σ w (.pointer (some (p.add off))):=FV.fieldAddr hf hx
theorem FV.l1 (hx:ev σ x = some (.pointer (some p))) (hc:w.cell? p = some v) (ht:fp P t = true:=by kernel_rfl):FV P ⟨dd,.load t x,ty,ps,af,g⟩ σ w v:=FV.load1 ht hx hc
theorem FV.lN {cl:List Value} (hx:ev σ x = some (.pointer (some p))) (hc:∀ j v,cl[j]? = some v -> w.cell? (p.add j) = some v) (ht:gJ P t cl.length = true:=by kernel_rfl):FV P ⟨dd,.load t x,ty,ps,af,g⟩ σ w (.agg cl.toArray):=FV.loadN ht hx hc
theorem FV.ia {len c:Nat} {kd:IntKind} {j:Int} (m i:Nat) (hx:ev σ x = some v) (he:v = .slice (some p) len c) (hy:ev σ y = some (.int kd j)) (hj:j = (i:Int)) (hk:i < len) (ht:bR P t m = true:=by kernel_rfl):FV P ⟨dd,.indexAddr t x y,ty,ps,af,g⟩ σ w (.pointer (some (p.add (i * m)))):=FV.idxAddr ht hx he hy hj hk
theorem RG.fa {fi:Nat} (off:Nat) (hx:ev σ x = some (.pointer (some p))) (h:RG P Z b n ds cs ops l k ((d,.pointer (some (p.add off))) :: σ) w) (hf:dp P t fi off = true:=by kernel_rfl) (hd:Nat.blt d n = true:=by rfl):RG P Z b n ds cs ops (⟨some d,.fieldAddr t x fi,ty,ps,af,none⟩ :: l) k σ w:=RG.vv (FV.fieldAddr hf hx) hd h
theorem RG.fg {fi:Nat} (off:Nat) (hx:ev σ x = some (.pointer (some p))) (h:RG P Z b n ds cs ops l k ((d,.pointer (some (p.add off))) :: σ) w) (hf:dp P t fi off = true:=by kernel_rfl) (hg:Want ops σ (some (j,q)) true:=by exact .yes rfl rfl) (hd:Nat.blt d n = true:=by rfl):RG P Z b n ds cs ops (⟨some d,.fieldAddr t x fi,ty,ps,af,some (j,q)⟩ :: l) k σ w:=RG.val' hg (FV.fieldAddr hf hx) hd h
theorem RG.l1 (hx:ev σ x = some (.pointer (some p))) (hc:w.cell? p = some v) (h:RG P Z b n ds cs ops l k ((d,v) :: σ) w) (ht:fp P t = true:=by kernel_rfl) (hd:Nat.blt d n = true:=by rfl):RG P Z b n ds cs ops (⟨some d,.load t x,ty,ps,af,none⟩ :: l) k σ w:=RG.vv (FV.load1 ht hx hc) hd h
theorem RG.pt (hc:ev σ c = some (.bool true)) (hx:ev σ x = some v) (h:RG P Z b n ds cs ops l k ((d,v) :: σ) w) (hd:Nat.blt d n = true:=by rfl):RG P Z b n ds cs ops (⟨some d,.pick c x y,ty,ps,af,none⟩ :: l) k σ w:=RG.vv (FV.pick_t hc hx) hd h
theorem RG.pf (hc:ev σ c = some (.bool false)) (hx:ev σ y = some v) (h:RG P Z b n ds cs ops l k ((d,v) :: σ) w) (hd:Nat.blt d n = true:=by rfl):RG P Z b n ds cs ops (⟨some d,.pick c x y,ty,ps,af,none⟩ :: l) k σ w:=RG.vv (FV.pick_f hc hx) hd h
theorem e1 {x0:Operand} {v0:Value} (h0:ev σ x0 = some v0):evs σ [x0] [v0]:=ar h0 (aj)
theorem o1 {v0:Value} (h0:v0.oneCell' = true):∀ u ∈ [v0],u.oneCell' = true:=bp h0 (dh)
theorem e2 {x0 x1:Operand} {v0 v1:Value} (h0:ev σ x0 = some v0) (h1:ev σ x1 = some v1):evs σ [x0,x1] [v0,v1]:=ar h0 (ar h1 (aj))
theorem o2 {v0 v1:Value} (h0:v0.oneCell' = true) (h1:v1.oneCell' = true):∀ u ∈ [v0,v1],u.oneCell' = true:=bp h0 (bp h1 (dh))
theorem e3 {x0 x1 x2:Operand} {v0 v1 v2:Value} (h0:ev σ x0 = some v0) (h1:ev σ x1 = some v1) (h2:ev σ x2 = some v2):evs σ [x0,x1,x2] [v0,v1,v2]:=ar h0 (ar h1 (ar h2 (aj)))
theorem o3 {v0 v1 v2:Value} (h0:v0.oneCell' = true) (h1:v1.oneCell' = true) (h2:v2.oneCell' = true):∀ u ∈ [v0,v1,v2],u.oneCell' = true:=bp h0 (bp h1 (bp h2 (dh)))
theorem e4 {x0 x1 x2 x3:Operand} {v0 v1 v2 v3:Value} (h0:ev σ x0 = some v0) (h1:ev σ x1 = some v1) (h2:ev σ x2 = some v2) (h3:ev σ x3 = some v3):evs σ [x0,x1,x2,x3] [v0,v1,v2,v3]:=ar h0 (ar h1 (ar h2 (ar h3 (aj))))
theorem e5 {x0 x1 x2 x3 x4:Operand} {v0 v1 v2 v3 v4:Value} (h0:ev σ x0 = some v0) (h1:ev σ x1 = some v1) (h2:ev σ x2 = some v2) (h3:ev σ x3 = some v3) (h4:ev σ x4 = some v4):evs σ [x0,x1,x2,x3,x4] [v0,v1,v2,v3,v4]:=ar h0 (ar h1 (ar h2 (ar h3 (ar h4 (aj)))))
theorem e6 {x0 x1 x2 x3 x4 x5:Operand} {v0 v1 v2 v3 v4 v5:Value} (h0:ev σ x0 = some v0) (h1:ev σ x1 = some v1) (h2:ev σ x2 = some v2) (h3:ev σ x3 = some v3) (h4:ev σ x4 = some v4) (h5:ev σ x5 = some v5):evs σ [x0,x1,x2,x3,x4,x5] [v0,v1,v2,v3,v4,v5]:=ar h0 (ar h1 (ar h2 (ar h3 (ar h4 (ar h5 (aj))))))
theorem RT.t1 {fi:FuncId} {fn:Func} {r:Tmp} {X:Value -> World -> Prop} (hk:RetOK P Z fi cs X) (hf:P.funcs[fi]? = some fn) (hr:fn.results = #[.tmp r]) (hx:look σ r = some v) (h:X v w):RT P Z (fb fi .normal none) n [] cs σ w:=RT.leave hk hf hr (.cons (.tmp hx) .nil) rfl h
theorem St.gv {u:Value} (s:St w0 w O):Agree [] w0 w/\∀ w9,Agree [] w w9 -> u = u:=⟨s.ag,fun _ _=>rfl⟩
end
section
variable {P:Program} {Z:Machine -> Prop} {b:Frame} {n:Nat} {ds:List Deferred} {cs:List Frame} {k:List Item} {σ:List (Nat × Value)} {w w0 w1:World} {ops:Array Oper} {l:List Oper} {ty:TypeId} {ps:String} {af:Array Edge} {v:Value} {x y:Operand} {t:TypeId} {O O' : List Ob} {g:Option (Nat × Bool)} {dd:Option Tmp} {p:Addr}
theorem RG.sa {bk:Nat} {old:List Value} {e:TypeId} (news:List Value) (s:St w0 w O) (u:Upd O (.cells bk old e) (.cells bk news e) O') (h1:∀ u ∈ news,u.oneCell' = true) (h:∀ w1,St w0 w1 O' -> Tr w O w1 O' -> RG P Z b n ds cs ops l k σ w1) (hx:ev σ x = some (.pointer (some p)):=by rfl) (hp:p = ⟨bk,0,none⟩:=by rfl) (hy:ev σ y = some v:=by rfl) (hv:v.cells = news.toArray:=by rfl) (hs:bO P t news.length = true:=by rfl) (hl:old.length = news.length:=by rfl):RG P Z b n ds cs ops (⟨none,.store t x y,ty,ps,af,none⟩ :: l) k σ w:=RG.now .plain (Acts.storeAll s u hx hp hy hv hs hl h1) h
theorem Does.al (zs:List Value) (s:St w0 w O) (hz:bL P t zs:=by exact zB (by kernel_rfl)):Does P ⟨dd,.alloc t,ty,ps,af,g⟩ σ w (New w0 w O (fun b' =>.cells b' zs t) (fun b' =>.pointer (some ⟨b', 0,none⟩))):=Does.alloc s hz
theorem aD {o:Ob} (s:St w0 w O) (s1:St w w1 [o]):St w0 w1 (o :: O):=St.merge s s1
theorem bb {o:Ob} (s:St w0 w O) (s1:St w w1 [o]):Tr w O w1 (o :: O):=Tr.merge s s1
theorem dG {o o2:Ob} (s:St w0 w O) (s1:St w w1 [o,o2]):St w0 w1 (o :: o2 :: O):=St.merge s s1
theorem fF {o o2:Ob} (s:St w0 w O) (s1:St w w1 [o,o2]):Tr w O w1 (o :: o2 :: O):=Tr.merge s s1
end
end Go.Proofs.YtlleajifdbnbaaaGreatDoor
namespace Go.Proofs.YtlleajifdbnbaaaGreatDoor
open Go Go.RowKit
def left {ε:Type} (D:List ε) (sn:Array Nat):List ε:=(D.zipIdx.filter fun e=>!sn.contains e.2).map (·.1)
section
variable {P:Program} {Z:Machine -> Prop} {b:Frame} {n:Nat} {ds:List Deferred} {cs:List Frame} {k:List Item} {σ τ:List (Nat × Value)} {w w0:World} {ops:Array Oper} {l:List Oper} {d:Nat} {ty:TypeId} {ps:String} {af:Array Edge} {x:Operand} {t:TypeId} {O O' : List Ob} {dd:Option Tmp} {g:Option (Nat × Bool)}
variable {κ ν:Type} [Enc κ] [Enc ν]
end
end Go.Proofs.YtlleajifdbnbaaaGreatDoor
namespace Go.Proofs.YtlleajifdbnbaaaGreatDoor
open Go Go.RowKit
instance:Enc (Option Nat):=⟨fun a=>.pointer (a.map fun b=>⟨b,0,none⟩)⟩
section
variable {κ β:Type}
variable {w w0:World} {T pre:List Ob} {t:TypeId} {f:β -> List Value} {Z Z1 Z2:List ((κ × β) × Nat)} {k:κ} {y y' : β} {b:Nat}
end
section
variable {P:Program} {Z:Machine -> Prop} {b:Frame} {n:Nat} {ds:List Deferred} {cs:List Frame} {k:List Item} {σ τ:List (Nat × Value)} {w w0:World} {ops:Array Oper} {l:List Oper} {d:Nat} {ty:TypeId} {ps:String} {af:Array Edge} {x y:Operand} {t t' e:TypeId} {O O' : List Ob} {dd:Option Tmp} {g:Option (Nat × Bool)}
end
end Go.Proofs.YtlleajifdbnbaaaGreatDoor
namespace Go.Proofs.YtlleajifdbnbaaaGreatDoor
open Go Go.RowKit
section
variable {w w0:World} {O O' T pre pre' : List Ob} {L:List Nat} {base e e2:Nat} {v0 v y:Value} {Z Z1 Z2:List (Value × List Int)} {xs xs' : List Int} {cs cs' : List Value}
end
end Go.Proofs.YtlleajifdbnbaaaGreatDoor
namespace Go.Proofs.YtlleajifdbnbaaaGreatDoor
open Go Go.RowKit
theorem At.t1 {x0 o:Ob} {O:List Ob}:At (x0 :: o :: O) o:=.tl .hd
theorem Upd.t1 {x0 o o' : Ob} {O:List Ob}:Upd (x0 :: o :: O) o o' (x0 :: o' :: O):=.tl .hd
theorem Out.t1 {x0 o:Ob} {O:List Ob}:Out (x0 :: o :: O) o (x0 :: O):=.tl .hd
theorem At.t2 {x0 x1 o:Ob} {O:List Ob}:At (x0 :: x1 :: o :: O) o:=.tl (.tl .hd)
theorem Upd.t2 {x0 x1 o o' : Ob} {O:List Ob}:Upd (x0 :: x1 :: o :: O) o o' (x0 :: x1 :: o' :: O):=.tl (.tl .hd)
theorem Out.t2 {x0 x1 o:Ob} {O:List Ob}:Out (x0 :: x1 :: o :: O) o (x0 :: x1 :: O):=.tl (.tl .hd)
theorem At.t3 {x0 x1 x2 o:Ob} {O:List Ob}:At (x0 :: x1 :: x2 :: o :: O) o:=.tl (.tl (.tl .hd))
theorem Upd.t3 {x0 x1 x2 o o' : Ob} {O:List Ob}:Upd (x0 :: x1 :: x2 :: o :: O) o o' (x0 :: x1 :: x2 :: o' :: O):=.tl (.tl (.tl .hd))
theorem Out.t3 {x0 x1 x2 o:Ob} {O:List Ob}:Out (x0 :: x1 :: x2 :: o :: O) o (x0 :: x1 :: x2 :: O):=.tl (.tl (.tl .hd))
theorem At.t4 {x0 x1 x2 x3 o:Ob} {O:List Ob}:At (x0 :: x1 :: x2 :: x3 :: o :: O) o:=.tl (.tl (.tl (.tl .hd)))
theorem Upd.t4 {x0 x1 x2 x3 o o' : Ob} {O:List Ob}:Upd (x0 :: x1 :: x2 :: x3 :: o :: O) o o' (x0 :: x1 :: x2 :: x3 :: o' :: O):=.tl (.tl (.tl (.tl .hd)))
theorem Out.t4 {x0 x1 x2 x3 o:Ob} {O:List Ob}:Out (x0 :: x1 :: x2 :: x3 :: o :: O) o (x0 :: x1 :: x2 :: x3 :: O):=.tl (.tl (.tl (.tl .hd)))
theorem At.t5 {x0 x1 x2 x3 x4 o:Ob} {O:List Ob}:At (x0 :: x1 :: x2 :: x3 :: x4 :: o :: O) o:=.tl (.tl (.tl (.tl (.tl .hd))))
theorem Upd.t5 {x0 x1 x2 x3 x4 o o' : Ob} {O:List Ob}:Upd (x0 :: x1 :: x2 :: x3 :: x4 :: o :: O) o o' (x0 :: x1 :: x2 :: x3 :: x4 :: o' :: O):=.tl (.tl (.tl (.tl (.tl .hd))))
theorem Out.t5 {x0 x1 x2 x3 x4 o:Ob} {O:List Ob}:Out (x0 :: x1 :: x2 :: x3 :: x4 :: o :: O) o (x0 :: x1 :: x2 :: x3 :: x4 :: O):=.tl (.tl (.tl (.tl (.tl .hd))))
theorem At.t6 {x0 x1 x2 x3 x4 x5 o:Ob} {O:List Ob}:At (x0 :: x1 :: x2 :: x3 :: x4 :: x5 :: o :: O) o:=.tl (.tl (.tl (.tl (.tl (.tl .hd)))))
theorem Upd.t6 {x0 x1 x2 x3 x4 x5 o o' : Ob} {O:List Ob}:Upd (x0 :: x1 :: x2 :: x3 :: x4 :: x5 :: o :: O) o o' (x0 :: x1 :: x2 :: x3 :: x4 :: x5 :: o' :: O):=.tl (.tl (.tl (.tl (.tl (.tl .hd)))))
theorem At.t7 {x0 x1 x2 x3 x4 x5 x6 o:Ob} {O:List Ob}:At (x0 :: x1 :: x2 :: x3 :: x4 :: x5 :: x6 :: o :: O) o:=.tl (.tl (.tl (.tl (.tl (.tl (.tl .hd))))))
theorem Upd.t7 {x0 x1 x2 x3 x4 x5 x6 o o' : Ob} {O:List Ob}:Upd (x0 :: x1 :: x2 :: x3 :: x4 :: x5 :: x6 :: o :: O) o o' (x0 :: x1 :: x2 :: x3 :: x4 :: x5 :: x6 :: o' :: O):=.tl (.tl (.tl (.tl (.tl (.tl (.tl .hd))))))
theorem At.t8 {x0 x1 x2 x3 x4 x5 x6 x7 o:Ob} {O:List Ob}:At (x0 :: x1 :: x2 :: x3 :: x4 :: x5 :: x6 :: x7 :: o :: O) o:=.tl (.tl (.tl (.tl (.tl (.tl (.tl (.tl .hd)))))))
theorem Upd.t8 {x0 x1 x2 x3 x4 x5 x6 x7 o o' : Ob} {O:List Ob}:Upd (x0 :: x1 :: x2 :: x3 :: x4 :: x5 :: x6 :: x7 :: o :: O) o o' (x0 :: x1 :: x2 :: x3 :: x4 :: x5 :: x6 :: x7 :: o' :: O):=.tl (.tl (.tl (.tl (.tl (.tl (.tl (.tl .hd)))))))
theorem At.t9 {x0 x1 x2 x3 x4 x5 x6 x7 x8 o:Ob} {O:List Ob}:At (x0 :: x1 :: x2 :: x3 :: x4 :: x5 :: x6 :: x7 :: x8 :: o :: O) o:=.tl (.tl (.tl (.tl (.tl (.tl (.tl (.tl (.tl .hd))))))))
theorem At.t10 {x0 x1 x2 x3 x4 x5 x6 x7 x8 x9 o:Ob} {O:List Ob}:At (x0 :: x1 :: x2 :: x3 :: x4 :: x5 :: x6 :: x7 :: x8 :: x9 :: o :: O) o:=.tl (.tl (.tl (.tl (.tl (.tl (.tl (.tl (.tl (.tl .hd)))))))))
theorem At.t11 {x0 x1 x2 x3 x4 x5 x6 x7 x8 x9 x10 o:Ob} {O:List Ob}:At (x0 :: x1 :: x2 :: x3 :: x4 :: x5 :: x6 :: x7 :: x8 :: x9 :: x10 :: o :: O) o:=.tl (.tl (.tl (.tl (.tl (.tl (.tl (.tl (.tl (.tl (.tl .hd))))))))))
theorem At.t12 {x0 x1 x2 x3 x4 x5 x6 x7 x8 x9 x10 x11 o:Ob} {O:List Ob}:At (x0 :: x1 :: x2 :: x3 :: x4 :: x5 :: x6 :: x7 :: x8 :: x9 :: x10 :: x11 :: o :: O) o:=.tl (.tl (.tl (.tl (.tl (.tl (.tl (.tl (.tl (.tl (.tl (.tl .hd)))))))))))
theorem Arr.d0:∀ {O:List Ob},Arr O O
 | []=>.done
 | _ :: _=>.one .hd Arr.d0
theorem Arr.a0 {o:Ob} {O O' : List Ob} (h:Arr O O'):Arr (o :: O) (o :: O'):=.one .hd h
theorem Arr.a1 {x0 o:Ob} {O O' : List Ob} (h:Arr (x0 :: O) O'):Arr (x0 :: o :: O) (o :: O'):=.one .t1 h
theorem Arr.a2 {x0 x1 o:Ob} {O O' : List Ob} (h:Arr (x0 :: x1 :: O) O'):Arr (x0 :: x1 :: o :: O) (o :: O'):=.one .t2 h
theorem Arr.a5 {x0 x1 x2 x3 x4 o:Ob} {O O' : List Ob} (h:Arr (x0 :: x1 :: x2 :: x3 :: x4 :: O) O'):Arr (x0 :: x1 :: x2 :: x3 :: x4 :: o :: O) (o :: O'):=.one .t5 h
theorem Arr.dr {x:Ob}:∀ {O O' : List Ob},Arr O O' -> Arr (x :: O) O'
 | _,_,.done=>.done
 | _,_,.one h h2=>.one (.tl h) (Arr.dr h2)
theorem Arr.d1 {x0:Ob} {O:List Ob}:Arr (x0 :: O) O:=.dr Arr.d0
theorem Arr.d2 {x0 x1:Ob} {O:List Ob}:Arr (x0 :: x1 :: O) O:=.dr (Arr.d1)
theorem Arr.d3 {x0 x1 x2:Ob} {O:List Ob}:Arr (x0 :: x1 :: x2 :: O) O:=.dr (Arr.d2)
theorem Arr.d4 {x0 x1 x2 x3:Ob} {O:List Ob}:Arr (x0 :: x1 :: x2 :: x3 :: O) O:=.dr (Arr.d3)
theorem Arr.d5 {x0 x1 x2 x3 x4:Ob} {O:List Ob}:Arr (x0 :: x1 :: x2 :: x3 :: x4 :: O) O:=.dr (Arr.d4)
theorem Arr.d6 {x0 x1 x2 x3 x4 x5:Ob} {O:List Ob}:Arr (x0 :: x1 :: x2 :: x3 :: x4 :: x5 :: O) O:=.dr (Arr.d5)
section
variable {P:Program} {Z:Machine -> Prop} {b:Frame} {n:Nat} {ds:List Deferred} {cs:List Frame} {k:List Item} {σ τ:List (Nat × Value)} {w w0:World} {ops:Array Oper} {t f m:Nat} {κ:KP} {O1:List Ob}
theorem MX.lf {α γ Q:Type} {B:(γ -> Option Q) -> γ -> Option Q} {N:Nat} {r:Q} {c:Code} (S:α -> List (Nat × Value)) (E:α -> List Ob) (G:α -> World -> Prop) (p:α -> γ) (x0:α) (hh:ac B N (p x0) = some r) (s:St w0 w (E x0)) (hG:G x0 w)
  (round:∀ (J:γ -> Option Q) x wx,(∀ x' {wx' σ'},St w0 wx' (E x') -> Tr w (E x0) wx' (E x') -> G x' wx' -> J (p x') = some r -> ∀ (_:Sub σ' (S x'):=by repeat (first | refine ⟨rfl,?_⟩ | exact trivial)),MX P Z b n ds cs (.inLoop c :: k) σ' wx') -> St w0 wx (E x) -> Tr w (E x0) wx (E x) -> G x wx -> B J (p x) = some r -> MX P Z b n ds cs (.code c :: .inLoop c :: k) (S x) wx)
  (hs:Sub σ (S x0):=by repeat (first | refine ⟨rfl,?_⟩ | exact trivial)):MX P Z b n ds cs (.code (.loop c) :: k) σ w:=
 MX.loop S (fun x wx=>St w0 wx (E x)/\Tr w (E x0) wx (E x)/\G x wx) p x0 hh hs ⟨s,Tr.refl _ _,hG⟩ fun J x wx h1 h2=>round J x wx (fun x' {wx' σ'} a2 a3 a4 a5 a1=>h1 x' wx' σ' a1 ⟨a2,a3,a4⟩ a5) h2.1 h2.2.1 h2.2.2
theorem MX.lo {α γ Q:Type} {B:(γ -> Option Q) -> γ -> Option Q} {N:Nat} {r:Q} {c:Code} (S:α -> List (Nat × Value)) (E:α -> List Ob) (p:α -> γ) (x0:α) (hh:ac B N (p x0) = some r) (s:St w0 w (E x0))
  (round:∀ (J:γ -> Option Q) x wx,(∀ x' {wx' σ'},St w0 wx' (E x') -> Tr w (E x0) wx' (E x') -> J (p x') = some r -> ∀ (_:Sub σ' (S x'):=by repeat (first | refine ⟨rfl,?_⟩ | exact trivial)),MX P Z b n ds cs (.inLoop c :: k) σ' wx') -> St w0 wx (E x) -> Tr w (E x0) wx (E x) -> B J (p x) = some r -> MX P Z b n ds cs (.code c :: .inLoop c :: k) (S x) wx)
  (hs:Sub σ (S x0):=by repeat (first | refine ⟨rfl,?_⟩ | exact trivial)):MX P Z b n ds cs (.code (.loop c) :: k) σ w:=
 MX.loop S (fun x wx=>St w0 wx (E x)/\Tr w (E x0) wx (E x)) p x0 hh hs ⟨s,Tr.refl _ _⟩ fun J x wx h1 h2=>round J x wx (fun x' {wx' σ'} a2 a3 a5 a1=>h1 x' wx' σ' a1 ⟨a2,a3⟩ a5) h2.1 h2.2
theorem MX.jf {α γ Q:Type} {K:γ -> Option Q} {B:(γ -> Option Q) -> Option Q} {r:Q} {it:Item} (S:α -> List (Nat × Value)) (E:α -> List Ob) (G:α -> World -> Prop) (p:α -> γ) (_s:St w0 w O1) (hh:jn K B = some r)
  (hJ:∀ x wx,St w0 wx (E x) -> Tr w O1 wx (E x) -> G x wx -> K (p x) = some r -> MX P Z b n ds cs k (S x) wx)
  (h:∀ J:γ -> Option Q,(∀ x {wx σ'},St w0 wx (E x) -> Tr w O1 wx (E x) -> G x wx -> J (p x) = some r -> ∀ (_:Sub σ' (S x):=by repeat (first | refine ⟨rfl,?_⟩ | exact trivial)),MX P Z b n ds cs k σ' wx) -> B J = some r -> MX P Z b n ds cs (it :: k) σ w):MX P Z b n ds cs (it :: k) σ w:=
 MX.join S (fun x wx=>St w0 wx (E x)/\Tr w O1 wx (E x)/\G x wx) p hh (fun x wx h1 h2=>hJ x wx h1.1 h1.2.1 h1.2.2 h2) fun J h1 h2=>h J (fun x {wx σ'} a2 a3 a4 a5 a1=>h1 x wx σ' a1 ⟨a2,a3,a4⟩ a5) h2
theorem MX.jo {α γ Q:Type} {K:γ -> Option Q} {B:(γ -> Option Q) -> Option Q} {r:Q} {it:Item} (S:α -> List (Nat × Value)) (E:α -> List Ob) (p:α -> γ) (_s:St w0 w O1) (hh:jn K B = some r)
  (hJ:∀ x wx,St w0 wx (E x) -> Tr w O1 wx (E x) -> K (p x) = some r -> MX P Z b n ds cs k (S x) wx)
  (h:∀ J:γ -> Option Q,(∀ x {wx σ'},St w0 wx (E x) -> Tr w O1 wx (E x) -> J (p x) = some r -> ∀ (_:Sub σ' (S x):=by repeat (first | refine ⟨rfl,?_⟩ | exact trivial)),MX P Z b n ds cs k σ' wx) -> B J = some r -> MX P Z b n ds cs (it :: k) σ w):MX P Z b n ds cs (it :: k) σ w:=
 MX.join S (fun x wx=>St w0 wx (E x)/\Tr w O1 wx (E x)) p hh (fun x wx h1 h2=>hJ x wx h1.1 h1.2 h2) fun J h1 h2=>h J (fun x {wx σ'} a2 a3 a5 a1=>h1 x wx σ' a1 ⟨a2,a3⟩ a5) h2
theorem MX.xf {α γ Q:Type} {K:γ -> Option Q} {B:(γ -> Option Q) -> Option Q} {r:Q} {it:Item} {k' : List Item} (id:Nat) (S:α -> List (Nat × Value)) (E:α -> List Ob) (G:α -> World -> Prop) (p:α -> γ) (_s:St w0 w O1) (hx:exitTo id k = some k') (hh:jn K B = some r)
  (hJ:∀ x wx,St w0 wx (E x) -> Tr w O1 wx (E x) -> G x wx -> K (p x) = some r -> MX P Z b n ds cs k' (S x) wx)
  (h:∀ J:γ -> Option Q,(∀ x {wx σ'},St w0 wx (E x) -> Tr w O1 wx (E x) -> G x wx -> J (p x) = some r -> ∀ (_:Sub σ' (S x):=by repeat (first | refine ⟨rfl,?_⟩ | exact trivial)),MX P Z b n ds cs k' σ' wx) -> B J = some r -> MX P Z b n ds cs (it :: k) σ w):MX P Z b n ds cs (it :: k) σ w:=
 MX.joinx S (fun x wx=>St w0 wx (E x)/\Tr w O1 wx (E x)/\G x wx) p hx hh (fun x wx h1 h2=>hJ x wx h1.1 h1.2.1 h1.2.2 h2) fun J h1 h2=>h J (fun x {wx σ'} a2 a3 a4 a5 a1=>h1 x wx σ' a1 ⟨a2,a3,a4⟩ a5) h2
theorem MX.xo {α γ Q:Type} {K:γ -> Option Q} {B:(γ -> Option Q) -> Option Q} {r:Q} {it:Item} {k' : List Item} (id:Nat) (S:α -> List (Nat × Value)) (E:α -> List Ob) (p:α -> γ) (_s:St w0 w O1) (hx:exitTo id k = some k') (hh:jn K B = some r)
  (hJ:∀ x wx,St w0 wx (E x) -> Tr w O1 wx (E x) -> K (p x) = some r -> MX P Z b n ds cs k' (S x) wx)
  (h:∀ J:γ -> Option Q,(∀ x {wx σ'},St w0 wx (E x) -> Tr w O1 wx (E x) -> J (p x) = some r -> ∀ (_:Sub σ' (S x):=by repeat (first | refine ⟨rfl,?_⟩ | exact trivial)),MX P Z b n ds cs k' σ' wx) -> B J = some r -> MX P Z b n ds cs (it :: k) σ w):MX P Z b n ds cs (it :: k) σ w:=
 MX.joinx S (fun x wx=>St w0 wx (E x)/\Tr w O1 wx (E x)) p hx hh (fun x wx h1 h2=>hJ x wx h1.1 h1.2 h2) fun J h1 h2=>h J (fun x {wx σ'} a2 a3 a5 a1=>h1 x wx σ' a1 ⟨a2,a3⟩ a5) h2
theorem RD.mf {α:Type} (S:α -> List (Nat × Value)) (E:α -> List Ob) (G:α -> World -> Prop) (_s:St w0 w O1) (f' m' : Nat)
  (hJ:∀ x wx,St w0 wx (E x) -> Tr w O1 wx (E x) -> G x wx -> RD κ P Z b n ds cs ops t f' m' k (S x) wx)
  (h:(∀ x {wx σ'},St w0 wx (E x) -> Tr w O1 wx (E x) -> G x wx -> ∀ (_:Sub σ' (S x):=by repeat (first | refine ⟨rfl,?_⟩ | exact trivial)),RD κ P Z b n ds cs ops t f' m' k σ' wx) -> RD κ P Z b n ds cs ops t f m k σ w):RD κ P Z b n ds cs ops t f m k σ w:=
 RD.meet S (fun x wx=>St w0 wx (E x)/\Tr w O1 wx (E x)/\G x wx) f' m' (fun x wx h1=>hJ x wx h1.1 h1.2.1 h1.2.2) fun h1=>h fun x {wx σ'} a2 a3 a4 a1=>h1 x wx σ' a1 ⟨a2,a3,a4⟩
theorem RD.mo {α:Type} (S:α -> List (Nat × Value)) (E:α -> List Ob) (_s:St w0 w O1) (f' m' : Nat)
  (hJ:∀ x wx,St w0 wx (E x) -> Tr w O1 wx (E x) -> RD κ P Z b n ds cs ops t f' m' k (S x) wx)
  (h:(∀ x {wx σ'},St w0 wx (E x) -> Tr w O1 wx (E x) -> ∀ (_:Sub σ' (S x):=by repeat (first | refine ⟨rfl,?_⟩ | exact trivial)),RD κ P Z b n ds cs ops t f' m' k σ' wx) -> RD κ P Z b n ds cs ops t f m k σ w):RD κ P Z b n ds cs ops t f m k σ w:=
 RD.meet S (fun x wx=>St w0 wx (E x)/\Tr w O1 wx (E x)) f' m' (fun x wx h1=>hJ x wx h1.1 h1.2) fun h1=>h fun x {wx σ'} a2 a3 a1=>h1 x wx σ' a1 ⟨a2,a3⟩
theorem RG.bx {d:Tmp} {t ty:TypeId} {ps:String} {af:Array Edge} {x:Operand} {v:Value} {vs:List Value} {l:List Oper} {O:List Ob} (s:St w0 w O) (hx:ev σ x = some v) (hc:v.cells = vs.toArray) (h:∀ w1 b', St w0 w1 (.cells b' vs t :: O) -> Tr w O w1 (.cells b' vs t :: O) -> RG P Z b n ds cs ops l k ((d,.pointer (some ⟨b', 0,none⟩)) :: σ) w1) (hd:Nat.blt d n = true:=by rfl):RG P Z b n ds cs ops (⟨some d,.box t x,ty,ps,af,none⟩ :: l) k σ w:=RG.new .plain hd (Does.box s hx hc) h
theorem RG.nl {d:Tmp} {t ty:TypeId} {ps:String} {af:Array Edge} {l:List Oper} {O:List Ob} (zs:List Value) (s:St w0 w O) (h:∀ w1 b', St w0 w1 (.cells b' zs t :: O) -> Tr w O w1 (.cells b' zs t :: O) -> RG P Z b n ds cs ops l k ((d,.pointer (some ⟨b', 0,none⟩)) :: σ) w1) (hz:bL P t zs:=by exact zB (by kernel_rfl)) (hd:Nat.blt d n = true:=by rfl):RG P Z b n ds cs ops (⟨some d,.alloc t,ty,ps,af,none⟩ :: l) k σ w:=RG.new .plain hd (Does.alloc s hz) h
theorem bk {α β:Type} {C:Prop} {x:Option α} {g:α -> Option β} {r:β} (h:x.bind g = some r) (k:∀ y,x = some y -> g y = some r -> C):C:=
 let ⟨y,h1,h2⟩:=dY h; k y h1 h2
theorem xk {ε α β:Type} {C:Prop} {x:Option (Except ε α)} {f:α -> Option β} {g:ε -> Option β} {r:β} (h:(x.bind fun y=>exc y f g) = some r) (k1:∀ e,x = some (.error e) -> g e = some r -> C) (k2:∀ y,x = some (.ok y) -> f y = some r -> C):C:=by
 obtain ⟨y,h1,h2⟩:=dY h
 rcases y with e | y
 ·exact k1 e h1 h2
 ·exact k2 y h1 h2
theorem tn {α β:Type} {C:Prop} {o:Option (α ⊕ β)} {K:β -> Option α} {r:α} (h:thn o K = some r) (k:∀ x,o = some x -> thn (some x) K = some r -> C):C:=
 let ⟨y,h1,h2⟩:=thn_in h; k y h1 h2
end
@[reducible] def rr (w:World) (e:TypeId) (α:Type) [Rep α] (v:Value) (n:Nat) (cs:List Value):Ob:=.row w.heap.size e (Rep.size α) v n cs
abbrev hl (L:List Nat) (w:World):Prop:=∀ b ∈ L,b < w.heap.size
@[reducible] def vW (x:Int):Value:=.int .u64 x
@[reducible] def vU (x:UInt64):Value:=.int .u64 (x.toNat:Int)
@[reducible] def zL:List Value:=[vW 0,vW 0,vW 0,vW 0,vW 0,vW 0,vW 0,vW 0,vW 0,vW 0,vW 0,vW 0,vW 0,vW 0,vW 0,vW 0]
@[reducible] def zM:Array Value:=#[vW 0,vW 0,vW 0,vW 0,vW 0,vW 0,vW 0,vW 0,vW 0,vW 0,vW 0,vW 0,vW 0,vW 0,vW 0,vW 0]
@[reducible] def zP:List Value:=[vW 0,vW 0,vW 0,vW 0,vW 0,vW 0,vW 0,vW 0]
@[reducible] def zQ:Array Value:=#[vW 0,vW 0,vW 0,vW 0,vW 0,vW 0,vW 0,vW 0]
section
variable {P:Program} {Z:Machine -> Prop} {b:Frame} {n:Nat} {ds:List Deferred} {cs:List Frame} {k:List Item} {σ:List (Nat × Value)} {w:World} {T:List (Nat × Nat × Nat)} {ops:Array Oper} {m m' i t W:Nat}
theorem Rv {κ:KP} {f d:Nat} {op:Op} {ty:TypeId} {ps:String} {af:Array Edge} {v:Value} (i:Nat) (hT:aP ops = T) (hi:ops[i]? = some ⟨some d,op,ty,ps,af,none⟩) (hp:aw ops = true) (hq:∀ w,FV P ⟨some d,op,ty,ps,af,none⟩ σ w v) (h:RD κ P Z b n ds cs ops t f (m ||| 1 <<< i) k ((d,v) :: σ) w) (hB:cI T t m i (m ||| 1 <<< i) = true:=by kernel_rfl) (hfr:κ.free i = true:=by rfl) (hd:Nat.blt d n = true:=by rfl):RD κ P Z b n ds cs ops t (f + 1) m k σ w:=RD.vw i _ hT hi hp hq hd h hB hfr
theorem Rx {κ:KP} {f d:Nat} {op:Op} {ty:TypeId} {ps:String} {af:Array Edge} {v:Value} (i W:Nat) (hT:aP ops = T) (hi:ops[i]? = some ⟨some d,op,ty,ps,af,none⟩) (hp:aw ops = true) (hq:FV P ⟨some d,op,ty,ps,af,none⟩ σ w v) (h:RD κ P Z b n ds cs ops t f (m ||| 1 <<< i) k ((d,v) :: σ) w) (hB:dS T t m W i (m ||| 1 <<< i) = true:=by kernel_rfl) (hfr:κ.free i = true:=by rfl) (hd:Nat.blt d n = true:=by rfl):RD κ P Z b n ds cs ops t (f + 1) m k σ w:=RD.vx i _ W hT hi hp hq hd h hB hfr
theorem rk {rs:List Nat} (hT:aP ops = T) (h:cK T m rs = true:=by kernel_rfl):cn ops m rs = true:=cb hT h
theorem dk (hT:aP ops = T) (h:ik T m = true:=by kernel_rfl):Region.ready .any ops (lst ops.size m) = []:=gZ hT h
theorem sk (hT:aP ops = T) (h:dV T m i m' = true:=by kernel_rfl):bs ops.size m i m' = true:=cE hT h
theorem tk (hT:aP ops = T) (h:dS T t m W i m' = true:=by kernel_rfl):cS ops t m W i m' = true:=dg hT h
theorem dt {id:Nat} {l:List Oper} (t:Nat) (T:List (Nat × Nat × Nat)) (h:aP l.toArray = T -> aw l.toArray = true -> RD kp0 P Z b n ds cs l.toArray t l.length 0 k σ w) (hT:aP l.toArray = T:=by kernel_rfl) (hm:P.follows .mixedOrders = true:=by kernel_rfl) (hp:aw l.toArray = true:=by kernel_rfl):MX P Z b n ds cs (.code (.region id l.toArray true) :: k) σ w:=MX.drawT t T hT hm hp h
theorem du {id:Nat} {l:List Oper} (t:Nat) (h:aP l.toArray = aP l.toArray -> aw l.toArray = true -> RD kp0 P Z b n ds cs l.toArray t l.length 0 k σ w) (hm:P.follows .mixedOrders = true:=by kernel_rfl) (hp:aw l.toArray = true:=by kernel_rfl):MX P Z b n ds cs (.code (.region id l.toArray true) :: k) σ w:=MX.drawT t (aP l.toArray) rfl hm hp h
theorem jA {α:Type} [Rep α] {w w0:World} {O:List Ob} {e:TypeId} {σ:List (Nat × Value)} {ty:TypeId} {ps:String} {af:Array Edge} {t:TypeId} {g:Option (Nat × Bool)} {bytes:Nat} {z:Value} {zc:List Value} {dd:Option Tmp} {p:Nat × Operand} (x:α) (v:Value) (h:St w0 w O) (hE:ElT P t e (Rep.size α) bytes z zc) (hv:evs σ [p.2] [v]) (hf:Instr.fill (fun i=>some (i * Rep.size α,Rep.size α)) (Array.map (fun x=>zc.toArray[x % zc.toArray.size]!) (Array.range (1 * Rep.size α))) (List.zip (List.map Prod.fst [p]) [v]) = some [v].toArray:=by kernel_rfl) (hb:(1 * Rep.size α).ble 16777216 = true:=by rfl) (hl:[v].length = 1 * Rep.size α:=by rfl):Does P ⟨dd,.buildSlice t 1 [p].toArray,ty,ps,af,g⟩ σ w (New w0 w O (fun b' =>.row w0.heap.size e (Rep.size α) (.slice (some { block:=b', off:=0 }) 1 1) [x].length [v]) fun b' =>.slice (some { block:=b', off:=0 }) 1 1):=Does.build (xs:=[x]) rfl h hE hb hv hf hl
theorem jB (α:Type) [Rep α] {w w0:World} {O:List Ob} {e:TypeId} {σ:List (Nat × Value)} {ty:TypeId} {ps:String} {af:Array Edge} {t:TypeId} {g:Option (Nat × Bool)} {bytes:Nat} {z:Value} {zc:List Value} {dd:Option Tmp} (h:St w0 w O) (hE:ElT P t e (Rep.size α) bytes z zc) (hf:Instr.fill (fun i=>some (i * Rep.size α,Rep.size α)) (Array.map (fun x=>zc.toArray[x % zc.toArray.size]!) (Array.range (0 * Rep.size α))) (List.zip (List.map Prod.fst ([]:List (Nat × Operand))) []) = some [].toArray:=by kernel_rfl) (hb:(0 * Rep.size α).ble 16777216 = true:=by rfl) (hl:([]:List Value).length = 0 * Rep.size α:=by rfl):Does P ⟨dd,.buildSlice t 0 [].toArray,ty,ps,af,g⟩ σ w (New w0 w O (fun b' =>.row w0.heap.size e (Rep.size α) (.slice (some { block:=b', off:=0 }) 0 0) ([]:List α).length []) fun b' =>.slice (some { block:=b', off:=0 }) 0 0):=Does.build (xs:=[]) rfl h hE hb aj hf hl
theorem jC {α:Type} [Rep α] {w0 w:World} {O:List Ob} (x:α) (v:Value) (h:St w0 w O) (L:List Nat) (hr:Rep.R w (bl O ++ L) [v] x):Cells w (bl O ++ L) [v] [x]:=Cells.at_ (cs:=[v]) h L (Cells.cons hr (Cells.nil _ _))
theorem jD (α:Type) [Rep α] {w0 w:World} {O:List Ob} (h:St w0 w O) (L:List Nat):Cells w (bl O ++ L) [] ([]:List α):=Cells.nil _ _
theorem jE {l:List Oper} {f:FuncId} {c:Operand} {xs:List Operand} {vs:List Value} {d:Nat} {ty:TypeId} {ps:String} {af:Array Edge} {ts:Array TypeId} {R:World -> Value -> Prop} (hB:br P f = true) (hc:ev σ c = some (.func (.func f) #[] #[])) (hx:evs σ xs vs) (h:∀ w', Agree [] w w' -> Calls P f ([] ++ vs ++ []).toArray w' (ah w' R)) (hd:d.blt n = true) (K:∀ (w1:World) (v:Value),Agree [] w w1 -> R w1 v -> RG P Z b n ds cs ops l k ((d,v) :: σ) w1):RG P Z b n ds cs ops (⟨some d,.call ⟨.value c,xs.toArray,ts⟩,ty,ps,af,none⟩ :: l) k σ w:=RG.call' (fst:=[]) (cap:=[]) .plain hB hc hx h hd K
end
theorem geE.{u} {α:Type u} {l:List α} {i:Nat} (h:i < l.length):l[i]? = some l[i]:=List.getElem?_eq_getElem h
theorem leC.{u} {α:Type u} {a:α} {as:List α}:(a :: as).length = as.length + 1:=rfl
theorem leN.{u} {α:Type u}:([]:List α).length = 0:=rfl
abbrev U8:=UInt64 × UInt64 × UInt64 × UInt64 × UInt64 × UInt64 × UInt64 × UInt64
abbrev U16:=UInt64 × UInt64 × UInt64 × UInt64 × UInt64 × UInt64 × UInt64 × UInt64 × UInt64 × UInt64 × UInt64 × UInt64 × UInt64 × UInt64 × UInt64 × UInt64
theorem Tt {w1 w2 w3:World} {O1 O2 O3:List Ob} (h:Tr w1 O1 w2 O2) (k:Tr w2 O2 w3 O3):Tr w1 O1 w3 O3:=h.trans k
theorem bi {α β:Type} {x:Option α} {f:α -> Option β} {r:β} (h:x.bind f = some r):∃ y,x = some y/\f y = some r:=dY h
abbrev Aa:=@RG.nil
abbrev Ab:=@RG.va
abbrev Ac:=@RG.mo
abbrev Ae:=@RG.so
abbrev Af:=@MX.sr
abbrev Ag:=@FV.move
abbrev Ah:=@RG.no
abbrev Ai:=@RD.vw
abbrev Aj:=@MX.seq
abbrev Ak:=@MX.region
abbrev Al:=@RG.ga
abbrev Am:=@FV.extract
abbrev Ao:=@MX.skip
abbrev Ap:=@MX.inBlock
abbrev Aq:=@MX.ret
abbrev Ar:=@MX.block
abbrev Au:=@RG.new
abbrev Av:=@RT.leave
abbrev Aw:=@Rep.mv
abbrev Ax:=@Rep.keep0
abbrev Ay:=@Cells.cons
abbrev Az:=@Cells.mv
abbrev AA:=@RG.l1
abbrev AB:=@FV.indexArr
abbrev AC:=@Does.al
abbrev AD:=@FV.pick_f
abbrev AE:=@Cells.at_
abbrev AF:=@St.start
abbrev AG:=@MX.start
abbrev AH:=@St.arrB
abbrev AI:=@Does.box
abbrev AJ:=@Cells.nil
abbrev AK:=@FV.lN
abbrev AL:=@FV.buildV
abbrev AM:=@FV.l1
abbrev AN:=@MX.ifd
abbrev AO:=@Does.build
abbrev AP:=@Acts.storeAll
abbrev AQ:=@RT.t1
abbrev AR:=@RD.vx
abbrev AS:=@MX.cond_t
abbrev AT:=@RG.fa
abbrev AU:=@RG.call'
abbrev AV:=@MX.exit
abbrev AW:=@FV.addN
abbrev AX:=@RG.sa
abbrev AY:=@Rep.lenle
abbrev AZ:=@RD.done
abbrev Ba:=@FV.assign
abbrev Bb:=@RG.pf
abbrev Bc:=@MX.drawT
abbrev Bd:=@RG.pt
abbrev Be:=@Rep.mv0
abbrev Bf:=@St.freeze
abbrev Bg:=@RG.un
abbrev Bh:=@FV.len
abbrev Bi:=@RD.offs
abbrev Bj:=@FV.pick_t
abbrev Bk:=@FV.ia
abbrev Bl:=@MX.cond_f
abbrev Bm:=@Rep.nth
abbrev Bn:=@RG.ifd
abbrev Bo:=@Rep.nilAt
abbrev Bp:=@FV.addc
abbrev Bq:=@FV.lssN
abbrev Br:=@FV.eql
abbrev Bs:=@Tr.refl
abbrev Bt:=@St.delS
abbrev Bu:=@St.delT
abbrev Bv:=@Rep.at_
abbrev Bw:=@DoesL.app
abbrev Bx:=@FV.nilCheck
abbrev By:=@Rep.o1
abbrev Bz:=@RG.doesL
abbrev BA:=@RG.cq
abbrev BB:=@FV.fa
abbrev BC:=@Calls.gives
end Go.Proofs.YtlleajifdbnbaaaGreatDoor
