/- Laws of the walk, more of them: strings, words of 32 bits, arrays as slices. No program in sight. -/
import Derived.Test.YtkimkkgicmipbaaGreatDoorVMj
import Derived.Laws.BytesString
import Derived.Laws.CopyRow
import Derived.Maps.RangeRun
import Derived.Shelf.SlSortCmp.NoneTotal
namespace Go.Proofs.YtkimkkgicmipbaaGreatDoor
open Go Go.RowKit
instance:Rep UInt32:=Rep.plain (fun x=>.int .u32 (x.toNat:Int)) (fun _=>rfl)
def ss (xs:Lb UInt8):ByteArray:=⟨xs.toArray⟩
section
variable {P:Program} {σ:Lb (Nat×Vc)} {w w0:World} {x y z:Operand} {d:Oa Tmp} {t t' s ty e:TypeId} {ps:String} {af:Array Edge} {g:Oa (Nat×Bool)} {O O' : Lb Ob} {v:Vc}
/-! ### Bytes as a string -/
theorem nV (xs:Lb UInt8):∀ r:ByteArray,(xs.map fun x=>(x.toNat:Int)).foldl (fun r n=>r.push (UInt8.ofNat n.toNat)) r=⟨(r.data.toList++xs).toArray⟩:=by
 induction xs with
 | nil=>intro r; obtain ⟨⟨r⟩⟩:=r; simp
 | cons x xs ih=>
  intro r
  rw [List.map_cons,List.foldl_cons,ih]
  have hx:UInt8.ofNat ((x.toNat:Int).toNat)=x:=by simp
  rw [hx]
  obtain ⟨⟨r⟩⟩:=r
  simp [ByteArray.push]
theorem FV.bytesS {xs:Lb UInt8} {L:Lb Nat} (hs:P.underlying s=some (.slice e)) (ht:P.underlying t=some .string) (he:P.underlying e=some (.int .u8)) (hx:ev σ x=some v) (h:Src w L v xs):FV P ⟨d,.convert s t x,ty,ps,af,g⟩ σ w (.string (ss xs)):=fun ρ ha w' hw=>by
 obtain ⟨A,c,ds,rfl,hc,hm,hA⟩:=h
 have hds:ds=xs.map fun x=>(Value.int .u8 (x.toNat:Int)):=by
  apply List.ext_getElem?
  intro i
  have hl:ds.length=xs.length:=by have:=hc.1; rwa [show Rep.size UInt8=1 from I,Nat.mul_one] at this
  rcases Nat.lt_or_ge i xs.length with hi | hi
  ·have h2:=hc.2 i hi
   rw [show Rep.size UInt8=1 from I,Nat.mul_one] at h2
   have h3:(ds.drop i).take 1=[.int .u8 (xs[i].toNat:Int)]:=h2
   have h4:=congrArg (·[0]?) h3
   simp only [List.getElem?_cons_zero,List.getElem?_take,Nat.zero_lt_one,if_true,List.getElem?_drop,Nat.add_zero] at h4
   rw [h4,List.getElem?_map,List.getElem?_eq_getElem hi]; rfl
  ·rw [List.getElem?_eq_none (by omega),List.getElem?_eq_none (by rw [List.length_map]; omega)]
 have key:(Conv.bytesToString (.slice A xs.length c)).run P w'=.ok (.string (ss xs)) w' :=by
  cases A with
  | none=>
   obtain rfl:=List.eq_nil_of_length_eq_zero (hA I)
   rfl
  | some ad=>
   have hl:(loadCells ad xs.length).run P w'=.ok ((xs.map fun x=>(x.toNat:Int)).map (Value.int .u8)).toArray w' :=by
    have h1:=run_loadCells_list (P:=P) w' ad ds (fun j u hu=>hw.cell0 (hm ad I j u hu))
    rw [hds,List.length_map] at h1
    rw [h1,List.map_map]; rfl
   rw [run_bytesToString w' ad xs.length c _ hl,nV]
   rfl
 simp [execOp,convert,ha _ _ hx,run_underlying hs,run_underlying ht,run_underlying he,key]
/-! ### Arrays as slices -/
theorem Src.arr {α:Type} [Rep α] {L:Lb Nat} {ys:Lb α} {p:Addr} {ds:Lb Vc} {n:Nat} (hm:∀ j u,ds[j]? = some u->w.cell? (p.add j)=some u) (hc:Cells w L ds ys) (hn:ys.length=n):Src w L (.slice (some p) n n) ys:=by
 subst hn
 exact ⟨some p,_,ds,rfl,hc,fun ad e=>by cases e; exact hm,fun e=>by cases e⟩
def aw {α:Type} (ys:Lb α) (j:Nat) (o:α):α:=(ys[j]?).getD o
def cpL {α:Type} (ys:Lb α):Nat->Lb α->Lb α
 | _,[]=>[]
 | j,o::os=>aw ys j o::cpL ys (j+1) os
theorem rL {α:Type} (ys:Lb α):∀ (os:Lb α) (j:Nat),cpL ys j os=(ys.drop j).take os.length++os.drop (min (ys.length-j) os.length)
 | [],j=>by simp [cpL]
 | o::os,j=>by
  rw [cpL,rL ys os (j+1)]
  unfold aw
  rcases Nat.lt_or_ge j ys.length with hj | hj
  ·rw [List.getElem?_eq_getElem hj,Option.getD_some,List.drop_eq_getElem_cons hj,List.length_cons,List.take_succ_cons,List.cons_append]
   congr 2
   rw [show min (ys.length-j) (os.length+1)=min (ys.length-(j+1)) os.length+1 by omega,List.drop_succ_cons]
  ·rw [List.getElem?_eq_none hj,Option.getD_none,List.drop_of_length_le hj,List.drop_of_length_le (by omega:ys.length<=j+1)]
   rw [show ys.length-j=0 by omega,show ys.length-(j+1)=0 by omega]
   simp
theorem DoesL.copyArr {α:Type} [Rep α] (f:α->Vc) {L:Lb Nat} {olds ys:Lb α} {pre post old new' : Lb Vc} {bk m' n:Nat} {eo:TypeId} {p:Addr} {sv:Vc} {dd:Oa Tmp} (hsz:Rep.size α=1) (hf:∀ w L cs (x:α),Rep.R w L cs x->cs=[f x]) (s:St w0 w O) (u:Upd O (.cells bk old eo) (.cells bk new' eo) O') (ht:ij P t 1=true)
  (hx:ev σ x=some (.slice (some p) n n)) (hp:p=⟨bk,m', none⟩) (hm:pre.length=m') (hn:olds.length=n) (ho:old=pre++olds.map f++post) (hnw:new'=pre++(cpL ys 0 olds).map f++post) (hy:ev σ y=some sv) (hs:Src w L sv ys) :
  DoesL P ⟨dd,.call { callee:=.builtin .copy,args:=#[x,y],argTypes:=#[t,t'] },ty,ps,af,g⟩ σ w (fun r w1=>r=.int .i64 ((min ys.length n:Nat):Int)/\Now w0 w O O' w1):=by
 intro ρ ha w' hw
 subst hp
 obtain ⟨As,cc,ds,rfl,g2,g3,g4⟩:=hs
 have hl:ds.length=ys.length:=by rw [g2.1,hsz,Nat.mul_one]
 have hds:ds=ys.map f:=by
  apply List.ext_getElem?
  intro i
  rcases Nat.lt_or_ge i ys.length with hi | hi
  ·have h2:=hf _ _ _ _ (g2.2 i hi)
   rw [hsz,Nat.mul_one] at h2
   have h4:=congrArg (·[0]?) h2
   simp only [List.getElem?_cons_zero,List.getElem?_take,Nat.zero_lt_one,if_true,List.getElem?_drop,Nat.add_zero] at h4
   rw [h4,List.getElem?_map,List.getElem?_eq_getElem hi]; rfl
  ·rw [List.getElem?_eq_none (by omega),List.getElem?_eq_none (by rw [List.length_map]; omega)]
 have hb:=s.get u
 have hb' : w'.heap[bk]? = some (.cells old.toArray eo (0,0)):=aJ hw hb
 have hnew:new'=old.take m'++ds.take (min ys.length n)++old.drop (m'+(ds.take (min ys.length n)).length):=by
  have e1:cpL ys 0 olds=ys.take (min ys.length n)++olds.drop (min ys.length n):=by
   rw [rL,List.drop_zero,Nat.sub_zero,hn]
   congr 1
   rcases Nat.le_total ys.length n with h | h
   ·rw [Nat.min_eq_left h,List.take_of_length_le h,List.take_length]
   ·rw [Nat.min_eq_right h]
  have e2:(ds.take (min ys.length n)).length=min ys.length n:=by rw [List.length_take,hl]; omega
  rw [hnw,e1,e2,ho,hds,<- List.map_take]
  subst hm
  rw [List.append_assoc pre (List.map f olds),List.take_left,List.drop_length_add_append,List.map_append,List.drop_append_of_le_length (by rw [List.length_map]; omega),List.map_drop]
  simp [List.append_assoc]
 unfold ij at ht
 split at ht
 ·rename_i el hun
  split at ht
  ·rename_i jj hjj
   have hinfo:(P.info? el).map (·.size)=some 1:=by rw [hjj]; simp; simpa using ht
   have hst:∀ w1,Agree [bk] w' w1->w1.heap[bk]? = some (.cells new'.toArray eo (0,0))->Now w0 w O O' w1:=fun w1 hag h1=>by
    have hag' : Agree [bk] w w1:=(hw.widen).trans hag
    have hL:∀ b∈[bk],(Ob.cells bk old eo).block=some b:=by simp [Ob.block]
    exact ⟨s.upd u hag' hL h1 (fun b e=>.inl e),Tr.upd u hag' hL (fun b e=>.inl e)⟩
   by_cases hk:min ys.length n=0
   ·refine ⟨.int .i64 0,w', ?_,by rw [hk]; rfl,hst w' (Agree.refl _ _) ?_⟩
    ·have:=run_copy_none (P:=P) w' t t' ty el (some ⟨bk,m', none⟩) As n n ys.length cc hun hinfo hk
     simp only [execOp,resolve,invoke,builtin,Array.map]
     simp [ha _ _ hx,ha _ _ hy,this,goInt]
    ·rw [hb']
     have:new'=old:=by rw [hnew,hk]; simp
     rw [this]
   ·cases hAs:As with
    | none=>have:=g4 hAs; omega
    | some a=>
     have hfit:m'+(ds.take (min ys.length n)).length<=old.length:=by
      rw [ho,List.length_take,hl]; simp only [List.length_append,List.length_map]; omega
     have key:=run_copy_row (P:=P) w' t t' ty el bk m' n n a ys.length cc old.toArray eo (ds.take (min ys.length n)) hun hinfo hb' (by rw [List.length_take,hl]; show _=min _ _; omega)
      (fun j u9 hj=>hw.cell0 (pS (g3 a hAs) _ j u9 hj)) (by simpa using hfit) (fun u9 hm=>g2.cell u9 (List.mem_of_mem_take hm))
     refine ⟨.int .i64 ((min ys.length n:Nat):Int),w'.setRow bk (old.take m'++ds.take (min ys.length n)++old.drop (m'+(ds.take (min ys.length n)).length)).toArray,?_,I,hst _ (ei hb' _) ?_⟩
     ·have hkl:(ds.take (min ys.length n)).length=min ys.length n:=by rw [List.length_take,hl]; omega
      rw [hkl] at key ⊢
      subst hAs
      simp only [execOp,resolve,invoke,builtin,Array.map]
      simp only [Sem.run_bind]
      simp [ha _ _ hx,ha _ _ hy,key,goInt]
     ·rw [hnew]; exact setRow_heap w' bk _ _ eo _ hb'
  ·cases ht
 ·cases ht
/-! ### Great arrays -/
end
/-! ### Calls that hand over slices of their own -/
def bh (base:Nat) (l:Lb (TypeId×Nat×Vc×Nat×Lb Vc)):Lb Ob:=l.map fun r=>.row base r.1 r.2.1 r.2.2.1 r.2.2.2.1 r.2.2.2.2
theorem fJ (b b' : Nat):∀ l,bl (bh b l)=bl (bh b' l)
 | []=>rfl
 | r::l=>by
  have:=fJ b b' l
  unfold bh at *
  rw [List.map_cons,List.map_cons,mc,mc,this]; rfl
theorem Owns.rebase {w:World} {b b' : Nat} (h:b'<=b):∀ {l},Owns w (bh b l)->Owns w (bh b' l)
 | [],_=>trivial
 | r::l,⟨h1,h2,h3⟩=>by
  refine ⟨?_,fun c hc=>?_,Owns.rebase h h3⟩
  ·obtain ⟨⟨h4,h5⟩,h6⟩:=h1
   refine ⟨⟨h4,?_⟩,h6⟩
   rcases h5 with h5 | ⟨g,cap,cur,e1,e2,rest⟩
   ·exact .inl h5
   ·exact .inr ⟨g,cap,cur,e1,Nat.le_trans h e2,rest⟩
  ·rw [show List.map _ l=bh b' l from I,fJ b' b]; exact h2 c hc
theorem St.rebase {w w9 w8:World} {b b' : Nat} {l:Lb (TypeId×Nat×Vc×Nat×Lb Vc)} (s:St w9 w8 (bh b l)) (hw:Agree [] w w9) (h:b'<=b):St w w8 (bh b' l):=
 ⟨hw.trans s.ag,fun c hc=>Nat.le_trans hw.size (s.new c (by rw [fJ b b']; exact hc)),s.ok.rebase h⟩
theorem Cells.rebase {α:Type} [Rep α] {w:World} {b b' : Nat} {l:Lb (TypeId×Nat×Vc×Nat×Lb Vc)} {L:Lb Nat} {cs:Lb Vc} {xs:Lb α} (h:Cells w (bl (bh b l)++L) cs xs):Cells w (bl (bh b' l)++L) cs xs:=by rw [fJ b' b]; exact h
theorem eX {α:Type} [Rep α] {w:World} {b:Nat} {l:Lb (TypeId×Nat×Vc×Nat×Lb Vc)} {O:Lb Ob} {L:Lb Nat} {cs:Lb Vc} {xs:Lb α} (h:Cells w (bl (bh b l)++(bl O++L)) cs xs):Cells w (bl (bh b l++O)++L) cs xs:=by
 rw [dW,List.append_assoc]; exact h
/-! ### Facts at a standing -/
section
variable {α:Type} [Rep α] {w0 w w1:World} {O O' : Lb Ob}
theorem Rep.nilAt (_:St w0 w O) (L:Lb Nat):Rep.R w (bl O++L) [.slice none 0 0] ([]:Lb α):=Rep.nilSlice _ _
theorem Rep.at_ {v:Vc} {xs:Lb α} (_:St w0 w O) (L:Lb Nat) (h:Rep.R w (bl O++L) [v] xs):Rep.R w (bl O++L) [v] xs:=h
theorem Cells.at_ {cs:Lb Vc} {xs:Lb α} (_:St w0 w O) (L:Lb Nat) (h:Cells w (bl O++L) cs xs):Cells w (bl O++L) cs xs:=h
end
section
variable {w0 w w1:World} {O O' : Lb Ob}
theorem St.delS {o:Ob} (s:St w0 w O) (u:Out O o O'):St w0 w O' :=s.del u.del
theorem St.delT {o:Ob} (_:St w0 w O) (u:Out O o O'):Tr w O w O' :=Tr.del u.del
theorem St.arrB (s:St w0 w O) (h:Arr O O'):St w0 w O' /\Tr w O w O' :=⟨s.arr h,Tr.arr h⟩
theorem St.agr (s:St w0 w O) (h:Agree [] w w1):St w0 w1 O/\Tr w O w1 O:=⟨s.agree h,Tr.agree h⟩
theorem St.nilRowT (_:St w0 w O) (e:TypeId) (sz:Nat):Tr w O w (.row w0.heap.size e sz (.slice none 0 0) 0 []::O):=Tr.nilRow _ _ _
theorem gX {e:TypeId} {sz n:Nat} {v:Vc} {cs:Lb Vc} {b:Nat} (s:St w0 w O) (s1:St w w1 (bh b [(e,sz,v,n,cs)])):St w0 w1 (.row b e sz v n cs::O):=St.merge s s1
theorem mh {e:TypeId} {sz n:Nat} {v:Vc} {cs:Lb Vc} {b:Nat} (s:St w0 w O) (s1:St w w1 (bh b [(e,sz,v,n,cs)])):Tr w O w1 (.row b e sz v n cs::O):=Tr.merge s s1
theorem fV {P:Program} {f:FuncId} {vs:Array Vc} {w9:World} {α:Type} [Rep α] {F:Vc->Vc} {e:TypeId} {sz n b0:Nat} {L:Lb Nat} {xs:Lb α} (h:Calls P f vs w9 (aj w9 fun w' u=>∃ (v:Vc) (cs:Lb Vc),u=F v/\St w9 w' (bh w9.heap.size [(e,sz,v,n,cs)])/\Cells w' (bl (bh w9.heap.size [(e,sz,v,n,cs)])++L) cs xs)) (hw:Agree [] w w9) (hb:b0<=w9.heap.size) :
  Calls P f vs w9 (aj w9 fun w' u=>∃ (v:Vc) (cs:Lb Vc),u=F v/\St w w' (bh b0 [(e,sz,v,n,cs)])/\Cells w' (bl (bh b0 [(e,sz,v,n,cs)])++L) cs xs):=
 Calls.gives h fun _ _ ⟨v,cs,hu,s,hc⟩=>⟨v,cs,hu,s.rebase hw hb,hc.rebase⟩
end
/-! ### Short forms -/
section
variable {P:Program} {Z:Machine->Prop} {b:Frame} {n:Nat} {ds:Lb Deferred} {cs:Lb Frame} {k:Lb Item} {σ:Lb (Nat×Vc)} {w w0:World} {ops:Array Oper} {l:Lb Oper} {d:Nat} {op:Op} {ty:TypeId} {ps:String} {af:Array Edge} {v:Vc} {x y:Operand} {t f m m' i:Nat} {O O' : Lb Ob} {g:Oa (Nat×Bool)} {κ:KP}
theorem RG.vv (hq:FV P ⟨some d,op,ty,ps,af,none⟩ σ w v) (hd:Nat.blt d n=true) (h:RG P Z b n ds cs ops l k ((d,v)::σ) w):RG P Z b n ds cs ops (⟨some d,op,ty,ps,af,none⟩::l) k σ w:=RG.val' .plain hq hd h
theorem RG.mv (hx:ev σ x=some v) (hd:Nat.blt d n=true) (h:RG P Z b n ds cs ops l k ((d,v)::σ) w):RG P Z b n ds cs ops (⟨some d,.move x,ty,ps,af,none⟩::l) k σ w:=RG.val' .plain (FV.move hx) hd h
theorem RG.sg (hx:ev σ x=some v) (hd:Nat.blt d n=true) (h:RG P Z b n ds cs ops l k ((d,v)::σ) w):RG P Z b n ds cs ops (⟨some d,.assign x,ty,ps,af,none⟩::l) k σ w:=RG.val' .plain (FV.assign hx) hd h
theorem MX.sr {id:Nat} {c:Code} (h:RG P Z b n ds cs l.toArray l (.code c::k) σ w):MX P Z b n ds cs (.code (.seq (.region id l.toArray false) c)::k) σ w:=MX.seq (MX.region h)
theorem Acts.storeAll {bk:Nat} {p:Addr} {old news:Lb Vc} {e t:TypeId} {dd:Oa Tmp} (s:St w0 w O) (u:Upd O (.cells bk old e) (.cells bk news e) O') (hx:ev σ x=some (.pointer (some p))) (hp:p=⟨bk,0,none⟩) (hy:ev σ y=some v) (hv:v.cells=news.toArray) (hs:dS P t news.length=true) (hl:old.length=news.length) (h1:∀ u∈news,u.oneCell'=true):Acts P ⟨dd,.store t x y,ty,ps,af,g⟩ σ w (Now w0 w O O'):=
 Acts.store (j:=0) s u hx hp hy hv hs (by rw [Nat.ble_eq,hl]; omega) h1 (by rw [Nat.zero_add,<- hl,List.drop_length,List.take_zero]; simp)
theorem RD.vw {T:Lb (Nat×Nat×Nat)} (i m' : Nat) (hT:bU ops=T) (hi:ops[i]? = some ⟨some d,op,ty,ps,af,none⟩) (hp:ba ops=true) (hq:∀ w,FV P ⟨some d,op,ty,ps,af,none⟩ σ w v) (hd:Nat.blt d n=true)
  (h:RD κ P Z b n ds cs ops t f m' k ((d,v)::σ) w) (hB:iq T t m i m'=true:=by kernel_rfl) (hfr:κ.free i=true:=by rfl):RD κ P Z b n ds cs ops t (f+1) m k σ w:=RD.vP i m' hT hi hp .plain hq hd h hB hfr
theorem RD.vx {T:Lb (Nat×Nat×Nat)} (i m' W:Nat) (hT:bU ops=T) (hi:ops[i]? = some ⟨some d,op,ty,ps,af,none⟩) (hp:ba ops=true) (hq:FV P ⟨some d,op,ty,ps,af,none⟩ σ w v) (hd:Nat.blt d n=true)
  (h:RD κ P Z b n ds cs ops t f m' k ((d,v)::σ) w) (hB:kX T t m W i m'=true:=by kernel_rfl) (hfr:κ.free i=true:=by rfl):RD κ P Z b n ds cs ops t (f+1) m k σ w:=RD.val (jr hT hB) hi hp .plain hq hd h hfr
theorem RD.cq {T:Lb (Nat×Nat×Nat)} {fn:FuncId} {c:Operand} {xs:Lb Operand} {vs:Lb Vc} {ts:Array TypeId} (i m' W:Nat) (v:Vc) (hT:bU ops=T) (hi:ops[i]? = some ⟨some d,.call { callee:=.value c,args:=xs.toArray,argTypes:=ts },ty,ps,af,none⟩) (hp:ba ops=true)
  (hf:cr P fn=true) (hcal:ev σ c=some (.func (.func fn) #[] #[])) (hv:evs σ xs vs) (hc:∀ w', Agree [] w w'->Calls P fn ([]++vs++[]).toArray w' (aj w' fun _ u=>u=v)) (hd:Nat.blt d n=true)
  (h:RD κ P Z b n ds cs ops t f m' k ((d,v)::σ) w) (hB:kX T t m W i m'=true:=by kernel_rfl) (hfr:κ.free i=true:=by rfl):RD κ P Z b n ds cs ops t (f+1) m k σ w:=RD.callq (fst:=[]) (cap:=[]) (jr hT hB) hi hp .plain hf hcal hv hc hd h hfr
theorem RG.cq {fn:FuncId} {c:Operand} {xs:Lb Operand} {vs:Lb Vc} {ts:Array TypeId} (v:Vc) (hf:cr P fn=true) (hcal:ev σ c=some (.func (.func fn) #[] #[])) (hv:evs σ xs vs)
  (hc:∀ w', Agree [] w w'->Calls P fn ([]++vs++[]).toArray w' (aj w' fun _ u=>u=v)) (hd:Nat.blt d n=true) (h:RG P Z b n ds cs ops l k ((d,v)::σ) w) :
  RG P Z b n ds cs ops (⟨some d,.call { callee:=.value c,args:=xs.toArray,argTypes:=ts },ty,ps,af,none⟩::l) k σ w:=RG.callq' (fst:=[]) (cap:=[]) .plain hf hcal hv hc hd h
theorem RD.nu {T:Lb (Nat×Nat×Nat)} {mk:Nat->Ob} {pv:Nat->Vc} (i m' : Nat) (hT:bU ops=T) (hi:ops[i]? = some ⟨some d,op,ty,ps,af,g⟩) (hg:Want ops σ g true) (hd:Nat.blt d n=true) (D:Does P ⟨some d,op,ty,ps,af,g⟩ σ w (New w0 w O mk pv)) (h:∀ w1 b', St w0 w1 (mk b'::O)->Tr w O w1 (mk b'::O)->RD κ P Z b n ds cs ops t f m' k ((d,pv b')::σ) w1)
  (h1:iu T m [i]=true:=by kernel_rfl) (h2:kS T m i m'=true:=by kernel_rfl) (hk:κ.nd (lst ops.size m)->Kp κ.c w:=by exact KP.triv):RD κ P Z b n ds cs ops t (f+1) m k σ w:=RD.one (fI hT h1) (RO.new (gT hT h2) hi hg hd D h) hk
theorem RD.nw {T:Lb (Nat×Nat×Nat)} (i m' : Nat) (hT:bU ops=T) (hi:ops[i]? = some ⟨none,op,ty,ps,af,g⟩) (htl:tail t i=true) (hg:Want ops σ g true) (D:Acts P ⟨none,op,ty,ps,af,g⟩ σ w (Now w0 w O O')) (h:∀ w1,St w0 w1 O'->Tr w O w1 O'->RD κ P Z b n ds cs ops t f m' k σ w1)
  (h1:iu T m [i]=true:=by kernel_rfl) (h2:kS T m i m'=true:=by kernel_rfl) (hk:κ.nd (lst ops.size m)->Kp κ.c w:=by exact KP.triv):RD κ P Z b n ds cs ops t (f+1) m k σ w:=RD.one (fI hT h1) (RO.now (gT hT h2) hi htl hg D h) hk
theorem RD.cl {T:Lb (Nat×Nat×Nat)} {fn:FuncId} {c:Operand} {xs:Lb Operand} {vs:Lb Vc} {ts:Array TypeId} {R:World->Vc->Prop} (i m' : Nat) (hT:bU ops=T) (hi:ops[i]? = some ⟨some d,.call { callee:=.value c,args:=xs.toArray,argTypes:=ts },ty,ps,af,g⟩) (hg:Want ops σ g true)
  (hf:cr P fn=true) (hcal:ev σ c=some (.func (.func fn) #[] #[])) (hv:evs σ xs vs) (hc:∀ w', Agree [] w w'->Calls P fn ([]++vs++[]).toArray w' (aj w' R)) (hd:Nat.blt d n=true)
  (h:∀ w1 v,Agree [] w w1->R w1 v->RD κ P Z b n ds cs ops t f m' k ((d,v)::σ) w1) (h1:iu T m [i]=true:=by kernel_rfl) (h2:kS T m i m'=true:=by kernel_rfl) (hk:κ.nd (lst ops.size m)->Kp κ.c w:=by exact KP.triv):RD κ P Z b n ds cs ops t (f+1) m k σ w:=
 RD.one (fI hT h1) (RO.call (fst:=[]) (cap:=[]) (gT hT h2) hi hg hf hcal hv hc hd h) hk
end
theorem aC {l:Lb Vc} (h:l.all (·.oneCell')=true):∀ u∈l,u.oneCell'=true:=List.all_eq_true.1 h
section
variable {α:Type} [Rep α] {w w0:World} {O O' : Lb Ob} {L:Lb Nat} {v:Vc} {xs ys zs:Lb α} {cs:Lb Vc} {e:TypeId} {base:Nat}
variable {P:Program} {σ:Lb (Nat×Vc)} {ty:TypeId} {ps:String} {af:Array Edge} {x y:Operand} {t:TypeId} {g:Oa (Nat×Bool)} {bytes:Nat} {z:Vc} {zc:Lb Vc} {dd:Oa Tmp}
inductive Reps {α:Type} [Rep α] (w:World) (L:Lb Nat):Lb (Lb Vc)->Lb α->Prop
 | nil:Reps w L [] []
 | cons {c:Lb Vc} {u:α} {css:Lb (Lb Vc)} {us:Lb α} (h:Rep.R w L c u) (t:Reps w L css us):Reps w L (c::css) (u::us)
end
section
variable {α:Type} [Rep α] {w0 w w9:World} {O:Lb Ob} {L:Lb Nat} {cs:Lb Vc} {x:α}
theorem St.k0 (s:St w0 w O) (h:Rep.R w0 L cs x) (hw:Agree [] w w9):Rep.R w9 L cs x:=Rep.keep0 h (s.ag.trans hw)
theorem St.km (s:St w0 w O) (h:Rep.R w0 L cs x) (hw:Agree [] w w9):Rep.R w9 (bl O++L) cs x:=Rep.keep0 (Rep.mv0 h s) hw
theorem St.kd (_:St w0 w O) (h:Rep.R w (bl O++L) cs x) (hw:Agree [] w w9):Rep.R w9 L cs x:=Rep.keep0 (Rep.dropO h) hw
end
section
variable {P:Program} {Z:Machine->Prop} {b:Frame} {n:Nat} {ds:Lb Deferred} {cs:Lb Frame} {k:Lb Item} {σ τ:Lb (Nat×Vc)} {w:World} {ops:Array Oper} {l:Lb Oper} {d:Nat} {op:Op} {ty:TypeId} {ps:String} {af:Array Edge} {g:Oa (Nat×Bool)} {t f m m' i:Nat} {Q:Vc->Prop} {κ:KP}
end
section
variable {w0 w w1:World} {O O' : Lb Ob}
end
/-! ### Shorter forms -/
@[reducible] def vI (x:Int):Vc:=.int .i64 x
@[reducible] def vN:Vc:=.slice none 0 0
@[reducible] def vP (b:Nat):Vc:=.pointer (some ⟨b,0,none⟩)
@[reducible] def vS (b n:Nat):Vc:=.slice (some ⟨b,0,none⟩) n n
section
variable {P:Program} {Z:Machine->Prop} {b:Frame} {n:Nat} {ds:Lb Deferred} {cs:Lb Frame} {k:Lb Item} {σ:Lb (Nat×Vc)} {w w0:World} {ops:Array Oper} {l:Lb Oper} {d:Nat} {op:Op} {ty:TypeId} {ps:String} {af:Array Edge} {v:Vc} {x y c:Operand} {t f m m' i:Nat} {O O' : Lb Ob} {g:Oa (Nat×Bool)} {dd:Oa Tmp} {j:Nat} {q:Bool} {p:Addr}
theorem RG.mo (hx:ev σ x=some v) (h:RG P Z b n ds cs ops l k ((d,v)::σ) w) (hd:Nat.blt d n=true:=by rfl):RG P Z b n ds cs ops (⟨some d,.move x,ty,ps,af,none⟩::l) k σ w:=RG.mv hx hd h
theorem RG.so (hx:ev σ x=some v) (h:RG P Z b n ds cs ops l k ((d,v)::σ) w) (hd:Nat.blt d n=true:=by rfl):RG P Z b n ds cs ops (⟨some d,.assign x,ty,ps,af,none⟩::l) k σ w:=RG.sg hx hd h
theorem RG.va (hq:FV P ⟨some d,op,ty,ps,af,none⟩ σ w v) (h:RG P Z b n ds cs ops l k ((d,v)::σ) w) (hd:Nat.blt d n=true:=by rfl):RG P Z b n ds cs ops (⟨some d,op,ty,ps,af,none⟩::l) k σ w:=RG.vv hq hd h
theorem RG.ga (hq:FV P ⟨some d,op,ty,ps,af,some (j,q)⟩ σ w v) (h:RG P Z b n ds cs ops l k ((d,v)::σ) w) (hg:Want ops σ (some (j,q)) true:=by exact .yes rfl rfl) (hd:Nat.blt d n=true:=by rfl):RG P Z b n ds cs ops (⟨some d,op,ty,ps,af,some (j,q)⟩::l) k σ w:=RG.val' hg hq hd h
theorem RG.no  (h:RG P Z b n ds cs ops l k ((d,undef)::σ) w) (hg:Want ops σ (some (j,q)) false:=by exact .no rfl rfl) (hd:Nat.blt d n=true:=by rfl):RG P Z b n ds cs ops (⟨some d,op,ty,ps,af,some (j,q)⟩::l) k σ w:=RG.off hg hd h
theorem RG.un  (h:RG P Z b n ds cs ops l k ((d,undef)::σ) w) (hg:Want ops σ (some (j,q)) false:=by exact .undef rfl rfl) (hd:Nat.blt d n=true:=by rfl):RG P Z b n ds cs ops (⟨some d,op,ty,ps,af,some (j,q)⟩::l) k σ w:=RG.off hg hd h
theorem FV.fa {fi:Nat} (off:Nat) (hx:ev σ x=some (.pointer (some p))) (hf:kf P t fi off=true:=by kernel_rfl):FV P ⟨dd,.fieldAddr t x fi,ty,ps,af,g⟩ σ w (.pointer (some (p.add off))):=FV.fieldAddr hf hx
theorem FV.l1 (hx:ev σ x=some (.pointer (some p))) (hc:w.cell? p=some v) (ht:ow P t=true:=by kernel_rfl):FV P ⟨dd,.load t x,ty,ps,af,g⟩ σ w v:=FV.load1 ht hx hc
theorem FV.lN {cl:Lb Vc} (hx:ev σ x=some (.pointer (some p))) (hc:∀ j v,cl[j]? = some v->w.cell? (p.add j)=some v) (ht:pN P t cl.length=true:=by kernel_rfl):FV P ⟨dd,.load t x,ty,ps,af,g⟩ σ w (.agg cl.toArray):=FV.loadN ht hx hc
theorem FV.ia {len c:Nat} {kd:IntKind} {j:Int} (m i:Nat) (hx:ev σ x=some v) (he:v=.slice (some p) len c) (hy:ev σ y=some (.int kd j)) (hj:j=(i:Int)) (hk:i<len) (ht:ij P t m=true:=by kernel_rfl):FV P ⟨dd,.indexAddr t x y,ty,ps,af,g⟩ σ w (.pointer (some (p.add (i*m)))):=FV.idxAddr ht hx he hy hj hk
theorem RG.fa {fi:Nat} (off:Nat) (hx:ev σ x=some (.pointer (some p))) (h:RG P Z b n ds cs ops l k ((d,.pointer (some (p.add off)))::σ) w) (hf:kf P t fi off=true:=by kernel_rfl) (hd:Nat.blt d n=true:=by rfl):RG P Z b n ds cs ops (⟨some d,.fieldAddr t x fi,ty,ps,af,none⟩::l) k σ w:=RG.vv (FV.fieldAddr hf hx) hd h
theorem RG.fg {fi:Nat} (off:Nat) (hx:ev σ x=some (.pointer (some p))) (h:RG P Z b n ds cs ops l k ((d,.pointer (some (p.add off)))::σ) w) (hf:kf P t fi off=true:=by kernel_rfl) (hg:Want ops σ (some (j,q)) true:=by exact .yes rfl rfl) (hd:Nat.blt d n=true:=by rfl):RG P Z b n ds cs ops (⟨some d,.fieldAddr t x fi,ty,ps,af,some (j,q)⟩::l) k σ w:=RG.val' hg (FV.fieldAddr hf hx) hd h
theorem RG.l1 (hx:ev σ x=some (.pointer (some p))) (hc:w.cell? p=some v) (h:RG P Z b n ds cs ops l k ((d,v)::σ) w) (ht:ow P t=true:=by kernel_rfl) (hd:Nat.blt d n=true:=by rfl):RG P Z b n ds cs ops (⟨some d,.load t x,ty,ps,af,none⟩::l) k σ w:=RG.vv (FV.load1 ht hx hc) hd h
theorem RG.pt (hc:ev σ c=some (.bool true)) (hx:ev σ x=some v) (h:RG P Z b n ds cs ops l k ((d,v)::σ) w) (hd:Nat.blt d n=true:=by rfl):RG P Z b n ds cs ops (⟨some d,.pick c x y,ty,ps,af,none⟩::l) k σ w:=RG.vv (FV.pick_t hc hx) hd h
theorem RG.pf (hc:ev σ c=some (.bool false)) (hx:ev σ y=some v) (h:RG P Z b n ds cs ops l k ((d,v)::σ) w) (hd:Nat.blt d n=true:=by rfl):RG P Z b n ds cs ops (⟨some d,.pick c x y,ty,ps,af,none⟩::l) k σ w:=RG.vv (FV.pick_f hc hx) hd h
theorem e1 {x0:Operand} {v0:Vc} (h0:ev σ x0=some v0):evs σ [x0] [v0]:=az h0 (aB)
theorem o1 {v0:Vc} (h0:v0.oneCell'=true):∀ u∈[v0],u.oneCell'=true:=bK h0 (gF)
theorem e2 {x0 x1:Operand} {v0 v1:Vc} (h0:ev σ x0=some v0) (h1:ev σ x1=some v1):evs σ [x0,x1] [v0,v1]:=az h0 (az h1 (aB))
theorem o2 {v0 v1:Vc} (h0:v0.oneCell'=true) (h1:v1.oneCell'=true):∀ u∈[v0,v1],u.oneCell'=true:=bK h0 (bK h1 (gF))
theorem e3 {x0 x1 x2:Operand} {v0 v1 v2:Vc} (h0:ev σ x0=some v0) (h1:ev σ x1=some v1) (h2:ev σ x2=some v2):evs σ [x0,x1,x2] [v0,v1,v2]:=az h0 (az h1 (az h2 (aB)))
theorem o3 {v0 v1 v2:Vc} (h0:v0.oneCell'=true) (h1:v1.oneCell'=true) (h2:v2.oneCell'=true):∀ u∈[v0,v1,v2],u.oneCell'=true:=bK h0 (bK h1 (bK h2 (gF)))
theorem e4 {x0 x1 x2 x3:Operand} {v0 v1 v2 v3:Vc} (h0:ev σ x0=some v0) (h1:ev σ x1=some v1) (h2:ev σ x2=some v2) (h3:ev σ x3=some v3):evs σ [x0,x1,x2,x3] [v0,v1,v2,v3]:=az h0 (az h1 (az h2 (az h3 (aB))))
theorem o4 {v0 v1 v2 v3:Vc} (h0:v0.oneCell'=true) (h1:v1.oneCell'=true) (h2:v2.oneCell'=true) (h3:v3.oneCell'=true):∀ u∈[v0,v1,v2,v3],u.oneCell'=true:=bK h0 (bK h1 (bK h2 (bK h3 (gF))))
theorem e5 {x0 x1 x2 x3 x4:Operand} {v0 v1 v2 v3 v4:Vc} (h0:ev σ x0=some v0) (h1:ev σ x1=some v1) (h2:ev σ x2=some v2) (h3:ev σ x3=some v3) (h4:ev σ x4=some v4):evs σ [x0,x1,x2,x3,x4] [v0,v1,v2,v3,v4]:=az h0 (az h1 (az h2 (az h3 (az h4 (aB)))))
theorem e6 {x0 x1 x2 x3 x4 x5:Operand} {v0 v1 v2 v3 v4 v5:Vc} (h0:ev σ x0=some v0) (h1:ev σ x1=some v1) (h2:ev σ x2=some v2) (h3:ev σ x3=some v3) (h4:ev σ x4=some v4) (h5:ev σ x5=some v5):evs σ [x0,x1,x2,x3,x4,x5] [v0,v1,v2,v3,v4,v5]:=az h0 (az h1 (az h2 (az h3 (az h4 (az h5 (aB))))))
theorem e7 {x0 x1 x2 x3 x4 x5 x6:Operand} {v0 v1 v2 v3 v4 v5 v6:Vc} (h0:ev σ x0=some v0) (h1:ev σ x1=some v1) (h2:ev σ x2=some v2) (h3:ev σ x3=some v3) (h4:ev σ x4=some v4) (h5:ev σ x5=some v5) (h6:ev σ x6=some v6):evs σ [x0,x1,x2,x3,x4,x5,x6] [v0,v1,v2,v3,v4,v5,v6]:=az h0 (az h1 (az h2 (az h3 (az h4 (az h5 (az h6 (aB)))))))
theorem e8 {x0 x1 x2 x3 x4 x5 x6 x7:Operand} {v0 v1 v2 v3 v4 v5 v6 v7:Vc} (h0:ev σ x0=some v0) (h1:ev σ x1=some v1) (h2:ev σ x2=some v2) (h3:ev σ x3=some v3) (h4:ev σ x4=some v4) (h5:ev σ x5=some v5) (h6:ev σ x6=some v6) (h7:ev σ x7=some v7):evs σ [x0,x1,x2,x3,x4,x5,x6,x7] [v0,v1,v2,v3,v4,v5,v6,v7]:=az h0 (az h1 (az h2 (az h3 (az h4 (az h5 (az h6 (az h7 (aB))))))))
theorem RT.t1 {fi:FuncId} {fn:Func} {r:Tmp} {X:Vc->World->Prop} (hk:RetOK P Z fi cs X) (hf:P.funcs[fi]? = some fn) (hr:fn.results=#[.tmp r]) (hx:look σ r=some v) (h:X v w):RT P Z (fb fi .normal none) n [] cs σ w:=RT.leave hk hf hr (.cons (.tmp hx) .nil) rfl h
theorem St.gv {u:Vc} (s:St w0 w O):Agree [] w0 w/\∀ w9,Agree [] w w9->u=u:=⟨s.ag,fun _ _=>rfl⟩
end
section
variable {P:Program} {Z:Machine->Prop} {b:Frame} {n:Nat} {ds:Lb Deferred} {cs:Lb Frame} {k:Lb Item} {σ:Lb (Nat×Vc)} {w w0 w1:World} {ops:Array Oper} {l:Lb Oper} {ty:TypeId} {ps:String} {af:Array Edge} {v:Vc} {x y:Operand} {t:TypeId} {O O' : Lb Ob} {g:Oa (Nat×Bool)} {dd:Oa Tmp} {p:Addr}
theorem RG.sa {bk:Nat} {old:Lb Vc} {e:TypeId} (news:Lb Vc) (s:St w0 w O) (u:Upd O (.cells bk old e) (.cells bk news e) O') (h1:∀ u∈news,u.oneCell'=true) (h:∀ w1,St w0 w1 O'->Tr w O w1 O'->RG P Z b n ds cs ops l k σ w1) (hx:ev σ x=some (.pointer (some p)):=by rfl) (hp:p=⟨bk,0,none⟩:=by rfl) (hy:ev σ y=some v:=by rfl) (hv:v.cells=news.toArray:=by rfl) (hs:dS P t news.length=true:=by rfl) (hl:old.length=news.length:=by rfl):RG P Z b n ds cs ops (⟨none,.store t x y,ty,ps,af,none⟩::l) k σ w:=RG.now .plain (Acts.storeAll s u hx hp hy hv hs hl h1) h
theorem Does.al (zs:Lb Vc) (s:St w0 w O) (hz:eh P t zs:=by exact zB (by kernel_rfl)):Does P ⟨dd,.alloc t,ty,ps,af,g⟩ σ w (New w0 w O (fun b' =>.cells b' zs t) (fun b' =>.pointer (some ⟨b', 0,none⟩))):=Does.alloc s hz
theorem gM {o:Ob} (s:St w0 w O) (s1:St w w1 [o]):St w0 w1 (o::O):=St.merge s s1
theorem lG {o:Ob} (s:St w0 w O) (s1:St w w1 [o]):Tr w O w1 (o::O):=Tr.merge s s1
theorem nt {o o2:Ob} (s:St w0 w O) (s1:St w w1 [o,o2]):St w0 w1 (o::o2::O):=St.merge s s1
theorem tc {o o2:Ob} (s:St w0 w O) (s1:St w w1 [o,o2]):Tr w O w1 (o::o2::O):=Tr.merge s s1
end
section
open Go Go.RowKit
def bN (bm n:Nat) (sn:Array Nat):Obj:=.mapIter (some bm) n sn n
def left {ε:Type} (D:Lb ε) (sn:Array Nat):Lb ε:=(D.zipIdx.filter fun e=>!sn.contains e.2).map (·.1)
def dM {ε:Type}:Lb ε->Lb (ε×Lb ε)
 | []=>[]
 | x::xs=>(x,xs)::(dM xs).map fun e=>(e.1,x::e.2)
def gB {α:Type} [DecidableEq α]:Lb (Oa α)->Oa α
 | []=>none
 | x::xs=>if xs.all (fun y=>decide (y=x)) then x else none
def mloop {ε γ α:Type} [DecidableEq α] (X:γ->Oa α) (B:ε->(γ->Oa α)->γ->Oa α):Nat->Lb ε->γ->Oa α
 | _,[],s=>X s
 | 0,_::_,_=>none
 | n+1,x::xs,s=>gB ((dM (x::xs)).map fun e=>B e.1 (mloop X B n e.2) s)
theorem nk {α:Type} [DecidableEq α] {l:Lb (Oa α)} {r:α} (h:gB l=some r) {y:Oa α} (hy:y∈l):y=some r:=by
 cases l with
 | nil=>cases hy
 | cons x xs=>
  simp only [gB] at h
  split at h
  ·rename_i ha
   rcases List.mem_cons.1 hy with rfl | hy
   ·exact h
   ·rw [of_decide_eq_true (List.all_eq_true.1 ha y hy)]; exact h
  ·cases h
theorem nZ {α:Type} [DecidableEq α] {l:Lb (Oa α)} {r:α} (hn:l≠[]) (h:∀ y∈l,y=some r):gB l=some r:=by
 cases l with
 | nil=>exact absurd I hn
 | cons x xs=>
  simp only [gB]
  rw [if_pos (List.all_eq_true.2 fun y hy=>decide_eq_true ((h y (List.mem_cons_of_mem _ hy)).trans (h x (List.mem_cons_self ..)).symm))]
  exact h x (List.mem_cons_self ..)
theorem oz {ε:Type} (q:Nat->Bool) (D:Lb ε) (k:Nat) (h:∀ i,k<=i->q i=true):((D.zipIdx k).filter fun e=>q e.2).map (·.1)=D:=by
 induction D generalizing k with
 | nil=>rfl
 | cons x D ih=>rw [List.zipIdx_cons,List.filter_cons_of_pos (by simpa using h k (Nat.le_refl _)),List.map_cons,ih (k+1) fun i hi=>h i (by omega)]
theorem nA {ε:Type} (D:Lb ε):left D #[]=D:=oz (fun i=>!(#[]:Array Nat).contains i) D 0 fun i _=>by simp
theorem rm {ε:Type} (D:Lb ε) (k i:Nat) (q:Nat->Bool) (hi:i<D.length) (hq:q (k+i)=true) :
  (D[i],((D.zipIdx k).filter fun e=>q e.2&&!(e.2==k+i)).map (·.1))∈dM (((D.zipIdx k).filter fun e=>q e.2).map (·.1)):=by
 induction D generalizing k i with
 | nil=>simp at hi
 | cons x D ih=>
  rw [List.zipIdx_cons]
  cases i with
  | zero=>
   rw [List.filter_cons_of_pos (by simpa using hq),List.filter_cons_of_neg (by simp),List.map_cons,dM]
   refine List.mem_cons.2 (.inl ?_)
   congr 1
   have:∀ e∈D.zipIdx (k+1),(q e.2&&!(e.2==k+0))=q e.2:=fun e he=>by
    have:=List.le_snd_of_mem_zipIdx he
    have h2:(e.2==k+0)=false:=by rw [beq_eq_false_iff_ne]; omega
    rw [h2]; simp
   rw [List.filter_congr this]
  | succ i=>
   have h1:=ih (k+1) i (by simpa using hi) (by rw [<- hq]; congr 1; omega)
   rw [show k+1+i=k+(i+1) by omega] at h1
   by_cases hk:q k=true
   ·rw [List.filter_cons_of_pos (by simpa using hk),List.filter_cons_of_pos (by simp [hk]),List.map_cons,List.map_cons,dM]
    exact List.mem_cons.2 (.inr (List.mem_map.2 ⟨_,h1,I⟩))
   ·rw [List.filter_cons_of_neg (by simpa using hk),List.filter_cons_of_neg (by simp [hk])]
    exact h1
theorem pK {ε:Type} (D:Lb ε) (sn:Array Nat) (i:Nat) (hi:i<D.length) (hn:sn.contains i=false):(D[i],left D (sn.push i))∈dM (left D sn):=by
 have:=rm D 0 i (fun j=>!sn.contains j) hi (by simpa using hn)
 unfold left
 refine cast ?_ this
 congr 2
 congr 1
 refine List.filter_congr fun e _=>?_
 by_cases h:e.2=i<;>simp [h]
section
variable {P:Program} {Z:Machine->Prop} {b:Frame} {n:Nat} {ds:Lb Deferred} {cs:Lb Frame} {k:Lb Item} {σ τ:Lb (Nat×Vc)} {w w0:World} {ops:Array Oper} {l:Lb Oper} {d:Nat} {ty:TypeId} {ps:String} {af:Array Edge} {x:Operand} {t:TypeId} {O O' : Lb Ob} {dd:Oa Tmp} {g:Oa (Nat×Bool)}
theorem MX.mloop {α γ ε R' : Type} [DecidableEq R'] {X:γ->Oa R'} {B:ε->(γ->Oa R')->γ->Oa R'} {N:Nat} {r:R'} {c:Code} {D0:Lb ε} (S:α->Lb (Nat×Vc)) (R:Lb ε->α->World->Prop) (p:α->γ) (x0:α) (hh:mloop X B N D0 (p x0)=some r) (hs:Sub σ (S x0)) (hR:R D0 x0 w)
  (round:∀ rest x wx (J:Lb ε->γ->Oa R'),(∀ rest' x' wx' σ', Sub σ' (S x')->R rest' x' wx'->J rest' (p x')=some r->MX P Z b n ds cs (.inLoop c::k) σ' wx')->R rest x wx->(rest=[]->X (p x)=some r)->(∀ e rest', (e,rest')∈dM rest->B e (J rest') (p x)=some r)->MX P Z b n ds cs (.code c::.inLoop c::k) (S x) wx):MX P Z b n ds cs (.code (.loop c)::k) σ w:=by
 have key:∀ N rest x wx,R rest x wx->Proofs.YtkimkkgicmipbaaGreatDoor.mloop X B N rest (p x)=some r->MX P Z b n ds cs (.code c::.inLoop c::k) (S x) wx:=by
  intro N
  induction N with
  | zero=>
   intro rest x wx hx h
   cases rest with
   | nil=>exact round [] x wx (fun _ _=>none) (fun _ _ _ _ _ _ h=>by cases h) hx (fun _=>h) (fun e r' hp=>by simp [dM] at hp)
   | cons y ys=>cases h
  | succ N ih=>
   intro rest x wx hx h
   refine round rest x wx (Proofs.YtkimkkgicmipbaaGreatDoor.mloop X B N) (fun r' x' wx' σ' hs' hR' hJ=>(MX.again1 (ih r' x' wx' hR' hJ)).sub hs') hx (fun e=>by subst e; exact h) (fun e r' hp=>?_)
   cases rest with
   | nil=>simp [dM] at hp
   | cons y ys=>exact nk h (List.mem_map.2 ⟨(e,r'),hp,rfl⟩)
 exact MX.loop1 ((key N D0 x0 w hR hh).sub hs)
variable {κ ν:Type} [Enc κ] [Enc ν]
theorem ot (D:Lb (κ×ν)) (i:Nat):(bs D i).map (·.born)=List.range' i D.length:=by
 induction D generalizing i with
 | nil=>rfl
 | cons e D ih=>rw [bw,List.map_cons,ih,List.length_cons,List.range'_succ]
theorem kO {D:Lb (κ×ν)} {e:MapEntry} (h:e∈bs D 0):∃ (i:Nat) (hi:i<D.length),e.born=i/\e.key=Enc.enc D[i].1/\e.val=Enc.enc D[i].2:=by
 unfold bs at h
 obtain ⟨⟨z,i⟩,h1,h4⟩:=List.mem_map.1 h
 obtain ⟨h2,h3,h5⟩:=List.mem_zipIdx h1
 simp only [Nat.sub_zero] at h5
 have hi:i<D.length:=by omega
 subst h4
 exact ⟨i,hi,rfl,by simp only [h5],by simp only [h5]⟩
theorem qq {D:Lb (κ×ν)} {sn:Array Nat} (h:(leftOf (bs D 0).toArray sn).size=0):left D sn=[]:=by
 have h2:∀ e∈bs D 0,sn.contains e.born=true:=fun e he=>by
  have h3:leftOf (bs D 0).toArray sn=#[]:=Array.eq_empty_of_size_eq_zero h
  unfold leftOf at h3
  rw [Array.filter_eq_empty_iff] at h3
  simpa using h3 e (by simpa using he)
 unfold left
 rw [List.map_eq_nil_iff,List.filter_eq_nil_iff]
 rintro ⟨z,i⟩ hz
 have:=h2 { key:=Enc.enc z.1,val:=Enc.enc z.2,born:=i } (List.mem_map.2 ⟨(z,i),hz,I⟩)
 simpa using this
theorem pH {D:Lb (κ×ν)} {sn:Array Nat} {e:MapEntry} (h:e∈(leftOf (bs D 0).toArray sn).toList):∃ (i:Nat) (hi:i<D.length),e.born=i/\e.key=Enc.enc D[i].1/\e.val=Enc.enc D[i].2/\sn.contains i=false:=by
 unfold leftOf at h
 rw [Array.mem_toList_iff,Array.mem_filter] at h
 obtain ⟨i,hi,h1,h2,h3⟩:=kO (D:=D) (by simpa using h.1)
 exact ⟨i,hi,h1,h2,h3,by have:=h.2; rw [h1] at this; simpa using this⟩
theorem Does.range {bm:Nat} {D:Lb (κ×ν)} {kt et:TypeId} (s:St w0 w O) (um:At O (.obj bm (ab D))) (ht:P.underlying t=some (.map kt et)) (hx:ev σ x=some (.map (some bm))):Does P ⟨dd,.range t x,ty,ps,af,g⟩ σ w (New w0 w O (fun b' =>.obj b' (bN bm D.length #[])) (fun b' =>.pointer (some ⟨b', 0,none⟩))):=fun ρ ha w' hw=>by
 have hb:w'.heap[bm]? = some (ab D):=aJ hw (s.get um.upd)
 rw [db] at hb
 refine ⟨.pointer (some ⟨w'.heap.size,0,none⟩),w'.alloc (bN bm D.length #[]),?_,bj _ _ _,?_⟩
 ·simp [execOp,ha _ _ hx,run_range_map w' t kt et bm _ _ ht hb,bN]
 ·have hag:=hw.trans (bj w' (bN bm D.length #[]) [])
  have hb:∀ b', (Ob.obj w'.heap.size (bN bm D.length #[])).block=some b'->w.heap.size<=b' :=fun b' e=>by cases e; exact hw.size
  exact ⟨_,I,s.push hag (heap_alloc_new w' _) hb,Tr.push hag hb⟩
def Nexts (w0 w:World) (O:Lb Ob) (D:Lb (κ×ν)) (sn:Array Nat) (F:Array Nat->Lb Ob) (u:Vc) (w1:World):Prop:=
 left D sn=[]/\u=.tuple #[.bool false]/\St w0 w1 O/\Tr w O w1 O∨∃ (i:Nat) (hi:i<D.length),sn.contains i=false/\u=.tuple #[.bool true,Enc.enc D[i].1,Enc.enc D[i].2]/\St w0 w1 (F (sn.push i))/\Tr w O w1 (F (sn.push i))
theorem DoesL.next {bm r:Nat} {D:Lb (κ×ν)} {sn:Array Nat} {F:Array Nat->Lb Ob} (s:St w0 w O) (um:At O (.obj bm (ab D))) (u:∀ sn', Upd O (.obj r (bN bm D.length sn)) (.obj r (bN bm D.length sn')) (F sn')) (hx:ev σ x=some (.pointer (some ⟨r,0,none⟩))):DoesL P ⟨dd,.next x false,ty,ps,af,g⟩ σ w (Nexts w0 w O D sn F):=fun ρ ha w' hw=>by
 have hb:w'.heap[bm]? = some (ab D):=aJ hw (s.get um.upd)
 rw [db] at hb
 have hr:w'.heap[r]? = some (bN bm D.length sn):=aJ hw (s.get (u sn))
 unfold bN at hr
 have hold:∀ z∈(bs D 0).toArray.toList,z.born<D.length:=fun z hz=>by
  obtain ⟨i,hi,h1,_⟩:=kO (by simpa using hz)
  omega
 rcases run_next_at (P:=P) w' ty r bm D.length D.length sn (bs D 0).toArray D.length hr hb hold (Nat.le_refl _) with ⟨h0,hrun⟩ | ⟨e,he,w1,hw1,hrun⟩
 ·exact ⟨_,w', by simp [execOp,ha _ _ hx,hrun],.inl ⟨qq h0,rfl,s.agree hw,Tr.agree hw⟩⟩
 ·obtain ⟨i,hi,h1,h2,h3,h4⟩:=pH he
  have hag:Agree [] w w1:=by
   rcases hw1 with rfl | rfl
   ·exact hw
   ·exact hw.trans (Agree.drew w' [] _)
  obtain ⟨g1,g2⟩:=dG s (u (sn.push i)) hag
  refine ⟨_,w1.putObj r (bN bm D.length (sn.push i)),?_,.inr ⟨i,hi,h4,I,g1,g2⟩⟩
  rw [h1,h2,h3] at hrun
  simp only [execOp,ha _ _ hx]
  simp [hrun]
  rfl
theorem FV.entry {bm r i:Nat} {D:Lb (κ×ν)} {sn:Array Nat} {e:κ×ν} (s:St w0 w O) (um:At O (.obj bm (ab D))) (u:At O (.obj r (bN bm D.length (sn.push i)))) (hi:D[i]? = some e) (hx:ev σ x=some (.pointer (some ⟨r,0,none⟩))):FV P ⟨dd,.entry x,ty,ps,af,g⟩ σ w (.tuple #[Enc.enc e.1,Enc.enc e.2]):=fun ρ ha w' hw=>by
 have hb:w'.heap[bm]? = some (ab D):=aJ hw (s.get um.upd)
 rw [db] at hb
 have hr:w'.heap[r]? = some (bN bm D.length (sn.push i)):=aJ hw (s.get u.upd)
 unfold bN at hr
 obtain ⟨hlt,rfl⟩:=List.getElem?_eq_some_iff.1 hi
 have hm:({ key:=Enc.enc D[i].1,val:=Enc.enc D[i].2,born:=i }:MapEntry)∈(bs D 0).toArray.toList:=by
  simp only [bs]
  refine List.mem_map.2 ⟨(D[i],i),?_,I⟩
  rw [List.mem_zipIdx_iff_getElem?]
  simp
 have hn:(((bs D 0).toArray.toList).map (·.born)).Nodup:=by
  show ((bs D 0).map (·.born)).Nodup
  rw [ot]; exact List.nodup_range'
 have:=run_entry_at (P:=P) w' r bm D.length sn (bs D 0).toArray D.length { key:=Enc.enc D[i].1,val:=Enc.enc D[i].2,born:=i } hr hb hm hn
 simp [execOp,ha _ _ hx,this]
end
end
section
open Go Go.RowKit
theorem jc {O O' : Lb Ob} (p:O.Perm O') {b:Nat}:b∈bl O↔b∈bl O' :=(p.filterMap Ob.block).mem_iff
theorem Owns.perm {w:World} {O O' : Lb Ob} (p:O.Perm O'):Owns w O->Owns w O' :=by
 induction p with
 | nil=>exact id
 | cons x p ih=>exact fun h=>⟨h.1,fun b e hm=>h.2.1 b e ((jc p).2 hm),ih h.2.2⟩
 | swap x y l=>
  rintro ⟨h1,h2,h3,h4,h5⟩
  refine ⟨h3,fun b e hm=>?_,h1,fun b e hm=>h2 b e (au.2 (.inr hm)),h5⟩
  rcases au.1 hm with hm | hm
  ·exact h2 b hm (au.2 (.inl e))
  ·exact h4 b e hm
 | trans _ _ ih1 ih2=>exact fun h=>ih2 (ih1 h)
theorem St.perm {w0 w:World} {O O' : Lb Ob} (s:St w0 w O) (p:O.Perm O'):St w0 w O' :=⟨s.ag,fun b hb=>s.new b ((jc p).2 hb),s.ok.perm p⟩
theorem Tr.perm {w:World} {O O' : Lb Ob} (p:O.Perm O'):Tr w O w O' :=⟨Agree.refl _ _,fun _ hb=>.inl ((jc p).2 hb)⟩
instance:Enc (Option Nat):=⟨fun a=>.pointer (a.map fun b=>⟨b,0,none⟩)⟩
section
variable {κ β:Type}
@[reducible] def pmM (Z:Lb ((κ×β)×Nat)):Lb (κ×β):=Z.map (·.1)
variable {w w0:World} {T pre:Lb Ob} {t:TypeId} {f:β->Lb Vc} {Z Z1 Z2:Lb ((κ×β)×Nat)} {k:κ} {y y' : β} {b:Nat}
theorem At.app {pre O:Lb Ob} {o:Ob} (h:At O o):At (pre++O) o:=by
 induction pre with
 | nil=>exact h
 | cons x pre ih=>exact .tl ih
end
section
variable {P:Program} {Z:Machine->Prop} {b:Frame} {n:Nat} {ds:Lb Deferred} {cs:Lb Frame} {k:Lb Item} {σ τ:Lb (Nat×Vc)} {w w0:World} {ops:Array Oper} {l:Lb Oper} {d:Nat} {ty:TypeId} {ps:String} {af:Array Edge} {x y:Operand} {t t' e:TypeId} {O O' : Lb Ob} {dd:Oa Tmp} {g:Oa (Nat×Bool)}
end
end
section
open Go Go.RowKit
section
variable {w w0:World} {O O' T pre pre' : Lb Ob} {L:Lb Nat} {base e e2:Nat} {v0 v y:Vc} {Z Z1 Z2:Lb (Vc×Lb Int)} {xs xs' : Lb Int} {cs cs' : Lb Vc}
end
end
section
open Go Go.RowKit
theorem At.t1 {x0 o:Ob} {O:Lb Ob}:At (x0::o::O) o:=.tl .hd
theorem Upd.t1 {x0 o o' : Ob} {O:Lb Ob}:Upd (x0::o::O) o o' (x0::o'::O):=.tl .hd
theorem Out.t1 {x0 o:Ob} {O:Lb Ob}:Out (x0::o::O) o (x0::O):=.tl .hd
theorem At.t2 {x0 x1 o:Ob} {O:Lb Ob}:At (x0::x1::o::O) o:=.tl (.tl .hd)
theorem Upd.t2 {x0 x1 o o' : Ob} {O:Lb Ob}:Upd (x0::x1::o::O) o o' (x0::x1::o'::O):=.tl (.tl .hd)
theorem Out.t2 {x0 x1 o:Ob} {O:Lb Ob}:Out (x0::x1::o::O) o (x0::x1::O):=.tl (.tl .hd)
theorem At.t3 {x0 x1 x2 o:Ob} {O:Lb Ob}:At (x0::x1::x2::o::O) o:=.tl (.tl (.tl .hd))
theorem Upd.t3 {x0 x1 x2 o o' : Ob} {O:Lb Ob}:Upd (x0::x1::x2::o::O) o o' (x0::x1::x2::o'::O):=.tl (.tl (.tl .hd))
theorem Out.t3 {x0 x1 x2 o:Ob} {O:Lb Ob}:Out (x0::x1::x2::o::O) o (x0::x1::x2::O):=.tl (.tl (.tl .hd))
theorem At.t4 {x0 x1 x2 x3 o:Ob} {O:Lb Ob}:At (x0::x1::x2::x3::o::O) o:=.tl (.tl (.tl (.tl .hd)))
theorem Upd.t4 {x0 x1 x2 x3 o o' : Ob} {O:Lb Ob}:Upd (x0::x1::x2::x3::o::O) o o' (x0::x1::x2::x3::o'::O):=.tl (.tl (.tl (.tl .hd)))
theorem Out.t4 {x0 x1 x2 x3 o:Ob} {O:Lb Ob}:Out (x0::x1::x2::x3::o::O) o (x0::x1::x2::x3::O):=.tl (.tl (.tl (.tl .hd)))
theorem At.t5 {x0 x1 x2 x3 x4 o:Ob} {O:Lb Ob}:At (x0::x1::x2::x3::x4::o::O) o:=.tl (.tl (.tl (.tl (.tl .hd))))
theorem Upd.t5 {x0 x1 x2 x3 x4 o o' : Ob} {O:Lb Ob}:Upd (x0::x1::x2::x3::x4::o::O) o o' (x0::x1::x2::x3::x4::o'::O):=.tl (.tl (.tl (.tl (.tl .hd))))
theorem Out.t5 {x0 x1 x2 x3 x4 o:Ob} {O:Lb Ob}:Out (x0::x1::x2::x3::x4::o::O) o (x0::x1::x2::x3::x4::O):=.tl (.tl (.tl (.tl (.tl .hd))))
theorem At.t6 {x0 x1 x2 x3 x4 x5 o:Ob} {O:Lb Ob}:At (x0::x1::x2::x3::x4::x5::o::O) o:=.tl (.tl (.tl (.tl (.tl (.tl .hd)))))
theorem Upd.t6 {x0 x1 x2 x3 x4 x5 o o' : Ob} {O:Lb Ob}:Upd (x0::x1::x2::x3::x4::x5::o::O) o o' (x0::x1::x2::x3::x4::x5::o'::O):=.tl (.tl (.tl (.tl (.tl (.tl .hd)))))
theorem Out.t6 {x0 x1 x2 x3 x4 x5 o:Ob} {O:Lb Ob}:Out (x0::x1::x2::x3::x4::x5::o::O) o (x0::x1::x2::x3::x4::x5::O):=.tl (.tl (.tl (.tl (.tl (.tl .hd)))))
theorem At.t7 {x0 x1 x2 x3 x4 x5 x6 o:Ob} {O:Lb Ob}:At (x0::x1::x2::x3::x4::x5::x6::o::O) o:=.tl (.tl (.tl (.tl (.tl (.tl (.tl .hd))))))
theorem Upd.t7 {x0 x1 x2 x3 x4 x5 x6 o o' : Ob} {O:Lb Ob}:Upd (x0::x1::x2::x3::x4::x5::x6::o::O) o o' (x0::x1::x2::x3::x4::x5::x6::o'::O):=.tl (.tl (.tl (.tl (.tl (.tl (.tl .hd))))))
theorem Out.t7 {x0 x1 x2 x3 x4 x5 x6 o:Ob} {O:Lb Ob}:Out (x0::x1::x2::x3::x4::x5::x6::o::O) o (x0::x1::x2::x3::x4::x5::x6::O):=.tl (.tl (.tl (.tl (.tl (.tl (.tl .hd))))))
theorem At.t8 {x0 x1 x2 x3 x4 x5 x6 x7 o:Ob} {O:Lb Ob}:At (x0::x1::x2::x3::x4::x5::x6::x7::o::O) o:=.tl (.tl (.tl (.tl (.tl (.tl (.tl (.tl .hd)))))))
theorem Upd.t8 {x0 x1 x2 x3 x4 x5 x6 x7 o o' : Ob} {O:Lb Ob}:Upd (x0::x1::x2::x3::x4::x5::x6::x7::o::O) o o' (x0::x1::x2::x3::x4::x5::x6::x7::o'::O):=.tl (.tl (.tl (.tl (.tl (.tl (.tl (.tl .hd)))))))
theorem Out.t8 {x0 x1 x2 x3 x4 x5 x6 x7 o:Ob} {O:Lb Ob}:Out (x0::x1::x2::x3::x4::x5::x6::x7::o::O) o (x0::x1::x2::x3::x4::x5::x6::x7::O):=.tl (.tl (.tl (.tl (.tl (.tl (.tl (.tl .hd)))))))
theorem At.t9 {x0 x1 x2 x3 x4 x5 x6 x7 x8 o:Ob} {O:Lb Ob}:At (x0::x1::x2::x3::x4::x5::x6::x7::x8::o::O) o:=.tl (.tl (.tl (.tl (.tl (.tl (.tl (.tl (.tl .hd))))))))
theorem Upd.t9 {x0 x1 x2 x3 x4 x5 x6 x7 x8 o o' : Ob} {O:Lb Ob}:Upd (x0::x1::x2::x3::x4::x5::x6::x7::x8::o::O) o o' (x0::x1::x2::x3::x4::x5::x6::x7::x8::o'::O):=.tl (.tl (.tl (.tl (.tl (.tl (.tl (.tl (.tl .hd))))))))
theorem At.t10 {x0 x1 x2 x3 x4 x5 x6 x7 x8 x9 o:Ob} {O:Lb Ob}:At (x0::x1::x2::x3::x4::x5::x6::x7::x8::x9::o::O) o:=.tl (.tl (.tl (.tl (.tl (.tl (.tl (.tl (.tl (.tl .hd)))))))))
theorem Upd.t10 {x0 x1 x2 x3 x4 x5 x6 x7 x8 x9 o o' : Ob} {O:Lb Ob}:Upd (x0::x1::x2::x3::x4::x5::x6::x7::x8::x9::o::O) o o' (x0::x1::x2::x3::x4::x5::x6::x7::x8::x9::o'::O):=.tl (.tl (.tl (.tl (.tl (.tl (.tl (.tl (.tl (.tl .hd)))))))))
theorem At.t11 {x0 x1 x2 x3 x4 x5 x6 x7 x8 x9 x10 o:Ob} {O:Lb Ob}:At (x0::x1::x2::x3::x4::x5::x6::x7::x8::x9::x10::o::O) o:=.tl (.tl (.tl (.tl (.tl (.tl (.tl (.tl (.tl (.tl (.tl .hd))))))))))
theorem Upd.t11 {x0 x1 x2 x3 x4 x5 x6 x7 x8 x9 x10 o o' : Ob} {O:Lb Ob}:Upd (x0::x1::x2::x3::x4::x5::x6::x7::x8::x9::x10::o::O) o o' (x0::x1::x2::x3::x4::x5::x6::x7::x8::x9::x10::o'::O):=.tl (.tl (.tl (.tl (.tl (.tl (.tl (.tl (.tl (.tl (.tl .hd))))))))))
theorem At.t12 {x0 x1 x2 x3 x4 x5 x6 x7 x8 x9 x10 x11 o:Ob} {O:Lb Ob}:At (x0::x1::x2::x3::x4::x5::x6::x7::x8::x9::x10::x11::o::O) o:=.tl (.tl (.tl (.tl (.tl (.tl (.tl (.tl (.tl (.tl (.tl (.tl .hd)))))))))))
theorem Upd.t12 {x0 x1 x2 x3 x4 x5 x6 x7 x8 x9 x10 x11 o o' : Ob} {O:Lb Ob}:Upd (x0::x1::x2::x3::x4::x5::x6::x7::x8::x9::x10::x11::o::O) o o' (x0::x1::x2::x3::x4::x5::x6::x7::x8::x9::x10::x11::o'::O):=.tl (.tl (.tl (.tl (.tl (.tl (.tl (.tl (.tl (.tl (.tl (.tl .hd)))))))))))
theorem Arr.d0:∀ {O:Lb Ob},Arr O O
 | []=>.done
 | _::_=>.one .hd Arr.d0
theorem Arr.a0 {o:Ob} {O O' : Lb Ob} (h:Arr O O'):Arr (o::O) (o::O'):=.one .hd h
theorem Arr.a1 {x0 o:Ob} {O O' : Lb Ob} (h:Arr (x0::O) O'):Arr (x0::o::O) (o::O'):=.one .t1 h
theorem Arr.a2 {x0 x1 o:Ob} {O O' : Lb Ob} (h:Arr (x0::x1::O) O'):Arr (x0::x1::o::O) (o::O'):=.one .t2 h
theorem Arr.a3 {x0 x1 x2 o:Ob} {O O' : Lb Ob} (h:Arr (x0::x1::x2::O) O'):Arr (x0::x1::x2::o::O) (o::O'):=.one .t3 h
theorem Arr.a5 {x0 x1 x2 x3 x4 o:Ob} {O O' : Lb Ob} (h:Arr (x0::x1::x2::x3::x4::O) O'):Arr (x0::x1::x2::x3::x4::o::O) (o::O'):=.one .t5 h
theorem Arr.a6 {x0 x1 x2 x3 x4 x5 o:Ob} {O O' : Lb Ob} (h:Arr (x0::x1::x2::x3::x4::x5::O) O'):Arr (x0::x1::x2::x3::x4::x5::o::O) (o::O'):=.one .t6 h
theorem Arr.dr {x:Ob}:∀ {O O' : Lb Ob},Arr O O'->Arr (x::O) O'
 | _,_,.done=>.done
 | _,_,.one h h2=>.one (.tl h) (Arr.dr h2)
theorem Arr.d1 {x0:Ob} {O:Lb Ob}:Arr (x0::O) O:=.dr Arr.d0
theorem Arr.d2 {x0 x1:Ob} {O:Lb Ob}:Arr (x0::x1::O) O:=.dr (Arr.d1)
theorem Arr.d3 {x0 x1 x2:Ob} {O:Lb Ob}:Arr (x0::x1::x2::O) O:=.dr (Arr.d2)
theorem Arr.d4 {x0 x1 x2 x3:Ob} {O:Lb Ob}:Arr (x0::x1::x2::x3::O) O:=.dr (Arr.d3)
section
variable {P:Program} {Z:Machine->Prop} {b:Frame} {n:Nat} {ds:Lb Deferred} {cs:Lb Frame} {k:Lb Item} {σ τ:Lb (Nat×Vc)} {w w0:World} {ops:Array Oper} {t f m:Nat} {κ:KP} {O1:Lb Ob}
theorem MX.lf {α γ Q:Type} {B:(γ->Oa Q)->γ->Oa Q} {N:Nat} {r:Q} {c:Code} (S:α->Lb (Nat×Vc)) (E:α->Lb Ob) (G:α->World->Prop) (p:α->γ) (x0:α) (hh:ah B N (p x0)=some r) (s:St w0 w (E x0)) (hG:G x0 w)
  (round:∀ (J:γ->Oa Q) x wx,(∀ x' {wx' σ'},St w0 wx' (E x')->Tr w (E x0) wx' (E x')->G x' wx'->J (p x')=some r->∀ (_:Sub σ' (S x'):=by repeat (first | refine ⟨rfl,?_⟩ | exact trivial)),MX P Z b n ds cs (.inLoop c::k) σ' wx')->St w0 wx (E x)->Tr w (E x0) wx (E x)->G x wx->B J (p x)=some r->MX P Z b n ds cs (.code c::.inLoop c::k) (S x) wx)
  (hs:Sub σ (S x0):=by repeat (first | refine ⟨rfl,?_⟩ | exact trivial)):MX P Z b n ds cs (.code (.loop c)::k) σ w:=
 MX.loop S (fun x wx=>St w0 wx (E x)/\Tr w (E x0) wx (E x)/\G x wx) p x0 hh hs ⟨s,Tr.refl _ _,hG⟩ fun J x wx h1 h2=>round J x wx (fun x' {wx' σ'} a2 a3 a4 a5 a1=>h1 x' wx' σ' a1 ⟨a2,a3,a4⟩ a5) h2.1 h2.2.1 h2.2.2
theorem MX.lo {α γ Q:Type} {B:(γ->Oa Q)->γ->Oa Q} {N:Nat} {r:Q} {c:Code} (S:α->Lb (Nat×Vc)) (E:α->Lb Ob) (p:α->γ) (x0:α) (hh:ah B N (p x0)=some r) (s:St w0 w (E x0))
  (round:∀ (J:γ->Oa Q) x wx,(∀ x' {wx' σ'},St w0 wx' (E x')->Tr w (E x0) wx' (E x')->J (p x')=some r->∀ (_:Sub σ' (S x'):=by repeat (first | refine ⟨rfl,?_⟩ | exact trivial)),MX P Z b n ds cs (.inLoop c::k) σ' wx')->St w0 wx (E x)->Tr w (E x0) wx (E x)->B J (p x)=some r->MX P Z b n ds cs (.code c::.inLoop c::k) (S x) wx)
  (hs:Sub σ (S x0):=by repeat (first | refine ⟨rfl,?_⟩ | exact trivial)):MX P Z b n ds cs (.code (.loop c)::k) σ w:=
 MX.loop S (fun x wx=>St w0 wx (E x)/\Tr w (E x0) wx (E x)) p x0 hh hs ⟨s,Tr.refl _ _⟩ fun J x wx h1 h2=>round J x wx (fun x' {wx' σ'} a2 a3 a5 a1=>h1 x' wx' σ' a1 ⟨a2,a3⟩ a5) h2.1 h2.2
theorem MX.jf {α γ Q:Type} {K:γ->Oa Q} {B:(γ->Oa Q)->Oa Q} {r:Q} {it:Item} (S:α->Lb (Nat×Vc)) (E:α->Lb Ob) (G:α->World->Prop) (p:α->γ) (_s:St w0 w O1) (hh:jn K B=some r)
  (hJ:∀ x wx,St w0 wx (E x)->Tr w O1 wx (E x)->G x wx->K (p x)=some r->MX P Z b n ds cs k (S x) wx)
  (h:∀ J:γ->Oa Q,(∀ x {wx σ'},St w0 wx (E x)->Tr w O1 wx (E x)->G x wx->J (p x)=some r->∀ (_:Sub σ' (S x):=by repeat (first | refine ⟨rfl,?_⟩ | exact trivial)),MX P Z b n ds cs k σ' wx)->B J=some r->MX P Z b n ds cs (it::k) σ w):MX P Z b n ds cs (it::k) σ w:=
 MX.join S (fun x wx=>St w0 wx (E x)/\Tr w O1 wx (E x)/\G x wx) p hh (fun x wx h1 h2=>hJ x wx h1.1 h1.2.1 h1.2.2 h2) fun J h1 h2=>h J (fun x {wx σ'} a2 a3 a4 a5 a1=>h1 x wx σ' a1 ⟨a2,a3,a4⟩ a5) h2
theorem MX.jo {α γ Q:Type} {K:γ->Oa Q} {B:(γ->Oa Q)->Oa Q} {r:Q} {it:Item} (S:α->Lb (Nat×Vc)) (E:α->Lb Ob) (p:α->γ) (_s:St w0 w O1) (hh:jn K B=some r)
  (hJ:∀ x wx,St w0 wx (E x)->Tr w O1 wx (E x)->K (p x)=some r->MX P Z b n ds cs k (S x) wx)
  (h:∀ J:γ->Oa Q,(∀ x {wx σ'},St w0 wx (E x)->Tr w O1 wx (E x)->J (p x)=some r->∀ (_:Sub σ' (S x):=by repeat (first | refine ⟨rfl,?_⟩ | exact trivial)),MX P Z b n ds cs k σ' wx)->B J=some r->MX P Z b n ds cs (it::k) σ w):MX P Z b n ds cs (it::k) σ w:=
 MX.join S (fun x wx=>St w0 wx (E x)/\Tr w O1 wx (E x)) p hh (fun x wx h1 h2=>hJ x wx h1.1 h1.2 h2) fun J h1 h2=>h J (fun x {wx σ'} a2 a3 a5 a1=>h1 x wx σ' a1 ⟨a2,a3⟩ a5) h2
theorem MX.xo {α γ Q:Type} {K:γ->Oa Q} {B:(γ->Oa Q)->Oa Q} {r:Q} {it:Item} {k' : Lb Item} (id:Nat) (S:α->Lb (Nat×Vc)) (E:α->Lb Ob) (p:α->γ) (_s:St w0 w O1) (hx:exitTo id k=some k') (hh:jn K B=some r)
  (hJ:∀ x wx,St w0 wx (E x)->Tr w O1 wx (E x)->K (p x)=some r->MX P Z b n ds cs k' (S x) wx)
  (h:∀ J:γ->Oa Q,(∀ x {wx σ'},St w0 wx (E x)->Tr w O1 wx (E x)->J (p x)=some r->∀ (_:Sub σ' (S x):=by repeat (first | refine ⟨rfl,?_⟩ | exact trivial)),MX P Z b n ds cs k' σ' wx)->B J=some r->MX P Z b n ds cs (it::k) σ w):MX P Z b n ds cs (it::k) σ w:=
 MX.joinx S (fun x wx=>St w0 wx (E x)/\Tr w O1 wx (E x)) p hx hh (fun x wx h1 h2=>hJ x wx h1.1 h1.2 h2) fun J h1 h2=>h J (fun x {wx σ'} a2 a3 a5 a1=>h1 x wx σ' a1 ⟨a2,a3⟩ a5) h2
theorem RD.mf {α:Type} (S:α->Lb (Nat×Vc)) (E:α->Lb Ob) (G:α->World->Prop) (_s:St w0 w O1) (f' m' : Nat)
  (hJ:∀ x wx,St w0 wx (E x)->Tr w O1 wx (E x)->G x wx->RD κ P Z b n ds cs ops t f' m' k (S x) wx)
  (h:(∀ x {wx σ'},St w0 wx (E x)->Tr w O1 wx (E x)->G x wx->∀ (_:Sub σ' (S x):=by repeat (first | refine ⟨rfl,?_⟩ | exact trivial)),RD κ P Z b n ds cs ops t f' m' k σ' wx)->RD κ P Z b n ds cs ops t f m k σ w):RD κ P Z b n ds cs ops t f m k σ w:=
 RD.meet S (fun x wx=>St w0 wx (E x)/\Tr w O1 wx (E x)/\G x wx) f' m' (fun x wx h1=>hJ x wx h1.1 h1.2.1 h1.2.2) fun h1=>h fun x {wx σ'} a2 a3 a4 a1=>h1 x wx σ' a1 ⟨a2,a3,a4⟩
theorem RD.mo {α:Type} (S:α->Lb (Nat×Vc)) (E:α->Lb Ob) (_s:St w0 w O1) (f' m' : Nat)
  (hJ:∀ x wx,St w0 wx (E x)->Tr w O1 wx (E x)->RD κ P Z b n ds cs ops t f' m' k (S x) wx)
  (h:(∀ x {wx σ'},St w0 wx (E x)->Tr w O1 wx (E x)->∀ (_:Sub σ' (S x):=by repeat (first | refine ⟨rfl,?_⟩ | exact trivial)),RD κ P Z b n ds cs ops t f' m' k σ' wx)->RD κ P Z b n ds cs ops t f m k σ w):RD κ P Z b n ds cs ops t f m k σ w:=
 RD.meet S (fun x wx=>St w0 wx (E x)/\Tr w O1 wx (E x)) f' m' (fun x wx h1=>hJ x wx h1.1 h1.2) fun h1=>h fun x {wx σ'} a2 a3 a1=>h1 x wx σ' a1 ⟨a2,a3⟩
theorem RG.bx {d:Tmp} {t ty:TypeId} {ps:String} {af:Array Edge} {x:Operand} {v:Vc} {vs:Lb Vc} {l:Lb Oper} {O:Lb Ob} (s:St w0 w O) (hx:ev σ x=some v) (hc:v.cells=vs.toArray) (h:∀ w1 b', St w0 w1 (.cells b' vs t::O)->Tr w O w1 (.cells b' vs t::O)->RG P Z b n ds cs ops l k ((d,.pointer (some ⟨b', 0,none⟩))::σ) w1) (hd:Nat.blt d n=true:=by rfl):RG P Z b n ds cs ops (⟨some d,.box t x,ty,ps,af,none⟩::l) k σ w:=RG.new .plain hd (Does.box s hx hc) h
theorem RG.nl {d:Tmp} {t ty:TypeId} {ps:String} {af:Array Edge} {l:Lb Oper} {O:Lb Ob} (zs:Lb Vc) (s:St w0 w O) (h:∀ w1 b', St w0 w1 (.cells b' zs t::O)->Tr w O w1 (.cells b' zs t::O)->RG P Z b n ds cs ops l k ((d,.pointer (some ⟨b', 0,none⟩))::σ) w1) (hz:eh P t zs:=by exact zB (by kernel_rfl)) (hd:Nat.blt d n=true:=by rfl):RG P Z b n ds cs ops (⟨some d,.alloc t,ty,ps,af,none⟩::l) k σ w:=RG.new .plain hd (Does.alloc s hz) h
theorem bk {α β:Type} {C:Prop} {x:Oa α} {g:α->Oa β} {r:β} (h:x.bind g=some r) (k:∀ y,x=some y->g y=some r->C):C:=
 let ⟨y,h1,h2⟩:=lC h; k y h1 h2
theorem xk {ε α β:Type} {C:Prop} {x:Oa (Except ε α)} {f:α->Oa β} {g:ε->Oa β} {r:β} (h:(x.bind fun y=>exc y f g)=some r) (k1:∀ e,x=some (.error e)->g e=some r->C) (k2:∀ y,x=some (.ok y)->f y=some r->C):C:=by
 obtain ⟨y,h1,h2⟩:=lC h
 rcases y with e | y
 ·exact k1 e h1 h2
 ·exact k2 y h1 h2
theorem tn {α β:Type} {C:Prop} {o:Oa (α⊕β)} {K:β->Oa α} {r:α} (h:thn o K=some r) (k:∀ x,o=some x->thn (some x) K=some r->C):C:=
 let ⟨y,h1,h2⟩:=thn_in h; k y h1 h2
end
end
section
open Go Go.RowKit
def w32 (i:Int):Int:=IntKind.i32.wrap i
section
variable {P:Program} {σ:Lb (Nat×Vc)} {w:World} {d:Oa Nat} {ty s t:TypeId} {ps:String} {af:Array Edge} {g:Oa (Nat×Bool)} {x:Operand}
end
end
section
open Go Go.RowKit
section
variable {w w0:World} {O O' T pre pre' : Lb Ob} {L:Lb Nat} {base e e2 i:Nat} {v0 v y v' : Vc} {Z Z1 Z2:Lb (Vc×Lb Int)} {xs xs' : Lb Int} {cs cs' : Lb Vc} {M M2:Lb (Lb Int)}
end
section
variable {P:Program} {w w0:World} {O:Lb Ob} {σ:Lb (Nat×Vc)} {dd:Oa Nat} {ty t:TypeId} {ps:String} {af:Array Edge} {g:Oa (Nat×Bool)} {x y:Operand} {base e:Nat} {v:Vc}
end
end
section
open Go Go.RowKit
section
variable {P:Program} {σ:Lb (Nat×Vc)} {w:World} {x y:Operand} {d:Oa Tmp} {t t' ty:TypeId} {ps:String} {af:Array Edge} {g:Oa (Nat×Bool)}
end
structure KeyAt (P:Program) (t:TypeId) (κ:Type) [Enc κ] [DecidableEq κ]:Prop where
 check:∀ (q:Bool) (a:κ) (w:World),(Instr.checkKey q 10000 t (Enc.enc a)).run P w=.ok () w
 now:∃ kd,P.underlying t=some kd/\∀ a b:κ,Instr.sameNow kd (Enc.enc a) (Enc.enc b)=none
 eq:∀ (a b:κ) (w:World),(Op.equal t (Enc.enc a) (Enc.enc b)).run P w=.ok (decide (a=b)) w
 bits:∀ a:κ,Instr.sameBits 10000 (Enc.enc a) (Enc.enc a)=true
instance:Enc (List Value):=⟨fun cs=>.agg cs.toArray⟩
section
variable {P:Program} {t:TypeId} {κ ν:Type} [Enc κ] [Enc ν] [DecidableEq κ]
theorem KeyAt.ask (h:KeyAt P t κ) (k:κ) (w:World):∀ (D:Lb (κ×ν)) (i j:Nat),(Instr.findAsking t (Enc.enc k) (bs D i) j).run P w=.ok ((cd D k j).map fun (a,b)=>(a,Enc.enc b)) w
 | [],_,_=>rfl
 | e::D,i,j=>by
  rw [bw,Instr.findAsking,Sem.run_bind,h.eq k e.1 w,cd]
  by_cases hk:k=e.1
  ·rw [decide_eq_true hk,if_pos hk]; rfl
  ·rw [decide_eq_false hk,if_neg hk]; exact h.ask k w D (i+1) (j+1)
theorem KeyAt.find (h:KeyAt P t κ) (k:κ) (D:Lb (κ×ν)) (w:World):(Instr.findKey t (Enc.enc k) (bs D 0)).run P w=.ok ((cd D k 0).map fun (a,b)=>(a,Enc.enc b)) w:=by
 obtain ⟨kd,h1,h2⟩:=h.now
 cases D with
 | nil=>simp [Instr.findKey,run_underlying h1,bs,Instr.findNow,cd]
 | cons e D=>
  have h3:=h.ask k w (e::D) 0 0
  have h4:Instr.findNow kd (Enc.enc k) (bs (e::D) 0) 0=none:=by rw [bw,Instr.findNow,h2]
  simp only [Instr.findKey,Sem.run_bind,run_underlying h1,Result.andThen_ok,h4]
  exact h3
end
section
variable {P:Program} {Z:Machine->Prop} {b:Frame} {n:Nat} {ds:Lb Deferred} {cs:Lb Frame} {k:Lb Item} {σ τ:Lb (Nat×Vc)} {w w0:World} {ops:Array Oper} {l:Lb Oper} {d:Nat} {ty:TypeId} {ps:String} {af:Array Edge} {x:Operand} {t:TypeId} {O O' : Lb Ob} {dd:Oa Tmp} {g:Oa (Nat×Bool)} {κ ν:Type} [Enc κ] [Enc ν] [DecidableEq κ]
theorem KeyAt.update {kt et:TypeId} (h:KeyAt P kt κ) (hm:P.underlying t=some (.map kt et)) {bk:Nat} {D:Lb (κ×ν)} {w:World} (hb:w.heap[bk]? = some (ab D)) (k:κ) (v:ν) :
  (Instr.mapUpdate t (.map (some bk)) (Enc.enc k) (Enc.enc v)).run P w=.ok () (w.putObj bk (ab (aH D k v))):=by
 have hget:(getObj bk).run P w=.ok (ab D) w:=by simp [getObj,Sem.run,hb,ab]
 have hset:∀ o,(setObj bk o).run P w=.ok () (w.putObj bk o):=fun o=>by simp [setObj,Sem.run,hb,ab,World.putObj]
 simp only [Instr.mapUpdate,Sem.run_bind,run_underlying hm,Result.andThen_ok,hget,db,h.check false,h.find]
 cases hf:cd D k 0 with
 | none=>
  simp only [Option.map_none]
  rw [gw hf v,gC,hset]
  simp
 | some r=>
  obtain ⟨m,u⟩:=r
  obtain ⟨_,h2,h3⟩:=jS hf
  obtain ⟨h4,h5⟩:=h3 v
  rw [Nat.sub_zero] at h2 h4 h5
  have hkey:((bs D 0).toArray[m]?).map (·.key)=some (Enc.enc k):=by
   rw [List.getElem?_toArray,nz]
   cases hd:D[m]? with
   | none=>rw [hd] at h5; cases h5
   | some e=>rw [hd] at h5; simp at h5; simp [h5]
  simp only [Option.map_some,hkey,Option.getD_some,Instr.keyThatStays,h.bits k,if_true,Sem.run_bind,Sem.run_pure,Result.andThen_ok]
  rw [h4,kH D 0 m h2 k v,hset]
  simp [List.modify_toArray]
theorem Acts.mapUpdateK {kt et:TypeId} {xm xk xv:Operand} {bk:Nat} {D:Lb (κ×ν)} {kv:κ} {vv:ν} (h:KeyAt P kt κ) (s:St w0 w O) (u:Upd O (.obj bk (ab D)) (.obj bk (ab (aH D kv vv))) O') (hm:P.underlying t=some (.map kt et))
  (h1:ev σ xm=some (.map (some bk))) (h2:ev σ xk=some (Enc.enc kv)) (h3:ev σ xv=some (Enc.enc vv)):Acts P ⟨dd,.mapUpdate t xm xk xv,ty,ps,af,g⟩ σ w (Now w0 w O O'):=fun ρ ha w' hw=>by
 refine ⟨w'.putObj bk (ab (aH D kv vv)),?_,dG s u hw⟩
 simp only [execOp,ha _ _ h1,ha _ _ h2,ha _ _ h3,Sem.run_bind,h.update hm (aJ hw (s.get u)) kv vv,Result.andThen_ok]; rfl
theorem FV.lookupK {kt et:TypeId} {xm xk:Operand} {bk:Nat} {D:Lb (κ×ν)} {kv:κ} {z u' : Vc} {q:Bool} (h:KeyAt P kt κ) (s:St w0 w O) (u:At O (.obj bk (ab D))) (hm:P.underlying t=some (.map kt et))
  (hz:(P.info? et).bind (·.zero)=some z) (h1:ev σ xm=some (.map (some bk))) (h2:ev σ xk=some (Enc.enc kv)) (hq:(aP D kv=none/\u'=z/\q=false)∨∃ y,aP D kv=some y/\u'=Enc.enc y/\q=true):FV P ⟨dd,.lookup t xm xk true,ty,ps,af,g⟩ σ w (.tuple #[u', .bool q]):=by
 intro ρ ha w' hw
 have hb:=aJ hw (s.get u.upd)
 have hget:(getObj bk).run P w'=.ok (ab D) w' :=by simp [getObj,Sem.run,hb,ab]
 have hzero:(zeroValue et).run P w'=.ok z w' :=by
  cases hi:P.info? et with
  | none=>rw [hi] at hz; cases hz
  | some i=>rw [hi] at hz; simp at hz; simp [zeroValue,typeInfo,hi,hz]
 simp only [execOp,ha _ _ h1,ha _ _ h2,Instr.lookup,Sem.run_bind,run_underlying hm,Result.andThen_ok,hget,db,Sem.run_pure,h.check,h.find]
 rw [dy kv D 0] at hq
 cases hf:cd D kv 0 with
 | none=>
  rw [hf] at hq
  rcases hq with ⟨_,rfl,rfl⟩ | ⟨y,hy,_⟩
  ·simp [hzero]
  ·cases hy
 | some r=>
  obtain ⟨m,v⟩:=r
  rw [hf] at hq
  rcases hq with ⟨hy,_⟩ | ⟨y,hy,rfl,rfl⟩
  ·cases hy
  ·cases hy; simp
end
theorem eqOp {P:Program} {t:TypeId} {ks:Lb TypeDesc} {xs ys:Lb Vc} {q:Prop} [Decidable q] (hl:kC P 10 t=some ks) (ha:em P t=true) (hX:ee ks xs=true) (hY:ee ks ys=true) (hq:bH xs ys=true↔q) (w9:World) :
  (Op.equal t (.agg xs.toArray) (.agg ys.toArray)).run P w9=.ok (decide q) w9:=by
 have h:=(gY 10 9990 t ks hl).2 xs ys hX hY w9
 simp only [asV,ha,if_true] at h
 have hh:bH xs ys=decide q:=by
  by_cases hh:q
  ·rw [decide_eq_true hh]; exact hq.2 hh
  ·rw [decide_eq_false hh]
   cases h2:bH xs ys
   ·rfl
   ·exact absurd (hq.1 h2) hh
 rw [<- hh]
 exact h
def MR {κ ν:Type} [Rep ν] (w:World) (L:Lb Nat):Lb (κ×Lb Vc)->Lb (κ×ν)->Prop
 | [],[]=>True
 | z::Z,m::M=>z.1=m.1/\Rep.R w L z.2 m.2/\MR w L Z M
 | _,_=>False
section
variable {κ ν:Type} [Rep ν]
theorem MR.at_ {w w0:World} {O:Lb Ob} (_:St w0 w O) (L:Lb Nat) {Z:Lb (κ×Lb Vc)} {M:Lb (κ×ν)} (h:MR w (bl O++L) Z M):MR w (bl O++L) Z M:=h
theorem MR.mv {w1 w2:World} {O1 O2:Lb Ob} {L:Lb Nat}:∀ {Z:Lb (κ×Lb Vc)} {M:Lb (κ×ν)},MR w1 (bl O1++L) Z M->Tr w1 O1 w2 O2->MR w2 (bl O2++L) Z M
 | [],[],_,_=>trivial
 | _::_,_::_,⟨h1,h2,h3⟩,t=>⟨h1,Rep.mv h2 t,h3.mv t⟩
 | _::_,[],h,_=>h.elim
 | [],_::_,h,_=>h.elim
theorem MR.len {w:World} {L:Lb Nat}:∀ {Z:Lb (κ×Lb Vc)} {M:Lb (κ×ν)},MR w L Z M->Z.length=M.length
 | [],[],_=>rfl
 | _::_,_::_,⟨_,_,h3⟩=>by rw [List.length_cons,List.length_cons,h3.len]
 | _::_,[],h=>h.elim
 | [],_::_,h=>h.elim
theorem MR.nth {w:World} {L:Lb Nat}:∀ {Z:Lb (κ×Lb Vc)} {M:Lb (κ×ν)},MR w L Z M->∀ {i:Nat} {k:κ} {c:Lb Vc},Z[i]? = some (k,c)->∃ y,M[i]? = some (k,y)/\Rep.R w L c y
 | [],[],_,i,k,c,h=>by cases h
 | z::Z,m::M,⟨h1,h2,h3⟩,i,k,c,h=>by
  cases i with
  | zero=>
   rw [List.getElem?_cons_zero] at h
   cases h
   exact ⟨m.2,by rw [List.getElem?_cons_zero]; exact congrArg some (Prod.ext h1.symm I),h2⟩
  | succ i=>rw [List.getElem?_cons_succ] at h ⊢; exact h3.nth h
 | _::_,[],h,_,_,_,_=>h.elim
 | [],_::_,h,_,_,_,_=>h.elim
variable [DecidableEq κ]
theorem MR.set {w:World} {L:Lb Nat} {k:κ} {c:Lb Vc} {y:ν} (hr:Rep.R w L c y):∀ {Z:Lb (κ×Lb Vc)} {M:Lb (κ×ν)},MR w L Z M->MR w L (aH Z k c) (aH M k y)
 | [],[],_=>⟨rfl,hr,trivial⟩
 | z::Z,m::M,⟨h1,h2,h3⟩=>by
  rw [aH,aH]
  by_cases hk:k=m.1
  ·rw [if_pos hk,if_pos (hk.trans h1.symm)]; exact ⟨rfl,hr,h3⟩
  ·rw [if_neg hk,if_neg (fun e=>hk (e.trans h1))]; exact ⟨h1,h2,h3.set hr⟩
 | _::_,[],h=>h.elim
 | [],_::_,h=>h.elim
theorem MR.get {w:World} {L:Lb Nat} (k:κ):∀ {Z:Lb (κ×Lb Vc)} {M:Lb (κ×ν)},MR w L Z M->(aP M k=none/\aP Z k=none)∨∃ c y,aP Z k=some c/\aP M k=some y/\Rep.R w L c y
 | [],[],_=>.inl ⟨rfl,rfl⟩
 | z::Z,m::M,⟨h1,h2,h3⟩=>by
  rw [aP,aP]
  by_cases hk:k=m.1
  ·rw [if_pos hk,if_pos (hk.trans h1.symm)]; exact .inr ⟨_,_,rfl,rfl,h2⟩
  ·rw [if_neg hk,if_neg (fun e=>hk (e.trans h1))]; exact h3.get k
 | _::_,[],h=>h.elim
 | [],_::_,h=>h.elim
end
theorem nP {ε:Type} (sn:Array Nat) {D:Lb ε}:left D sn=[]↔∀ i<D.length,sn.contains i=true:=by
 unfold left
 rw [List.map_eq_nil_iff,List.filter_eq_nil_iff]
 constructor
 ·intro h i hi
  have:=h (D[i],i) (List.mem_zipIdx_iff_getElem?.2 (List.getElem?_eq_getElem hi))
  simpa using this
 ·rintro h ⟨z,i⟩ hz
  have:=List.mem_zipIdx_iff_getElem?.1 hz
  simp only at this
  have hl:=(List.getElem?_eq_some_iff.1 this).1
  have h9:=h i hl
  simpa using h9
section
variable {P:Program} {Z:Machine->Prop} {b:Frame} {n:Nat} {ds:Lb Deferred} {cs:Lb Frame} {k:Lb Item} {σ τ:Lb (Nat×Vc)} {w w0:World} {ops:Array Oper} {l:Lb Oper} {d:Nat} {ty:TypeId} {ps:String} {af:Array Edge} {x:Operand} {t:TypeId} {O O' : Lb Ob} {dd:Oa Tmp} {g:Oa (Nat×Bool)} {κ ν:Type} [Enc κ] [Rep ν]
theorem RG.nextR {bm r:Nat} {W:Lb (κ×Lb Vc)} {M:Lb (κ×ν)} {L:Lb Nat} {sn:Array Nat} {F:Array Nat->Lb Ob} {rest:Lb (κ×ν)} (hM:MR w L W M) (s:St w0 w O) (um:At O (.obj bm (ab W))) (u:∀ sn', Upd O (.obj r (bN bm W.length sn)) (.obj r (bN bm W.length sn')) (F sn')) (hx:ev σ x=some (.pointer (some ⟨r,0,none⟩))) (hd:Nat.blt d n=true) (hrest:left M sn=rest)
  (h0:∀ w1,rest=[]->St w0 w1 O->Tr w O w1 O->RG P Z b n ds cs ops l k ((d,.tuple #[.bool false])::σ) w1)
  (h1:∀ w1 i (e:κ×ν) c rest', W[i]? = some (e.1,c)->Rep.R w L c e.2->(e,rest')∈dM rest->left M (sn.push i)=rest'->St w0 w1 (F (sn.push i))->Tr w O w1 (F (sn.push i))->RG P Z b n ds cs ops l k ((d,.tuple #[.bool true,Enc.enc e.1,.agg c.toArray])::σ) w1) :
  RG P Z b n ds cs ops (⟨some d,.next x false,ty,ps,af,none⟩::l) k σ w:=
 RG.doesL .plain hd (DoesL.next s um u hx) fun v w1 q=>by
  rcases q with ⟨a1,rfl,a3,a4⟩ | ⟨i,hi,a1,rfl,a3,a4⟩
  ·refine h0 w1 (hrest.symm.trans ((nP sn).2 fun i hi=>(nP sn).1 a1 i (by rw [hM.len]; exact hi))) a3 a4
  ·obtain ⟨y,hy,hr⟩:=hM.nth (i:=i) (k:=W[i].1) (c:=W[i].2) (List.getElem?_eq_getElem hi)
   obtain ⟨hl,ey⟩:=List.getElem?_eq_some_iff.1 hy
   have hp:=pK M sn i hl a1
   rw [ey,hrest] at hp
   exact h1 w1 i (W[i].1,y) W[i].2 _ (List.getElem?_eq_getElem hi) hr hp I a3 a4
end
end
section
-- NT
open Go Go.RowKit
section
variable {α:Type}
def nY (lt:α->α->Bool) (x:α):Lb α->Lb α
 | []=>[x]
 | y::ys=>if lt y x then y::nY lt x ys else x::y::ys
def dN (lt:α->α->Bool):Lb α->Lb α
 | []=>[]
 | x::xs=>nY lt x (dN lt xs)
def ltQ (c:α->α->Oa Int) (x y:α):Bool:=decide ((c x y).getD 0<0)
def su [DecidableEq α] (c:α->α->Oa Int) (xs:Lb α):Bool:=
 xs.all fun x=>!(ltQ c x x)&&xs.all fun y=>(c x y).isSome&&(ltQ c x y||ltQ c y x||decide (x=y))&&xs.all fun z=>(!(ltQ c x y&&ltQ c y z)||ltQ c x z)
def sw [DecidableEq α] (c:α->α->Oa Int) (xs:Lb α):Oa (Lb α):=if su c xs=true then some (dN (ltQ c) xs) else none
theorem iD (lt:α->α->Bool) (x:α):∀ ys,(nY lt x ys).Perm (x::ys)
 | []=>.refl _
 | y::ys=>by
  rw [nY]
  split
  ·exact ((iD lt x ys).cons y).trans (.swap x y ys)
  ·exact .refl _
theorem ck (lt:α->α->Bool):∀ xs,(dN lt xs).Perm xs
 | []=>.refl _
 | x::xs=>(iD lt x _).trans ((ck lt xs).cons x)
theorem iK {lt:α->α->Bool} {x:α}:∀ {ys:Lb α},(∀ a b,(a∈ys∨a=x)->(b∈ys∨b=x)->∀ c,(c∈ys∨c=x)->lt a b=false->lt b c=false->lt a c=false)->(∀ a,a∈ys->lt a x=true->lt x a=false)->ys.Pairwise (fun a b=>lt b a=false)->(nY lt x ys).Pairwise fun a b=>lt b a=false
 | [],_,_,_=>by rw [nY]; exact List.pairwise_singleton _ _
 | y::ys,ht,ha,hp=>by
  obtain ⟨h1,h2⟩:=List.pairwise_cons.1 hp
  rw [nY]
  split
  ·rename_i hlt
   refine List.pairwise_cons.2 ⟨fun a hm=>?_,iK (fun a b h3 h4 c h5=>ht a b (h3.imp (List.mem_cons_of_mem _) id) (h4.imp (List.mem_cons_of_mem _) id) c (h5.imp (List.mem_cons_of_mem _) id)) (fun a hm=>ha a (List.mem_cons_of_mem _ hm)) h2⟩
   rcases List.mem_cons.1 ((iD lt x ys).mem_iff.1 hm) with rfl | hm
   ·exact ha y (List.mem_cons_self ..) hlt
   ·exact h1 a hm
  ·rename_i hlt
   have hlt' : lt y x=false:=by simpa using hlt
   refine List.pairwise_cons.2 ⟨fun a hm=>?_,hp⟩
   rcases List.mem_cons.1 hm with rfl | hm'
   ·exact hlt'
   ·exact ht a y (.inl hm) (.inl (List.mem_cons_self ..)) x (.inr I) (h1 a hm') hlt'
variable {c:α->α->Oa Int} {xs:Lb α}
structure SortOk (c:α->α->Option Int) (xs:List α):Prop where
 irr:∀ x∈xs,ltQ c x x=false
 some:∀ x∈xs,∀ y∈xs,∃ r,c x y=some r
 tot:∀ x∈xs,∀ y∈xs,ltQ c x y=false->ltQ c y x=false->x=y
 trans:∀ x∈xs,∀ y∈xs,∀ z∈xs,ltQ c x y=true->ltQ c y z=true->ltQ c x z=true
theorem lu [DecidableEq α]:su c xs=true↔SortOk c xs:=by
 unfold su
 rw [List.all_eq_true]
 constructor
 ·intro h
  have h1:∀ x∈xs,ltQ c x x=false/\∀ y∈xs,((c x y).isSome=true/\((ltQ c x y=true∨ltQ c y x=true)∨x=y))/\∀ z∈xs,ltQ c x y=true->ltQ c y z=true->ltQ c x z=true:=fun x hx=>by
   have h2:=h x hx
   rw [Bool.and_eq_true,Bool.not_eq_true', List.all_eq_true] at h2
   refine ⟨h2.1,fun y hy=>?_⟩
   have h3:=h2.2 y hy
   rw [Bool.and_eq_true,Bool.and_eq_true,Bool.or_eq_true,Bool.or_eq_true,List.all_eq_true] at h3
   refine ⟨⟨h3.1.1,h3.1.2.imp id of_decide_eq_true⟩,fun z hz e1 e2=>?_⟩
   have h4:=h3.2 z hz
   rw [e1,e2] at h4
   simpa using h4
  refine ⟨fun x hx=>(h1 x hx).1,fun x hx y hy=>Option.isSome_iff_exists.1 ((h1 x hx).2 y hy).1.1,fun x hx y hy e1 e2=>?_,fun x hx y hy z hz=>((h1 x hx).2 y hy).2 z hz⟩
  rcases ((h1 x hx).2 y hy).1.2 with (h2 | h2) | h2
  ·rw [e1] at h2; cases h2
  ·rw [e2] at h2; cases h2
  ·exact h2
 ·intro h x hx
  rw [Bool.and_eq_true,Bool.not_eq_true', List.all_eq_true]
  refine ⟨h.irr x hx,fun y hy=>?_⟩
  rw [Bool.and_eq_true,Bool.and_eq_true,Bool.or_eq_true,Bool.or_eq_true,List.all_eq_true]
  refine ⟨⟨Option.isSome_iff_exists.2 (h.some x hx y hy),?_⟩,fun z hz=>?_⟩
  ·cases e1:ltQ c x y
   ·cases e2:ltQ c y x
    ·exact .inr (decide_eq_true (h.tot x hx y hy e1 e2))
    ·exact .inl (.inr I)
   ·exact .inl (.inl I)
  ·cases e1:ltQ c x y
   ·rfl
   ·cases e2:ltQ c y z
    ·rfl
    ·rw [h.trans x hx y hy z hz e1 e2]; rfl
theorem SortOk.ntrans (h:SortOk c xs) {x y z:α} (hx:x∈xs) (hy:y∈xs) (hz:z∈xs) (e1:ltQ c x y=false) (e2:ltQ c y z=false):ltQ c x z=false:=by
 cases e:ltQ c x z
 ·rfl
 ·cases e3:ltQ c y x
  ·rw [h.tot x hx y hy e1 e3,e2] at e; cases e
  ·rw [h.trans y hy x hx z hz e3 e] at e2; cases e2
theorem en (h:SortOk c xs):∀ ys,(∀ y∈ys,y∈xs)->(dN (ltQ c) ys).Pairwise fun a b=>ltQ c b a=false
 | [],_=>.nil
 | y::ys,hm=>by
  rw [dN]
  have hy:=hm y (List.mem_cons_self ..)
  have hs:∀ a,(a∈dN (ltQ c) ys∨a=y)->a∈xs:=fun a ha=>by
   rcases ha with ha | rfl
   ·exact hm a (List.mem_cons_of_mem _ ((ck _ ys).mem_iff.1 ha))
   ·exact hy
  refine iK (fun a b h1 h2 d h3=>h.ntrans (hs a h1) (hs b h2) (hs d h3)) (fun a ha e=>?_) (en h ys fun z hz=>hm z (List.mem_cons_of_mem _ hz))
  cases e2:ltQ c y a
  ·rfl
  ·have:=h.trans y hy a (hs a (.inl ha)) y hy e2 e
   rw [h.irr y hy] at this
   cases this
theorem oc (h:SortOk c xs) {ys zs:Lb α} (h1:ys.Perm xs) (h2:zs.Perm xs) (p1:ys.Pairwise fun a b=>ltQ c b a=false) (p2:zs.Pairwise fun a b=>ltQ c b a=false):ys=zs:=
 List.Perm.eq_of_pairwise (le:=fun a b=>ltQ c b a=false) (fun a b ha hb e1 e2=>h.tot a (h1.mem_iff.1 ha) b (h2.mem_iff.1 hb) e2 e1) p1 p2 (h1.trans h2.symm)
end
end
section
open Go Go.RowKit
section
variable {P:Program} {Z:Machine->Prop} {b:Frame} {n:Nat} {ds:Lb Deferred} {cs:Lb Frame} {k:Lb Item} {σ τ:Lb (Nat×Vc)} {w w0:World} {O1:Lb Ob}
end
/-! ### Functions that write to what a pointer of the caller's shows -/
def eP (w0 w:World) (O O' : Lb Ob) (R:World->Vc->Prop) (e:Ending) (w1:World):Prop:=∃ v,e=.returned v/\R w1 v/\St w0 w1 O' /\Tr w O w1 O'
section
variable {P:Program} {Z:Machine->Prop} {b:Frame} {n:Nat} {ds:Lb Deferred} {cs:Lb Frame} {k:Lb Item} {σ:Lb (Nat×Vc)} {w w0:World} {O O' : Lb Ob} {d:Nat} {ty:TypeId} {ps:String} {af:Array Edge} {g:Oa (Nat×Bool)} {ops:Array Oper} {l:Lb Oper} {R:World->Vc->Prop}
theorem MX.startL {f:FuncId} {fn:Func} {c:Code} {vs:Lb Vc} (hf:P.funcs[f]? = some fn) (hb:fn.body=some c) (hn:fn.ntmps=n) (hl:Nat.ble vs.length n=true)
  (h:∀ Z cs,RetOK P Z f cs (fun v w1=>St w0 w1 O' /\Tr w O w1 O' /\∀ w', Agree [] w1 w'->R w' v)->MX P Z (fb f .normal none) n [] cs [.code c] (args 0 vs) w):Calls P f vs.toArray w (eP w0 w O O' R):=
 MX.start' hf hb hn hl h (Agree.refl _ _) fun v _ w2 hx hag=>⟨v,I,hx.2.2 w2 hag,hx.1.agree hag,hx.2.1.trans (Tr.agree hag)⟩
theorem RG.callL {f:FuncId} {c:Operand} {fst cap:Lb Vc} {xs:Lb Operand} {vs:Lb Vc} {ts:Array TypeId} (hg:Want ops σ g true) (hf:cr P f=true) (hcal:ev σ c=some (.func (.func f) fst.toArray cap.toArray)) (hv:evs σ xs vs)
  (hc:∀ w', Agree [] w w'->Calls P f (fst++vs++cap).toArray w' (eP w0 w' O O' R)) (hd:Nat.blt d n=true) (h:∀ w1 v,St w0 w1 O'->Tr w O w1 O'->R w1 v->RG P Z b n ds cs ops l k ((d,v)::σ) w1) :
  RG P Z b n ds cs ops (⟨some d,.call { callee:=.value c,args:=xs.toArray,argTypes:=ts },ty,ps,af,g⟩::l) k σ w:=by
 intro i hi a w' ha hw
 obtain ⟨h1,h2⟩:=bL hi
 rw [List.length_cons,List.range'_succ]
 have he:=cN (P:=P) (ty:=ty) (ps:=ps) (af:=af) (g:=g) (dd:=some d) (ts:=ts) hf (ρ:=a.eval) (ha.ev hcal) (vs:=vs.toArray) (xs:=xs.toArray) (by rw [List.map_toArray,bO (fun x u hx=>ha.ev hx) hv]) w'
 refine .step (cJ (cm hi) (hg.eq ha) (by rw [dp]; exact he)) ?_
 have hc' :=hc w' hw
 simp only [List.append_toArray]
 obtain ⟨e,w1,fr,⟨u,rfl,hR,s1,t1⟩,hs,_,hl⟩:=hc' (b.atR a (.inRegion ops (i::List.range' (i+1) l.length)::k)::cs)
 refine .steps hs (.step (step_leave_returned hl) ?_)
 rw [Frame.finish_atR,cm hi]
 exact h w1 u s1 ((Tr.agree hw).trans t1) hR (i+1) h2 _ _ (ha.put d u hd) (Agree.refl _ _)
theorem RO.callL {κ:KP} {t f m m' i:Nat} {fn:FuncId} {c:Operand} {fst cap:Lb Vc} {xs:Lb Operand} {vs:Lb Vc} {ts:Array TypeId} (hst:cK ops.size m i m'=true) (ht:tail t i=true) (hi:ops[i]? = some ⟨some d,.call { callee:=.value c,args:=xs.toArray,argTypes:=ts },ty,ps,af,g⟩) (hg:Want ops σ g true)
  (hf:cr P fn=true) (hcal:ev σ c=some (.func (.func fn) fst.toArray cap.toArray)) (hv:evs σ xs vs) (hc:∀ w', Agree [] w w'->Calls P fn (fst++vs++cap).toArray w' (eP w0 w' O O' R)) (hd:Nat.blt d n=true)
  (h:∀ w1 v,St w0 w1 O'->Tr w O w1 O'->R w1 v->RD κ P Z b n ds cs ops t f m' k ((d,v)::σ) w1):RO κ P Z b n ds cs ops t f m k σ w i:=by
 intro a w' ha hw
 unfold OpI
 rw [hi]
 simp only
 rw [if_pos (hg.eq ha)]
 have he:=cN (P:=P) (ty:=ty) (ps:=ps) (af:=af) (g:=g) (dd:=some d) (ts:=ts) hf (ρ:=a.eval) (ha.ev hcal) (vs:=vs.toArray) (xs:=xs.toArray) (by rw [List.map_toArray,bO (fun x u hx=>ha.ev hx) hv]) w'
 unfold OpW
 rw [he,bR hst]
 simp only [List.append_toArray]
 exact (hc w' hw).mono fun e w1 ⟨u,e1,hR,s1,t1⟩=>.inl ⟨u,e1,fun hf=>(by rw [ht] at hf; cases hf),(h w1 u s1 ((Tr.agree hw).trans t1) hR).1,(h w1 u s1 ((Tr.agree hw).trans t1) hR).2 _ _ (ha.put d u hd) (Agree.refl _ _)⟩
end
/-! ### Zeros -/
end
section
open Go Go.RowKit
section
variable {P:Program} {σ:Lb (Nat×Vc)} {w w0:World} {x y:Operand} {d dd:Oa Tmp} {t ty:TypeId} {ps:String} {af:Array Edge} {g:Oa (Nat×Bool)} {O O' : Lb Ob}
theorem nO {et:TypeId} {z:Vc} (hz:(P.info? et).bind (·.zero)=some z) (w' : World):(zeroValue et).run P w'=.ok z w' :=by
 cases hi:P.info? et with
 | none=>rw [hi] at hz; cases hz
 | some i=>rw [hi] at hz; simp at hz; simp [zeroValue,typeInfo,hi,hz]
theorem FV.lookupNil {κ ν:Type} [Enc κ] [Enc ν] [DecidableEq κ] [MKey κ] {kt et:TypeId} {kd:TypeDesc} {xm xk:Operand} {kv:κ} {z:ν} (hm:P.underlying t=some (.map kt et)) (ht:P.underlying kt=some kd) (hk:MKey.kind κ kd=true)
  (hz:(P.info? et).bind (·.zero)=some (Enc.enc z)) (h1:ev σ xm=some (.map none)) (h2:ev σ xk=some (Enc.enc kv)):FV P ⟨dd,.lookup t xm xk false,ty,ps,af,g⟩ σ w (Enc.enc z):=by
 intro ρ ha w' _
 have hf:=dH (P:=P) ht hk kv ([]:Lb (κ×ν)) w'
 have e0:bs ([]:Lb (κ×ν)) 0=[]:=rfl
 rw [e0] at hf
 simp only [execOp,ha _ _ h1,ha _ _ h2,Instr.lookup,Sem.run_bind,run_underlying hm,Result.andThen_ok,Sem.run_pure,dc (κ:=κ) _ ht hk,hf]
 simp [cd,nO hz w']
theorem FV.lookup2K {κ ν:Type} [Enc κ] [Enc ν] [DecidableEq κ] {kt et:TypeId} {xm xk:Operand} {bk:Nat} {D:Lb (κ×ν)} {kv:κ} {z:ν} (h:KeyAt P kt κ) (s:St w0 w O) (u:At O (.obj bk (ab D))) (hm:P.underlying t=some (.map kt et))
  (hz:(P.info? et).bind (·.zero)=some (Enc.enc z)) (h1:ev σ xm=some (.map (some bk))) (h2:ev σ xk=some (Enc.enc kv)):FV P ⟨dd,.lookup t xm xk true,ty,ps,af,g⟩ σ w (.tuple #[Enc.enc (ap D kv z),.bool (aP D kv).isSome]):=by
 unfold ap
 cases e:aP D kv with
 | none=>exact FV.lookupK h s u hm hz h1 h2 (.inl ⟨e,rfl,rfl⟩)
 | some v=>exact FV.lookupK h s u hm hz h1 h2 (.inr ⟨v,e,rfl,rfl⟩)
theorem FV.lookupK1 {κ ν:Type} [Enc κ] [Enc ν] [DecidableEq κ] {kt et:TypeId} {xm xk:Operand} {bk:Nat} {D:Lb (κ×ν)} {kv:κ} {z u' : Vc} (h:KeyAt P kt κ) (s:St w0 w O) (u:At O (.obj bk (ab D))) (hm:P.underlying t=some (.map kt et))
  (hz:(P.info? et).bind (·.zero)=some z) (h1:ev σ xm=some (.map (some bk))) (h2:ev σ xk=some (Enc.enc kv)) (hq:(aP D kv=none/\u'=z)∨∃ y,aP D kv=some y/\u'=Enc.enc y):FV P ⟨dd,.lookup t xm xk false,ty,ps,af,g⟩ σ w u' :=by
 intro ρ ha w' hw
 have hb:=aJ hw (s.get u.upd)
 have hget:(getObj bk).run P w'=.ok (ab D) w' :=by simp [getObj,Sem.run,hb,ab]
 simp only [execOp,ha _ _ h1,ha _ _ h2,Instr.lookup,Sem.run_bind,run_underlying hm,Result.andThen_ok,hget,db,Sem.run_pure,h.check,h.find]
 rw [dy kv D 0] at hq
 cases hf:cd D kv 0 with
 | none=>
  rw [hf] at hq
  rcases hq with ⟨_,rfl⟩ | ⟨y,hy,_⟩
  ·simp [nO hz]
  ·cases hy
 | some r=>
  obtain ⟨m,v⟩:=r
  rw [hf] at hq
  rcases hq with ⟨hy,_⟩ | ⟨y,hy,rfl⟩
  ·cases hy
  ·cases hy; simp
theorem FV.sliceAU {len m:Nat} {l:Int} {p:Addr} {y:Operand} {k:IntKind} (ht:arrB P t len m=true) (hx:ev σ x=some (.pointer (some p))) (hy:ev σ y=some (.int k l)) (h0:0<=l) (hl:l<=len):FV P ⟨d,.slice t x none (some y) none,ty,ps,af,g⟩ σ w (.slice (some p) l.toNat len):=by
 refine fun ρ ha w' _=>?_
 unfold arrB at ht
 split at ht
 ·rename_i l' e hu
  rw [Bool.and_eq_true] at ht
  obtain ⟨h1,h2⟩:=ht
  have hl' : l'=len:=by simpa using h1
  subst hl'
  obtain ⟨n,rfl⟩:∃ n:Nat,l=(n:Int):=⟨l.toNat,by omega⟩
  have hn:n<=l' :=by omega
  split at h2
  ·rename_i j hj
   have hs:j.size=m:=by simpa using h2
   have hb:(Instr.sliceBounds false l' l' none (some (ρ y)) none).run P w'=.ok (0,n,l') w' :=by
    simp [Instr.sliceBounds,Instr.sliceBound,ha _ _ hy,asIntOf]; omega
   simp [execOp,ha _ _ hx,Instr.sliceAt,Instr.sureAddr,run_underlying hu,hb,sizeOf,typeInfo,hj]
   intro _; cases p; simp [Addr.add]
  ·cases h2
 ·cases ht
section
variable {α:Type} [Rep α] {L:Lb Nat} {xs:Lb α}
theorem St.freezeU {bk tt:Nat} {vs:Lb Vc} (s:St w0 w O) (u:Out O (.cells bk vs tt) O') (hsz:Rep.size α=1) (hc:Cells w (bl O++L) vs xs) (hn:xs.length<=1000) (n:Nat) (hk:n<=xs.length) (hL:∀ b∈L,b<w0.heap.size):Rep.R w (bl O'++L) [.slice (some ⟨bk,0,none⟩) n xs.length] (xs.take n):=by
 obtain ⟨h1,h2⟩:=u.get s.ok
 have hb:bk∉bl O'++L:=fun hm=>by
  rcases List.mem_append.1 hm with hm | hm
  ·exact h2 bk I hm
  ·have:=s.new bk (u.mem I); have:=hL bk hm; omega
 have hmem:=pi h1
 have hlt:(xs.take n).length=n:=by rw [List.length_take]; omega
 have hR:∀ i (hi:i<(xs.take n).length),Rep.R w (bl O'++L) ((vs.drop (i*Rep.size α)).take (Rep.size α)) (xs.take n)[i]:=fun i hi=>by
  rw [List.getElem_take]
  refine Rep.shun (hc.2 i (by rw [hlt] at hi; omega)) fun b hb=>.inl ?_
  rcases List.mem_append.1 hb with hb | hb
  ·exact List.mem_append.2 (.inl (u.del.bl hb))
  ·exact List.mem_append.2 (.inr hb)
 refine ⟨some ⟨bk,0,none⟩,xs.length,by rw [hlt],by rw [hlt]; exact hk,by omega,by rw [hlt]; unfold jw; omega,fun i hi=>⟨_,rfl,hb,_,hR i hi,fun j uu hu=>?_⟩⟩
 have hj:j<Rep.size α:=by
  refine Classical.byContradiction fun hn=>?_
  rw [List.getElem?_eq_none (by rw [List.length_take]; omega)] at hu
  cases hu
 rw [List.getElem?_take_of_lt hj,List.getElem?_drop] at hu
 exact hmem _ _ hu
theorem lV {cs:Lb Vc} {x:α} {O1:Lb Ob} (h:Rep.R w (bl O1++(bl O++L)) cs x):Rep.R w (bl (O1++O)++L) cs x:=by
 rw [dW,List.append_assoc]; exact h
end
def ru (k:Nat) (l:Int):Oa Nat:=if 0<=l/\l<=k then some l.toNat else none
theorem upto_in {k n:Nat} {l:Int} (h:ru k l=some n):0<=l/\l<=k/\n=l.toNat:=by
 unfold ru at h
 split at h
 ·rename_i hl; cases h; exact ⟨hl.1,hl.2,rfl⟩
 ·cases h
theorem Calls.none_r {f:FuncId} {vs:Array Vc} {R:Ending->World->Prop} {β:Type} {r:β} (h:(none:Oa β)=some r):Calls P f vs w R:=by cases h
end
/-! ### Keys of twelve numbers -/
instance decI6:DecidableEq (Int×Int×Int×Int×Int×Int):=@instDecidableEqProd Int (Int×Int×Int×Int×Int) inferInstance inferInstance
instance decI7:DecidableEq (Int×Int×Int×Int×Int×Int×Int):=@instDecidableEqProd Int (Int×Int×Int×Int×Int×Int) inferInstance decI6
instance decI8:DecidableEq (Int×Int×Int×Int×Int×Int×Int×Int):=@instDecidableEqProd Int (Int×Int×Int×Int×Int×Int×Int) inferInstance decI7
instance decI9:DecidableEq (Int×Int×Int×Int×Int×Int×Int×Int×Int):=@instDecidableEqProd Int (Int×Int×Int×Int×Int×Int×Int×Int) inferInstance decI8
instance decI10:DecidableEq (Int×Int×Int×Int×Int×Int×Int×Int×Int×Int):=@instDecidableEqProd Int (Int×Int×Int×Int×Int×Int×Int×Int×Int) inferInstance decI9
instance decI11:DecidableEq (Int×Int×Int×Int×Int×Int×Int×Int×Int×Int×Int):=@instDecidableEqProd Int (Int×Int×Int×Int×Int×Int×Int×Int×Int×Int) inferInstance decI10
instance decI12:DecidableEq (Int×Int×Int×Int×Int×Int×Int×Int×Int×Int×Int×Int):=@instDecidableEqProd Int (Int×Int×Int×Int×Int×Int×Int×Int×Int×Int×Int) inferInstance decI11
/-! ### Maps of maps -/
structure MRef where
 b:Oa Nat
instance:Enc MRef:=⟨fun a=>.map a.b⟩
section
variable {κ β:Type}
def mmD (Z:Lb ((κ×β)×Nat)):Lb (κ×MRef):=Z.map fun z=>(z.1.1,⟨some z.2⟩)
def ar (f:β->Obj) (Z:Lb ((κ×β)×Nat)):Lb Ob:=Z.map fun z=>.obj z.2 (f z.1.2)
theorem oI [DecidableEq κ] (k:κ):∀ (Z:Lb ((κ×β)×Nat)),
  (aP (pmM Z) k=none/\∀ y b,aH (mmD Z) k ⟨some b⟩=mmD (Z++[((k,y),b)])/\aH (pmM Z) k y=pmM (Z++[((k,y),b)])) ∨
  ∃ (i:Nat) (y:β) (b:Nat),Z[i]? = some ((k,y),b)/\aP (pmM Z) k=some y/\aP (mmD Z) k=some ⟨some b⟩
 | []=>.inl ⟨rfl,fun _ _=>⟨rfl,rfl⟩⟩
 | ((k', y'),b')::Z=>by
  by_cases hk:k=k'
  ·subst hk
   exact .inr ⟨0,y', b', rfl,by simp [aP],by simp [mmD,aP]⟩
  ·rcases oI k Z with ⟨h1,h2⟩ | ⟨i,y,b,h0,h1,h2⟩
   ·refine .inl ⟨by simpa [aP,hk] using h1,fun y b=>⟨?_,?_⟩⟩
    ·have:=(h2 y b).1; simp only [mmD,List.map_cons,aH,hk,if_false,List.cons_append] at this ⊢; rw [this]
    ·have:=(h2 y b).2; simp only [pmM,List.map_cons,aH,hk,if_false,List.cons_append] at this ⊢; rw [this]
   ·exact .inr ⟨i+1,y,b,by simpa using h0,by simpa [aP,hk] using h1,by simpa [aP,mmD,hk] using h2⟩
variable {w w0:World} {T pre:Lb Ob} {f:β->Obj} {Z:Lb ((κ×β)×Nat)} {k:κ} {y:β} {b:Nat}
theorem qv (z:(κ×β)×Nat):(pre++(ar f (Z++[z])++T)).Perm (.obj z.2 (f z.1.2)::(pre++(ar f Z++T))):=by
 have h1:(ar f (Z++[z])++T).Perm (.obj z.2 (f z.1.2)::(ar f Z++T)):=by
  unfold ar
  rw [List.map_append,List.append_assoc]
  exact List.perm_middle
 exact (h1.append_left pre).trans List.perm_middle
theorem St.mmNew {Q:Lb (κ×MRef)->Lb Ob} {D:Lb (κ×MRef)} (hD:D=mmD (Z++[((k,y),b)])) (s:St w0 w (.obj b (f y)::(Q D++(ar f Z++T)))):St w0 w (Q (mmD (Z++[((k,y),b)]))++(ar f (Z++[((k,y),b)])++T))/\Tr w (.obj b (f y)::(Q D++(ar f Z++T))) w (Q (mmD (Z++[((k,y),b)]))++(ar f (Z++[((k,y),b)])++T)):=by
 subst hD
 have p:=qv (pre:=Q (mmD (Z++[((k,y),b)]))) (T:=T) (f:=f) (Z:=Z) ((k,y),b)
 exact ⟨s.perm p.symm,Tr.perm p.symm⟩
theorem St.mmLay (s:St w0 w pre) (f:β->Obj):St w0 w (pre++(ar f ([]:Lb ((κ×β)×Nat))++[]))/\Tr w pre w (pre++(ar f ([]:Lb ((κ×β)×Nat))++[])):=by
 have e:pre++(ar f ([]:Lb ((κ×β)×Nat))++[])=pre:=by simp [ar]
 rw [e]; exact ⟨s,Tr.refl _ _⟩
theorem St.mmDrop (s:St w0 w (pre++(ar f Z++T))):St w0 w (pre++T)/\Tr w (pre++(ar f Z++T)) w (pre++T):=by
 have d:Del (pre++(ar f Z++T)) (pre++T):=by
  clear s
  induction pre with
  | nil=>
   show Del (ar f Z++T) T
   generalize ar f Z=B
   induction B with
   | nil=>exact Del.refl _
   | cons x B ih=>exact .drop ih
  | cons x pre ih=>exact .keep ih
 exact ⟨s.del d,Tr.del d⟩
theorem At.mbox {i:Nat} {z:(κ×β)×Nat} (h:Z[i]? = some z):At (pre++(ar f Z++T)) (.obj z.2 (f z.1.2)):=by
 refine At.app ?_
 unfold ar
 induction Z generalizing i with
 | nil=>simp at h
 | cons x Z ih=>
  cases i with
  | zero=>simp at h; subst h; exact .hd
  | succ i=>exact .tl (ih (by simpa using h))
theorem At.mbox0 {i:Nat} (h:Z[i]? = some ((k,y),b)):At (ar f Z++T) (.obj b (f y)):=At.mbox (pre:=[]) h
def sQ [DecidableEq κ] (M:Lb (κ×β)) (k:κ):Oa Unit:=if (aP M k).isSome then none else some ()
theorem pj [DecidableEq κ] {u:Unit} (h:sQ (pmM Z) k=some u):∀ y b,aH (mmD Z) k ⟨some b⟩=mmD (Z++[((k,y),b)])/\aH (pmM Z) k y=pmM (Z++[((k,y),b)]):=by
 rcases oI k Z with ⟨_,h2⟩ | ⟨i,y,b,_,h1,_⟩
 ·exact h2
 ·unfold sQ at h; rw [h1] at h; cases h
theorem oX [DecidableEq κ] (h:aP (pmM Z) k=some y):∃ (i b:Nat),Z[i]? = some ((k,y),b)/\aP (mmD Z) k=some ⟨some b⟩:=by
 rcases oI k Z with ⟨h1,_⟩ | ⟨i,y', b,h0,h1,h2⟩
 ·rw [h1] at h; cases h
 ·rw [h1] at h; cases h; exact ⟨i,b,h0,h2⟩
end
theorem MR.got {κ ν:Type} [Rep ν] [DecidableEq κ] {w:World} {L:Lb Nat} {k:κ} {Z:Lb (κ×Lb Vc)} {M:Lb (κ×ν)} {y:ν} (h:MR w L Z M) (hy:aP M k=some y):∃ c,aP Z k=some c/\Rep.R w L c y:=by
 rcases MR.get k h with ⟨h1,_⟩ | ⟨c,y', h1,h2,h3⟩
 ·rw [h1] at hy; cases hy
 ·rw [h2] at hy; cases hy; exact ⟨c,h1,h3⟩
theorem ke {κ ν:Type} [DecidableEq κ] {D:Lb (κ×ν)} {k:κ} {y:ν} (h:aP D k=some y) (z:ν):ap D k z=y:=by unfold ap; rw [h]; rfl
end
section
open Go Go.RowKit Go.Sort Go.Shelf
theorem od {w w' : World} (h:Agree [] w w'):∃ q os,w'=grow (w.drewN q) os:=by
 refine ⟨w'.drawn-w.drawn,w'.heap.extract w.heap.size w'.heap.size,?_⟩
 have hh:w.heap++w'.heap.extract w.heap.size w'.heap.size=w'.heap:=by
  apply Array.ext_getElem?
  intro i
  rw [Array.getElem?_append]
  split
  ·rename_i hi
   exact (h.block i hi (by simp)).symm
  ·rename_i hi
   rw [Array.getElem?_extract,show w.heap.size+(i-w.heap.size)=i by omega]
   split
   ·rfl
   ·rename_i h2
    rw [Array.getElem?_eq_none (by have:=h.size; omega)]
 have hd:=h.drawn
 obtain ⟨h1,h2,h3,h4,h5,h6⟩:=h
 cases w
 cases w'
 simp only at h1 h2 h3 hh hd
 subst h1 h2 h3
 simp only [grow,World.drewN,hh]
 congr 1
 omega
section
variable {α:Type} [Inhabited α] {enc:α->Vc}
theorem qp {w:World} {g n:Nat} {os:Array Obj} {cur:Array Vc} {e:TypeId} {fr:Nat×Nat} (F:Array α) (hb:w.heap[g]? = some (.cells cur e fr)) :
  (grow (putRow enc (Sort.ahead w n) g 0 F) os).heap[g]? = some (.cells (putCells enc 0 F cur) e fr):=by
 have hg:g<w.heap.size:=(Array.getElem?_eq_some_iff.1 hb).1
 rw [heap_grow_old _ _ (by simpa using hg)]
 simp [putRow,mapBlock,Sort.ahead,Array.getElem?_modify,hb,onCells]
theorem nQ {w:World} {g n:Nat} {os:Array Obj} (F:Array α):Agree [g] w (grow (putRow enc (Sort.ahead w n) g 0 F) os):=by
 refine ⟨rfl,rfl,rfl,by simp,fun k hk hne=>?_,by simp [grow,putRow,mapBlock,Sort.ahead]⟩
 rw [heap_grow_old _ _ (by simpa using hk)]
 have:g≠k:=fun e=>hne (by rw [e]; simp)
 simp [putRow,mapBlock,Sort.ahead,Array.getElem?_modify,this]
theorem qc (cur:Array Vc) (F:Array α) (h:F.size<=cur.size):(putCells enc 0 F cur).toList.take F.size=F.toList.map enc:=by
 apply List.ext_getElem?
 intro j
 by_cases hj:j<F.size
 ·rw [List.getElem?_take_of_lt hj,Array.getElem?_toList,List.getElem?_map,Array.getElem?_toList]
  simp [putCells,hj,show j<cur.size by omega]
 ·rw [List.getElem?_take_eq_none (by omega),List.getElem?_eq_none (by simp; omega)]
end
def jU {α:Type} [DecidableEq α] (c:α->α->Oa Int) (li:Int) (xs:Lb α):Oa (Lb α):=if 0<=li/\li<4611686018427387904 then sw c xs else none
section
variable {P:Program} {ρ:Ren} {β:Type} [Rep β]
theorem mG (h1:Rep.size β=1) {c:β->β->Oa Int} {xs:Lb β} (hB:SortOk c xs) {lim:Nat} (hlim:lim<4611686018427387904) (La:SlLaysF.n14 P ρ) {g:Nat} (eg:∀ args w,(callFunc g args).run P w=.ok (.enter g args) w)
  (hc:∀ (L9:Lb Nat) (w9:World),(∀ b∈L9,b<w9.heap.size)->∀ (u u' : Vc) (x y:β) (r:Int),Rep.R w9 L9 [u] x->Rep.R w9 L9 [u'] y->c x y=some r->Calls P g #[u,u'] w9 (aj w9 fun _ z=>z=.int .i64 r))
  {w:World} {base:Nat} {e:TypeId} {v:Vc} {cs:Lb Vc} {L:Lb Nat} (hown:w.ownsRow base e 1 v xs.length cs) (hl:xs.length<=eA) (hL:∀ b∈L,b<w.heap.size) (hv:∀ b,v.ownBlock=some b->b∈L) (hC:Cells w L cs xs) :
  Calls P (ρ.f 14) #[v,.int .i64 0,.int .i64 (xs.length:Int),.int .i64 (lim:Int),.func (.func g) #[] #[]] w fun e' w' =>∃ u,e'=.returned u/\u=.tuple #[]/\Agree v.ownBlock.toList w w' /\∃ cs', w'.ownsRow base e 1 v xs.length cs' /\Cells w' L cs' (dN (ltQ c) xs):=by
 unfold eA at hl
 rcases Nat.eq_zero_or_pos xs.length with h0 | h0
 ·obtain rfl:=List.eq_nil_of_length_eq_zero h0
  have hvv:∃ p cap,v=.slice p 0 cap:=by
   rcases hown.2 with ⟨rfl,_⟩ | ⟨bk,cap,cur,rfl,_⟩
   ·exact ⟨_,_,I⟩
   ·exact ⟨_,_,I⟩
  obtain ⟨p,cap,rfl⟩:=hvv
  refine (AnyF.pdqsortCmpFunc_none { La with } p cap (lim:Int) (.func (.func g) #[] #[]) w).mono ?_
  rintro e' w' ⟨rfl,rfl⟩
  exact ⟨_,I,I,Agree.refl _ _,cs,hown,hC⟩
 ·rcases hown.2 with ⟨rfl,h2⟩ | ⟨bk,cap,cur,rfl,hbase,hb,hn,hcap,hsz,htk⟩
  ·exact absurd h2 (by omega)
  ·have hcl:cs.length=xs.length:=by rw [hC.1,h1,Nat.mul_one]
   rw [Nat.mul_one] at htk hsz
   haveI:Inhabited (Fin xs.length):=⟨⟨0,h0⟩⟩
   let enc:Fin xs.length->Vc:=fun i=>cs[i.1]'(by rw [hcl]; exact i.2)
   let cf:Fin xs.length->Fin xs.length->Int:=fun i j=>(c xs[i.1] xs[j.1]).getD 0
   let d:Array (Fin xs.length):=(List.finRange xs.length).toArray
   have hsize:d.size=xs.length:=by simp [d]
   have hrep:∀ i:Fin xs.length,Rep.R w L [enc i] xs[i.1]:=fun i=>by
    have h3:=hC.2 i.1 i.2
    rw [h1,Nat.mul_one] at h3
    have h4:(cs.drop i.1).take 1=[enc i]:=by
     rw [List.drop_eq_getElem_cons (by rw [hcl]; exact i.2)]; rfl
    rwa [h4] at h3
   have hO1:∀ i,(enc i).oneCell'=true:=fun i=>Rep.one (hrep i) _ (List.mem_singleton_self _)
   have hdi:∀ j (hj:j<xs.length),d[j]! = ⟨j,hj⟩:=fun j hj=>by
    rw [getElem!_pos d j (by rw [hsize]; exact hj)]
    simp [d]
   have hH:Holds enc w bk 0 d:=by
    intro j hj
    rw [hsize] at hj
    refine ⟨?_,by simp [World.frozen?,hb]⟩
    simp only [World.cell?,hb,Nat.zero_add,Option.isSome_none,Bool.false_eq_true,if_false]
    rw [hdi j hj,<- Array.getElem?_toList,<- List.getElem?_take_of_lt hj,htk,List.getElem?_eq_getElem (by rw [hcl]; exact hj)]
   have hagr:∀ m (dk:Array (Fin xs.length)) os,Agree [bk] w (sortWorld enc w bk 0 m dk os):=fun m dk os=>nQ dk
   have hbL:bk∈L:=hv bk I
   have hkeep:∀ {w9:World},Agree [bk] w w9->∀ i:Fin xs.length,Rep.R w9 L [enc i] xs[i.1]:=fun ha i=>
    Rep.keep (hrep i) (ha.mono fun b hb=>.inl (by rw [List.mem_singleton.1 hb]; exact hbL))
   have hcmp:CmpLays1 P g #[] enc cf bk 0 d.size w:=fun m os dk _ x y=>by
    obtain ⟨r,hr⟩:=hB.some xs[x.1] (List.getElem_mem _) xs[y.1] (List.getElem_mem _)
    have ha:=hagr m dk os
    refine (hc L _ (fun b hb=>Nat.lt_of_lt_of_le (hL b hb) ha.size) (enc x) (enc y) _ _ r (hkeep ha x) (hkeep ha y) hr).mono ?_
    rintro e' w' ⟨u,rfl,rfl,hag⟩
    exact ⟨by show Ending.returned (.int .i64 r)=.returned (.int .i64 ((c xs[x.1] xs[y.1]).getD 0)); rw [hr]; rfl,od hag⟩
   have hm:∀ i:Fin xs.length,xs[i.1]∈xs:=fun i=>List.getElem_mem _
   have hO:SWO (ltOf cf):=⟨fun x=>hB.irr _ (hm x),fun x y z=>hB.trans _ (hm x) _ (hm y) _ (hm z),fun x y z=>hB.ntrans (hm x) (hm y) (hm z)⟩
   have hcall:=Any.pdqsortCmpFunc_all La enc cf g #[] hO bk 0 cap d w eg hcmp ⟨hO1,hH,(Array.getElem?_eq_some_iff.1 hb).1⟩ (d.size+1) 0 d.size lim d w (by omega) I (SW.start hH) (Nat.zero_le _) (Nat.le_refl _) (by rw [hsize]; omega) hlim (Or.inl I)
   have hps:=pdq_sorts (ltOf cf) hO d 0 d.size lim true true (Nat.zero_le _) (Nat.le_refl _) (Or.inl I)
   rw [hsize] at hcall
   refine hcall.mono ?_
   rintro e' w' ⟨rfl,n,os,rfl⟩
   obtain ⟨hp1,hp2⟩:=hps
   rw [hsize] at hp1 hp2
   generalize pdq (ltOf cf) d 0 xs.length lim true true=d' at hp1 hp2 ⊢
   obtain ⟨q1,_,q3⟩:=hp1
   rw [hsize] at q1
   have q4:d'.toList.Perm d.toList:=by
    rw [show d'.extract 0 xs.length=d' from (congrArg (fun m=>d'.extract 0 m) q1.symm).trans Array.extract_size,show d.extract 0 xs.length=d from (congrArg (fun m=>d.extract 0 m) hsize.symm).trans Array.extract_size] at q3
    exact q3
   have hdx:d.toList.map (fun i=>xs[i.1])=xs:=by
    simp only [d]
    refine List.ext_getElem (by simp) fun i h3 h4=>by simp
   have hys:d'.toList.map (fun i=>xs[i.1])=dN (ltQ c) xs:=by
    refine oc hB ?_ (ck _ _) ?_ (en hB xs fun y hy=>hy)
    ·have:=q4.map (fun i:Fin xs.length=>xs[i.1])
     rwa [hdx] at this
    ·rw [List.pairwise_map,List.pairwise_iff_getElem]
     intro i j hi hj hij
     have h5:=hp2 i j (Nat.zero_le _) hij (by rw [Array.length_toList,q1] at hj; exact hj)
     rw [getElem!_pos d' i (by simpa using hi),getElem!_pos d' j (by simpa using hj)] at h5
     simp only [Array.getElem_toList]
     exact h5
   have ha:=hagr n d' os
   have ht:=qc (enc:=enc) cur d' (by rw [q1,hsz]; exact hn)
   have hl2:(d'.toList.map enc).length=xs.length:=by rw [List.length_map,Array.length_toList,q1]
   refine ⟨_,rfl,rfl,ha,d'.toList.map enc,⟨by rw [hl2,Nat.mul_one],.inr ⟨bk,cap,putCells enc 0 d' cur,rfl,hbase,qp d' hb,hn,hcap,by simp [putCells,hsz],?_⟩⟩,?_⟩
   ·rw [Nat.mul_one]; exact (congrArg (fun m=>(putCells enc 0 d' cur).toList.take m) q1.symm).trans ht
   ·rw [<- hys]
    have key:∀ l:Lb (Fin xs.length),Cells (sortWorld enc w bk 0 n d' os) L (l.map enc) (l.map fun i=>xs[i.1]):=fun l=>by
     induction l with
     | nil=>exact Cells.nil _ _
     | cons i l ih=>exact Cells.cons (cs:=[enc i]) (hkeep ha i) ih
    exact key _
end
section
variable {P:Program} {Z:Machine->Prop} {b:Frame} {n:Nat} {ds:Lb Deferred} {cs:Lb Frame} {k:Lb Item} {σ τ:Lb (Nat×Vc)} {w w0:World} {ops:Array Oper} {l:Lb Oper} {d:Nat} {ty:TypeId} {ps:String} {af:Array Edge} {O O' : Lb Ob} {g:Oa (Nat×Bool)}
theorem RG.callW {f:FuncId} {c:Operand} {fst cap:Lb Vc} {xs:Lb Operand} {vs:Lb Vc} {ts:Array TypeId} {R:World->Vc->Prop} (hg:Want ops σ g true) (hf:cr P f=true) (hcal:ev σ c=some (.func (.func f) fst.toArray cap.toArray)) (hv:evs σ xs vs)
  (hc:∀ w', Agree [] w w'->Calls P f (fst++vs++cap).toArray w' fun e w2=>∃ u,e=.returned u/\R w2 u) (hd:Nat.blt d n=true) (h:∀ w1 v,R w1 v->RG P Z b n ds cs ops l k ((d,v)::σ) w1) :
  RG P Z b n ds cs ops (⟨some d,.call { callee:=.value c,args:=xs.toArray,argTypes:=ts },ty,ps,af,g⟩::l) k σ w:=by
 intro i hi a w' ha hw
 obtain ⟨h1,h2⟩:=bL hi
 rw [List.length_cons,List.range'_succ]
 have he:=cN (P:=P) (ty:=ty) (ps:=ps) (af:=af) (g:=g) (dd:=some d) (ts:=ts) hf (ρ:=a.eval) (ha.ev hcal) (vs:=vs.toArray) (xs:=xs.toArray) (by rw [List.map_toArray,bO (fun x u hx=>ha.ev hx) hv]) w'
 refine .step (cJ (cm hi) (hg.eq ha) (by rw [dp]; exact he)) ?_
 have hc' :=hc w' hw
 simp only [List.append_toArray]
 obtain ⟨e,w1,fr,⟨u,rfl,hR⟩,hs,_,hl⟩:=hc' (b.atR a (.inRegion ops (i::List.range' (i+1) l.length)::k)::cs)
 refine .steps hs (.step (step_leave_returned hl) ?_)
 rw [Frame.finish_atR,cm hi]
 exact h w1 u hR (i+1) h2 _ _ (ha.put d u hd) (Agree.refl _ _)
theorem RG.sort1 {β:Type} [Rep β] [DecidableEq β] (hz:Rep.size β=1) {ρ:Ren} {gf:Nat} {co:Operand} {xo:Lb Operand} {ts:Array TypeId} {c:β->β->Oa Int} {xs ys:Lb β} {v:Vc} {e:TypeId} {cz:Lb Vc} {L:Lb Nat} {li ln:Int} (hq:jU c li xs=some ys) (hln:ln=((xs.length:Nat):Int))
  (La:SlLaysF.n14 P ρ) (eg:∀ args w,(callFunc gf args).run P w=.ok (.enter gf args) w)
  (hc:∀ (L9:Lb Nat) (w9:World),(∀ b∈L9,b<w9.heap.size)->∀ (u u' : Vc) (x y:β) (r:Int),Rep.R w9 L9 [u] x->Rep.R w9 L9 [u'] y->c x y=some r->Calls P gf #[u,u'] w9 (aj w9 fun _ z=>z=.int .i64 r))
  (hg:Want ops σ g true) (hf:cr P (ρ.f 14)=true) (hcal:ev σ co=some (.func (.func (ρ.f 14)) #[] #[])) (hv:evs σ xo [v,.int .i64 0,.int .i64 ln,.int .i64 li,.func (.func gf) #[] #[]]) (hd:Nat.blt d n=true)
  (s:St w0 w O) (hL:∀ b∈L,b<w0.heap.size) (hx:Cells w (bl O++L) cz xs) {F:Lb Vc->Lb Ob} (u:∀ cz', Upd O (.row w0.heap.size e (Rep.size β) v xs.length cz) (.row w0.heap.size e (Rep.size β) v ys.length cz') (F cz'))
  (h:∀ w1 cz', St w0 w1 (F cz')->Tr w O w1 (F cz')->Cells w1 (bl (F cz')++L) cz' ys->RG P Z b n ds cs ops l k ((d,.tuple #[])::σ) w1) :
  RG P Z b n ds cs ops (⟨some d,.call { callee:=.value co,args:=xo.toArray,argTypes:=ts },ty,ps,af,g⟩::l) k σ w:=by
 unfold jU at hq
 split at hq
 case isFalse=>cases hq
 rename_i hli
 obtain ⟨lim,rfl⟩:∃ k:Nat,li=(k:Int):=⟨li.toNat,by omega⟩
 have hlim:lim<4611686018427387904:=by omega
 subst hln
 unfold sw at hq
 split at hq
 ·rename_i hB
  cases hq
  have hO:=lu.1 hB
  have hlen:(dN (ltQ c) xs).length=xs.length:=(ck _ xs).length_eq
  refine RG.callW (fst:=[]) (cap:=[]) (R:=fun w2 u=>u=.tuple #[]/\∃ cz', St w0 w2 (F cz')/\Tr w O w2 (F cz')/\Cells w2 (bl (F cz')++L) cz' (dN (ltQ c) xs)) hg hf hcal hv (fun w' hw=>?_) hd fun w1 u' ⟨e1,cz', e2,e3,e4⟩=>by subst e1; exact h w1 cz' e2 e3 e4
  obtain ⟨hown,hl⟩:(Ob.row w0.heap.size e (Rep.size β) v xs.length cz).holds w' :=Ob.keep (s.get (u cz)) hw (by simp)
  have hown' :=hown
  rw [hz] at hown'
  have hcall:=mG (P:=P) (ρ:=ρ) hz hO hlim La eg hc hown' hl (L:=bl O++L) (fun b hb=>by
   rcases List.mem_append.1 hb with hb | hb
   ·exact Nat.lt_of_lt_of_le (s.ok.lt b hb) hw.size
   ·exact Nat.lt_of_lt_of_le (hL b hb) (Nat.le_trans s.ag.size hw.size)) (fun b hb=>List.mem_append.2 (.inl ((u cz).mem hb))) (Cells.keep0 hx hw)
  refine hcall.mono ?_
  rintro e' w2 ⟨u', rfl,rfl,hag,cz', hrow,hC⟩
  have hL2:∀ b∈v.ownBlock.toList,(Ob.row w0.heap.size e (Rep.size β) v xs.length cz).block=some b:=fun b hb=>by simpa [Ob.block] using hb
  have hb:∀ b', (Ob.row w0.heap.size e (Rep.size β) v (dN (ltQ c) xs).length cz').block=some b'->(Ob.row w0.heap.size e (Rep.size β) v xs.length cz).block=some b'∨w.heap.size<=b' :=fun b' e=>.inl e
  have hag2:Agree v.ownBlock.toList w w2:=(Agree.widen hw).trans hag
  have hrow2:(Ob.row w0.heap.size e (Rep.size β) v (dN (ltQ c) xs).length cz').holds w2:=⟨by rw [hlen,hz]; exact hrow,by rw [hlen]; exact hl⟩
  have hT:Tr w O w2 (F cz'):=Tr.upd (u cz') hag2 hL2 hb
  refine ⟨_,I,I,cz', s.upd (u cz') hag2 hL2 hrow2 hb,hT,hC.1,fun i hi=>Rep.shun (hC.2 i hi) fun b hm=>.inl ?_⟩
  rcases List.mem_append.1 hm with hm | hm
  ·rcases (u cz').bl hm with h5 | h5
   ·exact List.mem_append.2 (.inl ((u cz).mem h5))
   ·exact List.mem_append.2 (.inl h5)
  ·exact List.mem_append.2 (.inr hm)
 ·cases hq
end
end
open Go Go.RowKit
structure GZ (α:Type) where
 v:Vc
 xs:Lb α
 cs:Lb Vc
section
variable {α:Type} [Rep α] {w w0 w1:World} {O O' O1 O2 T pre:Lb Ob} {L:Lb Nat} {base e e2 sz i n:Nat} {v0 v:Vc} {D:Lb Vc} {M:Lb (Lb α)} {Z:Lb (GZ α)} {xs ys:Lb α} {cs cs' : Lb Vc}
def gJ (base e:Nat) (Z:Lb (GZ α)):Lb Ob:=Z.map fun z=>.row base e (Rep.size α) z.v z.xs.length z.cs
structure GG (w:World) (L:List Nat) (n:Nat) (D:List Value) (M:List (List α)) (Z:List (GZ α)):Prop where
 m:M=Z.map (·.xs)
 d:D=Z.map (·.v)
 n:M.length=n
 c:∀ z∈Z,Cells w L z.cs z.xs
theorem GG.mv (h:GG w (bl O1++L) n D M Z) (t:Tr w O1 w1 O2):GG w1 (bl O2++L) n D M Z:=⟨h.m,h.d,h.n,fun z hz=>(h.c z hz).mv t⟩
theorem GG.dn (h:GG w L n D M Z):n=D.length:=by rw [<- h.n,h.m,h.d,List.length_map,List.length_map]
theorem GG.lenv (h:GG w L n D M Z):Value.int .i64 (n:Int)=Value.int .i64 ((M.length:Nat):Int):=by rw [h.n]
theorem GG.short (s:St w0 w O) (h:GG w (bl O++L) n D M Z) (u:At O (.row base e2 sz v0 n D)):M.length<=281474976710656:=by
 obtain ⟨_,_,_,h2,_⟩:=s.rowForm u.upd
 rw [h.n]; omega
theorem GG.at_ (_:St w0 w O) (L:Lb Nat) {n:Nat} {D:Lb Vc} {M:Lb (Lb α)} {Z:Lb (GZ α)} (h:GG w (bl O++L) n D M Z):GG w (bl O++L) n D M Z:=h
theorem At.gJ {vz:Vc} (h:Z[i]? = some ⟨vz,xs,cs⟩):At (Proofs.YtkimkkgicmipbaaGreatDoor.gJ base e Z++T) (.row base e (Rep.size α) vz xs.length cs):=by
 unfold Proofs.YtkimkkgicmipbaaGreatDoor.gJ
 induction Z generalizing i with
 | nil=>simp at h
 | cons x Z ih=>
  cases i with
  | zero=>simp at h; subst h; exact .hd
  | succ i=>exact .tl (ih (by simpa using h))
theorem Upd.gJ {vz:Vc} (h:Z[i]? = some ⟨vz,xs,cs⟩):Upd (Proofs.YtkimkkgicmipbaaGreatDoor.gJ base e Z++T) (.row base e (Rep.size α) vz xs.length cs) (.row base e (Rep.size α) vz ys.length cs') (Proofs.YtkimkkgicmipbaaGreatDoor.gJ base e (Z.set i ⟨vz,ys,cs'⟩)++T):=by
 unfold Proofs.YtkimkkgicmipbaaGreatDoor.gJ
 induction Z generalizing i with
 | nil=>simp at h
 | cons x Z ih=>
  cases i with
  | zero=>simp at h; subst h; exact .hd
  | succ i=>exact .tl (ih (by simpa using h))
theorem GG.cells {vz:Vc} (h:GG w L n D M Z) (hz:Z[i]? = some ⟨vz,xs,cs⟩):Cells w L cs xs:=h.c _ (List.mem_of_getElem? hz)
theorem GG.set {vz:Vc} (h:GG w L n D M Z) (hz:Z[i]? = some ⟨vz,xs,cs⟩) (hc:Cells w L cs' ys):GG w L n D (M.set i ys) (Z.set i ⟨vz,ys,cs'⟩) where
 m:=by rw [h.m,List.map_set]
 d:=by
  have:(Z.map (·.v)).set i vz=Z.map (·.v):=by
   obtain ⟨hi,e⟩:=List.getElem?_eq_some_iff.1 hz
   have h2:(Z.map (·.v))[i]'(by rw [List.length_map]; exact hi)=vz:=by rw [List.getElem_map,e]
   rw [<- h2,List.set_getElem_self]
  rw [h.d,List.map_set,this]
 n:=by rw [List.length_set,h.n]
 c:=fun z hm=>by
  rcases List.mem_or_eq_of_mem_set hm with hm | rfl
  ·exact h.c z hm
  ·exact hc
theorem GG.put {v' : Vc} (h:GG w L n D M Z) (hc:Cells w L cs' ys):GG w L n (D.set i v') (M.set i ys) (Z.set i ⟨v', ys,cs'⟩) where
 m:=by rw [h.m,List.map_set]
 d:=by rw [h.d,List.map_set]
 n:=by rw [List.length_set,h.n]
 c:=fun z hm=>by
  rcases List.mem_or_eq_of_mem_set hm with hm | rfl
  ·exact h.c z hm
  ·exact hc
theorem St.g2Nth (s:St w0 w O) (h:GG w (bl O++L) n D M Z) (u:At O (.row base e2 (Rep.size (Lb α)) v0 n D)) (hx:M[i]? = some xs) :
  ∃ vz cz bk c,Z[i]? = some ⟨vz,xs,cz⟩/\v0=.slice (some ⟨bk,0,none⟩) n c/\i<n/\∀ j u,[vz][j]? = some u->w.cell? (((⟨bk,0,none⟩:Addr).add (i*1)).add j)=some u:=by
 obtain ⟨A,c,h1,_,_,_,h5,h6⟩:=s.rowForm u.upd
 have hn:i<n:=by rw [<- h.n]; exact (List.getElem?_eq_some_iff.1 hx).1
 obtain ⟨bk,rfl⟩:=h5 (by omega)
 obtain ⟨vz,cz,hz⟩:∃ vz cz,Z[i]? = some ⟨vz,xs,cz⟩:=by
  rw [h.m,List.getElem?_map] at hx
  cases e:Z[i]? with
  | none=>rw [e] at hx; cases hx
  | some z=>rw [e] at hx; cases hx; exact ⟨z.v,z.cs,rfl⟩
 refine ⟨vz,cz,bk,c,hz,h1,hn,fun j u hu=>?_⟩
 obtain rfl:j=0:=by
  rcases j with _ | j
  ·rfl
  ·simp at hu
 rw [cp]
 refine h6 _ I _ _ ?_
 have:D[i]? = some vz:=by rw [h.d,List.getElem?_map,hz]; rfl
 simpa [this] using hu
@[reducible] def g2Z (k:Int):Lb (GZ α):=List.replicate k.toNat ⟨.slice none 0 0,[],[]⟩
theorem St.nils2 (s:St w0 w O) (base e n:Nat):St w0 w (gJ base e (List.replicate n (⟨.slice none 0 0,[],[]⟩:GZ α))++O):=by
 induction n with
 | zero=>exact s
 | succ n ih=>exact ih.push (Agree.refl _ _) ⟨World.ownsRow_nil w _ e _,by simp [eA]⟩ (fun b e=>by cases e)
theorem qW (O:Lb Ob) (base e n:Nat):bl (gJ base e (List.replicate n (⟨.slice none 0 0,[],[]⟩:GZ α))++O)=bl O:=by
 induction n with
 | zero=>rfl
 | succ n ih=>exact ih
theorem g2Mk {k:Int} (h:mk k ([]:Lb α)=some M) (e:Nat) (L:Lb Nat) (s:St w0 w (.row base e2 (Rep.size (Lb α)) v0 M.length (List.replicate k.toNat [Value.slice none 0 0]).flatten::O)) :
  St w0 w (.row base e2 (Rep.size (Lb α)) v0 M.length (List.replicate k.toNat (.slice none 0 0))::(O++(gJ base e (g2Z (α:=α) k)++[])))/\Tr w (.row base e2 (Rep.size (Lb α)) v0 M.length (List.replicate k.toNat [Value.slice none 0 0]).flatten::O) w (.row base e2 (Rep.size (Lb α)) v0 M.length (List.replicate k.toNat (.slice none 0 0))::(O++(gJ base e (g2Z (α:=α) k)++[])))/\GG w L M.length (List.replicate k.toNat (.slice none 0 0)) M (g2Z (α:=α) k):=by
 have hD:(List.replicate k.toNat [Value.slice none 0 0]).flatten=List.replicate k.toNat (.slice none 0 0):=by simp
 obtain ⟨rfl,_,_⟩:=rW h
 rw [hD] at s ⊢
 have p:∀ X:Lb Ob,∀ o:Ob,(X++(o::O)).Perm (o::(O++(X++[]))):=fun X o=>by
  refine List.perm_append_comm.trans ?_
  rw [List.append_nil]; exact List.Perm.refl _
 have hb:=qW (α:=α) (.row base e2 (Rep.size (Lb α)) v0 (List.replicate k.toNat ([]:Lb α)).length (List.replicate k.toNat (.slice none 0 0))::O) base e k.toNat
 refine ⟨(s.nils2 (α:=α) base e k.toNat).perm (p _ _),⟨Agree.refl _ _,fun b hm=>.inl (by have:=(jc (p _ _)).2 hm; rwa [hb] at this)⟩,⟨by simp,by simp,rfl,fun z hz=>?_⟩⟩
 obtain ⟨_,rfl⟩:=List.mem_replicate.1 hz
 exact Cells.nil _ _
theorem gJ_perm (Z1 Z2:Lb (GZ α)) (z:GZ α):(gJ base e (Z1++z::Z2)).Perm (.row base e (Rep.size α) z.v z.xs.length z.cs::gJ base e (Z1++Z2)):=by
 unfold gJ
 exact (List.perm_middle (a:=z) (l₁:=Z1) (l₂:=Z2)).map _
theorem St.g2Put {v' : Vc} (hi:i<Z.length) (s:St w0 w (.row base e (Rep.size α) v' ys.length cs'::(pre++(gJ base e Z++T)))) :
  St w0 w (pre++(gJ base e (Z.set i ⟨v', ys,cs'⟩)++T))/\Tr w (.row base e (Rep.size α) v' ys.length cs'::(pre++(gJ base e Z++T))) w (pre++(gJ base e (Z.set i ⟨v', ys,cs'⟩)++T)):=by
 have e0:Z=Z.take i++Z[i]::Z.drop (i+1):=by rw [<- List.drop_eq_getElem_cons hi,List.take_append_drop]
 have e1:Z.set i ⟨v', ys,cs'⟩=Z.take i++⟨v', ys,cs'⟩::Z.drop (i+1):=by
  rw [List.set_eq_take_append_cons_drop,if_pos hi]
 have q1:∀ z:GZ α,(pre++(gJ base e (Z.take i++z::Z.drop (i+1))++T)).Perm (.row base e (Rep.size α) z.v z.xs.length z.cs::(pre++(gJ base e (Z.take i++Z.drop (i+1))++T))):=fun z=>
  (((gJ_perm _ _ z).append_right T).append_left pre).trans List.perm_middle
 rw [e1]
 have q2:=q1 Z[i]
 rw [<- e0] at q2
 have p1:=q2.cons (.row base e (Rep.size α) v' ys.length cs')
 have p2:=(q1 ⟨v', ys,cs'⟩).symm
 have d:Del (.row base e (Rep.size α) v' ys.length cs'::.row base e (Rep.size α) Z[i].v Z[i].xs.length Z[i].cs::(pre++(gJ base e (Z.take i++Z.drop (i+1))++T))) (.row base e (Rep.size α) v' ys.length cs'::(pre++(gJ base e (Z.take i++Z.drop (i+1))++T))):=.keep (.drop (Del.refl _))
 exact ⟨((s.perm p1).del d).perm p2,((Tr.perm p1).trans (Tr.del d)).trans (Tr.perm p2)⟩
theorem GG.lt (h:GG w L n D M Z) (hi:i<n):i<Z.length:=by rw [<- h.n,h.m,List.length_map] at hi; exact hi
end
section
variable {P:Program} {w w0:World} {O O' : Lb Ob} {σ:Lb (Nat×Vc)} {dd:Oa Nat} {ty t:TypeId} {ps:String} {af:Array Edge} {g:Oa (Nat×Bool)} {x y:Operand} {base e sz:Nat} {v:Vc}
theorem Acts.g2Put {α:Type} [Rep α] {i bk c n:Nat} {pa:Addr} {yv:Vc} {D:Lb Vc} {L:Lb Nat} {M:Lb (Lb α)} {Z:Lb (GZ α)} (h:GG w (bl O++L) n D M Z) (hi:i<n) (s:St w0 w O) (he:v=.slice (some ⟨bk,0,none⟩) n c) (u:Upd O (.row base e (Rep.size (Lb α)) v n D) (.row base e (Rep.size (Lb α)) v n (D.set i yv)) O')
  (hx:ev σ x=some (.pointer (some pa))) (hp:pa=(⟨bk,0,none⟩:Addr).add (i*1)) (hy:ev σ y=some yv) (hv:yv.cells=[yv].toArray) (h1:yv.oneCell'=true) (hs:dS P t 1=true) :
  Acts P ⟨dd,.store t x y,ty,ps,af,g⟩ σ w (Now w0 w O O'):=by
 subst he
 have hd:=h.dn
 refine Acts.storeRow (j:=i*1) (news:=[yv]) s u hx hp hy hv hs (by simp; omega) (by intro q hq; cases List.mem_singleton.1 hq; exact h1) ?_
 rw [Nat.mul_one,List.set_eq_take_append_cons_drop,if_pos (by omega)]
 simp
end
@[reducible] def vn (n:Nat):Vc:=.int .i64 (n:Int)
@[reducible] def rr (w:World) (e:TypeId) (α:Type) [Rep α] (v:Vc) (n:Nat) (cs:Lb Vc):Ob:=.row w.heap.size e (Rep.size α) v n cs
abbrev hl (L:Lb Nat) (w:World):Prop:=∀ b∈L,b<w.heap.size
@[reducible] def vW (x:Int):Vc:=.int .u64 x
@[reducible] def vU (x:Ua):Vc:=.int .u64 (x.toNat:Int)
@[reducible] def zL:Lb Vc:=[vW 0,vW 0,vW 0,vW 0,vW 0,vW 0,vW 0,vW 0,vW 0,vW 0,vW 0,vW 0,vW 0,vW 0,vW 0,vW 0]
@[reducible] def zM:Array Vc:=#[vW 0,vW 0,vW 0,vW 0,vW 0,vW 0,vW 0,vW 0,vW 0,vW 0,vW 0,vW 0,vW 0,vW 0,vW 0,vW 0]
@[reducible] def zP:Lb Vc:=[vW 0,vW 0,vW 0,vW 0,vW 0,vW 0,vW 0,vW 0]
@[reducible] def zQ:Array Vc:=#[vW 0,vW 0,vW 0,vW 0,vW 0,vW 0,vW 0,vW 0]
section
variable {P:Program} {Z:Machine->Prop} {b:Frame} {n:Nat} {ds:Lb Deferred} {cs:Lb Frame} {k:Lb Item} {σ:Lb (Nat×Vc)} {w:World} {T:Lb (Nat×Nat×Nat)} {ops:Array Oper} {m m' i t W:Nat}
theorem Rv {κ:KP} {f d:Nat} {op:Op} {ty:TypeId} {ps:String} {af:Array Edge} {v:Vc} (i:Nat) (hT:bU ops=T) (hi:ops[i]? = some ⟨some d,op,ty,ps,af,none⟩) (hp:ba ops=true) (hq:∀ w,FV P ⟨some d,op,ty,ps,af,none⟩ σ w v) (h:RD κ P Z b n ds cs ops t f (m|||1 <<< i) k ((d,v)::σ) w) (hB:iq T t m i (m|||1 <<< i)=true:=by kernel_rfl) (hfr:κ.free i=true:=by rfl) (hd:Nat.blt d n=true:=by rfl):RD κ P Z b n ds cs ops t (f+1) m k σ w:=RD.vw i _ hT hi hp hq hd h hB hfr
theorem Rx {κ:KP} {f d:Nat} {op:Op} {ty:TypeId} {ps:String} {af:Array Edge} {v:Vc} (i W:Nat) (hT:bU ops=T) (hi:ops[i]? = some ⟨some d,op,ty,ps,af,none⟩) (hp:ba ops=true) (hq:FV P ⟨some d,op,ty,ps,af,none⟩ σ w v) (h:RD κ P Z b n ds cs ops t f (m|||1 <<< i) k ((d,v)::σ) w) (hB:kX T t m W i (m|||1 <<< i)=true:=by kernel_rfl) (hfr:κ.free i=true:=by rfl) (hd:Nat.blt d n=true:=by rfl):RD κ P Z b n ds cs ops t (f+1) m k σ w:=RD.vx i _ W hT hi hp hq hd h hB hfr
theorem rk {rs:Lb Nat} (hT:bU ops=T) (h:iu T m rs=true:=by kernel_rfl):gu ops m rs=true:=fI hT h
theorem dk (hT:bU ops=T) (h:se T m=true:=by kernel_rfl):Region.ready .any ops (lst ops.size m)=[]:=rX hT h
theorem sk (hT:bU ops=T) (h:kS T m i m'=true:=by kernel_rfl):cK ops.size m i m'=true:=gT hT h
theorem tk (hT:bU ops=T) (h:kX T t m W i m'=true:=by kernel_rfl):iL ops t m W i m'=true:=jr hT h
theorem dt {id:Nat} {l:Lb Oper} (t:Nat) (T:Lb (Nat×Nat×Nat)) (h:bU l.toArray=T->ba l.toArray=true->RD kp0 P Z b n ds cs l.toArray t l.length 0 k σ w) (hT:bU l.toArray=T:=by kernel_rfl) (hm:P.follows .mixedOrders=true:=by kernel_rfl) (hp:ba l.toArray=true:=by kernel_rfl):MX P Z b n ds cs (.code (.region id l.toArray true)::k) σ w:=MX.drawT t T hT hm hp h
theorem du {id:Nat} {l:Lb Oper} (t:Nat) (h:bU l.toArray=bU l.toArray->ba l.toArray=true->RD kp0 P Z b n ds cs l.toArray t l.length 0 k σ w) (hm:P.follows .mixedOrders=true:=by kernel_rfl) (hp:ba l.toArray=true:=by kernel_rfl):MX P Z b n ds cs (.code (.region id l.toArray true)::k) σ w:=MX.drawT t (bU l.toArray) rfl hm hp h
theorem jA {α:Type} [Rep α] {w w0:World} {O:Lb Ob} {e:TypeId} {σ:Lb (Nat×Vc)} {ty:TypeId} {ps:String} {af:Array Edge} {t:TypeId} {g:Oa (Nat×Bool)} {bytes:Nat} {z:Vc} {zc:Lb Vc} {dd:Oa Tmp} {p:Nat×Operand} (x:α) (v:Vc) (h:St w0 w O) (hE:ElT P t e (Rep.size α) bytes z zc) (hv:evs σ [p.2] [v]) (hf:Instr.fill (fun i=>some (i*Rep.size α,Rep.size α)) (Array.map (fun x=>zc.toArray[x%zc.toArray.size]!) (Array.range (1*Rep.size α))) (List.zip (List.map Prod.fst [p]) [v])=some [v].toArray:=by kernel_rfl) (hb:(1*Rep.size α).ble 16777216=true:=by rfl) (hl:[v].length=1*Rep.size α:=by rfl):Does P ⟨dd,.buildSlice t 1 [p].toArray,ty,ps,af,g⟩ σ w (New w0 w O (fun b' =>.row w0.heap.size e (Rep.size α) (.slice (some { block:=b', off:=0 }) 1 1) [x].length [v]) fun b' =>.slice (some { block:=b', off:=0 }) 1 1):=Does.build (xs:=[x]) rfl h hE hb hv hf hl
theorem jB (α:Type) [Rep α] {w w0:World} {O:Lb Ob} {e:TypeId} {σ:Lb (Nat×Vc)} {ty:TypeId} {ps:String} {af:Array Edge} {t:TypeId} {g:Oa (Nat×Bool)} {bytes:Nat} {z:Vc} {zc:Lb Vc} {dd:Oa Tmp} (h:St w0 w O) (hE:ElT P t e (Rep.size α) bytes z zc) (hf:Instr.fill (fun i=>some (i*Rep.size α,Rep.size α)) (Array.map (fun x=>zc.toArray[x%zc.toArray.size]!) (Array.range (0*Rep.size α))) (List.zip (List.map Prod.fst ([]:Lb (Nat×Operand))) [])=some [].toArray:=by kernel_rfl) (hb:(0*Rep.size α).ble 16777216=true:=by rfl) (hl:([]:Lb Vc).length=0*Rep.size α:=by rfl):Does P ⟨dd,.buildSlice t 0 [].toArray,ty,ps,af,g⟩ σ w (New w0 w O (fun b' =>.row w0.heap.size e (Rep.size α) (.slice (some { block:=b', off:=0 }) 0 0) ([]:Lb α).length []) fun b' =>.slice (some { block:=b', off:=0 }) 0 0):=Does.build (xs:=[]) rfl h hE hb aB hf hl
theorem jC {α:Type} [Rep α] {w0 w:World} {O:Lb Ob} (x:α) (v:Vc) (h:St w0 w O) (L:Lb Nat) (hr:Rep.R w (bl O++L) [v] x):Cells w (bl O++L) [v] [x]:=Cells.at_ (cs:=[v]) h L (Cells.cons hr (Cells.nil _ _))
theorem jD (α:Type) [Rep α] {w0 w:World} {O:Lb Ob} (_h:St w0 w O) (L:Lb Nat):Cells w (bl O++L) [] ([]:Lb α):=Cells.nil _ _
theorem jE {l:Lb Oper} {f:FuncId} {c:Operand} {xs:Lb Operand} {vs:Lb Vc} {d:Nat} {ty:TypeId} {ps:String} {af:Array Edge} {ts:Array TypeId} {R:World->Vc->Prop} (hB:cr P f=true) (hc:ev σ c=some (.func (.func f) #[] #[])) (hx:evs σ xs vs) (h:∀ w', Agree [] w w'->Calls P f ([]++vs++[]).toArray w' (aj w' R)) (hd:d.blt n=true) (K:∀ (w1:World) (v:Vc),Agree [] w w1->R w1 v->RG P Z b n ds cs ops l k ((d,v)::σ) w1):RG P Z b n ds cs ops (⟨some d,.call ⟨.value c,xs.toArray,ts⟩,ty,ps,af,none⟩::l) k σ w:=RG.call' (fst:=[]) (cap:=[]) .plain hB hc hx h hd K
end
theorem geE.{u} {α:Type u} {l:Lb α} {i:Nat} (h:i<l.length):l[i]? = some l[i]:=List.getElem?_eq_getElem h
theorem leC.{u} {α:Type u} {a:α} {l:Lb α}:(a::l).length=l.length+1:=rfl
theorem leN.{u} {α:Type u}:([]:Lb α).length=0:=rfl
theorem qC {w0 w:World} {O O' : Lb Ob} (s:St w0 w O) (h:Arr2 O O'):St w0 w O' /\Tr w O w O' :=⟨s.arr2 h,.arr2 h⟩
theorem qH {O O' : Lb Ob} {o:Ob} (h:Arr2 O O'):Arr2 (o::O) (o::O'):=.one .hd h
theorem qI {O O' : Lb Ob} {x o:Ob} (h:Arr2 (x::O) O'):Arr2 (x::o::O) (o::O'):=.one .t1 h
theorem qJ {O O' : Lb Ob} {x y o:Ob} (h:Arr2 (x::y::O) O'):Arr2 (x::y::o::O) (o::O'):=.one .t2 h
theorem qK {O O' : Lb Ob} {x y z o:Ob} (h:Arr2 (x::y::z::O) O'):Arr2 (x::y::z::o::O) (o::O'):=.one .t3 h
abbrev U8:=Ua×Ua×Ua×Ua×Ua×Ua×Ua×Ua
abbrev U16:=Ua×Ua×Ua×Ua×Ua×Ua×Ua×Ua×Ua×Ua×Ua×Ua×Ua×Ua×Ua×Ua
theorem Tt {w1 w2 w3:World} {O1 O2 O3:Lb Ob} (h:Tr w1 O1 w2 O2) (k:Tr w2 O2 w3 O3):Tr w1 O1 w3 O3:=h.trans k
theorem bi {α β:Type} {x:Oa α} {f:α->Oa β} {r:β} (h:x.bind f=some r):∃ y,x=some y/\f y=some r:=lC h
abbrev Aa:=@RG.nil
abbrev Ab:=@RG.mo
abbrev Ac:=@RG.va
abbrev Ae:=@MX.sr
abbrev Af:=@RG.so
abbrev Ag:=@RD.vw
abbrev Ah:=@FV.move
abbrev Ai:=@MX.seq
abbrev Aj:=@RG.no
abbrev Ak:=@MX.region
abbrev Al:=@FV.extract
abbrev Am:=@MX.skip
abbrev Ao:=@MX.inBlock
abbrev Ap:=@MX.ret
abbrev Aq:=@MX.block
abbrev Ar:=@Cells.mv
abbrev Au:=@RG.ga
abbrev Av:=@RG.new
abbrev Aw:=@RT.leave
abbrev Ax:=@Rep.keep0
abbrev Ay:=@FV.l1
abbrev Az:=@Acts.storeAll
abbrev AA:=@RD.vx
abbrev AB:=@Rep.mv
abbrev AC:=@FV.indexArr
abbrev AD:=@Cells.at_
abbrev AE:=@Cells.cons
abbrev AF:=@Does.al
abbrev AG:=@RG.l1
abbrev AH:=@Rep.mv0
abbrev AI:=@St.start
abbrev AJ:=@MX.start
abbrev AK:=@Cells.nil
abbrev AL:=@DoesL.app
abbrev AM:=@Does.box
abbrev AN:=@MX.drawT
abbrev AO:=@MX.ifd
abbrev AP:=@FV.lN
abbrev AQ:=@RD.done
abbrev AR:=@St.arr2Of
abbrev AS:=@Does.build
abbrev AT:=@MX.exit
abbrev AU:=@FV.ia
abbrev AV:=@RT.t1
abbrev AW:=@FV.addN
abbrev AX:=@St.arrB
abbrev AY:=@Rep.lenle
abbrev AZ:=@RO.doesL
abbrev Ba:=@MX.cond_t
abbrev Bb:=@RD.one
abbrev Bc:=@RD.each
abbrev Bd:=@St.nthOwn
abbrev Be:=@Tr.arr2
abbrev Bf:=@FV.len
abbrev Bg:=@RO.val
abbrev Bh:=@RG.fa
abbrev Bi:=@FV.assign
abbrev Bj:=@FV.buildV
abbrev Bk:=@RG.call'
abbrev Bl:=@RG.sa
abbrev Bm:=@RG.pt
abbrev Bn:=@MX.cond_f
abbrev Bo:=@RG.pf
abbrev Bp:=@FV.lssN
abbrev Bq:=@Rep.nth
abbrev Br:=@FV.andU
abbrev Bs:=@Rep.o1
abbrev Bu:=@FV.addc
abbrev Bv:=@FV.fa
abbrev Bw:=@FV.nilCheck
abbrev Bx:=@Src.row
abbrev By:=@Tr.refl
abbrev Bz:=@RG.cq
abbrev BA:=@St.freeze
abbrev BB:=@RG.enterP
abbrev BC:=@RD.nw
abbrev BD:=@RG.ifd
abbrev BE:=@Acts.set
abbrev BF:=@St.nth
abbrev BG:=@FV.lookup2
abbrev BH:=@RO.new
abbrev BI:=@Acts.store
abbrev BJ:=@FV.pick_t
abbrev BK:=@FV.loadN
abbrev BL:=@St.delS
abbrev BM:=@St.delT
abbrev BN:=@Rep.at_
abbrev BO:=@Src.rep
abbrev BP:=@Rep.nilAt
abbrev BQ:=@RD.cl
abbrev BR:=@FV.lss
abbrev BS:=@FV.pick_f
abbrev BT:=@FV.eql
abbrev BU:=@RG.un
abbrev BV:=@FV.not
abbrev BW:=@St.nilRowT
end Go.Proofs.YtkimkkgicmipbaaGreatDoor
