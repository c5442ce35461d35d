/- From a law's walk to its row: the arguments, opened whatever their types; behind the call they read as they did. No program in sight. -/
import Derived.Test.YtkimkkgicmipbaaGreatDoorVBase
import Derived.WideKeyArgs
import Derived.ChangeArms
import Derived.OpenShut
import Derived.ChangeSame
import Derived.OpenVars
import Derived.Lib.LaidTab
import Derived.Deep.DeepHandedRow
namespace Go.Proofs.YtkimkkgicmipbaaGreatDoor
open Go Go.RowKit Go.WideElems Go.ChangeShapes Go.WideShapes
def Opens (P:Program) (t:TypeId) (α:Type) [Rep α]:Prop:=
 ∀ {H:Type} {enc:TypeId×Value->H} {w:World} {n:Nat} {cs:List Value} {x:DataW H×List MemPlace},
  DataW.trod enc P w 0 (fun _=>true) true n t cs=some x->(∀ m∈x.1.weights P t,m<=reachBytes)->∃ d:α,Rep.R w [] cs d
theorem wf_le {k:IntKind} {n:Int} (h:(Lit.int k n).wf=true):k.min<=n/\n<=k.max:=by simpa [Lit.wf] using h
theorem Opens.u16 {P:Program} {t:TypeId} (ht:P.underlying t=some (.int .u16)):Opens P t UInt16:=fun h _=>by
 obtain ⟨n,rfl,_,hw⟩:=DataW.trod_int ht h
 have h2:0<=n/\n<=65535:=wf_le hw
 refine ⟨UInt16.ofNat n.toNat,?_⟩
 show _=[Value.int .u16 ((UInt16.ofNat n.toNat).toNat:Int)]
 rw [UInt16.toNat_ofNat_of_lt' (by show _<65536; omega),Int.toNat_of_nonneg h2.1]
theorem Opens.u8 {P:Program} {t:TypeId} (ht:P.underlying t=some (.int .u8)):Opens P t UInt8:=fun h _=>by
 obtain ⟨n,rfl,_,hw⟩:=DataW.trod_int ht h
 have h2:0<=n/\n<=255:=wf_le hw
 refine ⟨UInt8.ofNat n.toNat,?_⟩
 show _=[Value.int .u8 ((UInt8.ofNat n.toNat).toNat:Int)]
 rw [UInt8.toNat_ofNat_of_lt' (by show _<256; omega),Int.toNat_of_nonneg h2.1]
theorem sJ {α:Type} {Q:Nat->α->Prop}:∀ n:Nat,(∀ i,i<n->∃ d,Q i d)->∃ l:List α,l.length=n/\∀ i (h:i<l.length),Q i l[i]
 | 0,_=>⟨[],rfl,fun i h=>absurd h (Nat.not_lt_zero i)⟩
 | n+1,H=>by
  obtain ⟨l,hl,hQ⟩:=sJ n fun i hi=>H i (by omega)
  obtain ⟨d,hd⟩:=H n (by omega)
  refine ⟨l++[d],by simp [hl],fun i h=>?_⟩
  by_cases hi:i<l.length
  ·rw [List.getElem_append_left hi]; exact hQ i hi
  ·have:i=n:=by simp at h; omega
   subst this
   rw [List.getElem_append_right (by omega)]
   simpa using hd
theorem eE {H:Type} {P:Program} {e:TypeId} {m:Nat} {d:DataW H}:∀ {l:List (DataW H)},d∈l->m∈d.weights P e->m∈DataW.weightsAll P e l
 | x::l,hd,hm=>by
  unfold DataW.weightsAll
  rcases List.mem_cons.1 hd with rfl | h
  ·exact List.mem_append.2 (.inl hm)
  ·exact List.mem_append.2 (.inr (eE h hm))
theorem Opens.slice {α:Type} [Rep α] {P:Program} {t e:TypeId} (ht:P.underlying t=some (.slice e)) (hc:P.cellsOf e=Rep.size α) (hb:Nat.blt 0 (P.bytesOf e)=true) (he:Opens P e α):Opens P t (List α):=fun {H enc w n cs x} h hw=>by
 have hb:1<=P.bytesOf e:=by simpa [Nat.blt] using hb
 rcases DataW.trod_slice ht h with ⟨rfl,_⟩ | ⟨a,len,cap,elems,rest,m,_,rfl,rfl,_,hl,hm,hlen,hel,hsp,_⟩
 ·exact ⟨[],Rep.nilSlice _ _⟩
 have hw:∀ k∈(elems.map (·.1)).length.add (rest.map (·.1)).length*P.bytesOf e::(DataW.weightsAll P e (elems.map (·.1))++DataW.weightsAll P e (rest.map (·.1))),k<=reachBytes:=by
  intro k hk
  apply hw
  unfold DataW.weights
  rw [ht]
  exact hk
 obtain ⟨l,hl1,hl2⟩:=sJ (α:=α) (Q:=fun i d=>∃ cs,Rep.R w [] cs d/\∀ j u,cs[j]? = some u->w.cell? (a.add (i*Rep.size α+j))=some u) len (by
  intro i hi
  have h1:=hel i hi
  have hy:i<elems.length:=by omega
  rw [List.getElem?_eq_getElem hy] at h1
  obtain ⟨cs,hcs,htr⟩:=Option.bind_eq_some_iff.1 h1
  obtain ⟨d,hd⟩:=he htr (fun k hk=>hw k (List.mem_cons.2 (.inr (List.mem_append.2 (.inl (eE (List.mem_map.2 ⟨_,List.getElem_mem hy,I⟩) hk))))))
  obtain ⟨_,hcl,hcc⟩:=World.cells?_some hcs
  refine ⟨d,cs,hd,fun j u hu=>?_⟩
  have hj:j<P.cellsOf e:=by rw [<- hcl]; exact (List.getElem?_eq_some_iff.1 hu).1
  have:=hcc j hj
  rw [hu,cp,hc] at this
  exact this)
 have h0:=hw _ (List.mem_cons_self ..)
 have hb2:len<=reachBytes:=by
  refine Nat.le_trans ?_ h0
  have:len<=(elems.map (·.1)).length.add (rest.map (·.1)).length:=by
   show _<=(elems.map (·.1)).length+(rest.map (·.1)).length
   simp; omega
  exact Nat.le_trans this (Nat.le_mul_of_pos_right _ hb)
 refine ⟨l,some a,cap,by rw [hl1],by omega,by unfold maxLen at hm; omega,by unfold jw; unfold reachBytes at hb2; omega,fun i hi=>⟨a,rfl,by simp,?_⟩⟩
 obtain ⟨cs,h1,h2⟩:=hl2 i hi
 exact ⟨cs,h1,h2⟩
def Seg {H:Type} (enc:TypeId×Value->H) (P:Program) (w:World) (n:Nat):List TypeId->List Value->List (DataW H×List MemPlace)->Prop
 | [],cs,xs=>cs=[]/\xs=[]
 | t::ts,cs,xs=>∃ x ys,xs=x::ys/\DataW.trod enc P w 0 (fun _=>true) true n t (cs.take (P.cellsOf t))=some x/\Seg enc P w n ts (cs.drop (P.cellsOf t)) ys
def OpensAll (P:Program) (ts:List TypeId) (α:Type) [Rep α]:Prop:=
 ∀ {H:Type} {enc:TypeId×Value->H} {w:World} {n:Nat} {cs:List Value} {xs:List (DataW H×List MemPlace)},
  Seg enc P w n ts cs xs->(∀ m∈DataW.weightsEach P ts (xs.map (·.1)),m<=reachBytes)->∃ d:α,Rep.R w [] cs d
theorem OpensAll.one {α:Type} [Rep α] {P:Program} {t:TypeId} (h:Opens P t α):OpensAll P [t] α:=fun {H enc w n cs xs} hs hw=>by
 obtain ⟨x,ys,rfl,h1,h2,rfl⟩:=hs
 have:=h h1 (fun m hm=>hw m (by simp [DataW.weightsEach,hm]))
 rwa [show cs.take (P.cellsOf t)=cs by rw [List.take_of_length_le]; simpa using h2] at this
theorem OpensAll.cons {α β:Type} [Rep α] [Rep β] {P:Program} {t t2:TypeId} {ts:List TypeId} (h:Opens P t α) (h2:OpensAll P (t2::ts) β):OpensAll P (t::t2::ts) (α×β):=fun {H enc w n cs xs} hs hw=>by
 obtain ⟨x,ys,rfl,k1,k2⟩:=hs
 obtain ⟨d1,r1⟩:=h k1 (fun m hm=>hw m (by simp only [List.map_cons,DataW.weightsEach]; exact List.mem_append.2 (.inl hm)))
 obtain ⟨d2,r2⟩:=h2 k2 (fun m hm=>hw m (by rw [List.map_cons,DataW.weightsEach]; exact List.mem_append.2 (.inr hm)))
 exact ⟨(d1,d2),_,_,(List.take_append_drop _ _).symm,r1,r2⟩
def pu (P:Program):Nat->List Field->Bool
 | _,[]=>true
 | k,f::fs=>f.offset==k&&pu P (k+P.cellsOf f.type) fs
def sumB (P:Program) (ts:List TypeId):Nat:=(ts.map P.cellsOf).sum
theorem sf {H:Type} {enc:TypeId×Value->H} {P:Program} {w:World} {n:Nat}:∀ (fs:List Field) (k:Nat) (cs0 cs:List Value) (xs:List (DataW H×List MemPlace)),pu P k fs=true->cs=cs0.drop k->cs.length=sumB P (fs.map (·.type))->xs.length=fs.length ->
  (∀ (i:Nat) (f:Field),fs[i]? = some f->DataW.trod enc P w 0 (fun _=>true) true n f.type ((cs0.drop f.offset).take (P.cellsOf f.type))=xs[i]?)->Seg enc P w n (fs.map (·.type)) cs xs
 | [],k,cs0,cs,xs,_,_,hl,hx,_=>by
  exact ⟨List.length_eq_zero_iff.1 (by simpa [sumB] using hl),List.length_eq_zero_iff.1 (by simpa using hx)⟩
 | f::fs,k,cs0,cs,x::xs,hb,hc,hl,hx,h=>by
  simp only [pu,Bool.and_eq_true,beq_iff_eq] at hb
  refine ⟨x,xs,I,?_,?_⟩
  ·have:=h 0 f I
   rw [hb.1,<- hc] at this
   simpa using this
  ·refine sf fs (k+P.cellsOf f.type) cs0 _ xs hb.2 (by rw [hc,List.drop_drop]) ?_ (by simpa using hx) (fun i g hg=>by have:=h (i+1) g (by simpa using hg); simpa using this)
   rw [List.length_drop,hl]
   simp [sumB]
 | f::fs,k,cs0,cs,[],_,_,_,hx,_=>by simp at hx
theorem Opens.struct {α:Type} [Rep α] {P:Program} {t:TypeId} {fs:Array Field} {ts:List TypeId} (ht:P.underlying t=some (.struct fs)) (hb:pu P 0 fs.toList=true) (hts:fs.toList.map (·.type)=ts) (hs:Nat.beq (sumB P ts) (P.cellsOf t)=true) (h:OpensAll P ts α):Opens P t α:=fun {H enc w n cs x} hd hw=>by
 have hs:=Nat.eq_of_beq_eq_true hs
 obtain ⟨xs,m,rfl,rfl,hl,hx,hf⟩:=DataW.trod_struct ht hd
 have hw:∀ k∈DataW.weightsEach P (fs.toList.map (·.type)) (xs.map (·.1)),k<=reachBytes:=by
  intro k hk
  apply hw
  unfold DataW.weights
  rw [ht]
  exact hk
 subst hts
 exact h (sf fs.toList 0 cs cs xs hb rfl (by rw [hl,hs]) (by rw [hx]; simp) (fun i f hi=>hf i f (by simpa using hi))) hw
theorem oY {H:Type} {enc:TypeId×Value->H} {P:Program} {w:World} {n:Nat} {e:TypeId}:∀ (k q:Nat) (cs0 cs:List Value) (xs:List (DataW H×List MemPlace)),cs=cs0.drop (q*P.cellsOf e)->cs.length=k*P.cellsOf e->xs.length=k ->
  (∀ (i:Nat),i<k->DataW.trod enc P w 0 (fun _=>true) true n e ((cs0.drop ((q+i)*P.cellsOf e)).take (P.cellsOf e))=xs[i]?)->Seg enc P w n (List.replicate k e) cs xs
 | 0,q,cs0,cs,xs,_,hl,hx,_=>⟨List.length_eq_zero_iff.1 (by simpa using hl),List.length_eq_zero_iff.1 hx⟩
 | k+1,q,cs0,cs,x::xs,hc,hl,hx,h=>by
  refine ⟨x,xs,I,?_,?_⟩
  ·have:=h 0 (by omega)
   rw [Nat.add_zero,<- hc] at this
   simpa using this
  ·refine oY k (q+1) cs0 _ xs (by rw [hc,List.drop_drop,Nat.add_mul,Nat.one_mul]) ?_ (by simpa using hx) (fun i hi=>by
    have:=h (i+1) (by omega)
    rw [show q+(i+1)=q+1+i by omega] at this
    simpa using this)
   rw [List.length_drop,hl,Nat.add_mul,Nat.one_mul]; omega
 | k+1,q,cs0,cs,[],_,_,hx,_=>by simp at hx
theorem na {H:Type} {P:Program} {e:TypeId}:∀ (l:List (DataW H)),DataW.weightsEach P (List.replicate l.length e) l=DataW.weightsAll P e l
 | []=>rfl
 | d::l=>by
  show DataW.weightsEach P (e::List.replicate l.length e) (d::l)=_
  unfold DataW.weightsEach DataW.weightsAll
  rw [na l]
theorem Opens.array {α:Type} [Rep α] {P:Program} {t e:TypeId} {k:Nat} (ht:P.underlying t=some (.array k e)) (hs:Nat.beq (k*P.cellsOf e) (P.cellsOf t)=true) (h:OpensAll P (List.replicate k e) α):Opens P t α:=fun {H enc w n cs x} hd hw=>by
 have hs:=Nat.eq_of_beq_eq_true hs
 obtain ⟨xs,m,rfl,rfl,hl,hx,hf⟩:=DataW.trod_array ht hd
 have hw:∀ k∈DataW.weightsAll P e (xs.map (·.1)),k<=reachBytes:=by
  intro k hk
  apply hw
  unfold DataW.weights
  rw [ht]
  exact hk
 rw [<- na,List.length_map,hx] at hw
 exact h (oY k 0 cs cs xs (by simp) (by rw [hl,hs]) hx (fun i hi=>by rw [Nat.zero_add]; exact hf i hi)) hw
theorem Opens.via {α β:Type} [Rep β] {P:Program} {t:TypeId} (f:α->β) (g:β->α) (hg:∀ b,f (g b)=b) (h:Opens P t β):@Opens P t α (Rep.via f):=fun {H enc w n cs x} hd hw=>by
 obtain ⟨d,hd⟩:=h hd hw
 exact ⟨g d,show Rep.R w [] cs (f (g d)) by rw [hg]; exact hd⟩
/-! ### One argument -/
def aggT (P:Program) (t:TypeId):Bool:=match P.underlying t with
 | some (.struct _) | some (.array _ _)=>true
 | _=>false
theorem pW {P:Program} {w:World} {r:Reach} {b:Nat} {t:TypeId} {v:Value} (ht:aggT P t=true) (h:Value.okWide P w r b t v):v=.agg v.cells:=by
 unfold aggT at ht
 unfold Value.okWide at h
 revert ht h
 cases P.underlying t with
 | none=>simp
 | some T=>cases T<;>simp<;>(rintro cs rfl _ _; rfl)
theorem arg_agg {H:Type} {enc:TypeId×Value->H} {α:Type} [Rep α] {P:Program} {w w' : World} {r:Reach} {b:Nat} {ps:Array TypeId} {args:Array Value} (j:Nat) {t:TypeId} {v:Value} {d:DataW H} {ms:List MemPlace} (ho:Opens P t α) (ht:aggT P t=true)
  (h:∀ (j:Nat) t v,ps[j]? = some t->args[j]? = some v->Value.okWide P w' r b t v) (h1:ps[j]? = some t) (h2:args[j]? = some v) (hd:DataW.Trod enc P w 0 (fun _=>true) true t v d ms) (hw:∀ m∈d.weights P t,m<=reachBytes):∃ (x:α) (cs:List Value),v=.agg cs.toArray/\Rep.R w [] cs x:=by
 obtain ⟨n,hn⟩:=hd
 obtain ⟨x,hx⟩:=ho hn hw
 exact ⟨x,_,by rw [Array.toArray_toList]; exact pW ht (h j t v h1 h2),hx⟩
theorem lS {H:Type} {P:Program} {t:TypeId} {ts:List TypeId} {d:DataW H} {ds:List (DataW H)} (h:∀ m∈DataW.weightsEach P (t::ts) (d::ds),m<=reachBytes):(∀ m∈d.weights P t,m<=reachBytes)/\∀ m∈DataW.weightsEach P ts ds,m<=reachBytes:=by
 unfold DataW.weightsEach at h
 exact ⟨fun m hm=>h m (List.mem_append.2 (.inl hm)),fun m hm=>h m (List.mem_append.2 (.inr hm))⟩
/-! ### Behind the call -/
theorem fZ {H:Type} {enc:TypeId×Value->H} {P:Program} (hl:laidOutB P=true) {W W' : World} {sp:Nat->Bool}:∀ {ts:List TypeId} {vs:List Value} {ds:List (DataW H)} {ps:List MemPlace},(ts.all fun t=>P.readableRec t&&decide (t<P.types.size))=true ->
  DataW.TrodAll enc P W 0 (fun _=>true) true ts vs ds ps->(∀ p∈ps,W.sameAt W' p)->(∀ p∈ps,sp p.block=true)->DataW.TrodAll enc P W' 0 sp true ts vs ds ps
 | [],[],[],_,_,h,_,_=>h
 | [],_::_,_,_,_,h,_,_=>h.elim
 | [],[],_::_,_,_,h,_,_=>h.elim
 | _::_,[],_,_,_,h,_,_=>h.elim
 | _::_,_::_,[],_,_,h,_,_=>h.elim
 | t::ts,v::vs,d::ds,_,ht,h,hsame,hsp=>by
  obtain ⟨p,q,h1,h2,rfl⟩:=h
  simp only [List.all_cons,Bool.and_eq_true,decide_eq_true_eq] at ht
  exact ⟨p,q,Trod_stays hl ht.1.1 ht.1.2 h1 (fun x hx=>hsame x (by simp [hx])) (fun x hx=>hsp x (by simp [hx])),
   fZ hl (by simpa using ht.2) h2 (fun x hx=>hsame x (by simp [hx])) (fun x hx=>hsp x (by simp [hx])),rfl⟩
theorem nH {H:Type} {enc:TypeId×Value->H} {P:Program} {f:Func} {s:ChangeSpec} {apart fresh handsOn again:Bool} {W W' : World} {args:Array Value} {ds gs:List (DataW H)} {before:List MemPlace} {tb:TypeId}
  (hW:DataW.Whole enc P f.params.toList s.vars apart W args.toList ds gs before) (hv:s.vars=[]) (hl:laidOutB P=true) (ht:(f.params.toList.all fun t=>P.readableRec t&&decide (t<P.types.size))=true)
  (hr:f.resultTypes=#[tb]) (hb:P.underlying tb=some .bool) (hs:∀ gs,gs=[]->s.fn H (ds++gs)={ results:=[.lit (.bool true)],args:=ds }) (hA:Agree [] W W') :
  s.post enc P f apart fresh handsOn again W args (.bool true) W' :=by
 have hB:=hA.below
 have hW' :=hW
 have hlt:∀ p∈before,p.block<W.heap.size:=hW.lt
 obtain ⟨p,q,h1,h2,rfl,h4,h5⟩:=hW'
 rw [hv] at h2
 match gs,h2 with
 | [],h2=>
 obtain rfl:q=[]:=h2
 have hs:=hs [] I
 rw [List.append_nil] at hW h4 h5 hlt
 have e:(Value.bool true).resultList f.resultTypes.size=[.bool true]:=by rw [hr]; rfl
 have hres:∀ (b:Nat) (sp:Nat->Bool) (hd:Bool),DataW.TrodAll enc P W' b sp hd f.resultTypes.toList ((Value.bool true).resultList f.resultTypes.size) (s.fn H (ds++[])).results []:=fun b sp hd=>by
  rw [e,hr,hs]
  exact ⟨[],[],shut_bool hb true,I,I⟩
 have harg:∀ sp:Nat->Bool,(∀ x∈p,sp x.block=true)->DataW.TrodAll enc P W' 0 sp true f.params.toList args.toList (s.fn H (ds++[])).args p:=fun sp hsp=>by
  rw [hs]
  exact fZ hl ht h1 (fun x hx=>hB.same (hlt x hx)) hsp
 have hok:∀ (j:Nat) (t:TypeId) (r:Value),f.resultTypes[j]? = some t->((Value.bool true).resultList f.resultTypes.size)[j]? = some r->Value.okWide P W' .any 0 t r:=by
  intro j t r hj hr'
  rw [e] at hr'
  rw [hr] at hj
  cases j with
  | zero=>cases hj; cases hr'; exact okWide_bool_mk hb true
  | succ j=>simp at hj
 have hvars:∀ sp,DataW.TrodVars enc P W' sp s.vars (s.fn H (ds++[])).vars []:=fun sp=>by rw [hv,hs]; rfl
 refine ⟨ds,[],p,[],p,[],hW,hres _ _ _,harg _ (fun x hx=>by simpa using hlt x hx),hvars _,hB.frame _,fun _=>?_⟩
 refine ⟨hok,_,_,([]++p)++[],⟨[]++p,[],trodAll_append (harg _ (fun _ _=>rfl)) (hres _ _ _),hvars _,I,?_,?_⟩,?_⟩
 ·intro b off hp
  have hp:MemPlace.cell b off∈p:=by simpa using hp
  rw [hB.frozen (p:=⟨b,off,none⟩) (hlt _ hp)]
  exact h4 b off hp
 ·intro ha
  simpa using h5 ha
 ·intro x hx _
  simpa using hx
end Go.Proofs.YtkimkkgicmipbaaGreatDoor
