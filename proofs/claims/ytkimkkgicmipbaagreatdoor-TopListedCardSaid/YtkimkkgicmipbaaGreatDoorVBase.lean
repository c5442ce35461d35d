/- Words of our own: worlds that agree, values that represent data, the call's own objects, and small partial functions. No program in sight. -/
import Derived.Tactics
import Derived.Tactics2
import Derived.WalkKit
import Derived.BigQuiet
import Derived.Deep.AppendLies
import Derived.Maps.AppendAt
import Derived.KernelRfl
import Derived.RangeFuncBox
import Derived.WideShapes
namespace Go.Proofs.YtkimkkgicmipbaaGreatDoor
open Go Go.RowKit
abbrev Ua := UInt64
abbrev Vc := Go.Value
abbrev Oa := Option
abbrev Lb := List
structure Agree (L:List Nat) (w w' : World):Prop where
 os:w'.os=w.os
 tape:w'.tape=w.tape
 output:w'.output=w.output
 size:w.heap.size<=w'.heap.size
 block:∀ b,b<w.heap.size->b∉L->w'.heap[b]? = w.heap[b]?
 drawn:w.drawn<=w'.drawn
theorem Agree.refl (L:Lb Nat) (w:World):Agree L w w:=⟨rfl,rfl,rfl,Nat.le_refl _,fun _ _ _=>rfl,Nat.le_refl _⟩
theorem Agree.trans {L:Lb Nat} {a b c:World} (h:Agree L a b) (k:Agree L b c):Agree L a c:=
 ⟨k.os.trans h.os,k.tape.trans h.tape,k.output.trans h.output,Nat.le_trans h.size k.size,fun i hi hn=>(k.block i (Nat.lt_of_lt_of_le hi h.size) hn).trans (h.block i hi hn),Nat.le_trans h.drawn k.drawn⟩
theorem Agree.below {w w' : World} (h:Agree [] w w'):Below w.heap.size w w' :=
 ⟨h.os,h.tape,h.output,h.size,fun b hb=>h.block b hb (by simp)⟩
theorem Agree.mono {L L' : Lb Nat} {w w' : World} (h:Agree L w w') (hL:∀ b∈L,b∈L'∨w.heap.size<=b):Agree L' w w' :=
 ⟨h.os,h.tape,h.output,h.size,fun b hb hn=>h.block b hb (fun hm=>(hL b hm).elim hn (fun h1=>by omega)),h.drawn⟩
theorem Agree.widen {L:Lb Nat} {w w' : World} (h:Agree [] w w'):Agree L w w' :=h.mono (by simp)
theorem Agree.drew (w:World) (L:Lb Nat) (n:Nat) (h:w.drawn<=n:=by simp):Agree L w { w with drawn:=n }:=⟨rfl,rfl,rfl,Nat.le_refl _,fun _ _ _=>rfl,h⟩
theorem Agree.alloc {L:Lb Nat} {w w' : World} (h:Agree L w w') (o:Obj):Agree L w (w'.alloc o):=
 h.trans ⟨rfl,rfl,rfl,by simp,fun b hb _=>Below.heap_alloc _ _ _ hb,Nat.le_refl _⟩
theorem Agree.grown {L:Lb Nat} {w w' w'' : World} {row:Oa Nat} (h:Agree L w w') (hg:w'.grownBy w'' row) (hr:∀ k,row=some k->k∈L∨w.heap.size<=k) (hd:w'.drawn<=w''.drawn):Agree L w w'' :=
 ⟨hg.os.trans h.os,hg.tape.trans h.tape,hg.output.trans h.output,Nat.le_trans h.size hg.size,fun b hb hn=>(hg.block b (Nat.lt_of_lt_of_le hb h.size) (fun e=>(hr b e.symm).elim hn (fun h1=>by omega))).trans (h.block b hb hn),Nat.le_trans h.drawn hd⟩
theorem Agree.cell {L:Lb Nat} {w w' : World} (h:Agree L w w') {p:Addr} {v:Vc} (hp:p.block∉L) (hc:w.cell? p=some v):w'.cell? p=some v:=
 (World.cell?_of_block (w:=w) (h.block p.block (World.block_lt_of_cell? w p hc) hp)).trans hc
theorem Agree.cell0 {w w' : World} (h:Agree [] w w') {p:Addr} {v:Vc} (hc:w.cell? p=some v):w'.cell? p=some v:=h.cell (by simp) hc
theorem oE {w:World} {b:Nat} {o:Obj} (h:w.heap[b]? = some o):b<w.heap.size:=(Array.getElem?_eq_some_iff.1 h).1
theorem mx {L:Lb Nat} {w w' : World} (h:Agree L w w') {b:Nat} {o:Obj} (hL:b∉L) (hb:w.heap[b]? = some o):w'.heap[b]? = some o:=(h.block b (oE hb) hL).trans hb
theorem aJ {w w' : World} (h:Agree [] w w') {b:Nat} {o:Obj} (hb:w.heap[b]? = some o):w'.heap[b]? = some o:=mx h (by simp) hb
theorem bj (w:World) (o:Obj) (L:Lb Nat):Agree L w (w.alloc o):=(Agree.refl L w).alloc o
theorem mV {w w' : World} (h:Agree [] w w') {cs:Lb Vc} {p:Addr} (hm:∀ j u,cs[j]? = some u->w.cell? (p.add j)=some u):∀ j u,cs[j]? = some u->w'.cell? (p.add j)=some u:=fun j u hu=>h.cell0 (hm j u hu)
/-! ### Draws go on -/
theorem iH {α:Type}:∀ (q:Ask α) (w:World),w.drawn<=(w.ask q).2.drawn
 | .done _,_=>Nat.le_refl _
 | .ask what range k,w=>by
  unfold World.ask
  simp only
  split
  ·exact iH _ w
  ·exact Nat.le_trans (Nat.le_succ _) (iH _ { w with drawn:=w.drawn+1 })
theorem qm (w:World) (c:Sys):w.drawn<=(w.sys c).2.drawn:=by
 have h:=iH (Kernel.perform c w.os) w
 unfold World.sys
 split
 ·exact Nat.le_refl _
 ·rename_i e
  rw [e] at h
  exact h
theorem nD {P:Program} {w w1:World} {a:Addr} {v:Vc} {m:Bool} {l:Lb Addr} (h:w.farStore P a v m=.ok (w1,l)):w1.drawn=w.drawn:=by
 unfold World.farStore at h
 split at h
 ·split at h
  ·rename_i r hr
   cases h
   unfold World.viewStore at hr
   simp only [bind,Except.bind,pure,Except.pure] at hr
   repeat' split at hr
   all_goals first | cases hr | skip
   all_goals rfl
  ·cases h
 ·cases h
theorem qt {P:Program} {α:Type}:∀ (s:Sem α) (w w' : World) (a:α),s.run P w=.ok a w'->w.drawn<=w'.drawn:=by
 intro s
 induction s with
 | pure a=>intro w w' b h; cases h; exact Nat.le_refl _
 | load m a k ih=>
  intro w w' b h
  unfold Sem.run at h
  split at h
  ·exact ih _ _ _ _ h
  ·split at h
   ·exact ih _ _ _ _ h
   ·cases h
 | store m a v k ih=>
  intro w w' b h
  cases v
  all_goals simp only [Sem.run,reduceCtorEq] at h
  all_goals split at h
  all_goals split at h
  all_goals first | (cases h; done) | (have h3:=ih _ _ _ h; exact h3) | skip
  all_goals rename_i e
  all_goals have h3:=ih _ _ _ h
  all_goals rw [nD e] at h3
  all_goals exact h3
 | new o k ih=>intro w w' b h; unfold Sem.run at h; have:=ih _ _ _ _ h; exact this
 | shape r k ih=>intro w w' b h; unfold Sem.run at h; exact ih _ _ _ _ h
 | freeze a n k ih=>intro w w' b h; unfold Sem.run at h; have:=ih _ _ _ h; unfold World.freeze at this; split at this<;>exact this
 | frozen a k ih=>intro w w' b h; unfold Sem.run at h; exact ih _ _ _ _ h
 | getObj r k ih=>
  intro w w' b h
  unfold Sem.run at h
  split at h
  ·cases h
  ·exact ih _ _ _ _ h
  ·cases h
 | setObj r o k ih=>
  intro w w' b h
  unfold Sem.run at h
  split at h
  ·cases h
  ·have:=ih _ _ _ h; exact this
  ·cases h
 | choose q k ih=>
  intro w w' b h
  unfold Sem.run at h
  split at h
  ·exact ih _ _ _ _ h
  ·exact Nat.le_trans (Nat.le_succ _) (ih _ _ _ _ h)
 | sys c k ih=>intro w w' b h; unfold Sem.run at h; exact Nat.le_trans (qm w c) (ih _ _ _ _ h)
 | program k ih=>intro w w' b h; unfold Sem.run at h; exact ih _ _ _ _ h
 | mark m k ih=>intro w w' b h; unfold Sem.run at h; exact ih _ _ _ h
 | halt q=>intro w w' b h; cases h
class Rep (α:Type) where
 size:Nat
 pos:0<size
 R:World->Lb Nat->Lb Vc->α->Prop
 len:∀ {w L cs x},R w L cs x->cs.length=size
 one:∀ {w L cs x},R w L cs x->∀ v∈cs,v.oneCell'=true
 keep:∀ {w w' L cs x},R w L cs x->Agree L w w'->R w' L cs x
 shun:∀ {w L L' cs x},R w L cs x->(∀ b∈L', b∈L∨w.heap.size<=b)->R w L' cs x
@[reducible] def Rep.plain {α:Type} (enc:α->Vc) (h1:∀ x,(enc x).oneCell'=true):Rep α where
 size:=1
 pos:=Nat.one_pos
 R:=fun _ _ cs x=>cs=[enc x]
 len:=by rintro w L cs x rfl; rfl
 one:=by rintro w L cs x rfl v hv; simp at hv; subst hv; exact h1 x
 keep:=fun h _=>h
 shun:=fun h _=>h
instance:Rep Int:=Rep.plain (fun x=>.int .i64 x) (fun _=>rfl)
instance:Rep Bool:=Rep.plain (fun x=>.bool x) (fun _=>rfl)
instance:Rep UInt8:=Rep.plain (fun x=>.int .u8 (x.toNat:Int)) (fun _=>rfl)
instance:Rep UInt16:=Rep.plain (fun x=>.int .u16 (x.toNat:Int)) (fun _=>rfl)
instance:Rep UInt64:=Rep.plain (fun x=>.int .u64 (x.toNat:Int)) (fun _=>rfl)
instance:Rep ByteArray:=Rep.plain (fun x=>.string x) (fun _=>rfl)
instance {α β:Type} [Rep α] [Rep β]:Rep (α×β) where
 size:=Rep.size α+Rep.size β
 pos:=Nat.add_pos_left Rep.pos _
 R:=fun w L cs x=>∃ c1 c2,cs=c1++c2/\Rep.R w L c1 x.1/\Rep.R w L c2 x.2
 len:=by rintro w L cs x ⟨c1,c2,rfl,h1,h2⟩; rw [List.length_append,Rep.len h1,Rep.len h2]
 one:=by
  rintro w L cs x ⟨c1,c2,rfl,h1,h2⟩ v hv
  rcases List.mem_append.1 hv with h | h
  ·exact Rep.one h1 v h
  ·exact Rep.one h2 v h
 keep:=fun ⟨c1,c2,e,h1,h2⟩ h=>⟨c1,c2,e,Rep.keep h1 h,Rep.keep h2 h⟩
 shun:=fun ⟨c1,c2,e,h1,h2⟩ h=>⟨c1,c2,e,Rep.shun h1 h,Rep.shun h2 h⟩
@[reducible] def Rep.via {α β:Type} [Rep β] (f:α->β):Rep α where
 size:=Rep.size β
 pos:=Rep.pos
 R:=fun w L cs x=>Rep.R w L cs (f x)
 len:=fun h=>Rep.len h
 one:=fun h=>Rep.one h
 keep:=fun h=>Rep.keep h
 shun:=fun h=>Rep.shun h
theorem ef (a:Addr) (n:Nat):(a.add n).block=a.block:=by unfold Addr.add; split<;>rfl
theorem cp (a:Addr) (i j:Nat):(a.add i).add j=a.add (i+j):=by
 unfold Addr.add
 by_cases hi:i=0<;>by_cases hj:j=0<;>simp [hi,hj,Nat.add_assoc]
def Elems {α:Type} [Rep α] (w:World) (L:Lb Nat) (A:Oa Addr) (xs:Lb α):Prop:=
 ∀ i (h:i<xs.length),∃ ad:Addr,A=some ad/\ad.block∉L/\∃ cs,Rep.R w L cs xs[i]/\∀ j u,cs[j]? = some u->w.cell? (ad.add (i*Rep.size α+j))=some u
theorem Elems.keep {α:Type} [Rep α] {w w' : World} {L:Lb Nat} {A:Oa Addr} {xs:Lb α} (h:Elems w L A xs) (hw:Agree L w w'):Elems w' L A xs:=by
 intro i hi
 obtain ⟨ad,e,hb,cs,hr,hc⟩:=h i hi
 exact ⟨ad,e,hb,cs,Rep.keep hr hw,fun j u hu=>hw.cell (by rw [ef]; exact hb) (hc j u hu)⟩
theorem Elems.shun {α:Type} [Rep α] {w:World} {L L' : Lb Nat} {A:Oa Addr} {xs:Lb α} (h:Elems w L A xs) (hL:∀ b∈L', b∈L∨w.heap.size<=b):Elems w L' A xs:=by
 intro i hi
 obtain ⟨ad,e,hb,cs,hr,hc⟩:=h i hi
 refine ⟨ad,e,fun hm=>?_,cs,Rep.shun hr hL,hc⟩
 rcases hL _ hm with h1 | h1
 ·exact hb h1
 ·have hp:=Rep.pos (α:=α)
  have hl:=Rep.len hr
  have h0:cs[0]? = some (cs[0]'(by omega)):=List.getElem?_eq_getElem (by omega)
  have:=World.block_lt_of_cell? w _ (hc 0 _ h0)
  rw [ef] at this
  omega
def jw:Nat:=281474976710656
def eA:Nat:=4294967296
instance {α:Type} [Rep α]:Rep (List α) where
 size:=1
 pos:=Nat.one_pos
 R:=fun w L cs xs=>∃ A c,cs=[.slice A xs.length c]/\xs.length<=c/\c<=9223372036854775807/\xs.length<=jw/\Elems w L A xs
 len:=by rintro w L cs x ⟨A,c,rfl,_⟩; rfl
 one:=by rintro w L cs x ⟨A,c,rfl,_⟩ v hv; simp at hv; subst hv; rfl
 keep:=fun ⟨A,c,e,h1,h2,h3,h⟩ hw=>⟨A,c,e,h1,h2,h3,h.keep hw⟩
 shun:=fun ⟨A,c,e,h1,h2,h3,h⟩ hL=>⟨A,c,e,h1,h2,h3,h.shun hL⟩
theorem Rep.sl {α:Type} [Rep α] {w:World} {L:Lb Nat} {v:Vc} {xs:Lb α} (h:Rep.R w L [v] xs):∃ A c,v=.slice A xs.length c/\xs.length<=jw:=by
 obtain ⟨A,c,e,_,_,h3,_⟩:=h
 cases e
 exact ⟨A,c,rfl,h3⟩
theorem Rep.nilSlice {α:Type} [Rep α] (w:World) (L:Lb Nat):Rep.R w L [.slice none 0 0] ([]:Lb α):=
 ⟨none,0,rfl,Nat.le_refl _,by simp,by simp,fun i hi=>by simp at hi⟩
theorem Rep.lenle {α:Type} [Rep α] {w:World} {L:Lb Nat} {v:Vc} {xs:Lb α} (h:Rep.R w L [v] xs):xs.length<=281474976710656:=by obtain ⟨_,_,_,h⟩:=Rep.sl h; exact h
theorem Rep.keep0 {α:Type} [Rep α] {w w' : World} {L:Lb Nat} {cs:Lb Vc} {x:α} (h:Rep.R w L cs x) (hw:Agree [] w w'):Rep.R w' L cs x:=Rep.keep h hw.widen
theorem Rep.nth {α:Type} [Rep α] {w:World} {L:Lb Nat} {v:Vc} {xs:Lb α} {i:Nat} {x:α} (h:Rep.R w L [v] xs) (hx:xs[i]? = some x) :
  ∃ (A:Addr) (c:Nat),v=.slice (some A) xs.length c/\i<xs.length/\∃ cs,Rep.R w L cs x/\∀ j u,cs[j]? = some u->w.cell? ((A.add (i*Rep.size α)).add j)=some u:=by
 obtain ⟨A,c,e,_,_,_,hE⟩:=h
 cases e
 obtain ⟨hi,rfl⟩:=List.getElem?_eq_some_iff.1 hx
 obtain ⟨ad,rfl,_,cs,hr,hc⟩:=hE i hi
 exact ⟨ad,c,rfl,hi,cs,hr,fun j u hu=>by rw [cp]; exact hc j u hu⟩
/-! ### Small partial functions -/
def inI64 (x:Int):Prop:=-9223372036854775808<=x/\x<=9223372036854775807
instance (x:Int):Decidable (inI64 x):=by unfold inI64; infer_instance
def chk (x:Int):Oa Int:=if -9223372036854775808<=x/\x<=9223372036854775807 then some x else none
def idx {α:Type} (xs:Lb α) (i:Int):Oa α:=if 0<=i then xs[i.toNat]? else none
def app {α:Type} (xs ys:Lb α):Oa (Lb α):=if xs.length+ys.length<=eA then some (xs++ys) else none
def mk {α:Type} (n:Int) (x:α):Oa (Lb α):=if 0<=n/\n<=4294967296 then some (List.replicate n.toNat x) else none
def put {α:Type} (xs:Lb α) (i:Int) (x:α):Oa (Lb α):=if 0<=i/\i<xs.length then some (xs.set i.toNat x) else none
def cut {α:Type} (xs:Lb α) (i j:Int):Oa (Lb α):=if 0<=i/\i<=j/\j<=xs.length then some ((xs.take j.toNat).drop i.toNat) else none
def jn {α β γ:Type} (K:α->Oa β) (B:(α->Oa β)->Oa γ):Oa γ:=B K
def ah {α β:Type} (B:(α->Oa β)->α->Oa β):Nat->α->Oa β
 | 0,_=>none
 | k+1,s=>B (ah B k) s
def thn {α β:Type} (o:Oa (α⊕β)) (K:β->Oa α):Oa α:=match o with
 | none=>none
 | some (.inl a)=>some a
 | some (.inr x)=>K x
section
variable {α β γ:Type} {o:Oa α} {r:β}
theorem lC {K:α->Oa β} (h:o.bind K=some r):∃ x,o=some x/\K x=some r:=by
 cases o with
 | none=>cases h
 | some x=>exact ⟨x,rfl,h⟩
theorem thn_in {o:Oa (α⊕β)} {K:β->Oa α} {r:α} (h:thn o K=some r):∃ x,o=some x/\thn (some x) K=some r:=by
 cases o with
 | none=>cases h
 | some x=>exact ⟨x,rfl,h⟩
theorem aO {K:β->Oa α} {a r:α} {y:α⊕β} (h:some (Sum.inl a)=some y) (hK:thn (some y) K=some r):some a=some r:=by cases h; exact hK
theorem bD {K:β->Oa α} {x:β} {r:α} {y:α⊕β} (h:some (Sum.inr x)=some y) (hK:thn (some y) K=some r):K x=some r:=by cases h; exact hK
theorem jg {K:β->Oa α} {t:Oa α} {r:α} {y:α⊕β} (h:t.map Sum.inl=some y) (hK:thn (some y) K=some r):t=some r:=by
 cases t with
 | none=>cases h
 | some a=>cases h; exact hK
theorem lg {c:Prop} [Decidable c] {a b:Oa β} (hc:c) (h:(if c then a else b)=some r):a=some r:=by rwa [if_pos hc] at h
theorem lr {c:Prop} [Decidable c] {a b:Oa β} (hc:¬ c) (h:(if c then a else b)=some r):b=some r:=by rwa [if_neg hc] at h
theorem lY {x y:Int} (h:chk x=some y):y=x/\-9223372036854775808<=x/\x<=9223372036854775807:=by
 unfold chk at h
 split at h
 ·rename_i hx; cases h; exact ⟨rfl,hx⟩
 ·cases h
theorem mb {x:Int} (h:-9223372036854775808<=x/\x<=9223372036854775807):chk x=some x:=if_pos h
theorem ax {xs:Lb α} {i:Int} {x:α} (h:idx xs i=some x):i=(i.toNat:Int)/\xs[i.toNat]? = some x:=by
 unfold idx at h
 split at h
 ·exact ⟨by omega,h⟩
 ·cases h
theorem aF (xs:Lb α) (i:Nat):idx xs (i:Int)=xs[i]?:=by unfold idx; rw [if_pos (by omega)]; rfl
theorem app_in {xs ys zs:Lb α} (h:app xs ys=some zs):zs=xs++ys/\xs.length+ys.length<=eA:=by
 unfold app at h
 split at h
 ·rename_i hx; cases h; exact ⟨rfl,hx⟩
 ·cases h
theorem nW {xs ys:Lb α} (h:xs.length+ys.length<=4294967296):app xs ys=some (xs++ys):=if_pos h
theorem rW {n:Int} {x:α} {xs:Lb α} (h:mk n x=some xs):xs=List.replicate n.toNat x/\n=(n.toNat:Int)/\n.toNat<=4294967296:=by
 unfold mk at h
 split at h
 ·cases h; exact ⟨rfl,by omega,by omega⟩
 ·cases h
theorem put_in {xs ys:Lb α} {i:Int} {x:α} (h:put xs i x=some ys):ys=xs.set i.toNat x/\i=(i.toNat:Int)/\i.toNat<xs.length:=by
 unfold put at h
 split at h
 ·cases h; exact ⟨rfl,by omega,by omega⟩
 ·cases h
theorem cut_in {xs ys:Lb α} {i j:Int} (h:cut xs i j=some ys):ys=(xs.take j.toNat).drop i.toNat/\i=(i.toNat:Int)/\j=(j.toNat:Int)/\i.toNat<=j.toNat/\j.toNat<=xs.length:=by
 unfold cut at h
 split at h
 ·cases h; exact ⟨rfl,by omega,by omega,by omega,by omega⟩
 ·cases h
end
theorem I.{u} {α:Sort u} {a:α}:a=a:=rfl
end Go.Proofs.YtkimkkgicmipbaaGreatDoor
