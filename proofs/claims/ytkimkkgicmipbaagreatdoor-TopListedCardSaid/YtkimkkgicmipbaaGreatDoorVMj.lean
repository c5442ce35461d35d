/- The call's own objects: a list of blocks and rows that nobody else has; worlds in which they stand; how facts on other data are carried on. No program in sight. -/
import Derived.Test.YtkimkkgicmipbaaGreatDoorVBase
import Derived.Laws.BitsAllLaws
import Derived.Deep.Quiet
import Derived.RangeFuncIn
import Derived.Maps.OwnIn
import Derived.RangeFuncNested
import Derived.OrdersHeld
import Derived.Laws.CopyRow
import Derived.Laws.IdiomCopy
import Derived.Laws.StructEq
import Derived.ChangeKeysEq
import Derived.Recover
namespace Go.Proofs.YtkimkkgicmipbaaGreatDoor
open Go Go.RowKit
inductive Ob where
 | obj (b:Nat) (o:Obj)
 | row (base:Nat) (e:TypeId) (sz:Nat) (v:Vc) (n:Nat) (cs:Lb Vc)
def Ob.block:Ob->Oa Nat
 | .obj b _=>some b
 | .row _ _ _ v _ _=>v.ownBlock
def Ob.holds (w:World):Ob->Prop
 | .obj b o=>w.heap[b]? = some o
 | .row base e sz v n cs=>w.ownsRow base e sz v n cs/\n<=eA
@[reducible] def Ob.cells (b:Nat) (cs:Lb Vc) (t:TypeId):Ob:=.obj b (.cells cs.toArray t (0,0))
def bl (O:Lb Ob):Lb Nat:=O.filterMap Ob.block
theorem mc (o:Ob) (O:Lb Ob):bl (o::O)=o.block.toList++bl O:=by
 unfold bl
 cases h:o.block<;>simp [h]
theorem au {o:Ob} {O:Lb Ob} {b:Nat}:b∈bl (o::O)↔o.block=some b∨b∈bl O:=by
 rw [mc,List.mem_append]
 cases h:o.block<;>simp
 exact or_congr_left ⟨fun e=>e.symm,fun e=>e.symm⟩
def Owns (w:World):Lb Ob->Prop
 | []=>True
 | o::O=>o.holds w/\(∀ b,o.block=some b->b∉bl O)/\Owns w O
theorem Ob.lt {w:World} {o:Ob} (h:o.holds w) {b:Nat} (hb:o.block=some b):b<w.heap.size:=by
 cases o with
 | obj c o=>cases hb; exact oE h
 | row base e sz v n cs=>exact (h.1.lt b hb).2
theorem Owns.lt {w:World}:∀ {O:Lb Ob},Owns w O->∀ b∈bl O,b<w.heap.size
 | [],_,b,hb=>by cases hb
 | o::O,⟨h1,_,h3⟩,b,hb=>by
  rcases au.1 hb with h | h
  ·exact Ob.lt h1 h
  ·exact h3.lt b h
theorem Ob.keep {w w' : World} {L:Lb Nat} {o:Ob} (h:o.holds w) (hw:Agree L w w') (hL:∀ b,o.block=some b->b∉L):o.holds w' :=by
 cases o with
 | obj c o=>exact mx hw (hL c I) h
 | row base e sz v n cs=>
  refine ⟨⟨h.1.1,?_⟩,h.2⟩
  rcases h.1.2 with h' | ⟨g,cap,cur,rfl,hb,hg,rest⟩
  ·exact .inl h'
  ·exact .inr ⟨g,cap,cur,I,hb,(hw.block g (Array.getElem?_eq_some_iff.1 hg).1 (hL g I)).trans hg,rest⟩
theorem Owns.keep {w w' : World} {L:Lb Nat} (hw:Agree L w w'):∀ {O:Lb Ob},Owns w O->(∀ b∈bl O,b∉L)->Owns w' O
 | [],_,_=>trivial
 | _o::_O,⟨h1,h2,h3⟩,hL=>⟨Ob.keep h1 hw (fun b hb=>hL b (au.2 (.inl hb))),h2,h3.keep hw (fun b hb=>hL b (au.2 (.inr hb)))⟩
structure St (w0 w:World) (O:List Ob):Prop where
 ag:Agree [] w0 w
 new:∀ b∈bl O,w0.heap.size<=b
 ok:Owns w O
structure Tr (w1:World) (O1:List Ob) (w2:World) (O2:List Ob):Prop where
 ag:Agree (bl O1) w1 w2
 sub:∀ b∈bl O2,b∈bl O1∨w1.heap.size<=b
theorem Tr.refl (w:World) (O:Lb Ob):Tr w O w O:=⟨Agree.refl _ _,fun _ h=>.inl h⟩
theorem Tr.trans {w1 w2 w3:World} {O1 O2 O3:Lb Ob} (h:Tr w1 O1 w2 O2) (k:Tr w2 O2 w3 O3):Tr w1 O1 w3 O3:=
 ⟨⟨k.ag.os.trans h.ag.os,k.ag.tape.trans h.ag.tape,k.ag.output.trans h.ag.output,Nat.le_trans h.ag.size k.ag.size,fun b hb hn=>
   (k.ag.block b (Nat.lt_of_lt_of_le hb h.ag.size) (fun hm=>(h.sub b hm).elim hn (fun h1=>by omega))).trans (h.ag.block b hb hn),Nat.le_trans h.ag.drawn k.ag.drawn⟩,
  fun b hb=>(k.sub b hb).elim (h.sub b) (fun h1=>.inr (Nat.le_trans h.ag.size h1))⟩
theorem St.tr {w0 w:World} {O:Lb Ob} (h:St w0 w O):Tr w0 [] w O:=⟨h.ag,fun b hb=>.inr (h.new b hb)⟩
theorem St.start (w:World):St w w []:=⟨Agree.refl _ _,fun _ h=>(by cases h),trivial⟩
theorem Rep.mv {α:Type} [Rep α] {w1 w2:World} {O1 O2:Lb Ob} {L:Lb Nat} {cs:Lb Vc} {x:α} (h:Rep.R w1 (bl O1++L) cs x) (t:Tr w1 O1 w2 O2):Rep.R w2 (bl O2++L) cs x:=by
 have h1:Rep.R w1 (bl O2++(bl O1++L)) cs x:=Rep.shun h (fun b hb=>by
  rcases List.mem_append.1 hb with hb | hb
  ·exact (t.sub b hb).imp (fun h1=>List.mem_append.2 (.inl h1)) id
  ·exact .inl hb)
 have h2:=Rep.keep h1 (t.ag.mono (fun b hb=>.inl (List.mem_append.2 (.inr (List.mem_append.2 (.inl hb))))))
 exact Rep.shun h2 (fun b hb=>.inl (by
  rcases List.mem_append.1 hb with hb | hb
  ·exact List.mem_append.2 (.inl hb)
  ·exact List.mem_append.2 (.inr (List.mem_append.2 (.inr hb)))))
theorem Rep.mv0 {α:Type} [Rep α] {w0 w:World} {O:Lb Ob} {L:Lb Nat} {cs:Lb Vc} {x:α} (h:Rep.R w0 L cs x) (s:St w0 w O):Rep.R w (bl O++L) cs x:=Rep.mv (O1:=[]) h s.tr
theorem St.agree {w0 w w1:World} {O:Lb Ob} (h:St w0 w O) (hw:Agree [] w w1):St w0 w1 O:=⟨h.ag.trans hw,h.new,h.ok.keep hw (fun _ _=>by simp)⟩
theorem Tr.agree {w w1:World} {O:Lb Ob} (hw:Agree [] w w1):Tr w O w1 O:=⟨hw.widen,fun _ h=>.inl h⟩
theorem St.push {w0 w w1:World} {O:Lb Ob} (h:St w0 w O) (hw:Agree [] w w1) {o:Ob} (ho:o.holds w1) (hb:∀ b,o.block=some b->w.heap.size<=b):St w0 w1 (o::O):=
 ⟨h.ag.trans hw,fun b hm=>(au.1 hm).elim (fun e=>Nat.le_trans h.ag.size (hb b e)) (h.new b),ho,fun b e hm=>by have:=h.ok.lt b hm; have:=hb b e; omega,h.ok.keep hw (fun _ _=>by simp)⟩
theorem Tr.push {w w1:World} {O:Lb Ob} (hw:Agree [] w w1) {o:Ob} (hb:∀ b,o.block=some b->w.heap.size<=b):Tr w O w1 (o::O):=
 ⟨hw.widen,fun b hm=>(au.1 hm).elim (fun e=>.inr (hb b e)) .inl⟩
inductive Upd:Lb Ob->Ob->Ob->Lb Ob->Prop
 | hd {o o' : Ob} {O:Lb Ob}:Upd (o::O) o o' (o'::O)
 | tl {o o' x:Ob} {O O' : Lb Ob} (h:Upd O o o' O'):Upd (x::O) o o' (x::O')
theorem Upd.get {w:World} {O O' : Lb Ob} {o o' : Ob} (u:Upd O o o' O') (h:Owns w O):o.holds w:=by
 induction u with
 | hd=>exact h.1
 | tl _ ih=>exact ih h.2.2
theorem Upd.mem {O O' : Lb Ob} {o o' : Ob} (u:Upd O o o' O') {b:Nat} (hb:o.block=some b):b∈bl O:=by
 induction u with
 | hd=>exact au.2 (.inl hb)
 | tl _ ih=>exact au.2 (.inr (ih hb))
theorem Upd.bl {O O' : Lb Ob} {o o' : Ob} (u:Upd O o o' O') {b:Nat} (hb:b∈bl O'):o'.block=some b∨b∈bl O:=by
 induction u with
 | hd=>exact (au.1 hb).imp id (fun h=>au.2 (.inr h))
 | tl _ ih=>
  rcases au.1 hb with h | h
  ·exact .inr (au.2 (.inl h))
  ·exact (ih h).imp id (fun h=>au.2 (.inr h))
theorem Upd.owns {w w1:World} {O O' : Lb Ob} {o o' : Ob} (u:Upd O o o' O') (h:Owns w O) {L:Lb Nat} (hw:Agree L w w1) (hL:∀ b∈L,o.block=some b) (ho:o'.holds w1) (hb:∀ b,o'.block=some b->o.block=some b∨w.heap.size<=b):Owns w1 O' :=by
 induction u with
 | hd=>
  obtain ⟨h1,h2,h3⟩:=h
  refine ⟨ho,fun b e hm=>?_,h3.keep hw (fun b hm hl=>h2 b (hL b hl) hm)⟩
  rcases hb b e with h | h
  ·exact h2 b h hm
  ·have:=h3.lt b hm; omega
 | @tl _ _ x O O' u ih=>
  obtain ⟨h1,h2,h3⟩:=h
  refine ⟨Ob.keep h1 hw (fun b e hm=>h2 b e (u.mem (hL b hm))),fun b e hm=>?_,ih h3 hL ho hb⟩
  rcases u.bl hm with h | h
  ·rcases hb b h with h' | h'
   ·exact h2 b e (u.mem h')
   ·have:=Ob.lt h1 e; omega
  ·exact h2 b e h
theorem St.get {w0 w:World} {O O' : Lb Ob} {o o' : Ob} (h:St w0 w O) (u:Upd O o o' O'):o.holds w:=u.get h.ok
theorem St.upd {w0 w w1:World} {O O' : Lb Ob} {o o' : Ob} (h:St w0 w O) (u:Upd O o o' O') {L:Lb Nat} (hw:Agree L w w1) (hL:∀ b∈L,o.block=some b) (ho:o'.holds w1) (hb:∀ b,o'.block=some b->o.block=some b∨w.heap.size<=b):St w0 w1 O' :=by
 have hn:∀ b∈L,w0.heap.size<=b:=fun b hm=>h.new b (u.mem (hL b hm))
 refine ⟨⟨hw.os.trans h.ag.os,hw.tape.trans h.ag.tape,hw.output.trans h.ag.output,Nat.le_trans h.ag.size hw.size,fun b hlt _=>
   (hw.block b (Nat.lt_of_lt_of_le hlt h.ag.size) (fun hm=>by have:=hn b hm; omega)).trans (h.ag.block b hlt (by simp)),Nat.le_trans h.ag.drawn hw.drawn⟩,fun b hm=>?_,u.owns h.ok hw hL ho hb⟩
 rcases u.bl hm with e | e
 ·rcases hb b e with h' | h'
  ·exact h.new b (u.mem h')
  ·exact Nat.le_trans h.ag.size h'
 ·exact h.new b e
theorem Tr.upd {w w1:World} {O O' : Lb Ob} {o o' : Ob} (u:Upd O o o' O') {L:Lb Nat} (hw:Agree L w w1) (hL:∀ b∈L,o.block=some b) (hb:∀ b,o'.block=some b->o.block=some b∨w.heap.size<=b):Tr w O w1 O' :=
 ⟨hw.mono (fun b hm=>.inl (u.mem (hL b hm))),fun b hm=>(u.bl hm).elim (fun e=>(hb b e).imp u.mem id) .inl⟩
inductive At:Lb Ob->Ob->Prop
 | hd {o:Ob} {O:Lb Ob}:At (o::O) o
 | tl {o x:Ob} {O:Lb Ob} (h:At O o):At (x::O) o
theorem At.upd {O:Lb Ob} {o:Ob} (h:At O o):Upd O o o O:=by
 induction h with
 | hd=>exact .hd
 | tl _ ih=>exact .tl ih
inductive Del:Lb Ob->Lb Ob->Prop
 | nil:Del [] []
 | keep {o:Ob} {O O' : Lb Ob} (h:Del O O'):Del (o::O) (o::O')
 | drop {o:Ob} {O O' : Lb Ob} (h:Del O O'):Del (o::O) O'
theorem Del.bl {O O' : Lb Ob} (d:Del O O') {b:Nat} (h:b∈bl O'):b∈bl O:=by
 induction d with
 | nil=>exact h
 | keep _ ih=>exact au.2 ((au.1 h).imp id ih)
 | drop _ ih=>exact au.2 (.inr (ih h))
theorem Del.owns {w:World} {O O' : Lb Ob} (d:Del O O') (h:Owns w O):Owns w O' :=by
 induction d with
 | nil=>trivial
 | keep d ih=>exact ⟨h.1,fun b e hm=>h.2.1 b e (d.bl hm),ih h.2.2⟩
 | drop _ ih=>exact ih h.2.2
theorem Del.refl:∀ (O:Lb Ob),Del O O
 | []=>.nil
 | _::O=>.keep (Del.refl O)
theorem St.del {w0 w:World} {O O' : Lb Ob} (h:St w0 w O) (d:Del O O'):St w0 w O' :=⟨h.ag,fun b hb=>h.new b (d.bl hb),d.owns h.ok⟩
theorem Tr.del {w:World} {O O' : Lb Ob} (d:Del O O'):Tr w O w O' :=⟨Agree.refl _ _,fun _ h=>.inl (d.bl h)⟩
inductive Out:Lb Ob->Ob->Lb Ob->Prop
 | hd {o:Ob} {O:Lb Ob}:Out (o::O) o O
 | tl {o x:Ob} {O O' : Lb Ob} (h:Out O o O'):Out (x::O) o (x::O')
theorem Out.del {O O' : Lb Ob} {o:Ob} (u:Out O o O'):Del O O' :=by
 induction u with
 | hd=>exact .drop (Del.refl _)
 | tl _ ih=>exact .keep ih
theorem Out.get {w:World} {O O' : Lb Ob} {o:Ob} (u:Out O o O') (h:Owns w O):o.holds w/\∀ b,o.block=some b->b∉Proofs.YtkimkkgicmipbaaGreatDoor.bl O' :=by
 induction u with
 | hd=>exact ⟨h.1,h.2.1⟩
 | @tl o x O O' u ih=>
  obtain ⟨i1,i2⟩:=ih h.2.2
  refine ⟨i1,fun b e hm=>?_⟩
  rcases au.1 hm with h' | h'
  ·have hmem:b∈Proofs.YtkimkkgicmipbaaGreatDoor.bl O:=by
    clear ih i1 i2 h hm h'
    induction u with
    | hd=>exact au.2 (.inl e)
    | tl _ ih=>exact au.2 (.inr (ih e))
   exact h.2.1 b h' hmem
  ·exact i2 b e h'
/-! ### Rows: slices that the call made -/
def Cells {α:Type} [Rep α] (w:World) (L:Lb Nat) (cs:Lb Vc) (xs:Lb α):Prop:=
 cs.length=xs.length*Rep.size α/\∀ i (h:i<xs.length),Rep.R w L ((cs.drop (i*Rep.size α)).take (Rep.size α)) xs[i]
section
variable {α:Type} [Rep α]
theorem Cells.mv {w1 w2:World} {O1 O2:Lb Ob} {L:Lb Nat} {cs:Lb Vc} {xs:Lb α} (h:Cells w1 (bl O1++L) cs xs) (t:Tr w1 O1 w2 O2):Cells w2 (bl O2++L) cs xs:=
 ⟨h.1,fun i hi=>Rep.mv (h.2 i hi) t⟩
theorem Cells.keep0 {w1 w2:World} {L:Lb Nat} {cs:Lb Vc} {xs:Lb α} (h:Cells w1 L cs xs) (t:Agree [] w1 w2):Cells w2 L cs xs:=⟨h.1,fun i hi=>Rep.keep0 (h.2 i hi) t⟩
theorem Cells.nil (w:World) (L:Lb Nat):Cells w L [] ([]:Lb α):=⟨by simp,fun i h=>by simp at h⟩
theorem Cells.one {w:World} {L:Lb Nat} {cs:Lb Vc} {x:α} (h:Rep.R w L cs x):Cells w L cs [x]:=by
 refine ⟨by rw [Rep.len h]; simp,fun i hi=>?_⟩
 obtain rfl:i=0:=by simp at hi; exact hi
 have:=Rep.len h
 simp only [Nat.zero_mul,List.drop_zero,List.getElem_cons_zero]
 rw [<- this,List.take_length]; exact h
theorem Cells.append {w:World} {L:Lb Nat} {cs ds:Lb Vc} {xs ys:Lb α} (h:Cells w L cs xs) (k:Cells w L ds ys):Cells w L (cs++ds) (xs++ys):=by
 refine ⟨by rw [List.length_append,List.length_append,h.1,k.1,Nat.add_mul],fun i hi=>?_⟩
 have hp:=Rep.pos (α:=α)
 by_cases hlt:i<xs.length
 ·have hle:i*Rep.size α+Rep.size α<=cs.length:=by rw [h.1,<- Nat.succ_mul]; exact Nat.mul_le_mul_right _ hlt
  rw [List.getElem_append_left hlt,List.drop_append_of_le_length (by omega),List.take_append_of_le_length (by rw [List.length_drop]; omega)]
  exact h.2 i hlt
 ·have hge:xs.length<=i:=by omega
  rw [List.getElem_append_right hge]
  have hl:cs.length<=i*Rep.size α:=by rw [h.1]; exact Nat.mul_le_mul_right _ hge
  rw [List.drop_append,List.drop_of_length_le hl,List.nil_append,h.1,<- Nat.sub_mul]
  exact k.2 _ (by rw [List.length_append] at hi; omega)
theorem Cells.cons {w:World} {L:Lb Nat} {cs ds:Lb Vc} {x:α} {ys:Lb α} (h:Rep.R w L cs x) (k:Cells w L ds ys):Cells w L (cs++ds) (x::ys):=(Cells.one h).append k
theorem Cells.cell {w:World} {L:Lb Nat} {cs:Lb Vc} {xs:Lb α} (h:Cells w L cs xs):∀ v∈cs,v.oneCell'=true:=by
 intro v hv
 obtain ⟨j,hj,rfl⟩:=List.getElem_of_mem hv
 have hp:=Rep.pos (α:=α)
 rw [h.1] at hj
 have hi:j/Rep.size α<xs.length:=(Nat.div_lt_iff_lt_mul hp).2 hj
 refine Rep.one (h.2 _ hi) _ ?_
 have hd:j/Rep.size α*Rep.size α+j%Rep.size α=j:=by rw [Nat.mul_comm]; exact Nat.div_add_mod j _
 have hm:=Nat.mod_lt j hp
 rw [List.mem_iff_getElem?]
 refine ⟨j%Rep.size α,?_⟩
 rw [List.getElem?_take_of_lt hm,List.getElem?_drop,hd,List.getElem?_eq_getElem]
theorem Cells.set {w:World} {L:Lb Nat} {cs ds:Lb Vc} {xs:Lb α} {i:Nat} {x:α} (h:Cells w L cs xs) (hi:i<xs.length) (hd:Rep.R w L ds x) :
  Cells w L (cs.take (i*Rep.size α)++ds++cs.drop (i*Rep.size α+ds.length)) (xs.set i x):=by
 have hl:=Rep.len hd
 have hp:=Rep.pos (α:=α)
 have hle:i*Rep.size α+Rep.size α<=cs.length:=by rw [h.1,<- Nat.succ_mul]; exact Nat.mul_le_mul_right _ hi
 have ht:(cs.take (i*Rep.size α)).length=i*Rep.size α:=by rw [List.length_take]; omega
 refine ⟨by simp only [List.length_append,List.length_set,ht,hl,List.length_drop]; rw [h.1]; rw [h.1] at hle; omega,fun k hk=>?_⟩
 rw [List.length_set] at hk
 rw [List.getElem_set]
 split
 ·rename_i e
  subst e
  rw [List.append_assoc,List.drop_append,ht,List.drop_of_length_le (by omega),List.nil_append,Nat.sub_self,List.drop_zero,<- hl,List.take_left]
  exact hd
 ·rename_i hne
  have hkk:=h.2 k hk
  have he:((cs.take (i*Rep.size α)++ds++cs.drop (i*Rep.size α+ds.length)).drop (k*Rep.size α)).take (Rep.size α)=(cs.drop (k*Rep.size α)).take (Rep.size α):=by
   apply List.ext_getElem?
   intro j
   by_cases hj:j<Rep.size α
   ·rw [List.getElem?_take_of_lt hj,List.getElem?_take_of_lt hj,List.getElem?_drop,List.getElem?_drop]
    rcases Nat.lt_or_ge k i with hki | hki
    ·have:k*Rep.size α+j<i*Rep.size α:=by
      have:=Nat.mul_le_mul_right (Rep.size α) (show k+1<=i from hki); rw [Nat.succ_mul] at this; omega
     rw [List.append_assoc,List.getElem?_append_left (by rw [ht]; exact this),List.getElem?_take_of_lt this]
    ·have:i*Rep.size α+Rep.size α<=k*Rep.size α+j:=by
      have:=Nat.mul_le_mul_right (Rep.size α) (show i+1<=k by omega); rw [Nat.succ_mul] at this; omega
     rw [List.getElem?_append_right (by rw [List.length_append,ht,hl]; exact this),List.length_append,ht,hl,List.getElem?_drop]
     congr 1; omega
   ·rw [List.getElem?_eq_none (by rw [List.length_take]; omega),List.getElem?_eq_none (by rw [List.length_take]; omega)]
  rw [he]; exact hkk
theorem Cells.replicate {w:World} {L:Lb Nat} {ds:Lb Vc} {x:α} (hd:Rep.R w L ds x):∀ n,Cells w L (List.replicate n ds).flatten (List.replicate n x)
 | 0=>Cells.nil w L
 | n+1=>by rw [List.replicate_succ,List.replicate_succ,List.flatten_cons]; exact Cells.cons hd (Cells.replicate hd n)
theorem Elems.cells {w:World} {L:Lb Nat} {A:Oa Addr}:∀ {ys:Lb α},Elems w L A ys->∃ ds,Cells w L ds ys/\∀ ad,A=some ad->∀ j u,ds[j]? = some u->w.cell? (ad.add j)=some u:=by
 intro ys h
 have key:∀ n,n<=ys.length->∃ ds,Cells w L ds (ys.take n)/\∀ ad,A=some ad->∀ j u,ds[j]? = some u->w.cell? (ad.add j)=some u:=by
  intro n
  induction n with
  | zero=>intro _; exact ⟨[],by simpa using Cells.nil w L,fun ad _ j u hu=>by simp at hu⟩
  | succ n ih=>
   intro hn
   obtain ⟨ds,h1,h2⟩:=ih (by omega)
   obtain ⟨ad,e,_,cs,hr,hc⟩:=h n (by omega)
   refine ⟨ds++cs,by rw [List.take_succ_eq_append_getElem (by omega)]; exact h1.append (Cells.one hr),fun ad' e' j u hu=>?_⟩
   rw [e] at e'; cases e'
   have hl:ds.length=n*Rep.size α:=by rw [h1.1,List.length_take]; congr 1; omega
   rcases Nat.lt_or_ge j ds.length with hj | hj
   ·rw [List.getElem?_append_left hj] at hu; exact h2 ad e j u hu
   ·rw [List.getElem?_append_right hj] at hu
    have:=hc _ u hu
    rwa [<- hl,show ds.length+(j-ds.length)=j by omega] at this
 obtain ⟨ds,h1,h2⟩:=key ys.length (Nat.le_refl _)
 rw [List.take_length] at h1
 exact ⟨ds,h1,h2⟩
theorem Rep.allCells {w:World} {L:Lb Nat} {v:Vc} {xs:Lb α} (h:Rep.R w L [v] xs):∃ A c ds,v=.slice A xs.length c/\Cells w L ds xs/\∀ ad,A=some ad->∀ j u,ds[j]? = some u->w.cell? (ad.add j)=some u:=by
 obtain ⟨A,c,e,_,_,_,hE⟩:=h
 cases e
 obtain ⟨ds,h1,h2⟩:=hE.cells
 exact ⟨A,c,ds,I,h1,h2⟩
theorem py {w:World} {L:Lb Nat} {base:Nat} {e:TypeId} {v:Vc} {cs:Lb Vc} {xs:Lb α} (h:(Ob.row base e (Rep.size α) v xs.length cs).holds w) (hc:Cells w L cs xs) (hL:∀ b,v.ownBlock=some b->b∉L):Rep.R w L [v] xs:=by
 obtain ⟨⟨h1,h2⟩,h3⟩:=h
 rcases h2 with ⟨rfl,h0⟩ | ⟨g,cap,cur,rfl,hb,hg,hn,hm,hs,ht⟩
 ·obtain rfl:xs=[]:=List.eq_nil_of_length_eq_zero h0
  exact Rep.nilSlice w L
 ·refine ⟨some ⟨g,0,none⟩,cap,I,hn,hm,(by unfold eA at h3; unfold jw; omega),fun i hi=>⟨_,I,hL g I,_,hc.2 i hi,fun j u hu=>?_⟩⟩
  have hp:=Rep.pos (α:=α)
  have hj:j<Rep.size α:=by
   by_cases hj:j<Rep.size α
   ·exact hj
   ·rw [List.getElem?_eq_none (by rw [List.length_take]; omega)] at hu; cases hu
  rw [List.getElem?_take_of_lt hj,List.getElem?_drop] at hu
  have hadd:(⟨g,0,none⟩:Addr).add (i*Rep.size α+j)=⟨g,i*Rep.size α+j,none⟩:=by unfold Addr.add; split<;>simp_all
  rw [hadd,cell_of_row w g _ _ e (0,0) hg,<- Array.getElem?_toList]
  rw [<- ht] at hu
  have hlt:i*Rep.size α+j<xs.length*Rep.size α:=by
   have:=Nat.mul_le_mul_right (Rep.size α) (show i+1<=xs.length from hi); rw [Nat.succ_mul] at this; omega
  rwa [List.getElem?_take_of_lt hlt] at hu
end
section
open Go Go.RowKit
def look:Lb (Nat×Vc)->Nat->Oa Vc
 | [],_=>none
 | (t,v)::σ,s=>match Nat.beq t s with
  | true=>some v
  | false=>look σ s
structure Fr (n:Nat) (ds:List Deferred) (σ:List (Nat×Value)) (a:Act):Prop where
 size:a.tmps.size=n
 defers:a.defers=ds
 get:∀ s v,look σ s=some v->a.tmps[s]? = some v
theorem Fr.put {n:Nat} {ds:Lb Deferred} {σ:Lb (Nat×Vc)} {a:Act} (h:Fr n ds σ a) (d:Nat) (v:Vc) (hd:Nat.blt d n=true):Fr n ds ((d,v)::σ) (a.put (some d) v):=by
 have hd:d<n:=by simpa [Nat.blt_eq] using hd
 refine ⟨by simp [Act.put,h.size],h.defers,fun s u hs=>?_⟩
 simp only [look] at hs
 cases hb:Nat.beq d s
 ·rw [hb] at hs
  have hne:d≠s:=by intro e; subst e; simp at hb
  simp only [Act.put]
  rw [Array.getElem?_setIfInBounds_ne hne]
  exact h.get s u hs
 ·rw [hb] at hs
  have he:d=s:=Nat.eq_of_beq_eq_true hb
  subst he
  injection hs with hs
  subst hs
  simp [Act.put,h.size,hd]
theorem Fr.sub {n:Nat} {ds:Lb Deferred} {σ τ:Lb (Nat×Vc)} {a:Act} (h:Fr n ds σ a) (hs:∀ s v,look τ s=some v->look σ s=some v):Fr n ds τ a:=⟨h.size,h.defers,fun s v hv=>h.get s v (hs s v hv)⟩
def Sub (σ:Lb (Nat×Vc)):Lb (Nat×Vc)->Prop
 | []=>True
 | (s,v)::τ=>look σ s=some v/\Sub σ τ
theorem Sub.look {σ:Lb (Nat×Vc)}:∀ {τ:Lb (Nat×Vc)},Sub σ τ->∀ s v,look τ s=some v->look σ s=some v
 | [],_,s,v,h=>by cases h
 | (t,u)::τ,⟨h1,h2⟩,s,v,h=>by
  simp only [Proofs.YtkimkkgicmipbaaGreatDoor.look] at h
  cases hb:Nat.beq t s
  ·rw [hb] at h; exact Sub.look h2 s v h
  ·rw [hb] at h
   injection h with h
   subst h
   rw [<- Nat.eq_of_beq_eq_true hb]; exact h1
def ev (σ:Lb (Nat×Vc)):Operand->Oa Vc
 | .tmp t=>look σ t
 | .const v=>some v
 | .global g=>some (.pointer (some ⟨g,0,none⟩))
 | .func f=>some (.func (.func f) #[] #[])
theorem Fr.ev {n:Nat} {ds:Lb Deferred} {σ:Lb (Nat×Vc)} {a:Act} (h:Fr n ds σ a) {x:Operand} {v:Vc} (hx:ev σ x=some v):a.eval x=v:=by
 cases x with
 | tmp t=>
  have:=h.get t v hx
  simp [Act.eval,Array.getD_eq_getD_getElem?,this]
 | const u=>simpa [Proofs.YtkimkkgicmipbaaGreatDoor.ev,Act.eval] using hx
 | global g=>simpa [Proofs.YtkimkkgicmipbaaGreatDoor.ev,Act.eval] using hx
 | func f=>simpa [Proofs.YtkimkkgicmipbaaGreatDoor.ev,Act.eval] using hx
def FV (P:Program) (o:Oper) (σ:Lb (Nat×Vc)) (w:World) (v:Vc):Prop:=
 ∀ ρ:Operand->Vc,(∀ x u,ev σ x=some u->ρ x=u)->∀ w', Agree [] w w'->(execOp ρ o).run P w'=.ok (.value v) w'
section
variable {P:Program} {o:Oper} {σ:Lb (Nat×Vc)} {w:World}
theorem FV.move {x:Operand} {v:Vc} (hx:ev σ x=some v) {d:Oa Tmp} {ty:TypeId} {ps:String} {af:Array Edge} {g:Oa (Nat×Bool)}:FV P ⟨d,.move x,ty,ps,af,g⟩ σ w v:=
 fun ρ ha w' _=>by simp [execOp,ha _ _ hx]
theorem FV.assign {x:Operand} {v:Vc} (hx:ev σ x=some v) {d:Oa Tmp} {ty:TypeId} {ps:String} {af:Array Edge} {g:Oa (Nat×Bool)}:FV P ⟨d,.assign x,ty,ps,af,g⟩ σ w v:=
 fun ρ ha w' _=>by simp [execOp,ha _ _ hx]
theorem FV.pick_t {c x y:Operand} {v:Vc} (hc:ev σ c=some (.bool true)) (hx:ev σ x=some v) {d:Oa Tmp} {ty:TypeId} {ps:String} {af:Array Edge} {g:Oa (Nat×Bool)}:FV P ⟨d,.pick c x y,ty,ps,af,g⟩ σ w v:=
 fun ρ ha w' _=>by simp [execOp,ha _ _ hc,ha _ _ hx,asBool]
theorem FV.pick_f {c x y:Operand} {v:Vc} (hc:ev σ c=some (.bool false)) (hy:ev σ y=some v) {d:Oa Tmp} {ty:TypeId} {ps:String} {af:Array Edge} {g:Oa (Nat×Bool)}:FV P ⟨d,.pick c x y,ty,ps,af,g⟩ σ w v:=
 fun ρ ha w' _=>by simp [execOp,ha _ _ hc,ha _ _ hy,asBool]
theorem FV.len_slice {x:Operand} {t e:TypeId} {A:Oa Addr} {m c:Nat} (ht:P.underlying t=some (.slice e)) (hx:ev σ x=some (.slice A m c)) {d:Oa Tmp} {ty:TypeId} {ps:String} {af:Array Edge} {g:Oa (Nat×Bool)} :
  FV P ⟨d,.call { callee:=.builtin .len,args:=#[x],argTypes:=#[t] },ty,ps,af,g⟩ σ w (.int .i64 m):=
 fun ρ ha w' _=>by simp [execOp,resolve,invoke,builtin,ha _ _ hx,Builtin.len_,run_underlying ht,goInt]
theorem FV.not {x:Operand} {b:Bool} (hx:ev σ x=some (.bool b)) {d:Oa Tmp} {t ty:TypeId} {ps:String} {af:Array Edge} {g:Oa (Nat×Bool)}:FV P ⟨d,.unOp .not t x,ty,ps,af,g⟩ σ w (.bool (!b)):=
 fun ρ ha w' _=>by simp [execOp,ha _ _ hx,go_sem]
end
section
variable {P:Program} {σ:Lb (Nat×Vc)} {w:World} {k:IntKind} {x y:Operand} {i j r:Int} {d:Oa Tmp} {t t' ty:TypeId} {ps:String} {af:Array Edge} {g:Oa (Nat×Bool)} (hx:ev σ x=some (.int k i)) (hy:ev σ y=some (.int k j))
include hx hy
theorem FV.lss:FV P ⟨d,.binOp .lss t x y t', ty,ps,af,g⟩ σ w (.bool (decide (i<j))):=fun ρ ha w' _=>by simp [execOp,ha _ _ hx,ha _ _ hy,go_sem]
theorem FV.leq:FV P ⟨d,.binOp .leq t x y t', ty,ps,af,g⟩ σ w (.bool (decide (i<=j))):=fun ρ ha w' _=>by simp [execOp,ha _ _ hx,ha _ _ hy,go_sem]
theorem FV.gtr:FV P ⟨d,.binOp .gtr t x y t', ty,ps,af,g⟩ σ w (.bool (decide (j<i))):=fun ρ ha w' _=>by simp [execOp,ha _ _ hx,ha _ _ hy,go_sem]
theorem FV.geq:FV P ⟨d,.binOp .geq t x y t', ty,ps,af,g⟩ σ w (.bool (decide (j<=i))):=fun ρ ha w' _=>by simp [execOp,ha _ _ hx,ha _ _ hy,go_sem]
theorem FV.add (hr:k.wrap (i+j)=r):FV P ⟨d,.binOp .add t x y t', ty,ps,af,g⟩ σ w (.int k r):=fun ρ ha w' _=>by subst hr; simp [execOp,ha _ _ hx,ha _ _ hy,go_sem]
theorem FV.sub (hr:k.wrap (i-j)=r):FV P ⟨d,.binOp .sub t x y t', ty,ps,af,g⟩ σ w (.int k r):=fun ρ ha w' _=>by subst hr; simp [execOp,ha _ _ hx,ha _ _ hy,go_sem]
theorem FV.mul (hr:k.wrap (i*j)=r):FV P ⟨d,.binOp .mul t x y t', ty,ps,af,g⟩ σ w (.int k r):=fun ρ ha w' _=>by subst hr; simp [execOp,ha _ _ hx,ha _ _ hy,go_sem]
end
section
variable {P:Program} {σ:Lb (Nat×Vc)} {w:World} {x y:Operand} {d:Oa Tmp} {t t' ty:TypeId} {ps:String} {af:Array Edge} {g:Oa (Nat×Bool)}
theorem lR (i j:Int):(i==j)=decide (i=j):=by by_cases h:i=j<;>simp [h]
theorem FV.eql {k:IntKind} {i j:Int} (hx:ev σ x=some (.int k i)) (hy:ev σ y=some (.int k j)):FV P ⟨d,.binOp .eql t x y t', ty,ps,af,g⟩ σ w (.bool (decide (i=j))):=
 fun ρ ha w' _=>by simp [execOp,ha _ _ hx,ha _ _ hy,go_sem]; exact lR i j
theorem FV.neq {k:IntKind} {i j:Int} (hx:ev σ x=some (.int k i)) (hy:ev σ y=some (.int k j)):FV P ⟨d,.binOp .neq t x y t', ty,ps,af,g⟩ σ w (.bool (!decide (i=j))):=
 fun ρ ha w' _=>by simp [execOp,ha _ _ hx,ha _ _ hy,go_sem]; exact congrArg (!·) (lR i j)
def kf (P:Program) (s f off:Nat):Bool:=match P.underlying s with
 | some (.struct fs)=>match fs[f]? with
  | some fd=>fd.offset==off&&(match P.info? fd.type with
   | some i=>i.size != 0
   | none=>false)
  | none=>false
 | _=>false
def ow (P:Program) (t:TypeId):Bool:=match P.underlying t with
 | some (.struct _)=>false
 | some (.array _ _)=>false
 | some _=>true
 | none=>false
def pN (P:Program) (t:TypeId) (m:Nat):Bool:=(match P.underlying t with
 | some (.struct _)=>true
 | some (.array _ _)=>true
 | _=>false)&&(match P.info? t with
 | some i=>i.size==m
 | none=>false)
def ij (P:Program) (t m:Nat):Bool:=match P.underlying t with
 | some (.slice e)=>(match P.info? e with
  | some i=>i.size==m
  | none=>false)
 | _=>false
def arrB (P:Program) (t len m:Nat):Bool:=match P.underlying t with
 | some (.array l e)=>l==len&&(match P.info? e with
  | some i=>i.size==m
  | none=>false)
 | _=>false
theorem FV.fieldAddr {f off:Nat} (hf:kf P t f off=true) {p:Addr} (hx:ev σ x=some (.pointer (some p))):FV P ⟨d,.fieldAddr t x f,ty,ps,af,g⟩ σ w (.pointer (some (p.add off))):=by
 refine fun ρ ha w' _=>?_
 unfold kf at hf
 split at hf
 ·rename_i fs hu
  split at hf
  ·rename_i fd hfd
   split at hf
   ·rename_i i hi
    simp at hf
    simp [execOp,ha _ _ hx,Instr.fieldAt,run_underlying hu,hfd,Instr.sureAddr,fieldPlace,sizeOf,typeInfo,hi,hf.1,hf.2]
   ·simp at hf
  ·cases hf
 ·cases hf
theorem FV.load1 (ht:ow P t=true) {p:Addr} {v:Vc} (hx:ev σ x=some (.pointer (some p))) (hc:w.cell? p=some v):FV P ⟨d,.load t x,ty,ps,af,g⟩ σ w v:=by
 refine fun ρ ha w' hw=>?_
 have hc' :=hw.cell (p:=p) (by simp) hc
 unfold ow at ht
 split at ht
 ·cases ht
 ·cases ht
 ·rename_i u hu1 hu2 hu
  have hagg:(isAgg t).run P w'=.ok false w' :=by
   unfold isAgg
   rw [Sem.run_bind,run_underlying hu w']
   cases u<;>simp_all
  simp [execOp,ha _ _ hx,Instr.loadAt,Instr.sureAddr,loadVar,hagg,hc']
 ·cases ht
theorem FV.loadN {cs:Lb Vc} (ht:pN P t cs.length=true) {p:Addr} (hx:ev σ x=some (.pointer (some p))) (hc:∀ j v,cs[j]? = some v->w.cell? (p.add j)=some v):FV P ⟨d,.load t x,ty,ps,af,g⟩ σ w (.agg cs.toArray):=by
 refine fun ρ ha w' hw=>?_
 have hl:(loadCells p cs.length).run P w'=.ok cs.toArray w' :=
  run_loadCells_list (P:=P) w' p cs fun j v hv=>hw.cell (by simp) (hc j v hv)
 unfold pN at ht
 rw [Bool.and_eq_true] at ht
 obtain ⟨h1,h2⟩:=ht
 have hagg:(isAgg t).run P w'=.ok true w' :=by
  unfold isAgg
  split at h1
  ·rename_i fs hu; rw [Sem.run_bind,run_underlying hu w']; simp
  ·rename_i l e hu; rw [Sem.run_bind,run_underlying hu w']; simp
  ·cases h1
 split at h2
 ·rename_i i hi
  have hs:i.size=cs.length:=by simpa using h2
  simp [execOp,ha _ _ hx,Instr.loadAt,Instr.sureAddr,loadVar,hagg,sizeOf,typeInfo,hi,hs,hl]
 ·cases h2
theorem FV.indexAddr {m len c k:Nat} {kd:IntKind} {i:Int} {A:Oa Addr} {p:Addr} (ht:ij P t m=true) (hx:ev σ x=some (.slice A len c)) (hy:ev σ y=some (.int kd i)) (hA:A=some p) (hi:i=(k:Int)) (hk:k<len) :
  FV P ⟨d,.indexAddr t x y,ty,ps,af,g⟩ σ w (.pointer (some (p.add (k*m)))):=by
 refine fun ρ ha w' _=>?_
 subst hA hi
 unfold ij at ht
 split at ht
 ·rename_i e hu
  split at ht
  ·rename_i j hj
   have hs:j.size=m:=by simpa using ht
   simp [execOp,ha _ _ hx,ha _ _ hy,Instr.indexAt,asIntOf,run_underlying hu,sizeOf,typeInfo,hj,hs,hk]
  ·cases ht
 ·cases ht
theorem FV.indexArr {m len k:Nat} {kd:IntKind} {i:Int} {p:Addr} (ht:arrB P t len m=true) (hx:ev σ x=some (.pointer (some p))) (hy:ev σ y=some (.int kd i)) (hi:i=(k:Int)) (hk:k<len) :
  FV P ⟨d,.indexAddr t x y,ty,ps,af,g⟩ σ w (.pointer (some (p.add (k*m)))):=by
 refine fun ρ ha w' _=>?_
 subst hi
 unfold arrB at ht
 split at ht
 ·rename_i l e hu
  rw [Bool.and_eq_true] at ht
  obtain ⟨h1,h2⟩:=ht
  have hl:l=len:=by simpa using h1
  subst hl
  split at h2
  ·rename_i j hj
   have hs:j.size=m:=by simpa using h2
   simp [execOp,ha _ _ hx,ha _ _ hy,Instr.indexAt,Instr.sureAddr,asIntOf,run_underlying hu,sizeOf,typeInfo,hj,hs,hk]
  ·cases h2
 ·cases ht
theorem FV.indexS {kd:IntKind} {s:ByteArray} {i:Int} {k:Nat} (ht:P.underlying t=some .string) (hx:ev σ x=some (.string s)) (hy:ev σ y=some (.int kd i)) (hi:i=(k:Int)) (hk:k<s.size) :
  FV P ⟨d,.index t x y,ty,ps,af,g⟩ σ w (.int .u8 ((s[k]'hk).toNat:Int)):=by
 refine fun ρ ha w' _=>?_
 subst hi
 simp [execOp,ha _ _ hx,ha _ _ hy,go_sem,ht,hk]
theorem FV.extract {k:Nat} {vs:Array Vc} {v:Vc} (hx:ev σ x=some (.tuple vs)) (hv:vs[k]? = some v):FV P ⟨d,.extract x k,ty,ps,af,g⟩ σ w v:=
 fun ρ ha w' _=>by simp [execOp,ha _ _ hx,Instr.extract,hv]
end
section
variable {P:Program} {σ:Lb (Nat×Vc)} {w:World} {k:IntKind} {x y:Operand} {i j:Nat} {d:Oa Tmp} {t t' ty:TypeId} {ps:String} {af:Array Edge} {g:Oa (Nat×Bool)} (hx:ev σ x=some (.int k ((i:Nat):Int))) (hy:ev σ y=some (.int k ((j:Nat):Int)))
include hx hy
theorem FV.lssN:FV P ⟨d,.binOp .lss t x y t', ty,ps,af,g⟩ σ w (.bool (decide (i<j))):=by rw [<- show decide ((i:Int)<j)=decide (i<j) from decide_eq_decide.2 (by omega)]; exact FV.lss hx hy
theorem FV.leqN:FV P ⟨d,.binOp .leq t x y t', ty,ps,af,g⟩ σ w (.bool (decide (i<=j))):=by rw [<- show decide ((i:Int)<=j)=decide (i<=j) from decide_eq_decide.2 (by omega)]; exact FV.leq hx hy
theorem FV.gtrN:FV P ⟨d,.binOp .gtr t x y t', ty,ps,af,g⟩ σ w (.bool (decide (j<i))):=by rw [<- show decide ((j:Int)<i)=decide (j<i) from decide_eq_decide.2 (by omega)]; exact FV.gtr hx hy
theorem FV.geqN:FV P ⟨d,.binOp .geq t x y t', ty,ps,af,g⟩ σ w (.bool (decide (j<=i))):=by rw [<- show decide ((j:Int)<=i)=decide (j<=i) from decide_eq_decide.2 (by omega)]; exact FV.geq hx hy
theorem FV.eqlN:FV P ⟨d,.binOp .eql t x y t', ty,ps,af,g⟩ σ w (.bool (decide (i=j))):=by rw [<- show decide ((i:Int)=j)=decide (i=j) from decide_eq_decide.2 (by omega)]; exact FV.eql hx hy
theorem FV.neqN:FV P ⟨d,.binOp .neq t x y t', ty,ps,af,g⟩ σ w (.bool (!decide (i=j))):=by rw [<- show decide ((i:Int)=j)=decide (i=j) from decide_eq_decide.2 (by omega)]; exact FV.neq hx hy
end
theorem FV.addN {P:Program} {σ:Lb (Nat×Vc)} {w:World} {x y:Operand} {i j:Nat} {d:Oa Tmp} {t t' ty:TypeId} {ps:String} {af:Array Edge} {g:Oa (Nat×Bool)}
  (hx:ev σ x=some (.int .i64 ((i:Nat):Int))) (hy:ev σ y=some (.int .i64 ((j:Nat):Int))) (h:i+j<=9223372036854775807):FV P ⟨d,.binOp .add t x y t', ty,ps,af,g⟩ σ w (.int .i64 ((i+j:Nat):Int)):=
 FV.add hx hy (by rw [IntWalk.i64_in _ (by omega)]; rfl)
end
section
open Go Go.RowKit
def evs (σ:Lb (Nat×Vc)):Lb Operand->Lb Vc->Prop
 | [],vs=>vs=[]
 | _::_,[]=>False
 | x::xs,v::vs=>ev σ x=some v/\evs σ xs vs
theorem aB {σ:Lb (Nat×Vc)}:evs σ [] []:=rfl
theorem az {σ:Lb (Nat×Vc)} {x:Operand} {v:Vc} {xs:Lb Operand} {vs:Lb Vc} (h:ev σ x=some v) (h2:evs σ xs vs):evs σ (x::xs) (v::vs):=⟨h,h2⟩
theorem bO {σ:Lb (Nat×Vc)} {ρ:Operand->Vc} (hρ:∀ x u,ev σ x=some u->ρ x=u):∀ {xs:Lb Operand} {vs:Lb Vc},evs σ xs vs->xs.map ρ=vs
 | [],vs,h=>by simpa [evs] using h.symm
 | x::xs,[],h=>h.elim
 | x::xs,v::vs,⟨h1,h2⟩=>by rw [List.map_cons,hρ x v h1,bO hρ h2]
/-! ### Words of 64 bits -/
def shlU (x:Ua) (k:Nat):Ua:=if k<64 then UInt64.ofNat (x.toNat*2^k) else 0
def shrU (x:Ua) (k:Nat):Ua:=if k<64 then UInt64.ofNat (x.toNat/2^k) else 0
def ac (x:Int):Ua:=UInt64.ofNat (x%18446744073709551616).toNat
def jX (x:Ua):Int:=if x.toNat<9223372036854775808 then (x.toNat:Int) else (x.toNat:Int)-18446744073709551616
theorem bC (a:Ua):a.toNat<18446744073709551616:=a.toNat_lt
theorem cM (x:Int):IntKind.u64.wrap x=((ac x).toNat:Int):=by
 unfold ac
 have h1:0<=x%18446744073709551616:=Int.emod_nonneg _ (by decide)
 have h2:x%18446744073709551616<18446744073709551616:=Int.emod_lt_of_pos _ (by decide)
 rw [UInt64.toNat_ofNat_of_lt' (by simp [UInt64.size]; omega)]
 simp only [IntKind.wrap,IntKind.bits,IntKind.signed]
 simp
 omega
theorem lW (x:Ua):IntKind.i64.wrap (x.toNat:Int)=jX x:=by
 have:=bC x
 unfold jX
 split
 ·rw [IntWalk.i64_in _ (by omega)]
 ·simp only [IntKind.wrap,IntKind.bits,IntKind.signed]
  simp
  omega
theorem cI (n:Nat):ac (n:Int)=UInt64.ofNat n:=by
 apply UInt64.toNat_inj.1
 have:=cM (n:Int)
 rw [<- Int.ofNat_inj,<- this]
 simp only [IntKind.wrap,IntKind.bits,IntKind.signed]
 simp
theorem iS (x:Ua):ac (x.toNat:Int)=x:=by rw [cI]; simp
theorem oG (a b:Ua):IntKind.u64.wrap ((a.toNat:Int)+(b.toNat:Int))=((a+b).toNat:Int):=by
 rw [cM,<- Int.natCast_add,cI,UInt64.ofNat_add]; simp
theorem oJ (a b:Ua):IntKind.u64.wrap ((a.toNat:Int)*(b.toNat:Int))=((a*b).toNat:Int):=by
 rw [cM,<- Int.natCast_mul,cI,UInt64.ofNat_mul]; simp
theorem jp (a b:Ua):IntKind.u64.wrap ((a.toNat:Int)-(b.toNat:Int))=((a-b).toNat:Int):=by
 have ha:=bC a; have hb:=bC b
 rw [UInt64.toNat_sub]
 simp only [IntKind.wrap,IntKind.bits,IntKind.signed]
 simp
 omega
theorem or64 (a b:Ua):bits .or .u64 (a.toNat:Int) (b.toNat:Int)=((a|||b).toNat:Int):=by rw [u64_or_nat _ _ (bC a) (bC b),UInt64.toNat_or]
theorem and64 (a b:Ua):bits .and .u64 (a.toNat:Int) (b.toNat:Int)=((a&&&b).toNat:Int):=by rw [u64_and_nat _ _ (bC a) (bC b),UInt64.toNat_and]
theorem xor64 (a b:Ua):bits .xor .u64 (a.toNat:Int) (b.toNat:Int)=((a^^^b).toNat:Int):=by rw [u64_xor_nat _ _ (bC a) (bC b),UInt64.toNat_xor]
section
variable {P:Program} {σ:Lb (Nat×Vc)} {w:World} {x y:Operand} {d:Oa Tmp} {t t' ty:TypeId} {ps:String} {af:Array Edge} {g:Oa (Nat×Bool)} {a b:Ua}
theorem FV.rem0 {k:IntKind} {i j:Int} (hx:ev σ x=some (.int k i)) (hy:ev σ y=some (.int k j)) (h0:j≠0):FV P ⟨d,.binOp .rem t x y t', ty,ps,af,g⟩ σ w (.int k (i.tmod j)):=fun ρ ha w' _=>by simp [execOp,ha _ _ hx,ha _ _ hy,go_sem,h0]
theorem FV.quo0 {k:IntKind} {i j r:Int} (hx:ev σ x=some (.int k i)) (hy:ev σ y=some (.int k j)) (h0:j≠0) (hr:k.wrap (i.tdiv j)=r):FV P ⟨d,.binOp .quo t x y t', ty,ps,af,g⟩ σ w (.int k r):=fun ρ ha w' _=>by subst hr; simp [execOp,ha _ _ hx,ha _ _ hy,go_sem,h0]
section
variable (hx:ev σ x=some (.int .u64 (a.toNat:Int))) (hy:ev σ y=some (.int .u64 (b.toNat:Int)))
include hx hy
theorem FV.lssU:FV P ⟨d,.binOp .lss t x y t', ty,ps,af,g⟩ σ w (.bool (decide (a<b))):=by rw [<- show decide ((a.toNat:Int)<b.toNat)=decide (a<b) from decide_eq_decide.2 (by rw [UInt64.lt_iff_toNat_lt]; omega)]; exact FV.lss hx hy
theorem FV.leqU:FV P ⟨d,.binOp .leq t x y t', ty,ps,af,g⟩ σ w (.bool (decide (a<=b))):=by rw [<- show decide ((a.toNat:Int)<=b.toNat)=decide (a<=b) from decide_eq_decide.2 (by rw [UInt64.le_iff_toNat_le]; omega)]; exact FV.leq hx hy
theorem FV.gtrU:FV P ⟨d,.binOp .gtr t x y t', ty,ps,af,g⟩ σ w (.bool (decide (b<a))):=by rw [<- show decide ((b.toNat:Int)<a.toNat)=decide (b<a) from decide_eq_decide.2 (by rw [UInt64.lt_iff_toNat_lt]; omega)]; exact FV.gtr hx hy
theorem FV.geqU:FV P ⟨d,.binOp .geq t x y t', ty,ps,af,g⟩ σ w (.bool (decide (b<=a))):=by rw [<- show decide ((b.toNat:Int)<=a.toNat)=decide (b<=a) from decide_eq_decide.2 (by rw [UInt64.le_iff_toNat_le]; omega)]; exact FV.geq hx hy
theorem FV.eqlU:FV P ⟨d,.binOp .eql t x y t', ty,ps,af,g⟩ σ w (.bool (decide (a=b))):=by rw [<- show decide ((a.toNat:Int)=b.toNat)=decide (a=b) from decide_eq_decide.2 (by rw [<- UInt64.toNat_inj]; omega)]; exact FV.eql hx hy
theorem FV.neqU:FV P ⟨d,.binOp .neq t x y t', ty,ps,af,g⟩ σ w (.bool (!decide (a=b))):=by rw [<- show decide ((a.toNat:Int)=b.toNat)=decide (a=b) from decide_eq_decide.2 (by rw [<- UInt64.toNat_inj]; omega)]; exact FV.neq hx hy
theorem FV.addU:FV P ⟨d,.binOp .add t x y t', ty,ps,af,g⟩ σ w (.int .u64 ((a+b).toNat:Int)):=FV.add hx hy (oG a b)
theorem FV.subU:FV P ⟨d,.binOp .sub t x y t', ty,ps,af,g⟩ σ w (.int .u64 ((a-b).toNat:Int)):=FV.sub hx hy (jp a b)
theorem FV.mulU:FV P ⟨d,.binOp .mul t x y t', ty,ps,af,g⟩ σ w (.int .u64 ((a*b).toNat:Int)):=FV.mul hx hy (oJ a b)
theorem FV.andU:FV P ⟨d,.binOp .and t x y t', ty,ps,af,g⟩ σ w (.int .u64 ((a&&&b).toNat:Int)):=fun ρ ha w' _=>by rw [<- and64]; simp [execOp,ha _ _ hx,ha _ _ hy,go_sem,bits]
theorem FV.orU:FV P ⟨d,.binOp .or t x y t', ty,ps,af,g⟩ σ w (.int .u64 ((a|||b).toNat:Int)):=fun ρ ha w' _=>by rw [<- or64]; simp [execOp,ha _ _ hx,ha _ _ hy,go_sem,bits]
theorem FV.xorU:FV P ⟨d,.binOp .xor t x y t', ty,ps,af,g⟩ σ w (.int .u64 ((a^^^b).toNat:Int)):=fun ρ ha w' _=>by rw [<- xor64]; simp [execOp,ha _ _ hx,ha _ _ hy,go_sem,bits]
theorem FV.remU (h0:b≠0):FV P ⟨d,.binOp .rem t x y t', ty,ps,af,g⟩ σ w (.int .u64 ((a%b).toNat:Int)):=fun ρ ha w' hw=>by
 have hb:¬ (b.toNat:Int)=0:=fun e=>h0 (UInt64.toNat_inj.1 (by simpa using e))
 have e:(a.toNat:Int).tmod (b.toNat:Int)=((a%b).toNat:Int):=by rw [UInt64.toNat_mod]; rfl
 rw [<- e]; exact FV.rem0 hx hy hb ρ ha w' hw
theorem FV.quoU (h0:b≠0):FV P ⟨d,.binOp .quo t x y t', ty,ps,af,g⟩ σ w (.int .u64 ((a/b).toNat:Int)):=fun ρ ha w' hw=>by
 have hb:¬ (b.toNat:Int)=0:=fun e=>h0 (UInt64.toNat_inj.1 (by simpa using e))
 have e:IntKind.u64.wrap ((a.toNat:Int).tdiv (b.toNat:Int))=((a/b).toNat:Int):=by
  rw [show (a.toNat:Int).tdiv (b.toNat:Int)=((a/b).toNat:Int) by rw [UInt64.toNat_div]; rfl,cM,iS]
 exact FV.quo0 hx hy hb e ρ ha w' hw
end
theorem FV.negU (hx:ev σ x=some (.int .u64 (a.toNat:Int))):FV P ⟨d,.unOp .neg t x,ty,ps,af,g⟩ σ w (.int .u64 ((-a).toNat:Int)):=fun ρ ha w' _=>by
 have e:=jp 0 a
 rw [UInt64.zero_sub] at e
 simp [execOp,ha _ _ hx,go_sem]
 try simpa using e
theorem FV.shlU {k:IntKind} {j:Nat} (hx:ev σ x=some (.int .u64 (a.toNat:Int))) (hy:ev σ y=some (.int k ((j:Nat):Int))):FV P ⟨d,.binOp .shl t x y t', ty,ps,af,g⟩ σ w (.int .u64 ((shlU a j).toNat:Int)):=fun ρ ha w' _=>by
 have e:IntKind.u64.wrap ((a.toNat:Int)*2^(min j 64))=((Proofs.YtkimkkgicmipbaaGreatDoor.shlU a j).toNat:Int):=by
  unfold Proofs.YtkimkkgicmipbaaGreatDoor.shlU
  split
  ·rename_i h
   rw [Nat.min_eq_left (by omega),show (a.toNat:Int)*2^j=((a.toNat*2^j:Nat):Int) by simp,cM,cI]
  ·rename_i h
   rw [Nat.min_eq_right (by omega),cM,show (a.toNat:Int)*2^64=((a.toNat*18446744073709551616:Nat):Int) by simp,cI]
   have:UInt64.ofNat (a.toNat*18446744073709551616)=0:=by rw [<- UInt64.toNat_inj]; simp
   rw [this]
 have hs:(Op.shift .shl .u64 (a.toNat:Int) k (j:Int)).run P w'=.ok (.int .u64 ((Proofs.YtkimkkgicmipbaaGreatDoor.shlU a j).toNat:Int)) w' :=by
  rw [<- e]; unfold Op.shift; rw [if_neg (by omega)]; simp [IntKind.bits]
 simp [execOp,ha _ _ hx,ha _ _ hy,eqGuard,binOp,hs]
theorem FV.shrU {k:IntKind} {j:Nat} (hx:ev σ x=some (.int .u64 (a.toNat:Int))) (hy:ev σ y=some (.int k ((j:Nat):Int))):FV P ⟨d,.binOp .shr t x y t', ty,ps,af,g⟩ σ w (.int .u64 ((shrU a j).toNat:Int)):=fun ρ ha w' _=>by
 have e:(a.toNat:Int).fdiv (2^(min j 64))=((Proofs.YtkimkkgicmipbaaGreatDoor.shrU a j).toNat:Int):=by
  have hlt:=bC a
  rw [show (2:Int)^(min j 64)=((2^(min j 64):Nat):Int) by simp,show (a.toNat:Int).fdiv ((2^(min j 64):Nat):Int)=((a.toNat/2^(min j 64):Nat):Int) by rw [Int.fdiv_eq_ediv_of_nonneg _ (Int.natCast_nonneg _)]; rfl]
  unfold Proofs.YtkimkkgicmipbaaGreatDoor.shrU
  split
  ·rename_i h
   rw [Nat.min_eq_left (by omega),UInt64.toNat_ofNat_of_lt']
   exact Nat.lt_of_le_of_lt (Nat.div_le_self _ _) hlt
  ·rename_i h
   rw [Nat.min_eq_right (by omega),Nat.div_eq_of_lt (by simpa using hlt)]; rfl
 have hs:(Op.shift .shr .u64 (a.toNat:Int) k (j:Int)).run P w'=.ok (.int .u64 ((Proofs.YtkimkkgicmipbaaGreatDoor.shrU a j).toNat:Int)) w' :=by
  rw [<- e]; unfold Op.shift; rw [if_neg (by omega)]; simp [IntKind.bits]
 simp [execOp,ha _ _ hx,ha _ _ hy,eqGuard,binOp,hs]
end
section
variable {P:Program} {σ:Lb (Nat×Vc)} {w:World} {x y:Operand} {d:Oa Tmp} {s t t' ty:TypeId} {ps:String} {af:Array Edge} {g:Oa (Nat×Bool)}
/-! ### Division, conversions -/
theorem FV.rem {k:IntKind} {i j:Int} (hx:ev σ x=some (.int k i)) (hy:ev σ y=some (.int k j)) (h0:j≠0):FV P ⟨d,.binOp .rem t x y t', ty,ps,af,g⟩ σ w (.int k (i.tmod j)):=fun ρ ha w' _=>by simp [execOp,ha _ _ hx,ha _ _ hy,go_sem,h0]
theorem FV.quo {k:IntKind} {i j r:Int} (hx:ev σ x=some (.int k i)) (hy:ev σ y=some (.int k j)) (h0:j≠0) (hr:k.wrap (i.tdiv j)=r):FV P ⟨d,.binOp .quo t x y t', ty,ps,af,g⟩ σ w (.int k r):=fun ρ ha w' _=>by subst hr; simp [execOp,ha _ _ hx,ha _ _ hy,go_sem,h0]
theorem FV.addc {i j r:Int} (hx:ev σ x=some (.int .i64 i)) (hy:ev σ y=some (.int .i64 j)) (hr:chk (i+j)=some r):FV P ⟨d,.binOp .add t x y t', ty,ps,af,g⟩ σ w (.int .i64 r):=FV.add hx hy (by obtain ⟨rfl,h⟩:=lY hr; exact IntWalk.i64_in _ h)
theorem FV.subc {i j r:Int} (hx:ev σ x=some (.int .i64 i)) (hy:ev σ y=some (.int .i64 j)) (hr:chk (i-j)=some r):FV P ⟨d,.binOp .sub t x y t', ty,ps,af,g⟩ σ w (.int .i64 r):=FV.sub hx hy (by obtain ⟨rfl,h⟩:=lY hr; exact IntWalk.i64_in _ h)
theorem FV.mulc {i j r:Int} (hx:ev σ x=some (.int .i64 i)) (hy:ev σ y=some (.int .i64 j)) (hr:chk (i*j)=some r):FV P ⟨d,.binOp .mul t x y t', ty,ps,af,g⟩ σ w (.int .i64 r):=FV.mul hx hy (by obtain ⟨rfl,h⟩:=lY hr; exact IntWalk.i64_in _ h)
theorem FV.subI {i j:Int} (hx:ev σ x=some (.int .i64 i)) (hy:ev σ y=some (.int .i64 j)) (hr:-9223372036854775808<=i-j/\i-j<=9223372036854775807):FV P ⟨d,.binOp .sub t x y t', ty,ps,af,g⟩ σ w (.int .i64 (i-j)):=FV.sub hx hy (IntWalk.i64_in _ hr)
theorem FV.subN {i j:Nat} (hx:ev σ x=some (.int .i64 ((i:Nat):Int))) (hy:ev σ y=some (.int .i64 ((j:Nat):Int))) (h:j<=i) (h2:i<=9223372036854775807):FV P ⟨d,.binOp .sub t x y t', ty,ps,af,g⟩ σ w (.int .i64 ((i-j:Nat):Int)):=
 FV.sub hx hy (by rw [IntWalk.i64_in _ (by omega)]; omega)
theorem FV.conv {k1 k2:IntKind} {i r:Int} (hs:P.underlying s=some (.int k1)) (ht:P.underlying t=some (.int k2)) (hx:ev σ x=some (.int k1 i)) (hr:k2.wrap i=r):FV P ⟨d,.convert s t x,ty,ps,af,g⟩ σ w (.int k2 r):=fun ρ ha w' _=>by
 subst hr
 simp [execOp,ha _ _ hx,go_sem,hs,ht]
theorem FV.convN {k1:IntKind} {i:Nat} (hs:P.underlying s=some (.int k1)) (ht:P.underlying t=some (.int .i64)) (hx:ev σ x=some (.int k1 ((i:Nat):Int))) (hi:i<=9223372036854775807):FV P ⟨d,.convert s t x,ty,ps,af,g⟩ σ w (.int .i64 ((i:Nat):Int)):=
 FV.conv hs ht hx (IntWalk.i64_in _ (by omega))
theorem FV.convU {k1:IntKind} {i:Int} (hs:P.underlying s=some (.int k1)) (ht:P.underlying t=some (.int .u64)) (hx:ev σ x=some (.int k1 i)):FV P ⟨d,.convert s t x,ty,ps,af,g⟩ σ w (.int .u64 ((ac i).toNat:Int)):=
 FV.conv hs ht hx (cM i)
theorem FV.convUI {a:Ua} (hs:P.underlying s=some (.int .u64)) (ht:P.underlying t=some (.int .i64)) (hx:ev σ x=some (.int .u64 (a.toNat:Int))):FV P ⟨d,.convert s t x,ty,ps,af,g⟩ σ w (.int .i64 (jX a)):=
 FV.conv hs ht hx (lW a)
/-! ### Small bytes -/
theorem FV.rem8 {a b:UInt8} (hx:ev σ x=some (.int .u8 (a.toNat:Int))) (hy:ev σ y=some (.int .u8 (b.toNat:Int))) (h0:b≠0):FV P ⟨d,.binOp .rem t x y t', ty,ps,af,g⟩ σ w (.int .u8 ((a%b).toNat:Int)):=by
 have hb:(b.toNat:Int)≠0:=fun e=>h0 (UInt8.toNat_inj.1 (by simpa using e))
 have:=FV.rem (P:=P) (w:=w) (d:=d) (t:=t) (t' :=t') (ty:=ty) (ps:=ps) (af:=af) (g:=g) hx hy hb
 rwa [show (a.toNat:Int).tmod (b.toNat:Int)=((a%b).toNat:Int) by rw [UInt8.toNat_mod]; rfl] at this
/-! ### Functions, pointers, interfaces, numbers -/
theorem FV.makeFunc {fn:Fn} {first captured:Lb Operand} {vs us:Lb Vc} (hf:evs σ first vs) (hc:evs σ captured us):FV P ⟨d,.makeFunc fn first.toArray captured.toArray,ty,ps,af,g⟩ σ w (.func fn vs.toArray us.toArray):=fun ρ ha w' _=>by
 simp [execOp,Instr.makeFunc,bO ha hf,bO ha hc]
theorem FV.nilCheck {p:Addr} (hx:ev σ x=some (.pointer (some p))):FV P ⟨d,.nilCheck x,ty,ps,af,g⟩ σ w (.pointer (some p)):=fun ρ ha w' _=>by simp [execOp,ha _ _ hx]
theorem FV.min2 {k:IntKind} {i j:Int} (hx:ev σ x=some (.int k i)) (hy:ev σ y=some (.int k j)) {ts:Array TypeId}:FV P ⟨d,.call { callee:=.builtin .min,args:=#[x,y],argTypes:=ts },ty,ps,af,g⟩ σ w (.int k (min i j)):=fun ρ ha w' _=>by
 have e:(if j<i then j else i)=min i j:=by rw [Int.min_def]; split<;>split<;>omega
 simp [execOp,resolve,invoke,builtin,ha _ _ hx,ha _ _ hy,Builtin.min_,Builtin.min2,e]
theorem FV.max2 {k:IntKind} {i j:Int} (hx:ev σ x=some (.int k i)) (hy:ev σ y=some (.int k j)) {ts:Array TypeId}:FV P ⟨d,.call { callee:=.builtin .max,args:=#[x,y],argTypes:=ts },ty,ps,af,g⟩ σ w (.int k (max i j)):=fun ρ ha w' _=>by
 have e:(if i<j then j else i)=max i j:=by rw [Int.max_def]; split<;>split<;>omega
 simp [execOp,resolve,invoke,builtin,ha _ _ hx,ha _ _ hy,Builtin.max_,Builtin.max2,e]
/-! ### Slices of others -/
theorem FV.len {α:Type} [Rep α] {L:Lb Nat} {v:Vc} {xs:Lb α} {e:TypeId} (ht:P.underlying t=some (.slice e)) (hx:ev σ x=some v) (h:Rep.R w L [v] xs) :
  FV P ⟨d,.call { callee:=.builtin .len,args:=#[x],argTypes:=#[t] },ty,ps,af,g⟩ σ w (.int .i64 xs.length):=by
 obtain ⟨A,c,rfl,_⟩:=Rep.sl h
 exact FV.len_slice ht hx
theorem FV.cut {α:Type} [Rep α] {L:Lb Nat} {v:Vc} {xs:Lb α} (ht:ij P t (Rep.size α)=true) (hx:ev σ x=some v) (h:Rep.R w L [v] xs) {lo hi:Oa Operand} {l u:Nat}
  (hlo:match lo with | none=>l=0 | some y=>∃ k,ev σ y=some (.int k ((l:Nat):Int))) (hhi:match hi with | none=>u=xs.length | some y=>∃ k,ev σ y=some (.int k ((u:Nat):Int))) (hlu:l<=u) (hu:u<=xs.length) :
  ∃ v', FV P ⟨d,.slice t x lo hi none,ty,ps,af,g⟩ σ w v' /\Rep.R w L [v'] ((xs.take u).drop l):=by
 obtain ⟨A,c,e,hc1,hc2,hc3,hE⟩:=h
 cases e
 unfold ij at ht
 split at ht
 ·rename_i e hun
  split at ht
  ·rename_i j hj
   have hs:j.size=Rep.size α:=by simpa using ht
   have hlen:((xs.take u).drop l).length=u-l:=by rw [List.length_drop,List.length_take]; omega
   refine ⟨.slice (if c=l then A else A.map (·.add (l*Rep.size α))) (u-l) (c-l),?_,_,c-l,by rw [hlen],by rw [hlen]; omega,by omega,by rw [hlen]; unfold jw at *; omega,fun i hi=>?_⟩
   ·intro ρ ha w' _
    have hb:(Instr.sliceBounds true xs.length c (lo.map ρ) (hi.map ρ) none).run P w'=.ok (l,u,c) w' :=by
     cases lo with
     | none=>
      subst hlo
      cases hi with
      | none=>subst hhi; simp [Instr.sliceBounds]
      | some y=>obtain ⟨k,hy⟩:=hhi; simp [Instr.sliceBounds,Instr.sliceBound,ha _ _ hy,asIntOf]; omega
     | some z=>
      obtain ⟨k,hz⟩:=hlo
      cases hi with
      | none=>subst hhi; simp [Instr.sliceBounds,Instr.sliceBound,ha _ _ hz,asIntOf]; omega
      | some y=>obtain ⟨k', hy⟩:=hhi; simp [Instr.sliceBounds,Instr.sliceBound,ha _ _ hy,ha _ _ hz,asIntOf]; rw [if_pos (by omega)]; simp; omega
    have hsz:(sizeOf e).run P w'=.ok (Rep.size α) w' :=by simp [sizeOf,typeInfo,hj,hs]
    simp only [execOp,ha _ _ hx,Instr.sliceAt]
    simp [Instr.slice,run_underlying hun,hb,hsz]
   ·have hi' : i<u-l:=by rw [hlen] at hi; exact hi
    obtain ⟨ad,rfl,hnb,cs,hr,hcell⟩:=hE (l+i) (by omega)
    have hne:¬ c=l:=by omega
    refine ⟨ad.add (l*Rep.size α),by rw [if_neg hne]; rfl,by rw [ef]; exact hnb,cs,?_,fun j u' hu' =>?_⟩
    ·have:((xs.take u).drop l)[i]=xs[l+i]'(by omega):=by simp
     rw [this]; exact hr
    ·have:=hcell j u' hu'
     rw [cp,show l*Rep.size α+(i*Rep.size α+j)=(l+i)*Rep.size α+j by rw [Nat.add_mul]; omega]
     exact this
  ·cases ht
 ·cases ht
end
end
section
open Go Go.RowKit
def Reach (P:Program) (Z:Machine->Prop) (m:Machine):Prop:=∃ m', Steps P m m' /\Z m'
section
variable {P:Program} {Z Z' : Machine->Prop} {m m1:Machine}
theorem Reach.step (h:step P m=.next m1) (k:Reach P Z m1):Reach P Z m:=let ⟨m', s,z⟩:=k; ⟨m', Steps.head h s,z⟩
theorem Reach.steps (h:Steps P m m1) (k:Reach P Z m1):Reach P Z m:=let ⟨m', s,z⟩:=k; ⟨m', Steps.trans h s,z⟩
theorem Reach.now (h:Z m):Reach P Z m:=⟨m,Steps.refl P m,h⟩
end
def fb (f:FuncId) (k:CallKind) (r:Oa Nat):Frame:={ (default:Frame) with fn:=f,kind:=k,roundOf:=r }
def Ends (P:Program) (f:FuncId) (cs:Lb Frame) (R:Ending->World->Prop) (m:Machine):Prop:=∃ e w' fr,R e w' /\e≠.outgrown/\m=lone fr cs w' /\fr.fn=f/\fr.leaving P w' e
def aj (w:World) (R:World->Vc->Prop):Ending->World->Prop:=fun e w' =>∃ v,e=.returned v/\R w' v/\Agree [] w w'
def MX (P:Program) (Z:Machine->Prop) (b:Frame) (n:Nat) (ds:Lb Deferred) (cs:Lb Frame) (k:Lb Item) (σ:Lb (Nat×Vc)) (w:World):Prop:=
 ∀ a w', Fr n ds σ a->Agree [] w w'->Reach P Z (lone (b.atR a k) cs w')
def RG (P:Program) (Z:Machine->Prop) (b:Frame) (n:Nat) (ds:Lb Deferred) (cs:Lb Frame) (ops:Array Oper) (l:Lb Oper) (k:Lb Item) (σ:Lb (Nat×Vc)) (w:World):Prop:=
 ∀ i,ops.toList.drop i=l->∀ a w', Fr n ds σ a->Agree [] w w'->Reach P Z (lone (b.atR a (.inRegion ops (List.range' i l.length)::k)) cs w')
def RT (P:Program) (Z:Machine->Prop) (b:Frame) (n:Nat) (ds:Lb Deferred) (cs:Lb Frame) (σ:Lb (Nat×Vc)) (w:World):Prop:=
 ∀ a w' todo,Fr n ds σ a->Agree [] w w'->Reach P Z (lone { b.atR a todo with mode:=.returning } cs w')
def Back (P:Program) (Z:Machine->Prop) (fr:Frame) (cs:Lb Frame) (X:Vc->World->Prop):Prop:=∀ v w1 w', X v w1->Agree [] w1 w'->Reach P Z (lone (fr.finish v) cs w')
def RetOK (P:Program) (Z:Machine->Prop) (f:FuncId) (cs:Lb Frame) (X:Vc->World->Prop):Prop:=∀ v w1 w' fr,X v w1->Agree [] w1 w'->fr.fn=f->fr.leaving P w' (.returned v)->Reach P Z (lone fr cs w')
theorem RetOK.of_back {P:Program} {Z:Machine->Prop} {f:FuncId} {fr:Frame} {cs:Lb Frame} {X:Vc->World->Prop} (h:Back P Z fr cs X):RetOK P Z f (fr::cs) X:=fun v w1 w' _ hx hw _ hl=>.step (step_leave_returned hl) (h v w1 w' hx hw)
section
variable {P:Program} {Z:Machine->Prop} {b:Frame} {n:Nat} {ds:Lb Deferred} {cs:Lb Frame} {k:Lb Item} {σ τ:Lb (Nat×Vc)} {w:World}
theorem MX.seq {x y:Code} (h:MX P Z b n ds cs (.code x::.code y::k) σ w):MX P Z b n ds cs (.code (.seq x y)::k) σ w:=fun a w' ha hw=>.step stepR_seq (h a w' ha hw)
theorem MX.block {id:Nat} {c:Code} (h:MX P Z b n ds cs (.code c::.inBlock id::k) σ w):MX P Z b n ds cs (.code (.block id c)::k) σ w:=fun a w' ha hw=>.step stepR_block (h a w' ha hw)
theorem MX.inBlock {id:Nat} (h:MX P Z b n ds cs k σ w):MX P Z b n ds cs (.inBlock id::k) σ w:=fun a w' ha hw=>.step stepR_inBlock (h a w' ha hw)
theorem MX.scope {c:Code} (h:MX P Z b n ds cs (.code c::.inScope c::k) σ w):MX P Z b n ds cs (.code (.scope c)::k) σ w:=fun a w' ha hw=>.step (step_lone_go (by simp [stepG,stepG.exec,Frame.atR])) (h a w' ha hw)
theorem MX.skip (h:MX P Z b n ds cs k σ w):MX P Z b n ds cs (.code .skip::k) σ w:=fun a w' ha hw=>.step stepR_skip (h a w' ha hw)
theorem MX.label {l:Nat} (h:MX P Z b n ds cs k σ w):MX P Z b n ds cs (.code (.label l)::k) σ w:=fun a w' ha hw=>.step stepR_label (h a w' ha hw)
theorem MX.exit {id:Nat} {k' : Lb Item} (hx:exitTo id k=some k') (h:MX P Z b n ds cs k' σ w):MX P Z b n ds cs (.code (.exit id)::k) σ w:=fun a w' ha hw=>.step (stepR_exit hx) (h a w' ha hw)
theorem MX.loop1 {c:Code} (h:MX P Z b n ds cs (.code c::.inLoop c::k) σ w):MX P Z b n ds cs (.code (.loop c)::k) σ w:=fun a w' ha hw=>.step stepR_loop (h a w' ha hw)
theorem MX.again1 {c:Code} (h:MX P Z b n ds cs (.code c::.inLoop c::k) σ w):MX P Z b n ds cs (.inLoop c::k) σ w:=fun a w' ha hw=>.step stepR_inLoop (h a w' ha hw)
theorem MX.ret (hb:b.roundOf=none) (h:RT P Z b n ds cs σ w):MX P Z b n ds cs (.code .ret::k) σ w:=fun a w' ha hw=>.step (stepR_ret hb) (h a w' _ ha hw)
theorem MX.fin (hb:b.roundOf=none) (h:RT P Z b n ds cs σ w):MX P Z b n ds cs [] σ w:=fun a w' ha hw=>.step (stepR_end hb) (h a w' _ ha hw)
theorem MX.sub (h:MX P Z b n ds cs k τ w) (hs:Sub σ τ):MX P Z b n ds cs k σ w:=fun a w' ha hw=>h a w' (ha.sub hs.look) hw
theorem MX.cond_t {c:Operand} {x y:Code} (hc:ev σ c=some (.bool true)) (h:MX P Z b n ds cs (.code x::k) σ w):MX P Z b n ds cs (.code (.cond c x y)::k) σ w:=fun a w' ha hw=>.step (stepR_cond (ha.ev hc)) (h a w' ha hw)
theorem MX.cond_f {c:Operand} {x y:Code} (hc:ev σ c=some (.bool false)) (h:MX P Z b n ds cs (.code y::k) σ w):MX P Z b n ds cs (.code (.cond c x y)::k) σ w:=fun a w' ha hw=>.step (stepR_cond (ha.ev hc)) (h a w' ha hw)
theorem MX.ifd {β:Type} {c:Operand} {x y:Code} {p:Prop} [Decidable p] {A B:Oa β} {r:β} (hc:ev σ c=some (.bool (decide p))) (h:(if p then A else B)=some r)
  (ht:p->A=some r->MX P Z b n ds cs (.code x::k) σ w) (hf:¬ p->B=some r->MX P Z b n ds cs (.code y::k) σ w):MX P Z b n ds cs (.code (.cond c x y)::k) σ w:=by
 by_cases hp:p
 ·exact MX.cond_t (by rw [hc,decide_eq_true hp]) (ht hp (lg hp h))
 ·exact MX.cond_f (by rw [hc,decide_eq_false hp]) (hf hp (lr hp h))
theorem MX.ifn {β:Type} {c:Operand} {x y:Code} {p:Prop} [Decidable p] {A B:Oa β} {r:β} (hc:ev σ c=some (.bool (!decide p))) (h:(if p then A else B)=some r)
  (ht:p->A=some r->MX P Z b n ds cs (.code y::k) σ w) (hf:¬ p->B=some r->MX P Z b n ds cs (.code x::k) σ w):MX P Z b n ds cs (.code (.cond c x y)::k) σ w:=by
 by_cases hp:p
 ·exact MX.cond_f (by rw [hc,decide_eq_true hp]; rfl) (ht hp (lg hp h))
 ·exact MX.cond_t (by rw [hc,decide_eq_false hp]; rfl) (hf hp (lr hp h))
theorem MX.ifb {β:Type} {c:Operand} {x y:Code} {q:Bool} {A B:Oa β} {r:β} (hc:ev σ c=some (.bool q)) (h:(if q=true then A else B)=some r)
  (ht:q=true->A=some r->MX P Z b n ds cs (.code x::k) σ w) (hf:¬ q=true->B=some r->MX P Z b n ds cs (.code y::k) σ w):MX P Z b n ds cs (.code (.cond c x y)::k) σ w:=
 MX.ifd (p:=q=true) (by rw [hc]; simp) h ht hf
theorem MX.ifnb {β:Type} {c:Operand} {x y:Code} {q:Bool} {A B:Oa β} {r:β} (hc:ev σ c=some (.bool (!q))) (h:(if q=true then A else B)=some r)
  (ht:q=true->A=some r->MX P Z b n ds cs (.code y::k) σ w) (hf:¬ q=true->B=some r->MX P Z b n ds cs (.code x::k) σ w):MX P Z b n ds cs (.code (.cond c x y)::k) σ w:=
 MX.ifn (p:=q=true) (by rw [hc]; simp) h ht hf
theorem MX.cond_kt {c:Operand} {x y:Code} {q:Bool} (hc:ev σ c=some (.bool q)) (hb:q=true) (h:MX P Z b n ds cs (.code x::k) σ w):MX P Z b n ds cs (.code (.cond c x y)::k) σ w:=MX.cond_t (by rw [hc,hb]) h
theorem MX.cond_kf {c:Operand} {x y:Code} {q:Bool} (hc:ev σ c=some (.bool q)) (hb:q=false) (h:MX P Z b n ds cs (.code y::k) σ w):MX P Z b n ds cs (.code (.cond c x y)::k) σ w:=MX.cond_f (by rw [hc,hb]) h
theorem MX.join {α γ O:Type} {K:γ->Oa O} {B:(γ->Oa O)->Oa O} {r:O} {it:Item} (S:α->Lb (Nat×Vc)) (R:α->World->Prop) (p:α->γ) (hh:jn K B=some r)
  (hJ:∀ x wx,R x wx->K (p x)=some r->MX P Z b n ds cs k (S x) wx)
  (h:∀ J:γ->Oa O,(∀ x wx σ', Sub σ' (S x)->R x wx->J (p x)=some r->MX P Z b n ds cs k σ' wx)->B J=some r->MX P Z b n ds cs (it::k) σ w):MX P Z b n ds cs (it::k) σ w:=
 h K (fun x wx _σ' hs hR hK=>(hJ x wx hR hK).sub hs) hh
theorem MX.joinx {α γ O:Type} {K:γ->Oa O} {B:(γ->Oa O)->Oa O} {r:O} {it:Item} {id:Nat} {k' : Lb Item} (S:α->Lb (Nat×Vc)) (R:α->World->Prop) (p:α->γ) (_hx:exitTo id k=some k') (hh:jn K B=some r)
  (hJ:∀ x wx,R x wx->K (p x)=some r->MX P Z b n ds cs k' (S x) wx)
  (h:∀ J:γ->Oa O,(∀ x wx σ', Sub σ' (S x)->R x wx->J (p x)=some r->MX P Z b n ds cs k' σ' wx)->B J=some r->MX P Z b n ds cs (it::k) σ w):MX P Z b n ds cs (it::k) σ w:=
 h K (fun x wx _σ' hs hR hK=>(hJ x wx hR hK).sub hs) hh
theorem MX.loop {α γ O:Type} {B:(γ->Oa O)->γ->Oa O} {N:Nat} {r:O} {c:Code} (S:α->Lb (Nat×Vc)) (R:α->World->Prop) (p:α->γ) (x0:α) (hh:ah B N (p x0)=some r) (hs:Sub σ (S x0)) (hR:R x0 w)
  (round:∀ (J:γ->Oa O) x wx,(∀ x' wx' σ', Sub σ' (S x')->R x' wx'->J (p x')=some r->MX P Z b n ds cs (.inLoop c::k) σ' wx')->R x wx->B J (p x)=some r->MX P Z b n ds cs (.code c::.inLoop c::k) (S x) wx):MX P Z b n ds cs (.code (.loop c)::k) σ w:=by
 have key:∀ N x wx,R x wx->ah B N (p x)=some r->MX P Z b n ds cs (.code c::.inLoop c::k) (S x) wx:=by
  intro N
  induction N with
  | zero=>intro x wx _ h; cases h
  | succ N ih=>intro x wx hx h; exact round (ah B N) x wx (fun x' wx' σ' hs' hR' hJ=>(MX.again1 (ih x' wx' hR' hJ)).sub hs') hx h
 exact MX.loop1 ((key N x0 w hR hh).sub hs)
/-! ### Regions in order -/
variable {ops:Array Oper} {l:Lb Oper} {o:Oper} {d:Nat} {op:Op} {ty:TypeId} {ps:String} {af:Array Edge} {v:Vc}
theorem bL {α:Type} {xs:Lb α} {i:Nat} {x:α} {l:Lb α} (h:xs.drop i=x::l):xs[i]? = some x/\xs.drop (i+1)=l:=by
 have hi:i<xs.length:=by
  by_cases hi:i<xs.length
  ·exact hi
  ·rw [List.drop_of_length_le (by omega)] at h; cases h
 rw [List.drop_eq_getElem_cons hi] at h
 injection h with h1 h2
 exact ⟨by rw [List.getElem?_eq_getElem hi,h1],h2⟩
theorem cm {i:Nat} (h:ops.toList.drop i=o::l):ops[i]? = some o:=by rw [<- Array.getElem?_toList]; exact (bL h).1
theorem MX.region {id:Nat} (h:RG P Z b n ds cs l.toArray l k σ w):MX P Z b n ds cs (.code (.region id l.toArray false)::k) σ w:=fun a w' ha hw=>by
 refine .step stepR_region ?_
 have:=h 0 (by simp) a w' ha hw
 simpa [List.range_eq_range'] using this
theorem RG.nil (h:MX P Z b n ds cs k σ w):RG P Z b n ds cs ops [] k σ w:=fun _ _ a w' ha hw=>.step stepR_region_end (h a w' ha hw)
theorem eK {ρ:Operand->Vc} {r:Oa Nat} {w1 w2:World} {u:Vc} (h:(execOp ρ o).run P w1=.ok (.value u) w2):(o.semAt r ρ).run P w1=.ok (.value u) w2:=by
 rw [Oper.semAt_eq _ _ _ ?_]
 ·exact h
 ·intro c hc
  obtain ⟨dst,op,ty,ps,af,g⟩:=o
  simp only at hc
  subst hc
  simp only [execOp,Sem.run_bind] at h
  cases hr:(resolve ρ c ty).run P w1 with
  | ok d w3=>rw [hr] at h; simp [Result.andThen] at h
  | halt x w3=>rw [hr] at h; simp [Result.andThen] at h
theorem gx {a:Act} {w1 w2:World} {i:Nat} {rest:Lb Nat} {u:Vc} (ho:ops[i]? = some o) (hw:Region.wanted o (yielded ops a.tmps)=true) (hr:(o.semAt b.roundOf a.eval).run P w1=.ok (.value u) w2) :
  step P (lone (b.atR a (.inRegion ops (i::rest)::k)) cs w1)=.next (lone (b.atR (a.put o.dst u) (.inRegion ops rest::k)) cs w2):=by
 have hfin:(b.atR a (.inRegion ops (i::rest)::k)).finish u=b.atR (a.put o.dst u) (.inRegion ops rest::k):=by rw [Frame.finish_atR,ho]; rfl
 refine step_lone_go ?_
 rw [stepGR_op ho hw,<- hfin]
 simp [stepG.apply,hr]
theorem jy {a:Act} {w1 w2:World} {i:Nat} {rest:Lb Nat} (ho:ops[i]? = some o) (hw:Region.wanted o (yielded ops a.tmps)=true) (hr:(o.semAt b.roundOf a.eval).run P w1=.ok .skip w2) :
  step P (lone (b.atR a (.inRegion ops (i::rest)::k)) cs w1)=.next (lone (b.atR (a.put o.dst undef) (.inRegion ops rest::k)) cs w2):=by
 have hfin:(b.atR a (.inRegion ops (i::rest)::k)).finish undef=b.atR (a.put o.dst undef) (.inRegion ops rest::k):=by rw [Frame.finish_atR,ho]; rfl
 refine step_lone_go ?_
 rw [stepGR_op ho hw,<- hfin]
 simp [stepG.apply,hr]
theorem cJ {a:Act} {w1 w2:World} {i:Nat} {rest:Lb Nat} {f:FuncId} {vs:Array Vc} (ho:ops[i]? = some o) (hw:Region.wanted o (yielded ops a.tmps)=true) (hr:(o.semAt b.roundOf a.eval).run P w1=.ok (.enter f vs) w2) :
  step P (lone (b.atR a (.inRegion ops (i::rest)::k)) cs w1)=.next (lone (Frame.enter P f vs .normal) (b.atR a (.inRegion ops (i::rest)::k)::cs) w2):=by
 refine step_lone_go ?_
 rw [stepGR_op ho hw]
 simp [stepG.apply,hr,Frame.atR]
theorem gz {a:Act} {w1 w2:World} {i:Nat} {rest:Lb Nat} {lp:Nat} {f:FuncId} {tmps:Array Vc} {assign body:Code} (ho:ops[i]? = some o) (hw:Region.wanted o (yielded ops a.tmps)=true) (hr:(o.semAt b.roundOf a.eval).run P w1=.ok (.round lp f tmps assign body) w2) :
  step P (lone (b.atR a (.inRegion ops (i::rest)::k)) cs w1)=.next (lone (Frame.round lp f tmps assign body .normal) (b.atR a (.inRegion ops (i::rest)::k)::cs) w2):=by
 refine step_lone_go ?_
 rw [stepGR_op ho hw]
 simp [stepG.apply,hr,Frame.atR]
theorem iM {a:Act} {s j:Nat} {q q' : Bool} {dd:Oa Tmp} (ha:Fr n ds σ a) (hj:(ops[j]?).bind (·.dst)=some s) (hs:look σ s=some (.bool q')):Region.wanted ⟨dd,op,ty,ps,af,some (j,q)⟩ (yielded ops a.tmps)=(q'==q):=by
 have:=ha.get s _ hs
 simp [Region.wanted,yielded,hj,this]
theorem ml {a:Act} {s j:Nat} {q:Bool} {dd:Oa Tmp} (ha:Fr n ds σ a) (hj:(ops[j]?).bind (·.dst)=some s) (hs:look σ s=some undef):Region.wanted ⟨dd,op,ty,ps,af,some (j,q)⟩ (yielded ops a.tmps)=false:=by
 have:=ha.get s _ hs
 simp [Region.wanted,yielded,hj,this,undef]
inductive Want (ops:Array Oper) (σ:Lb (Nat×Vc)):Oa (Nat×Bool)->Bool->Prop
 | plain:Want ops σ none true
 | yes {s j:Nat} {q:Bool} (hj:(ops[j]?).bind (·.dst)=some s) (hs:look σ s=some (.bool q)):Want ops σ (some (j,q)) true
 | no {s j:Nat} {q:Bool} (hj:(ops[j]?).bind (·.dst)=some s) (hs:look σ s=some (.bool (!q))):Want ops σ (some (j,q)) false
 | undef {s j:Nat} {q:Bool} (hj:(ops[j]?).bind (·.dst)=some s) (hs:look σ s=some undef):Want ops σ (some (j,q)) false
theorem Want.eq {g:Oa (Nat×Bool)} {q:Bool} {dd:Oa Tmp} (h:Want ops σ g q) {a:Act} (ha:Fr n ds σ a):Region.wanted ⟨dd,op,ty,ps,af,g⟩ (yielded ops a.tmps)=q:=by
 cases h with
 | plain=>rfl
 | yes hj hs=>rw [iM ha hj hs,beq_self_eq_true]
 | @no s j q hj hs=>rw [iM ha hj hs]; cases q<;>rfl
 | undef hj hs=>exact ml ha hj hs
variable {g:Oa (Nat×Bool)}
theorem RG.val' (hg:Want ops σ g true) (hq:FV P ⟨some d,op,ty,ps,af,g⟩ σ w v) (hd:Nat.blt d n=true) (h:RG P Z b n ds cs ops l k ((d,v)::σ) w):RG P Z b n ds cs ops (⟨some d,op,ty,ps,af,g⟩::l) k σ w:=by
 intro i hi a w' ha hw
 obtain ⟨h1,h2⟩:=bL hi
 rw [List.length_cons,List.range'_succ]
 exact .step (gx (cm hi) (hg.eq ha) (eK (hq a.eval (fun x u hx=>ha.ev hx) w' hw))) (h (i+1) h2 _ _ (ha.put d v hd) hw)
theorem RG.off (hg:Want ops σ g false) (hd:Nat.blt d n=true) (h:RG P Z b n ds cs ops l k ((d,undef)::σ) w):RG P Z b n ds cs ops (⟨some d,op,ty,ps,af,g⟩::l) k σ w:=by
 intro i hi a w' ha hw
 obtain ⟨h1,h2⟩:=bL hi
 rw [List.length_cons,List.range'_succ]
 refine .step (stepR_op_skip (by rw [cm hi]; simpa using hg.eq ha)) ?_
 rw [cm hi]
 exact h (i+1) h2 _ _ (ha.put d undef hd) hw
theorem Fr.known {a:Act} (ha:Fr n ds σ a) {s:Nat} {q q' : Bool} (hs:look σ s=some (.bool q)) (hb:q=q'):Fr n ds ((s,.bool q')::σ) a:=by
 subst hb
 refine ⟨ha.size,ha.defers,fun t u hu=>?_⟩
 simp only [look] at hu
 cases hbeq:Nat.beq s t
 ·rw [hbeq] at hu; exact ha.get t u hu
 ·rw [hbeq] at hu; injection hu with hu; subst hu; rw [<- Nat.eq_of_beq_eq_true hbeq]; exact ha.get s _ hs
theorem RG.known {s:Nat} {q q' : Bool} (hs:look σ s=some (.bool q)) (hb:q=q') (h:RG P Z b n ds cs ops l k ((s,.bool q')::σ) w):RG P Z b n ds cs ops l k σ w:=fun i hi a w' ha hw=>h i hi a w' (ha.known hs hb) hw
theorem RG.ifd {β:Type} {s:Nat} {p:Prop} [Decidable p] {A B:Oa β} {r:β} (hs:look σ s=some (.bool (decide p))) (h:(if p then A else B)=some r)
  (ht:p->A=some r->RG P Z b n ds cs ops l k ((s,.bool true)::σ) w) (hf:¬ p->B=some r->RG P Z b n ds cs ops l k ((s,.bool false)::σ) w):RG P Z b n ds cs ops l k σ w:=by
 by_cases hp:p
 ·exact RG.known hs (decide_eq_true hp) (ht hp (lg hp h))
 ·exact RG.known hs (decide_eq_false hp) (hf hp (lr hp h))
theorem RG.ifn {β:Type} {s:Nat} {p:Prop} [Decidable p] {A B:Oa β} {r:β} (hs:look σ s=some (.bool (!decide p))) (h:(if p then A else B)=some r)
  (ht:p->A=some r->RG P Z b n ds cs ops l k ((s,.bool false)::σ) w) (hf:¬ p->B=some r->RG P Z b n ds cs ops l k ((s,.bool true)::σ) w):RG P Z b n ds cs ops l k σ w:=by
 by_cases hp:p
 ·exact RG.known hs (by rw [decide_eq_true hp]; rfl) (ht hp (lg hp h))
 ·exact RG.known hs (by rw [decide_eq_false hp]; rfl) (hf hp (lr hp h))
theorem RG.ifb {β:Type} {s:Nat} {q:Bool} {A B:Oa β} {r:β} (hs:look σ s=some (.bool q)) (h:(if q=true then A else B)=some r)
  (ht:q=true->A=some r->RG P Z b n ds cs ops l k ((s,.bool true)::σ) w) (hf:¬ q=true->B=some r->RG P Z b n ds cs ops l k ((s,.bool false)::σ) w):RG P Z b n ds cs ops l k σ w:=
 RG.ifd (p:=q=true) (by rw [hs]; simp) h ht hf
theorem RG.ifnb {β:Type} {s:Nat} {q:Bool} {A B:Oa β} {r:β} (hs:look σ s=some (.bool (!q))) (h:(if q=true then A else B)=some r)
  (ht:q=true->A=some r->RG P Z b n ds cs ops l k ((s,.bool false)::σ) w) (hf:¬ q=true->B=some r->RG P Z b n ds cs ops l k ((s,.bool true)::σ) w):RG P Z b n ds cs ops l k σ w:=
 RG.ifn (p:=q=true) (by rw [hs]; simp) h ht hf
theorem RG.does (hg:Want ops σ g true) (hd:Nat.blt d n=true)
  (h:∀ ρ:Operand->Vc,(∀ x u,ev σ x=some u->ρ x=u)->∀ w', Agree [] w w'->∃ u w1,(execOp ρ ⟨some d,op,ty,ps,af,g⟩).run P w'=.ok (.value u) w1/\RG P Z b n ds cs ops l k ((d,u)::σ) w1) :
  RG P Z b n ds cs ops (⟨some d,op,ty,ps,af,g⟩::l) k σ w:=by
 intro i hi a w' ha hw
 obtain ⟨h1,h2⟩:=bL hi
 rw [List.length_cons,List.range'_succ]
 obtain ⟨u,w1,hr,hk⟩:=h a.eval (fun x u hx=>ha.ev hx) w' hw
 exact .step (gx (cm hi) (hg.eq ha) (eK hr)) (hk (i+1) h2 _ _ (ha.put d u hd) (Agree.refl _ _))
theorem ku {ρ:Operand->Vc} {r:Oa Nat} {w1 w2:World} (h:(execOp ρ o).run P w1=.ok .skip w2):(o.semAt r ρ).run P w1=.ok .skip w2:=by
 rw [Oper.semAt_eq _ _ _ ?_]
 ·exact h
 ·intro c hc
  obtain ⟨dst,op,ty,ps,af,g⟩:=o
  simp only at hc
  subst hc
  simp only [execOp,Sem.run_bind] at h
  cases hr:(resolve ρ c ty).run P w1 with
  | ok d w3=>rw [hr] at h; simp [Result.andThen] at h
  | halt x w3=>rw [hr] at h; simp [Result.andThen] at h
theorem RG.acts (hg:Want ops σ g true)
  (h:∀ ρ:Operand->Vc,(∀ x u,ev σ x=some u->ρ x=u)->∀ w', Agree [] w w'->∃ w1,(execOp ρ ⟨none,op,ty,ps,af,g⟩).run P w'=.ok .skip w1/\RG P Z b n ds cs ops l k σ w1) :
  RG P Z b n ds cs ops (⟨none,op,ty,ps,af,g⟩::l) k σ w:=by
 intro i hi a w' ha hw
 obtain ⟨h1,h2⟩:=bL hi
 rw [List.length_cons,List.range'_succ]
 obtain ⟨w1,hr,hk⟩:=h a.eval (fun x u hx=>ha.ev hx) w' hw
 exact .step (jy (cm hi) (hg.eq ha) (ku hr)) (hk (i+1) h2 _ _ ha (Agree.refl _ _))
/-! ### Calls -/
def cr (P:Program) (f:FuncId):Bool:=match P.funcs[f]? with
 | some fn => fn.body.isSome && !(fn.name == "runtime.NumGoroutine")
 | none=>false
theorem gR {f:FuncId} (hf:cr P f=true) (vs:Array Vc) (w:World):(callFunc f vs).run P w=.ok (.enter f vs) w:=by
 unfold cr at hf
 split at hf
 ·rename_i fn hfn
  rw [Bool.and_eq_true] at hf
  have h1:¬ fn.body=none:=by have:=hf.1; cases h:fn.body<;>simp_all
  have h2 : ¬ fn.name = "runtime.NumGoroutine" := by simpa using hf.2
  simp [callFunc,hfn,h1,h2]
 ·cases hf
theorem cN {f:FuncId} (hf:cr P f=true) {c:Operand} {xs:Array Operand} {ts:Array TypeId} {ρ:Operand->Vc} {fst cap vs:Array Vc} {dd:Oa Tmp} (hc:ρ c=.func (.func f) fst cap) (hv:xs.map ρ=vs) (w:World) :
  (execOp ρ ⟨dd,.call { callee:=.value c,args:=xs,argTypes:=ts },ty,ps,af,g⟩).run P w=.ok (.enter f (fst++vs++cap)) w:=by
 simp [execOp,resolve,hc,hv,invoke,Deferred.ofValue,gR hf]
theorem dp {c:Call} {dd:Oa Tmp} (r:Oa Nat) (ρ:Operand->Vc):Oper.semAt r ρ ⟨dd,.call c,ty,ps,af,g⟩=execOp ρ ⟨dd,.call c,ty,ps,af,g⟩:=Oper.semAt_eq _ _ _ (by simp)
theorem RG.call' {f:FuncId} {c:Operand} {fst cap:Lb Vc} {xs:Lb Operand} {vs:Lb Vc} {ts:Array TypeId} {R:World->Vc->Prop} (hg:Want ops σ g true) (hf:cr P f=true) (hcal:ev σ c=some (.func (.func f) fst.toArray cap.toArray)) (hv:evs σ xs vs)
  (hc:∀ w', Agree [] w w'->Calls P f (fst++vs++cap).toArray w' (aj w' R)) (hd:Nat.blt d n=true) (h:∀ w1 v,Agree [] w w1->R w1 v->RG P Z b n ds cs ops l k ((d,v)::σ) w1) :
  RG P Z b n ds cs ops (⟨some d,.call { callee:=.value c,args:=xs.toArray,argTypes:=ts },ty,ps,af,g⟩::l) k σ w:=by
 intro i hi a w' ha hw
 obtain ⟨h1,h2⟩:=bL hi
 rw [List.length_cons,List.range'_succ]
 have he:=cN (P:=P) (ty:=ty) (ps:=ps) (af:=af) (g:=g) (dd:=some d) (ts:=ts) hf (ρ:=a.eval) (ha.ev hcal) (vs:=vs.toArray) (xs:=xs.toArray) (by rw [List.map_toArray,bO (fun x u hx=>ha.ev hx) hv]) w'
 refine .step (cJ (cm hi) (hg.eq ha) (by rw [dp]; exact he)) ?_
 have hc' :=hc w' hw
 simp only [List.append_toArray]
 obtain ⟨e,w1,fr,⟨u,rfl,hR,hag⟩,hs,_,hl⟩:=hc' (b.atR a (.inRegion ops (i::List.range' (i+1) l.length)::k)::cs)
 refine .steps hs (.step (step_leave_returned hl) ?_)
 rw [Frame.finish_atR,cm hi]
 exact h w1 u (hw.trans hag) hR (i+1) h2 _ _ (ha.put d u hd) (Agree.refl _ _)
theorem RG.callq' {f:FuncId} {c:Operand} {fst cap:Lb Vc} {xs:Lb Operand} {vs:Lb Vc} {ts:Array TypeId} (hg:Want ops σ g true) (hf:cr P f=true) (hcal:ev σ c=some (.func (.func f) fst.toArray cap.toArray)) (hv:evs σ xs vs)
  (hc:∀ w', Agree [] w w'->Calls P f (fst++vs++cap).toArray w' (aj w' fun _ u=>u=v)) (hd:Nat.blt d n=true) (h:RG P Z b n ds cs ops l k ((d,v)::σ) w) :
  RG P Z b n ds cs ops (⟨some d,.call { callee:=.value c,args:=xs.toArray,argTypes:=ts },ty,ps,af,g⟩::l) k σ w:=
 RG.call' hg hf hcal hv hc hd fun w1 u hag hu=>by subst hu; exact fun i hi a w' ha hw=>h i hi a w' ha (hag.trans hw)
def args:Nat->Lb Vc->Lb (Nat×Vc)
 | _,[]=>[]
 | k,v::vs=>(k,v)::args (k+1) vs
theorem ll:∀ (vs:Lb Vc) (k s:Nat) (v:Vc),look (args k vs) s=some v->k<=s/\vs[s-k]? = some v
 | [],k,s,v,h=>by cases h
 | u::vs,k,s,v,h=>by
  simp only [args,look] at h
  cases hb:Nat.beq k s
  ·rw [hb] at h
   obtain ⟨h1,h2⟩:=ll vs (k+1) s v h
   refine ⟨by omega,?_⟩
   rw [show s-k=(s-(k+1))+1 from by omega]
   exact h2
  ·rw [hb] at h
   have:=Nat.eq_of_beq_eq_true hb
   subst this
   exact ⟨Nat.le_refl _,by simpa using h⟩
theorem jh {n:Nat} {vs:Lb Vc} (hl:Nat.ble vs.length n=true):Fr n [] (args 0 vs) { tmps:=vs.toArray++Array.replicate (n-vs.toArray.size) undef,defers:=[] }:=by
 have hl:vs.length<=n:=by simpa [Nat.ble_eq] using hl
 refine ⟨by simp; omega,rfl,fun s v hs=>?_⟩
 obtain ⟨_,h2⟩:=ll vs 0 s v hs
 have h3:vs[s]? = some v:=by simpa using h2
 have hlt:=(List.getElem?_eq_some_iff.1 h3).1
 simp only
 rw [Array.getElem?_append_left (by simpa using hlt)]
 simpa using h3
theorem fO {f:FuncId} {fn:Func} {c:Code} {vs:Array Vc} (kd:CallKind) (hf:P.funcs[f]? = some fn) (hb:fn.body=some c) :
  Frame.enter P f vs kd=(fb f kd none).atR { tmps:=vs++Array.replicate (fn.ntmps-vs.size) undef,defers:=[] } [.code c]:=by
 simp [Frame.enter,Frame.atR,hf,hb,fb]
theorem MX.start' {f:FuncId} {fn:Func} {c:Code} {vs:Lb Vc} {X:Vc->World->Prop} {R:Ending->World->Prop} (hf:P.funcs[f]? = some fn) (hb:fn.body=some c) (hn:fn.ntmps=n) (hl:Nat.ble vs.length n=true)
  (h:∀ Z cs,RetOK P Z f cs X->MX P Z (fb f .normal none) n [] cs [.code c] (args 0 vs) w) {w' : World} (hw:Agree [] w w') (hX:∀ v w1 w2,X v w1->Agree [] w1 w2->R (.returned v) w2):Calls P f vs.toArray w' R:=by
 intro cs
 obtain ⟨m', hs,e,w', fr,hR,hne,rfl,hfn,hlv⟩:=h (Ends P f cs R) cs (fun v w1 w2 fr hx hag hfr hl=>.now ⟨_,_,fr,hX v w1 w2 hx hag,by simp,rfl,hfr,hl⟩) _ w' (jh hl) hw
 refine ⟨e,w', fr,hR,?_,hfn,hlv⟩
 rw [fO .normal hf hb,hn]
 cases e with
 | outgrown=>exact absurd I hne
 | returned v=>exact hs
 | panicked ch=>exact hs
theorem MX.start {f:FuncId} {fn:Func} {c:Code} {vs:Lb Vc} {R:World->Vc->Prop} (hf:P.funcs[f]? = some fn) (hb:fn.body=some c) (hn:fn.ntmps=n) (hl:Nat.ble vs.length n=true)
  (h:∀ Z cs,RetOK P Z f cs (fun v w1=>Agree [] w w1/\∀ w', Agree [] w1 w'->R w' v)->MX P Z (fb f .normal none) n [] cs [.code c] (args 0 vs) w):Calls P f vs.toArray w (aj w R):=
 MX.start' hf hb hn hl h (Agree.refl _ _) fun v _w1 w2 hx hag=>⟨v,I,hx.2 w2 hag,hx.1.trans hag⟩
def ResV (P:Program) (σ:Lb (Nat×Vc)) (w:World):ResultVar->Vc->Prop
 | .tmp t,v=>look σ t=some v
 | .cell a t,v=>∃ p,look σ a=some (.pointer (some p))/\∀ w', Agree [] w w'->(loadVar t p).run P w'=.ok v w'
def ResVs (P:Program) (σ:Lb (Nat×Vc)) (w:World):Lb ResultVar->Lb Vc->Prop
 | [],[]=>True
 | r::rs,v::vs=>ResV P σ w r v/\ResVs P σ w rs vs
 | _,_=>False
end
end
section
open Go Go.RowKit
section
variable {P:Program} {Z:Machine->Prop} {b:Frame} {n:Nat} {ds:Lb Deferred} {cs:Lb Frame} {k:Lb Item} {σ τ:Lb (Nat×Vc)} {w w0:World}
/-! ### Returns -/
theorem sS {t:TypeId} (ht:ow P t=true) {p:Addr} {v:Vc} (hc:w.cell? p=some v):∀ w', Agree [] w w'->(loadVar t p).run P w'=.ok v w' :=by
 intro w' hw
 have hc' :=hw.cell (p:=p) (by simp) hc
 unfold ow at ht
 split at ht
 ·cases ht
 ·cases ht
 ·rename_i u hu1 hu2 hu
  have hagg:(isAgg t).run P w'=.ok false w' :=by
   unfold isAgg
   rw [Sem.run_bind,run_underlying hu w']
   cases u<;>simp_all
  simp [loadVar,hagg,hc']
 ·cases ht
theorem pI {t:TypeId} {cs:Lb Vc} (ht:pN P t cs.length=true) {p:Addr} (hc:∀ j v,cs[j]? = some v->w.cell? (p.add j)=some v):∀ w', Agree [] w w'->(loadVar t p).run P w'=.ok (.agg cs.toArray) w' :=by
 intro w' hw
 have hl:(loadCells p cs.length).run P w'=.ok cs.toArray w' :=
  run_loadCells_list (P:=P) w' p cs fun j v hv=>hw.cell (by simp) (hc j v hv)
 unfold pN at ht
 rw [Bool.and_eq_true] at ht
 obtain ⟨h1,h2⟩:=ht
 have hagg:(isAgg t).run P w'=.ok true w' :=by
  unfold isAgg
  split at h1
  ·rename_i fs hu; rw [Sem.run_bind,run_underlying hu w']; simp
  ·rename_i l e hu; rw [Sem.run_bind,run_underlying hu w']; simp
  ·cases h1
 split at h2
 ·rename_i i hi
  have hs:i.size=cs.length:=by simpa using h2
  simp [loadVar,hagg,sizeOf,typeInfo,hi,hs,hl]
 ·cases h2
theorem ResV.tmp {t:Nat} {v:Vc} (h:look σ t=some v):ResV P σ w (.tmp t) v:=h
theorem ResV.one {a:Nat} {t:TypeId} {p:Addr} {v:Vc} (ht:ow P t=true) (hl:look σ a=some (.pointer (some p))) (hc:w.cell? p=some v):ResV P σ w (.cell a t) v:=⟨p,hl,sS ht hc⟩
theorem ResV.many {a:Nat} {t:TypeId} {p:Addr} {cs:Lb Vc} (ht:pN P t cs.length=true) (hl:look σ a=some (.pointer (some p))) (hc:∀ j v,cs[j]? = some v->w.cell? (p.add j)=some v):ResV P σ w (.cell a t) (.agg cs.toArray):=⟨p,hl,pI ht hc⟩
theorem ResVs.nil:ResVs P σ w [] []:=trivial
theorem ResVs.cons {r:ResultVar} {v:Vc} {rs:Lb ResultVar} {vs:Lb Vc} (h:ResV P σ w r v) (h2:ResVs P σ w rs vs):ResVs P σ w (r::rs) (v::vs):=⟨h,h2⟩
def oneV:Lb Vc->Vc
 | [v]=>v
 | vs=>.tuple vs.toArray
def oS (tmps:Array Vc):ResultVar->Sem Vc
 | .tmp t=>pure (tmps.getD t undef)
 | .cell a t=>do loadVar t (<- asAddr (tmps.getD a undef))
theorem mC {fn:Func} {rs:Lb ResultVar} {vs:Lb Vc} {a:Act} {w' : World} (hr:fn.results=rs.toArray) (h:ResVs P σ w rs vs) (ha:Fr n ds σ a) (hw:Agree [] w w'):(results fn a.tmps).run P w'=.ok (oneV vs) w' :=by
 have key:∀ (rs:Lb ResultVar) (vs:Lb Vc),ResVs P σ w rs vs->(rs.mapM (oS a.tmps)).run P w'=.ok vs w' :=by
  intro rs
  induction rs with
  | nil=>intro vs h; cases vs with
   | nil=>rfl
   | cons v vs=>exact h.elim
  | cons r rs ih=>intro vs h; cases vs with
   | nil=>exact h.elim
   | cons v vs=>
    obtain ⟨h1,h2⟩:=h
    have hi:=ih vs h2
    rw [List.mapM_cons]
    cases r with
    | tmp t=>
     have:=ha.get t v h1
     simp only [oS,Sem.run_bind,Sem.run_pure,Result.andThen_ok,hi]
     simp [Array.getD_eq_getD_getElem?,this]
    | cell a' t=>
     obtain ⟨p,hp,hl⟩:=h1
     have:=ha.get a' _ hp
     have hg:a.tmps.getD a' undef=.pointer (some p):=by simp [Array.getD_eq_getD_getElem?,this]
     simp only [oS,hg,asAddr,Sem.run_bind,Sem.run_pure,Result.andThen_ok,hl w' hw,hi]
 have hk:=key rs vs h
 have hm:(fn.results.mapM (oS a.tmps)).run P w'=.ok vs.toArray w' :=by
  rw [hr,List.mapM_toArray]
  rw [map_eq_pure_bind]
  simp only [Sem.run_bind,hk,Result.andThen_ok,Sem.run_pure]
 unfold results
 rw [Sem.run_bind]
 refine (congrArg (fun x=>Result.andThen x _) hm).trans ?_
 simp only [Result.andThen_ok]
 cases vs with
 | nil=>rfl
 | cons v vs=>cases vs with
  | nil=>rfl
  | cons u vs=>rfl
theorem RT.leave {f:FuncId} {fn:Func} {rs:Lb ResultVar} {vs:Lb Vc} {X:Vc->World->Prop} (hk:RetOK P Z f cs X) (hf:P.funcs[f]? = some fn) (hr:fn.results=rs.toArray) {u:Vc} (hv:ResVs P σ w rs vs) (ho:oneV vs=u) (h:X u w):RT P Z (fb f .normal none) n [] cs σ w:=by
 subst ho
 intro a w' todo ha hw
 exact hk _ w w' _ h hw I ⟨I,ha.defers,I,fn,hf,mC hr hv ha hw⟩
/-! ### Memory of the call's own -/
variable {ops:Array Oper} {l:Lb Oper} {d:Nat} {op:Op} {ty:TypeId} {ps:String} {af:Array Edge} {v:Vc} {x y:Operand} {t:TypeId} {O O' : Lb Ob} {g:Oa (Nat×Bool)}
theorem pi {w:World} {b:Nat} {cs:Lb Vc} {t:TypeId} {fz:Nat×Nat} (h:w.heap[b]? = some (.cells cs.toArray t fz)):∀ j u,cs[j]? = some u->w.cell? ((⟨b,0,none⟩:Addr).add j)=some u:=by
 intro j u hu
 have hadd:(⟨b,0,none⟩:Addr).add j=⟨b,j,none⟩:=by unfold Addr.add; split<;>simp_all
 rw [hadd,cell_of_row w b j _ t fz h]
 simpa using hu
theorem aL {p:Addr} {cs:Lb Vc} (h:∀ j u,cs[j]? = some u->w.cell? (p.add j)=some u) (m:Nat):∀ j u,(cs.drop m)[j]? = some u->w.cell? ((p.add m).add j)=some u:=by
 intro j u hu
 rw [cp]; exact h _ _ (by rwa [List.getElem?_drop] at hu)
theorem ay {p:Addr} {cs:Lb Vc} (h:∀ j u,cs[j]? = some u->w.cell? (p.add j)=some u) (m k:Nat):∀ j u,((cs.drop m).take k)[j]? = some u->w.cell? ((p.add m).add j)=some u:=by
 intro j u hu
 refine aL h m j u ?_
 rcases Nat.lt_or_ge j k with hj | hj
 ·rwa [List.getElem?_take_of_lt hj] at hu
 ·rw [List.getElem?_eq_none (by rw [List.length_take]; omega)] at hu; cases hu
def Does (P:Program) (o:Oper) (σ:Lb (Nat×Vc)) (w:World) (Q:Vc->World->Prop):Prop:=
 ∀ ρ:Operand->Vc,(∀ x u,ev σ x=some u->ρ x=u)->∀ w', Agree [] w w'->∃ u w1,(execOp ρ o).run P w'=.ok (.value u) w1/\Agree [] w' w1/\Q u w1
def New (w0 w:World) (O:Lb Ob) (mk:Nat->Ob) (pv:Nat->Vc) (u:Vc) (w1:World):Prop:=∃ b', u=pv b' /\St w0 w1 (mk b'::O)/\Tr w O w1 (mk b'::O)
theorem pS {p:Addr} {cs:Lb Vc} (h:∀ j u,cs[j]? = some u->w.cell? (p.add j)=some u) (k:Nat):∀ j u,(cs.take k)[j]? = some u->w.cell? (p.add j)=some u:=by
 intro j u hu
 refine h j u ?_
 rcases Nat.lt_or_ge j k with hj | hj
 ·rwa [List.getElem?_take_of_lt hj] at hu
 ·rw [List.getElem?_eq_none (by rw [List.length_take]; omega)] at hu; cases hu
theorem RG.does' {Q:Vc->World->Prop} (hg:Want ops σ g true) (hd:Nat.blt d n=true) (D:Does P ⟨some d,op,ty,ps,af,g⟩ σ w Q) (h:∀ u w1,Q u w1->RG P Z b n ds cs ops l k ((d,u)::σ) w1):RG P Z b n ds cs ops (⟨some d,op,ty,ps,af,g⟩::l) k σ w:=
 RG.does hg hd fun ρ ha w' hw=>let ⟨u,w1,h1,_,h2⟩:=D ρ ha w' hw; ⟨u,w1,h1,h u w1 h2⟩
theorem RG.new {mk:Nat->Ob} {pv:Nat->Vc} (hg:Want ops σ g true) (hd:Nat.blt d n=true) (D:Does P ⟨some d,op,ty,ps,af,g⟩ σ w (New w0 w O mk pv)) (h:∀ w1 b', St w0 w1 (mk b'::O)->Tr w O w1 (mk b'::O)->RG P Z b n ds cs ops l k ((d,pv b')::σ) w1):RG P Z b n ds cs ops (⟨some d,op,ty,ps,af,g⟩::l) k σ w:=
 RG.does' hg hd D fun u w1 ⟨b', e,h1,h2⟩=>by subst e; exact h w1 b' h1 h2
theorem Does.box {vs:Lb Vc} {dd:Oa Tmp} (s:St w0 w O) (hx:ev σ x=some v) (hc:v.cells=vs.toArray):Does P ⟨dd,.box t x,ty,ps,af,g⟩ σ w (New w0 w O (fun b' =>.cells b' vs t) (fun b' =>.pointer (some ⟨b', 0,none⟩))):=fun ρ ha w' hw=>by
 refine ⟨.pointer (some ⟨w'.heap.size,0,none⟩),w'.alloc (.cells vs.toArray t),?_,bj _ _ _,?_⟩
 ·simp only [execOp,ha _ _ hx,Instr.box,newVar,newRow,hc]; rfl
 ·have hag:=hw.trans (bj w' (.cells vs.toArray t) [])
  have hb:∀ b', (Ob.cells w'.heap.size vs t).block=some b'->w.heap.size<=b' :=fun b' e=>by cases e; exact hw.size
  exact ⟨_,I,s.push hag (heap_alloc_new w' _) hb,Tr.push hag hb⟩
def eh (P:Program) (t:TypeId) (zs:Lb Vc):Prop:=(P.info? t).bind (fun i=>i.zero.map (·.cells))=some zs.toArray
theorem Does.alloc {zs:Lb Vc} {dd:Oa Tmp} (s:St w0 w O) (hz:eh P t zs):Does P ⟨dd,.alloc t,ty,ps,af,g⟩ σ w (New w0 w O (fun b' =>.cells b' zs t) (fun b' =>.pointer (some ⟨b', 0,none⟩))):=fun ρ ha w' hw=>by
 refine ⟨.pointer (some ⟨w'.heap.size,0,none⟩),w'.alloc (.cells zs.toArray t),?_,bj _ _ _,?_⟩
 ·unfold eh at hz
  cases hi:P.info? t with
  | none=>rw [hi] at hz; cases hz
  | some i=>
   rw [hi] at hz
   cases hzz:i.zero with
   | none=>simp [hzz] at hz
   | some z=>
    have hzc:z.cells=zs.toArray:=by simpa [hzz] using hz
    simp [execOp,Instr.alloc,zeroValue,typeInfo,hi,hzz,newVar,newRow,hzc]
 ·have hag:=hw.trans (bj w' (.cells zs.toArray t) [])
  have hb:∀ b', (Ob.cells w'.heap.size zs t).block=some b'->w.heap.size<=b' :=fun b' e=>by cases e; exact hw.size
  exact ⟨_,I,s.push hag (heap_alloc_new w' _) hb,Tr.push hag hb⟩
def dS (P:Program) (t m:Nat):Bool:=match P.info? t with
 | some i=>i.size==m
 | none=>false
theorem ib {w' : World} {b j:Nat} {p:Addr} {old news:Lb Vc} {e:TypeId} (hp:p=⟨b,j,none⟩) (hb:w'.heap[b]? = some (.cells old.toArray e (0,0))) (hv:v.cells=news.toArray) (hs:dS P t news.length=true) (hfit:j+news.length<=old.length)
  (h1:∀ u∈news,u.oneCell'=true):(storeVar t p v).run P w'=.ok () (w'.setRow b (old.take j++news++old.drop (j+news.length)).toArray):=by
 subst hp
 have hst:=run_storeCells_at P b j e news 0 old.toArray w' hb (by simpa using hfit) h1
 unfold dS at hs
 split at hs
 ·rename_i i hi
  have hsz:i.size=news.length:=by simpa using hs
  simp only [Nat.add_zero] at hst
  simp [storeVar,sizeOf,typeInfo,hi,hv,hsz,hst]
 ·cases hs
theorem ei {w' : World} {b:Nat} {o:Obj} (_hb:w'.heap[b]? = some o) (new:Array Vc):Agree [b] w' (w'.setRow b new):=
 ⟨rfl,rfl,rfl,by simp,fun k _ hk=>setRow_other w' b k new (fun e=>hk (by simp [e])),Nat.le_refl _⟩
def Acts (P:Program) (o:Oper) (σ:Lb (Nat×Vc)) (w:World) (Q:World->Prop):Prop:=
 ∀ ρ:Operand->Vc,(∀ x u,ev σ x=some u->ρ x=u)->∀ w', Agree [] w w'->∃ w1,(execOp ρ o).run P w'=.ok .skip w1/\Q w1
def Now (w0 w:World) (O O' : Lb Ob) (w1:World):Prop:=St w0 w1 O' /\Tr w O w1 O'
theorem RG.acts' {Q:World->Prop} (hg:Want ops σ g true) (D:Acts P ⟨none,op,ty,ps,af,g⟩ σ w Q) (h:∀ w1,Q w1->RG P Z b n ds cs ops l k σ w1):RG P Z b n ds cs ops (⟨none,op,ty,ps,af,g⟩::l) k σ w:=
 RG.acts hg fun ρ ha w' hw=>let ⟨w1,h1,h2⟩:=D ρ ha w' hw; ⟨w1,h1,h w1 h2⟩
theorem RG.now (hg:Want ops σ g true) (D:Acts P ⟨none,op,ty,ps,af,g⟩ σ w (Now w0 w O O')) (h:∀ w1,St w0 w1 O'->Tr w O w1 O'->RG P Z b n ds cs ops l k σ w1):RG P Z b n ds cs ops (⟨none,op,ty,ps,af,g⟩::l) k σ w:=
 RG.acts' hg D fun w1 q=>h w1 q.1 q.2
theorem Acts.store {bk j:Nat} {p:Addr} {old news new' : Lb Vc} {e:TypeId} {dd:Oa Tmp} (s:St w0 w O) (u:Upd O (.cells bk old e) (.cells bk new' e) O') (hx:ev σ x=some (.pointer (some p))) (hp:p=⟨bk,j,none⟩) (hy:ev σ y=some v) (hv:v.cells=news.toArray) (hs:dS P t news.length=true)
  (hfit:Nat.ble (j+news.length) old.length=true) (h1:∀ u∈news,u.oneCell'=true) (hcs:old.take j++news++old.drop (j+news.length)=new'):Acts P ⟨dd,.store t x y,ty,ps,af,g⟩ σ w (Now w0 w O O'):=fun ρ ha w' hw=>by
 have hb' : w'.heap[bk]? = some (.cells old.toArray e (0,0)):=aJ hw (s.get u)
 have hr:=ib (P:=P) (t:=t) hp hb' hv hs (by simpa [Nat.ble_eq] using hfit) h1
 rw [hcs] at hr
 refine ⟨w'.setRow bk new'.toArray,by simp [execOp,ha _ _ hx,ha _ _ hy,Instr.storeAt,Instr.sureAddr,hr],?_⟩
 have hag:Agree [bk] w (w'.setRow bk new'.toArray):=(hw.widen).trans (ei hb' _)
 have hL:∀ b∈[bk],(Ob.cells bk old e).block=some b:=by simp [Ob.block]
 exact ⟨s.upd u hag hL (setRow_heap w' bk _ _ e _ hb') (fun b e=>.inl e),Tr.upd u hag hL (fun b e=>.inl e)⟩
/-! #### Rows -/
theorem Does.buildSlice {m sz:Nat} {e:TypeId} {parts:Lb (Nat×Operand)} {vs:Lb Vc} {ds' : Lb Vc} {zs:Lb Vc} {dd:Oa Tmp} (s:St w0 w O) (ht:P.underlying t=some (.slice e)) (hsz:dS P e sz=true) (hz:eh P e zs) (hm:Nat.ble (m*sz) 16777216=true) (hsz0:Nat.blt 0 sz=true)
  (hv:evs σ (parts.map Prod.snd) vs)
  (hfill:Instr.fill (fun i=>some (i*sz,sz)) ((Array.range (m*sz)).map (zs.toArray[·%zs.toArray.size]!)) ((parts.map Prod.fst).zip vs)=some ds'.toArray) (hlen:ds'.length=m*sz) :
  Does P ⟨dd,.buildSlice t m parts.toArray,ty,ps,af,g⟩ σ w (New w0 w O (fun b' =>.row w0.heap.size e sz (.slice (some ⟨b', 0,none⟩) m m) m ds') (fun b' =>.slice (some ⟨b', 0,none⟩) m m)):=fun ρ ha w' hw=>by
 have hm:m*sz<=16777216:=by simpa [Nat.ble_eq] using hm
 have hsz0:0<sz:=by simpa [Nat.blt_eq] using hsz0
 refine ⟨.slice (some ⟨w'.heap.size,0,none⟩) m m,w'.alloc (.cells ds'.toArray e),?_,bj _ _ _,?_⟩
 ·have hsize:(sizeOf e).run P w'=.ok sz w' :=by
   unfold dS at hsz
   split at hsz
   ·rename_i i hi
    have:i.size=sz:=by simpa using hsz
    simp [sizeOf,typeInfo,hi,this]
   ·cases hsz
  have hzero:∀ w', ∃ z,(zeroValue e).run P w'=.ok z w' /\z.cells=zs.toArray:=by
   intro w'
   unfold eh at hz
   cases hi:P.info? e with
   | none=>rw [hi] at hz; cases hz
   | some i=>
    rw [hi] at hz
    cases hzz:i.zero with
    | none=>simp [hzz] at hz
    | some z=>exact ⟨z,by simp [zeroValue,typeInfo,hi,hzz],by simpa [hzz] using hz⟩
  obtain ⟨z,hz1,hz2⟩:=hzero w'
  have hmap:(parts.toArray.map fun (i,x)=>(i,ρ x)).toList=(parts.map Prod.fst).zip vs:=by
   rw [<- bO ha hv]
   simp [List.zip_map', List.map_map]
  simp only [execOp,Instr.buildSlice,Sem.run_bind,run_underlying ht,Result.andThen_ok,hsize,hmap]
  rw [if_neg (by omega)]
  by_cases h0:m*sz=0
  ·have hm0:m=0:=by
    rcases Nat.mul_eq_zero.1 h0 with h | h
    ·exact h
    ·omega
   rw [if_pos h0]
   have hr0:Array.range 0=#[]:=rfl
   have hf0:Instr.fill (fun i=>some (i*sz,sz)) ((Array.range (m*sz)).map fun x=>(#[]:Array Vc)[x%(#[]:Array Vc).size]!) ((parts.map Prod.fst).zip vs)=some ds'.toArray:=by
    rw [<- hfill,h0,hr0,Array.map_empty,Array.map_empty]
   simp only [Sem.run_bind,Sem.run_pure,Result.andThen_ok,hf0,newRow]
   rfl
  ·rw [if_neg h0]
   simp only [Sem.run_bind,hz1,hz2,Result.andThen_ok,Sem.run_pure,hfill,newRow]
   rfl
 ·have hag:=hw.trans (bj w' (.cells ds'.toArray e) [])
  have hb:∀ b', (Ob.row w0.heap.size e sz (.slice (some ⟨w'.heap.size,0,none⟩) m m) m ds').block=some b'->w.heap.size<=b' :=fun b' e=>by cases e; exact hw.size
  have hmsz:m<=m*sz:=Nat.le_mul_of_pos_right m hsz0
  refine ⟨_,rfl,s.push hag ⟨⟨hlen,.inr ⟨_,m,ds'.toArray,rfl,Nat.le_trans s.ag.size hw.size,heap_alloc_new w' _,Nat.le_refl _,by simp only [maxLen]; omega,by simpa using hlen,?_⟩⟩,by unfold eA; omega⟩ hb,Tr.push hag hb⟩
  rw [<- hlen]; simp
theorem js {zs:Lb Vc}:∀ (m j:Nat),j<m*zs.length->(List.replicate m zs).flatten[j]? = zs[j%zs.length]?
 | 0,j,h=>by simp at h
 | m+1,j,h=>by
  rw [List.replicate_succ,List.flatten_cons]
  rcases Nat.lt_or_ge j zs.length with hj | hj
  ·rw [List.getElem?_append_left hj,Nat.mod_eq_of_lt hj]
  ·rw [List.getElem?_append_right hj,js m (j-zs.length) (by rw [Nat.succ_mul] at h; omega),Nat.mod_eq_sub_mod hj]
theorem me {zs:Lb Vc} (m sz:Nat) (h:zs.length=sz):madeCells zs.toArray (m*sz)=(List.replicate m zs).flatten.toArray:=by
 subst h
 apply Array.ext'
 rw [List.toList_toArray]
 apply List.ext_getElem?
 intro j
 rcases Nat.lt_or_ge j (m*zs.length) with hj | hj
 ·rw [js m j hj]
  have hp:0<zs.length:=by
   rcases Nat.eq_zero_or_pos zs.length with h | h
   ·rw [h] at hj; simp at hj
   ·exact h
  have hm:=Nat.mod_lt j hp
  simp [madeCells,hj,hm]
 ·rw [List.getElem?_eq_none (by rw [Array.length_toList,size_madeCells]; exact hj),List.getElem?_eq_none (by simp [List.length_flatten]; exact hj)]
theorem Does.make {sz:Nat} {e:TypeId} {m:Nat} {zs:Lb Vc} {bytes:Nat} {z:Vc} {dd:Oa Tmp} (s:St w0 w O) (ht:P.underlying t=some (.slice e)) (hinfo:(P.info? e).map (fun i=>(i.zero,i.size,i.bytes))=some (some z,sz,bytes)) (hz:z.cells=zs.toArray) (hzl:zs.length=sz)
  {mi:Int} (hx:ev σ x=some (.int .i64 mi)) (hmi:mi=((m:Nat):Int)) (hm:m<=4294967296) (hby:Nat.ble bytes 32768=true) :
  Does P ⟨dd,.makeSlice t x x,ty,ps,af,g⟩ σ w (New w0 w O (fun b' =>.row w0.heap.size e sz (.slice (some ⟨b', 0,none⟩) m m) m (List.replicate m zs).flatten) (fun b' =>.slice (some ⟨b', 0,none⟩) m m)):=fun ρ ha w' hw=>by
 subst hmi
 have hby:bytes<=32768:=by simpa [Nat.ble_eq] using hby
 obtain ⟨i,hi,hz0,hsize,hbytes⟩:=info_parts hinfo
 have hmul:i.bytes*m<=281474976710656:=by rw [hbytes]; exact Nat.le_trans (Nat.mul_le_mul hby hm) (by omega)
 have hcells:(List.replicate m zs).flatten.length=m*sz:=by simp [List.length_flatten,hzl]
 have key:(Instr.makeSlice t (.int .i64 ((m:Nat):Int)) (.int .i64 ((m:Nat):Int))).run P w'=.ok (.slice (some ⟨w'.heap.size,0,none⟩) m m) (w'.alloc (.cells (List.replicate m zs).flatten.toArray e)):=by
  have hb' : (i.bytes:Int)*(m:Int)<=281474976710656:=by
   have h:((i.bytes*m:Nat):Int)<=281474976710656:=by omega
   rwa [Int.natCast_mul] at h
  have hr:=run_make (P:=P) w' t e i z ht hi hz0 .i64 .i64 m m (by omega) (Int.le_refl _) hb' (by omega)
  simp only [Int.toNat_natCast,hsize,hz] at hr
  rw [hr,me _ _ hzl]
 refine ⟨.slice (some ⟨w'.heap.size,0,none⟩) m m,w'.alloc (.cells (List.replicate m zs).flatten.toArray e),by simp [execOp,ha _ _ hx,key],bj _ _ _,?_⟩
 have hag:=hw.trans (bj w' (.cells (List.replicate m zs).flatten.toArray e) [])
 have hb:∀ b', (Ob.row w0.heap.size e sz (.slice (some ⟨w'.heap.size,0,none⟩) m m) m (List.replicate m zs).flatten).block=some b'->w.heap.size<=b' :=fun b' e=>by cases e; exact hw.size
 refine ⟨_,rfl,s.push hag ⟨⟨hcells,.inr ⟨_,m,_,rfl,Nat.le_trans s.ag.size hw.size,heap_alloc_new w' _,Nat.le_refl _,by simp only [maxLen]; omega,by simpa using hcells,?_⟩⟩,hm⟩ hb,Tr.push hag hb⟩
 exact List.take_of_length_le (Nat.le_of_eq (by simpa using hcells))
def DoesL (P:Program) (o:Oper) (σ:Lb (Nat×Vc)) (w:World) (Q:Vc->World->Prop):Prop:=
 ∀ ρ:Operand->Vc,(∀ x u,ev σ x=some u->ρ x=u)->∀ w', Agree [] w w'->∃ u w1,(execOp ρ o).run P w'=.ok (.value u) w1/\Q u w1
theorem RG.doesL {Q:Vc->World->Prop} (hg:Want ops σ g true) (hd:Nat.blt d n=true) (D:DoesL P ⟨some d,op,ty,ps,af,g⟩ σ w Q) (h:∀ u w1,Q u w1->RG P Z b n ds cs ops l k ((d,u)::σ) w1):RG P Z b n ds cs ops (⟨some d,op,ty,ps,af,g⟩::l) k σ w:=
 RG.does hg hd fun ρ ha w' hw=>let ⟨u,w1,h1,h2⟩:=D ρ ha w' hw; ⟨u,w1,h1,h u w1 h2⟩
theorem DoesL.append {sz bytes m n' c:Nat} {e:TypeId} {z:Vc} {zs:Lb Vc} {xv:Vc} {cs1 cs2:Lb Vc} {A:Oa Addr} {F:Vc->Lb Ob} {dd:Oa Tmp} (s:St w0 w O) (u:∀ v', Upd O (.row w0.heap.size e sz xv n' cs1) (.row w0.heap.size e sz v' (n'+m) (cs1++cs2)) (F v')) (ht:P.underlying t=some (.slice e))
  (hinfo:(P.info? e).map (fun i=>(i.zero,i.size,i.bytes))=some (some z,sz,bytes)) (hz:z.cells=zs.toArray) (hzl:zs.length=sz) (hsz0:Nat.blt 0 sz=true) (hby:Nat.ble bytes 32768=true)
  (hx:ev σ x=some xv) (hy:ev σ y=some (.slice A m c)) (hlen:cs2.length=m*sz) (hmem:∀ ad,A=some ad->∀ j u,cs2[j]? = some u->w.cell? (ad.add j)=some u) (h1:∀ u∈cs2,u.oneCell'=true) (hA:A=none->m=0) (hfit:n'+m<=eA) :
  DoesL P ⟨dd,.call { callee:=.builtin .append,args:=#[x,y],argTypes:=#[t,t] },ty,ps,af,g⟩ σ w (fun v' w1=>Now w0 w O (F v') w1):=fun ρ ha w' hw=>by
 have hby:bytes<=32768:=by simpa [Nat.ble_eq] using hby
 have hsz0:0<sz:=by simpa [Nat.blt_eq] using hsz0
 obtain ⟨i,hi,hz0,hsize,hbytes⟩:=info_parts hinfo
 have hown:(Ob.row w0.heap.size e sz xv n' cs1).holds w' :=Ob.keep (s.get (u xv)) hw (by simp)
 have hzs:z.cells.size=sz:=by rw [hz]; simpa using hzl
 unfold eA at hfit
 have hmul:(n'+m)*bytes<=140737488355328:=Nat.le_trans (Nat.mul_le_mul hfit hby) (by omega)
 have key:∃ v' w1,(Builtin.append_ #[t,t] ty #[xv,.slice A m c]).run P w'=.ok v' w1/\w1.ownsRow w0.heap.size e sz v' (n'+m) (cs1++cs2)/\w'.grownBy w1 xv.ownBlock/\(v'.ownBlock=xv.ownBlock∨v'.ownBlock=some w'.heap.size):=by
  by_cases h0:m=0
  ·subst h0
   have hnil:cs2=[]:=List.eq_nil_of_length_eq_zero (by simpa using hlen)
   subst hnil
   refine ⟨xv,w', ?_,by simpa using hown.1,World.grownBy.refl w' _,.inl rfl⟩
   rcases hown.1.2 with ⟨rfl,h2⟩ | ⟨g,cap,cur,rfl,_,_,hnc,_⟩
   ·cases A with
    | none=>simp [Builtin.append_,run_underlying ht,sizeOf,typeInfo,hi,Builtin.lenOf,Builtin.firstCells]
    | some ad=>simp [Builtin.append_,run_underlying ht,sizeOf,typeInfo,hi,Builtin.lenOf,Builtin.firstCells,loadCells,loadCellsFrom]
   ·cases A with
    | none=>simp [Builtin.append_,run_underlying ht,sizeOf,typeInfo,hi,Builtin.lenOf,Builtin.firstCells,hnc,storeCells]
    | some ad=>simp [Builtin.append_,run_underlying ht,sizeOf,typeInfo,hi,Builtin.lenOf,Builtin.firstCells,loadCells,loadCellsFrom,hnc,storeCells]
  ·cases A with
   | none=>exact absurd (hA I) h0
   | some ad=>
    obtain ⟨v', w1,hrun,h2,h3,_,h5⟩:=run_append_own_at (P:=P) w' w0.heap.size t ty e i z sz bytes ht hi hz0 hsize hbytes hzs hsz0 xv n' cs1 hown.1 ad m c cs2 hlen (fun j u hu=>hw.cell0 (hmem ad I j u hu)) h1
     (by simp only [maxLen]; omega) hmul (Nat.le_trans s.ag.size hw.size)
    exact ⟨v', w1,hrun,h2,h3,h5⟩
 obtain ⟨v', w1,hrun,h2,h3,h4⟩:=key
 refine ⟨v', w1,by simp [execOp,resolve,invoke,builtin,ha _ _ hx,ha _ _ hy,hrun],?_⟩
 have u' :=u v'
 have hag:Agree xv.ownBlock.toList w w1:=(Agree.widen hw).grown h3 (fun k hk=>by rw [hk]; simp) (qt _ _ _ _ hrun)
 have hL:∀ b∈xv.ownBlock.toList,(Ob.row w0.heap.size e sz xv n' cs1).block=some b:=fun b hb=>by simpa [Ob.block] using hb
 have hb:∀ b', (Ob.row w0.heap.size e sz v' (n'+m) (cs1++cs2)).block=some b'->(Ob.row w0.heap.size e sz xv n' cs1).block=some b'∨w.heap.size<=b' :=fun b' e=>by
  rcases h4 with h4 | h4
  ·exact .inl (h4.symm.trans e)
  ·right
   have:v'.ownBlock=some b' :=e
   rw [h4] at this
   cases this
   exact hw.size
 exact ⟨s.upd u' hag hL ⟨h2,by unfold eA; exact hfit⟩ hb,Tr.upd u' hag hL hb⟩
theorem St.rowMem {e:TypeId} {sz n' cap bk base:Nat} {cs:Lb Vc} {o' : Ob} (s:St w0 w O) (u:Upd O (.row base e sz (.slice (some ⟨bk,0,none⟩) n' cap) n' cs) o' O'):∀ j u,cs[j]? = some u->w.cell? ((⟨bk,0,none⟩:Addr).add j)=some u:=by
 obtain ⟨⟨_,h⟩,_⟩:=s.get u
 rcases h with ⟨h,_⟩ | ⟨g,cap', cur,he,_,hg,_,_,_,ht⟩
 ·cases h
 ·cases he
  intro j u hu
  have hadd:(⟨bk,0,none⟩:Addr).add j=⟨bk,j,none⟩:=by unfold Addr.add; split<;>simp_all
  rw [hadd,cell_of_row w bk _ _ e (0,0) hg,<- Array.getElem?_toList]
  rw [<- ht] at hu
  rcases Nat.lt_or_ge j (n'*sz) with hj | hj
  ·rwa [List.getElem?_take_of_lt hj] at hu
  ·rw [List.getElem?_eq_none (by rw [List.length_take]; omega)] at hu; cases hu
theorem St.rowForm {e:TypeId} {sz n' base:Nat} {xv:Vc} {cs:Lb Vc} {o' : Ob} (s:St w0 w O) (u:Upd O (.row base e sz xv n' cs) o' O'):∃ A c,xv=.slice A n' c/\n'<=4294967296/\cs.length=n'*sz/\(A=none->n'=0)/\(0<n'->∃ bk,A=some ⟨bk,0,none⟩)/\(∀ ad,A=some ad->∀ j u,cs[j]? = some u->w.cell? (ad.add j)=some u):=by
 have hh:=s.get u
 obtain ⟨⟨h1,h⟩,h3⟩:=hh
 rcases h with ⟨rfl,h0⟩ | ⟨g,cap', cur,rfl,_,hg,_,_,_,ht⟩
 ·subst h0
  exact ⟨none,0,rfl,h3,h1,fun _=>rfl,fun h=>(by omega),fun ad e=>(by cases e)⟩
 ·exact ⟨some ⟨g,0,none⟩,cap', rfl,h3,h1,fun e=>(by cases e),fun _=>⟨g,rfl⟩,fun ad e=>(by cases e; exact s.rowMem u)⟩
theorem Acts.storeRow {bk j sz n' cap base:Nat} {p:Addr} {old news new' : Lb Vc} {e:TypeId} {dd:Oa Tmp} (s:St w0 w O) (u:Upd O (.row base e sz (.slice (some ⟨bk,0,none⟩) n' cap) n' old) (.row base e sz (.slice (some ⟨bk,0,none⟩) n' cap) n' new') O') (hx:ev σ x=some (.pointer (some p))) (hp:p=(⟨bk,0,none⟩:Addr).add j) (hy:ev σ y=some v) (hv:v.cells=news.toArray) (hs:dS P t news.length=true)
  (hfit:j+news.length<=old.length) (h1:∀ u∈news,u.oneCell'=true) (hcs:old.take j++news++old.drop (j+news.length)=new'):Acts P ⟨dd,.store t x y,ty,ps,af,g⟩ σ w (Now w0 w O O'):=fun ρ ha w' hw=>by
 have hpp:p=⟨bk,j,none⟩:=by rw [hp]; unfold Addr.add; split<;>simp_all
 obtain ⟨⟨hl,hh⟩,hmost⟩:=s.get u
 rcases hh with ⟨hh,_⟩ | ⟨g', cap', cur,he,hbase,hgk,hnc,hcm,hcur,htake⟩
 ·cases hh
 ·cases he
  have hb' : w'.heap[bk]? = some (.cells cur.toList.toArray e (0,0)):=aJ hw (by simpa using hgk)
  have hle:old.length<=cur.toList.length:=by rw [<- htake,List.length_take]; omega
  have hr:=ib (P:=P) (t:=t) hpp hb' hv hs (by omega) h1
  refine ⟨w'.setRow bk (cur.toList.take j++news++cur.toList.drop (j+news.length)).toArray,by simp [execOp,ha _ _ hx,ha _ _ hy,Instr.storeAt,Instr.sureAddr,hr],?_⟩
  have hag:Agree [bk] w (w'.setRow bk (cur.toList.take j++news++cur.toList.drop (j+news.length)).toArray):=(hw.widen).trans (ei hb' _)
  have hL:∀ b∈[bk],(Ob.row base e sz (.slice (some ⟨bk,0,none⟩) n' cap) n' old).block=some b:=by simp [Ob.block,Value.ownBlock]
  have hnl:new'.length=old.length:=by rw [<- hcs]; simp only [List.length_append,List.length_take,List.length_drop]; omega
  refine ⟨s.upd u hag hL ⟨⟨by rw [hnl,hl],.inr ⟨bk,cap,_,rfl,hbase,setRow_heap w' bk _ _ e _ hb', hnc,hcm,?_,?_⟩⟩,hmost⟩ (fun b e=>.inl e),Tr.upd u hag hL (fun b e=>.inl e)⟩
  ·rw [List.size_toArray]; simp only [List.length_append,List.length_take,List.length_drop]
   rw [<- hcur,<- Array.length_toList]; omega
  ·rw [List.toList_toArray,<- hcs]
   have hn:n'*sz=old.length:=hl.symm
   have hoc:∀ i,i<old.length->old[i]? = cur.toList[i]?:=fun i hi=>by rw [<- htake,List.getElem?_take_of_lt (by omega)]
   apply List.ext_getElem?
   intro i
   rcases Nat.lt_or_ge i old.length with hi | hi
   ·rw [List.getElem?_take_of_lt (by omega)]
    rcases Nat.lt_or_ge i j with h2 | h2
    ·rw [List.append_assoc,List.append_assoc,List.getElem?_append_left (by rw [List.length_take]; omega),List.getElem?_append_left (by rw [List.length_take]; omega),List.getElem?_take_of_lt h2,List.getElem?_take_of_lt h2,hoc i hi]
    ·rcases Nat.lt_or_ge i (j+news.length) with h3 | h3
     ·rw [List.getElem?_append_left (by rw [List.length_append,List.length_take]; omega),List.getElem?_append_right (by rw [List.length_take]; omega),List.getElem?_append_left (by rw [List.length_append,List.length_take]; omega),List.getElem?_append_right (by rw [List.length_take]; omega),List.length_take,List.length_take,Nat.min_eq_left (by omega),Nat.min_eq_left (by omega)]
     ·rw [List.getElem?_append_right (by rw [List.length_append,List.length_take]; omega),List.getElem?_append_right (by rw [List.length_append,List.length_take]; omega),List.getElem?_drop,List.getElem?_drop,List.length_append,List.length_append,List.length_take,List.length_take,Nat.min_eq_left (by omega),Nat.min_eq_left (by omega),show j+news.length+(i-(j+news.length))=i by omega,hoc i hi]
   ·rw [List.getElem?_eq_none (by rw [List.length_take]; omega),List.getElem?_eq_none (by simp only [List.length_append,List.length_take,List.length_drop]; omega)]
end
end
section
open Go Go.RowKit
def lpO (r:Loop) (s:LoopState) (p:Oa Code):Obj:=.loop { r with state:=s,pending:=p }
structure Rec (r:Loop) (n:Nat) (σ:List (Nat×Value)) (ps:List Tmp) (assign body:Code):Prop where
 size:r.tmps.size=n
 get:∀ s v,look σ s=some v->r.tmps[s]? = some v
 params:r.params=ps.toArray
 assign:r.assign=assign
 body:r.body=body
def puts:Lb Tmp->Lb Vc->Lb (Nat×Vc)->Lb (Nat×Vc)
 | p::ps,v::vs,σ=>puts ps vs ((p,v)::σ)
 | _,_,σ=>σ
theorem lT {w:World} {r:Nat} {o:Obj}:Agree [r] w (w.putObj r o):=⟨rfl,rfl,rfl,by simp [World.putObj],fun k _ hk=>World.putObj_heap_other (by simpa using hk),Nat.le_refl _⟩
theorem oK {n:Nat}:∀ (ps:Lb Tmp) (vs:Lb Vc) (σ:Lb (Nat×Vc)) (T:Array Vc),Fr n [] σ { tmps:=T,defers:=[] }->ps.all (fun p=>Nat.blt p n)=true->Fr n [] (puts ps vs σ) { tmps:=(ps.zip vs).foldl (fun t (p,v)=>t.setIfInBounds p v) T,defers:=[] }
 | [],_,_,_,h,_=>h
 | _::_,[],_,_,h,_=>h
 | p::ps,v::vs,σ,T,h,hp=>by
  rw [List.all_cons,Bool.and_eq_true] at hp
  exact oK ps vs _ _ (h.put p v hp.1) hp.2
section
variable {P:Program} {Z:Machine->Prop} {b:Frame} {n:Nat} {ds:Lb Deferred} {cs:Lb Frame} {k:Lb Item} {σ τ:Lb (Nat×Vc)} {w w0:World} {ops:Array Oper} {l:Lb Oper} {d:Nat} {ty:TypeId} {ps:String} {af:Array Edge} {v:Vc} {x y:Operand} {t:TypeId} {O O' : Lb Ob} {g:Oa (Nat×Bool)}
theorem dG {bk:Nat} {o o2:Obj} (s:St w0 w O) (u:Upd O (.obj bk o) (.obj bk o2) O') {w' : World} (hw:Agree [] w w'):St w0 (w'.putObj bk o2) O' /\Tr w O (w'.putObj bk o2) O' :=by
 have hag:Agree [bk] w (w'.putObj bk o2):=hw.widen.trans lT
 have hL:∀ b∈[bk],(Ob.obj bk o).block=some b:=by simp [Ob.block]
 have hlt:bk<w'.heap.size:=Nat.lt_of_lt_of_le (oE (s.get u)) hw.size
 exact ⟨s.upd u hag hL (World.putObj_heap_same hlt) (fun b e=>.inl e),Tr.upd u hag hL (fun b e=>.inl e)⟩
theorem MX.endRange {lk:Nat} {r:Loop} {st:LoopState} {pe:Oa Code} (s:St w0 w O) (u:Upd O (.obj lk (lpO r st pe)) (.obj lk (lpO r .exhausted pe)) O') (hst:st≠.busy) (h:∀ w1,St w0 w1 O'->Tr w O w1 O'->MX P Z b n ds cs ((pe.map Item.code).toList++k) σ w1):MX P Z b n ds cs (.endRangeFunc lk::k) σ w:=by
 intro a w' ha hw
 have hr:=run_endLoop (P:=P) (r:={ r with state:=st,pending:=pe }) (aJ hw (s.get u)) (by simpa using hst)
 refine .step (stepR_endRangeFunc hr) ?_
 obtain ⟨h1,h2⟩:=dG s u hw
 exact h _ h1 h2 _ _ ha (Agree.refl _ _)
theorem MX.endRange0 {lk:Nat} {r:Loop} {st:LoopState} (s:St w0 w O) (u:Upd O (.obj lk (lpO r st none)) (.obj lk (lpO r .exhausted none)) O') (hst:st≠.busy) (h:∀ w1,St w0 w1 O'->Tr w O w1 O'->MX P Z b n ds cs k σ w1):MX P Z b n ds cs (.endRangeFunc lk::k) σ w:=MX.endRange s u hst h
theorem MX.endRange1 {lk:Nat} {r:Loop} {st:LoopState} {c:Code} (s:St w0 w O) (u:Upd O (.obj lk (lpO r st (some c))) (.obj lk (lpO r .exhausted (some c))) O') (hst:st≠.busy) (h:∀ w1,St w0 w1 O'->Tr w O w1 O'->MX P Z b n ds cs (.code c::k) σ w1):MX P Z b n ds cs (.endRangeFunc lk::k) σ w:=MX.endRange s u hst h
theorem MX.begin {f:FuncId} {lk:Nat} {r:Loop} (s:St w0 w O) (u:Upd O (.obj lk (lpO r .ready none)) (.obj lk (lpO r .busy none)) O') (h:∀ w1,St w0 w1 O'->Tr w O w1 O'->MX P Z (fb f .normal (some lk)) n ds cs k σ w1):MX P Z (fb f .normal (some lk)) n ds cs (.beginRound::k) σ w:=by
 intro a w' ha hw
 have hr:=run_beginRound (P:=P) (r:={ r with state:=.ready,pending:=none }) (aJ hw (s.get u)) I
 refine .step (stepR_beginRound I hr) ?_
 obtain ⟨h1,h2⟩:=dG s u hw
 exact h _ h1 h2 _ _ ha (Agree.refl _ _)
theorem MX.roundEnd {f:FuncId} {lk:Nat} {r:Loop} {fr:Frame} {X:Vc->World->Prop} (hk:Back P Z fr cs X) (s:St w0 w O) (u:Upd O (.obj lk (lpO r .busy none)) (.obj lk (lpO r .ready none)) O') (h:∀ w1,St w0 w1 O'->Tr w O w1 O'->X (.bool true) w1):MX P Z (fb f .normal (some lk)) n ds (fr::cs) [] σ w:=by
 intro a w' ha hw
 have hr:=run_endRound (P:=P) none (r:={ r with state:=.busy,pending:=none }) (aJ hw (s.get u))
 refine .step (stepR_round_end I I hr) ?_
 obtain ⟨h1,h2⟩:=dG s u hw
 exact hk _ _ _ (h _ h1 h2) (Agree.refl _ _)
theorem MX.roundRet {f:FuncId} {lk:Nat} {r:Loop} {fr:Frame} {X:Vc->World->Prop} (hk:Back P Z fr cs X) (s:St w0 w O) (u:Upd O (.obj lk (lpO r .busy none)) (.obj lk (lpO r .done (some .ret))) O') (h:∀ w1,St w0 w1 O'->Tr w O w1 O'->X (.bool false) w1):MX P Z (fb f .normal (some lk)) n ds (fr::cs) (.code .ret::k) σ w:=by
 intro a w' ha hw
 have hr:=run_endRound (P:=P) (some .ret) (r:={ r with state:=.busy,pending:=none }) (aJ hw (s.get u))
 refine .step (stepR_round_ret I I hr) ?_
 obtain ⟨h1,h2⟩:=dG s u hw
 exact hk _ _ _ (h _ h1 h2) (Agree.refl _ _)
theorem RT.take {D:Nat} (s:St w0 w O) (u:Upd O (.obj D (.deferred (some []))) (.obj D (.deferred none)) O') (h:∀ w1,St w0 w1 O'->Tr w O w1 O'->RT P Z b n ds cs σ w1):RT P Z b n ({ target:=.collected D,args:=#[] }::ds) cs σ w:=by
 intro a w' todo ha hw
 have hr:=run_takeDeferred (P:=P) (aJ hw (s.get u))
 obtain ⟨h1,h2⟩:=dG s u hw
 refine .step (m1:=lone { b.atR { a with defers:=ds } todo with mode:=.returning } cs (w'.putObj D (.deferred none))) (step_lone_go ?_) (h _ h1 h2 { a with defers:=ds } _ todo ⟨ha.size,I,ha.get⟩ (Agree.refl _ _))
 have hd:=ha.defers
 obtain ⟨T,dd⟩:=a
 simp only at hd
 subst hd
 simp [stepG,unwind,Sem.runT_eq,hr,Frame.atR]
/-! ### Maps of the call's own -/
class Enc (α:Type) where
 enc:α->Vc
instance:Enc Int:=⟨fun x=>.int .i64 x⟩
instance:Enc Bool:=⟨fun x=>.bool x⟩
instance:Enc ByteArray:=⟨fun x=>.string x⟩
instance:Enc UInt64:=⟨fun x=>.int .u64 (x.toNat:Int)⟩
def ab {κ ν:Type} [Enc κ] [Enc ν] (D:Lb (κ×ν)):Obj:=.map (D.zipIdx.map fun (e,i)=>({ key:=Enc.enc e.1,val:=Enc.enc e.2,born:=i }:MapEntry)).toArray D.length
def aH {κ ν:Type} [DecidableEq κ]:Lb (κ×ν)->κ->ν->Lb (κ×ν)
 | [],k,v=>[(k,v)]
 | e::D,k,v=>if k=e.1 then (k,v)::D else e::aH D k v
def aP {κ ν:Type} [DecidableEq κ]:Lb (κ×ν)->κ->Oa ν
 | [],_=>none
 | e::D,k=>if k=e.1 then some e.2 else aP D k
def ap {κ ν:Type} [DecidableEq κ] (D:Lb (κ×ν)) (k:κ) (z:ν):ν:=(aP D k).getD z
class MKey (κ:Type) [Enc κ] [DecidableEq κ] where
 kind:TypeDesc->Bool
 same:∀ (t:TypeDesc) (a b:κ),kind t=true->Instr.sameNow t (Enc.enc a) (Enc.enc b)=some (decide (a=b))
 bits:∀ a:κ,Instr.sameBits 10000 (Enc.enc a) (Enc.enc a)=true
 plain:∀ t,kind t=true->(∀ ms,t≠.interface ms)/\(∀ n e,t≠.array n e)/\(∀ fs,t≠.struct fs)
theorem nh (a b:ByteArray):(a==b)=decide (a=b):=by
 obtain ⟨a⟩:=a; obtain ⟨b⟩:=b
 show (a==b)=_
 by_cases h:a=b
 ·subst h; simp
 ·rw [beq_eq_false_iff_ne.2 h,decide_eq_false (by simpa using h)]
instance:MKey Int where
 kind:=fun t=>match t with | .int _=>true | _=>false
 same:=fun t a b h=>by cases t<;>simp at h<;>simp [Instr.sameNow,Enc.enc,lR]
 bits:=fun a=>by simp [Instr.sameBits,Enc.enc]
 plain:=fun t h=>by cases t<;>simp_all
instance:MKey ByteArray where
 kind:=fun t=>match t with | .string=>true | _=>false
 same:=fun t a b h=>by cases t<;>simp at h<;>simp [Instr.sameNow,Enc.enc]; exact nh a b
 bits:=fun a=>by simp [Instr.sameBits,Enc.enc,nh]
 plain:=fun t h=>by cases t<;>simp_all
section
variable {κ ν:Type} [Enc κ] [Enc ν]
def bs (D:Lb (κ×ν)) (i:Nat):Lb MapEntry:=(D.zipIdx i).map fun (e,i)=>({ key:=Enc.enc e.1,val:=Enc.enc e.2,born:=i }:MapEntry)
theorem bw (e:κ×ν) (D:Lb (κ×ν)) (i:Nat):bs (e::D) i={ key:=Enc.enc e.1,val:=Enc.enc e.2,born:=i }::bs D (i+1):=by simp [bs,List.zipIdx_cons]
theorem db (D:Lb (κ×ν)):ab D=.map (bs D 0).toArray D.length:=rfl
theorem kH (D:Lb (κ×ν)):∀ (i m:Nat) (_h:m<D.length) (k:κ) (v:ν),bs (D.set m (k,v)) i=(bs D i).modify m fun e=>{ e with key:=Enc.enc k,val:=Enc.enc v }:=by
 induction D with
 | nil=>intro i m h; simp at h
 | cons e D ih=>
  intro i m h k v
  cases m with
  | zero=>rw [List.set_cons_zero,bw,bw]; rfl
  | succ m=>rw [List.set_cons_succ,bw,bw,ih (i+1) m (by simpa using h) k v]; rfl
theorem gC (D:Lb (κ×ν)):∀ (i:Nat) (e:κ×ν),bs (D++[e]) i=bs D i++[{ key:=Enc.enc e.1,val:=Enc.enc e.2,born:=i+D.length }]:=by
 induction D with
 | nil=>intro i e; rfl
 | cons x D ih=>intro i e; rw [List.cons_append,bw,bw,ih]; simp [Nat.add_assoc,Nat.add_comm 1]
theorem nz (D:Lb (κ×ν)):∀ (i m:Nat),(bs D i)[m]? = (D[m]?).map fun e=>{ key:=Enc.enc e.1,val:=Enc.enc e.2,born:=i+m }:=by
 induction D with
 | nil=>intro i m; rfl
 | cons x D ih=>
  intro i m
  rw [bw]
  cases m with
  | zero=>rfl
  | succ m=>simp only [List.getElem?_cons_succ]; rw [ih]; simp [Nat.add_assoc,Nat.add_comm 1]
end
section
variable {κ ν:Type} [DecidableEq κ]
def cd (D:Lb (κ×ν)) (k:κ) (j:Nat):Oa (Nat×ν):=match D with
 | []=>none
 | e::D=>if k=e.1 then some (j,e.2) else cd D k (j+1)
theorem dy (k:κ):∀ (D:Lb (κ×ν)) (j:Nat),aP D k=(cd D k j).map (·.2)
 | [],_=>rfl
 | e::D,j=>by
  rw [aP,cd]
  split
  ·rfl
  ·exact dy k D (j+1)
theorem jS {D:Lb (κ×ν)} {k:κ}:∀ {j m:Nat} {b:ν},cd D k j=some (m,b)->j<=m/\m-j<D.length/\∀ v,aH D k v=D.set (m-j) (k,v)/\(D[m-j]?).map (·.1)=some k:=by
 induction D with
 | nil=>intro j m b h; cases h
 | cons e D ih=>
  intro j m b h
  rw [cd] at h
  split at h
  ·rename_i he
   cases h
   refine ⟨Nat.le_refl _,by simp,fun v=>?_⟩
   rw [aH,if_pos he,Nat.sub_self]
   exact ⟨rfl,by simp [he]⟩
  ·rename_i he
   obtain ⟨h1,h2,h3⟩:=ih h
   refine ⟨by omega,by rw [List.length_cons]; omega,fun v=>?_⟩
   obtain ⟨h4,h5⟩:=h3 v
   rw [aH,if_neg he,h4,show m-j=(m-(j+1))+1 by omega]
   exact ⟨rfl,by simpa using h5⟩
theorem gw {k:κ}:∀ {D:Lb (κ×ν)} {j:Nat},cd D k j=none->∀ v,aH D k v=D++[(k,v)]
 | [],_,_,_=>rfl
 | e::D,j,h,v=>by
  rw [cd] at h
  split at h
  ·cases h
  ·rename_i he
   rw [aH,if_neg he,gw h v]; rfl
end
section
variable {κ ν:Type} [Enc κ] [Enc ν] [DecidableEq κ] [MKey κ]
theorem gg {kd:TypeDesc} (hk:MKey.kind κ kd=true) (k:κ):∀ (D:Lb (κ×ν)) (i j:Nat),Instr.findNow kd (Enc.enc k) (bs D i) j=some ((cd D k j).map fun (a,b)=>(a,Enc.enc b))
 | [],_,_=>rfl
 | e::D,i,j=>by
  rw [bw,Instr.findNow,MKey.same kd k e.1 hk,cd]
  by_cases h:k=e.1
  ·rw [decide_eq_true h,if_pos h]; rfl
  ·rw [decide_eq_false h,if_neg h]; exact gg hk k D (i+1) (j+1)
theorem dH {P:Program} {t:TypeId} {kd:TypeDesc} (ht:P.underlying t=some kd) (hk:MKey.kind κ kd=true) (k:κ) (D:Lb (κ×ν)) (w:World):(Instr.findKey t (Enc.enc k) (bs D 0)).run P w=.ok ((cd D k 0).map fun (a,b)=>(a,Enc.enc b)) w:=by
 simp [Instr.findKey,Sem.run_bind,run_underlying ht,gg hk]
theorem dc {P:Program} {t:TypeId} {kd:TypeDesc} (q:Bool) (ht:P.underlying t=some kd) (hk:MKey.kind κ kd=true) (v:Vc) (w:World):(Instr.checkKey q 10000 t v).run P w=.ok () w:=by
 obtain ⟨h1,h2,h3⟩:=MKey.plain (κ:=κ) kd hk
 rw [show (10000:Nat)=9999+1 from I,Instr.checkKey,Sem.run_bind,run_underlying ht]
 cases kd<;>simp_all
theorem kr {P:Program} {t kt et:TypeId} {kd:TypeDesc} (hm:P.underlying t=some (.map kt et)) (ht:P.underlying kt=some kd) (hk:MKey.kind κ kd=true) {bk:Nat} {D:Lb (κ×ν)} {w:World} (hb:w.heap[bk]? = some (ab D)) (k:κ) (v:ν) :
  (Instr.mapUpdate t (.map (some bk)) (Enc.enc k) (Enc.enc v)).run P w=.ok () (w.putObj bk (ab (aH D k v))):=by
 have hget:(getObj bk).run P w=.ok (ab D) w:=by simp [getObj,Sem.run,hb,ab]
 have hset:∀ o,(setObj bk o).run P w=.ok () (w.putObj bk o):=fun o=>by simp [setObj,Sem.run,hb,ab,World.putObj]
 simp only [Instr.mapUpdate,Sem.run_bind,run_underlying hm,Result.andThen_ok,hget,db,dc (κ:=κ) false ht hk,dH ht hk]
 cases hf:cd D k 0 with
 | none=>
  simp only [Option.map_none]
  rw [gw hf v,gC,hset]
  simp
 | some r=>
  obtain ⟨m,u⟩:=r
  obtain ⟨_,h2,h3⟩:=jS hf
  obtain ⟨h4,h5⟩:=h3 v
  rw [Nat.sub_zero] at h2 h4 h5
  have hkey:((bs D 0).toArray[m]?).map (·.key)=some (Enc.enc k):=by
   rw [List.getElem?_toArray,nz]
   cases hd:D[m]? with
   | none=>rw [hd] at h5; cases h5
   | some e=>rw [hd] at h5; simp at h5; simp [h5]
  simp only [Option.map_some,hkey,Option.getD_some,Instr.keyThatStays,MKey.bits k,if_true,Sem.run_bind,Sem.run_pure,Result.andThen_ok]
  rw [h4,kH D 0 m h2 k v,hset]
  simp [List.modify_toArray]
theorem Acts.mapUpdate {t kt et:TypeId} {kd:TypeDesc} {xm xk xv:Operand} {bk:Nat} {D:Lb (κ×ν)} {kv:κ} {vv:ν} {dd:Oa Tmp} (s:St w0 w O) (u:Upd O (.obj bk (ab D)) (.obj bk (ab (aH D kv vv))) O') (hm:P.underlying t=some (.map kt et)) (ht:P.underlying kt=some kd) (hk:MKey.kind κ kd=true)
  (h1:ev σ xm=some (.map (some bk))) (h2:ev σ xk=some (Enc.enc kv)) (h3:ev σ xv=some (Enc.enc vv)):Acts P ⟨dd,.mapUpdate t xm xk xv,ty,ps,af,g⟩ σ w (Now w0 w O O'):=fun ρ ha w' hw=>by
 refine ⟨w'.putObj bk (ab (aH D kv vv)),?_,dG s u hw⟩
 simp only [execOp,ha _ _ h1,ha _ _ h2,ha _ _ h3,Sem.run_bind,kr hm ht hk (aJ hw (s.get u)) kv vv,Result.andThen_ok]; rfl
theorem FV.lookup {t kt et:TypeId} {kd:TypeDesc} {xm xk:Operand} {dd:Oa Tmp} {bk:Nat} {D:Lb (κ×ν)} {kv:κ} {z:ν} (s:St w0 w O) (u:At O (.obj bk (ab D))) (hm:P.underlying t=some (.map kt et)) (ht:P.underlying kt=some kd) (hk:MKey.kind κ kd=true)
  (hz:(P.info? et).bind (·.zero)=some (Enc.enc z)) (h1:ev σ xm=some (.map (some bk))) (h2:ev σ xk=some (Enc.enc kv)):FV P ⟨dd,.lookup t xm xk false,ty,ps,af,g⟩ σ w (Enc.enc (ap D kv z)):=by
 intro ρ ha w' hw
 have hb:=aJ hw (s.get u.upd)
 have hget:(getObj bk).run P w'=.ok (ab D) w' :=by simp [getObj,Sem.run,hb,ab]
 have hzero:(zeroValue et).run P w'=.ok (Enc.enc z) w' :=by
  cases hi:P.info? et with
  | none=>rw [hi] at hz; cases hz
  | some i=>rw [hi] at hz; simp at hz; simp [zeroValue,typeInfo,hi,hz]
 simp only [execOp,ha _ _ h1,ha _ _ h2,Instr.lookup,Sem.run_bind,run_underlying hm,Result.andThen_ok,hget,db,Sem.run_pure,dc (κ:=κ) _ ht hk,dH ht hk]
 unfold ap
 rw [dy kv D 0]
 cases hf:cd D kv 0 with
 | none=>simp [hzero]
 | some r=>obtain ⟨m,u'⟩:=r; simp
end
section
variable {κ ν:Type} [Enc κ] [Enc ν]
theorem Does.makeMap {t:TypeId} {dd:Oa Tmp} (s:St w0 w O):Does P ⟨dd,.makeMap t none,ty,ps,af,g⟩ σ w (New w0 w O (fun bk=>.obj bk (ab ([]:Lb (κ×ν)))) (fun bk=>.map (some bk))):=fun ρ ha w' hw=>by
 refine ⟨.map (some w'.heap.size),w'.alloc (.map #[] 0),by simp [execOp,Instr.makeMap],bj _ _ _,?_⟩
 have hag:=hw.trans (bj w' (.map #[] 0) [])
 have hb:∀ b', (Ob.obj w'.heap.size (ab ([]:Lb (κ×ν)))).block=some b'->w.heap.size<=b' :=fun b' e=>by cases e; exact hw.size
 exact ⟨_,I,s.push hag (heap_alloc_new w' _) hb,Tr.push hag hb⟩
end
end
end
section
open Go Go.RowKit
inductive Arr:Lb Ob->Lb Ob->Prop
 | done {O:Lb Ob}:Arr O []
 | one {O O1 O' : Lb Ob} {o:Ob} (h:Out O o O1) (h2:Arr O1 O'):Arr O (o::O')
theorem Out.mem {O O' : Lb Ob} {o:Ob} (h:Out O o O') {b:Nat} (hb:o.block=some b):b∈bl O:=by
 induction h with
 | hd=>exact au.2 (.inl hb)
 | tl _ ih=>exact au.2 (.inr (ih hb))
theorem Arr.bl {O O' : Lb Ob} (h:Arr O O') {b:Nat} (hb:b∈bl O'):b∈bl O:=by
 induction h with
 | done=>cases hb
 | one h _ ih=>
  rcases au.1 hb with e | e
  ·exact h.mem e
  ·exact h.del.bl (ih e)
theorem Arr.owns {w:World} {O O' : Lb Ob} (h:Arr O O') (ho:Owns w O):Owns w O' :=by
 induction h with
 | done=>trivial
 | one h h2 ih=>
  obtain ⟨h3,h4⟩:=h.get ho
  exact ⟨h3,fun b e hm=>h4 b e (h2.bl hm),ih (h.del.owns ho)⟩
theorem St.arr {w0 w:World} {O O' : Lb Ob} (s:St w0 w O) (h:Arr O O'):St w0 w O' :=⟨s.ag,fun b hb=>s.new b (h.bl hb),h.owns s.ok⟩
theorem Tr.arr {w:World} {O O' : Lb Ob} (h:Arr O O'):Tr w O w O' :=⟨Agree.refl _ _,fun _ hb=>.inl (h.bl hb)⟩
theorem St.hL {w0 w w9:World} {O:Lb Ob} {L:Lb Nat} (s:St w0 w O) (h:∀ b∈L,b<w0.heap.size) (hw:Agree [] w w9):∀ b∈bl O++L,b<w9.heap.size:=fun b hb=>by
 rcases List.mem_append.1 hb with hb | hb
 ·exact Nat.lt_of_lt_of_le (s.ok.lt b hb) hw.size
 ·exact Nat.lt_of_lt_of_le (h b hb) (Nat.le_trans s.ag.size hw.size)
theorem St.memA {w0 w:World} {O:Lb Ob} {b:Nat} {cs:Lb Vc} {t:TypeId} (h:St w0 w O) (u:At O (.cells b cs t)):∀ j v,cs[j]? = some v->w.cell? ((⟨b,0,none⟩:Addr).add j)=some v:=pi (h.get u.upd)
theorem St.nilRow {w0 w:World} {O:Lb Ob} (s:St w0 w O) (e:TypeId) (sz:Nat):St w0 w (.row w0.heap.size e sz (.slice none 0 0) 0 []::O):=
 s.push (Agree.refl _ _) ⟨World.ownsRow_nil w _ e _,by simp [eA]⟩ (fun b e=>by cases e)
theorem Tr.nilRow {w:World} {O:Lb Ob} (base:Nat) (e:TypeId) (sz:Nat):Tr w O w (.row base e sz (.slice none 0 0) 0 []::O):=Tr.push (Agree.refl _ _) (fun b e=>by cases e)
section
variable {α:Type} [Rep α] {w w0:World} {O O' : Lb Ob} {L:Lb Nat} {v:Vc} {xs ys zs:Lb α} {cs:Lb Vc} {e:TypeId} {base:Nat}
theorem St.freeze (s:St w0 w O) (u:Out O (.row base e (Rep.size α) v xs.length cs) O') (hc:Cells w (bl O++L) cs xs) (hL:∀ b∈L,b<w0.heap.size):Rep.R w (bl O'++L) [v] xs:=by
 obtain ⟨h1,h2⟩:=u.get s.ok
 have hc' : Cells w (bl O'++L) cs xs:=⟨hc.1,fun i hi=>Rep.shun (hc.2 i hi) (fun b hb=>.inl (by
  rcases List.mem_append.1 hb with hb | hb
  ·exact List.mem_append.2 (.inl (u.del.bl hb))
  ·exact List.mem_append.2 (.inr hb)))⟩
 refine py h1 hc' (fun b hb hm=>?_)
 rcases List.mem_append.1 hm with hm | hm
 ·exact h2 b hb hm
 ·have:=s.new b (u.mem hb); have:=hL b hm; omega
theorem St.rowV (s:St w0 w O) (u:At O (.row base e (Rep.size α) v xs.length cs)):∃ A c,v=.slice A xs.length c:=by
 obtain ⟨A,c,h,_⟩:=s.rowForm u.upd; exact ⟨A,c,h⟩
theorem St.rowLe (s:St w0 w O) (u:At O (.row base e (Rep.size α) v xs.length cs)):xs.length<=4294967296:=by
 obtain ⟨A,c,_,h,_⟩:=s.rowForm u.upd; exact h
theorem St.nth (s:St w0 w O) (u:At O (.row base e (Rep.size α) v xs.length cs)) (hc:Cells w L cs xs) {i:Nat} {x:α} (hx:xs[i]? = some x) :
  ∃ (A:Addr) (c:Nat),v=.slice (some A) xs.length c/\i<xs.length/\∃ es,Rep.R w L es x/\∀ j u,es[j]? = some u->w.cell? ((A.add (i*Rep.size α)).add j)=some u:=by
 obtain ⟨hi,rfl⟩:=List.getElem?_eq_some_iff.1 hx
 obtain ⟨A,c,h1,_,_,_,h5,h6⟩:=s.rowForm u.upd
 obtain ⟨bk,rfl⟩:=h5 (by omega)
 exact ⟨_,c,h1,hi,_,hc.2 i hi,fun j u hu=>by
  exact ay (h6 _ I) _ _ j u hu⟩
theorem St.nthOwn (s:St w0 w O) (u:At O (.row base e (Rep.size α) v xs.length cs)) {i:Nat} (hi:i<xs.length):∃ bk c,v=.slice (some ⟨bk,0,none⟩) xs.length c:=by
 obtain ⟨A,c,h1,_,_,_,h5,h6⟩:=s.rowForm u.upd
 obtain ⟨bk,rfl⟩:=h5 (by omega)
 exact ⟨bk,c,h1⟩
def Src (w:World) (L:Lb Nat) (v:Vc) (ys:Lb α):Prop:=∃ A c ds,v=.slice A ys.length c/\Cells w L ds ys/\(∀ ad,A=some ad->∀ j u,ds[j]? = some u->w.cell? (ad.add j)=some u)/\(A=none->ys.length=0)
theorem Src.rep (h:Rep.R w L [v] ys):Src w L v ys:=by
 obtain ⟨A,c,ds,h1,h2,h3⟩:=Rep.allCells h
 refine ⟨A,c,ds,h1,h2,h3,fun hA=>?_⟩
 rcases Nat.eq_zero_or_pos ys.length with h0 | h0
 ·exact h0
 ·obtain ⟨A', c', h4,_⟩:=Rep.nth h (List.getElem?_eq_getElem h0)
  rw [h1] at h4; cases h4; cases hA
theorem Src.row (s:St w0 w O) (u:At O (.row base e (Rep.size α) v ys.length cs)) (hc:Cells w L cs ys):Src w L v ys:=by
 obtain ⟨A,c,h1,_,_,h4,_,h6⟩:=s.rowForm u.upd
 exact ⟨A,c,cs,h1,hc,h6,h4⟩
structure ElT (P:Program) (t e sz bytes:Nat) (z:Value) (zs:List Value):Prop where
 ht:P.underlying t=some (.slice e)
 info:(P.info? e).map (fun i=>(i.zero,i.size,i.bytes))=some (some z,sz,bytes)
 hz:z.cells=zs.toArray
 len:zs.length=sz
 pos:Nat.blt 0 sz=true
 small:Nat.ble bytes 32768=true
theorem ElT.size {P:Program} {t e sz bytes:Nat} {z:Vc} {zs:Lb Vc} (h:ElT P t e sz bytes z zs):dS P e sz=true:=by
 have:=h.info
 unfold dS
 cases hi:P.info? e with
 | none=>rw [hi] at this; cases this
 | some i=>rw [hi] at this; simp at this; simp [this.2.1]
theorem ElT.zeros {P:Program} {t e sz bytes:Nat} {z:Vc} {zs:Lb Vc} (h:ElT P t e sz bytes z zs):eh P e zs:=by
 have:=h.info
 unfold eh
 cases hi:P.info? e with
 | none=>rw [hi] at this; cases this
 | some i=>rw [hi] at this; simp at this; simp [this.1,h.hz]
variable {P:Program} {Z:Machine->Prop} {b:Frame} {n:Nat} {ds:Lb Deferred} {cf:Lb Frame} {k:Lb Item} {σ τ:Lb (Nat×Vc)} {ops:Array Oper} {l:Lb Oper} {d:Nat} {ty:TypeId} {ps:String} {af:Array Edge} {x y:Operand} {t:TypeId} {g:Oa (Nat×Bool)} {bytes:Nat} {z:Vc} {zc:Lb Vc} {dd:Oa Tmp}
def Apps (w0 w:World) (O:Lb Ob) (L:Lb Nat) (F:Vc->Lb Vc->Lb Ob) (zs:Lb α) (v' : Vc) (w1:World):Prop:=∃ cs', St w0 w1 (F v' cs')/\Tr w O w1 (F v' cs')/\Cells w1 (bl (F v' cs')++L) cs' zs
theorem DoesL.app {yv:Vc} {F:Vc->Lb Vc->Lb Ob} (hz:app xs ys=some zs) (s:St w0 w O) (u:∀ v' cs', Upd O (.row w0.heap.size e (Rep.size α) v xs.length cs) (.row w0.heap.size e (Rep.size α) v' zs.length cs') (F v' cs')) (el:ElT P t e (Rep.size α) bytes z zc)
  (hx:ev σ x=some v) (hy:ev σ y=some yv) (hc:Cells w (bl O++L) cs xs) (hs:Src w (bl O++L) yv ys):DoesL P ⟨dd,.call { callee:=.builtin .append,args:=#[x,y],argTypes:=#[t,t] },ty,ps,af,g⟩ σ w (Apps w0 w O L F zs):=by
 obtain ⟨A,c,ds', rfl,h2,h3,h4⟩:=hs
 obtain ⟨rfl,hfit⟩:=app_in hz
 have key:=DoesL.append (P:=P) (t:=t) (dd:=dd) (ty:=ty) (ps:=ps) (af:=af) (g:=g) (F:=fun v' =>F v' (cs++ds')) (cs2:=ds') s (fun v' =>by have:=u v' (cs++ds'); rwa [List.length_append] at this) el.ht el.info el.hz el.len el.pos el.small hx hy h2.1 h3 h2.cell h4 hfit
 intro ρ ha w' hw
 obtain ⟨v', w1,h5,h6,h7⟩:=key ρ ha w' hw
 exact ⟨v', w1,h5,cs++ds', h6,h7,(hc.append h2).mv h7⟩
theorem Does.build {m:Nat} {parts:Lb (Nat×Operand)} {vs ds' : Lb Vc} (hxs:xs.length=m) (s:St w0 w O) (el:ElT P t e (Rep.size α) bytes z zc) (hm:Nat.ble (m*Rep.size α) 16777216=true) (hv:evs σ (parts.map Prod.snd) vs)
  (hfill:Instr.fill (fun i=>some (i*Rep.size α,Rep.size α)) ((Array.range (m*Rep.size α)).map (zc.toArray[·%zc.toArray.size]!)) ((parts.map Prod.fst).zip vs)=some ds'.toArray) (hlen:ds'.length=m*Rep.size α) :
  Does P ⟨dd,.buildSlice t m parts.toArray,ty,ps,af,g⟩ σ w (New w0 w O (fun b' =>.row w0.heap.size e (Rep.size α) (.slice (some ⟨b', 0,none⟩) m m) xs.length ds') (fun b' =>.slice (some ⟨b', 0,none⟩) m m)):=by
 subst hxs
 exact Does.buildSlice s el.ht el.size el.zeros hm el.pos hv hfill hlen
theorem Does.mk {mi:Int} {x0:α} (hmk:mk mi x0=some xs) (s:St w0 w O) (el:ElT P t e (Rep.size α) bytes z zc) (hx:ev σ x=some (.int .i64 mi)) :
  Does P ⟨dd,.makeSlice t x x,ty,ps,af,g⟩ σ w (New w0 w O (fun b' =>.row w0.heap.size e (Rep.size α) (.slice (some ⟨b', 0,none⟩) mi.toNat mi.toNat) xs.length (List.replicate mi.toNat zc).flatten) (fun b' =>.slice (some ⟨b', 0,none⟩) mi.toNat mi.toNat)):=by
 obtain ⟨rfl,h1,h2⟩:=rW hmk
 rw [List.length_replicate]
 exact Does.make s el.ht el.info el.hz el.len hx h1 h2 el.small
theorem Cells.mk {mi:Int} {x0:α} {zc:Lb Vc} (hmk:mk mi x0=some xs) (h:Rep.R w L zc x0):Cells w L (List.replicate mi.toNat zc).flatten xs:=by
 obtain ⟨rfl,h1,h2⟩:=rW hmk
 exact Cells.replicate h _
theorem Acts.set {i:Nat} {yv:Vc} {zx:α} {news:Lb Vc} {bk c:Nat} {F:Lb Vc->Lb Ob} {pa:Addr} (hput:put xs (i:Int) zx=some ys) (s:St w0 w O) (he:v=.slice (some ⟨bk,0,none⟩) xs.length c) (u:∀ cs', Upd O (.row base e (Rep.size α) v xs.length cs) (.row base e (Rep.size α) v ys.length cs') (F cs')) (hc:Cells w (bl O++L) cs xs)
  (hx:ev σ x=some (.pointer (some pa))) (hp:pa=(⟨bk,0,none⟩:Addr).add (i*Rep.size α)) (hy:ev σ y=some yv) (hv:yv.cells=news.toArray) (hr:Rep.R w (bl O++L) news zx) (hs:dS P t (Rep.size α)=true) :
  Acts P ⟨dd,.store t x y,ty,ps,af,g⟩ σ w (fun w1=>∃ cs', St w0 w1 (F cs')/\Tr w O w1 (F cs')/\Cells w1 (bl (F cs')++L) cs' ys):=by
 subst he
 obtain ⟨rfl,_,hi⟩:=put_in hput
 simp only [Int.toNat_natCast,List.length_set] at *
 have hl:=Rep.len hr
 have hle:i*Rep.size α+Rep.size α<=cs.length:=by rw [hc.1,<- Nat.succ_mul]; exact Nat.mul_le_mul_right _ hi
 have key:=Acts.storeRow (P:=P) (t:=t) (dd:=dd) (ty:=ty) (ps:=ps) (af:=af) (g:=g) (old:=cs) (news:=news) s (u _) hx hp hy hv (by rw [hl]; exact hs) (by rw [hl]; exact hle) (Rep.one hr) I
 intro ρ ha w' hw
 obtain ⟨w1,h5,h6,h7⟩:=key ρ ha w' hw
 exact ⟨w1,h5,_,h6,h7,(hc.set hi hr).mv h7⟩
theorem FV.idxAddr {m len c i:Nat} {kd:IntKind} {j:Int} {p:Addr} (ht:ij P t m=true) (hx:ev σ x=some v) (he:v=.slice (some p) len c) (hy:ev σ y=some (.int kd j)) (hj:j=(i:Int)) (hk:i<len):FV P ⟨dd,.indexAddr t x y,ty,ps,af,g⟩ σ w (.pointer (some (p.add (i*m)))):=
 FV.indexAddr ht (by rw [hx,he]) hy I hj hk
theorem FV.lenV {A:Oa Addr} {m c:Nat} (ht:P.underlying t=some (.slice e)) (hx:ev σ x=some v) (he:v=.slice A m c):FV P ⟨dd,.call { callee:=.builtin .len,args:=#[x],argTypes:=#[t] },ty,ps,af,g⟩ σ w (.int .i64 m):=FV.len_slice ht (by rw [hx,he])
end
theorem Rep.dropO {α:Type} [Rep α] {w:World} {O:Lb Ob} {L:Lb Nat} {cs:Lb Vc} {x:α} (h:Rep.R w (bl O++L) cs x):Rep.R w L cs x:=Rep.shun h (fun _ hb=>.inl (List.mem_append.2 (.inr hb)))
theorem bX {α:Type} [Rep α] {w:World} {L:Lb Nat} {cs:Lb Vc} {xs:Lb α} (h:Rep.R w L cs xs):∃ v,cs=[v]/\Rep.R w L [v] xs:=by
 have h0:=h
 obtain ⟨A,c,rfl,_⟩:=h
 exact ⟨_,I,h0⟩
end
section
open Go Go.RowKit
def ba (ops:Array Oper):Bool:=ops.all fun o=>match o.op with
 | .select _ _=>false
 | .defer _=>false
 | _=>true
theorem bS {ops:Array Oper} (h:ba ops=true) {i:Nat} {o:Oper} (hi:ops[i]? = some o):(∀ cs b,o.op≠.select cs b)/\∀ c,o.op≠.defer c:=by
 unfold ba at h
 rw [Array.all_eq_true_iff_forall_mem] at h
 have:=h o (Array.mem_of_getElem? hi)
 constructor
 ·intro cs b e; rw [e] at this; cases this
 ·intro c e; rw [e] at this; cases this
@[reducible] def pan (v:Vc):Lb PanicEntry:=[{ v,recovered:=false }]
def PN (P:Program) (Z:Machine->Prop) (b:Frame) (n:Nat) (ds:Lb Deferred) (cs:Lb Frame) (ch:Lb PanicEntry) (σ:Lb (Nat×Vc)) (w:World):Prop:=
 ∀ a w' todo,Fr n ds σ a->Agree [] w w'->Reach P Z (lone { b.atR a todo with mode:=.panicking ch } cs w')
structure RegEnv where
 pan:Lb PanicEntry->World->Prop
 rnd:Nat->FuncId->Array Vc->Code->Code->World->(Vc->World->Prop)->Prop
section
variable (P:Program) (Y:RegEnv) (ops:Array Oper)
def OpW (o:Oper) (a:Act) (w:World) (K:Act->World->Prop):Prop:=match (execOp a.eval o).run P w with
 | .ok (.value v) w' =>K (a.put o.dst v) w'
 | .ok .skip w' =>K (a.put o.dst undef) w'
 | .ok (.enter f vs) w' =>Calls P f vs w' fun e w'' =>(∃ v,e=.returned v/\K (a.put o.dst v) w'')∨∃ ch,e=.panicked ch/\Y.pan ch w''
 | .ok (.round lk f tm as bd) w' =>∃ Q:Vc->World->Prop,Y.rnd lk f tm as bd w' Q/\∀ v w'', Q v w''->K (a.put o.dst v) w''
 | _=>False
def OpI (i:Nat) (K:Act->World->Prop) (a:Act) (w:World):Prop:=match ops[i]? with
 | none=>K a w
 | some o=>if Region.wanted o (yielded ops a.tmps)=true then OpW P Y o a w K else K (a.put o.dst undef) w
structure KP where
 c:Lb (Nat×Lb Vc)
 d:Lb Nat
def Kp:Lb (Nat×Lb Vc)->World->Prop
 | [],_=>True
 | (b,cs)::r,w=>(∀ j v,cs[j]? = some v->w.cell? ((⟨b,0,none⟩:Addr).add j)=some v)/\Kp r w
def KP.nd (κ:KP) (listed:Array Bool):Prop:=∃ j∈κ.d,listed.getD j true=false
def KP.free (κ:KP) (i:Nat):Bool:=κ.d.all fun j=>!Nat.beq j i
def kp0:KP:=⟨[],[]⟩
def AnyT (tl:Nat->Bool) (κ:KP) (K:Act->World->Prop):Nat->Array Bool->Act->World->Prop
 | 0,listed,a,w=>∀ w', Agree [] w w'->Region.ready .any ops listed=[]/\K a w'
 | f+1,listed,a,w=>∀ w', Agree [] w w'->(Region.ready .any ops listed=[]->K a w')/\
   ∀ i∈Region.ready .any ops listed,OpI P Y ops i (fun a' w'' =>(tl i=false->Agree [] w' w'')/\(κ.nd (listed.setIfInBounds i true)->Kp κ.c w'')/\AnyT tl κ K f (listed.setIfInBounds i true) a' w'') a w'
end
section
variable {P:Program} {Y:RegEnv} {ops:Array Oper} {tl:Nat->Bool} {κ:KP} {K:Act->World->Prop} {o:Oper}
theorem OpW.mono {a:Act} {w:World} {K K' : Act->World->Prop} (h:∀ a w,K a w->K' a w) (hh:OpW P Y o a w K):OpW P Y o a w K' :=by
 unfold OpW at *
 split at hh
 ·exact h _ _ hh
 ·exact h _ _ hh
 ·exact hh.mono fun e w'' hd=>hd.imp (fun ⟨v,e1,hk⟩=>⟨v,e1,h _ _ hk⟩) id
 ·obtain ⟨Q,h1,h2⟩:=hh; exact ⟨Q,h1,fun v w'' hq=>h _ _ (h2 v w'' hq)⟩
 ·exact hh.elim
theorem OpI.mono {i:Nat} {a:Act} {w:World} {K K' : Act->World->Prop} (h:∀ a w,K a w->K' a w) (hh:OpI P Y ops i K a w):OpI P Y ops i K' a w:=by
 unfold OpI at *
 split
 ·rename_i hn; rw [hn] at hh; exact h _ _ hh
 ·rename_i o hn
  rw [hn] at hh
  simp only at hh
  split
  ·rename_i hw; rw [if_pos hw] at hh; exact hh.mono h
  ·rename_i hw; rw [if_neg hw] at hh; exact h _ _ hh
theorem Kp.agree {w w' : World} (hw:Agree [] w w'):∀ {c:Lb (Nat×Lb Vc)},Kp c w->Kp c w'
 | [],_=>trivial
 | (_,_)::_,h=>⟨fun j v hv=>hw.cell0 (h.1 j v hv),Kp.agree hw h.2⟩
theorem KP.nd_of {listed:Array Bool} {i:Nat} (h:κ.nd (listed.setIfInBounds i true)):κ.nd listed:=by
 obtain ⟨j,hj,h1⟩:=h
 refine ⟨j,hj,?_⟩
 by_cases hij:i=j
 ·subst hij
  rcases Nat.lt_or_ge i listed.size with h' | h'
  ·simp [h'] at h1
  ·simp at h1
 ·rwa [getD_set_ne true hij] at h1
theorem KP.nd_in {listed:Array Bool} {i j:Nat} (hf:κ.free i=true) (h:κ.nd (listed.setIfInBounds j true)):κ.nd ((listed.setIfInBounds i true).setIfInBounds j true):=by
 obtain ⟨q,hq,h1⟩:=h
 have hne:i≠q:=fun e=>by
  have:=List.all_eq_true.1 hf q hq
  rw [e] at this
  simp at this
 refine ⟨q,hq,?_⟩
 by_cases hjq:j=q
 ·subst hjq
  rcases Nat.lt_or_ge j listed.size with h' | h'
  ·simp [h'] at h1
  ·simp at h1
 ·rw [getD_set_ne true hjq] at h1 ⊢
  rwa [getD_set_ne true hne]
theorem AnyT.agree {f:Nat} {listed:Array Bool} {a:Act} {w w1:World} (h:AnyT P Y ops tl κ K f listed a w) (hw:Agree [] w w1):AnyT P Y ops tl κ K f listed a w1:=by
 cases f with
 | zero=>exact fun w' hw' =>h w' (hw.trans hw')
 | succ f=>exact fun w' hw' =>h w' (hw.trans hw')
theorem cb (a:Act) (d:Oa Tmp) (v:Vc):(a.put d v).tmps.size=a.tmps.size/\(a.put d v).defers=a.defers:=by
 cases d<;>simp [Act.put]
def mJ (P:Program) (Y:RegEnv) (b:Frame) (n:Nat) (ds:Lb Deferred) (cs:Lb Frame):Prop:=∀ lk f tm as bd w' Q,Y.rnd lk f tm as bd w' Q->∀ (a:Act) (l:Lb Item),a.tmps.size=n->a.defers=ds ->
 (∃ v w'', Q v w'' /\Steps P (lone (Frame.round lk f tm as bd .normal) (b.atR a l::cs) w') (lone ((b.atR a l).finish v) cs w''))∨∃ ch w'', Y.pan ch w'' /\Steps P (lone (Frame.round lk f tm as bd .normal) (b.atR a l::cs) w') (lone { b.atR a l with mode:=.panicking ch } cs w'')
theorem OpI.steps {b:Frame} {k:Lb Item} {cs:Lb Frame} {i:Nat} {rest:Lb Nat} {a:Act} {w:World} {n:Nat} {ds:Lb Deferred} (hY:mJ P Y b n ds cs) (hsz:a.tmps.size=n) (hdf:a.defers=ds) (hp:ba ops=true) (h:OpI P Y ops i K a w) :
  (∃ a' w', K a' w' /\a'.tmps.size=a.tmps.size/\a'.defers=a.defers/\Steps P (lone (b.atR a (.inRegion ops (i::rest)::k)) cs w) (lone (b.atR a' (.inRegion ops rest::k)) cs w')) ∨
  ∃ ch w', Y.pan ch w' /\Steps P (lone (b.atR a (.inRegion ops (i::rest)::k)) cs w) (lone { b.atR a (.inRegion ops (i::rest)::k) with mode:=.panicking ch } cs w'):=by
 unfold OpI at h
 split at h
 ·rename_i hn
  refine .inl ⟨a,w,h,I,I,Steps.one ?_⟩
  have:=stepR_op_skip (P:=P) (b:=b) (a:=a) (k:=k) (cs:=cs) (w:=w) (ops:=ops) (i:=i) (rest:=rest) (by simp [hn])
  simpa [hn,Act.put] using this
 ·rename_i o hn
  split at h
  ·rename_i hw
   unfold OpW at h
   have hs:∀ r:Oa Nat,o.semAt r a.eval=execOp a.eval o:=fun r=>Oper.semAt_eq _ _ _ (bS hp hn).2
   split at h
   ·rename_i v w' hr; exact .inl ⟨_,_,h,(cb a o.dst v).1,(cb a o.dst v).2,Steps.one (gx hn hw (by rw [hs]; exact hr))⟩
   ·rename_i w' hr; exact .inl ⟨_,_,h,(cb a o.dst undef).1,(cb a o.dst undef).2,Steps.one (jy hn hw (by rw [hs]; exact hr))⟩
   ·rename_i f vs w' hr
    obtain ⟨e,w1,fr,hd,hst,_,hl⟩:=h (b.atR a (.inRegion ops (i::rest)::k)::cs)
    rcases hd with ⟨v,rfl,hK⟩ | ⟨ch,rfl,hY⟩
    ·refine .inl ⟨_,_,hK,(cb a o.dst v).1,(cb a o.dst v).2,Steps.head (cJ hn hw (by rw [hs]; exact hr)) (Steps.trans hst (Steps.one ?_))⟩
     have:=step_leave_returned (P:=P) (c:=b.atR a (.inRegion ops (i::rest)::k)) (cs:=cs) hl
     rw [Frame.finish_atR,hn] at this
     exact this
    ·refine .inr ⟨ch,w1,hY,Steps.head (cJ hn hw (by rw [hs]; exact hr)) (Steps.trans hst (Steps.one ?_))⟩
     have:=step_leave_panicked (P:=P) (c:=b.atR a (.inRegion ops (i::rest)::k)) (cs:=cs) hl
     rwa [Frame.raise_atR] at this
   ·rename_i lk f tm as bd w' hr
    obtain ⟨Q,h1,h2⟩:=h
    rcases hY _ _ _ _ _ _ _ h1 a (.inRegion ops (i::rest)::k) hsz hdf with ⟨v,w2,hq,hst⟩ | ⟨ch,w2,hy,hst⟩
    ·refine .inl ⟨_,_,h2 v w2 hq,(cb a o.dst v).1,(cb a o.dst v).2,Steps.head (gz hn hw (by rw [hs]; exact hr)) ?_⟩
     rw [Frame.finish_atR,hn] at hst
     exact hst
    ·exact .inr ⟨ch,w2,hy,Steps.head (gz hn hw (by rw [hs]; exact hr)) hst⟩
   ·exact h.elim
  ·rename_i hw
   refine .inl ⟨_,w,h,(cb a o.dst undef).1,(cb a o.dst undef).2,Steps.one ?_⟩
   have:=stepR_op_skip (P:=P) (b:=b) (a:=a) (k:=k) (cs:=cs) (w:=w) (ops:=ops) (i:=i) (rest:=rest) (by simp [hn]; simpa using hw)
   rw [hn] at this
   exact this
theorem AnyT.sound {b:Frame} {k:Lb Item} {cs:Lb Frame} {n:Nat} {ds:Lb Deferred} (hY:mJ P Y b n ds cs) (hp:ba ops=true):∀ (f t:Nat) (listed:Array Bool) (a:Act) (w:World),a.tmps.size=n->a.defers=ds->AnyT P Y ops tl κ K f listed a w ->
  (∃ a' w', K a' w' /\Steps P (lone (b.atR a (.inRegion ops (Region.linearise.go .any ops f t listed [])::k)) cs w) (lone (b.atR a' (.inRegion ops []::k)) cs w')) ∨
  ∃ ch w' a' l,Y.pan ch w' /\a'.tmps.size=a.tmps.size/\a'.defers=a.defers/\Steps P (lone (b.atR a (.inRegion ops (Region.linearise.go .any ops f t listed [])::k)) cs w) (lone { b.atR a' l with mode:=.panicking ch } cs w'):=by
 intro f
 induction f with
 | zero=>intro t listed a w _ _ h; exact .inl ⟨a,w,(h w (Agree.refl _ _)).2,by simpa [Region.linearise.go] using Steps.refl P _⟩
 | succ f ih=>
  intro t listed a w gsz gdf h
  obtain ⟨h0,h1⟩:=h w (Agree.refl _ _)
  simp only [Region.linearise.go]
  change (∃ a' w', K a' w' /\Steps P (lone (b.atR a (.inRegion ops (match (Region.ready .any ops listed)[t%(Region.ready .any ops listed).length]? with
   | some i=>Region.linearise.go .any ops f (t/(Region.ready .any ops listed).length) (listed.setIfInBounds i true) [i]
   | none=>[].reverse)::k)) cs w) _)∨∃ (ch:Lb PanicEntry) (w' : World) (a' : Act) (l:Lb Item),Y.pan ch w' /\a'.tmps.size=a.tmps.size/\a'.defers=a.defers/\Steps P (lone (b.atR a (.inRegion ops (match (Region.ready .any ops listed)[t%(Region.ready .any ops listed).length]? with
   | some i=>Region.linearise.go .any ops f (t/(Region.ready .any ops listed).length) (listed.setIfInBounds i true) [i]
   | none=>[].reverse)::k)) cs w) _
  cases hi:(Region.ready .any ops listed)[t%(Region.ready .any ops listed).length]? with
  | none=>
   have hnil:Region.ready .any ops listed=[]:=by
    cases hr:Region.ready .any ops listed with
    | nil=>rfl
    | cons x xs=>
     rw [hr] at hi
     have hlt:t%(x::xs).length<(x::xs).length:=Nat.mod_lt _ (by simp)
     simp at hi
     simp at hlt
     omega
   exact .inl ⟨a,w,h0 hnil,by simpa using Steps.refl P _⟩
  | some i=>
   simp only []
   rw [linearise_go_acc,List.reverse_singleton,List.singleton_append]
   rcases (h1 i (List.mem_of_getElem? hi)).steps (b:=b) (k:=k) (cs:=cs) hY gsz gdf hp (rest:=Region.linearise.go .any ops f (t/(Region.ready .any ops listed).length) (listed.setIfInBounds i true) []) with ⟨a', w', ⟨_,_,hk⟩,hsz,hdf,hs⟩ | ⟨ch,w', hY,hs⟩
   ·rcases ih _ _ a' w' (hsz.trans gsz) (hdf.trans gdf) hk with ⟨a2,w2,hK,hs2⟩ | ⟨ch,w2,a2,l,hY,hsz2,hdf2,hs2⟩
    ·exact .inl ⟨a2,w2,hK,Steps.trans hs hs2⟩
    ·exact .inr ⟨ch,w2,a2,l,hY,hsz2.trans hsz,hdf2.trans hdf,Steps.trans hs hs2⟩
   ·exact .inr ⟨ch,w', a,_,hY,I,I,hs⟩
def YQ (P:Program) (o:Oper) (v:Vc) (a:Act) (w:World):Prop:=∀ w', Agree [] w w'->((execOp a.eval o).run P w'=.ok (.value v) w')∨(∃ f vs,(execOp a.eval o).run P w'=.ok (.enter f vs) w' /\Calls P f vs w' fun e w'' =>e=.returned v/\Agree [] w' w'')
def YT (P:Program) (ops:Array Oper) (o:Oper) (v:Vc) (a:Act) (w:World):Prop:=(Region.wanted o (yielded ops a.tmps)=true/\YQ P o v a w)∨(Region.wanted o (yielded ops a.tmps)=false/\v=undef)
theorem YT.agree {v:Vc} {a:Act} {w w1:World} (h:YT P ops o v a w) (hw:Agree [] w w1):YT P ops o v a w1:=h.imp (fun ⟨h1,h2⟩=>⟨h1,fun w' hw' =>h2 w' (hw.trans hw')⟩) id
theorem YT.same {v:Vc} {a a' : Act} {w:World} (h:YT P ops o v a w) (he:execOp a'.eval o=execOp a.eval o) (hw:Region.wanted o (yielded ops a'.tmps)=Region.wanted o (yielded ops a.tmps)):YT P ops o v a' w:=by
 unfold YT YQ at *; rw [he,hw]; exact h
theorem YT.opI {i:Nat} {v:Vc} {a:Act} {w w' : World} (hi:ops[i]? = some o) (h:YT P ops o v a w) (hw:Agree [] w w') (hK:∀ w'', Agree [] w' w''->K (a.put o.dst v) w''):OpI P Y ops i K a w' :=by
 unfold OpI
 rw [hi]
 simp only
 rcases h with ⟨h1,h2⟩ | ⟨h1,rfl⟩
 ·rw [if_pos h1]
  unfold OpW
  rcases h2 w' hw with h3 | ⟨f,vs,h3,h4⟩
  ·rw [h3]; exact hK _ (Agree.refl _ _)
  ·rw [h3]; exact h4.mono fun e w'' ⟨e1,hag⟩=>.inl ⟨v,e1,hK _ hag⟩
 ·rw [if_neg (by rw [h1]; simp)]; exact hK _ (Agree.refl _ _)
theorem OpI.put {j:Nat} {oi oj:Oper} {v:Vc} {a:Act} {w w' : World} (hj:ops[j]? = some oj) (hap:oi.apart ops oj=true) (hsi:∀ cs b,oi.op≠.select cs b) (hsj:∀ cs b,oj.op≠.select cs b) (_hdj:∀ c,oj.op≠.defer c)
  (hy:YT P ops oi v a w) (h:OpI P Y ops j K (a.put oi.dst v) w'):OpI P Y ops j (fun a' w'' =>YT P ops oi v a' w/\K (a'.put oi.dst v) w'') a w' :=by
 obtain ⟨h1,h2,h3⟩:=Oper.apart_spec hap
 have keep:∀ u,YT P ops oi v (a.put oj.dst u) w:=fun u=>hy.same (execOp_put oi hsi a oj.dst u h3) (wanted_put oi a oj.dst u h3)
 unfold OpI at *
 rw [hj] at *
 simp only at *
 rw [wanted_put oj a oi.dst v h1] at h
 split
 ·rename_i hw
  rw [if_pos hw] at h
  unfold OpW at *
  rw [execOp_put oj hsj a oi.dst v h1] at h
  split
  ·rename_i u w1 hr; rw [hr] at h; exact ⟨keep u,by rw [<- Act.put_comm a v u h2]; exact h⟩
  ·rename_i w1 hr; rw [hr] at h; exact ⟨keep _,by rw [<- Act.put_comm a v undef h2]; exact h⟩
  ·rename_i f vs w1 hr
   rw [hr] at h
   exact Calls.mono h fun e w'' hd=>hd.imp (fun ⟨u,e1,hk⟩=>⟨u,e1,keep u,by rw [<- Act.put_comm a v u h2]; exact hk⟩) id
  ·rename_i lk f tm as bd w1 hr
   rw [hr] at h
   obtain ⟨Q,q1,q2⟩:=h
   exact ⟨Q,q1,fun u w'' hq=>⟨keep u,by rw [<- Act.put_comm a v u h2]; exact q2 u w'' hq⟩⟩
  ·rename_i x1 x2 x3 x4
   split at h
   ·rename_i hr; exact (x1 _ _ hr).elim
   ·rename_i hr; exact (x2 _ hr).elim
   ·rename_i hr; exact (x3 _ _ _ hr).elim
   ·rename_i hr; exact (x4 _ _ _ _ _ _ hr).elim
   ·exact h
 ·rename_i hw
  rw [if_neg hw] at h
  exact ⟨keep _,by rw [<- Act.put_comm a v undef h2]; exact h⟩
def qL (ops:Array Oper) (tl:Nat->Bool) (m W i:Nat):Bool:=!tl i&&(List.range ops.size).all fun j=>(!tl j||m.testBit j||W.testBit j)&&(!W.testBit j||(!m.testBit j&&(match ops[j]? with
 | some o=>o.after.any fun e=>Region.binds .any e&&(e.on==i||(W.testBit e.on&&Nat.blt e.on ops.size))
 | none=>false)))
theorem AnyT.first {i:Nat} {oi:Oper} {v:Vc} {W:Nat->Bool} (hi:ops[i]? = some oi) (hp:ba ops=true) (hfr:κ.free i=true)
  (hC:∀ j oj,ops[j]? = some oj->W j=true->∃ e∈oj.after,Region.binds .any e=true/\(e.on=i∨(W e.on=true/\e.on<ops.size))) :
  ∀ (f:Nat) (listed:Array Bool) (a:Act) (w:World),
   (∀ j oj,ops[j]? = some oj->j≠i->listed.getD j true=false->(∀ e∈oj.after,Region.binds .any e=true->e.on≠i)->oi.apart ops oj=true) ->
   (∀ j oj,ops[j]? = some oj->tl j=true->W j=true∨listed.getD j true=true) ->
   (∀ j,j<ops.size->W j=true->listed.getD j true=false) ->
   i∈Region.ready .any ops listed->YT P ops oi v a w->(κ.nd listed->Kp κ.c w)->(∀ w', Agree [] w w'->AnyT P Y ops tl κ K f (listed.setIfInBounds i true) (a.put oi.dst v) w')->AnyT P Y ops tl κ K (f+1) listed a w:=by
 intro f
 induction f with
 | zero=>
  intro listed a w _ _ _ hr hy hk H w' hw
  refine ⟨fun h=>(by rw [h] at hr; cases hr),fun j hj=>?_⟩
  by_cases hji:j=i
  ·subst hji; exact hy.opI hi hw fun w'' hag=>⟨fun _=>hag,fun hn=>Kp.agree (hw.trans hag) (hk (KP.nd_of hn)),H w'' (hw.trans hag)⟩
  ·have:=ready_mono hj hji
   rw [(H w' hw w' (Agree.refl _ _)).1] at this
   cases this
 | succ f ih=>
  intro listed a w hfree hA hB hr hy hk H w' hw
  refine ⟨fun h=>(by rw [h] at hr; cases hr),fun j hj=>?_⟩
  by_cases hji:j=i
  ·subst hji; exact hy.opI hi hw fun w'' hag=>⟨fun _=>hag,fun hn=>Kp.agree (hw.trans hag) (hk (KP.nd_of hn)),H w'' (hw.trans hag)⟩
  ·have h1:=(H w' hw w' (Agree.refl _ _)).2 j (ready_mono hj hji)
   obtain ⟨hjun,oj,hoj,hall⟩:=mem_ready.1 hj
   have hiun:∀ b,listed.getD i b=true->False:=fun b h1=>by
    have h0:=(mem_ready.1 hr).1
    have hlt:i<listed.size∨listed.size<=i:=Nat.lt_or_ge _ _
    rcases hlt with h' | h'
    ·simp [h'] at h0 h1; rw [h0] at h1; cases h1
    ·simp [Array.getElem?_eq_none h'] at h0
   have hnot:∀ e∈oj.after,Region.binds .any e=true->e.on≠i:=fun e he hb heq=>by
    have h1:=hall e he hb
    rw [heq] at h1
    exact hiun _ h1
   have hWj:W j=false:=by
    cases hW:W j
    ·rfl
    ·obtain ⟨e,he,hb,h3⟩:=hC j oj hoj hW
     rcases h3 with h3 | ⟨h3,h4⟩
     ·exact absurd h3 (hnot e he hb)
     ·have h5:=hB e.on h4 h3
      have h6:=hall e he hb
      rcases Nat.lt_or_ge e.on listed.size with h' | h'
      ·simp [h'] at h5 h6; rw [h5] at h6; cases h6
      ·simp [Array.getElem?_eq_none h'] at h5
   have htl:tl j=false:=by
    cases ht:tl j
    ·rfl
    ·rcases hA j oj hoj ht with h2 | h2
     ·rw [hWj] at h2; cases h2
     ·rw [hjun] at h2; cases h2
   have h2:=OpI.put hoj (hfree j oj hoj hji hjun hnot) (bS hp hi).1 (bS hp hoj).1 (bS hp hoj).2 hy h1
   have hset:∀ k,(listed.setIfInBounds j true).getD k true=false->listed.getD k true=false:=fun k hun=>by
    by_cases hjk:j=k
    ·subst hjk; exact hjun
    ·rw [getD_set_ne true hjk] at hun; exact hun
   have hfree' : ∀ k ok,ops[k]? = some ok->k≠i->(listed.setIfInBounds j true).getD k true=false ->
     (∀ e∈ok.after,Region.binds .any e=true->e.on≠i)->oi.apart ops ok=true:=fun k ok hk hki hun hno=>hfree k ok hk hki (hset k hun) hno
   have hA' : ∀ k ok,ops[k]? = some ok->tl k=true->W k=true∨(listed.setIfInBounds j true).getD k true=true:=fun k ok hk ht=>by
    rcases hA k ok hk ht with h3 | h3
    ·exact .inl h3
    ·right
     cases hq:(listed.setIfInBounds j true).getD k true
     ·rw [hset k hq] at h3; cases h3
     ·rfl
   have hB' : ∀ k,k<ops.size->W k=true->(listed.setIfInBounds j true).getD k true=false:=fun k hk hW=>by
    have hne:j≠k:=fun h=>by subst h; rw [hWj] at hW; cases hW
    rw [getD_set_ne true hne]; exact hB k hk hW
   refine h2.mono fun a' w'' ⟨h3,h4,h6,h5⟩=>⟨h4,fun hn=>h6 (KP.nd_in hfr hn),?_⟩
   have hag:=h4 htl
   refine ih (listed.setIfInBounds j true) a' w'' hfree' hA' hB' (ready_mono hr (Ne.symm hji)) (h3.agree (hw.trans hag)) (fun hn=>h6 (KP.nd_in hfr hn)) fun w3 hag3=>?_
   rw [Array.setIfInBounds_comm _ _ hji]
   exact h5.agree hag3
theorem OpI.putP {j:Nat} {oi oj:Oper} {v:Vc} {a:Act} {w' : World} (hj:ops[j]? = some oj) (hap:oi.apart ops oj=true) (hsi:∀ cs b,oi.op≠.select cs b) (hsj:∀ cs b,oj.op≠.select cs b) (_hdj:∀ c,oj.op≠.defer c)
  {c:Lb (Nat×Lb Vc)} (hy:∀ w,Kp c w->YT P ops oi v a w) (h:OpI P Y ops j K (a.put oi.dst v) w'):OpI P Y ops j (fun a' w'' =>(∀ w,Kp c w->YT P ops oi v a' w)/\K (a'.put oi.dst v) w'') a w' :=by
 obtain ⟨h1,h2,h3⟩:=Oper.apart_spec hap
 have keep:∀ u w,Kp c w->YT P ops oi v (a.put oj.dst u) w:=fun u w hk=>(hy w hk).same (execOp_put oi hsi a oj.dst u h3) (wanted_put oi a oj.dst u h3)
 unfold OpI at *
 rw [hj] at *
 simp only at *
 rw [wanted_put oj a oi.dst v h1] at h
 split
 ·rename_i hw
  rw [if_pos hw] at h
  unfold OpW at *
  rw [execOp_put oj hsj a oi.dst v h1] at h
  split
  ·rename_i u w1 hr; rw [hr] at h; exact ⟨keep u,by rw [<- Act.put_comm a v u h2]; exact h⟩
  ·rename_i w1 hr; rw [hr] at h; exact ⟨keep _,by rw [<- Act.put_comm a v undef h2]; exact h⟩
  ·rename_i f vs w1 hr
   rw [hr] at h
   exact Calls.mono h fun e w'' hd=>hd.imp (fun ⟨u,e1,hk⟩=>⟨u,e1,keep u,by rw [<- Act.put_comm a v u h2]; exact hk⟩) id
  ·rename_i lk f tm as bd w1 hr
   rw [hr] at h
   obtain ⟨Q,q1,q2⟩:=h
   exact ⟨Q,q1,fun u w'' hq=>⟨keep u,by rw [<- Act.put_comm a v u h2]; exact q2 u w'' hq⟩⟩
  ·rename_i x1 x2 x3 x4
   split at h
   ·rename_i hr; exact (x1 _ _ hr).elim
   ·rename_i hr; exact (x2 _ hr).elim
   ·rename_i hr; exact (x3 _ _ _ hr).elim
   ·rename_i hr; exact (x4 _ _ _ _ _ _ hr).elim
   ·exact h
 ·rename_i hw
  rw [if_neg hw] at h
  exact ⟨keep _,by rw [<- Act.put_comm a v undef h2]; exact h⟩
theorem AnyT.firstC {i:Nat} {oi:Oper} {v:Vc} {c:Lb (Nat×Lb Vc)} (hi:ops[i]? = some oi) (hp:ba ops=true) (hfr:κ.free i=true) {D:Array Bool->Prop} (hD:∀ listed j,D listed->i∈Region.ready .any ops listed->j∈Region.ready .any ops listed->j≠i->D (listed.setIfInBounds j true)) (hDc:∀ listed w,D listed->(κ.nd listed->Kp κ.c w)->Kp c w) :
  ∀ (f:Nat) (listed:Array Bool) (a:Act) (w:World),
   (∀ j oj,ops[j]? = some oj->j≠i->listed.getD j true=false->(∀ e∈oj.after,Region.binds .any e=true->e.on≠i)->oi.apart ops oj=true) ->
   i∈Region.ready .any ops listed->D listed->(∀ w,Kp c w->YT P ops oi v a w)->(κ.nd listed->Kp κ.c w)->(∀ w', Agree [] w w'->AnyT P Y ops tl κ K f (listed.setIfInBounds i true) (a.put oi.dst v) w')->AnyT P Y ops tl κ K (f+1) listed a w:=by
 intro f
 induction f with
 | zero=>
  intro listed a w _ hr hd hy hk H w' hw
  refine ⟨fun h=>(by rw [h] at hr; cases hr),fun j hj=>?_⟩
  by_cases hji:j=i
  ·subst hji; exact (hy w (hDc _ _ hd hk)).opI hi hw fun w'' hag=>⟨fun _=>hag,fun hn=>Kp.agree (hw.trans hag) (hk (KP.nd_of hn)),H w'' (hw.trans hag)⟩
  ·have:=ready_mono hj hji
   rw [(H w' hw w' (Agree.refl _ _)).1] at this
   cases this
 | succ f ih=>
  intro listed a w hfree hr hd hy hk H w' hw
  refine ⟨fun h=>(by rw [h] at hr; cases hr),fun j hj=>?_⟩
  by_cases hji:j=i
  ·subst hji; exact (hy w (hDc _ _ hd hk)).opI hi hw fun w'' hag=>⟨fun _=>hag,fun hn=>Kp.agree (hw.trans hag) (hk (KP.nd_of hn)),H w'' (hw.trans hag)⟩
  ·have h1:=(H w' hw w' (Agree.refl _ _)).2 j (ready_mono hj hji)
   have hd' :=hD _ j hd hr hj hji
   obtain ⟨hjun,oj,hoj,hall⟩:=mem_ready.1 hj
   have hnot:∀ e∈oj.after,Region.binds .any e=true->e.on≠i:=fun e he hb heq=>by
    have h1:=hall e he hb
    have h0:=(mem_ready.1 hr).1
    rw [heq] at h1
    rcases Nat.lt_or_ge i listed.size with h' | h'
    ·simp [h'] at h0 h1; rw [h0] at h1; cases h1
    ·simp [Array.getElem?_eq_none h'] at h1
   have h2:=OpI.putP hoj (hfree j oj hoj hji hjun hnot) (bS hp hi).1 (bS hp hoj).1 (bS hp hoj).2 hy h1
   have hfree' : ∀ k ok,ops[k]? = some ok->k≠i->(listed.setIfInBounds j true).getD k true=false ->
     (∀ e∈ok.after,Region.binds .any e=true->e.on≠i)->oi.apart ops ok=true:=fun k ok hk hki hun hno=>by
    refine hfree k ok hk hki ?_ hno
    by_cases hjk:j=k
    ·subst hjk; exact hjun
    ·rw [getD_set_ne true hjk] at hun; exact hun
   refine h2.mono fun a' w'' ⟨h3,h4,h6,h5⟩=>⟨h4,fun hn=>h6 (KP.nd_in hfr hn),?_⟩
   refine ih (listed.setIfInBounds j true) a' w'' hfree' (ready_mono hr (Ne.symm hji)) hd' h3 (fun hn=>h6 (KP.nd_in hfr hn)) fun w3 hag3=>?_
   rw [Array.setIfInBounds_comm _ _ hji]
   exact h5.agree hag3
end
def lst (n m:Nat):Array Bool:=(Array.range n).map (m.testBit ·)
def cK (n m i m' : Nat):Bool:=(lst n m).setIfInBounds i true==lst n m'
theorem bR {n m i m' : Nat} (h:cK n m i m'=true):(lst n m).setIfInBounds i true=lst n m' :=by simpa [cK] using h
def tail (k:Nat):Nat->Bool:=fun i=>Nat.ble (k%4096) i&&!(k/4096).testBit i
section
variable {P:Program} {Z:Machine->Prop} {b:Frame} {n:Nat} {ds:Lb Deferred} {cs:Lb Frame} {k:Lb Item} {σ τ:Lb (Nat×Vc)} {w w0:World} {ops:Array Oper} {t f m m' i:Nat} {O O' : Lb Ob} {κ:KP}
def YD (P:Program) (Z:Machine->Prop) (b:Frame) (n:Nat) (ds:Lb Deferred) (cs:Lb Frame):RegEnv where
 pan:=fun ch w=>PN P Z b n ds cs ch [] w
 rnd:=fun lk f tm as bd w' Q=>∀ (a:Act) (l:Lb Item),a.tmps.size=n->a.defers=ds ->
  (∃ v w'', Q v w'' /\Steps P (lone (Frame.round lk f tm as bd .normal) (b.atR a l::cs) w') (lone ((b.atR a l).finish v) cs w''))∨∃ ch w'', PN P Z b n ds cs ch [] w'' /\Steps P (lone (Frame.round lk f tm as bd .normal) (b.atR a l::cs) w') (lone { b.atR a l with mode:=.panicking ch } cs w'')
def RD (κ:KP) (P:Program) (Z:Machine->Prop) (b:Frame) (n:Nat) (ds:Lb Deferred) (cs:Lb Frame) (ops:Array Oper) (t f m:Nat) (k:Lb Item) (σ:Lb (Nat×Vc)) (w:World):Prop:=
 (κ.nd (lst ops.size m)->Kp κ.c w)/\∀ a w', Fr n ds σ a->Agree [] w w'->AnyT P (YD P Z b n ds cs) ops (tail t) κ (fun a' w'' =>Reach P Z (lone (b.atR a' k) cs w'')) f (lst ops.size m) a w'
theorem KP.triv {l:Array Bool} {w:World}:kp0.nd l->Kp kp0.c w:=fun ⟨_,h,_⟩=>by cases h
theorem MX.draw {id:Nat} {l:Lb Oper} (t:Nat) (hm:P.follows .mixedOrders=true) (hp:ba l.toArray=true) (h:RD κ P Z b n ds cs l.toArray t l.length 0 k σ w):MX P Z b n ds cs (.code (.region id l.toArray true)::k) σ w:=by
 intro a w' ha hw
 refine .step stepR_region_draw ?_
 have hz:lst l.toArray.size 0=Array.replicate l.toArray.size false:=by
  apply Array.ext
  ·simp [lst]
  ·intro j h1 h2; simp [lst]
 have h' :=h.2 a { w' with drawn:=w'.drawn+1 } ha (hw.trans (Agree.drew _ _ _))
 rw [hz] at h'
 simp only [Region.schedule,hm,Bool.true_or,if_true]
 rcases AnyT.sound (b:=b) (k:=k) (cs:=cs) (n:=n) (ds:=ds) (fun _ _ _ _ _ _ _ h=>h) hp (f:=l.length) (t:=w'.tape w'.drawn (.order b.fn id)) (listed:=_) (a:=a) (w:=_) ha.size ha.defers h' with ⟨a', w2,hK,hs⟩ | ⟨ch,w2,a', l', hY,hsz,hdf,hs⟩
 ·refine Reach.steps (m1:=lone (b.atR a' (.inRegion l.toArray []::k)) cs w2) ?_ (.step stepR_region_end hK)
  simpa [Region.linearise] using hs
 ·refine Reach.steps (m1:=lone { b.atR a' l' with mode:=.panicking ch } cs w2) ?_ (hY a' w2 l' ⟨hsz.trans ha.size,hdf.trans ha.defers,fun s v e=>by cases e⟩ (Agree.refl _ _))
  simpa [Region.linearise] using hs
theorem RD.done (hr:Region.ready .any ops (lst ops.size m)=[]) (h:MX P Z b n ds cs k σ w) (hk:κ.nd (lst ops.size m)->Kp κ.c w:=by exact KP.triv):RD κ P Z b n ds cs ops t f m k σ w:=by
 refine ⟨hk,?_⟩
 intro a w' ha hw
 cases f with
 | zero=>exact fun w2 hw2=>⟨hr,h a w2 ha (hw.trans hw2)⟩
 | succ f=>exact fun w2 hw2=>⟨fun _=>h a w2 ha (hw.trans hw2),by rw [hr]; simp⟩
variable {d:Nat} {op:Op} {ty:TypeId} {ps:String} {af:Array Edge} {v:Vc} {g:Oa (Nat×Bool)}
def iL (ops:Array Oper) (t m W i m' : Nat):Bool:=(Region.ready .any ops (lst ops.size m)).contains i&&Region.free .any ops (lst ops.size m) i&&qL ops (tail t) m W i&&cK ops.size m i m'
def kb (ops:Array Oper) (_t m i m' : Nat):Bool:=(Region.ready .any ops (lst ops.size m)).contains i&&Region.free .any ops (lst ops.size m) i&&cK ops.size m i m'
theorem eV {n m k:Nat} (hk:k<n):(lst n m).getD k true=m.testBit k:=by simp [lst,Array.getD,hk]
theorem KP.nd_step {listed:Array Bool} (hf:κ.free i=true) (h:κ.nd listed):κ.nd (listed.setIfInBounds i true):=by
 obtain ⟨q,hq,h1⟩:=h
 have hne:i≠q:=fun e=>by
  have:=List.all_eq_true.1 hf q hq
  rw [e] at this
  simp at this
 exact ⟨q,hq,by rwa [getD_set_ne true hne]⟩
theorem RD.take_ {W:Nat} {o:Oper} (hfr:κ.free i=true) (hB:iL ops t m W i m'=true) (hi:ops[i]? = some o) (hp:ba ops=true) (hy:∀ a w', Fr n ds σ a->Agree [] w w'->YT P ops o v a w')
  (h:∀ a w', Fr n ds σ a->Agree [] w w'->AnyT P (YD P Z b n ds cs) ops (tail t) κ (fun a' w'' =>Reach P Z (lone (b.atR a' k) cs w'')) f (lst ops.size m') (a.put o.dst v) w') (hk:κ.nd (lst ops.size m')->Kp κ.c w):RD κ P Z b n ds cs ops t (f+1) m k σ w:=by
 unfold iL at hB
 simp only [Bool.and_eq_true] at hB
 obtain ⟨⟨⟨h1,h2⟩,h3⟩,h4⟩:=hB
 have hk' : κ.nd (lst ops.size m)->Kp κ.c w:=fun hn=>hk (by rw [<- bR h4]; exact KP.nd_step hfr hn)
 refine ⟨hk', ?_⟩
 intro a w' ha hw
 unfold qL at h3
 rw [Bool.and_eq_true,List.all_eq_true] at h3
 obtain ⟨_,h3⟩:=h3
 have h3' : ∀ j,j<ops.size->_:=fun j hj=>h3 j (List.mem_range.2 hj)
 refine AnyT.first (W:=W.testBit) hi hp hfr (fun j oj hoj hW=>?_) f _ a w' (Region.free_spec hi h2) (fun j oj hoj ht=>?_) (fun j hj hW=>?_) (by simpa using h1) (hy a w' ha hw) (fun hn=>Kp.agree hw (hk' hn)) fun w2 hw2=>?_
 ·have h5:=h3' j (Array.getElem?_eq_some_iff.1 hoj).1
  rw [hoj,hW] at h5
  simp only [Bool.not_true,Bool.false_or,Bool.and_eq_true,Array.any_eq_true,Bool.or_eq_true,beq_iff_eq] at h5
  obtain ⟨_,_,q,hq,hb,h6⟩:=h5
  refine ⟨_,Array.getElem_mem hq,hb,h6.imp id fun h7=>⟨h7.1,by simpa using h7.2⟩⟩
 ·have hj:=(Array.getElem?_eq_some_iff.1 hoj).1
  have h5:=h3' j hj
  rw [ht] at h5
  rw [Bool.and_eq_true] at h5
  have h6:=h5.1
  simp only [Bool.not_true,Bool.false_or,Bool.or_eq_true] at h6
  rw [eV hj]
  exact h6.symm
 ·have h5:=h3' j hj
  rw [hW] at h5
  simp only [Bool.not_true,Bool.false_or,Bool.and_eq_true] at h5
  rw [eV hj]
  simpa using h5.2.1
 ·rw [bR h4]
  exact h a w2 ha (hw.trans hw2)
theorem RD.takeC_ {o:Oper} {c:Lb (Nat×Lb Vc)} (hfr:κ.free i=true) (hB:kb ops t m i m'=true) (hi:ops[i]? = some o) (hp:ba ops=true) {D:Array Bool->Prop} (hD:∀ listed j,D listed->i∈Region.ready .any ops listed->j∈Region.ready .any ops listed->j≠i->D (listed.setIfInBounds j true)) (hDc:∀ listed w,D listed->(κ.nd listed->Kp κ.c w)->Kp c w) (hD0:D (lst ops.size m)) (hy:∀ a w', Fr n ds σ a->Kp c w'->YT P ops o v a w')
  (h:∀ a w', Fr n ds σ a->Agree [] w w'->AnyT P (YD P Z b n ds cs) ops (tail t) κ (fun a' w'' =>Reach P Z (lone (b.atR a' k) cs w'')) f (lst ops.size m') (a.put o.dst v) w') (hk:κ.nd (lst ops.size m')->Kp κ.c w):RD κ P Z b n ds cs ops t (f+1) m k σ w:=by
 unfold kb at hB
 simp only [Bool.and_eq_true] at hB
 obtain ⟨⟨h1,h2⟩,h4⟩:=hB
 have hk' : κ.nd (lst ops.size m)->Kp κ.c w:=fun hn=>hk (by rw [<- bR h4]; exact KP.nd_step hfr hn)
 refine ⟨hk', ?_⟩
 intro a w' ha hw
 refine AnyT.firstC hi hp hfr hD hDc f _ a w' (Region.free_spec hi h2) (by simpa using h1) hD0 (fun w9=>hy a w9 ha) (fun hn=>Kp.agree hw (hk' hn)) fun w2 hw2=>?_
 rw [bR h4]
 exact h a w2 ha (hw.trans hw2)
theorem RD.takeP_ {o:Oper} (hfr:κ.free i=true) (hB:kb ops t m i m'=true) (hi:ops[i]? = some o) (hp:ba ops=true) (hy:∀ a w', Fr n ds σ a->YT P ops o v a w')
  (h:∀ a w', Fr n ds σ a->Agree [] w w'->AnyT P (YD P Z b n ds cs) ops (tail t) κ (fun a' w'' =>Reach P Z (lone (b.atR a' k) cs w'')) f (lst ops.size m') (a.put o.dst v) w') (hk:κ.nd (lst ops.size m')->Kp κ.c w):RD κ P Z b n ds cs ops t (f+1) m k σ w:=
 RD.takeC_ (c:=[]) hfr hB hi hp (D:=fun _=>True) (fun _ _ _ _ _ _=>trivial) (fun _ _ _ _=>trivial) trivial (fun a w' ha _=>hy a w' ha) h hk
theorem RD.valP (hB:kb ops t m i m'=true) (hi:ops[i]? = some ⟨some d,op,ty,ps,af,g⟩) (hp:ba ops=true) (hg:Want ops σ g true) (hq:∀ w,FV P ⟨some d,op,ty,ps,af,g⟩ σ w v) (hd:Nat.blt d n=true)
  (h:RD κ P Z b n ds cs ops t f m' k ((d,v)::σ) w) (hfr:κ.free i=true:=by rfl):RD κ P Z b n ds cs ops t (f+1) m k σ w:=
 RD.takeP_ hfr hB hi hp (fun a _w' ha=>.inl ⟨hg.eq ha,fun w2 _=>.inl (hq w2 a.eval (fun _x _u hx=>ha.ev hx) w2 (Agree.refl _ _))⟩) (fun _a _w' ha hw=>h.2 _ _ (ha.put d v hd) hw) h.1
theorem RD.val {W:Nat} (hB:iL ops t m W i m'=true) (hi:ops[i]? = some ⟨some d,op,ty,ps,af,g⟩) (hp:ba ops=true) (hg:Want ops σ g true) (hq:FV P ⟨some d,op,ty,ps,af,g⟩ σ w v) (hd:Nat.blt d n=true)
  (h:RD κ P Z b n ds cs ops t f m' k ((d,v)::σ) w) (hfr:κ.free i=true:=by rfl):RD κ P Z b n ds cs ops t (f+1) m k σ w:=
 RD.take_ hfr hB hi hp (fun a _w' ha hw=>.inl ⟨hg.eq ha,fun w2 hw2=>.inl (hq a.eval (fun _x _u hx=>ha.ev hx) w2 (hw.trans hw2))⟩) (fun _a _w' ha hw=>h.2 _ _ (ha.put d v hd) hw) h.1
theorem RD.off (hB:kb ops t m i m'=true) (hi:ops[i]? = some ⟨some d,op,ty,ps,af,g⟩) (hp:ba ops=true) (hg:Want ops σ g false) (hd:Nat.blt d n=true)
  (h:RD κ P Z b n ds cs ops t f m' k ((d,undef)::σ) w) (hfr:κ.free i=true:=by rfl):RD κ P Z b n ds cs ops t (f+1) m k σ w:=
 RD.takeP_ hfr hB hi hp (fun _a _w' ha=>.inr ⟨hg.eq ha,I⟩) (fun _a _w' ha hw=>h.2 _ _ (ha.put d undef hd) hw) h.1
theorem RD.callq {W:Nat} {fn:FuncId} {c:Operand} {fst cap:Lb Vc} {xs:Lb Operand} {vs:Lb Vc} {ts:Array TypeId} (hB:iL ops t m W i m'=true) (hi:ops[i]? = some ⟨some d,.call { callee:=.value c,args:=xs.toArray,argTypes:=ts },ty,ps,af,g⟩) (hp:ba ops=true) (hg:Want ops σ g true)
  (hf:cr P fn=true) (hcal:ev σ c=some (.func (.func fn) fst.toArray cap.toArray)) (hv:evs σ xs vs) (hc:∀ w', Agree [] w w'->Calls P fn (fst++vs++cap).toArray w' (aj w' fun _ u=>u=v)) (hd:Nat.blt d n=true)
  (h:RD κ P Z b n ds cs ops t f m' k ((d,v)::σ) w) (hfr:κ.free i=true:=by rfl):RD κ P Z b n ds cs ops t (f+1) m k σ w:=
 RD.take_ hfr hB hi hp (fun a w' ha hw=>.inl ⟨hg.eq ha,fun w2 hw2=>.inr ⟨fn,(fst++vs++cap).toArray,by
   have he:=cN (P:=P) (ty:=ty) (ps:=ps) (af:=af) (g:=g) (dd:=some d) (ts:=ts) hf (ρ:=a.eval) (ha.ev hcal) (vs:=vs.toArray) (xs:=xs.toArray) (by rw [List.map_toArray,bO (fun x u hx=>ha.ev hx) hv]) w2
   rw [he]; simp,(hc w2 (hw.trans hw2)).mono fun e w3 ⟨u,e1,e2,hag⟩=>⟨by rw [e1,e2],hag⟩⟩⟩) (fun a w' ha hw=>h.2 _ _ (ha.put d v hd) hw) h.1
theorem RD.known {s:Nat} {q q' : Bool} (hs:look σ s=some (.bool q)) (hb:q=q') (h:RD κ P Z b n ds cs ops t f m k ((s,.bool q')::σ) w):RD κ P Z b n ds cs ops t f m k σ w:=⟨h.1,fun a w' ha hw=>h.2 a w' (ha.known hs hb) hw⟩
theorem RD.ifd {β:Type} {s:Nat} {p:Prop} [Decidable p] {A B:Oa β} {r:β} (hs:look σ s=some (.bool (decide p))) (h:(if p then A else B)=some r)
  (ht:p->A=some r->RD κ P Z b n ds cs ops t f m k ((s,.bool true)::σ) w) (hf:¬ p->B=some r->RD κ P Z b n ds cs ops t f m k ((s,.bool false)::σ) w):RD κ P Z b n ds cs ops t f m k σ w:=by
 by_cases hp:p
 ·exact RD.known hs (decide_eq_true hp) (ht hp (lg hp h))
 ·exact RD.known hs (decide_eq_false hp) (hf hp (lr hp h))
theorem RD.ifn {β:Type} {s:Nat} {p:Prop} [Decidable p] {A B:Oa β} {r:β} (hs:look σ s=some (.bool (!decide p))) (h:(if p then A else B)=some r)
  (ht:p->A=some r->RD κ P Z b n ds cs ops t f m k ((s,.bool false)::σ) w) (hf:¬ p->B=some r->RD κ P Z b n ds cs ops t f m k ((s,.bool true)::σ) w):RD κ P Z b n ds cs ops t f m k σ w:=by
 by_cases hp:p
 ·exact RD.known hs (by rw [decide_eq_true hp]; rfl) (ht hp (lg hp h))
 ·exact RD.known hs (by rw [decide_eq_false hp]; rfl) (hf hp (lr hp h))
theorem RD.ifnb {β:Type} {s:Nat} {q:Bool} {A B:Oa β} {r:β} (hs:look σ s=some (.bool (!q))) (h:(if q=true then A else B)=some r)
  (ht:q=true->A=some r->RD κ P Z b n ds cs ops t f m k ((s,.bool false)::σ) w) (hf:¬ q=true->B=some r->RD κ P Z b n ds cs ops t f m k ((s,.bool true)::σ) w):RD κ P Z b n ds cs ops t f m k σ w:=
 RD.ifn (p:=q=true) (by rw [hs]; simp) h ht hf
def RO (κ:KP) (P:Program) (Z:Machine->Prop) (b:Frame) (n:Nat) (ds:Lb Deferred) (cs:Lb Frame) (ops:Array Oper) (t f m:Nat) (k:Lb Item) (σ:Lb (Nat×Vc)) (w:World) (i:Nat):Prop:=
 ∀ a w', Fr n ds σ a->Agree [] w w'->OpI P (YD P Z b n ds cs) ops i (fun a' w'' =>(tail t i=false->Agree [] w' w'')/\(κ.nd ((lst ops.size m).setIfInBounds i true)->Kp κ.c w'')/\AnyT P (YD P Z b n ds cs) ops (tail t) κ (fun a' w'' =>Reach P Z (lone (b.atR a' k) cs w'')) f ((lst ops.size m).setIfInBounds i true) a' w'') a w'
def gu (ops:Array Oper) (m:Nat) (rs:Lb Nat):Bool:=Region.ready .any ops (lst ops.size m)==rs&&!rs.isEmpty
theorem RD.all {rs:Lb Nat} (hr:gu ops m rs=true) (h:∀ i∈rs,RO κ P Z b n ds cs ops t f m k σ w i) (hk:κ.nd (lst ops.size m)->Kp κ.c w:=by exact KP.triv):RD κ P Z b n ds cs ops t (f+1) m k σ w:=by
 unfold gu at hr
 simp only [Bool.and_eq_true,beq_iff_eq,Bool.not_eq_true'] at hr
 obtain ⟨h1,h2⟩:=hr
 refine ⟨hk,?_⟩
 intro a w' ha hw w2 hw2
 rw [h1]
 exact ⟨fun e=>(by rw [e] at h2; cases h2),fun i hi=>h i hi a w2 ha (hw.trans hw2)⟩
theorem RD.one (hr:gu ops m [i]=true) (h:RO κ P Z b n ds cs ops t f m k σ w i) (hk:κ.nd (lst ops.size m)->Kp κ.c w:=by exact KP.triv):RD κ P Z b n ds cs ops t (f+1) m k σ w:=RD.all hr (fun j hj=>by simp at hj; subst hj; exact h) hk
theorem RO.does {Q:Vc->World->Prop} (hst:cK ops.size m i m'=true) (hi:ops[i]? = some ⟨some d,op,ty,ps,af,g⟩) (hg:Want ops σ g true) (hd:Nat.blt d n=true) (D:Does P ⟨some d,op,ty,ps,af,g⟩ σ w Q) (h:∀ u w1,Q u w1->RD κ P Z b n ds cs ops t f m' k ((d,u)::σ) w1):RO κ P Z b n ds cs ops t f m k σ w i:=by
 intro a w' ha hw
 unfold OpI
 rw [hi]
 simp only
 rw [if_pos (hg.eq ha)]
 obtain ⟨u,w1,hr,hag,hq⟩:=D a.eval (fun x u hx=>ha.ev hx) w' hw
 unfold OpW
 rw [hr,bR hst]
 exact ⟨fun _=>hag,(h u w1 hq).1,(h u w1 hq).2 _ _ (ha.put d u hd) (Agree.refl _ _)⟩
theorem RO.new {mk:Nat->Ob} {pv:Nat->Vc} (hst:cK ops.size m i m'=true) (hi:ops[i]? = some ⟨some d,op,ty,ps,af,g⟩) (hg:Want ops σ g true) (hd:Nat.blt d n=true) (D:Does P ⟨some d,op,ty,ps,af,g⟩ σ w (New w0 w O mk pv)) (h:∀ w1 b', St w0 w1 (mk b'::O)->Tr w O w1 (mk b'::O)->RD κ P Z b n ds cs ops t f m' k ((d,pv b')::σ) w1):RO κ P Z b n ds cs ops t f m k σ w i:=
 RO.does hst hi hg hd D fun u w1 ⟨b', e,h1,h2⟩=>by subst e; exact h w1 b' h1 h2
theorem RO.acts {Q:World->Prop} (hst:cK ops.size m i m'=true) (hi:ops[i]? = some ⟨none,op,ty,ps,af,g⟩) (htl:tail t i=true) (hg:Want ops σ g true) (D:Acts P ⟨none,op,ty,ps,af,g⟩ σ w Q) (h:∀ w1,Q w1->RD κ P Z b n ds cs ops t f m' k σ w1):RO κ P Z b n ds cs ops t f m k σ w i:=by
 intro a w' ha hw
 unfold OpI
 rw [hi]
 simp only
 rw [if_pos (hg.eq ha)]
 obtain ⟨w1,hr,hq⟩:=D a.eval (fun x u hx=>ha.ev hx) w' hw
 unfold OpW
 rw [hr,bR hst]
 exact ⟨fun e=>(by rw [htl] at e; cases e),(h w1 hq).1,(h w1 hq).2 _ _ ha (Agree.refl _ _)⟩
theorem RO.now (hst:cK ops.size m i m'=true) (hi:ops[i]? = some ⟨none,op,ty,ps,af,g⟩) (htl:tail t i=true) (hg:Want ops σ g true) (D:Acts P ⟨none,op,ty,ps,af,g⟩ σ w (Now w0 w O O')) (h:∀ w1,St w0 w1 O'->Tr w O w1 O'->RD κ P Z b n ds cs ops t f m' k σ w1):RO κ P Z b n ds cs ops t f m k σ w i:=
 RO.acts hst hi htl hg D fun w1 q=>h w1 q.1 q.2
theorem RO.doesL {Q:Vc->World->Prop} (hst:cK ops.size m i m'=true) (hi:ops[i]? = some ⟨some d,op,ty,ps,af,g⟩) (htl:tail t i=true) (hg:Want ops σ g true) (hd:Nat.blt d n=true) (D:DoesL P ⟨some d,op,ty,ps,af,g⟩ σ w Q) (h:∀ u w1,Q u w1->RD κ P Z b n ds cs ops t f m' k ((d,u)::σ) w1):RO κ P Z b n ds cs ops t f m k σ w i:=by
 intro a w' ha hw
 unfold OpI
 rw [hi]
 simp only
 rw [if_pos (hg.eq ha)]
 obtain ⟨u,w1,hr,hq⟩:=D a.eval (fun x u hx=>ha.ev hx) w' hw
 unfold OpW
 rw [hr,bR hst]
 exact ⟨fun e=>(by rw [htl] at e; cases e),(h u w1 hq).1,(h u w1 hq).2 _ _ (ha.put d u hd) (Agree.refl _ _)⟩
theorem RO.call {fn:FuncId} {c:Operand} {fst cap:Lb Vc} {xs:Lb Operand} {vs:Lb Vc} {ts:Array TypeId} {R:World->Vc->Prop} (hst:cK ops.size m i m'=true) (hi:ops[i]? = some ⟨some d,.call { callee:=.value c,args:=xs.toArray,argTypes:=ts },ty,ps,af,g⟩) (hg:Want ops σ g true)
  (hf:cr P fn=true) (hcal:ev σ c=some (.func (.func fn) fst.toArray cap.toArray)) (hv:evs σ xs vs) (hc:∀ w', Agree [] w w'->Calls P fn (fst++vs++cap).toArray w' (aj w' R)) (hd:Nat.blt d n=true)
  (h:∀ w1 v,Agree [] w w1->R w1 v->RD κ P Z b n ds cs ops t f m' k ((d,v)::σ) w1):RO κ P Z b n ds cs ops t f m k σ w i:=by
 intro a w' ha hw
 unfold OpI
 rw [hi]
 simp only
 rw [if_pos (hg.eq ha)]
 have he:=cN (P:=P) (ty:=ty) (ps:=ps) (af:=af) (g:=g) (dd:=some d) (ts:=ts) hf (ρ:=a.eval) (ha.ev hcal) (vs:=vs.toArray) (xs:=xs.toArray) (by rw [List.map_toArray,bO (fun x u hx=>ha.ev hx) hv]) w'
 unfold OpW
 rw [he,bR hst]
 simp only [List.append_toArray]
 exact (hc w' hw).mono fun e w1 ⟨u,e1,hR,hag⟩=>.inl ⟨u,e1,fun _=>hag,(h w1 u (hw.trans hag) hR).1,(h w1 u (hw.trans hag) hR).2 _ _ (ha.put d u hd) (Agree.refl _ _)⟩
end
end
section
open Go Go.RowKit
theorem zB {P:Program} {t:TypeId} {zs:Lb Vc} (h:(P.info? t).bind (fun i=>i.zero.map (·.cells))=some zs.toArray):eh P t zs:=h
def bb (x:Int):Oa Nat:=if 0<=x then some x.toNat else none
theorem kj {x:Int} {k:Nat} (h:bb x=some k):x=((k:Nat):Int):=by
 unfold bb at h
 split at h
 ·cases h; omega
 ·cases h
def cD (x y:Int):Oa Int:=if y=0 then none else some (x.tmod y)
def iv (x y:Int):Oa Int:=if y=0 then none else chk (x.tdiv y)
def pO (x y:Ua):Oa Ua:=if y=0 then none else some (x%y)
def md (x y:Ua):Oa Ua:=if y=0 then none else some (x/y)
theorem remI_in {x y z:Int} (h:cD x y=some z):y≠0/\z=x.tmod y:=by
 unfold cD at h; split at h
 ·cases h
 ·rename_i h0; cases h; exact ⟨h0,rfl⟩
theorem quoI_in {x y z:Int} (h:iv x y=some z):y≠0/\IntKind.i64.wrap (x.tdiv y)=z:=by
 unfold iv at h; split at h
 ·cases h
 ·rename_i h0; obtain ⟨rfl,h2⟩:=lY h; exact ⟨h0,IntWalk.i64_in _ h2⟩
theorem remW_in {x y z:Ua} (h:pO x y=some z):y≠0/\z=x%y:=by
 unfold pO at h; split at h
 ·cases h
 ·rename_i h0; cases h; exact ⟨h0,rfl⟩
theorem quoW_in {x y z:Ua} (h:md x y=some z):y≠0/\z=x/y:=by
 unfold md at h; split at h
 ·cases h
 ·rename_i h0; cases h; exact ⟨h0,rfl⟩
section
variable {P:Program} {σ:Lb (Nat×Vc)} {w:World} {x y:Operand} {d:Oa Tmp} {t t' ty:TypeId} {ps:String} {af:Array Edge} {g:Oa (Nat×Bool)} {a b c:Ua}
theorem FV.shlI {k:IntKind} {i:Int} {j:Nat} (hx:ev σ x=some (.int .u64 (a.toNat:Int))) (hy:ev σ y=some (.int k i)) (hj:bb i=some j):FV P ⟨d,.binOp .shl t x y t', ty,ps,af,g⟩ σ w (.int .u64 ((Proofs.YtkimkkgicmipbaaGreatDoor.shlU a j).toNat:Int)):=FV.shlU hx (by rw [hy,<- kj hj])
theorem FV.shrI {k:IntKind} {i:Int} {j:Nat} (hx:ev σ x=some (.int .u64 (a.toNat:Int))) (hy:ev σ y=some (.int k i)) (hj:bb i=some j):FV P ⟨d,.binOp .shr t x y t', ty,ps,af,g⟩ σ w (.int .u64 ((Proofs.YtkimkkgicmipbaaGreatDoor.shrU a j).toNat:Int)):=FV.shrU hx (by rw [hy,<- kj hj])
theorem FV.remc {i j r:Int} {k:IntKind} (hx:ev σ x=some (.int k i)) (hy:ev σ y=some (.int k j)) (hr:cD i j=some r):FV P ⟨d,.binOp .rem t x y t', ty,ps,af,g⟩ σ w (.int k r):=by obtain ⟨h1,rfl⟩:=remI_in hr; exact FV.rem hx hy h1
theorem FV.quoc {i j r:Int} (hx:ev σ x=some (.int .i64 i)) (hy:ev σ y=some (.int .i64 j)) (hr:iv i j=some r):FV P ⟨d,.binOp .quo t x y t', ty,ps,af,g⟩ σ w (.int .i64 r):=by obtain ⟨h1,h2⟩:=quoI_in hr; exact FV.quo hx hy h1 h2
theorem FV.remV (hx:ev σ x=some (.int .u64 (a.toNat:Int))) (hy:ev σ y=some (.int .u64 (b.toNat:Int))) (hr:pO a b=some c):FV P ⟨d,.binOp .rem t x y t', ty,ps,af,g⟩ σ w (.int .u64 (c.toNat:Int)):=by obtain ⟨h1,rfl⟩:=remW_in hr; exact FV.remU hx hy h1
theorem FV.quoV (hx:ev σ x=some (.int .u64 (a.toNat:Int))) (hy:ev σ y=some (.int .u64 (b.toNat:Int))) (hr:md a b=some c):FV P ⟨d,.binOp .quo t x y t', ty,ps,af,g⟩ σ w (.int .u64 (c.toNat:Int)):=by obtain ⟨h1,rfl⟩:=quoW_in hr; exact FV.quoU hx hy h1
theorem FV.andNotU (hx:ev σ x=some (.int .u64 (a.toNat:Int))) (hy:ev σ y=some (.int .u64 (b.toNat:Int))):FV P ⟨d,.binOp .andNot t x y t', ty,ps,af,g⟩ σ w (.int .u64 ((a&&&~~~b).toNat:Int)):=fun ρ ha w' _=>by
 have e:IntKind.u64.wrap (((BitVec.ofInt 64 (a.toNat:Int))&&&~~~(BitVec.ofInt 64 (b.toNat:Int))).toNat:Int)=((a&&&~~~b).toNat:Int):=by
  have h1:BitVec.ofInt 64 (a.toNat:Int)=a.toBitVec:=by apply BitVec.eq_of_toNat_eq; simp
  have h2:BitVec.ofInt 64 (b.toNat:Int)=b.toBitVec:=by apply BitVec.eq_of_toNat_eq; simp
  rw [h1,h2,show a.toBitVec&&&~~~b.toBitVec=(a&&&~~~b).toBitVec by simp,show ((a&&&~~~b).toBitVec).toNat=(a&&&~~~b).toNat from rfl,cM,iS]
 have hs:(Op.intBits .andNot .u64 (a.toNat:Int) (b.toNat:Int)).run P w'=.ok (.int .u64 ((a&&&~~~b).toNat:Int)) w' :=by
  rw [<- e]; rfl
 simp [execOp,ha _ _ hx,ha _ _ hy,eqGuard,binOp,hs]
def dC (x:Ua):UInt8:=UInt8.ofNat x.toNat
theorem FV.conv8 {s:TypeId} (hs:P.underlying s=some (.int .u64)) (ht:P.underlying t=some (.int .u8)) (hx:ev σ x=some (.int .u64 (a.toNat:Int))):FV P ⟨d,.convert s t x,ty,ps,af,g⟩ σ w (.int .u8 ((dC a).toNat:Int)):=
 FV.conv hs ht hx (by
  unfold dC
  rw [UInt8.toNat_ofNat']
  simp only [IntKind.wrap,IntKind.bits,IntKind.signed]
  simp)
def andI (x y:Int):Int:=IntKind.i64.wrap ((BitVec.ofInt 64 x&&&BitVec.ofInt 64 y).toNat:Int)
theorem FV.andI {i j:Int} (hx:ev σ x=some (.int .i64 i)) (hy:ev σ y=some (.int .i64 j)):FV P ⟨d,.binOp .and t x y t', ty,ps,af,g⟩ σ w (.int .i64 (Proofs.YtkimkkgicmipbaaGreatDoor.andI i j)):=fun ρ ha w' _=>by
 have hs:(Op.intBits .and .i64 i j).run P w'=.ok (.int .i64 (Proofs.YtkimkkgicmipbaaGreatDoor.andI i j)) w' :=rfl
 simp [execOp,ha _ _ hx,ha _ _ hy,eqGuard,binOp,hs]
def Glob (k:Nat) (tab:Lb UInt8) (w:World):Prop:=∀ i z,tab[i]? = some z->w.cell? ((⟨k,0,none⟩:Addr).add (i*1))=some (.int .u8 (z.toNat:Int))
theorem Glob.keep {k:Nat} {tab:Lb UInt8} {w w' : World} (h:Glob k tab w) (hw:Agree [] w w'):Glob k tab w' :=fun i z hz=>hw.cell0 (h i z hz)
theorem tab_lt {tab:Lb UInt8} {i m:Nat} {z:UInt8} (h:tab[i]? = some z) (hl:tab.length=m):i<m:=by rw [<- hl]; exact (List.getElem?_eq_some_iff.1 h).1
theorem FV.strIdx {kd:IntKind} {s:ByteArray} {i:Int} {k:Nat} {tab:Lb UInt8} {z:UInt8} (ht:P.underlying t=some .string) (hx:ev σ x=some (.string s)) (hy:ev σ y=some (.int kd i)) (hi:i=(k:Int)) (hs:s.data.toList=tab) (hz:tab[k]? = some z) :
  FV P ⟨d,.index t x y,ty,ps,af,g⟩ σ w (.int .u8 (z.toNat:Int)):=by
 subst hs
 obtain ⟨hk,rfl⟩:=List.getElem?_eq_some_iff.1 hz
 have hk' : k<s.size:=by simpa using hk
 exact FV.indexS ht hx hy hi hk'
theorem FV.cutL {α:Type} [Rep α] {L:Lb Nat} {v:Vc} {xs ys:Lb α} {l u:Int} {lo hi:Oa Operand} (hc:Proofs.YtkimkkgicmipbaaGreatDoor.cut xs l u=some ys) (ht:ij P t (Rep.size α)=true) (hx:ev σ x=some v) (h:Rep.R w L [v] xs)
  (hlo:match lo with | none=>l=0 | some y=>∃ k,ev σ y=some (.int k l)) (hhi:match hi with | none=>u=(xs.length:Int) | some y=>∃ k,ev σ y=some (.int k u)) :
  ∃ v', FV P ⟨d,.slice t x lo hi none,ty,ps,af,g⟩ σ w v' /\Rep.R w L [v'] ys:=by
 obtain ⟨rfl,h1,h2,h3,h4⟩:=cut_in hc
 refine FV.cut (l:=l.toNat) (u:=u.toNat) ht hx h ?_ ?_ h3 h4
 ·cases lo with
  | none=>simp only at hlo ⊢; omega
  | some y=>obtain ⟨k,hk⟩:=hlo; exact ⟨k,by rw [hk,<- h1]⟩
 ·cases hi with
  | none=>simp only at hhi ⊢; omega
  | some y=>obtain ⟨k,hk⟩:=hhi; exact ⟨k,by rw [hk,<- h2]⟩
theorem FV.eqlV {q:Bool} {v u:Vc} (hx:ev σ x=some v) (hy:ev σ y=some u) (he:∀ w', (do eqGuard .eql t x y v u; binOp .eql t v u:Sem Vc).run P w'=.ok (.bool q) w'):FV P ⟨d,.binOp .eql t x y t', ty,ps,af,g⟩ σ w (.bool q):=fun ρ ha w' _=>by
 simp only [execOp,ha _ _ hx,ha _ _ hy]
 rw [Sem.run_bind]
 refine (congrArg (fun z=>Result.andThen z _) (he w')).trans ?_
 rfl
theorem FV.buildV {parts:Lb (Nat×Operand)} {vs:Lb Vc} {u:Vc} (hv:evs σ (parts.map Prod.snd) vs) (hb:∀ w', (Instr.build t ((parts.map Prod.fst).zip vs).toArray).run P w'=.ok u w'):FV P ⟨d,.build t parts.toArray,ty,ps,af,g⟩ σ w u:=fun ρ ha w' _=>by
 have hmap:(parts.toArray.map fun (i,x)=>(i,ρ x))=((parts.map Prod.fst).zip vs).toArray:=by
  rw [<- bO ha hv]
  simp [List.zip_map', List.map_map]
 simp only [execOp,hmap,Sem.run_bind,hb,Result.andThen_ok,Sem.run_pure]
end
section
variable {P:Program} {Z:Machine->Prop} {b:Frame} {n:Nat} {ds:Lb Deferred} {cs:Lb Frame} {k:Lb Item} {σ τ:Lb (Nat×Vc)} {w:World} {ops:Array Oper} {l:Lb Oper} {d:Nat} {op:Op} {ty:TypeId} {ps:String} {af:Array Edge} {g:Oa (Nat×Bool)} {t f m m' i:Nat} {Q:Vc->Prop} {κ:KP}
theorem RG.valE (hg:Want ops σ g true) (hd:Nat.blt d n=true) (he:∃ v,FV P ⟨some d,op,ty,ps,af,g⟩ σ w v/\Q v) (h:∀ v,Q v->RG P Z b n ds cs ops l k ((d,v)::σ) w):RG P Z b n ds cs ops (⟨some d,op,ty,ps,af,g⟩::l) k σ w:=
 let ⟨v,h1,h2⟩:=he; RG.val' hg h1 hd (h v h2)
theorem RD.valE {W:Nat} (hB:iL ops t m W i m'=true) (hi:ops[i]? = some ⟨some d,op,ty,ps,af,g⟩) (hp:ba ops=true) (hg:Want ops σ g true) (hd:Nat.blt d n=true) (he:∃ v,FV P ⟨some d,op,ty,ps,af,g⟩ σ w v/\Q v)
  (h:∀ v,Q v->RD κ P Z b n ds cs ops t f m' k ((d,v)::σ) w) (hfr:κ.free i=true:=by rfl):RD κ P Z b n ds cs ops t (f+1) m k σ w:=
 let ⟨v,h1,h2⟩:=he; RD.val hB hi hp hg h1 hd (h v h2) hfr
theorem RD.meet {α:Type} (S:α->Lb (Nat×Vc)) (R:α->World->Prop) (f' m' : Nat) (hJ:∀ x wx,R x wx->RD κ P Z b n ds cs ops t f' m' k (S x) wx) (h:(∀ x wx σ', Sub σ' (S x)->R x wx->RD κ P Z b n ds cs ops t f' m' k σ' wx)->RD κ P Z b n ds cs ops t f m k σ w):RD κ P Z b n ds cs ops t f m k σ w:=
 h fun x wx _ hs hR=>⟨(hJ x wx hR).1,fun a w' ha hw=>(hJ x wx hR).2 a w' (ha.sub hs.look) hw⟩
theorem RO.val {v:Vc} (hst:cK ops.size m i m'=true) (hi:ops[i]? = some ⟨some d,op,ty,ps,af,g⟩) (hg:Want ops σ g true) (hd:Nat.blt d n=true) (hq:FV P ⟨some d,op,ty,ps,af,g⟩ σ w v) (h:RD κ P Z b n ds cs ops t f m' k ((d,v)::σ) w):RO κ P Z b n ds cs ops t f m k σ w i:=by
 intro a w' ha hw
 unfold OpI
 rw [hi]
 simp only
 rw [if_pos (hg.eq ha)]
 unfold OpW
 rw [hq a.eval (fun x u hx=>ha.ev hx) w' hw,bR hst]
 exact ⟨fun _=>Agree.refl _ _,fun hn=>Kp.agree hw (h.1 hn),h.2 _ _ (ha.put d v hd) hw⟩
end
section
variable {α:Type} [Rep α] {w w0:World} {O O' : Lb Ob} {L:Lb Nat} {v:Vc} {xs:Lb α} {cs:Lb Vc} {e:TypeId} {base:Nat}
theorem St.lend (s:St w0 w O) (u:At O (.row base e (Rep.size α) v xs.length cs)) (hc:Cells w (bl O++L) cs xs) (hL:∀ b∈L,b<w0.heap.size):Rep.R w L [v] xs:=
 py (s.get u.upd) ⟨hc.1,fun i hi=>Rep.dropO (hc.2 i hi)⟩ fun b hb hm=>by
  have:=s.new b (u.upd.mem hb); have:=hL b hm; omega
theorem St.lendA {b:Nat} {t:TypeId} (s:St w0 w O) (u:At O (.cells b cs t)) (hc:Cells w (bl O++L) cs xs) (hL:∀ b∈L,b<w0.heap.size) (hm:xs.length<=jw):Rep.R w L [.slice (some ⟨b,0,none⟩) xs.length xs.length] xs:=by
 refine ⟨some ⟨b,0,none⟩,xs.length,I,Nat.le_refl _,by unfold jw at hm; omega,hm,fun i hi=>⟨_,I,fun hb=>?_,_,Rep.dropO (hc.2 i hi),fun j u' hu=>?_⟩⟩
 ·have:=s.new b (u.upd.mem I); have:=hL b hb; omega
 ·rw [<- cp]
  exact ay (s.memA u) _ _ j u' hu
end
end
section
open Go Go.RowKit
section
variable {P:Program} {σ:Lb (Nat×Vc)} {w:World} {x y:Operand} {d:Oa Tmp} {t t' ty:TypeId} {ps:String} {af:Array Edge} {g:Oa (Nat×Bool)}
theorem FV.as {o:Oper} {v u:Vc} (h:FV P o σ w v) (e:v=u):FV P o σ w u:=e ▸ h
theorem FV.sliceA {len m:Nat} {p:Addr} (ht:arrB P t len m=true) (hx:ev σ x=some (.pointer (some p))):FV P ⟨d,.slice t x none none none,ty,ps,af,g⟩ σ w (.slice (some p) len len):=by
 refine fun ρ ha w' _=>?_
 unfold arrB at ht
 split at ht
 ·rename_i l e hu
  rw [Bool.and_eq_true] at ht
  obtain ⟨h1,h2⟩:=ht
  have hl:l=len:=by simpa using h1
  subst hl
  split at h2
  ·rename_i j hj
   have hs:j.size=m:=by simpa using h2
   simp [execOp,ha _ _ hx,Instr.sliceAt,Instr.sliceBounds,Instr.sureAddr,run_underlying hu,sizeOf,typeInfo,hj]
   intro _; cases p; simp [Addr.add]
  ·cases h2
 ·cases ht
end
theorem ai {α β:Type} {o:Oa α} {r:β} {K:α->Oa β} (h:o.bind K=some r):∃ x,o=some x/\∀ y,some y=some x->K y=some r:=by
 cases o with
 | none=>cases h
 | some x=>exact ⟨x,rfl,fun y e=>by cases e; exact h⟩
section
variable {w w0 w9:World} {O:Lb Ob} {L:Lb Nat}
theorem St.hL0 (s:St w0 w O) (hL:∀ b∈L,b<w0.heap.size) (hw:Agree [] w w9):∀ b∈L,b<w9.heap.size:=fun b hb=>(s.hL (L:=L) hL hw) b (List.mem_append.2 (.inr hb))
end
section
variable {α:Type} [Rep α] {P:Program} {σ τ:Lb (Nat×Vc)} {w w0:World} {O O' : Lb Ob} {L:Lb Nat} {v v' dv sv:Vc} {xs ys zs:Lb α} {cs:Lb Vc} {e:TypeId} {base lo m:Nat} {x y:Operand} {d:Oa Tmp} {t t' ty:TypeId} {ps:String} {af:Array Edge} {g:Oa (Nat×Bool)}
structure SubV (v v' : Value) (lo sz m n:Nat):Prop where
 le:lo+m<=n
 at_:∃ A c,v'=.slice A m c/\(m≠0->∃ bk c0,v=.slice (some ⟨bk,0,none⟩) n c0/\A=some ((⟨bk,0,none⟩:Addr).add (lo*sz)))
end
section
variable {P:Program} {σ:Lb (Nat×Vc)} {w:World} {x y:Operand} {d:Oa Tmp} {t t' ty:TypeId} {ps:String} {af:Array Edge} {g:Oa (Nat×Bool)}
def shr16 (x:UInt16) (k:Nat):UInt16:=if k<16 then UInt16.ofNat (x.toNat/2^k) else 0
theorem FV.shr16 {k:IntKind} {j:Nat} {a:UInt16} (hx:ev σ x=some (.int .u16 (a.toNat:Int))) (hy:ev σ y=some (.int k ((j:Nat):Int))):FV P ⟨d,.binOp .shr t x y t', ty,ps,af,g⟩ σ w (.int .u16 ((Proofs.YtkimkkgicmipbaaGreatDoor.shr16 a j).toNat:Int)):=fun ρ ha w' _=>by
 have e:(a.toNat:Int).fdiv (2^(min j 16))=((Proofs.YtkimkkgicmipbaaGreatDoor.shr16 a j).toNat:Int):=by
  have hlt:=a.toNat_lt
  rw [show (2:Int)^(min j 16)=((2^(min j 16):Nat):Int) by simp,show (a.toNat:Int).fdiv ((2^(min j 16):Nat):Int)=((a.toNat/2^(min j 16):Nat):Int) by rw [Int.fdiv_eq_ediv_of_nonneg _ (Int.natCast_nonneg _)]; rfl]
  unfold Proofs.YtkimkkgicmipbaaGreatDoor.shr16
  split
  ·rename_i h
   rw [Nat.min_eq_left (by omega),UInt16.toNat_ofNat_of_lt']
   exact Nat.lt_of_le_of_lt (Nat.div_le_self _ _) hlt
  ·rename_i h
   rw [Nat.min_eq_right (by omega),Nat.div_eq_of_lt (by simpa using hlt)]; rfl
 have hs:(Op.shift .shr .u16 (a.toNat:Int) k (j:Int)).run P w'=.ok (.int .u16 ((Proofs.YtkimkkgicmipbaaGreatDoor.shr16 a j).toNat:Int)) w' :=by
  rw [<- e]; unfold Op.shift; rw [if_neg (by omega)]; simp [IntKind.bits]
 simp [execOp,ha _ _ hx,ha _ _ hy,eqGuard,binOp,hs]
theorem FV.and16 {a b:UInt16} (hx:ev σ x=some (.int .u16 (a.toNat:Int))) (hy:ev σ y=some (.int .u16 (b.toNat:Int))):FV P ⟨d,.binOp .and t x y t', ty,ps,af,g⟩ σ w (.int .u16 ((a&&&b).toNat:Int)):=fun ρ ha w' _=>by
 have e:IntKind.u16.wrap (((BitVec.ofInt 16 (a.toNat:Int))&&&(BitVec.ofInt 16 (b.toNat:Int))).toNat:Int)=((a&&&b).toNat:Int):=by
  have h1:BitVec.ofInt 16 (a.toNat:Int)=a.toBitVec:=by apply BitVec.eq_of_toNat_eq; simp
  have h2:BitVec.ofInt 16 (b.toNat:Int)=b.toBitVec:=by apply BitVec.eq_of_toNat_eq; simp
  rw [h1,h2,show a.toBitVec&&&b.toBitVec=(a&&&b).toBitVec by simp,show ((a&&&b).toBitVec).toNat=(a&&&b).toNat from rfl]
  have:=(a&&&b).toNat_lt
  generalize (a&&&b).toNat=q at *
  simp only [IntKind.wrap,IntKind.bits,IntKind.signed]
  simp
  omega
 have hs:(Op.intBits .and .u16 (a.toNat:Int) (b.toNat:Int)).run P w'=.ok (.int .u16 ((a&&&b).toNat:Int)) w' :=by
  rw [<- e]; rfl
 simp [execOp,ha _ _ hx,ha _ _ hy,eqGuard,binOp,hs]
end
theorem gF:∀ u∈([]:Lb Vc),u.oneCell'=true:=fun u h=>by cases h
theorem bK {v:Vc} {l:Lb Vc} (h:v.oneCell'=true) (h2:∀ u∈l,u.oneCell'=true):∀ u∈v::l,u.oneCell'=true:=fun u hu=>by
 rcases List.mem_cons.1 hu with rfl | hu
 ·exact h
 ·exact h2 u hu
section
variable {α:Type} [Rep α] {w w0:World} {O:Lb Ob} {L:Lb Nat} {v:Vc} {xs:Lb α} {cs:Lb Vc} {e:TypeId} {base:Nat}
theorem Rep.c1 (h:Rep.R w L [v] xs):v.cells=[v].toArray:=by obtain ⟨A,c,rfl,_⟩:=Rep.sl h; rfl
theorem Rep.o1 (h:Rep.R w L [v] xs):v.oneCell'=true:=by obtain ⟨A,c,rfl,_⟩:=Rep.sl h; rfl
theorem St.c1 (s:St w0 w O) (u:At O (.row base e (Rep.size α) v xs.length cs)):v.cells=[v].toArray:=by obtain ⟨A,c,rfl⟩:=s.rowV u; rfl
theorem St.o1 (s:St w0 w O) (u:At O (.row base e (Rep.size α) v xs.length cs)):v.oneCell'=true:=by obtain ⟨A,c,rfl⟩:=s.rowV u; rfl
end
/-! ### Ranges over functions in loops: as many deferred records as rounds -/
@[reducible] def bM (Ds:Lb Nat):Lb Ob:=Ds.map fun D=>.obj D (.deferred (some []))
@[reducible] def cols (Ds:Lb Nat):Lb Deferred:=Ds.map fun D=>{ target:=.collected D,args:=#[] }
inductive Arr2:Lb Ob->Lb Ob->Prop
 | rest {O:Lb Ob}:Arr2 O O
 | one {O O1 O' : Lb Ob} {o:Ob} (h:Out O o O1) (h2:Arr2 O1 O'):Arr2 O (o::O')
 | drop {O O1 O' : Lb Ob} {o:Ob} (h:Out O o O1) (h2:Arr2 O1 O'):Arr2 O O'
theorem Arr2.bl {O O' : Lb Ob} (h:Arr2 O O') {b:Nat} (hb:b∈bl O'):b∈bl O:=by
 induction h with
 | rest=>exact hb
 | one h _ ih=>
  rcases au.1 hb with e | e
  ·exact h.mem e
  ·exact h.del.bl (ih e)
 | drop h _ ih=>exact h.del.bl (ih hb)
theorem Arr2.owns {w:World} {O O' : Lb Ob} (h:Arr2 O O') (ho:Owns w O):Owns w O' :=by
 induction h with
 | rest=>exact ho
 | one h h2 ih=>
  obtain ⟨h3,h4⟩:=h.get ho
  exact ⟨h3,fun b e hm=>h4 b e (h2.bl hm),ih (h.del.owns ho)⟩
 | drop h h2 ih=>exact ih (h.del.owns ho)
theorem St.arr2 {w0 w:World} {O O' : Lb Ob} (s:St w0 w O) (h:Arr2 O O'):St w0 w O' :=⟨s.ag,fun b hb=>s.new b (h.bl hb),h.owns s.ok⟩
theorem Tr.arr2 {w:World} {O O' : Lb Ob} (h:Arr2 O O'):Tr w O w O' :=⟨Agree.refl _ _,fun _ hb=>.inl (h.bl hb)⟩
theorem St.arr2Of {w0 w:World} {O O' : Lb Ob} (_:St w0 w O) (h:Arr2 O O'):Arr2 O O' :=h
section
variable {P:Program} {Z:Machine->Prop} {b:Frame} {n:Nat} {ds:Lb Deferred} {cs:Lb Frame} {k:Lb Item} {σ τ:Lb (Nat×Vc)} {w w0:World}
theorem MX.loopD {α γ O:Type} {B:(γ->Oa O)->γ->Oa O} {N:Nat} {r:O} {c:Code} (S:α->Lb (Nat×Vc)) (R:α->World->Prop) (p:α->γ) (D:α->Lb Deferred) (x0:α) (hd:ds=D x0) (hh:ah B N (p x0)=some r) (hs:Sub σ (S x0)) (hR:R x0 w)
  (round:∀ (J:γ->Oa O) x wx,(∀ x' wx' σ' ds', Sub σ' (S x')->ds'=D x'->R x' wx'->J (p x')=some r->MX P Z b n ds' cs (.inLoop c::k) σ' wx')->R x wx->B J (p x)=some r->MX P Z b n (D x) cs (.code c::.inLoop c::k) (S x) wx):MX P Z b n ds cs (.code (.loop c)::k) σ w:=by
 subst hd
 have key:∀ N x wx,R x wx->ah B N (p x)=some r->MX P Z b n (D x) cs (.code c::.inLoop c::k) (S x) wx:=by
  intro N
  induction N with
  | zero=>intro x wx _ h; cases h
  | succ N ih=>intro x wx hx h; exact round (ah B N) x wx (fun x' wx' σ' ds' hs' hd' hR' hJ=>by subst hd'; exact (MX.again1 (ih x' wx' hR' hJ)).sub hs') hx h
 exact MX.loop1 ((key N x0 w hR hh).sub hs)
theorem dW (O1 O2:Lb Ob):bl (O1++O2)=bl O1++bl O2:=by unfold bl; rw [List.filterMap_append]
theorem Upd.mid:∀ (O1:Lb Ob) {O2:Lb Ob} {o o' : Ob},Upd (O1++o::O2) o o' (O1++o'::O2)
 | [],_,_,_=>.hd
 | _::O1,_,_,_=>.tl (Upd.mid O1)
theorem Out.mid:∀ (O1:Lb Ob) {O2:Lb Ob} {o:Ob},Out (O1++o::O2) o (O1++O2)
 | [],_,_=>.hd
 | _::O1,_,_=>.tl (Out.mid O1)
theorem RT.takes {O1 O2:Lb Ob}:∀ {Ds:Lb Nat} {w:World},St w0 w (O1++(bM Ds++O2))->(∀ w1,St w0 w1 (O1++O2)->Tr w (O1++(bM Ds++O2)) w1 (O1++O2)->RT P Z b n [] cs σ w1)->RT P Z b n (cols Ds) cs σ w
 | [],w,s,h=>h w s (Tr.refl _ _)
 | _D::_Ds,_w,s,h=>RT.take s (Upd.mid O1) fun _w1 s1 t1=>RT.takes (s1.del (Out.mid O1).del) fun w2 s2 t2=>h w2 s2 ((t1.trans (Tr.del (Out.mid O1).del)).trans t2)
end
/-! ### Calls that hand over objects; orders of a drawn region -/
section
variable {w0 w w1 w9:World} {O O' : Lb Ob}
theorem Owns.merge {w:World} {O:Lb Ob} (h:Owns w O):∀ {O' : Lb Ob},Owns w O'->(∀ b∈bl O', b∉bl O)->Owns w (O'++O)
 | [],_,_=>h
 | o::O', ⟨h1,h2,h3⟩,hd=>⟨h1,fun b e hm=>by
   have hm:b∈bl (O'++O):=hm
   rw [dW] at hm
   rcases List.mem_append.1 hm with hm | hm
   ·exact h2 b e hm
   ·exact hd b (au.2 (.inl e)) hm,Owns.merge h h3 fun b hb=>hd b (au.2 (.inr hb))⟩
theorem St.merge (s:St w0 w O) (s' : St w w1 O'):St w0 w1 (O'++O):=⟨s.ag.trans s'.ag,fun b hb=>by
  rw [dW] at hb
  rcases List.mem_append.1 hb with hb | hb
  ·exact Nat.le_trans s.ag.size (s'.new b hb)
  ·exact s.new b hb,Owns.merge (s.ok.keep s'.ag (fun _ _=>by simp)) s'.ok fun b hb hm=>by
   have:=s'.new b hb; have:=s.ok.lt b hm; omega⟩
theorem Tr.merge (_:St w0 w O) (s' : St w w1 O'):Tr w O w1 (O'++O):=⟨s'.ag.widen,fun b hb=>by
  rw [dW] at hb
  rcases List.mem_append.1 hb with hb | hb
  ·exact .inr (s'.new b hb)
  ·exact .inl hb⟩
theorem St.from (s:St w9 w1 O') (h:Agree [] w w9):St w w1 O' :=⟨h.trans s.ag,fun b hb=>Nat.le_trans h.size (s.new b hb),s.ok⟩
end
theorem Calls.gives {P:Program} {f:FuncId} {vs:Array Vc} {w:World} {R R' : World->Vc->Prop} (h:Calls P f vs w (aj w R)) (hR:∀ w' v,R w' v->R' w' v):Calls P f vs w (aj w R'):=h.mono fun _ w' ⟨v,e,h1,h2⟩=>⟨v,e,hR w' v h1,h2⟩
def AllL (p:Nat->Prop):Lb Nat->Prop
 | []=>True
 | i::l=>p i/\AllL p l
theorem AllL.mem {p:Nat->Prop}:∀ {l:Lb Nat},AllL p l->∀ i∈l,p i
 | _::_,⟨h1,h2⟩,i,hi=>by
  rcases List.mem_cons.1 hi with rfl | hi
  ·exact h1
  ·exact AllL.mem h2 i hi
section
variable {P:Program} {Z:Machine->Prop} {b:Frame} {n:Nat} {ds:Lb Deferred} {cs:Lb Frame} {k:Lb Item} {σ τ:Lb (Nat×Vc)} {w w0:World} {ops:Array Oper} {t f m m' i:Nat} {d:Nat} {ty:TypeId} {ps:String} {af:Array Edge} {g:Oa (Nat×Bool)} {κ:KP}
theorem RD.each (rs:Lb Nat) (hr:gu ops m rs=true) (h:AllL (RO κ P Z b n ds cs ops t f m k σ w) rs) (hk:κ.nd (lst ops.size m)->Kp κ.c w:=by exact KP.triv):RD κ P Z b n ds cs ops t (f+1) m k σ w:=RD.all hr h.mem hk
end
end
section
open Go Go.RowKit
def bits (l:Lb Nat):Nat:=l.foldl (fun a k=>a|||2^k) 0
theorem ng:∀ (l:Lb Nat) (a k:Nat),(l.foldl (fun a k=>a|||2^k) a).testBit k=(a.testBit k||decide (k∈l))
 | [],a,k=>by simp
 | x::l,a,k=>by
  rw [List.foldl_cons,ng l]
  rw [Nat.testBit_or,Nat.testBit_two_pow]
  by_cases h:x=k<;>simp [h,eq_comm]
theorem dT {l:Lb Nat} {k:Nat}:(bits l).testBit k=decide (k∈l):=by unfold bits; rw [ng]; simp
def bI (ops:Array Oper) (o:Oper):Nat×Nat×Nat:=(bits ((o.after.toList.filter (Region.binds .any)).map (·.on)),bits o.dst.toList,bits (o.looksAt ops))
def bU (ops:Array Oper):Lb (Nat×Nat×Nat):=ops.toList.map (bI ops)
def sub (x y:Nat):Bool:=x&&&y==x
theorem sE {x y:Nat} (h:sub x y=true) {k:Nat} (hk:x.testBit k=true):y.testBit k=true:=by
 have h:x&&&y=x:=by simpa [sub] using h
 rw [<- h,Nat.testBit_and,Bool.and_eq_true] at hk
 exact hk.2
theorem sub_of {x y:Nat} (h:∀ k,x.testBit k=true->y.testBit k=true):sub x y=true:=by
 have:x&&&y=x:=Nat.eq_of_testBit_eq fun k=>by
  rw [Nat.testBit_and]
  cases hx:x.testBit k
  ·rfl
  ·rw [h k hx]; rfl
 simp [sub,this]
def pR (p:Nat->Nat×Nat×Nat->Bool):Nat->Lb (Nat×Nat×Nat)->Bool
 | _,[]=>true
 | k,x::l=>p k x&&pR p (k+1) l
theorem iy {p:Nat->Nat×Nat×Nat->Bool}:∀ {k:Nat} {l:Lb (Nat×Nat×Nat)},pR p k l=true->∀ (j:Nat) x,l[j]? = some x->p (k+j) x=true
 | _,[],_,j,x,hj=>by simp at hj
 | k,y::l,h,0,x,hj=>by
  unfold pR at h
  rw [Bool.and_eq_true] at h
  simp at hj; subst hj; exact h.1
 | k,y::l,h,j+1,x,hj=>by
  unfold pR at h
  rw [Bool.and_eq_true] at h
  have:=iy h.2 j x (by simpa using hj)
  rwa [show k+1+j=k+(j+1) by omega] at this
def kX (T:Lb (Nat×Nat×Nat)) (t m W i m' : Nat):Bool:=match T[i]? with
 | some (d,s,l)=>!tail t i&&!m.testBit i&&sub d m&&m'==(m|||2^i)&&Nat.blt m (2^T.length)&&pR (fun j (d', s', l')=>
   (j==i||m.testBit j||d'.testBit i||((s&&&(l'|||s'))==0&&(s'&&&l)==0))&&(!tail t j||m.testBit j||W.testBit j)&&(!W.testBit j||(!m.testBit j&&(d'&&&(2^i|||(W&&&(2^T.length-1)))) != 0))) 0 T
 | none=>false
def iq (T:Lb (Nat×Nat×Nat)) (_t m i m' : Nat):Bool:=match T[i]? with
 | some (d,s,l)=>!m.testBit i&&sub d m&&m'==(m|||2^i)&&Nat.blt m (2^T.length)&&pR (fun j (d', s', l')=>
   j==i||m.testBit j||d'.testBit i||((s&&&(l'|||s'))==0&&(s'&&&l)==0)) 0 T
 | none=>false
def lJ (T:Lb (Nat×Nat×Nat)) (m:Nat):Lb Nat:=(List.range T.length).filter fun j=>!m.testBit j&&(match T[j]? with
 | some (d,_,_)=>sub d m&&Nat.blt m (2^T.length)
 | none=>false)
section
variable {ops:Array Oper} {T:Lb (Nat×Nat×Nat)} {t m W i m' : Nat}
theorem eQ (hT:bU ops=T) {j:Nat} {o:Oper} (hj:ops[j]? = some o):T[j]? = some (bI ops o):=by
 subst hT
 simp only [bU,List.getElem?_map,Array.getElem?_toList,hj,Option.map_some]
theorem cQ (hT:bU ops=T):T.length=ops.size:=by subst hT; simp [bU]
theorem pF (hT:bU ops=T) {j:Nat} (hj:j<T.length):∃ o,ops[j]? = some o:=⟨ops[j]'(by rw [<- cQ hT]; exact hj),by simp⟩
theorem gH {o:Oper} {k:Nat}:(bI ops o).1.testBit k=true↔∃ e∈o.after,Region.binds .any e=true/\e.on=k:=by
 unfold bI
 simp only [dT,decide_eq_true_eq,List.mem_map,List.mem_filter]
 constructor
 ·rintro ⟨e,⟨h1,h2⟩,h3⟩; exact ⟨e,by simpa using h1,h2,h3⟩
 ·rintro ⟨e,h1,h2,h3⟩; exact ⟨e,⟨by simpa using h1,h2⟩,h3⟩
theorem ld {n m k:Nat}:(lst n m).getD k false=(Nat.blt k n&&m.testBit k):=by
 rcases Nat.lt_or_ge k n with hk | hk
 ·simp [lst,Array.getD,hk]
 ·simp [lst,Array.getD,Nat.not_lt.2 hk]
theorem kh (hT:bU ops=T) {o:Oper} (hi:ops[i]? = some o) (h1:m.testBit i=false) (h2:sub (bI ops o).1 m=true) (h3:m<2^T.length):i∈Region.ready .any ops (lst ops.size m):=by
 have hlt:i<ops.size:=(Array.getElem?_eq_some_iff.1 hi).1
 rw [mem_ready]
 refine ⟨by rw [eV hlt]; exact h1,o,hi,fun e he hb=>?_⟩
 have hk:=sE h2 (gH.2 ⟨e,he,hb,I⟩)
 rw [ld,Bool.and_eq_true]
 refine ⟨?_,hk⟩
 rw [Nat.blt_eq]
 rcases Nat.lt_or_ge e.on ops.size with h | h
 ·exact h
 ·have:m<2^e.on:=Nat.lt_of_lt_of_le h3 (Nat.pow_le_pow_right (by decide) (by rw [cQ hT]; exact h))
  rw [Nat.testBit_lt_two_pow this] at hk; cases hk
theorem sK (_hT:bU ops=T) {o:Oper} (hi:ops[i]? = some o) (h:i∈Region.ready .any ops (lst ops.size m)):m.testBit i=false/\sub (bI ops o).1 m=true:=by
 have hlt:i<ops.size:=(Array.getElem?_eq_some_iff.1 hi).1
 rw [mem_ready] at h
 obtain ⟨h1,o', ho', h2⟩:=h
 rw [hi] at ho'; cases ho'
 rw [eV hlt] at h1
 refine ⟨h1,sub_of fun k hk=>?_⟩
 obtain ⟨e,he,hb,rfl⟩:=gH.1 hk
 have:=h2 e he hb
 rw [ld,Bool.and_eq_true] at this
 exact this.2
theorem nM {x y:Oper} (h1:((bI ops x).2.1&&&((bI ops y).2.2|||(bI ops y).2.1))=0) (h2:((bI ops y).2.1&&&(bI ops x).2.2)=0):x.apart ops y=true:=by
 have key:∀ {a b k:Nat},a&&&b=0->a.testBit k=true->b.testBit k=false:=fun {a b k} h hk=>by
  have:=congrArg (fun z=>Nat.testBit z k) h
  simp only [Nat.testBit_and,Nat.zero_testBit,hk,Bool.true_and] at this
  exact this
 unfold Oper.apart
 rw [Bool.and_eq_true]
 constructor
 ·cases hd:x.dst with
  | none=>rfl
  | some d=>
   have h:=key (k:=d) h1 (by simp [bI,hd,dT])
   rw [Nat.testBit_or,Bool.or_eq_false_iff] at h
   simp only [bI,dT,decide_eq_false_iff_not] at h
   simp only [Bool.and_eq_true,Bool.not_eq_true', bne_iff_ne,ne_eq]
   refine ⟨by simpa using h.1,fun hy=>h.2 (by rw [hy]; simp)⟩
 ·cases hd:y.dst with
  | none=>rfl
  | some d=>
   have h:=key (k:=d) h2 (by simp [bI,hd,dT])
   simp only [bI,dT,decide_eq_false_iff_not] at h
   simpa using h
theorem lL (hi:i<ops.size) (hm:m'=m|||2^i):cK ops.size m i m'=true:=by
 subst hm
 unfold cK
 rw [beq_iff_eq]
 apply Array.ext_getElem?
 intro j
 rw [Array.getElem?_setIfInBounds]
 by_cases hij:i=j
 ·subst hij; simp [lst,hi,Nat.testBit_or,Nat.testBit_two_pow]
 ·rw [if_neg hij]
  rcases Nat.lt_or_ge j ops.size with hj | hj
  ·simp [lst,hj,hij,Nat.testBit_or,Nat.testBit_two_pow]
  ·simp [lst,Nat.not_lt.2 hj]
theorem oO {oi:Oper} (hi:ops[i]? = some oi) (h:∀ j oj,ops[j]? = some oj->j=i∨m.testBit j=true∨(bI ops oj).1.testBit i=true∨oi.apart ops oj=true):Region.free .any ops (lst ops.size m) i=true:=by
 unfold Region.free
 rw [hi]
 simp only
 rw [List.all_eq_true]
 intro j hj
 have hj' :=List.mem_range.1 hj
 have ho:ops[j]? = some ops[j]:=by simp [hj']
 rw [ho,eV hj']
 simp only [Bool.or_eq_true,beq_iff_eq]
 rcases h j _ ho with h | h | h | h
 ·exact .inl (.inl h)
 ·exact .inl (.inr h)
 ·right; left
  obtain ⟨e,he,hb,h3⟩:=gH.1 h
  rw [Array.any_eq_true]
  obtain ⟨q,hq,rfl⟩:=Array.getElem_of_mem he
  exact ⟨q,hq,by simp [hb,h3]⟩
 ·exact .inr (.inr h)
theorem kI (hT:bU ops=T) (h:iq T t m i m'=true):kb ops t m i m'=true:=by
 unfold iq at h
 split at h
 ·rename_i d s l hi
  have hlt:i<T.length:=(List.getElem?_eq_some_iff.1 hi).1
  obtain ⟨oi,hoi⟩:=pF hT hlt
  have e:=eQ hT hoi
  rw [hi] at e
  have e1:d=(bI ops oi).1:=by cases e; rfl
  have e2:s=(bI ops oi).2.1:=by cases e; rfl
  have e3:l=(bI ops oi).2.2:=by cases e; rfl
  simp only [Bool.and_eq_true,Bool.not_eq_true', beq_iff_eq] at h
  obtain ⟨⟨⟨⟨h2,h3⟩,h4⟩,h5⟩,h6⟩:=h
  unfold kb
  simp only [Bool.and_eq_true]
  refine ⟨⟨?_,oO hoi fun j oj hoj=>?_⟩,lL (by rw [<- cQ hT]; exact hlt) h4⟩
  ·simpa using kh hT hoi h2 (by rw [<- e1]; exact h3) (by simpa [Nat.blt_eq] using h5)
  ·have h7:=iy h6 j _ (eQ hT hoj)
   simp only [Nat.zero_add,Bool.or_eq_true,beq_iff_eq,Bool.and_eq_true] at h7
   rcases h7 with ((h7 | h7) | h7) | h7
   ·exact .inl h7
   ·exact .inr (.inl h7)
   ·exact .inr (.inr (.inl h7))
   ·exact .inr (.inr (.inr (nM (by rw [<- e2]; exact h7.1) (by rw [<- e3]; exact h7.2))))
 ·cases h
theorem jr (hT:bU ops=T) (h:kX T t m W i m'=true):iL ops t m W i m'=true:=by
 unfold kX at h
 split at h
 ·rename_i d s l hi
  have hlt:i<T.length:=(List.getElem?_eq_some_iff.1 hi).1
  obtain ⟨oi,hoi⟩:=pF hT hlt
  have e:=eQ hT hoi
  rw [hi] at e
  have e1:d=(bI ops oi).1:=by cases e; rfl
  have e2:s=(bI ops oi).2.1:=by cases e; rfl
  have e3:l=(bI ops oi).2.2:=by cases e; rfl
  simp only [Bool.and_eq_true,Bool.not_eq_true', beq_iff_eq] at h
  obtain ⟨⟨⟨⟨⟨h1,h2⟩,h3⟩,h4⟩,h5⟩,h6⟩:=h
  unfold iL
  simp only [Bool.and_eq_true]
  have h7:∀ j oj,ops[j]? = some oj->_:=fun j oj hoj=>iy h6 j _ (eQ hT hoj)
  refine ⟨⟨⟨?_,oO hoi fun j oj hoj=>?_⟩,?_⟩,lL (by rw [<- cQ hT]; exact hlt) h4⟩
  ·simpa using kh hT hoi h2 (by rw [<- e1]; exact h3) (by simpa [Nat.blt_eq] using h5)
  ·have h7:=h7 j oj hoj
   simp only [Nat.zero_add,Bool.or_eq_true,beq_iff_eq,Bool.and_eq_true] at h7
   rcases h7.1.1 with ((h7 | h7) | h7) | h7
   ·exact .inl h7
   ·exact .inr (.inl h7)
   ·exact .inr (.inr (.inl h7))
   ·exact .inr (.inr (.inr (nM (by rw [<- e2]; exact h7.1) (by rw [<- e3]; exact h7.2))))
  ·unfold qL
   rw [Bool.and_eq_true,List.all_eq_true]
   refine ⟨by rw [h1]; rfl,fun j hj=>?_⟩
   have hj' :=List.mem_range.1 hj
   have ho:ops[j]? = some ops[j]:=by simp [hj']
   have h7:=h7 j _ ho
   rw [ho]
   simp only [Nat.zero_add,Bool.or_eq_true,beq_iff_eq,Bool.and_eq_true,Bool.not_eq_true', bne_iff_ne,ne_eq] at h7
   obtain ⟨⟨_,h8⟩,h9⟩:=h7
   simp only [Bool.and_eq_true,Bool.or_eq_true,Bool.not_eq_true']
   constructor
   ·rcases h8 with (h8 | h8) | h8
    ·exact .inl (.inl h8)
    ·exact .inl (.inr h8)
    ·exact .inr h8
   ·rcases h9 with h9 | ⟨h9,h10⟩
    ·exact .inl h9
    ·refine .inr ⟨h9,?_⟩
     obtain ⟨k,hk⟩:∃ k,((bI ops ops[j]).1&&&(2^i|||(W&&&(2^T.length-1)))).testBit k=true:=by
      refine Classical.byContradiction fun hn=>?_
      exact h10 (Nat.eq_of_testBit_eq fun k=>by
       rw [Nat.zero_testBit]
       cases hq:((bI ops ops[j]).1&&&(2^i|||(W&&&(2^T.length-1)))).testBit k
       ·rfl
       ·exact absurd ⟨k,hq⟩ hn)
     rw [Nat.testBit_and,Bool.and_eq_true,Nat.testBit_or,Bool.or_eq_true,Nat.testBit_two_pow,decide_eq_true_eq,Nat.testBit_and,Bool.and_eq_true,Nat.testBit_two_pow_sub_one,decide_eq_true_eq] at hk
     obtain ⟨h11,h12⟩:=hk
     obtain ⟨ed,he,hb,h13⟩:=gH.1 h11
     rw [Array.any_eq_true]
     obtain ⟨q,hq,rfl⟩:=Array.getElem_of_mem he
     refine ⟨q,hq,?_⟩
     simp only [hb,Bool.true_and,Bool.or_eq_true,beq_iff_eq,Bool.and_eq_true,Nat.blt_eq]
     rcases h12 with h12 | ⟨h12,h14⟩
     ·exact .inl (by rw [h13,h12])
     ·exact .inr ⟨by rw [h13]; exact h12,by rw [h13,<- cQ hT]; exact h14⟩
 ·cases h
theorem mz (hT:bU ops=T) (hm:Nat.blt m (2^T.length)=true):Region.ready .any ops (lst ops.size m)=lJ T m:=by
 have hm' : m<2^T.length:=by simpa [Nat.blt_eq] using hm
 unfold Region.ready lJ
 rw [cQ hT]
 apply List.filter_congr
 intro j hj
 have hj' :=List.mem_range.1 hj
 have ho:ops[j]? = some ops[j]:=by simp [hj']
 have key:(j∈Region.ready .any ops (lst ops.size m))↔(m.testBit j=false/\sub (bI ops ops[j]).1 m=true):=⟨fun h=>sK hT ho h,fun ⟨h1,h2⟩=>kh hT ho h1 h2 hm'⟩
 unfold Region.ready at key
 rw [List.mem_filter] at key
 rw [eQ hT ho]
 have key2:∀ {a b:Bool},(a=true↔b=true)->a=b:=fun {a b} h=>by cases a<;>cases b<;>simp_all
 apply key2
 simp only [hj,true_and] at key
 rw [key]
 simp only [Bool.and_eq_true,Bool.not_eq_true']
 rw [cQ hT] at hm
 exact ⟨fun ⟨h1,h2⟩=>⟨h1,h2,hm⟩,fun ⟨h1,h2,_⟩=>⟨h1,h2⟩⟩
def iu (T:Lb (Nat×Nat×Nat)) (m:Nat) (rs:Lb Nat):Bool:=Nat.blt m (2^T.length)&&lJ T m==rs&&!rs.isEmpty
def se (T:Lb (Nat×Nat×Nat)) (m:Nat):Bool:=Nat.blt m (2^T.length)&&(lJ T m).isEmpty
theorem fI {rs:Lb Nat} (hT:bU ops=T) (h:iu T m rs=true):gu ops m rs=true:=by
 unfold iu at h
 simp only [Bool.and_eq_true] at h
 unfold gu
 rw [mz hT h.1.1,Bool.and_eq_true]
 exact ⟨h.1.2,h.2⟩
theorem rX (hT:bU ops=T) (h:se T m=true):Region.ready .any ops (lst ops.size m)=[]:=by
 unfold se at h
 simp only [Bool.and_eq_true] at h
 rw [mz hT h.1]
 simpa using h.2
def kS (T:Lb (Nat×Nat×Nat)) (m i m' : Nat):Bool:=Nat.blt i T.length&&m'==(m|||2^i)
theorem gT (hT:bU ops=T) (h:kS T m i m'=true):cK ops.size m i m'=true:=by
 unfold kS at h
 simp only [Bool.and_eq_true,beq_iff_eq,Nat.blt_eq] at h
 exact lL (by rw [<- cQ hT]; exact h.1) h.2
end
section
variable {P:Program} {Z:Machine->Prop} {b:Frame} {n:Nat} {ds:Lb Deferred} {cs:Lb Frame} {k:Lb Item} {σ:Lb (Nat×Vc)} {w:World} {κ:KP}
theorem MX.drawT {id:Nat} {l:Lb Oper} (t:Nat) (T:Lb (Nat×Nat×Nat)) (hT:bU l.toArray=T) (hm:P.follows .mixedOrders=true) (hp:ba l.toArray=true) (h:bU l.toArray=T->ba l.toArray=true->RD kp0 P Z b n ds cs l.toArray t l.length 0 k σ w):MX P Z b n ds cs (.code (.region id l.toArray true)::k) σ w:=MX.draw t hm hp (h hT hp)
end
section
variable {P:Program} {σ:Lb (Nat×Vc)} {w:World} {x y:Operand} {d:Oa Tmp} {t t' ty:TypeId} {ps:String} {af:Array Edge} {g:Oa (Nat×Bool)}
theorem FV.eqlB {a b:Bool} (ht:P.underlying t=some .bool) (hx:ev σ x=some (.bool a)) (hy:ev σ y=some (.bool b)):FV P ⟨d,.binOp .eql t x y t', ty,ps,af,g⟩ σ w (.bool (a==b)):=fun ρ ha w' _=>by
 have hs:(Op.equal t (.bool a) (.bool b)).run P w'=.ok (a==b) w' :=by
  unfold Op.equal; rw [show Op.maxDepth=9999+1 from rfl,Op.equalIn]; simp [run_underlying ht]
 simp [execOp,ha _ _ hx,ha _ _ hy,eqGuard,binOp,hs]
theorem FV.neqB {a b:Bool} (ht:P.underlying t=some .bool) (hx:ev σ x=some (.bool a)) (hy:ev σ y=some (.bool b)):FV P ⟨d,.binOp .neq t x y t', ty,ps,af,g⟩ σ w (.bool (!(a==b))):=fun ρ ha w' _=>by
 have hs:(Op.equal t (.bool a) (.bool b)).run P w'=.ok (a==b) w' :=by
  unfold Op.equal; rw [show Op.maxDepth=9999+1 from rfl,Op.equalIn]; simp [run_underlying ht]
 simp [execOp,ha _ _ hx,ha _ _ hy,eqGuard,binOp,hs]
end
theorem FV.neqV {P:Program} {σ:Lb (Nat×Vc)} {w:World} {x y:Operand} {d:Oa Tmp} {t t' ty:TypeId} {ps:String} {af:Array Edge} {g:Oa (Nat×Bool)} {q:Bool} {xs ys:Array Vc} (hx:ev σ x=some (.agg xs)) (hy:ev σ y=some (.agg ys)) (hg:P.eqGuardType P.depth t=false)
  (he:∀ w', (do eqGuard .eql t (.tmp 0) (.tmp 0) (.agg xs) (.agg ys); binOp .eql t (.agg xs) (.agg ys):Sem Vc).run P w'=.ok (.bool q) w'):FV P ⟨d,.binOp .neq t x y t', ty,ps,af,g⟩ σ w (.bool (!q)):=fun ρ ha w' _=>by
 have h:=he w'
 rw [Sem.run_bind,run_eqGuard_agg w' .eql t _ _ _ _ hg] at h
 simp only [Result.andThen_ok] at h
 rw [run_eql_struct] at h
 have hq:(Op.equalIn 10000 t (.agg xs) (.agg ys)).run P w'=.ok q w' :=by
  cases hr:(Op.equalIn 10000 t (.agg xs) (.agg ys)).run P w' with
  | ok b w2=>rw [hr] at h; simp only [Result.andThen_ok] at h; cases h; rfl
  | halt z w2=>rw [hr] at h; simp [Result.andThen] at h
 simp only [execOp,ha _ _ hx,ha _ _ hy]
 rw [Sem.run_bind,Sem.run_bind,run_eqGuard_agg w' .neq t _ _ _ _ hg]
 simp only [Result.andThen_ok]
 rw [run_neq_struct,hq]
 simp
end
section
open Go Go.RowKit
section
variable {P:Program} {Z:Machine->Prop} {b:Frame} {n:Nat} {ds:Lb Deferred} {cs:Lb Frame} {k:Lb Item} {σ:Lb (Nat×Vc)} {w:World} {ops:Array Oper} {T:Lb (Nat×Nat×Nat)} {t f m:Nat} {κ:KP}
def gl:Lb Nat->Lb (Nat×Vc)->Lb (Nat×Vc)
 | [],σ=>σ
 | d::ds,σ=>gl ds ((d,undef)::σ)
def mD (ops:Array Oper) (T:Lb (Nat×Nat×Nat)) (t n:Nat) (F:Lb (Nat×Bool)):Lb (Nat×Nat)->Lb Nat->Nat->Nat->Bool
 | [],_,m,m' =>m==m'
 | (i,d)::is,U,m,m' =>(match ops[i]? with
  | some ⟨some d', _,_,_,_,some (j,q)⟩=>d'==d&&Nat.blt d n&&iq T t m i (m|||2^i)&&F.all (fun p=>p.1 != d)&&(match (ops[j]?).bind (·.dst) with
   | some s=>U.contains s||F.contains (s,!q)
   | none=>false)
  | _=>false)&&mD ops T t n F is (d::U) (m|||2^i) m'
theorem RD.offs_ (hT:bU ops=T) (hp:ba ops=true) (F:Lb (Nat×Bool)):∀ (is:Lb (Nat×Nat)) (U:Lb Nat) (m m' : Nat) (σ:Lb (Nat×Vc)),mD ops T t n F is U m m'=true->is.all (fun p=>κ.free p.1)=true->(∀ p∈F,look σ p.1=some (.bool p.2))->(∀ s∈U,look σ s=some undef) ->
  RD κ P Z b n ds cs ops t f m' k (gl (is.map (·.2)) σ) w->RD κ P Z b n ds cs ops t (f+is.length) m k σ w
 | [],U,m,m', σ,hB,_,_,_,h=>by
  simp only [mD,beq_iff_eq] at hB
  subst hB
  exact h
 | (i,d)::is,U,m,m', σ,hB,hfr,hF,hU,h=>by
  rw [List.all_cons,Bool.and_eq_true] at hfr
  unfold mD at hB
  simp only [Bool.and_eq_true] at hB
  obtain ⟨h1,h2⟩:=hB
  split at h1
  ·rename_i d' op ty ps af j q hi
   simp only [Bool.and_eq_true,beq_iff_eq] at h1
   obtain ⟨⟨⟨⟨rfl,h3⟩,h4⟩,h5⟩,h6⟩:=h1
   have hw:Want ops σ (some (j,q)) false:=by
    split at h6
    ·rename_i s hs
     simp only [Bool.or_eq_true,List.contains_iff_mem] at h6
     rcases h6 with h6 | h6
     ·exact .undef hs (hU s h6)
     ·exact .no hs (hF _ h6)
    ·cases h6
   refine RD.off (kI hT h4) hi hp hw h3 (RD.offs_ hT hp F is (d'::U) _ m' _ h2 hfr.2 (fun p hpF=>?_) (fun s hs=>?_) h) hfr.1
   ·have hne:p.1≠d' :=by
     have:=List.all_eq_true.1 h5 p hpF
     simpa using this
    have:Nat.beq d' p.1=false:=by
     cases hb:Nat.beq d' p.1 with
     | false=>rfl
     | true=>exact absurd (Nat.eq_of_beq_eq_true hb).symm hne
    simp only [look,this]
    exact hF p hpF
   ·simp only [look]
    split
    ·rfl
    ·rename_i hb
     rcases List.mem_cons.1 hs with rfl | hs
     ·rw [show Nat.beq s s=true from Nat.beq_refl s] at hb; cases hb
     ·exact hU s hs
  ·cases h1
inductive AllF (σ:Lb (Nat×Vc)):Lb (Nat×Bool)->Prop
 | nil:AllF σ []
 | cons {s:Nat} {q:Bool} {F:Lb (Nat×Bool)} (h:look σ s=some (.bool q)) (t:AllF σ F):AllF σ ((s,q)::F)
theorem AllF.all {σ:Lb (Nat×Vc)} {F:Lb (Nat×Bool)} (h:AllF σ F):∀ p∈F,look σ p.1=some (.bool p.2):=by
 induction h with
 | nil=>intro p hp; cases hp
 | cons h _ ih=>
  intro p hp
  rcases List.mem_cons.1 hp with rfl | hp
  ·exact h
  ·exact ih p hp
inductive AllU (σ:Lb (Nat×Vc)):Lb Nat->Prop
 | nil:AllU σ []
 | cons {s:Nat} {U:Lb Nat} (h:look σ s=some undef) (t:AllU σ U):AllU σ (s::U)
theorem AllU.all {σ:Lb (Nat×Vc)} {U:Lb Nat} (h:AllU σ U):∀ s∈U,look σ s=some undef:=by
 induction h with
 | nil=>intro p hp; cases hp
 | cons h _ ih=>
  intro p hp
  rcases List.mem_cons.1 hp with rfl | hp
  ·exact h
  ·exact ih p hp
theorem RD.offs (m' f:Nat) {f' : Nat} (is:Lb (Nat×Nat)) {F:Lb (Nat×Bool)} {U:Lb Nat} (hT:bU ops=T) (hp:ba ops=true) (hF:AllF σ F) (hU:AllU σ U) (h:RD κ P Z b n ds cs ops t f m' k (gl (is.map (·.2)) σ) w) (hB:mD ops T t n F is U m m'=true:=by kernel_rfl) (hf:Nat.beq f' (f+is.length)=true:=by kernel_rfl) (hfr:is.all (fun p=>κ.free p.1)=true:=by rfl):RD κ P Z b n ds cs ops t f' m k σ w:=by
 have:=RD.offs_ hT hp F is U m m' σ hB hfr hF.all hU.all h
 rwa [<- Nat.eq_of_beq_eq_true hf] at this
variable {i d:Nat} {op:Op} {ty:TypeId} {ps:String} {af:Array Edge} {g:Oa (Nat×Bool)} {v:Vc}
theorem RD.vP (i m' : Nat) (hT:bU ops=T) (hi:ops[i]? = some ⟨some d,op,ty,ps,af,g⟩) (hp:ba ops=true) (hg:Want ops σ g true) (hq:∀ w,FV P ⟨some d,op,ty,ps,af,g⟩ σ w v) (hd:Nat.blt d n=true)
  (h:RD κ P Z b n ds cs ops t f m' k ((d,v)::σ) w) (hB:iq T t m i m'=true:=by kernel_rfl) (hfr:κ.free i=true:=by rfl):RD κ P Z b n ds cs ops t (f+1) m k σ w:=RD.valP (kI hT hB) hi hp hg hq hd h hfr
end
section
variable {P:Program} {Z:Machine->Prop} {b:Frame} {n:Nat} {ds:Lb Deferred} {cs:Lb Frame} {k:Lb Item} {σ:Lb (Nat×Vc)} {w:World} {ops:Array Oper} {l:Lb Oper}
theorem RG.doesH {d:Nat} {op:Op} {ty:TypeId} {ps:String} {af:Array Edge} {g:Oa (Nat×Bool)} {Q:Vc->World->Prop} (hg:Want ops σ g true) (hd:Nat.blt d n=true) (D:Does P ⟨some d,op,ty,ps,af,g⟩ σ w Q) (h:∀ u w1,Q u w1->RG P Z b n ds cs ops l k ((d,u)::σ) w1):RG P Z b n ds cs ops (⟨some d,op,ty,ps,af,g⟩::l) k σ w:=
 RG.doesL hg hd (fun ρ ha w' hw=>let ⟨u,w1,h1,_,h2⟩:=D ρ ha w' hw; ⟨u,w1,h1,h2⟩) h
end
section
variable {α:Type} [Rep α] {P:Program} {σ:Lb (Nat×Vc)} {w w0:World} {O:Lb Ob} {x:Operand} {t ty e bytes:Nat} {z:Vc} {zc:Lb Vc} {dd:Oa Tmp} {ps:String} {af:Array Edge} {g:Oa (Nat×Bool)} {xs:Lb α}
theorem Does.mkH {L:Lb Nat} {mi:Int} {x0:α} (hmk:Go.Proofs.YtkimkkgicmipbaaGreatDoor.mk mi x0=some xs) (s:St w0 w O) (el:ElT P t e (Rep.size α) bytes z zc) (hx:ev σ x=some (.int .i64 mi)) (hr:∀ w L,Rep.R w L zc x0) :
  Does P ⟨dd,.makeSlice t x x,ty,ps,af,g⟩ σ w (Apps w0 w O L (fun v cs=>.row w0.heap.size e (Rep.size α) v xs.length cs::O) xs):=fun ρ ha w' hw=>by
 obtain ⟨u,w1,h1,h2,b', rfl,h3,h4⟩:=Does.mk (dd:=dd) (ty:=ty) (ps:=ps) (af:=af) (g:=g) hmk s el hx ρ ha w' hw
 exact ⟨_,w1,h1,h2,_,h3,h4,Cells.mk hmk (hr _ _)⟩
end
end
section
open Go Go.RowKit
/- Equality of tuples of words: the search for instances is short. -/
instance:DecidableEq (UInt64×UInt64×UInt64):=inferInstance
instance:DecidableEq (UInt64×UInt64×UInt64×UInt64):=inferInstance
instance:DecidableEq (UInt64×UInt64×UInt64×UInt64×UInt64):=inferInstance
instance:DecidableEq (UInt64×UInt64×UInt64×UInt64×UInt64×UInt64):=inferInstance
instance:DecidableEq (UInt64×UInt64×UInt64×UInt64×UInt64×UInt64×UInt64):=inferInstance
instance:DecidableEq (UInt64×UInt64×UInt64×UInt64×UInt64×UInt64×UInt64×UInt64):=inferInstance
def shlS (x:Int) (k:Nat):Int:=IntKind.i64.wrap (x*2^(min k 64))
section
variable {P:Program} {σ:Lb (Nat×Vc)} {w:World} {x y:Operand} {d:Oa Tmp} {t t' ty e:TypeId} {ps:String} {af:Array Edge} {g:Oa (Nat×Bool)}
theorem FV.shlS {k:IntKind} {i:Int} {j:Nat} (hx:ev σ x=some (.int .i64 i)) (hy:ev σ y=some (.int k ((j:Nat):Int))):FV P ⟨d,.binOp .shl t x y t', ty,ps,af,g⟩ σ w (.int .i64 (Proofs.YtkimkkgicmipbaaGreatDoor.shlS i j)):=fun ρ ha w' _=>by
 have hs:(Op.shift .shl .i64 i k (j:Int)).run P w'=.ok (.int .i64 (Proofs.YtkimkkgicmipbaaGreatDoor.shlS i j)) w' :=by
  unfold Op.shift Proofs.YtkimkkgicmipbaaGreatDoor.shlS; rw [if_neg (by omega)]; simp [IntKind.bits]
 simp [execOp,ha _ _ hx,ha _ _ hy,eqGuard,binOp,hs]
theorem FV.shlSI {k:IntKind} {i q:Int} {j:Nat} (hx:ev σ x=some (.int .i64 i)) (hy:ev σ y=some (.int k q)) (hj:bb q=some j):FV P ⟨d,.binOp .shl t x y t', ty,ps,af,g⟩ σ w (.int .i64 (Proofs.YtkimkkgicmipbaaGreatDoor.shlS i j)):=FV.shlS hx (by rw [hy,<- kj hj])
theorem pJ {A:Oa Addr} {n c:Nat} (ht:P.underlying t=some (.slice e)) (w' : World):(Op.equal t (.slice A n c) (.slice none 0 0)).run P w'=.ok A.isNone w' :=by
 unfold Op.equal
 rw [show Op.maxDepth=9999+1 from I,Op.equalIn,Sem.run_bind,run_underlying ht w']
 cases A<;>rfl
theorem FV.eqlNil {A:Oa Addr} {n c:Nat} (ht:P.underlying t=some (.slice e)) (hx:ev σ x=some (.slice A n c)) (hy:ev σ y=some (.slice none 0 0)):FV P ⟨d,.binOp .eql t x y t', ty,ps,af,g⟩ σ w (.bool A.isNone):=fun ρ ha w' _=>by
 have h:=pJ (n:=n) (c:=c) (A:=A) ht w'
 simp only [execOp,ha _ _ hx,ha _ _ hy,Sem.run_bind,eqGuard,binOp]
 simp
 exact (congrArg (fun z=>Result.andThen (Result.andThen z _) _) h).trans (by cases A<;>rfl)
end
theorem Rep.nilOr {α:Type} [Rep α] {w:World} {L:Lb Nat} {v:Vc} {xs:Lb α} (h:Rep.R w L [v] xs):(∃ c,v=.slice none 0 c/\xs=[])∨∃ ad c,v=.slice (some ad) xs.length c:=by
 obtain ⟨A,c,e,_,_,_,hE⟩:=h
 cases e
 cases A with
 | some ad=>exact .inr ⟨ad,c,rfl⟩
 | none=>
  cases xs with
  | nil=>exact .inl ⟨c,rfl,rfl⟩
  | cons x xs=>obtain ⟨ad,h,_⟩:=hE 0 (by simp); cases h
theorem cW {α:Type} (f:α->Vc) {xs:Lb α} {i:Nat} {x:α} (h:xs[i]? = some x):(xs.map f)[i*1]? = some (f x):=by rw [Nat.mul_one,List.getElem?_map,h]; rfl
theorem dj {α:Type} {xs:Lb α} {i m:Nat} {x:α} (h:xs[i]? = some x) (hl:xs.length=m):i<m:=by rw [<- hl]; exact (List.getElem?_eq_some_iff.1 h).1
/-! ### Arrays at a variable -/
section
variable {P:Program} {σ:Lb (Nat×Vc)} {w w0:World} {x y:Operand} {d:Oa Tmp} {t t' ty e:TypeId} {ps:String} {af:Array Edge} {g:Oa (Nat×Bool)} {O O' : Lb Ob}
theorem bY {p:Addr} {cs:Lb Vc} {i:Nat} {v:Vc} (h:∀ j u,cs[j]? = some u->w.cell? (p.add j)=some u) (hi:cs[i*1]? = some v):∀ j u,([v]:Lb Vc)[j]? = some u->w.cell? ((p.add (i*1)).add j)=some u:=by
 intro j u hu
 cases j with
 | zero=>cases hu; rw [cp]; exact h _ _ (by simpa using hi)
 | succ j=>cases hu
def bf {α:Type} (i j:Nat) (x o:α):α:=if i=j then x else o
def eL {α:Type} (i:Nat) (x:α):Nat->Lb α->Lb α
 | _,[]=>[]
 | j,o::xs=>bf i j x o::eL i x (j+1) xs
theorem lj {α:Type} (i:Nat) (x:α):∀ (j:Nat) (xs:Lb α) (k:Nat),(eL i x j xs)[k]? = if i=j+k/\k<xs.length then some x else xs[k]?
 | _,[],k=>by simp [eL]
 | j,o::xs,0=>by simp only [eL,bf,List.getElem?_cons_zero,Nat.add_zero,List.length_cons,Nat.zero_lt_succ,and_true]; split<;>rfl
 | j,o::xs,k+1=>by
  rw [eL,List.getElem?_cons_succ,lj i x (j+1) xs k,List.getElem?_cons_succ,List.length_cons,show j+1+k=j+(k+1) by omega]
  simp only [Nat.succ_lt_succ_iff]
theorem kK {α β:Type} (f:α->β) (i:Nat) (x:α):∀ (j:Nat) (xs:Lb α),(eL i x j xs).map f=eL i (f x) j (xs.map f)
 | _,[]=>rfl
 | j,o::xs=>by simp only [eL,List.map_cons,kK f i x (j+1) xs]; congr 1; unfold bf; split<;>rfl
theorem qo {α:Type} (i:Nat) (x:α) (xs:Lb α) (h:i<xs.length):eL i x 0 xs=xs.take i++[x]++xs.drop (i+1):=by
 apply List.ext_getElem?
 intro k
 rw [lj,Nat.zero_add]
 split
 ·rename_i h2; obtain ⟨rfl,_⟩:=h2
  rw [List.append_assoc,List.getElem?_append_right (by rw [List.length_take]; omega),List.length_take,Nat.min_eq_left (by omega),Nat.sub_self]; rfl
 ·rename_i h2
  rcases Nat.lt_trichotomy k i with hk | hk | hk
  ·rw [List.append_assoc,List.getElem?_append_left (by rw [List.length_take]; omega),List.getElem?_take_of_lt hk]
  ·subst hk; exact absurd ⟨rfl,h⟩ h2
  ·rw [List.getElem?_append_right (by rw [List.length_append,List.length_take]; simp; omega),List.getElem?_drop]
   congr 1; rw [List.length_append,List.length_take,Nat.min_eq_left (by omega)]; simp; omega
theorem arr_set {α:Type} (f:α->Vc) {xs:Lb α} {pre post:Lb Vc} {i m m' : Nat} {x:α} (hl:xs.length=m) (hm:pre.length=m') (hi:i<m) :
  (pre++xs.map f++post).take (m'+i)++[f x]++(pre++xs.map f++post).drop (m'+i+([f x]:Lb Vc).length)=pre++(eL i x 0 xs).map f++post:=by
 rw [kK,qo i (f x) (xs.map f) (by rw [List.length_map]; omega)]
 subst hm
 rw [List.append_assoc pre,List.take_length_add_append,List.take_append_of_le_length (by rw [List.length_map]; omega)]
 rw [List.length_singleton,Nat.add_assoc,List.drop_length_add_append,List.drop_append_of_le_length (by rw [List.length_map]; omega)]
 simp [List.append_assoc]
theorem FV.len_map {κ ν:Type} [Enc κ] [Enc ν] {kt et:TypeId} {bk:Nat} {D:Lb (κ×ν)} (s:St w0 w O) (u:At O (.obj bk (ab D))) (ht:P.underlying t=some (.map kt et)) (hx:ev σ x=some (.map (some bk))) :
  FV P ⟨d,.call { callee:=.builtin .len,args:=#[x],argTypes:=#[t] },ty,ps,af,g⟩ σ w (.int .i64 (D.length:Int)):=fun ρ ha w' hw=>by
 have hb:=aJ hw (s.get u.upd)
 have hget:(getObj bk).run P w'=.ok (ab D) w' :=by simp [getObj,Sem.run,hb,ab]
 simp only [execOp,resolve,invoke,builtin,Builtin.len_,List.map_toArray,List.map_cons,List.map_nil,ha _ _ hx]
 simp [run_underlying ht,hget,ab,goInt]
theorem FV.lookup2 {κ ν:Type} [Enc κ] [Enc ν] [DecidableEq κ] [MKey κ] {t kt et:TypeId} {kd:TypeDesc} {xm xk:Operand} {dd:Oa Tmp} {bk:Nat} {D:Lb (κ×ν)} {kv:κ} {z:ν} (s:St w0 w O) (u:At O (.obj bk (ab D))) (hm:P.underlying t=some (.map kt et)) (ht:P.underlying kt=some kd) (hk:MKey.kind κ kd=true)
  (hz:(P.info? et).bind (·.zero)=some (Enc.enc z)) (h1:ev σ xm=some (.map (some bk))) (h2:ev σ xk=some (Enc.enc kv)):FV P ⟨dd,.lookup t xm xk true,ty,ps,af,g⟩ σ w (.tuple #[Enc.enc (ap D kv z),.bool (aP D kv).isSome]):=by
 intro ρ ha w' hw
 have hb:=aJ hw (s.get u.upd)
 have hget:(getObj bk).run P w'=.ok (ab D) w' :=by simp [getObj,Sem.run,hb,ab]
 have hzero:(zeroValue et).run P w'=.ok (Enc.enc z) w' :=by
  cases hi:P.info? et with
  | none=>rw [hi] at hz; cases hz
  | some i=>rw [hi] at hz; simp at hz; simp [zeroValue,typeInfo,hi,hz]
 simp only [execOp,ha _ _ h1,ha _ _ h2,Instr.lookup,Sem.run_bind,run_underlying hm,Result.andThen_ok,hget,db,Sem.run_pure,dc (κ:=κ) _ ht hk,dH ht hk]
 unfold ap
 rw [dy kv D 0]
 cases hf:cd D kv 0 with
 | none=>simp [hzero]
 | some r=>obtain ⟨m,u'⟩:=r; simp
end
section
variable {P:Program} {σ:Lb (Nat×Vc)} {w w0:World} {x y:Operand} {d:Oa Tmp} {t t' ty e:TypeId} {ps:String} {af:Array Edge} {g:Oa (Nat×Bool)} {O O' : Lb Ob} {v:Vc}
theorem pC (b o i:Nat):((⟨b,o,none⟩:Addr).add (i*1))=⟨b,o+i,none⟩:=by
 unfold Addr.add; split
 ·rename_i h; simp at h; subst h; rfl
 ·simp
theorem Acts.storeArr {α:Type} (f:α->Vc) {xs:Lb α} {pre post old new' : Lb Vc} {i m m' bk:Nat} {x:α} {p:Addr} {e:TypeId} {dd:Oa Tmp} {xo yo:Operand} (hl:xs.length=m) (hm:pre.length=m') (hi:i<m) (s:St w0 w O) (u:Upd O (.cells bk old e) (.cells bk new' e) O') (hx:ev σ xo=some (.pointer (some p))) (hp:p=⟨bk,m'+i,none⟩) (hy:ev σ yo=some (f x)) (hs:dS P t 1=true)
  (h1:∀ x,(f x).cells=#[f x]/\(f x).oneCell'=true) (ho:old=pre++xs.map f++post) (hn:new'=pre++(eL i x 0 xs).map f++post):Acts P ⟨dd,.store t xo yo,ty,ps,af,g⟩ σ w (Now w0 w O O'):=
 Acts.store (j:=m'+i) (news:=[f x]) s u hx hp hy (h1 x).1 hs (by rw [ho,Nat.ble_eq]; simp only [List.length_append,List.length_map,List.length_singleton]; omega) (by intro u hu; simp only [List.mem_singleton] at hu; subst hu; exact (h1 x).2) (by rw [ho,hn]; exact arr_set f hl hm hi)
theorem FV.eqlNil1 {c:Nat} (ht:P.underlying t=some (.slice e)) (hx:ev σ x=some v) (he:v=.slice none 0 c) (hy:ev σ y=some (.slice none 0 0)):FV P ⟨d,.binOp .eql t x y t', ty,ps,af,g⟩ σ w (.bool true):=FV.eqlNil ht (by rw [hx,he]) hy
theorem FV.eqlNil0 {ad:Addr} {n c:Nat} (ht:P.underlying t=some (.slice e)) (hx:ev σ x=some v) (he:v=.slice (some ad) n c) (hy:ev σ y=some (.slice none 0 0)):FV P ⟨d,.binOp .eql t x y t', ty,ps,af,g⟩ σ w (.bool false):=FV.eqlNil ht (by rw [hx,he]) hy
end
def ce {α β:Type} [DecidableEq β] (xs:Lb α) (B A:Oa β):Oa β:=if xs.isEmpty then (if A=B then A else none) else A
theorem fU {α β:Type} [DecidableEq β] {xs:Lb α} {B A:Oa β} {r:β} (h:ce xs B A=some r) (hx:xs=[]):B=some r:=by
 subst hx
 unfold ce at h
 simp only [List.isEmpty_nil,if_true] at h
 split at h
 ·rename_i e; rw [<- e]; exact h
 ·cases h
theorem fT {α β:Type} [DecidableEq β] {xs:Lb α} {B A:Oa β} {r:β} (h:ce xs B A=some r):A=some r:=by
 unfold ce at h
 split at h
 ·split at h
  ·exact h
  ·cases h
 ·exact h
theorem bE {a b:Ua} (h:(a.toNat:Int)=b.toNat):a=b:=UInt64.toNat_inj.1 (by omega)
/-! ### Equality of structs and arrays -/
def veq:Vc->Vc->Bool
 | .int _ a,.int _ b=>a==b
 | .bool a,.bool b=>a==b
 | .string a,.string b=>a.toList==b.toList
 | _,_=>false
def bH:Lb Vc->Lb Vc->Bool
 | x::xs,y::ys=>veq x y&&bH xs ys
 | _,_=>true
def leafD:TypeDesc->Bool
 | .int _=>true
 | .bool=>true
 | .string=>true
 | _=>false
def fit1:TypeDesc->Vc->Bool
 | .int k,.int k' _=>k==k'
 | .bool,.bool _=>true
 | .string,.string _=>true
 | _,_=>false
def ee:Lb TypeDesc->Lb Vc->Bool
 | [],[]=>true
 | k::ks,v::vs=>fit1 k v&&ee ks vs
 | _,_=>false
theorem bP:∀ {ks:Lb TypeDesc} {vs:Lb Vc},ee ks vs=true->vs.length=ks.length
 | [],[],_=>rfl
 | [],_::_,h=>by cases h
 | _::_,[],h=>by cases h
 | k::ks,v::vs,h=>by rw [ee,Bool.and_eq_true] at h; simp [bP h.2]
theorem eI:∀ {ks ls:Lb TypeDesc} {vs:Lb Vc},ee (ks++ls) vs=true->∃ xs ys,vs=xs++ys/\ee ks xs=true/\ee ls ys=true
 | [],_,vs,h=>⟨[],vs,rfl,rfl,h⟩
 | k::ks,ls,[],h=>by cases h
 | k::ks,ls,v::vs,h=>by
  rw [List.cons_append,ee,Bool.and_eq_true] at h
  obtain ⟨xs,ys,rfl,h1,h2⟩:=eI h.2
  exact ⟨v::xs,ys,rfl,by rw [ee,h.1,h1]; rfl,h2⟩
theorem ie:∀ {xs xs' ys ys' : Lb Vc},xs.length=xs'.length->bH (xs++ys) (xs'++ys')=(bH xs xs'&&bH ys ys')
 | [],[],_,_,_=>by simp [bH]
 | [],_::_,_,_,h=>by cases h
 | _::_,[],_,_,h=>by cases h
 | x::xs,y::ys,_,_,h=>by simp only [List.cons_append,bH]; rw [ie (by simpa using h),Bool.and_assoc]
def qr (P:Program) (f:TypeId->Oa (Lb TypeDesc)):Nat->Lb (TypeId×Nat)->Oa (Lb TypeDesc)
 | _,[]=>some []
 | o,(e,o')::r=>if o=o' then (match f e with
  | some ks=>if P.cellsOf e=ks.length&&(P.underlying e).isSome then (qr P f (o+ks.length) r).map (ks++·) else none
  | none=>none) else none
def kC (P:Program):Nat->TypeId->Oa (Lb TypeDesc)
 | 0,_=>none
 | d+1,t=>match P.underlying t with
  | some (.array n e)=>if n=0 then none else qr P (kC P d) 0 ((List.range n).map fun i=>(e,i*P.cellsOf e))
  | some (.struct fs) => if P.stoodInHeld t || fs.toList.any (fun f => f.name == "_") then none else qr P (kC P d) 0 (fs.toList.map fun f => (f.type, f.offset))
  | some k=>if leafD k then some [k] else none
  | none=>none
def em (P:Program) (t:TypeId):Bool:=match P.underlying t with
 | some (.array _ _)=>true
 | some (.struct _)=>true
 | _=>false
def asV (P:Program) (t:TypeId) (xs:Lb Vc):Vc:=if em P t then .agg xs.toArray else xs.headD undef
section
variable {P:Program}
def oF (d:Nat) (xs ys:Array Vc):Lb (TypeId×Nat)->Sem Bool
 | []=>pure true
 | (e,o)::r=>do
  let a <- part e xs o
  let b <- part e ys o
  let q <- Op.equalIn d e a b
  if (!q)=true then pure false else oF d xs ys r
theorem jP (d:Nat) (e:TypeId) (c:Nat) (xs ys:Array Vc):∀ is:Lb Nat,Op.eqItems d e c xs ys is=oF d xs ys (is.map fun i=>(e,i*c))
 | []=>rfl
 | i::is=>by simp only [Op.eqItems,oF,List.map_cons,jP d e c xs ys is]
theorem iO (d : Nat) (xs ys : Array Value) : ∀ fs : List Field, fs.any (fun f => f.name == "_") = false → Op.eqFields d xs ys fs = oF d xs ys (fs.map fun f => (f.type, f.offset))
 | [],_=>rfl
 | f::fs,h=>by
  rw [List.any_cons,Bool.or_eq_false_iff] at h
  simp only [Op.eqFields,oF,List.map_cons,iO d xs ys fs h.2]
  rw [if_pos (by simpa using h.1)]
theorem gU {e:TypeId} {pre X Y:Lb Vc} {o c:Nat} (ho:pre.length=o) (hc:P.cellsOf e=c) (hX:X.length=c) (hi:(P.underlying e).isSome=true) (h1:em P e=false->c=1) (w:World):(part e (pre++(X++Y)).toArray o).run P w=.ok (asV P e X) w:=by
 obtain ⟨u,hu⟩:=Option.isSome_iff_exists.1 hi
 obtain ⟨i,hi⟩:=info_of_underlying hu
 subst ho
 unfold asV
 cases ha:em P e with
 | false=>
  have hagg:(isAgg e).run P w=.ok false w:=by
   unfold em at ha
   unfold isAgg
   rw [hu] at ha; rw [Sem.run_bind,run_underlying hu w]; cases u<;>simp_all
  have hX1:X.length=1:=by rw [hX,h1 ha]
  obtain ⟨x,rfl⟩:=List.length_eq_one_iff.1 hX1
  simp [part,hagg]
 | true=>
  have hagg:(isAgg e).run P w=.ok true w:=by
   unfold em at ha
   unfold isAgg
   rw [hu] at ha; rw [Sem.run_bind,run_underlying hu w]; cases u<;>simp_all
  simp only [part,Sem.run_bind,hagg,Result.andThen_ok,if_true,run_sizeOf w hi,hc,Sem.run_pure]
  congr 2
  apply Array.ext'
  rw [<- hX]
  simp
theorem mm {f:TypeId->Oa (Lb TypeDesc)} {d:Nat} (IH:∀ e ks,f e=some ks->(em P e=false->ks.length=1)/\∀ X Y,ee ks X=true->ee ks Y=true->∀ w,(Op.equalIn d e (asV P e X) (asV P e Y)).run P w=.ok (bH X Y) w) :
  ∀ (segs:Lb (TypeId×Nat)) (o:Nat) (ks:Lb TypeDesc),qr P f o segs=some ks->∀ (pre pre' X Y:Lb Vc),pre.length=o->pre'.length=o->ee ks X=true->ee ks Y=true->∀ w,(oF d (pre++X).toArray (pre'++Y).toArray segs).run P w=.ok (bH X Y) w
 | [],o,ks,h,pre,pre', X,Y,_,_,hX,hY,w=>by
  cases h
  have h1:=bP hX
  have h2:=bP hY
  obtain rfl:=List.eq_nil_of_length_eq_zero h1
  obtain rfl:=List.eq_nil_of_length_eq_zero h2
  rfl
 | (e,o')::r,o,ks,h,pre,pre', X,Y,h1,h2,hX,hY,w=>by
  rw [qr] at h
  split at h
  ·rename_i ho
   subst ho
   split at h
   ·rename_i k1 hk1
    split at h
    ·rename_i hc
     rw [Bool.and_eq_true] at hc
     obtain ⟨k2,hk2,rfl⟩:=Option.map_eq_some_iff.1 h
     obtain ⟨X1,X2,rfl,hX1,hX2⟩:=eI hX
     obtain ⟨Y1,Y2,rfl,hY1,hY2⟩:=eI hY
     have hl1:=bP hX1
     have hl2:=bP hY1
     obtain ⟨i1,i2⟩:=IH e k1 hk1
     have hc1:P.cellsOf e=k1.length:=by simpa using hc.1
     simp only [oF,Sem.run_bind]
     rw [gU h1 hc1 hl1 hc.2 i1 w]
     simp only [Result.andThen_ok]
     rw [gU h2 hc1 hl2 hc.2 i1 w]
     simp only [Result.andThen_ok]
     rw [i2 X1 Y1 hX1 hY1 w]
     simp only [Result.andThen_ok]
     rw [ie (by rw [hl1,hl2])]
     have hrest:=mm IH r (o+k1.length) k2 hk2 (pre++X1) (pre'++Y1) X2 Y2 (by rw [List.length_append]; omega) (by rw [List.length_append]; omega) hX2 hY2 w
     rw [List.append_assoc,List.append_assoc] at hrest
     cases bH X1 Y1
     ·simp
     ·simpa using hrest
    ·cases h
   ·cases h
  ·cases h
theorem gY:∀ (d D:Nat) (t:TypeId) (ks:Lb TypeDesc),kC P d t=some ks->(em P t=false->ks.length=1)/\∀ X Y,ee ks X=true->ee ks Y=true->∀ w,(Op.equalIn (D+d) t (asV P t X) (asV P t Y)).run P w=.ok (bH X Y) w
 | 0,_,_,_,h=>by cases h
 | d+1,D,t,ks,h=>by
  rw [kC] at h
  split at h
  ·rename_i n e hu
   have h0:=h
   rw [if_neg (by rintro rfl; cases h0)] at h
   refine ⟨fun ha=>by simp [em,hu] at ha,fun X Y hX hY w=>?_⟩
   have hagg:em P t=true:=by simp [em,hu]
   have hseg:=mm (d:=D+d) (gY d D) _ 0 ks h [] [] X Y I I hX hY w
   cases n with
   | zero=>cases h0
   | succ n=>
    have hi:∃ i,P.info? e=some i:=by
     rw [List.range_succ_eq_map,List.map_cons,qr] at h
     simp only [Nat.zero_mul,if_true] at h
     split at h
     ·split at h
      ·rename_i hc; rw [Bool.and_eq_true] at hc; obtain ⟨u9,hu9⟩:=Option.isSome_iff_exists.1 hc.2; exact info_of_underlying hu9
      ·cases h
     ·cases h
    obtain ⟨i,hi⟩:=hi
    simp only [asV,hagg,if_true]
    rw [<- Nat.add_assoc,run_equalIn_array w (D+d) _ _ hu hi,jP]
    simpa using hseg
  ·rename_i fs hu
   split at h
   ·cases h
   ·rename_i hn
    have hn' : (P.stoodInHeld t || fs.toList.any (fun f => f.name == "_")) = false := by simpa using hn
    rw [Bool.or_eq_false_iff] at hn'
    refine ⟨fun ha=>by simp [em,hu] at ha,fun X Y hX hY w=>?_⟩
    have hagg:em P t=true:=by simp [em,hu]
    have hseg:=mm (d:=D+d) (gY d D) _ 0 ks h [] [] X Y I I hX hY w
    have hf:P.fieldsOf t=fs:=by unfold Program.fieldsOf; rw [hu]
    simp only [asV,hagg,if_true]
    rw [<- Nat.add_assoc,run_equalIn_struct w (D+d) t _ _ (by rw [hf]; exact hu) hn'.1,hf,iO _ _ _ _ hn'.2]
    simpa using hseg
  ·rename_i k hna hns hu
   split at h
   ·rename_i hl
    cases h
    have hagg:em P t=false:=by
     unfold em; rw [hu]; cases k<;>first | rfl | (cases hl; done)
    refine ⟨fun _=>rfl,fun X Y hX hY w=>?_⟩
    obtain ⟨x,rfl⟩:=List.length_eq_one_iff.1 (bP hX)
    obtain ⟨y,rfl⟩:=List.length_eq_one_iff.1 (bP hY)
    simp only [ee,Bool.and_true] at hX hY
    simp only [asV,hagg,Bool.false_eq_true,if_false,List.headD_cons,bH,Bool.and_true]
    rw [<- Nat.add_assoc]
    cases k<;>first | (cases hl; done) | skip
    all_goals (cases x<;>first | (cases hX; done) | skip)
    all_goals (cases y<;>first | (cases hY; done) | skip)
    all_goals simp only [veq]
    ·exact run_equalIn_bool w _ t _ _ hu
    ·simp only [fit1,beq_iff_eq] at hX hY
     subst hX; subst hY
     exact run_equalIn_int w _ t _ _ _ _ hu
    ·exact run_equalIn_string w _ t _ _ hu
   ·cases h
  ·cases h
theorem eqAgg {t:TypeId} {ks:Lb TypeDesc} {xs ys:Lb Vc} {q:Prop} [Decidable q] (hl:kC P 10 t=some ks) (ha:em P t=true) (hg:P.eqGuardType P.depth t=false) (hX:ee ks xs=true) (hY:ee ks ys=true) (hq:bH xs ys=true↔q) (x y:Operand) (w9:World) :
  (do eqGuard .eql t x y (.agg xs.toArray) (.agg ys.toArray); binOp .eql t (.agg xs.toArray) (.agg ys.toArray):Sem Vc).run P w9=.ok (.bool (decide q)) w9:=by
 have h:=(gY 10 9990 t ks hl).2 xs ys hX hY w9
 simp only [asV,ha,if_true] at h
 rw [Sem.run_bind,run_eqGuard_agg w9 .eql t x y _ _ hg]
 simp only [Result.andThen_ok]
 rw [run_eql_struct]
 rw [show (10000:Nat)=9990+10 from I,h]
 simp only [Result.andThen_ok]
 have hh:bH xs ys=decide q:=by
  by_cases hh:q
  ·rw [decide_eq_true hh]; exact hq.2 hh
  ·rw [decide_eq_false hh]
   cases h2:bH xs ys
   ·rfl
   ·exact absurd (hq.1 h2) hh
 rw [hh]
end
end
section
open Go Go.RowKit
def PanOK (P:Program) (Z:Machine->Prop) (f:FuncId) (cs:Lb Frame) (Y:Lb PanicEntry->World->Prop):Prop:=∀ ch w1 w' fr,Y ch w1->Agree [] w1 w'->fr.fn=f->fr.leaving P w' (.panicked ch)->Reach P Z (lone fr cs w')
section
variable {P:Program} {Z:Machine->Prop} {b:Frame} {n:Nat} {ds:Lb Deferred} {cs:Lb Frame} {k:Lb Item} {σ τ:Lb (Nat×Vc)} {w w0:World} {ops:Array Oper} {l:Lb Oper} {o:Oper} {d:Nat} {ty:TypeId} {ps:String} {af:Array Edge} {v:Vc} {x y:Operand} {t:TypeId} {O O' : Lb Ob} {g:Oa (Nat×Bool)} {ch:Lb PanicEntry} {κ:KP}
theorem PanOK.of_pn {f:FuncId} {a:Act} {todo:Lb Item} {Y:Lb PanicEntry->World->Prop} (ha:Fr n ds σ a) (h:∀ ch w1,Y ch w1->PN P Z b n ds cs ch σ w1):PanOK P Z f (b.atR a todo::cs) Y:=fun ch w1 w' fr hy hw _ hl=>.step (step_leave_panicked hl) (by rw [Frame.raise_atR]; exact h ch w1 hy a w' todo ha hw)
/-! ### The panic -/
/-! ### Calls that may panic -/
theorem RG.enterP {f:FuncId} {fn:Func} {body:Code} {m:Nat} {c:Operand} {fst cap:Lb Vc} {xs:Lb Operand} {vs:Lb Vc} {ts:Array TypeId} (hg:Want ops σ g true) (hf:cr P f=true) (hfn:P.funcs[f]? = some fn) (hb:fn.body=some body) (hm:fn.ntmps=m) (hl:Nat.ble (fst++vs++cap).length m=true)
  (hcal:ev σ c=some (.func (.func f) fst.toArray cap.toArray)) (hv:evs σ xs vs) (hd:Nat.blt d n=true)
  (h:∀ cs', RetOK P Z f cs' (fun v w1=>RG P Z b n ds cs ops l k ((d,v)::σ) w1)->PanOK P Z f cs' (fun ch w1=>PN P Z b n ds cs ch σ w1)->MX P Z (fb f .normal none) m [] cs' [.code body] (args 0 (fst++vs++cap)) w) :
  RG P Z b n ds cs ops (⟨some d,.call { callee:=.value c,args:=xs.toArray,argTypes:=ts },ty,ps,af,g⟩::l) k σ w:=by
 intro i hi a w' ha hw
 obtain ⟨h1,h2⟩:=bL hi
 rw [List.length_cons,List.range'_succ]
 have he:=cN (P:=P) (ty:=ty) (ps:=ps) (af:=af) (g:=g) (dd:=some d) (ts:=ts) hf (ρ:=a.eval) (ha.ev hcal) (vs:=vs.toArray) (xs:=xs.toArray) (by rw [List.map_toArray,bO (fun x u hx=>ha.ev hx) hv]) w'
 refine .step (cJ (cm hi) (hg.eq ha) (by rw [dp]; exact he)) ?_
 simp only [List.append_toArray]
 rw [fO .normal hfn hb,hm]
 refine h _ (.of_back fun u w1 w2 hx hag=>?_) (.of_pn ha fun ch w1 hy=>hy) _ _ (jh hl) hw
 rw [Frame.finish_atR,cm hi]
 exact hx (i+1) h2 _ _ (ha.put d u hd) hag
structure RecF (r:Loop) (n:Nat) (σ:List (Nat×Value)) (ps:List Tmp) (assign body:Code) (fd:FuncId):Prop where
 rc:Rec r n σ ps assign body
 fn:r.fn=fd
theorem RG.yieldP {c:Operand} {lk nL:Nat} {r:Loop} {fd:FuncId} {σL:Lb (Nat×Vc)} {pt:Lb Tmp} {assign body:Code} {xs:Lb Operand} {vs:Lb Vc} {ts:Array TypeId} (hg:Want ops σ g true) (hcal:ev σ c=some (.func (.yield lk) #[] #[])) (hv:evs σ xs vs) (s:St w0 w O) (u:At O (.obj lk (lpO r .ready none))) (rc:RecF r nL σL pt assign body fd)
  (hlen:Nat.beq vs.length pt.length=true) (hp:pt.all (fun p=>Nat.blt p nL)=true) (hd:Nat.blt d n=true)
  (h:∀ fr,Back P Z fr cs (fun v w1=>RG P Z b n ds cs ops l k ((d,v)::σ) w1)->PanOK P Z fd (fr::cs) (fun ch w1=>PN P Z b n ds cs ch σ w1)->MX P Z (fb fd .normal (some lk)) nL [] (fr::cs) [.code assign,.beginRound,.code body] (puts pt vs σL) w) :
  RG P Z b n ds cs ops (⟨some d,.call { callee:=.value c,args:=xs.toArray,argTypes:=ts },ty,ps,af,g⟩::l) k σ w:=by
 obtain ⟨rc,e9⟩:=rc; subst e9
 intro i hi a w' ha hw
 obtain ⟨h1,h2⟩:=bL hi
 have hlen:vs.length=pt.length:=Nat.eq_of_beq_eq_true hlen
 rw [List.length_cons,List.range'_succ]
 have hy:=run_yield (P:=P) (args:=vs.toArray) (r:={ r with state:=.ready,pending:=none }) (aJ hw (s.get u.upd)) (by simp [rc.params,hlen])
 have he:(execOp a.eval ⟨some d,.call { callee:=.value c,args:=xs.toArray,argTypes:=ts },ty,ps,af,g⟩).run P w'=.ok (.round lk r.fn ((pt.zip vs).foldl (fun t (p,v)=>t.setIfInBounds p v) r.tmps) assign body) w' :=by
  have hmap:xs.toArray.map a.eval=vs.toArray:=by rw [List.map_toArray,bO (fun x u hx=>ha.ev hx) hv]
  simp only [execOp,resolve,hmap,ha.ev hcal]
  simp [Deferred.ofValue,invoke,hy,rc.params,rc.assign,rc.body]
 refine .step (gz (cm hi) (hg.eq ha) (by rw [dp]; exact he)) ?_
 have hround:Frame.round lk r.fn ((pt.zip vs).foldl (fun t (p,v)=>t.setIfInBounds p v) r.tmps) assign body .normal=(fb r.fn .normal (some lk)).atR { tmps:=(pt.zip vs).foldl (fun t (p,v)=>t.setIfInBounds p v) r.tmps,defers:=[] } [.code assign,.beginRound,.code body]:=by
  simp [Frame.round,Frame.atR,fb]
 rw [hround]
 refine h _ (fun u' w1 w2 hx hag=>?_) (.of_pn ha fun ch w1 hy=>hy) _ _ (oK pt vs σL r.tmps ⟨rc.size,I,rc.get⟩ hp) hw
 rw [Frame.finish_atR,cm hi]
 exact hx (i+1) h2 _ _ (ha.put d u' hd) hag
theorem MX.rangeP {gop:Operand} {pt:Lb Tmp} {assign body:Code} {gf:FuncId} {fn:Func} {c:Code} {m:Nat} {lb:Lb Vc} (hro:b.roundOf=none) (s:St w0 w O) (hgv:ev σ gop=some (.func (.func gf) #[] lb.toArray)) (hbody:cr P gf=true) (hfn:P.funcs[gf]? = some fn) (hb:fn.body=some c) (hm:fn.ntmps=m)
  (hl:Nat.ble (lb.length+1) m=true)
  (h:∀ w1 lk D r cs', St w0 w1 (.obj lk (lpO r .ready none)::.obj D (.deferred (some []))::O)->Tr w O w1 (.obj lk (lpO r .ready none)::.obj D (.deferred (some []))::O)->RecF r n σ pt assign body b.fn ->
   RetOK P Z gf cs' (fun _ w2=>MX P Z b n ({ target:=.collected D,args:=#[] }::ds) cs (.endRangeFunc lk::k) σ w2)->PanOK P Z gf cs' (fun ch w2=>PN P Z b n ({ target:=.collected D,args:=#[] }::ds) cs ch σ w2)->MX P Z (fb gf .normal none) m [] cs' [.code c] (args 0 (.func (.yield lk) #[] #[]::lb)) w1) :
  MX P Z b n ds cs (.code (.rangeFunc gop pt.toArray assign body)::k) σ w:=by
 intro a w' ha hw
 have he:=run_enterLoop_outer (P:=P) (w:=w') b.fn a.tmps pt.toArray assign body
 rw [<- hro] at he
 have hst:=stepR_rangeFunc (P:=P) (b:=b) (a:=a) (k:=k) (cs:=cs) (g:=gop) (d:={ target:=.fn (.func gf) lb.toArray,args:=#[.func (.yield (w'.heap.size+1)) #[] #[]] }) (f:=gf) (args:=#[.func (.yield (w'.heap.size+1)) #[] #[]]++lb.toArray) he (by simp only [resolve,ha.ev hgv]; simp [Deferred.ofValue]; exact ⟨rfl,rfl⟩) (by simp [invoke,gR hbody]; rfl)
 refine .step hst ?_
 rw [show (#[.func (.yield (w'.heap.size+1)) #[] #[]]++lb.toArray:Array Vc)=(Value.func (.yield (w'.heap.size+1)) #[] #[]::lb).toArray by simp,fO .normal hfn hb,hm]
 generalize hr:({ state:=.ready,pending:=none,fn:=b.fn,tmps:=a.tmps,params:=pt.toArray,assign:=assign,body:=body,defers:=w'.heap.size }:Loop)=r
 have hrr:lpO r .ready none=.loop r:=by rw [<- hr]; rfl
 have hag1:Agree [] w' (w'.alloc (.deferred (some []))):=bj _ _ _
 have hag2:Agree [] (w'.alloc (.deferred (some []))) ((w'.alloc (.deferred (some []))).alloc (.loop r)):=bj _ _ _
 have hb1:∀ b', (Ob.obj w'.heap.size (.deferred (some []))).block=some b'->w.heap.size<=b' :=fun b' e=>by cases e; exact hw.size
 have s1:=s.push (o:=.obj w'.heap.size (.deferred (some []))) (hw.trans hag1) (heap_alloc_new w' _) hb1
 have hb2:∀ b', (Ob.obj (w'.heap.size+1) (lpO r .ready none)).block=some b'->(w'.alloc (.deferred (some []))).heap.size<=b' :=fun b' e=>by cases e; simp
 have hn2:((w'.alloc (.deferred (some []))).alloc (.loop r)).heap[w'.heap.size+1]? = some (.loop r):=by have:=heap_alloc_new (w'.alloc (.deferred (some []))) (.loop r); rwa [World.size_alloc] at this
 have s2:=s1.push (o:=.obj (w'.heap.size+1) (lpO r .ready none)) hag2 (by rw [hrr]; exact hn2) hb2
 refine h _ _ _ r _ s2 ((Tr.push (hw.trans hag1) hb1).trans (Tr.push hag2 hb2)) ⟨⟨by rw [<- hr]; exact ha.size,by rw [<- hr]; exact ha.get,by rw [<- hr],by rw [<- hr],by rw [<- hr]⟩,by rw [<- hr]⟩ ?_ ?_ _ _ (jh (by simpa using hl)) (Agree.refl _ _)
 ·refine .of_back fun u w2 w3 hx hag3=>?_
  rw [finish_atR_inRangeFunc]
  refine hx _ _ ⟨ha.size,?_,ha.get⟩ hag3
  rw [<- ha.defers]; rfl
 ·refine fun ch w2 w3 fr hy hag3 _ hl=>.step (step_leave_panicked hl) ?_
  have:=hy { a with defers:={ target:=.collected w'.heap.size,args:=#[] }::a.defers } w3 (.inRangeFunc (w'.heap.size+1)::k) ⟨ha.size,by rw [<- ha.defers],ha.get⟩ hag3
  exact this
/-! ### Contracts of what may panic -/
def exc {ε α β:Type} (y:Except ε α) (f:α->Oa β) (g:ε->Oa β):Oa β:=match y with
 | .ok y=>f y
 | .error e=>g e
/-! ### Panics out of a drawn region -/
section
variable {tt f m m' i:Nat}
theorem MX.start2 {ff:FuncId} {fn:Func} {c:Code} {vs:Lb Vc} {nn:Nat} {X:Vc->World->Prop} {Y:Lb PanicEntry->World->Prop} {R:Ending->World->Prop} (hf:P.funcs[ff]? = some fn) (hb:fn.body=some c) (hn:fn.ntmps=nn) (hl:Nat.ble vs.length nn=true)
  (h:∀ Z cs,RetOK P Z ff cs X->PanOK P Z ff cs Y->MX P Z (fb ff .normal none) nn [] cs [.code c] (args 0 vs) w) {w' : World} (hw:Agree [] w w') (hX:∀ v w1 w2,X v w1->Agree [] w1 w2->R (.returned v) w2) (hY:∀ ch w1 w2,Y ch w1->Agree [] w1 w2->R (.panicked ch) w2):Calls P ff vs.toArray w' R:=by
 intro cs
 obtain ⟨m', hs,e,w2,fr,hR,hne,rfl,hfn,hlv⟩:=h (Ends P ff cs R) cs
  (fun v w1 w2 fr hx hag hfr hl=>.now ⟨.returned v,_,fr,hX v w1 w2 hx hag,by simp,rfl,hfr,hl⟩)
  (fun ch w1 w2 fr hx hag hfr hl=>.now ⟨.panicked ch,_,fr,hY ch w1 w2 hx hag,by simp,rfl,hfr,hl⟩) _ w' (jh hl) hw
 refine ⟨e,w2,fr,hR,?_,hfn,hlv⟩
 rw [fO .normal hf hb,hn]
 cases e with
 | outgrown=>exact absurd I hne
 | returned v=>exact hs
 | panicked ch=>exact hs
theorem PN.agree {w1:World} (h:PN P Z b n ds cs ch σ w) (hw:Agree [] w w1):PN P Z b n ds cs ch σ w1:=fun a w' todo ha hag=>h a w' todo ha (hw.trans hag)
theorem RO.enterPT {fn:FuncId} {fun_:Func} {body:Code} {nn:Nat} {c:Operand} {fst cap:Lb Vc} {xs:Lb Operand} {vs:Lb Vc} {ts:Array TypeId} (hst:cK ops.size m i m'=true) (hi:ops[i]? = some ⟨some d,.call { callee:=.value c,args:=xs.toArray,argTypes:=ts },ty,ps,af,g⟩) (htl:tail tt i=true) (hg:Want ops σ g true)
  (hf:cr P fn=true) (hfn:P.funcs[fn]? = some fun_) (hb:fun_.body=some body) (hn:fun_.ntmps=nn) (hl:Nat.ble (fst++vs++cap).length nn=true) (hcal:ev σ c=some (.func (.func fn) fst.toArray cap.toArray)) (hv:evs σ xs vs) (hd:Nat.blt d n=true)
  (h:∀ Z' cs', RetOK P Z' fn cs' (fun v w1=>RD κ P Z b n ds cs ops tt f m' k ((d,v)::σ) w1)->PanOK P Z' fn cs' (fun ch w1=>PN P Z b n ds cs ch [] w1)->MX P Z' (fb fn .normal none) nn [] cs' [.code body] (args 0 (fst++vs++cap)) w):RO κ P Z b n ds cs ops tt f m k σ w i:=by
 intro a w' ha hw
 unfold OpI
 rw [hi]
 simp only
 rw [if_pos (hg.eq ha)]
 have he:=cN (P:=P) (ty:=ty) (ps:=ps) (af:=af) (g:=g) (dd:=some d) (ts:=ts) hf (ρ:=a.eval) (ha.ev hcal) (vs:=vs.toArray) (xs:=xs.toArray) (by rw [List.map_toArray,bO (fun x u hx=>ha.ev hx) hv]) w'
 unfold OpW
 rw [he,bR hst]
 simp only [List.append_toArray]
 exact MX.start2 hfn hb hn hl (fun Z' cs' hr hp=>h Z' cs' hr hp) hw (fun v w1 w2 hx hag=>.inl ⟨v,rfl,⟨fun h9=>(by rw [htl] at h9; cases h9),fun hn=>Kp.agree hag (hx.1 hn),hx.2 _ _ (ha.put d v hd) hag⟩⟩) (fun ch w1 w2 hy hag=>.inr ⟨ch,rfl,hy.agree hag⟩)
end
/-! ### Deferred closures -/
/-! ### Interfaces -/
end
end
open Go Go.RowKit
instance:Rep Int16:=Rep.plain (fun x=>.int .i16 x.toInt) (fun _=>rfl)
def dD (x:Int):UInt8:=UInt8.ofNat (x%256).toNat
theorem wrap_u8 (x:Int):IntKind.u8.wrap x=((dD x).toNat:Int):=by
 unfold dD
 have h:(x%256).toNat<256:=by omega
 rw [UInt8.toNat_ofNat_of_lt' (by simp [UInt8.size]; omega)]
 simp only [IntKind.wrap,IntKind.bits,IntKind.signed]
 simp
 omega
def add64 (x y c:Ua):Oa (Ua×Ua):=if c.toNat<=1 then some (UInt64.ofNat ((x.toNat+y.toNat+c.toNat)%18446744073709551616),UInt64.ofNat ((x.toNat+y.toNat+c.toNat)/18446744073709551616)) else none
def sub64 (x y b:Ua):Oa (Ua×Ua):=if b.toNat<=1 then some (UInt64.ofNat ((x.toNat+18446744073709551616-y.toNat-b.toNat)%18446744073709551616),if x.toNat<y.toNat+b.toNat then 1 else 0) else none
section
variable {P:Program} {σ:Lb (Nat×Vc)} {w w0:World} {x y z:Operand} {d:Oa Tmp} {t t' s ty e:TypeId} {ps:String} {af:Array Edge} {g:Oa (Nat×Bool)} {O O' : Lb Ob} {v:Vc}
theorem FV.convU8 {k1:IntKind} {i:Int} (hs:P.underlying s=some (.int k1)) (ht:P.underlying t=some (.int .u8)) (hx:ev σ x=some (.int k1 i)):FV P ⟨d,.convert s t x,ty,ps,af,g⟩ σ w (.int .u8 ((dD i).toNat:Int)):=FV.conv hs ht hx (wrap_u8 i)
def fldB (P:Program) (t f off m:Nat):Bool:=match P.underlying t with
 | some (.struct fs)=>match fs[f]? with
  | some fd=>fd.offset==off&&P.cellsOf fd.type==m&&(P.underlying fd.type).isSome
  | none=>false
 | _=>false
def qw (P:Program) (t f:Nat):TypeId:=match P.underlying t with
 | some (.struct fs)=>match fs[f]? with
  | some fd=>fd.type
  | none=>0
 | _=>0
theorem pM {f off m:Nat} {cs:Array Vc} (h:fldB P t f off m=true) (w' : World):(Instr.field t (.agg cs) f).run P w'=(part (qw P t f) cs off).run P w' /\P.cellsOf (qw P t f)=m/\∃ u,P.underlying (qw P t f)=some u:=by
 unfold fldB at h
 unfold qw
 split at h
 ·rename_i fs hu
  split at h
  ·rename_i fd hf
   rw [Bool.and_eq_true,Bool.and_eq_true] at h
   have h1:fd.offset=off:=by simpa using h.1.1
   have h2:P.cellsOf fd.type=m:=by simpa using h.1.2
   refine ⟨?_,h2,Option.isSome_iff_exists.1 h.2⟩
   simp [Instr.field,Sem.run_bind,run_underlying hu,hf,asAgg,h1]
  ·cases h
 ·cases h
theorem FV.field1 {f off m:Nat} {cs:Lb Vc} (h:fldB P t f off m=true) (h2:em P (qw P t f)=false) (hx:ev σ x=some (.agg cs.toArray)) (hv:cs[off]? = some v):FV P ⟨d,.field t x f,ty,ps,af,g⟩ σ w v:=fun ρ ha w' _=>by
 obtain ⟨h3,h4,u,hu⟩:=pM (cs:=cs.toArray) h w'
 have hagg:(isAgg (qw P t f)).run P w'=.ok false w' :=by
  unfold em at h2
  unfold isAgg
  rw [hu] at h2; rw [Sem.run_bind,run_underlying hu w']; cases u<;>simp_all
 simp only [execOp,ha _ _ hx,Sem.run_bind,h3]
 simp [part,hagg,hv]
/-! ### Functions without a body -/
theorem oq {f : FuncId} {fn : Func} {ex : Array Value → Sem Value} (hfn : P.funcs[f]? = some fn) (hb : fn.body = none) (hn : (fn.name == "runtime.NumGoroutine") = false) (h1 : (Extern.findNext fn).isNone = true) (h2 : Extern.find fn = some ex) {vs : Array Value} {w' : World} {u : Value} (he : (ex vs).run P w' = .ok u w') : (callFunc f vs).run P w' = .ok (.value u) w' := by
 have h1' : Extern.findNext fn=none:=by simpa using h1
 simp only [callFunc,Sem.run_bind,run_program,Result.andThen_ok,hfn,hn,hb,Option.isNone_none,if_true,Bool.false_eq_true,if_false]
 simp [h1', h2,he,mark,Sem.run]
theorem FV.ext3 {f : FuncId} {fn : Func} {ex : Array Value → Sem Value} {a b c u : Value} {ts : Array TypeId} (hfn : P.funcs[f]? = some fn) (hb : fn.body = none) (hn : (fn.name == "runtime.NumGoroutine") = false) (h1 : (Extern.findNext fn).isNone = true) (h2 : Extern.find fn = some ex) (hx : ev σ x = some a) (hy : ev σ y = some b) (hz : ev σ z = some c)
  (he:∀ w', (ex #[a,b,c]).run P w'=.ok u w'):FV P ⟨d,.call { callee:=.value (.func f),args:=#[x,y,z],argTypes:=ts },ty,ps,af,g⟩ σ w u:=fun ρ ha w' _=>by
 have hc:ρ (.func f)=.func (.func f) #[] #[]:=ha _ _ I
 have hr:=oq (P:=P) (vs:=#[a,b,c]) (w' :=w') hfn hb hn h1 h2 (he w')
 simp [execOp,resolve,hc,ha _ _ hx,ha _ _ hy,ha _ _ hz,Deferred.ofValue,invoke,hr]
def rY:Array Vc->Sem Vc:=(Extern.MathBitsCarry.rows.head!).2
def rV:Array Vc->Sem Vc:=(Extern.MathBitsCarry.rows.tail.head!).2
theorem pG {a b c:Ua} {r:Ua×Ua} (h:add64 a b c=some r) (w' : World):(rY #[.int .u64 (a.toNat:Int),.int .u64 (b.toNat:Int),.int .u64 (c.toNat:Int)]).run P w'=.ok (.tuple #[.int .u64 (r.1.toNat:Int),.int .u64 (r.2.toNat:Int)]) w' :=by
 unfold add64 at h
 split at h
 ·rename_i hc
  cases h
  have hc' : ¬ c.toNat > 1:=by omega
  have ha:=bC a; have hb:=bC b
  rw [UInt64.toNat_ofNat_of_lt' (by simp only [UInt64.size]; omega),UInt64.toNat_ofNat_of_lt' (by simp only [UInt64.size]; omega)]
  have h3:∀ nm,(Extern.MathBitsCarry.three nm #[.int .u64 (a.toNat:Int),.int .u64 (b.toNat:Int),.int .u64 (c.toNat:Int)]).run P w'=.ok (a.toNat,b.toNat,c.toNat) w' :=fun nm=>by
   show (do
    let c' :=(<- asInt (.int .u64 (c.toNat:Int))).toNat
    if c' > 1 then unsupported (.noEntry ("extern/math/bits." ++ nm ++ ": a carry that is neither 0 nor 1"))
    pure ((<- asInt (.int .u64 (a.toNat:Int))).toNat,(<- asInt (.int .u64 (b.toNat:Int))).toNat,c'):Sem (Nat×Nat×Nat)).run P w'=_
   have hc2:¬ 1<c.toNat:=hc'
   simp [asInt,asIntOf]
   omega
  show (do let (x, y, c) ← Extern.MathBitsCarry.three "Add64" #[.int .u64 (a.toNat : Int), .int .u64 (b.toNat : Int), .int .u64 (c.toNat : Int)]; pure (Extern.MathBitsCarry.pair ((x + y + c) % Extern.MathBitsCarry.m64) ((x + y + c) / Extern.MathBitsCarry.m64)) : Sem Value).run P w' = _
  rw [Sem.run_bind,h3]
  simp [Extern.MathBitsCarry.pair,Extern.MathBitsCarry.m64]
 ·cases h
theorem qj {a b c:Ua} {r:Ua×Ua} (h:sub64 a b c=some r) (w' : World):(rV #[.int .u64 (a.toNat:Int),.int .u64 (b.toNat:Int),.int .u64 (c.toNat:Int)]).run P w'=.ok (.tuple #[.int .u64 (r.1.toNat:Int),.int .u64 (r.2.toNat:Int)]) w' :=by
 unfold sub64 at h
 split at h
 ·rename_i hc
  cases h
  have hc' : ¬ c.toNat > 1:=by omega
  have ha:=bC a; have hb:=bC b
  have hi:((if a.toNat<b.toNat+c.toNat then (1:Ua) else 0).toNat:Int)=if a.toNat<b.toNat+c.toNat then 1 else 0:=by split<;>rfl
  rw [UInt64.toNat_ofNat_of_lt' (by simp only [UInt64.size]; omega),hi]
  have h3:∀ nm,(Extern.MathBitsCarry.three nm #[.int .u64 (a.toNat:Int),.int .u64 (b.toNat:Int),.int .u64 (c.toNat:Int)]).run P w'=.ok (a.toNat,b.toNat,c.toNat) w' :=fun nm=>by
   show (do
    let c' :=(<- asInt (.int .u64 (c.toNat:Int))).toNat
    if c' > 1 then unsupported (.noEntry ("extern/math/bits." ++ nm ++ ": a carry that is neither 0 nor 1"))
    pure ((<- asInt (.int .u64 (a.toNat:Int))).toNat,(<- asInt (.int .u64 (b.toNat:Int))).toNat,c'):Sem (Nat×Nat×Nat)).run P w'=_
   have hc2:¬ 1<c.toNat:=hc'
   simp [asInt,asIntOf]
   omega
  show (do let (x, y, c) ← Extern.MathBitsCarry.three "Sub64" #[.int .u64 (a.toNat : Int), .int .u64 (b.toNat : Int), .int .u64 (c.toNat : Int)]; pure (Extern.MathBitsCarry.pair ((x + Extern.MathBitsCarry.m64 - y - c) % Extern.MathBitsCarry.m64) (if x < y + c then 1 else 0)) : Sem Value).run P w' = _
  rw [Sem.run_bind,h3]
  simp [Extern.MathBitsCarry.pair,Extern.MathBitsCarry.m64]
  split<;>rfl
 ·cases h
theorem FV.add64 {f : FuncId} {fn : Func} {a b c : UInt64} {r : UInt64 × UInt64} {ts : Array TypeId} (hfn : P.funcs[f]? = some fn) (hb : fn.body = none) (hn : (fn.name == "runtime.NumGoroutine") = false) (h1 : (Extern.findNext fn).isNone = true) (h2 : Extern.find fn = some rY) (hx : ev σ x = some (.int .u64 (a.toNat : Int))) (hy : ev σ y = some (.int .u64 (b.toNat : Int))) (hz : ev σ z = some (.int .u64 (c.toNat : Int)))
  (h:Proofs.YtkimkkgicmipbaaGreatDoor.add64 a b c=some r):FV P ⟨d,.call { callee:=.value (.func f),args:=#[x,y,z],argTypes:=ts },ty,ps,af,g⟩ σ w (.tuple #[.int .u64 (r.1.toNat:Int),.int .u64 (r.2.toNat:Int)]):=FV.ext3 hfn hb hn h1 h2 hx hy hz (pG h)
theorem FV.sub64 {f : FuncId} {fn : Func} {a b c : UInt64} {r : UInt64 × UInt64} {ts : Array TypeId} (hfn : P.funcs[f]? = some fn) (hb : fn.body = none) (hn : (fn.name == "runtime.NumGoroutine") = false) (h1 : (Extern.findNext fn).isNone = true) (h2 : Extern.find fn = some rV) (hx : ev σ x = some (.int .u64 (a.toNat : Int))) (hy : ev σ y = some (.int .u64 (b.toNat : Int))) (hz : ev σ z = some (.int .u64 (c.toNat : Int)))
  (h:Proofs.YtkimkkgicmipbaaGreatDoor.sub64 a b c=some r):FV P ⟨d,.call { callee:=.value (.func f),args:=#[x,y,z],argTypes:=ts },ty,ps,af,g⟩ σ w (.tuple #[.int .u64 (r.1.toNat:Int),.int .u64 (r.2.toNat:Int)]):=FV.ext3 hfn hb hn h1 h2 hx hy hz (qj h)
end
/-! ### Elements of the call's own rows -/
section
variable {α:Type} [Rep α] {P:Program} {σ:Lb (Nat×Vc)} {w w0:World} {x y:Operand} {t ty:TypeId} {ps:String} {af:Array Edge} {g:Oa (Nat×Bool)} {O O' : Lb Ob} {v:Vc} {base:Nat} {e:TypeId} {cs:Lb Vc} {xs ys:Lb α} {L:Lb Nat} {dd:Oa Tmp}
end
end Go.Proofs.YtkimkkgicmipbaaGreatDoor
