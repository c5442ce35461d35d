/- The call's own objects: a list of blocks and rows that nobody else has; worlds in which they stand; how facts on other data are carried on. No program in sight. -/
import Derived.Test.YtgejkdheojkfiaaGreatDoorPBase
namespace Go.Proofs.YtgejkdheojkfiaaGreatDoor
open Go Go.RowKit
inductive Ob where
  | obj (b:Nat) (o:Obj)
  | row (base:Nat) (e:TypeId) (sz:Nat) (v:Value) (n:Nat) (cs:List Value)
def Ob.block:Ob -> Option Nat
  | .obj b _=>some b
  | .row _ _ _ v _ _=>v.ownBlock
def Ob.holds (w:World):Ob -> Prop
  | .obj b o=>w.heap[b]? = some o
  | .row base e sz v n cs=>w.ownsRow base e sz v n cs/\n <= mostR
@[reducible] def Ob.cells (b:Nat) (cs:List Value) (t:TypeId):Ob:=.obj b (.cells cs.toArray t (0,0))
def bl (O:List Ob):List Nat:=O.filterMap Ob.block
theorem bl_cons (o:Ob) (O:List Ob):bl (o :: O) = o.block.toList ++ bl O:=by
  unfold bl
  cases h:o.block <;> simp [h]
theorem mem_bl_cons {o:Ob} {O:List Ob} {b:Nat}:b ∈ bl (o :: O) ↔ o.block = some b ∨ b ∈ bl O:=by
  rw [bl_cons,List.mem_append]
  cases h:o.block <;> simp
  exact or_congr_left ⟨fun e=>e.symm,fun e=>e.symm⟩
def Owns (w:World):List Ob -> Prop
  | []=>True
  | o :: O=>o.holds w/\(∀ b,o.block = some b -> b ∉ bl O)/\Owns w O
theorem Ob.lt {w:World} {o:Ob} (h:o.holds w) {b:Nat} (hb:o.block = some b):b < w.heap.size:=by
  cases o with
  | obj c o=>cases hb; exact blk_lt h
  | row base e sz v n cs=>exact (h.1.lt b hb).2
theorem Owns.lt {w:World}:∀ {O:List Ob},Owns w O -> ∀ b ∈ bl O,b < w.heap.size
  | [],_,b,hb=>by cases hb
  | o :: O,⟨h1,_,h3⟩,b,hb=>by
    rcases mem_bl_cons.1 hb with h | h
    · exact Ob.lt h1 h
    · exact h3.lt b h
theorem Ob.keep {w w' : World} {L:List Nat} {o:Ob} (h:o.holds w) (hw:Agree L w w') (hL:∀ b,o.block = some b -> b ∉ L):o.holds w' :=by
  cases o with
  | obj c o=>exact blk_keep hw (hL c rfl) h
  | row base e sz v n cs=>
    refine ⟨⟨h.1.1,?_⟩,h.2⟩
    rcases h.1.2 with h' | ⟨g,cap,cur,rfl,hb,hg,rest⟩
    · exact .inl h'
    · exact .inr ⟨g,cap,cur,rfl,hb,(hw.block g (Array.getElem?_eq_some_iff.1 hg).1 (hL g rfl)).trans hg,rest⟩
theorem Owns.keep {w w' : World} {L:List Nat} (hw:Agree L w w'):∀ {O:List Ob},Owns w O -> (∀ b ∈ bl O,b ∉ L) -> Owns w' O
  | [],_,_=>trivial
  | _o :: _O,⟨h1,h2,h3⟩,hL=>⟨Ob.keep h1 hw (fun b hb=>hL b (mem_bl_cons.2 (.inl hb))),h2,h3.keep hw (fun b hb=>hL b (mem_bl_cons.2 (.inr hb)))⟩
structure St (w0 w:World) (O:List Ob):Prop where
  ag:Agree [] w0 w
  new:∀ b ∈ bl O,w0.heap.size <= b
  ok:Owns w O
structure Tr (w1:World) (O1:List Ob) (w2:World) (O2:List Ob):Prop where
  ag:Agree (bl O1) w1 w2
  sub:∀ b ∈ bl O2,b ∈ bl O1 ∨ w1.heap.size <= b
theorem Tr.refl (w:World) (O:List Ob):Tr w O w O:=⟨Agree.refl _ _,fun _ h=>.inl h⟩
theorem Tr.trans {w1 w2 w3:World} {O1 O2 O3:List Ob} (h:Tr w1 O1 w2 O2) (k:Tr w2 O2 w3 O3):Tr w1 O1 w3 O3:=
  ⟨⟨k.ag.os.trans h.ag.os,k.ag.tape.trans h.ag.tape,k.ag.output.trans h.ag.output,Nat.le_trans h.ag.size k.ag.size,fun b hb hn=>
      (k.ag.block b (Nat.lt_of_lt_of_le hb h.ag.size) (fun hm=>(h.sub b hm).elim hn (fun h1=>by omega))).trans (h.ag.block b hb hn)⟩,
    fun b hb=>(k.sub b hb).elim (h.sub b) (fun h1=>.inr (Nat.le_trans h.ag.size h1))⟩
theorem St.tr {w0 w:World} {O:List Ob} (h:St w0 w O):Tr w0 [] w O:=⟨h.ag,fun b hb=>.inr (h.new b hb)⟩
theorem St.start (w:World):St w w []:=⟨Agree.refl _ _,fun _ h=>(by cases h),trivial⟩
theorem Rep.mv {α:Type} [Rep α] {w1 w2:World} {O1 O2:List Ob} {L:List Nat} {cs:List Value} {x:α} (h:Rep.R w1 (bl O1 ++ L) cs x) (t:Tr w1 O1 w2 O2):Rep.R w2 (bl O2 ++ L) cs x:=by
  have h1:Rep.R w1 (bl O2 ++ (bl O1 ++ L)) cs x:=Rep.shun h (fun b hb=>by
    rcases List.mem_append.1 hb with hb | hb
    · exact (t.sub b hb).imp (fun h1=>List.mem_append.2 (.inl h1)) id
    · exact .inl hb)
  have h2:=Rep.keep h1 (t.ag.mono (fun b hb=>.inl (List.mem_append.2 (.inr (List.mem_append.2 (.inl hb))))))
  exact Rep.shun h2 (fun b hb=>.inl (by
    rcases List.mem_append.1 hb with hb | hb
    · exact List.mem_append.2 (.inl hb)
    · exact List.mem_append.2 (.inr (List.mem_append.2 (.inr hb)))))
theorem Rep.mv0 {α:Type} [Rep α] {w0 w:World} {O:List Ob} {L:List Nat} {cs:List Value} {x:α} (h:Rep.R w0 L cs x) (s:St w0 w O):Rep.R w (bl O ++ L) cs x:=Rep.mv (O1:=[]) h s.tr
theorem St.agree {w0 w w1:World} {O:List Ob} (h:St w0 w O) (hw:Agree [] w w1):St w0 w1 O:=⟨h.ag.trans hw,h.new,h.ok.keep hw (fun _ _=>by simp)⟩
theorem Tr.agree {w w1:World} {O:List Ob} (hw:Agree [] w w1):Tr w O w1 O:=⟨hw.widen,fun _ h=>.inl h⟩
theorem St.push {w0 w w1:World} {O:List Ob} (h:St w0 w O) (hw:Agree [] w w1) {o:Ob} (ho:o.holds w1) (hb:∀ b,o.block = some b -> w.heap.size <= b):St w0 w1 (o :: O):=
  ⟨h.ag.trans hw,fun b hm=>(mem_bl_cons.1 hm).elim (fun e=>Nat.le_trans h.ag.size (hb b e)) (h.new b),ho,fun b e hm=>by have:=h.ok.lt b hm; have:=hb b e; omega,h.ok.keep hw (fun _ _=>by simp)⟩
theorem Tr.push {w w1:World} {O:List Ob} (hw:Agree [] w w1) {o:Ob} (hb:∀ b,o.block = some b -> w.heap.size <= b):Tr w O w1 (o :: O):=
  ⟨hw.widen,fun b hm=>(mem_bl_cons.1 hm).elim (fun e=>.inr (hb b e)) .inl⟩
inductive Upd:List Ob -> Ob -> Ob -> List Ob -> Prop
  | hd {o o' : Ob} {O:List Ob}:Upd (o :: O) o o' (o' :: O)
  | tl {o o' x:Ob} {O O' : List Ob} (h:Upd O o o' O'):Upd (x :: O) o o' (x :: O')
theorem Upd.get {w:World} {O O' : List Ob} {o o' : Ob} (u:Upd O o o' O') (h:Owns w O):o.holds w:=by
  induction u with
  | hd=>exact h.1
  | tl _ ih=>exact ih h.2.2
theorem Upd.mem {O O' : List Ob} {o o' : Ob} (u:Upd O o o' O') {b:Nat} (hb:o.block = some b):b ∈ bl O:=by
  induction u with
  | hd=>exact mem_bl_cons.2 (.inl hb)
  | tl _ ih=>exact mem_bl_cons.2 (.inr (ih hb))
theorem Upd.bl {O O' : List Ob} {o o' : Ob} (u:Upd O o o' O') {b:Nat} (hb:b ∈ bl O'):o'.block = some b ∨ b ∈ bl O:=by
  induction u with
  | hd=>exact (mem_bl_cons.1 hb).imp id (fun h=>mem_bl_cons.2 (.inr h))
  | tl _ ih=>
    rcases mem_bl_cons.1 hb with h | h
    · exact .inr (mem_bl_cons.2 (.inl h))
    · exact (ih h).imp id (fun h=>mem_bl_cons.2 (.inr h))
theorem Upd.owns {w w1:World} {O O' : List Ob} {o o' : Ob} (u:Upd O o o' O') (h:Owns w O) {L:List Nat} (hw:Agree L w w1) (hL:∀ b ∈ L,o.block = some b) (ho:o'.holds w1) (hb:∀ b,o'.block = some b -> o.block = some b ∨ w.heap.size <= b):Owns w1 O' :=by
  induction u with
  | hd=>
    obtain ⟨h1,h2,h3⟩:=h
    refine ⟨ho,fun b e hm=>?_,h3.keep hw (fun b hm hl=>h2 b (hL b hl) hm)⟩
    rcases hb b e with h | h
    · exact h2 b h hm
    · have:=h3.lt b hm; omega
  | @tl _ _ x O O' u ih=>
    obtain ⟨h1,h2,h3⟩:=h
    refine ⟨Ob.keep h1 hw (fun b e hm=>h2 b e (u.mem (hL b hm))),fun b e hm=>?_,ih h3 hL ho hb⟩
    rcases u.bl hm with h | h
    · rcases hb b h with h' | h'
      · exact h2 b e (u.mem h')
      · have:=Ob.lt h1 e; omega
    · exact h2 b e h
theorem St.get {w0 w:World} {O O' : List Ob} {o o' : Ob} (h:St w0 w O) (u:Upd O o o' O'):o.holds w:=u.get h.ok
theorem St.upd {w0 w w1:World} {O O' : List Ob} {o o' : Ob} (h:St w0 w O) (u:Upd O o o' O') {L:List Nat} (hw:Agree L w w1) (hL:∀ b ∈ L,o.block = some b) (ho:o'.holds w1) (hb:∀ b,o'.block = some b -> o.block = some b ∨ w.heap.size <= b):St w0 w1 O' :=by
  have hn:∀ b ∈ L,w0.heap.size <= b:=fun b hm=>h.new b (u.mem (hL b hm))
  refine ⟨⟨hw.os.trans h.ag.os,hw.tape.trans h.ag.tape,hw.output.trans h.ag.output,Nat.le_trans h.ag.size hw.size,fun b hlt _=>
      (hw.block b (Nat.lt_of_lt_of_le hlt h.ag.size) (fun hm=>by have:=hn b hm; omega)).trans (h.ag.block b hlt (by simp))⟩,fun b hm=>?_,u.owns h.ok hw hL ho hb⟩
  rcases u.bl hm with e | e
  · rcases hb b e with h' | h'
    · exact h.new b (u.mem h')
    · exact Nat.le_trans h.ag.size h'
  · exact h.new b e
theorem Tr.upd {w w1:World} {O O' : List Ob} {o o' : Ob} (u:Upd O o o' O') {L:List Nat} (hw:Agree L w w1) (hL:∀ b ∈ L,o.block = some b) (hb:∀ b,o'.block = some b -> o.block = some b ∨ w.heap.size <= b):Tr w O w1 O' :=
  ⟨hw.mono (fun b hm=>.inl (u.mem (hL b hm))),fun b hm=>(u.bl hm).elim (fun e=>(hb b e).imp u.mem id) .inl⟩
inductive At:List Ob -> Ob -> Prop
  | hd {o:Ob} {O:List Ob}:At (o :: O) o
  | tl {o x:Ob} {O:List Ob} (h:At O o):At (x :: O) o
theorem At.upd {O:List Ob} {o:Ob} (h:At O o):Upd O o o O:=by
  induction h with
  | hd=>exact .hd
  | tl _ ih=>exact .tl ih
inductive Del:List Ob -> List Ob -> Prop
  | nil:Del [] []
  | keep {o:Ob} {O O' : List Ob} (h:Del O O'):Del (o :: O) (o :: O')
  | drop {o:Ob} {O O' : List Ob} (h:Del O O'):Del (o :: O) O'
theorem Del.bl {O O' : List Ob} (d:Del O O') {b:Nat} (h:b ∈ bl O'):b ∈ bl O:=by
  induction d with
  | nil=>exact h
  | keep _ ih=>exact mem_bl_cons.2 ((mem_bl_cons.1 h).imp id ih)
  | drop _ ih=>exact mem_bl_cons.2 (.inr (ih h))
theorem Del.owns {w:World} {O O' : List Ob} (d:Del O O') (h:Owns w O):Owns w O' :=by
  induction d with
  | nil=>trivial
  | keep d ih=>exact ⟨h.1,fun b e hm=>h.2.1 b e (d.bl hm),ih h.2.2⟩
  | drop _ ih=>exact ih h.2.2
theorem Del.refl:∀ (O:List Ob),Del O O
  | []=>.nil
  | _ :: O=>.keep (Del.refl O)
theorem St.del {w0 w:World} {O O' : List Ob} (h:St w0 w O) (d:Del O O'):St w0 w O' :=⟨h.ag,fun b hb=>h.new b (d.bl hb),d.owns h.ok⟩
theorem Tr.del {w:World} {O O' : List Ob} (d:Del O O'):Tr w O w O' :=⟨Agree.refl _ _,fun _ h=>.inl (d.bl h)⟩
inductive Out:List Ob -> Ob -> List Ob -> Prop
  | hd {o:Ob} {O:List Ob}:Out (o :: O) o O
  | tl {o x:Ob} {O O' : List Ob} (h:Out O o O'):Out (x :: O) o (x :: O')
theorem Out.del {O O' : List Ob} {o:Ob} (u:Out O o O'):Del O O' :=by
  induction u with
  | hd=>exact .drop (Del.refl _)
  | tl _ ih=>exact .keep ih
theorem Out.get {w:World} {O O' : List Ob} {o:Ob} (u:Out O o O') (h:Owns w O):o.holds w/\∀ b,o.block = some b -> b ∉ Proofs.YtgejkdheojkfiaaGreatDoor.bl O' :=by
  induction u with
  | hd=>exact ⟨h.1,h.2.1⟩
  | @tl o x O O' u ih=>
    obtain ⟨i1,i2⟩:=ih h.2.2
    refine ⟨i1,fun b e hm=>?_⟩
    rcases mem_bl_cons.1 hm with h' | h'
    · have hmem:b ∈ Proofs.YtgejkdheojkfiaaGreatDoor.bl O:=by
        clear ih i1 i2 h hm h'
        induction u with
        | hd=>exact mem_bl_cons.2 (.inl e)
        | tl _ ih=>exact mem_bl_cons.2 (.inr (ih e))
      exact h.2.1 b h' hmem
    · exact i2 b e h'
/-! ### Rows: slices that the call made -/
def Cells {α:Type} [Rep α] (w:World) (L:List Nat) (cs:List Value) (xs:List α):Prop:=
  cs.length = xs.length * Rep.size α/\∀ i (h:i < xs.length),Rep.R w L ((cs.drop (i * Rep.size α)).take (Rep.size α)) xs[i]
section
variable {α:Type} [Rep α]
theorem Cells.mv {w1 w2:World} {O1 O2:List Ob} {L:List Nat} {cs:List Value} {xs:List α} (h:Cells w1 (bl O1 ++ L) cs xs) (t:Tr w1 O1 w2 O2):Cells w2 (bl O2 ++ L) cs xs:=
  ⟨h.1,fun i hi=>Rep.mv (h.2 i hi) t⟩
theorem Cells.nil (w:World) (L:List Nat):Cells w L [] ([]:List α):=⟨by simp,fun i h=>by simp at h⟩
theorem Cells.one {w:World} {L:List Nat} {cs:List Value} {x:α} (h:Rep.R w L cs x):Cells w L cs [x]:=by
  refine ⟨by rw [Rep.len h]; simp,fun i hi=>?_⟩
  obtain rfl:i = 0:=by simp at hi; exact hi
  have:=Rep.len h
  simp only [Nat.zero_mul,List.drop_zero,List.getElem_cons_zero]
  rw [<- this,List.take_length]; exact h
theorem Cells.append {w:World} {L:List Nat} {cs ds:List Value} {xs ys:List α} (h:Cells w L cs xs) (k:Cells w L ds ys):Cells w L (cs ++ ds) (xs ++ ys):=by
  refine ⟨by rw [List.length_append,List.length_append,h.1,k.1,Nat.add_mul],fun i hi=>?_⟩
  have hp:=Rep.pos (α:=α)
  by_cases hlt:i < xs.length
  · have hle:i * Rep.size α + Rep.size α <= cs.length:=by rw [h.1,<- Nat.succ_mul]; exact Nat.mul_le_mul_right _ hlt
    rw [List.getElem_append_left hlt,List.drop_append_of_le_length (by omega),List.take_append_of_le_length (by rw [List.length_drop]; omega)]
    exact h.2 i hlt
  · have hge:xs.length <= i:=by omega
    rw [List.getElem_append_right hge]
    have hl:cs.length <= i * Rep.size α:=by rw [h.1]; exact Nat.mul_le_mul_right _ hge
    rw [List.drop_append,List.drop_of_length_le hl,List.nil_append,h.1,<- Nat.sub_mul]
    exact k.2 _ (by rw [List.length_append] at hi; omega)
theorem Cells.cons {w:World} {L:List Nat} {cs ds:List Value} {x:α} {ys:List α} (h:Rep.R w L cs x) (k:Cells w L ds ys):Cells w L (cs ++ ds) (x :: ys):=(Cells.one h).append k
theorem Cells.cell {w:World} {L:List Nat} {cs:List Value} {xs:List α} (h:Cells w L cs xs):∀ v ∈ cs,v.oneCell' = true:=by
  intro v hv
  obtain ⟨j,hj,rfl⟩:=List.getElem_of_mem hv
  have hp:=Rep.pos (α:=α)
  rw [h.1] at hj
  have hi:j / Rep.size α < xs.length:=(Nat.div_lt_iff_lt_mul hp).2 hj
  refine Rep.one (h.2 _ hi) _ ?_
  have hd:j / Rep.size α * Rep.size α + j % Rep.size α = j:=by rw [Nat.mul_comm]; exact Nat.div_add_mod j _
  have hm:=Nat.mod_lt j hp
  rw [List.mem_iff_getElem?]
  refine ⟨j % Rep.size α,?_⟩
  rw [List.getElem?_take_of_lt hm,List.getElem?_drop,hd,List.getElem?_eq_getElem]
theorem Cells.set {w:World} {L:List Nat} {cs ds:List Value} {xs:List α} {i:Nat} {x:α} (h:Cells w L cs xs) (hi:i < xs.length) (hd:Rep.R w L ds x) :
    Cells w L (cs.take (i * Rep.size α) ++ ds ++ cs.drop (i * Rep.size α + ds.length)) (xs.set i x):=by
  have hl:=Rep.len hd
  have hp:=Rep.pos (α:=α)
  have hle:i * Rep.size α + Rep.size α <= cs.length:=by rw [h.1,<- Nat.succ_mul]; exact Nat.mul_le_mul_right _ hi
  have ht:(cs.take (i * Rep.size α)).length = i * Rep.size α:=by rw [List.length_take]; omega
  refine ⟨by simp only [List.length_append,List.length_set,ht,hl,List.length_drop]; rw [h.1]; rw [h.1] at hle; omega,fun k hk=>?_⟩
  rw [List.length_set] at hk
  rw [List.getElem_set]
  split
  · rename_i e
    subst e
    rw [List.append_assoc,List.drop_append,ht,List.drop_of_length_le (by omega),List.nil_append,Nat.sub_self,List.drop_zero,<- hl,List.take_left]
    exact hd
  · rename_i hne
    have hkk:=h.2 k hk
    have he:((cs.take (i * Rep.size α) ++ ds ++ cs.drop (i * Rep.size α + ds.length)).drop (k * Rep.size α)).take (Rep.size α) = (cs.drop (k * Rep.size α)).take (Rep.size α):=by
      apply List.ext_getElem?
      intro j
      by_cases hj:j < Rep.size α
      · rw [List.getElem?_take_of_lt hj,List.getElem?_take_of_lt hj,List.getElem?_drop,List.getElem?_drop]
        rcases Nat.lt_or_ge k i with hki | hki
        · have:k * Rep.size α + j < i * Rep.size α:=by
            have:=Nat.mul_le_mul_right (Rep.size α) (show k + 1 <= i from hki); rw [Nat.succ_mul] at this; omega
          rw [List.append_assoc,List.getElem?_append_left (by rw [ht]; exact this),List.getElem?_take_of_lt this]
        · have:i * Rep.size α + Rep.size α <= k * Rep.size α + j:=by
            have:=Nat.mul_le_mul_right (Rep.size α) (show i + 1 <= k by omega); rw [Nat.succ_mul] at this; omega
          rw [List.getElem?_append_right (by rw [List.length_append,ht,hl]; exact this),List.length_append,ht,hl,List.getElem?_drop]
          congr 1; omega
      · rw [List.getElem?_eq_none (by rw [List.length_take]; omega),List.getElem?_eq_none (by rw [List.length_take]; omega)]
    rw [he]; exact hkk
theorem Cells.replicate {w:World} {L:List Nat} {ds:List Value} {x:α} (hd:Rep.R w L ds x):∀ n,Cells w L (List.replicate n ds).flatten (List.replicate n x)
  | 0=>Cells.nil w L
  | n + 1=>by rw [List.replicate_succ,List.replicate_succ,List.flatten_cons]; exact Cells.cons hd (Cells.replicate hd n)
theorem Elems.cells {w:World} {L:List Nat} {A:Option Addr}:∀ {ys:List α},Elems w L A ys -> ∃ ds,Cells w L ds ys/\∀ ad,A = some ad -> ∀ j u,ds[j]? = some u -> w.cell? (ad.add j) = some u:=by
  intro ys h
  have key:∀ n,n <= ys.length -> ∃ ds,Cells w L ds (ys.take n)/\∀ ad,A = some ad -> ∀ j u,ds[j]? = some u -> w.cell? (ad.add j) = some u:=by
    intro n
    induction n with
    | zero=>intro _; exact ⟨[],by simpa using Cells.nil w L,fun ad _ j u hu=>by simp at hu⟩
    | succ n ih=>
      intro hn
      obtain ⟨ds,h1,h2⟩:=ih (by omega)
      obtain ⟨ad,e,_,cs,hr,hc⟩:=h n (by omega)
      refine ⟨ds ++ cs,by rw [List.take_succ_eq_append_getElem (by omega)]; exact h1.append (Cells.one hr),fun ad' e' j u hu=>?_⟩
      rw [e] at e'; cases e'
      have hl:ds.length = n * Rep.size α:=by rw [h1.1,List.length_take]; congr 1; omega
      rcases Nat.lt_or_ge j ds.length with hj | hj
      · rw [List.getElem?_append_left hj] at hu; exact h2 ad e j u hu
      · rw [List.getElem?_append_right hj] at hu
        have:=hc _ u hu
        rwa [<- hl,show ds.length + (j - ds.length) = j by omega] at this
  obtain ⟨ds,h1,h2⟩:=key ys.length (Nat.le_refl _)
  rw [List.take_length] at h1
  exact ⟨ds,h1,h2⟩
theorem Rep.allCells {w:World} {L:List Nat} {v:Value} {xs:List α} (h:Rep.R w L [v] xs):∃ A c ds,v = .slice A xs.length c/\Cells w L ds xs/\∀ ad,A = some ad -> ∀ j u,ds[j]? = some u -> w.cell? (ad.add j) = some u:=by
  obtain ⟨A,c,e,_,_,_,hE⟩:=h
  cases e
  obtain ⟨ds,h1,h2⟩:=hE.cells
  exact ⟨A,c,ds,rfl,h1,h2⟩
theorem row_rep {w:World} {L:List Nat} {base:Nat} {e:TypeId} {v:Value} {cs:List Value} {xs:List α} (h:(Ob.row base e (Rep.size α) v xs.length cs).holds w) (hc:Cells w L cs xs) (hL:∀ b,v.ownBlock = some b -> b ∉ L):Rep.R w L [v] xs:=by
  obtain ⟨⟨h1,h2⟩,h3⟩:=h
  rcases h2 with ⟨rfl,h0⟩ | ⟨g,cap,cur,rfl,hb,hg,hn,hm,hs,ht⟩
  · obtain rfl:xs = []:=List.eq_nil_of_length_eq_zero h0
    exact Rep.nilSlice w L
  · refine ⟨some ⟨g,0,none⟩,cap,rfl,hn,hm,(by unfold mostR at h3; unfold most; omega),fun i hi=>⟨_,rfl,hL g rfl,_,hc.2 i hi,fun j u hu=>?_⟩⟩
    have hp:=Rep.pos (α:=α)
    have hj:j < Rep.size α:=by
      by_cases hj:j < Rep.size α
      · exact hj
      · rw [List.getElem?_eq_none (by rw [List.length_take]; omega)] at hu; cases hu
    rw [List.getElem?_take_of_lt hj,List.getElem?_drop] at hu
    have hadd:(⟨g,0,none⟩:Addr).add (i * Rep.size α + j) = ⟨g,i * Rep.size α + j,none⟩:=by unfold Addr.add; split <;> simp_all
    rw [hadd,cell_of_row w g _ _ e (0,0) hg,<- Array.getElem?_toList]
    rw [<- ht] at hu
    have hlt:i * Rep.size α + j < xs.length * Rep.size α:=by
      have:=Nat.mul_le_mul_right (Rep.size α) (show i + 1 <= xs.length from hi); rw [Nat.succ_mul] at this; omega
    rwa [List.getElem?_take_of_lt hlt] at hu
end
end Go.Proofs.YtgejkdheojkfiaaGreatDoor
