/- Laws of the walk that speak of lists: rows, slices, contracts. No program in sight. -/
import Derived.Test.YtgejkdheojkfiaaGreatDoorPMz
namespace Go.Proofs.YtgejkdheojkfiaaGreatDoor
open Go Go.RowKit
inductive Arr:List Ob -> List Ob -> Prop
  | done {O:List Ob}:Arr O []
  | one {O O1 O' : List Ob} {o:Ob} (h:Out O o O1) (h2:Arr O1 O'):Arr O (o :: O')
theorem Out.mem {O O' : List Ob} {o:Ob} (h:Out O o O') {b:Nat} (hb:o.block = some b):b ∈ bl O:=by
  induction h with
  | hd=>exact mem_bl_cons.2 (.inl hb)
  | tl _ ih=>exact mem_bl_cons.2 (.inr (ih hb))
theorem Arr.bl {O O' : List Ob} (h:Arr O O') {b:Nat} (hb:b ∈ bl O'):b ∈ bl O:=by
  induction h with
  | done=>cases hb
  | one h _ ih=>
    rcases mem_bl_cons.1 hb with e | e
    · exact h.mem e
    · exact h.del.bl (ih e)
theorem Arr.owns {w:World} {O O' : List Ob} (h:Arr O O') (ho:Owns w O):Owns w O' :=by
  induction h with
  | done=>trivial
  | one h h2 ih=>
    obtain ⟨h3,h4⟩:=h.get ho
    exact ⟨h3,fun b e hm=>h4 b e (h2.bl hm),ih (h.del.owns ho)⟩
theorem St.arr {w0 w:World} {O O' : List Ob} (s:St w0 w O) (h:Arr O O'):St w0 w O' :=⟨s.ag,fun b hb=>s.new b (h.bl hb),h.owns s.ok⟩
theorem Tr.arr {w:World} {O O' : List Ob} (h:Arr O O'):Tr w O w O' :=⟨Agree.refl _ _,fun _ hb=>.inl (h.bl hb)⟩
theorem St.hL {w0 w w9:World} {O:List Ob} {L:List Nat} (s:St w0 w O) (h:∀ b ∈ L,b < w0.heap.size) (hw:Agree [] w w9):∀ b ∈ bl O ++ L,b < w9.heap.size:=fun b hb=>by
  rcases List.mem_append.1 hb with hb | hb
  · exact Nat.lt_of_lt_of_le (s.ok.lt b hb) hw.size
  · exact Nat.lt_of_lt_of_le (h b hb) (Nat.le_trans s.ag.size hw.size)
theorem St.memA {w0 w:World} {O:List Ob} {b:Nat} {cs:List Value} {t:TypeId} (h:St w0 w O) (u:At O (.cells b cs t)):∀ j v,cs[j]? = some v -> w.cell? ((⟨b,0,none⟩:Addr).add j) = some v:=blk_mem (h.get u.upd)
theorem St.nilRow {w0 w:World} {O:List Ob} (s:St w0 w O) (e:TypeId) (sz:Nat):St w0 w (.row w0.heap.size e sz (.slice none 0 0) 0 [] :: O):=
  s.push (Agree.refl _ _) ⟨World.ownsRow_nil w _ e _,by simp [mostR]⟩ (fun b e=>by cases e)
theorem Tr.nilRow {w:World} {O:List Ob} (base:Nat) (e:TypeId) (sz:Nat):Tr w O w (.row base e sz (.slice none 0 0) 0 [] :: O):=Tr.push (Agree.refl _ _) (fun b e=>by cases e)
section
variable {α:Type} [Rep α] {w w0:World} {O O' : List Ob} {L:List Nat} {v:Value} {xs ys zs:List α} {cs:List Value} {e:TypeId} {base:Nat}
theorem St.freeze (s:St w0 w O) (u:Out O (.row base e (Rep.size α) v xs.length cs) O') (hc:Cells w (bl O ++ L) cs xs) (hL:∀ b ∈ L,b < w0.heap.size):Rep.R w (bl O' ++ L) [v] xs:=by
  obtain ⟨h1,h2⟩:=u.get s.ok
  have hc' : Cells w (bl O' ++ L) cs xs:=⟨hc.1,fun i hi=>Rep.shun (hc.2 i hi) (fun b hb=>.inl (by
    rcases List.mem_append.1 hb with hb | hb
    · exact List.mem_append.2 (.inl (u.del.bl hb))
    · exact List.mem_append.2 (.inr hb)))⟩
  refine row_rep h1 hc' (fun b hb hm=>?_)
  rcases List.mem_append.1 hm with hm | hm
  · exact h2 b hb hm
  · have:=s.new b (u.mem hb); have:=hL b hm; omega
theorem St.rowV (s:St w0 w O) (u:At O (.row base e (Rep.size α) v xs.length cs)):∃ A c,v = .slice A xs.length c:=by
  obtain ⟨A,c,h,_⟩:=s.rowForm u.upd; exact ⟨A,c,h⟩
theorem St.rowLe (s:St w0 w O) (u:At O (.row base e (Rep.size α) v xs.length cs)):xs.length <= 4294967296:=by
  obtain ⟨A,c,_,h,_⟩:=s.rowForm u.upd; exact h
theorem St.nth (s:St w0 w O) (u:At O (.row base e (Rep.size α) v xs.length cs)) (hc:Cells w L cs xs) {i:Nat} {x:α} (hx:xs[i]? = some x) :
    ∃ (A:Addr) (c:Nat),v = .slice (some A) xs.length c/\i < xs.length/\∃ es,Rep.R w L es x/\∀ j u,es[j]? = some u -> w.cell? ((A.add (i * Rep.size α)).add j) = some u:=by
  obtain ⟨hi,rfl⟩:=List.getElem?_eq_some_iff.1 hx
  obtain ⟨A,c,h1,_,_,_,h5,h6⟩:=s.rowForm u.upd
  obtain ⟨bk,rfl⟩:=h5 (by omega)
  exact ⟨_,c,h1,hi,_,hc.2 i hi,fun j u hu=>by
    exact mem_part (h6 _ rfl) _ _ j u hu⟩
theorem St.nthOwn (s:St w0 w O) (u:At O (.row base e (Rep.size α) v xs.length cs)) {i:Nat} (hi:i < xs.length):∃ bk c,v = .slice (some ⟨bk,0,none⟩) xs.length c:=by
  obtain ⟨A,c,h1,_,_,_,h5,h6⟩:=s.rowForm u.upd
  obtain ⟨bk,rfl⟩:=h5 (by omega)
  exact ⟨bk,c,h1⟩
def Src (w:World) (L:List Nat) (v:Value) (ys:List α):Prop:=∃ A c ds,v = .slice A ys.length c/\Cells w L ds ys/\(∀ ad,A = some ad -> ∀ j u,ds[j]? = some u -> w.cell? (ad.add j) = some u)/\(A = none -> ys.length = 0)
theorem Src.rep (h:Rep.R w L [v] ys):Src w L v ys:=by
  obtain ⟨A,c,ds,h1,h2,h3⟩:=Rep.allCells h
  refine ⟨A,c,ds,h1,h2,h3,fun hA=>?_⟩
  rcases Nat.eq_zero_or_pos ys.length with h0 | h0
  · exact h0
  · obtain ⟨A', c', h4,_⟩:=Rep.nth h (List.getElem?_eq_getElem h0)
    rw [h1] at h4; cases h4; cases hA
theorem Src.row (s:St w0 w O) (u:At O (.row base e (Rep.size α) v ys.length cs)) (hc:Cells w L cs ys):Src w L v ys:=by
  obtain ⟨A,c,h1,_,_,h4,_,h6⟩:=s.rowForm u.upd
  exact ⟨A,c,cs,h1,hc,h6,h4⟩
structure ElT (P:Program) (t e sz bytes:Nat) (z:Value) (zs:List Value):Prop where
  ht:P.underlying t = some (.slice e)
  info:(P.info? e).map (fun i=>(i.zero,i.size,i.bytes)) = some (some z,sz,bytes)
  hz:z.cells = zs.toArray
  len:zs.length = sz
  pos:Nat.blt 0 sz = true
  small:Nat.ble bytes 32768 = true
theorem ElT.size {P:Program} {t e sz bytes:Nat} {z:Value} {zs:List Value} (h:ElT P t e sz bytes z zs):sizeB P e sz = true:=by
  have:=h.info
  unfold sizeB
  cases hi:P.info? e with
  | none=>rw [hi] at this; cases this
  | some i=>rw [hi] at this; simp at this; simp [this.2.1]
theorem ElT.zeros {P:Program} {t e sz bytes:Nat} {z:Value} {zs:List Value} (h:ElT P t e sz bytes z zs):zerosB P e zs:=by
  have:=h.info
  unfold zerosB
  cases hi:P.info? e with
  | none=>rw [hi] at this; cases this
  | some i=>rw [hi] at this; simp at this; simp [this.1,h.hz]
variable {P:Program} {Z:Machine -> Prop} {b:Frame} {n:Nat} {ds:List Deferred} {cf:List Frame} {k:List Item} {σ τ:List (Nat × Value)} {ops:Array Oper} {l:List Oper} {d:Nat} {ty:TypeId} {ps:String} {af:Array Edge} {x y:Operand} {t:TypeId} {g:Option (Nat × Bool)} {bytes:Nat} {z:Value} {zc:List Value} {dd:Option Tmp}
def Apps (w0 w:World) (O:List Ob) (L:List Nat) (F:Value -> List Value -> List Ob) (zs:List α) (v' : Value) (w1:World):Prop:=∃ cs', St w0 w1 (F v' cs')/\Tr w O w1 (F v' cs')/\Cells w1 (bl (F v' cs') ++ L) cs' zs
theorem DoesL.app {yv:Value} {F:Value -> List Value -> List Ob} (hz:app xs ys = some zs) (s:St w0 w O) (u:∀ v' cs', Upd O (.row w0.heap.size e (Rep.size α) v xs.length cs) (.row w0.heap.size e (Rep.size α) v' zs.length cs') (F v' cs')) (el:ElT P t e (Rep.size α) bytes z zc)
    (hx:ev σ x = some v) (hy:ev σ y = some yv) (hc:Cells w (bl O ++ L) cs xs) (hs:Src w (bl O ++ L) yv ys):DoesL P ⟨dd,.call { callee:=.builtin .append,args:=#[x,y],argTypes:=#[t,t] },ty,ps,af,g⟩ σ w (Apps w0 w O L F zs):=by
  obtain ⟨A,c,ds', rfl,h2,h3,h4⟩:=hs
  obtain ⟨rfl,hfit⟩:=app_in hz
  have key:=DoesL.append (P:=P) (t:=t) (dd:=dd) (ty:=ty) (ps:=ps) (af:=af) (g:=g) (F:=fun v' =>F v' (cs ++ ds')) (cs2:=ds') s (fun v' =>by have:=u v' (cs ++ ds'); rwa [List.length_append] at this) el.ht el.info el.hz el.len el.pos el.small hx hy h2.1 h3 h2.cell h4 hfit
  intro ρ ha w' hw
  obtain ⟨v', w1,h5,h6,h7⟩:=key ρ ha w' hw
  exact ⟨v', w1,h5,cs ++ ds', h6,h7,(hc.append h2).mv h7⟩
theorem Does.build {m:Nat} {parts:List (Nat × Operand)} {vs ds' : List Value} (hxs:xs.length = m) (s:St w0 w O) (el:ElT P t e (Rep.size α) bytes z zc) (hm:Nat.ble (m * Rep.size α) 16777216 = true) (hv:evs σ (parts.map Prod.snd) vs)
    (hfill:Instr.fill (fun i=>some (i * Rep.size α,Rep.size α)) ((Array.range (m * Rep.size α)).map (zc.toArray[· % zc.toArray.size]!)) ((parts.map Prod.fst).zip vs) = some ds'.toArray) (hlen:ds'.length = m * Rep.size α) :
    Does P ⟨dd,.buildSlice t m parts.toArray,ty,ps,af,g⟩ σ w (New w0 w O (fun b' =>.row w0.heap.size e (Rep.size α) (.slice (some ⟨b', 0,none⟩) m m) xs.length ds') (fun b' =>.slice (some ⟨b', 0,none⟩) m m)):=by
  subst hxs
  exact Does.buildSlice s el.ht el.size el.zeros hm el.pos hv hfill hlen
theorem Does.mk {mi:Int} {x0:α} (hmk:mk mi x0 = some xs) (s:St w0 w O) (el:ElT P t e (Rep.size α) bytes z zc) (hx:ev σ x = some (.int .i64 mi)) :
    Does P ⟨dd,.makeSlice t x x,ty,ps,af,g⟩ σ w (New w0 w O (fun b' =>.row w0.heap.size e (Rep.size α) (.slice (some ⟨b', 0,none⟩) mi.toNat mi.toNat) xs.length (List.replicate mi.toNat zc).flatten) (fun b' =>.slice (some ⟨b', 0,none⟩) mi.toNat mi.toNat)):=by
  obtain ⟨rfl,h1,h2⟩:=mk_in hmk
  rw [List.length_replicate]
  exact Does.make s el.ht el.info el.hz el.len hx h1 h2 el.small
theorem Cells.mk {mi:Int} {x0:α} {zc:List Value} (hmk:mk mi x0 = some xs) (h:Rep.R w L zc x0):Cells w L (List.replicate mi.toNat zc).flatten xs:=by
  obtain ⟨rfl,h1,h2⟩:=mk_in hmk
  exact Cells.replicate h _
theorem Acts.set {i:Nat} {yv:Value} {zx:α} {news:List Value} {bk c:Nat} {F:List Value -> List Ob} {pa:Addr} (hput:put xs (i:Int) zx = some ys) (s:St w0 w O) (he:v = .slice (some ⟨bk,0,none⟩) xs.length c) (u:∀ cs', Upd O (.row base e (Rep.size α) v xs.length cs) (.row base e (Rep.size α) v ys.length cs') (F cs')) (hc:Cells w (bl O ++ L) cs xs)
    (hx:ev σ x = some (.pointer (some pa))) (hp:pa = (⟨bk,0,none⟩:Addr).add (i * Rep.size α)) (hy:ev σ y = some yv) (hv:yv.cells = news.toArray) (hr:Rep.R w (bl O ++ L) news zx) (hs:sizeB P t (Rep.size α) = true) :
    Acts P ⟨dd,.store t x y,ty,ps,af,g⟩ σ w (fun w1=>∃ cs', St w0 w1 (F cs')/\Tr w O w1 (F cs')/\Cells w1 (bl (F cs') ++ L) cs' ys):=by
  subst he
  obtain ⟨rfl,_,hi⟩:=put_in hput
  simp only [Int.toNat_natCast,List.length_set] at *
  have hl:=Rep.len hr
  have hle:i * Rep.size α + Rep.size α <= cs.length:=by rw [hc.1,<- Nat.succ_mul]; exact Nat.mul_le_mul_right _ hi
  have key:=Acts.storeRow (P:=P) (t:=t) (dd:=dd) (ty:=ty) (ps:=ps) (af:=af) (g:=g) (old:=cs) (news:=news) s (u _) hx hp hy hv (by rw [hl]; exact hs) (by rw [hl]; exact hle) (Rep.one hr) rfl
  intro ρ ha w' hw
  obtain ⟨w1,h5,h6,h7⟩:=key ρ ha w' hw
  exact ⟨w1,h5,_,h6,h7,(hc.set hi hr).mv h7⟩
theorem FV.idxAddr {m len c i:Nat} {kd:IntKind} {j:Int} {p:Addr} (ht:elemB P t m = true) (hx:ev σ x = some v) (he:v = .slice (some p) len c) (hy:ev σ y = some (.int kd j)) (hj:j = (i:Int)) (hk:i < len):FV P ⟨dd,.indexAddr t x y,ty,ps,af,g⟩ σ w (.pointer (some (p.add (i * m)))):=
  FV.indexAddr ht (by rw [hx,he]) hy rfl hj hk
theorem FV.lenV {A:Option Addr} {m c:Nat} (ht:P.underlying t = some (.slice e)) (hx:ev σ x = some v) (he:v = .slice A m c):FV P ⟨dd,.call { callee:=.builtin .len,args:=#[x],argTypes:=#[t] },ty,ps,af,g⟩ σ w (.int .i64 m):=FV.len_slice ht (by rw [hx,he])
end
theorem Rep.dropO {α:Type} [Rep α] {w:World} {O:List Ob} {L:List Nat} {cs:List Value} {x:α} (h:Rep.R w (bl O ++ L) cs x):Rep.R w L cs x:=Rep.shun h (fun _ hb=>.inl (List.mem_append.2 (.inr hb)))
theorem lst_one {α:Type} [Rep α] {w:World} {L:List Nat} {cs:List Value} {xs:List α} (h:Rep.R w L cs xs):∃ v,cs = [v]/\Rep.R w L [v] xs:=by
  have h0:=h
  obtain ⟨A,c,rfl,_⟩:=h
  exact ⟨_,rfl,h0⟩
end Go.Proofs.YtgejkdheojkfiaaGreatDoor
