/- Laws of the walk, more of them: strings, words of 32 bits, arrays as slices. No program in sight. -/
import Derived.Test.YtkommhmbkbhmlaaGreatRMj
import Derived.Laws.BytesString
import Derived.Laws.CopyRow
import Derived.Maps.RangeRun
import Derived.Lib.AppendZeros
import Derived.Shelf.SlSortCmp.NoneTotal
namespace Go.Proofs.YtkommhmbkbhmlaaGreat
open Go Go.RowKit
instance:Rep UInt32:=Rep.plain (fun x=>.int .u32 (x.toNat:Int)) (fun _=>rfl)
def bstr (xs:List UInt8):ByteArray:=⟨xs.toArray⟩
section
variable {P:Program} {σ:List (Nat × Vc)} {w w0:World} {x y z:Operand} {d:Oa Tmp} {t t' s ty e:TypeId} {ps:String} {af:Array Edge} {g:Oa (Nat × Bool)} {O O' : List Ob} {v:Vc}
/-! ### Bytes as a string -/
theorem jw (xs:List UInt8):∀ r:ByteArray,(xs.map fun x=>(x.toNat:Int)).foldl (fun r n=>r.push (UInt8.ofNat n.toNat)) r = ⟨(r.data.toList ++ xs).toArray⟩:=by
 induction xs with
 | nil=>intro r; obtain ⟨⟨r⟩⟩:=r; simp
 | cons x xs ih=>
  intro r
  rw [List.map_cons,List.foldl_cons,ih]
  have hx:UInt8.ofNat ((x.toNat:Int).toNat) = x:=by simp
  rw [hx]
  obtain ⟨⟨r⟩⟩:=r
  simp [ByteArray.push]
theorem FV.bytesS {xs:List UInt8} {L:List Nat} (hs:P.underlying s = some (.slice e)) (ht:P.underlying t = some .string) (he:P.underlying e = some (.int .u8)) (hx:ev σ x = some v) (h:Src w L v xs):FV P ⟨d,.convert s t x,ty,ps,af,g⟩ σ w (.string (bstr xs)):=fun ρ ha w' hw=>by
 obtain ⟨A,c,ds,rfl,hc,hm,hA⟩:=h
 have hds:ds = xs.map fun x=>(Value.int .u8 (x.toNat:Int)):=by
  apply List.ext_getElem?
  intro i
  have hl:ds.length = xs.length:=by have:=hc.1; rwa [show Rep.size UInt8 = 1 from I,Nat.mul_one] at this
  rcases Nat.lt_or_ge i xs.length with hi | hi
  ·have h2:=hc.2 i hi
   rw [show Rep.size UInt8 = 1 from I,Nat.mul_one] at h2
   have h3:(ds.drop i).take 1 = [.int .u8 (xs[i].toNat:Int)]:=h2
   have h4:=congrArg (·[0]?) h3
   simp only [List.getElem?_cons_zero,List.getElem?_take,Nat.zero_lt_one,if_true,List.getElem?_drop,Nat.add_zero] at h4
   rw [h4,List.getElem?_map,List.getElem?_eq_getElem hi]; rfl
  ·rw [List.getElem?_eq_none (by omega),List.getElem?_eq_none (by rw [List.length_map]; omega)]
 have key:(Conv.bytesToString (.slice A xs.length c)).run P w' = .ok (.string (bstr xs)) w' :=by
  cases A with
  | none=>
   obtain rfl:=List.eq_nil_of_length_eq_zero (hA I)
   rfl
  | some ad=>
   have hl:(loadCells ad xs.length).run P w' = .ok ((xs.map fun x=>(x.toNat:Int)).map (Value.int .u8)).toArray w' :=by
    have h1:=run_loadCells_list (P:=P) w' ad ds (fun j u hu=>hw.cell0 (hm ad I j u hu))
    rw [hds,List.length_map] at h1
    rw [h1,List.map_map]; rfl
   rw [run_bytesToString w' ad xs.length c _ hl,jw]
   rfl
 simp [execOp,convert,ha _ _ hx,run_underlying hs,run_underlying ht,run_underlying he,key]
/-! ### Arrays as slices -/
theorem Src.arr {α:Type} [Rep α] {L:List Nat} {ys:List α} {p:Addr} {ds:List Vc} {n:Nat} (hm:∀ j u,ds[j]? = some u -> w.cell? (p.add j) = some u) (hc:Cells w L ds ys) (hn:ys.length = n):Src w L (.slice (some p) n n) ys:=by
 subst hn
 exact ⟨some p,_,ds,rfl,hc,fun ad e=>by cases e; exact hm,fun e=>by cases e⟩
def aO {α:Type} (ys:List α) (j:Nat) (o:α):α:=(ys[j]?).getD o
def cpL {α:Type} (ys:List α):Nat -> List α -> List α
 | _,[]=>[]
 | j,o :: os=>aO ys j o :: cpL ys (j + 1) os
theorem lU {α:Type} (ys:List α):∀ (os:List α) (j:Nat),cpL ys j os = (ys.drop j).take os.length ++ os.drop (min (ys.length - j) os.length)
 | [],j=>by simp [cpL]
 | o :: os,j=>by
  rw [cpL,lU ys os (j + 1)]
  unfold aO
  rcases Nat.lt_or_ge j ys.length with hj | hj
  ·rw [List.getElem?_eq_getElem hj,Option.getD_some,List.drop_eq_getElem_cons hj,List.length_cons,List.take_succ_cons,List.cons_append]
   congr 2
   rw [show min (ys.length - j) (os.length + 1) = min (ys.length - (j + 1)) os.length + 1 by omega,List.drop_succ_cons]
  ·rw [List.getElem?_eq_none hj,Option.getD_none,List.drop_of_length_le hj,List.drop_of_length_le (by omega:ys.length <= j + 1)]
   rw [show ys.length - j = 0 by omega,show ys.length - (j + 1) = 0 by omega]
   simp
theorem DoesL.copyArr {α:Type} [Rep α] (f:α -> Vc) {L:List Nat} {olds ys:List α} {pre post old new' : List Vc} {bk m' n:Nat} {eo:TypeId} {p:Addr} {sv:Vc} {dd:Oa Tmp} (hsz:Rep.size α = 1) (hf:∀ w L cs (x:α),Rep.R w L cs x -> cs = [f x]) (s:St w0 w O) (u:Upd O (.cells bk old eo) (.cells bk new' eo) O') (ht:dU P t 1 = true)
  (hx:ev σ x = some (.slice (some p) n n)) (hp:p = ⟨bk,m', none⟩) (hm:pre.length = m') (hn:olds.length = n) (ho:old = pre ++ olds.map f ++ post) (hnw:new' = pre ++ (cpL ys 0 olds).map f ++ post) (hy:ev σ y = some sv) (hs:Src w L sv ys) :
  DoesL P ⟨dd,.call { callee:=.builtin .copy,args:=#[x,y],argTypes:=#[t,t'] },ty,ps,af,g⟩ σ w (fun r w1=>r = .int .i64 ((min ys.length n:Nat):Int)/\Now w0 w O O' w1):=by
 intro ρ ha w' hw
 subst hp
 obtain ⟨As,cc,ds,rfl,g2,g3,g4⟩:=hs
 have hl:ds.length = ys.length:=by rw [g2.1,hsz,Nat.mul_one]
 have hds:ds = ys.map f:=by
  apply List.ext_getElem?
  intro i
  rcases Nat.lt_or_ge i ys.length with hi | hi
  ·have h2:=hf _ _ _ _ (g2.2 i hi)
   rw [hsz,Nat.mul_one] at h2
   have h4:=congrArg (·[0]?) h2
   simp only [List.getElem?_cons_zero,List.getElem?_take,Nat.zero_lt_one,if_true,List.getElem?_drop,Nat.add_zero] at h4
   rw [h4,List.getElem?_map,List.getElem?_eq_getElem hi]; rfl
  ·rw [List.getElem?_eq_none (by omega),List.getElem?_eq_none (by rw [List.length_map]; omega)]
 have hb:=s.get u
 have hb' : w'.heap[bk]? = some (.cells old.toArray eo (0,0)):=aL hw hb
 have hnew:new' = old.take m' ++ ds.take (min ys.length n) ++ old.drop (m' + (ds.take (min ys.length n)).length):=by
  have e1:cpL ys 0 olds = ys.take (min ys.length n) ++ olds.drop (min ys.length n):=by
   rw [lU,List.drop_zero,Nat.sub_zero,hn]
   congr 1
   rcases Nat.le_total ys.length n with h | h
   ·rw [Nat.min_eq_left h,List.take_of_length_le h,List.take_length]
   ·rw [Nat.min_eq_right h]
  have e2:(ds.take (min ys.length n)).length = min ys.length n:=by rw [List.length_take,hl]; omega
  rw [hnw,e1,e2,ho,hds,<- List.map_take]
  subst hm
  rw [List.append_assoc pre (List.map f olds),List.take_left,List.drop_length_add_append,List.map_append,List.drop_append_of_le_length (by rw [List.length_map]; omega),List.map_drop]
  simp [List.append_assoc]
 unfold dU at ht
 split at ht
 ·rename_i el hun
  split at ht
  ·rename_i jj hjj
   have hinfo:(P.info? el).map (·.size) = some 1:=by rw [hjj]; simp; simpa using ht
   have hst:∀ w1,Agree [bk] w' w1 -> w1.heap[bk]? = some (.cells new'.toArray eo (0,0)) -> Now w0 w O O' w1:=fun w1 hag h1=>by
    have hag' : Agree [bk] w w1:=(hw.widen).trans hag
    have hL:∀ b ∈ [bk],(Ob.cells bk old eo).block = some b:=by simp [Ob.block]
    exact ⟨s.upd u hag' hL h1 (fun b e=>.inl e),Tr.upd u hag' hL (fun b e=>.inl e)⟩
   by_cases hk:min ys.length n = 0
   ·refine ⟨.int .i64 0,w', ?_,by rw [hk]; rfl,hst w' (Agree.refl _ _) ?_⟩
    ·have:=run_copy_none (P:=P) w' t t' ty el (some ⟨bk,m', none⟩) As n n ys.length cc hun hinfo hk
     simp only [execOp,resolve,invoke,builtin,Array.map]
     simp [ha _ _ hx,ha _ _ hy,this,goInt]
    ·rw [hb']
     have:new' = old:=by rw [hnew,hk]; simp
     rw [this]
   ·cases hAs:As with
    | none=>have:=g4 hAs; omega
    | some a=>
     have hfit:m' + (ds.take (min ys.length n)).length <= old.length:=by
      rw [ho,List.length_take,hl]; simp only [List.length_append,List.length_map]; omega
     have key:=run_copy_row (P:=P) w' t t' ty el bk m' n n a ys.length cc old.toArray eo (ds.take (min ys.length n)) hun hinfo hb' (by rw [List.length_take,hl]; show _ = min _ _; omega)
      (fun j u9 hj=>hw.cell0 (kJ (g3 a hAs) _ j u9 hj)) (by simpa using hfit) (fun u9 hm=>g2.cell u9 (List.mem_of_mem_take hm))
     refine ⟨.int .i64 ((min ys.length n:Nat):Int),w'.setRow bk (old.take m' ++ ds.take (min ys.length n) ++ old.drop (m' + (ds.take (min ys.length n)).length)).toArray,?_,I,hst _ (cT hb' _) ?_⟩
     ·have hkl:(ds.take (min ys.length n)).length = min ys.length n:=by rw [List.length_take,hl]; omega
      rw [hkl] at key ⊢
      subst hAs
      simp only [execOp,resolve,invoke,builtin,Array.map]
      simp only [Sem.run_bind]
      simp [ha _ _ hx,ha _ _ hy,key,goInt]
     ·rw [hnew]; exact setRow_heap w' bk _ _ eo _ hb'
  ·cases ht
 ·cases ht
/-! ### Great arrays -/
end
/-! ### Calls that hand over slices of their own -/
/-! ### Facts at a standing -/
section
variable {α:Type} [Rep α] {w0 w w1:World} {O O' : List Ob}
theorem Rep.nilAt (_:St w0 w O) (L:List Nat):Rep.R w (bl O ++ L) [.slice none 0 0] ([]:List α):=Rep.nilSlice _ _
theorem Rep.at_ {v:Vc} {xs:List α} (_:St w0 w O) (L:List Nat) (h:Rep.R w (bl O ++ L) [v] xs):Rep.R w (bl O ++ L) [v] xs:=h
theorem Cells.at_ {cs:List Vc} {xs:List α} (_:St w0 w O) (L:List Nat) (h:Cells w (bl O ++ L) cs xs):Cells w (bl O ++ L) cs xs:=h
end
section
variable {w0 w w1:World} {O O' : List Ob}
theorem St.delS {o:Ob} (s:St w0 w O) (u:Out O o O'):St w0 w O' :=s.del u.del
theorem St.delT {o:Ob} (_:St w0 w O) (u:Out O o O'):Tr w O w O' :=Tr.del u.del
theorem St.arrB (s:St w0 w O) (h:Arr O O'):St w0 w O' /\Tr w O w O' :=⟨s.arr h,Tr.arr h⟩
theorem St.agr (s:St w0 w O) (h:Agree [] w w1):St w0 w1 O/\Tr w O w1 O:=⟨s.agree h,Tr.agree h⟩
theorem St.nilRowT (_:St w0 w O) (e:TypeId) (sz:Nat):Tr w O w (.row w0.heap.size e sz (.slice none 0 0) 0 [] :: O):=Tr.nilRow _ _ _
end
/-! ### Short forms -/
section
variable {P:Program} {Z:Machine -> Prop} {b:Frame} {n:Nat} {ds:List Deferred} {cs:List Frame} {k:List Item} {σ:List (Nat × Vc)} {w w0:World} {ops:Array Oper} {l:List Oper} {d:Nat} {op:Op} {ty:TypeId} {ps:String} {af:Array Edge} {v:Vc} {x y:Operand} {t f m m' i:Nat} {O O' : List Ob} {g:Oa (Nat × Bool)} {κ:KP}
theorem RG.vv (hq:FV P ⟨some d,op,ty,ps,af,none⟩ σ w v) (hd:Nat.blt d n = true) (h:RG P Z b n ds cs ops l k ((d,v) :: σ) w):RG P Z b n ds cs ops (⟨some d,op,ty,ps,af,none⟩ :: l) k σ w:=RG.val' .plain hq hd h
theorem RG.mv (hx:ev σ x = some v) (hd:Nat.blt d n = true) (h:RG P Z b n ds cs ops l k ((d,v) :: σ) w):RG P Z b n ds cs ops (⟨some d,.move x,ty,ps,af,none⟩ :: l) k σ w:=RG.val' .plain (FV.move hx) hd h
theorem RG.sg (hx:ev σ x = some v) (hd:Nat.blt d n = true) (h:RG P Z b n ds cs ops l k ((d,v) :: σ) w):RG P Z b n ds cs ops (⟨some d,.assign x,ty,ps,af,none⟩ :: l) k σ w:=RG.val' .plain (FV.assign hx) hd h
theorem MX.sr {id:Nat} {c:Code} (h:RG P Z b n ds cs l.toArray l (.code c :: k) σ w):MX P Z b n ds cs (.code (.seq (.region id l.toArray false) c) :: k) σ w:=MX.seq (MX.region h)
theorem Acts.storeAll {bk:Nat} {p:Addr} {old news:List Vc} {e t:TypeId} {dd:Oa Tmp} (s:St w0 w O) (u:Upd O (.cells bk old e) (.cells bk news e) O') (hx:ev σ x = some (.pointer (some p))) (hp:p = ⟨bk,0,none⟩) (hy:ev σ y = some v) (hv:v.cells = news.toArray) (hs:cV P t news.length = true) (hl:old.length = news.length) (h1:∀ u ∈ news,u.oneCell' = true):Acts P ⟨dd,.store t x y,ty,ps,af,g⟩ σ w (Now w0 w O O'):=
 Acts.store (j:=0) s u hx hp hy hv hs (by rw [Nat.ble_eq,hl]; omega) h1 (by rw [Nat.zero_add,<- hl,List.drop_length,List.take_zero]; simp)
theorem RD.vw {T:List (Nat × Nat × Nat)} (i m' : Nat) (hT:ba ops = T) (hi:ops[i]? = some ⟨some d,op,ty,ps,af,none⟩) (hp:aM ops = true) (hq:∀ w,FV P ⟨some d,op,ty,ps,af,none⟩ σ w v) (hd:Nat.blt d n = true)
  (h:RD κ P Z b n ds cs ops t f m' k ((d,v) :: σ) w) (hB:ez T t m i m' = true:=by kernel_rfl) (hfr:κ.free i = true:=by rfl):RD κ P Z b n ds cs ops t (f + 1) m k σ w:=RD.vP i m' hT hi hp .plain hq hd h hB hfr
theorem RD.vx {T:List (Nat × Nat × Nat)} (i m' W:Nat) (hT:ba ops = T) (hi:ops[i]? = some ⟨some d,op,ty,ps,af,none⟩) (hp:aM ops = true) (hq:FV P ⟨some d,op,ty,ps,af,none⟩ σ w v) (hd:Nat.blt d n = true)
  (h:RD κ P Z b n ds cs ops t f m' k ((d,v) :: σ) w) (hB:gn T t m W i m' = true:=by kernel_rfl) (hfr:κ.free i = true:=by rfl):RD κ P Z b n ds cs ops t (f + 1) m k σ w:=RD.val (fG hT hB) hi hp .plain hq hd h hfr
theorem RD.cq {T:List (Nat × Nat × Nat)} {fn:FuncId} {c:Operand} {xs:List Operand} {vs:List Vc} {ts:Array TypeId} (i m' W:Nat) (v:Vc) (hT:ba ops = T) (hi:ops[i]? = some ⟨some d,.call { callee:=.value c,args:=xs.toArray,argTypes:=ts },ty,ps,af,none⟩) (hp:aM ops = true)
  (hf:bD P fn = true) (hcal:ev σ c = some (.func (.func fn) #[] #[])) (hv:evs σ xs vs) (hc:∀ w', Agree [] w w' -> Calls P fn ([] ++ vs ++ []).toArray w' (ar w' fun _ u=>u = v)) (hd:Nat.blt d n = true)
  (h:RD κ P Z b n ds cs ops t f m' k ((d,v) :: σ) w) (hB:gn T t m W i m' = true:=by kernel_rfl) (hfr:κ.free i = true:=by rfl):RD κ P Z b n ds cs ops t (f + 1) m k σ w:=RD.callq (fst:=[]) (cap:=[]) (fG hT hB) hi hp .plain hf hcal hv hc hd h hfr
theorem RG.cq {fn:FuncId} {c:Operand} {xs:List Operand} {vs:List Vc} {ts:Array TypeId} (v:Vc) (hf:bD P fn = true) (hcal:ev σ c = some (.func (.func fn) #[] #[])) (hv:evs σ xs vs)
  (hc:∀ w', Agree [] w w' -> Calls P fn ([] ++ vs ++ []).toArray w' (ar w' fun _ u=>u = v)) (hd:Nat.blt d n = true) (h:RG P Z b n ds cs ops l k ((d,v) :: σ) w) :
  RG P Z b n ds cs ops (⟨some d,.call { callee:=.value c,args:=xs.toArray,argTypes:=ts },ty,ps,af,none⟩ :: l) k σ w:=RG.callq' (fst:=[]) (cap:=[]) .plain hf hcal hv hc hd h
theorem RD.nu {T:List (Nat × Nat × Nat)} {mk:Nat -> Ob} {pv:Nat -> Vc} (i m' : Nat) (hT:ba ops = T) (hi:ops[i]? = some ⟨some d,op,ty,ps,af,g⟩) (hg:Want ops σ g true) (hd:Nat.blt d n = true) (D:Does P ⟨some d,op,ty,ps,af,g⟩ σ w (New w0 w O mk pv)) (h:∀ w1 b', St w0 w1 (mk b' :: O) -> Tr w O w1 (mk b' :: O) -> RD κ P Z b n ds cs ops t f m' k ((d,pv b') :: σ) w1)
  (h1:eI T m [i] = true:=by kernel_rfl) (h2:gz T m i m' = true:=by kernel_rfl) (hk:κ.nd (lst ops.size m) -> Kp κ.c w:=by exact KP.triv):RD κ P Z b n ds cs ops t (f + 1) m k σ w:=RD.one (dA hT h1) (RO.new (dZ hT h2) hi hg hd D h) hk
theorem RD.nw {T:List (Nat × Nat × Nat)} (i m' : Nat) (hT:ba ops = T) (hi:ops[i]? = some ⟨none,op,ty,ps,af,g⟩) (htl:tail t i = true) (hg:Want ops σ g true) (D:Acts P ⟨none,op,ty,ps,af,g⟩ σ w (Now w0 w O O')) (h:∀ w1,St w0 w1 O' -> Tr w O w1 O' -> RD κ P Z b n ds cs ops t f m' k σ w1)
  (h1:eI T m [i] = true:=by kernel_rfl) (h2:gz T m i m' = true:=by kernel_rfl) (hk:κ.nd (lst ops.size m) -> Kp κ.c w:=by exact KP.triv):RD κ P Z b n ds cs ops t (f + 1) m k σ w:=RD.one (dA hT h1) (RO.now (dZ hT h2) hi htl hg D h) hk
theorem RD.cl {T:List (Nat × Nat × Nat)} {fn:FuncId} {c:Operand} {xs:List Operand} {vs:List Vc} {ts:Array TypeId} {R:World -> Vc -> Prop} (i m' : Nat) (hT:ba ops = T) (hi:ops[i]? = some ⟨some d,.call { callee:=.value c,args:=xs.toArray,argTypes:=ts },ty,ps,af,g⟩) (hg:Want ops σ g true)
  (hf:bD P fn = true) (hcal:ev σ c = some (.func (.func fn) #[] #[])) (hv:evs σ xs vs) (hc:∀ w', Agree [] w w' -> Calls P fn ([] ++ vs ++ []).toArray w' (ar w' R)) (hd:Nat.blt d n = true)
  (h:∀ w1 v,Agree [] w w1 -> R w1 v -> RD κ P Z b n ds cs ops t f m' k ((d,v) :: σ) w1) (h1:eI T m [i] = true:=by kernel_rfl) (h2:gz T m i m' = true:=by kernel_rfl) (hk:κ.nd (lst ops.size m) -> Kp κ.c w:=by exact KP.triv):RD κ P Z b n ds cs ops t (f + 1) m k σ w:=
 RD.one (dA hT h1) (RO.call (fst:=[]) (cap:=[]) (dZ hT h2) hi hg hf hcal hv hc hd h) hk
end
theorem ak {l:List Vc} (h:l.all (·.oneCell') = true):∀ u ∈ l,u.oneCell' = true:=List.all_eq_true.1 h
section
variable {α:Type} [Rep α] {w w0:World} {O O' : List Ob} {L:List Nat} {v:Vc} {xs ys zs:List α} {cs:List Vc} {e:TypeId} {base:Nat}
variable {P:Program} {σ:List (Nat × Vc)} {ty:TypeId} {ps:String} {af:Array Edge} {x y:Operand} {t:TypeId} {g:Oa (Nat × Bool)} {bytes:Nat} {z:Vc} {zc:List Vc} {dd:Oa Tmp}
inductive Reps {α:Type} [Rep α] (w:World) (L:List Nat):List (List Vc) -> List α -> Prop
 | nil:Reps w L [] []
 | cons {c:List Vc} {u:α} {css:List (List Vc)} {us:List α} (h:Rep.R w L c u) (t:Reps w L css us):Reps w L (c :: css) (u :: us)
end
section
variable {α:Type} [Rep α] {w0 w w9:World} {O:List Ob} {L:List Nat} {cs:List Vc} {x:α}
theorem St.k0 (s:St w0 w O) (h:Rep.R w0 L cs x) (hw:Agree [] w w9):Rep.R w9 L cs x:=Rep.keep0 h (s.ag.trans hw)
theorem St.km (s:St w0 w O) (h:Rep.R w0 L cs x) (hw:Agree [] w w9):Rep.R w9 (bl O ++ L) cs x:=Rep.keep0 (Rep.mv0 h s) hw
theorem St.kd (_:St w0 w O) (h:Rep.R w (bl O ++ L) cs x) (hw:Agree [] w w9):Rep.R w9 L cs x:=Rep.keep0 (Rep.dropO h) hw
end
section
variable {P:Program} {Z:Machine -> Prop} {b:Frame} {n:Nat} {ds:List Deferred} {cs:List Frame} {k:List Item} {σ τ:List (Nat × Vc)} {w:World} {ops:Array Oper} {l:List Oper} {d:Nat} {op:Op} {ty:TypeId} {ps:String} {af:Array Edge} {g:Oa (Nat × Bool)} {t f m m' i:Nat} {Q:Vc -> Prop} {κ:KP}
end
section
variable {w0 w w1:World} {O O' : List Ob}
end
/-! ### Shorter forms -/
@[reducible] def vI (x:Int):Vc:=.int .i64 x
@[reducible] def vN:Vc:=.slice none 0 0
@[reducible] def vP (b:Nat):Vc:=.pointer (some ⟨b,0,none⟩)
@[reducible] def vS (b n:Nat):Vc:=.slice (some ⟨b,0,none⟩) n n
section
variable {P:Program} {Z:Machine -> Prop} {b:Frame} {n:Nat} {ds:List Deferred} {cs:List Frame} {k:List Item} {σ:List (Nat × Vc)} {w w0:World} {ops:Array Oper} {l:List Oper} {d:Nat} {op:Op} {ty:TypeId} {ps:String} {af:Array Edge} {v:Vc} {x y c:Operand} {t f m m' i:Nat} {O O' : List Ob} {g:Oa (Nat × Bool)} {dd:Oa Tmp} {j:Nat} {q:Bool} {p:Addr}
theorem RG.mo (hx:ev σ x = some v) (h:RG P Z b n ds cs ops l k ((d,v) :: σ) w) (hd:Nat.blt d n = true:=by rfl):RG P Z b n ds cs ops (⟨some d,.move x,ty,ps,af,none⟩ :: l) k σ w:=RG.mv hx hd h
theorem RG.so (hx:ev σ x = some v) (h:RG P Z b n ds cs ops l k ((d,v) :: σ) w) (hd:Nat.blt d n = true:=by rfl):RG P Z b n ds cs ops (⟨some d,.assign x,ty,ps,af,none⟩ :: l) k σ w:=RG.sg hx hd h
theorem RG.va (hq:FV P ⟨some d,op,ty,ps,af,none⟩ σ w v) (h:RG P Z b n ds cs ops l k ((d,v) :: σ) w) (hd:Nat.blt d n = true:=by rfl):RG P Z b n ds cs ops (⟨some d,op,ty,ps,af,none⟩ :: l) k σ w:=RG.vv hq hd h
theorem RG.ga (hq:FV P ⟨some d,op,ty,ps,af,some (j,q)⟩ σ w v) (h:RG P Z b n ds cs ops l k ((d,v) :: σ) w) (hg:Want ops σ (some (j,q)) true:=by exact .yes rfl rfl) (hd:Nat.blt d n = true:=by rfl):RG P Z b n ds cs ops (⟨some d,op,ty,ps,af,some (j,q)⟩ :: l) k σ w:=RG.val' hg hq hd h
theorem RG.no  (h:RG P Z b n ds cs ops l k ((d,undef) :: σ) w) (hg:Want ops σ (some (j,q)) false:=by exact .no rfl rfl) (hd:Nat.blt d n = true:=by rfl):RG P Z b n ds cs ops (⟨some d,op,ty,ps,af,some (j,q)⟩ :: l) k σ w:=RG.off hg hd h
theorem RG.un  (h:RG P Z b n ds cs ops l k ((d,undef) :: σ) w) (hg:Want ops σ (some (j,q)) false:=by exact .undef rfl rfl) (hd:Nat.blt d n = true:=by rfl):RG P Z b n ds cs ops (⟨some d,op,ty,ps,af,some (j,q)⟩ :: l) k σ w:=RG.off hg hd h
theorem FV.fa {fi:Nat} (off:Nat) (hx:ev σ x = some (.pointer (some p))) (hf:fQ P t fi off = true:=by kernel_rfl):FV P ⟨dd,.fieldAddr t x fi,ty,ps,af,g⟩ σ w (.pointer (some (p.add off))):=FV.fieldAddr hf hx
theorem FV.l1 (hx:ev σ x = some (.pointer (some p))) (hc:w.cell? p = some v) (ht:oneB P t = true:=by kernel_rfl):FV P ⟨dd,.load t x,ty,ps,af,g⟩ σ w v:=FV.load1 ht hx hc
theorem FV.lN {cl:List Vc} (hx:ev σ x = some (.pointer (some p))) (hc:∀ j v,cl[j]? = some v -> w.cell? (p.add j) = some v) (ht:kE P t cl.length = true:=by kernel_rfl):FV P ⟨dd,.load t x,ty,ps,af,g⟩ σ w (.agg cl.toArray):=FV.loadN ht hx hc
theorem FV.ia {len c:Nat} {kd:IntKind} {j:Int} (m i:Nat) (hx:ev σ x = some v) (he:v = .slice (some p) len c) (hy:ev σ y = some (.int kd j)) (hj:j = (i:Int)) (hk:i < len) (ht:dU P t m = true:=by kernel_rfl):FV P ⟨dd,.indexAddr t x y,ty,ps,af,g⟩ σ w (.pointer (some (p.add (i * m)))):=FV.idxAddr ht hx he hy hj hk
theorem RG.fa {fi:Nat} (off:Nat) (hx:ev σ x = some (.pointer (some p))) (h:RG P Z b n ds cs ops l k ((d,.pointer (some (p.add off))) :: σ) w) (hf:fQ P t fi off = true:=by kernel_rfl) (hd:Nat.blt d n = true:=by rfl):RG P Z b n ds cs ops (⟨some d,.fieldAddr t x fi,ty,ps,af,none⟩ :: l) k σ w:=RG.vv (FV.fieldAddr hf hx) hd h
theorem RG.fg {fi:Nat} (off:Nat) (hx:ev σ x = some (.pointer (some p))) (h:RG P Z b n ds cs ops l k ((d,.pointer (some (p.add off))) :: σ) w) (hf:fQ P t fi off = true:=by kernel_rfl) (hg:Want ops σ (some (j,q)) true:=by exact .yes rfl rfl) (hd:Nat.blt d n = true:=by rfl):RG P Z b n ds cs ops (⟨some d,.fieldAddr t x fi,ty,ps,af,some (j,q)⟩ :: l) k σ w:=RG.val' hg (FV.fieldAddr hf hx) hd h
theorem RG.l1 (hx:ev σ x = some (.pointer (some p))) (hc:w.cell? p = some v) (h:RG P Z b n ds cs ops l k ((d,v) :: σ) w) (ht:oneB P t = true:=by kernel_rfl) (hd:Nat.blt d n = true:=by rfl):RG P Z b n ds cs ops (⟨some d,.load t x,ty,ps,af,none⟩ :: l) k σ w:=RG.vv (FV.load1 ht hx hc) hd h
theorem RG.pt (hc:ev σ c = some (.bool true)) (hx:ev σ x = some v) (h:RG P Z b n ds cs ops l k ((d,v) :: σ) w) (hd:Nat.blt d n = true:=by rfl):RG P Z b n ds cs ops (⟨some d,.pick c x y,ty,ps,af,none⟩ :: l) k σ w:=RG.vv (FV.pick_t hc hx) hd h
theorem RG.pf (hc:ev σ c = some (.bool false)) (hx:ev σ y = some v) (h:RG P Z b n ds cs ops l k ((d,v) :: σ) w) (hd:Nat.blt d n = true:=by rfl):RG P Z b n ds cs ops (⟨some d,.pick c x y,ty,ps,af,none⟩ :: l) k σ w:=RG.vv (FV.pick_f hc hx) hd h
theorem e1 {x0:Operand} {v0:Vc} (h0:ev σ x0 = some v0):evs σ [x0] [v0]:=av h0 (ao)
theorem o1 {v0:Vc} (h0:v0.oneCell' = true):∀ u ∈ [v0],u.oneCell' = true:=bF h0 (fA)
theorem e2 {x0 x1:Operand} {v0 v1:Vc} (h0:ev σ x0 = some v0) (h1:ev σ x1 = some v1):evs σ [x0,x1] [v0,v1]:=av h0 (av h1 (ao))
theorem o2 {v0 v1:Vc} (h0:v0.oneCell' = true) (h1:v1.oneCell' = true):∀ u ∈ [v0,v1],u.oneCell' = true:=bF h0 (bF h1 (fA))
theorem e3 {x0 x1 x2:Operand} {v0 v1 v2:Vc} (h0:ev σ x0 = some v0) (h1:ev σ x1 = some v1) (h2:ev σ x2 = some v2):evs σ [x0,x1,x2] [v0,v1,v2]:=av h0 (av h1 (av h2 (ao)))
theorem e4 {x0 x1 x2 x3:Operand} {v0 v1 v2 v3:Vc} (h0:ev σ x0 = some v0) (h1:ev σ x1 = some v1) (h2:ev σ x2 = some v2) (h3:ev σ x3 = some v3):evs σ [x0,x1,x2,x3] [v0,v1,v2,v3]:=av h0 (av h1 (av h2 (av h3 (ao))))
theorem o4 {v0 v1 v2 v3:Vc} (h0:v0.oneCell' = true) (h1:v1.oneCell' = true) (h2:v2.oneCell' = true) (h3:v3.oneCell' = true):∀ u ∈ [v0,v1,v2,v3],u.oneCell' = true:=bF h0 (bF h1 (bF h2 (bF h3 (fA))))
theorem e5 {x0 x1 x2 x3 x4:Operand} {v0 v1 v2 v3 v4:Vc} (h0:ev σ x0 = some v0) (h1:ev σ x1 = some v1) (h2:ev σ x2 = some v2) (h3:ev σ x3 = some v3) (h4:ev σ x4 = some v4):evs σ [x0,x1,x2,x3,x4] [v0,v1,v2,v3,v4]:=av h0 (av h1 (av h2 (av h3 (av h4 (ao)))))
theorem e6 {x0 x1 x2 x3 x4 x5:Operand} {v0 v1 v2 v3 v4 v5:Vc} (h0:ev σ x0 = some v0) (h1:ev σ x1 = some v1) (h2:ev σ x2 = some v2) (h3:ev σ x3 = some v3) (h4:ev σ x4 = some v4) (h5:ev σ x5 = some v5):evs σ [x0,x1,x2,x3,x4,x5] [v0,v1,v2,v3,v4,v5]:=av h0 (av h1 (av h2 (av h3 (av h4 (av h5 (ao))))))
theorem e7 {x0 x1 x2 x3 x4 x5 x6:Operand} {v0 v1 v2 v3 v4 v5 v6:Vc} (h0:ev σ x0 = some v0) (h1:ev σ x1 = some v1) (h2:ev σ x2 = some v2) (h3:ev σ x3 = some v3) (h4:ev σ x4 = some v4) (h5:ev σ x5 = some v5) (h6:ev σ x6 = some v6):evs σ [x0,x1,x2,x3,x4,x5,x6] [v0,v1,v2,v3,v4,v5,v6]:=av h0 (av h1 (av h2 (av h3 (av h4 (av h5 (av h6 (ao)))))))
theorem e8 {x0 x1 x2 x3 x4 x5 x6 x7:Operand} {v0 v1 v2 v3 v4 v5 v6 v7:Vc} (h0:ev σ x0 = some v0) (h1:ev σ x1 = some v1) (h2:ev σ x2 = some v2) (h3:ev σ x3 = some v3) (h4:ev σ x4 = some v4) (h5:ev σ x5 = some v5) (h6:ev σ x6 = some v6) (h7:ev σ x7 = some v7):evs σ [x0,x1,x2,x3,x4,x5,x6,x7] [v0,v1,v2,v3,v4,v5,v6,v7]:=av h0 (av h1 (av h2 (av h3 (av h4 (av h5 (av h6 (av h7 (ao))))))))
theorem RT.t1 {fi:FuncId} {fn:Func} {r:Tmp} {X:Vc -> World -> Prop} (hk:RetOK P Z fi cs X) (hf:P.funcs[fi]? = some fn) (hr:fn.results = #[.tmp r]) (hx:look σ r = some v) (h:X v w):RT P Z (fb fi .normal none) n [] cs σ w:=RT.leave hk hf hr (.cons (.tmp hx) .nil) rfl h
theorem St.gv {u:Vc} (s:St w0 w O):Agree [] w0 w/\∀ w9,Agree [] w w9 -> u = u:=⟨s.ag,fun _ _=>rfl⟩
end
section
variable {P:Program} {Z:Machine -> Prop} {b:Frame} {n:Nat} {ds:List Deferred} {cs:List Frame} {k:List Item} {σ:List (Nat × Vc)} {w w0 w1:World} {ops:Array Oper} {l:List Oper} {ty:TypeId} {ps:String} {af:Array Edge} {v:Vc} {x y:Operand} {t:TypeId} {O O' : List Ob} {g:Oa (Nat × Bool)} {dd:Oa Tmp} {p:Addr}
theorem RG.sa {bk:Nat} {old:List Vc} {e:TypeId} (news:List Vc) (s:St w0 w O) (u:Upd O (.cells bk old e) (.cells bk news e) O') (h1:∀ u ∈ news,u.oneCell' = true) (h:∀ w1,St w0 w1 O' -> Tr w O w1 O' -> RG P Z b n ds cs ops l k σ w1) (hx:ev σ x = some (.pointer (some p)):=by rfl) (hp:p = ⟨bk,0,none⟩:=by rfl) (hy:ev σ y = some v:=by rfl) (hv:v.cells = news.toArray:=by rfl) (hs:cV P t news.length = true:=by rfl) (hl:old.length = news.length:=by rfl):RG P Z b n ds cs ops (⟨none,.store t x y,ty,ps,af,none⟩ :: l) k σ w:=RG.now .plain (Acts.storeAll s u hx hp hy hv hs hl h1) h
theorem Does.al (zs:List Vc) (s:St w0 w O) (hz:cP P t zs:=by exact zB (by kernel_rfl)):Does P ⟨dd,.alloc t,ty,ps,af,g⟩ σ w (New w0 w O (fun b' =>.cells b' zs t) (fun b' =>.pointer (some ⟨b', 0,none⟩))):=Does.alloc s hz
theorem ah {o:Ob} (s:St w0 w O) (s1:St w w1 [o]):St w0 w1 (o :: O):=St.merge s s1
theorem am {o:Ob} (s:St w0 w O) (s1:St w w1 [o]):Tr w O w1 (o :: O):=Tr.merge s s1
theorem br {o o2:Ob} (s:St w0 w O) (s1:St w w1 [o,o2]):St w0 w1 (o :: o2 :: O):=St.merge s s1
theorem cM {o o2:Ob} (s:St w0 w O) (s1:St w w1 [o,o2]):Tr w O w1 (o :: o2 :: O):=Tr.merge s s1
end
section
open Go Go.RowKit
def aC (bm n:Nat) (sn:Array Nat):Obj:=.mapIter (some bm) n sn n
def left {ε:Type} (D:List ε) (sn:Array Nat):List ε:=(D.zipIdx.filter fun e=>!sn.contains e.2).map (·.1)
def cK {ε:Type}:List ε -> List (ε × List ε)
 | []=>[]
 | x :: xs=>(x,xs) :: (cK xs).map fun e=>(e.1,x :: e.2)
def dS {α:Type} [DecidableEq α]:List (Oa α) -> Oa α
 | []=>none
 | x :: xs=>if xs.all (fun y=>decide (y = x)) then x else none
def mloop {ε γ α:Type} [DecidableEq α] (X:γ -> Oa α) (B:ε -> (γ -> Oa α) -> γ -> Oa α):Nat -> List ε -> γ -> Oa α
 | _,[],s=>X s
 | 0,_ :: _,_=>none
 | n + 1,x :: xs,s=>dS ((cK (x :: xs)).map fun e=>B e.1 (mloop X B n e.2) s)
theorem iS {α:Type} [DecidableEq α] {l:List (Oa α)} {r:α} (h:dS l = some r) {y:Oa α} (hy:y ∈ l):y = some r:=by
 cases l with
 | nil=>cases hy
 | cons x xs=>
  simp only [dS] at h
  split at h
  ·rename_i ha
   rcases List.mem_cons.1 hy with rfl | hy
   ·exact h
   ·rw [of_decide_eq_true (List.all_eq_true.1 ha y hy)]; exact h
  ·cases h
theorem jz {α:Type} [DecidableEq α] {l:List (Oa α)} {r:α} (hn:l ≠ []) (h:∀ y ∈ l,y = some r):dS l = some r:=by
 cases l with
 | nil=>exact absurd I hn
 | cons x xs=>
  simp only [dS]
  rw [if_pos (List.all_eq_true.2 fun y hy=>decide_eq_true ((h y (List.mem_cons_of_mem _ hy)).trans (h x (List.mem_cons_self ..)).symm))]
  exact h x (List.mem_cons_self ..)
theorem jv {ε:Type} (q:Nat -> Bool) (D:List ε) (k:Nat) (h:∀ i,k <= i -> q i = true):((D.zipIdx k).filter fun e=>q e.2).map (·.1) = D:=by
 induction D generalizing k with
 | nil=>rfl
 | cons x D ih=>rw [List.zipIdx_cons,List.filter_cons_of_pos (by simpa using h k (Nat.le_refl _)),List.map_cons,ih (k + 1) fun i hi=>h i (by omega)]
theorem cn {ε:Type} (D:List ε):left D #[] = D:=jv (fun i=>!(#[]:Array Nat).contains i) D 0 fun i _=>by simp
theorem lc {ε:Type} (D:List ε) (k i:Nat) (q:Nat -> Bool) (hi:i < D.length) (hq:q (k + i) = true) :
  (D[i],((D.zipIdx k).filter fun e=>q e.2 && !(e.2 == k + i)).map (·.1)) ∈ cK (((D.zipIdx k).filter fun e=>q e.2).map (·.1)):=by
 induction D generalizing k i with
 | nil=>simp at hi
 | cons x D ih=>
  rw [List.zipIdx_cons]
  cases i with
  | zero=>
   rw [List.filter_cons_of_pos (by simpa using hq),List.filter_cons_of_neg (by simp),List.map_cons,cK]
   refine List.mem_cons.2 (.inl ?_)
   congr 1
   have:∀ e ∈ D.zipIdx (k + 1),(q e.2 && !(e.2 == k + 0)) = q e.2:=fun e he=>by
    have:=List.le_snd_of_mem_zipIdx he
    have h2:(e.2 == k + 0) = false:=by rw [beq_eq_false_iff_ne]; omega
    rw [h2]; simp
   rw [List.filter_congr this]
  | succ i=>
   have h1:=ih (k + 1) i (by simpa using hi) (by rw [<- hq]; congr 1; omega)
   rw [show k + 1 + i = k + (i + 1) by omega] at h1
   by_cases hk:q k = true
   ·rw [List.filter_cons_of_pos (by simpa using hk),List.filter_cons_of_pos (by simp [hk]),List.map_cons,List.map_cons,cK]
    exact List.mem_cons.2 (.inr (List.mem_map.2 ⟨_,h1,I⟩))
   ·rw [List.filter_cons_of_neg (by simpa using hk),List.filter_cons_of_neg (by simp [hk])]
    exact h1
theorem kz {ε:Type} (D:List ε) (sn:Array Nat) (i:Nat) (hi:i < D.length) (hn:sn.contains i = false):(D[i],left D (sn.push i)) ∈ cK (left D sn):=by
 have:=lc D 0 i (fun j=>!sn.contains j) hi (by simpa using hn)
 unfold left
 refine cast ?_ this
 congr 2
 congr 1
 refine List.filter_congr fun e _=>?_
 by_cases h:e.2 = i <;> simp [h]
section
variable {P:Program} {Z:Machine -> Prop} {b:Frame} {n:Nat} {ds:List Deferred} {cs:List Frame} {k:List Item} {σ τ:List (Nat × Vc)} {w w0:World} {ops:Array Oper} {l:List Oper} {d:Nat} {ty:TypeId} {ps:String} {af:Array Edge} {x:Operand} {t:TypeId} {O O' : List Ob} {dd:Oa Tmp} {g:Oa (Nat × Bool)}
theorem MX.mloop {α γ ε R' : Type} [DecidableEq R'] {X:γ -> Oa R'} {B:ε -> (γ -> Oa R') -> γ -> Oa R'} {N:Nat} {r:R'} {c:Code} {D0:List ε} (S:α -> List (Nat × Vc)) (R:List ε -> α -> World -> Prop) (p:α -> γ) (x0:α) (hh:mloop X B N D0 (p x0) = some r) (hs:Sub σ (S x0)) (hR:R D0 x0 w)
  (round:∀ rest x wx (J:List ε -> γ -> Oa R'),(∀ rest' x' wx' σ', Sub σ' (S x') -> R rest' x' wx' -> J rest' (p x') = some r -> MX P Z b n ds cs (.inLoop c :: k) σ' wx') -> R rest x wx -> (rest = [] -> X (p x) = some r) -> (∀ e rest', (e,rest') ∈ cK rest -> B e (J rest') (p x) = some r) -> MX P Z b n ds cs (.code c :: .inLoop c :: k) (S x) wx):MX P Z b n ds cs (.code (.loop c) :: k) σ w:=by
 have key:∀ N rest x wx,R rest x wx -> Proofs.YtkommhmbkbhmlaaGreat.mloop X B N rest (p x) = some r -> MX P Z b n ds cs (.code c :: .inLoop c :: k) (S x) wx:=by
  intro N
  induction N with
  | zero=>
   intro rest x wx hx h
   cases rest with
   | nil=>exact round [] x wx (fun _ _=>none) (fun _ _ _ _ _ _ h=>by cases h) hx (fun _=>h) (fun e r' hp=>by simp [cK] at hp)
   | cons y ys=>cases h
  | succ N ih=>
   intro rest x wx hx h
   refine round rest x wx (Proofs.YtkommhmbkbhmlaaGreat.mloop X B N) (fun r' x' wx' σ' hs' hR' hJ=>(MX.again1 (ih r' x' wx' hR' hJ)).sub hs') hx (fun e=>by subst e; exact h) (fun e r' hp=>?_)
   cases rest with
   | nil=>simp [cK] at hp
   | cons y ys=>exact iS h (List.mem_map.2 ⟨(e,r'),hp,rfl⟩)
 exact MX.loop1 ((key N D0 x0 w hR hh).sub hs)
variable {κ ν:Type} [Enc κ] [Enc ν]
theorem jH (D:List (κ × ν)) (i:Nat):(aR D i).map (·.born) = List.range' i D.length:=by
 induction D generalizing i with
 | nil=>rfl
 | cons e D ih=>rw [aS,List.map_cons,ih,List.length_cons,List.range'_succ]
theorem gC {D:List (κ × ν)} {e:MapEntry} (h:e ∈ aR D 0):∃ (i:Nat) (hi:i < D.length),e.born = i/\e.key = Enc.enc D[i].1/\e.val = Enc.enc D[i].2:=by
 unfold aR at h
 obtain ⟨⟨z,i⟩,h1,h4⟩:=List.mem_map.1 h
 obtain ⟨h2,h3,h5⟩:=List.mem_zipIdx h1
 simp only [Nat.sub_zero] at h5
 have hi:i < D.length:=by omega
 subst h4
 exact ⟨i,hi,rfl,by simp only [h5],by simp only [h5]⟩
theorem kx {D:List (κ × ν)} {sn:Array Nat} (h:(leftOf (aR D 0).toArray sn).size = 0):left D sn = []:=by
 have h2:∀ e ∈ aR D 0,sn.contains e.born = true:=fun e he=>by
  have h3:leftOf (aR D 0).toArray sn = #[]:=Array.eq_empty_of_size_eq_zero h
  unfold leftOf at h3
  rw [Array.filter_eq_empty_iff] at h3
  simpa using h3 e (by simpa using he)
 unfold left
 rw [List.map_eq_nil_iff,List.filter_eq_nil_iff]
 rintro ⟨z,i⟩ hz
 have:=h2 { key:=Enc.enc z.1,val:=Enc.enc z.2,born:=i } (List.mem_map.2 ⟨(z,i),hz,I⟩)
 simpa using this
theorem kG {D:List (κ × ν)} {sn:Array Nat} {e:MapEntry} (h:e ∈ (leftOf (aR D 0).toArray sn).toList):∃ (i:Nat) (hi:i < D.length),e.born = i/\e.key = Enc.enc D[i].1/\e.val = Enc.enc D[i].2/\sn.contains i = false:=by
 unfold leftOf at h
 rw [Array.mem_toList_iff,Array.mem_filter] at h
 obtain ⟨i,hi,h1,h2,h3⟩:=gC (D:=D) (by simpa using h.1)
 exact ⟨i,hi,h1,h2,h3,by have:=h.2; rw [h1] at this; simpa using this⟩
theorem Does.range {bm:Nat} {D:List (κ × ν)} {kt et:TypeId} (s:St w0 w O) (um:At O (.obj bm (ay D))) (ht:P.underlying t = some (.map kt et)) (hx:ev σ x = some (.map (some bm))):Does P ⟨dd,.range t x,ty,ps,af,g⟩ σ w (New w0 w O (fun b' =>.obj b' (aC bm D.length #[])) (fun b' =>.pointer (some ⟨b', 0,none⟩))):=fun ρ ha w' hw=>by
 have hb:w'.heap[bm]? = some (ay D):=aL hw (s.get um.upd)
 rw [dB] at hb
 refine ⟨.pointer (some ⟨w'.heap.size,0,none⟩),w'.alloc (aC bm D.length #[]),?_,aP _ _ _,?_⟩
 ·simp [execOp,ha _ _ hx,run_range_map w' t kt et bm _ _ ht hb,aC]
 ·have hag:=hw.trans (aP w' (aC bm D.length #[]) [])
  have hb:∀ b', (Ob.obj w'.heap.size (aC bm D.length #[])).block = some b' -> w.heap.size <= b' :=fun b' e=>by cases e; exact hw.size
  exact ⟨_,I,s.push hag (heap_alloc_new w' _) hb,Tr.push hag hb⟩
def Nexts (w0 w:World) (O:List Ob) (D:List (κ × ν)) (sn:Array Nat) (F:Array Nat -> List Ob) (u:Vc) (w1:World):Prop:=
 left D sn = []/\u = .tuple #[.bool false]/\St w0 w1 O/\Tr w O w1 O ∨ ∃ (i:Nat) (hi:i < D.length),sn.contains i = false/\u = .tuple #[.bool true,Enc.enc D[i].1,Enc.enc D[i].2]/\St w0 w1 (F (sn.push i))/\Tr w O w1 (F (sn.push i))
theorem DoesL.next {bm r:Nat} {D:List (κ × ν)} {sn:Array Nat} {F:Array Nat -> List Ob} (s:St w0 w O) (um:At O (.obj bm (ay D))) (u:∀ sn', Upd O (.obj r (aC bm D.length sn)) (.obj r (aC bm D.length sn')) (F sn')) (hx:ev σ x = some (.pointer (some ⟨r,0,none⟩))):DoesL P ⟨dd,.next x false,ty,ps,af,g⟩ σ w (Nexts w0 w O D sn F):=fun ρ ha w' hw=>by
 have hb:w'.heap[bm]? = some (ay D):=aL hw (s.get um.upd)
 rw [dB] at hb
 have hr:w'.heap[r]? = some (aC bm D.length sn):=aL hw (s.get (u sn))
 unfold aC at hr
 have hold:∀ z ∈ (aR D 0).toArray.toList,z.born < D.length:=fun z hz=>by
  obtain ⟨i,hi,h1,_⟩:=gC (by simpa using hz)
  omega
 rcases run_next_at (P:=P) w' ty r bm D.length D.length sn (aR D 0).toArray D.length hr hb hold (Nat.le_refl _) with ⟨h0,hrun⟩ | ⟨e,he,w1,hw1,hrun⟩
 ·exact ⟨_,w', by simp [execOp,ha _ _ hx,hrun],.inl ⟨kx h0,rfl,s.agree hw,Tr.agree hw⟩⟩
 ·obtain ⟨i,hi,h1,h2,h3,h4⟩:=kG he
  have hag:Agree [] w w1:=by
   rcases hw1 with rfl | rfl
   ·exact hw
   ·exact hw.trans (Agree.drew w' [] _)
  obtain ⟨g1,g2⟩:=cO s (u (sn.push i)) hag
  refine ⟨_,w1.putObj r (aC bm D.length (sn.push i)),?_,.inr ⟨i,hi,h4,I,g1,g2⟩⟩
  rw [h1,h2,h3] at hrun
  simp only [execOp,ha _ _ hx]
  simp [hrun]
  rfl
theorem FV.entry {bm r i:Nat} {D:List (κ × ν)} {sn:Array Nat} {e:κ × ν} (s:St w0 w O) (um:At O (.obj bm (ay D))) (u:At O (.obj r (aC bm D.length (sn.push i)))) (hi:D[i]? = some e) (hx:ev σ x = some (.pointer (some ⟨r,0,none⟩))):FV P ⟨dd,.entry x,ty,ps,af,g⟩ σ w (.tuple #[Enc.enc e.1,Enc.enc e.2]):=fun ρ ha w' hw=>by
 have hb:w'.heap[bm]? = some (ay D):=aL hw (s.get um.upd)
 rw [dB] at hb
 have hr:w'.heap[r]? = some (aC bm D.length (sn.push i)):=aL hw (s.get u.upd)
 unfold aC at hr
 obtain ⟨hlt,rfl⟩:=List.getElem?_eq_some_iff.1 hi
 have hm:({ key:=Enc.enc D[i].1,val:=Enc.enc D[i].2,born:=i }:MapEntry) ∈ (aR D 0).toArray.toList:=by
  simp only [aR]
  refine List.mem_map.2 ⟨(D[i],i),?_,I⟩
  rw [List.mem_zipIdx_iff_getElem?]
  simp
 have hn:(((aR D 0).toArray.toList).map (·.born)).Nodup:=by
  show ((aR D 0).map (·.born)).Nodup
  rw [jH]; exact List.nodup_range'
 have:=run_entry_at (P:=P) w' r bm D.length sn (aR D 0).toArray D.length { key:=Enc.enc D[i].1,val:=Enc.enc D[i].2,born:=i } hr hb hm hn
 simp [execOp,ha _ _ hx,this]
end
end
section
open Go Go.RowKit
instance:Enc (Option Nat):=⟨fun a=>.pointer (a.map fun b=>⟨b,0,none⟩)⟩
section
variable {κ β:Type}
def dh {β γ:Type} (o:Oa β) (A:Oa γ) (B:β -> Oa γ):Oa γ:=match o with
 | none=>A
 | some y=>B y
theorem cw {β γ:Type} {o:Oa β} {A:Oa γ} {B:β -> Oa γ} {r:γ} (h:dh o A B = some r) (e:o = none):A = some r:=by subst e; exact h
theorem ct {β γ:Type} {o:Oa β} {A:Oa γ} {B:β -> Oa γ} {r:γ} {y:β} (h:dh o A B = some r) (e:o = some y):B y = some r:=by subst e; exact h
variable {w w0:World} {T pre:List Ob} {t:TypeId} {f:β -> List Vc} {Z Z1 Z2:List ((κ × β) × Nat)} {k:κ} {y y' : β} {b:Nat}
end
section
variable {P:Program} {Z:Machine -> Prop} {b:Frame} {n:Nat} {ds:List Deferred} {cs:List Frame} {k:List Item} {σ τ:List (Nat × Vc)} {w w0:World} {ops:Array Oper} {l:List Oper} {d:Nat} {ty:TypeId} {ps:String} {af:Array Edge} {x y:Operand} {t t' e:TypeId} {O O' : List Ob} {dd:Oa Tmp} {g:Oa (Nat × Bool)}
end
end
section
open Go Go.RowKit
section
variable {w w0:World} {O O' T pre pre' : List Ob} {L:List Nat} {base e e2:Nat} {v0 v y:Vc} {Z Z1 Z2:List (Vc × List Int)} {xs xs' : List Int} {cs cs' : List Vc}
end
end
section
open Go Go.RowKit
theorem At.t1 {x0 o:Ob} {O:List Ob}:At (x0 :: o :: O) o:=.tl .hd
theorem Upd.t1 {x0 o o' : Ob} {O:List Ob}:Upd (x0 :: o :: O) o o' (x0 :: o' :: O):=.tl .hd
theorem Out.t1 {x0 o:Ob} {O:List Ob}:Out (x0 :: o :: O) o (x0 :: O):=.tl .hd
theorem At.t2 {x0 x1 o:Ob} {O:List Ob}:At (x0 :: x1 :: o :: O) o:=.tl (.tl .hd)
theorem Upd.t2 {x0 x1 o o' : Ob} {O:List Ob}:Upd (x0 :: x1 :: o :: O) o o' (x0 :: x1 :: o' :: O):=.tl (.tl .hd)
theorem Out.t2 {x0 x1 o:Ob} {O:List Ob}:Out (x0 :: x1 :: o :: O) o (x0 :: x1 :: O):=.tl (.tl .hd)
theorem At.t3 {x0 x1 x2 o:Ob} {O:List Ob}:At (x0 :: x1 :: x2 :: o :: O) o:=.tl (.tl (.tl .hd))
theorem Upd.t3 {x0 x1 x2 o o' : Ob} {O:List Ob}:Upd (x0 :: x1 :: x2 :: o :: O) o o' (x0 :: x1 :: x2 :: o' :: O):=.tl (.tl (.tl .hd))
theorem At.t4 {x0 x1 x2 x3 o:Ob} {O:List Ob}:At (x0 :: x1 :: x2 :: x3 :: o :: O) o:=.tl (.tl (.tl (.tl .hd)))
theorem Upd.t4 {x0 x1 x2 x3 o o' : Ob} {O:List Ob}:Upd (x0 :: x1 :: x2 :: x3 :: o :: O) o o' (x0 :: x1 :: x2 :: x3 :: o' :: O):=.tl (.tl (.tl (.tl .hd)))
theorem Out.t4 {x0 x1 x2 x3 o:Ob} {O:List Ob}:Out (x0 :: x1 :: x2 :: x3 :: o :: O) o (x0 :: x1 :: x2 :: x3 :: O):=.tl (.tl (.tl (.tl .hd)))
theorem At.t5 {x0 x1 x2 x3 x4 o:Ob} {O:List Ob}:At (x0 :: x1 :: x2 :: x3 :: x4 :: o :: O) o:=.tl (.tl (.tl (.tl (.tl .hd))))
theorem Upd.t5 {x0 x1 x2 x3 x4 o o' : Ob} {O:List Ob}:Upd (x0 :: x1 :: x2 :: x3 :: x4 :: o :: O) o o' (x0 :: x1 :: x2 :: x3 :: x4 :: o' :: O):=.tl (.tl (.tl (.tl (.tl .hd))))
theorem Out.t5 {x0 x1 x2 x3 x4 o:Ob} {O:List Ob}:Out (x0 :: x1 :: x2 :: x3 :: x4 :: o :: O) o (x0 :: x1 :: x2 :: x3 :: x4 :: O):=.tl (.tl (.tl (.tl (.tl .hd))))
theorem At.t6 {x0 x1 x2 x3 x4 x5 o:Ob} {O:List Ob}:At (x0 :: x1 :: x2 :: x3 :: x4 :: x5 :: o :: O) o:=.tl (.tl (.tl (.tl (.tl (.tl .hd)))))
theorem Upd.t6 {x0 x1 x2 x3 x4 x5 o o' : Ob} {O:List Ob}:Upd (x0 :: x1 :: x2 :: x3 :: x4 :: x5 :: o :: O) o o' (x0 :: x1 :: x2 :: x3 :: x4 :: x5 :: o' :: O):=.tl (.tl (.tl (.tl (.tl (.tl .hd)))))
theorem At.t7 {x0 x1 x2 x3 x4 x5 x6 o:Ob} {O:List Ob}:At (x0 :: x1 :: x2 :: x3 :: x4 :: x5 :: x6 :: o :: O) o:=.tl (.tl (.tl (.tl (.tl (.tl (.tl .hd))))))
theorem At.t8 {x0 x1 x2 x3 x4 x5 x6 x7 o:Ob} {O:List Ob}:At (x0 :: x1 :: x2 :: x3 :: x4 :: x5 :: x6 :: x7 :: o :: O) o:=.tl (.tl (.tl (.tl (.tl (.tl (.tl (.tl .hd)))))))
theorem Upd.t8 {x0 x1 x2 x3 x4 x5 x6 x7 o o' : Ob} {O:List Ob}:Upd (x0 :: x1 :: x2 :: x3 :: x4 :: x5 :: x6 :: x7 :: o :: O) o o' (x0 :: x1 :: x2 :: x3 :: x4 :: x5 :: x6 :: x7 :: o' :: O):=.tl (.tl (.tl (.tl (.tl (.tl (.tl (.tl .hd)))))))
theorem At.t9 {x0 x1 x2 x3 x4 x5 x6 x7 x8 o:Ob} {O:List Ob}:At (x0 :: x1 :: x2 :: x3 :: x4 :: x5 :: x6 :: x7 :: x8 :: o :: O) o:=.tl (.tl (.tl (.tl (.tl (.tl (.tl (.tl (.tl .hd))))))))
theorem At.t10 {x0 x1 x2 x3 x4 x5 x6 x7 x8 x9 o:Ob} {O:List Ob}:At (x0 :: x1 :: x2 :: x3 :: x4 :: x5 :: x6 :: x7 :: x8 :: x9 :: o :: O) o:=.tl (.tl (.tl (.tl (.tl (.tl (.tl (.tl (.tl (.tl .hd)))))))))
theorem At.t11 {x0 x1 x2 x3 x4 x5 x6 x7 x8 x9 x10 o:Ob} {O:List Ob}:At (x0 :: x1 :: x2 :: x3 :: x4 :: x5 :: x6 :: x7 :: x8 :: x9 :: x10 :: o :: O) o:=.tl (.tl (.tl (.tl (.tl (.tl (.tl (.tl (.tl (.tl (.tl .hd))))))))))
theorem Upd.t11 {x0 x1 x2 x3 x4 x5 x6 x7 x8 x9 x10 o o' : Ob} {O:List Ob}:Upd (x0 :: x1 :: x2 :: x3 :: x4 :: x5 :: x6 :: x7 :: x8 :: x9 :: x10 :: o :: O) o o' (x0 :: x1 :: x2 :: x3 :: x4 :: x5 :: x6 :: x7 :: x8 :: x9 :: x10 :: o' :: O):=.tl (.tl (.tl (.tl (.tl (.tl (.tl (.tl (.tl (.tl (.tl .hd))))))))))
theorem Arr.d0:∀ {O:List Ob},Arr O O
 | []=>.done
 | _ :: _=>.one .hd Arr.d0
theorem Arr.a0 {o:Ob} {O O' : List Ob} (h:Arr O O'):Arr (o :: O) (o :: O'):=.one .hd h
theorem Arr.a1 {x0 o:Ob} {O O' : List Ob} (h:Arr (x0 :: O) O'):Arr (x0 :: o :: O) (o :: O'):=.one .t1 h
theorem Arr.a2 {x0 x1 o:Ob} {O O' : List Ob} (h:Arr (x0 :: x1 :: O) O'):Arr (x0 :: x1 :: o :: O) (o :: O'):=.one .t2 h
theorem Arr.a4 {x0 x1 x2 x3 o:Ob} {O O' : List Ob} (h:Arr (x0 :: x1 :: x2 :: x3 :: O) O'):Arr (x0 :: x1 :: x2 :: x3 :: o :: O) (o :: O'):=.one .t4 h
theorem Arr.dr {x:Ob}:∀ {O O' : List Ob},Arr O O' -> Arr (x :: O) O'
 | _,_,.done=>.done
 | _,_,.one h h2=>.one (.tl h) (Arr.dr h2)
theorem Arr.d1 {x0:Ob} {O:List Ob}:Arr (x0 :: O) O:=.dr Arr.d0
theorem Arr.d2 {x0 x1:Ob} {O:List Ob}:Arr (x0 :: x1 :: O) O:=.dr (Arr.d1)
theorem Arr.d3 {x0 x1 x2:Ob} {O:List Ob}:Arr (x0 :: x1 :: x2 :: O) O:=.dr (Arr.d2)
theorem Arr.d4 {x0 x1 x2 x3:Ob} {O:List Ob}:Arr (x0 :: x1 :: x2 :: x3 :: O) O:=.dr (Arr.d3)
theorem Arr.d5 {x0 x1 x2 x3 x4:Ob} {O:List Ob}:Arr (x0 :: x1 :: x2 :: x3 :: x4 :: O) O:=.dr (Arr.d4)
theorem Arr.d6 {x0 x1 x2 x3 x4 x5:Ob} {O:List Ob}:Arr (x0 :: x1 :: x2 :: x3 :: x4 :: x5 :: O) O:=.dr (Arr.d5)
theorem Arr.d7 {x0 x1 x2 x3 x4 x5 x6:Ob} {O:List Ob}:Arr (x0 :: x1 :: x2 :: x3 :: x4 :: x5 :: x6 :: O) O:=.dr (Arr.d6)
theorem Arr.d8 {x0 x1 x2 x3 x4 x5 x6 x7:Ob} {O:List Ob}:Arr (x0 :: x1 :: x2 :: x3 :: x4 :: x5 :: x6 :: x7 :: O) O:=.dr (Arr.d7)
theorem Arr.d9 {x0 x1 x2 x3 x4 x5 x6 x7 x8:Ob} {O:List Ob}:Arr (x0 :: x1 :: x2 :: x3 :: x4 :: x5 :: x6 :: x7 :: x8 :: O) O:=.dr (Arr.d8)
theorem Arr.d10 {x0 x1 x2 x3 x4 x5 x6 x7 x8 x9:Ob} {O:List Ob}:Arr (x0 :: x1 :: x2 :: x3 :: x4 :: x5 :: x6 :: x7 :: x8 :: x9 :: O) O:=.dr (Arr.d9)
section
variable {P:Program} {Z:Machine -> Prop} {b:Frame} {n:Nat} {ds:List Deferred} {cs:List Frame} {k:List Item} {σ τ:List (Nat × Vc)} {w w0:World} {ops:Array Oper} {t f m:Nat} {κ:KP} {O1:List Ob}
theorem MX.lf {α γ Q:Type} {B:(γ -> Oa Q) -> γ -> Oa Q} {N:Nat} {r:Q} {c:Code} (S:α -> List (Nat × Vc)) (E:α -> List Ob) (G:α -> World -> Prop) (p:α -> γ) (x0:α) (hh:az B N (p x0) = some r) (s:St w0 w (E x0)) (hG:G x0 w)
  (round:∀ (J:γ -> Oa Q) x wx,(∀ x' {wx' σ'},St w0 wx' (E x') -> Tr w (E x0) wx' (E x') -> G x' wx' -> J (p x') = some r -> ∀ (_:Sub σ' (S x'):=by repeat (first | refine ⟨rfl,?_⟩ | exact trivial)),MX P Z b n ds cs (.inLoop c :: k) σ' wx') -> St w0 wx (E x) -> Tr w (E x0) wx (E x) -> G x wx -> B J (p x) = some r -> MX P Z b n ds cs (.code c :: .inLoop c :: k) (S x) wx)
  (hs:Sub σ (S x0):=by repeat (first | refine ⟨rfl,?_⟩ | exact trivial)):MX P Z b n ds cs (.code (.loop c) :: k) σ w:=
 MX.loop S (fun x wx=>St w0 wx (E x)/\Tr w (E x0) wx (E x)/\G x wx) p x0 hh hs ⟨s,Tr.refl _ _,hG⟩ fun J x wx h1 h2=>round J x wx (fun x' {wx' σ'} a2 a3 a4 a5 a1=>h1 x' wx' σ' a1 ⟨a2,a3,a4⟩ a5) h2.1 h2.2.1 h2.2.2
theorem MX.lo {α γ Q:Type} {B:(γ -> Oa Q) -> γ -> Oa Q} {N:Nat} {r:Q} {c:Code} (S:α -> List (Nat × Vc)) (E:α -> List Ob) (p:α -> γ) (x0:α) (hh:az B N (p x0) = some r) (s:St w0 w (E x0))
  (round:∀ (J:γ -> Oa Q) x wx,(∀ x' {wx' σ'},St w0 wx' (E x') -> Tr w (E x0) wx' (E x') -> J (p x') = some r -> ∀ (_:Sub σ' (S x'):=by repeat (first | refine ⟨rfl,?_⟩ | exact trivial)),MX P Z b n ds cs (.inLoop c :: k) σ' wx') -> St w0 wx (E x) -> Tr w (E x0) wx (E x) -> B J (p x) = some r -> MX P Z b n ds cs (.code c :: .inLoop c :: k) (S x) wx)
  (hs:Sub σ (S x0):=by repeat (first | refine ⟨rfl,?_⟩ | exact trivial)):MX P Z b n ds cs (.code (.loop c) :: k) σ w:=
 MX.loop S (fun x wx=>St w0 wx (E x)/\Tr w (E x0) wx (E x)) p x0 hh hs ⟨s,Tr.refl _ _⟩ fun J x wx h1 h2=>round J x wx (fun x' {wx' σ'} a2 a3 a5 a1=>h1 x' wx' σ' a1 ⟨a2,a3⟩ a5) h2.1 h2.2
theorem MX.jf {α γ Q:Type} {K:γ -> Oa Q} {B:(γ -> Oa Q) -> Oa Q} {r:Q} {it:Item} (S:α -> List (Nat × Vc)) (E:α -> List Ob) (G:α -> World -> Prop) (p:α -> γ) (_s:St w0 w O1) (hh:jn K B = some r)
  (hJ:∀ x wx,St w0 wx (E x) -> Tr w O1 wx (E x) -> G x wx -> K (p x) = some r -> MX P Z b n ds cs k (S x) wx)
  (h:∀ J:γ -> Oa Q,(∀ x {wx σ'},St w0 wx (E x) -> Tr w O1 wx (E x) -> G x wx -> J (p x) = some r -> ∀ (_:Sub σ' (S x):=by repeat (first | refine ⟨rfl,?_⟩ | exact trivial)),MX P Z b n ds cs k σ' wx) -> B J = some r -> MX P Z b n ds cs (it :: k) σ w):MX P Z b n ds cs (it :: k) σ w:=
 MX.join S (fun x wx=>St w0 wx (E x)/\Tr w O1 wx (E x)/\G x wx) p hh (fun x wx h1 h2=>hJ x wx h1.1 h1.2.1 h1.2.2 h2) fun J h1 h2=>h J (fun x {wx σ'} a2 a3 a4 a5 a1=>h1 x wx σ' a1 ⟨a2,a3,a4⟩ a5) h2
theorem MX.jo {α γ Q:Type} {K:γ -> Oa Q} {B:(γ -> Oa Q) -> Oa Q} {r:Q} {it:Item} (S:α -> List (Nat × Vc)) (E:α -> List Ob) (p:α -> γ) (_s:St w0 w O1) (hh:jn K B = some r)
  (hJ:∀ x wx,St w0 wx (E x) -> Tr w O1 wx (E x) -> K (p x) = some r -> MX P Z b n ds cs k (S x) wx)
  (h:∀ J:γ -> Oa Q,(∀ x {wx σ'},St w0 wx (E x) -> Tr w O1 wx (E x) -> J (p x) = some r -> ∀ (_:Sub σ' (S x):=by repeat (first | refine ⟨rfl,?_⟩ | exact trivial)),MX P Z b n ds cs k σ' wx) -> B J = some r -> MX P Z b n ds cs (it :: k) σ w):MX P Z b n ds cs (it :: k) σ w:=
 MX.join S (fun x wx=>St w0 wx (E x)/\Tr w O1 wx (E x)) p hh (fun x wx h1 h2=>hJ x wx h1.1 h1.2 h2) fun J h1 h2=>h J (fun x {wx σ'} a2 a3 a5 a1=>h1 x wx σ' a1 ⟨a2,a3⟩ a5) h2
theorem MX.xo {α γ Q:Type} {K:γ -> Oa Q} {B:(γ -> Oa Q) -> Oa Q} {r:Q} {it:Item} {k' : List Item} (id:Nat) (S:α -> List (Nat × Vc)) (E:α -> List Ob) (p:α -> γ) (_s:St w0 w O1) (hx:exitTo id k = some k') (hh:jn K B = some r)
  (hJ:∀ x wx,St w0 wx (E x) -> Tr w O1 wx (E x) -> K (p x) = some r -> MX P Z b n ds cs k' (S x) wx)
  (h:∀ J:γ -> Oa Q,(∀ x {wx σ'},St w0 wx (E x) -> Tr w O1 wx (E x) -> J (p x) = some r -> ∀ (_:Sub σ' (S x):=by repeat (first | refine ⟨rfl,?_⟩ | exact trivial)),MX P Z b n ds cs k' σ' wx) -> B J = some r -> MX P Z b n ds cs (it :: k) σ w):MX P Z b n ds cs (it :: k) σ w:=
 MX.joinx S (fun x wx=>St w0 wx (E x)/\Tr w O1 wx (E x)) p hx hh (fun x wx h1 h2=>hJ x wx h1.1 h1.2 h2) fun J h1 h2=>h J (fun x {wx σ'} a2 a3 a5 a1=>h1 x wx σ' a1 ⟨a2,a3⟩ a5) h2
theorem RD.mf {α:Type} (S:α -> List (Nat × Vc)) (E:α -> List Ob) (G:α -> World -> Prop) (_s:St w0 w O1) (f' m' : Nat)
  (hJ:∀ x wx,St w0 wx (E x) -> Tr w O1 wx (E x) -> G x wx -> RD κ P Z b n ds cs ops t f' m' k (S x) wx)
  (h:(∀ x {wx σ'},St w0 wx (E x) -> Tr w O1 wx (E x) -> G x wx -> ∀ (_:Sub σ' (S x):=by repeat (first | refine ⟨rfl,?_⟩ | exact trivial)),RD κ P Z b n ds cs ops t f' m' k σ' wx) -> RD κ P Z b n ds cs ops t f m k σ w):RD κ P Z b n ds cs ops t f m k σ w:=
 RD.meet S (fun x wx=>St w0 wx (E x)/\Tr w O1 wx (E x)/\G x wx) f' m' (fun x wx h1=>hJ x wx h1.1 h1.2.1 h1.2.2) fun h1=>h fun x {wx σ'} a2 a3 a4 a1=>h1 x wx σ' a1 ⟨a2,a3,a4⟩
theorem RD.mo {α:Type} (S:α -> List (Nat × Vc)) (E:α -> List Ob) (_s:St w0 w O1) (f' m' : Nat)
  (hJ:∀ x wx,St w0 wx (E x) -> Tr w O1 wx (E x) -> RD κ P Z b n ds cs ops t f' m' k (S x) wx)
  (h:(∀ x {wx σ'},St w0 wx (E x) -> Tr w O1 wx (E x) -> ∀ (_:Sub σ' (S x):=by repeat (first | refine ⟨rfl,?_⟩ | exact trivial)),RD κ P Z b n ds cs ops t f' m' k σ' wx) -> RD κ P Z b n ds cs ops t f m k σ w):RD κ P Z b n ds cs ops t f m k σ w:=
 RD.meet S (fun x wx=>St w0 wx (E x)/\Tr w O1 wx (E x)) f' m' (fun x wx h1=>hJ x wx h1.1 h1.2) fun h1=>h fun x {wx σ'} a2 a3 a1=>h1 x wx σ' a1 ⟨a2,a3⟩
theorem RG.bx {d:Tmp} {t ty:TypeId} {ps:String} {af:Array Edge} {x:Operand} {v:Vc} {vs:List Vc} {l:List Oper} {O:List Ob} (s:St w0 w O) (hx:ev σ x = some v) (hc:v.cells = vs.toArray) (h:∀ w1 b', St w0 w1 (.cells b' vs t :: O) -> Tr w O w1 (.cells b' vs t :: O) -> RG P Z b n ds cs ops l k ((d,.pointer (some ⟨b', 0,none⟩)) :: σ) w1) (hd:Nat.blt d n = true:=by rfl):RG P Z b n ds cs ops (⟨some d,.box t x,ty,ps,af,none⟩ :: l) k σ w:=RG.new .plain hd (Does.box s hx hc) h
theorem RG.nl {d:Tmp} {t ty:TypeId} {ps:String} {af:Array Edge} {l:List Oper} {O:List Ob} (zs:List Vc) (s:St w0 w O) (h:∀ w1 b', St w0 w1 (.cells b' zs t :: O) -> Tr w O w1 (.cells b' zs t :: O) -> RG P Z b n ds cs ops l k ((d,.pointer (some ⟨b', 0,none⟩)) :: σ) w1) (hz:cP P t zs:=by exact zB (by kernel_rfl)) (hd:Nat.blt d n = true:=by rfl):RG P Z b n ds cs ops (⟨some d,.alloc t,ty,ps,af,none⟩ :: l) k σ w:=RG.new .plain hd (Does.alloc s hz) h
theorem bk {α β:Type} {C:Prop} {x:Oa α} {g:α -> Oa β} {r:β} (h:x.bind g = some r) (k:∀ y,x = some y -> g y = some r -> C):C:=
 let ⟨y,h1,h2⟩:=gP h; k y h1 h2
theorem xk {ε α β:Type} {C:Prop} {x:Oa (Except ε α)} {f:α -> Oa β} {g:ε -> Oa β} {r:β} (h:(x.bind fun y=>exc y f g) = some r) (k1:∀ e,x = some (.error e) -> g e = some r -> C) (k2:∀ y,x = some (.ok y) -> f y = some r -> C):C:=by
 obtain ⟨y,h1,h2⟩:=gP h
 rcases y with e | y
 ·exact k1 e h1 h2
 ·exact k2 y h1 h2
theorem tn {α β:Type} {C:Prop} {o:Oa (α ⊕ β)} {K:β -> Oa α} {r:α} (h:thn o K = some r) (k:∀ x,o = some x -> thn (some x) K = some r -> C):C:=
 let ⟨y,h1,h2⟩:=thn_in h; k y h1 h2
end
end
section
open Go Go.RowKit
def w32 (i:Int):Int:=IntKind.i32.wrap i
section
variable {P:Program} {σ:List (Nat × Vc)} {w:World} {d:Oa Nat} {ty s t:TypeId} {ps:String} {af:Array Edge} {g:Oa (Nat × Bool)} {x:Operand}
end
end
section
open Go Go.RowKit
section
variable {w w0:World} {O O' T pre pre' : List Ob} {L:List Nat} {base e e2 i:Nat} {v0 v y v' : Vc} {Z Z1 Z2:List (Vc × List Int)} {xs xs' : List Int} {cs cs' : List Vc} {M M2:List (List Int)}
end
section
variable {P:Program} {w w0:World} {O:List Ob} {σ:List (Nat × Vc)} {dd:Oa Nat} {ty t:TypeId} {ps:String} {af:Array Edge} {g:Oa (Nat × Bool)} {x y:Operand} {base e:Nat} {v:Vc}
end
end
section
open Go Go.RowKit
section
variable {P:Program} {σ:List (Nat × Vc)} {w:World} {x y:Operand} {d:Oa Tmp} {t t' ty:TypeId} {ps:String} {af:Array Edge} {g:Oa (Nat × Bool)}
end
structure KeyAt (P:Program) (t:TypeId) (κ:Type) [Enc κ] [DecidableEq κ]:Prop where
 check:∀ (q:Bool) (a:κ) (w:World),(Instr.checkKey q 10000 t (Enc.enc a)).run P w = .ok () w
 now:∃ kd,P.underlying t = some kd/\∀ a b:κ,Instr.sameNow kd (Enc.enc a) (Enc.enc b) = none
 eq:∀ (a b:κ) (w:World),(Op.equal t (Enc.enc a) (Enc.enc b)).run P w = .ok (decide (a = b)) w
 bits:∀ a:κ,Instr.sameBits 10000 (Enc.enc a) (Enc.enc a) = true
instance:Enc (List Value):=⟨fun cs=>.agg cs.toArray⟩
section
variable {P:Program} {t:TypeId} {κ ν:Type} [Enc κ] [Enc ν] [DecidableEq κ]
theorem KeyAt.ask (h:KeyAt P t κ) (k:κ) (w:World):∀ (D:List (κ × ν)) (i j:Nat),(Instr.findAsking t (Enc.enc k) (aR D i) j).run P w = .ok ((bO D k j).map fun (a,b)=>(a,Enc.enc b)) w
 | [],_,_=>rfl
 | e :: D,i,j=>by
  rw [aS,Instr.findAsking,Sem.run_bind,h.eq k e.1 w,bO]
  by_cases hk:k = e.1
  ·rw [decide_eq_true hk,if_pos hk]; rfl
  ·rw [decide_eq_false hk,if_neg hk]; exact h.ask k w D (i + 1) (j + 1)
theorem KeyAt.find (h:KeyAt P t κ) (k:κ) (D:List (κ × ν)) (w:World):(Instr.findKey t (Enc.enc k) (aR D 0)).run P w = .ok ((bO D k 0).map fun (a,b)=>(a,Enc.enc b)) w:=by
 obtain ⟨kd,h1,h2⟩:=h.now
 cases D with
 | nil=>simp [Instr.findKey,run_underlying h1,aR,Instr.findNow,bO]
 | cons e D=>
  have h3:=h.ask k w (e :: D) 0 0
  have h4:Instr.findNow kd (Enc.enc k) (aR (e :: D) 0) 0 = none:=by rw [aS,Instr.findNow,h2]
  simp only [Instr.findKey,Sem.run_bind,run_underlying h1,Result.andThen_ok,h4]
  exact h3
end
section
variable {P:Program} {Z:Machine -> Prop} {b:Frame} {n:Nat} {ds:List Deferred} {cs:List Frame} {k:List Item} {σ τ:List (Nat × Vc)} {w w0:World} {ops:Array Oper} {l:List Oper} {d:Nat} {ty:TypeId} {ps:String} {af:Array Edge} {x:Operand} {t:TypeId} {O O' : List Ob} {dd:Oa Tmp} {g:Oa (Nat × Bool)} {κ ν:Type} [Enc κ] [Enc ν] [DecidableEq κ]
theorem KeyAt.update {kt et:TypeId} (h:KeyAt P kt κ) (hm:P.underlying t = some (.map kt et)) {bk:Nat} {D:List (κ × ν)} {w:World} (hb:w.heap[bk]? = some (ay D)) (k:κ) (v:ν) :
  (Instr.mapUpdate t (.map (some bk)) (Enc.enc k) (Enc.enc v)).run P w = .ok () (w.putObj bk (ay (aB D k v))):=by
 have hget:(getObj bk).run P w = .ok (ay D) w:=by simp [getObj,Sem.run,hb,ay]
 have hset:∀ o,(setObj bk o).run P w = .ok () (w.putObj bk o):=fun o=>by simp [setObj,Sem.run,hb,ay,World.putObj]
 simp only [Instr.mapUpdate,Sem.run_bind,run_underlying hm,Result.andThen_ok,hget,dB,h.check false,h.find]
 cases hf:bO D k 0 with
 | none=>
  simp only [Option.map_none]
  rw [dQ hf v,ef,hset]
  simp
 | some r=>
  obtain ⟨m,u⟩:=r
  obtain ⟨_,h2,h3⟩:=gg hf
  obtain ⟨h4,h5⟩:=h3 v
  rw [Nat.sub_zero] at h2 h4 h5
  have hkey:((aR D 0).toArray[m]?).map (·.key) = some (Enc.enc k):=by
   rw [List.getElem?_toArray,iV]
   cases hd:D[m]? with
   | none=>rw [hd] at h5; cases h5
   | some e=>rw [hd] at h5; simp at h5; simp [h5]
  simp only [Option.map_some,hkey,Option.getD_some,Instr.keyThatStays,h.bits k,if_true,Sem.run_bind,Sem.run_pure,Result.andThen_ok]
  rw [h4,gt D 0 m h2 k v,hset]
  simp [List.modify_toArray]
theorem Acts.mapUpdateK {kt et:TypeId} {xm xk xv:Operand} {bk:Nat} {D:List (κ × ν)} {kv:κ} {vv:ν} (h:KeyAt P kt κ) (s:St w0 w O) (u:Upd O (.obj bk (ay D)) (.obj bk (ay (aB D kv vv))) O') (hm:P.underlying t = some (.map kt et))
  (h1:ev σ xm = some (.map (some bk))) (h2:ev σ xk = some (Enc.enc kv)) (h3:ev σ xv = some (Enc.enc vv)):Acts P ⟨dd,.mapUpdate t xm xk xv,ty,ps,af,g⟩ σ w (Now w0 w O O'):=fun ρ ha w' hw=>by
 refine ⟨w'.putObj bk (ay (aB D kv vv)),?_,cO s u hw⟩
 simp only [execOp,ha _ _ h1,ha _ _ h2,ha _ _ h3,Sem.run_bind,h.update hm (aL hw (s.get u)) kv vv,Result.andThen_ok]; rfl
theorem FV.lookupK {kt et:TypeId} {xm xk:Operand} {bk:Nat} {D:List (κ × ν)} {kv:κ} {z u' : Vc} {q:Bool} (h:KeyAt P kt κ) (s:St w0 w O) (u:At O (.obj bk (ay D))) (hm:P.underlying t = some (.map kt et))
  (hz:(P.info? et).bind (·.zero) = some z) (h1:ev σ xm = some (.map (some bk))) (h2:ev σ xk = some (Enc.enc kv)) (hq:(bc D kv = none/\u' = z/\q = false) ∨ ∃ y,bc D kv = some y/\u' = Enc.enc y/\q = true):FV P ⟨dd,.lookup t xm xk true,ty,ps,af,g⟩ σ w (.tuple #[u', .bool q]):=by
 intro ρ ha w' hw
 have hb:=aL hw (s.get u.upd)
 have hget:(getObj bk).run P w' = .ok (ay D) w' :=by simp [getObj,Sem.run,hb,ay]
 have hzero:(zeroValue et).run P w' = .ok z w' :=by
  cases hi:P.info? et with
  | none=>rw [hi] at hz; cases hz
  | some i=>rw [hi] at hz; simp at hz; simp [zeroValue,typeInfo,hi,hz]
 simp only [execOp,ha _ _ h1,ha _ _ h2,Instr.lookup,Sem.run_bind,run_underlying hm,Result.andThen_ok,hget,dB,Sem.run_pure,h.check,h.find]
 rw [fV kv D 0] at hq
 cases hf:bO D kv 0 with
 | none=>
  rw [hf] at hq
  rcases hq with ⟨_,rfl,rfl⟩ | ⟨y,hy,_⟩
  ·simp [hzero]
  ·cases hy
 | some r=>
  obtain ⟨m,v⟩:=r
  rw [hf] at hq
  rcases hq with ⟨hy,_⟩ | ⟨y,hy,rfl,rfl⟩
  ·cases hy
  ·cases hy; simp
end
theorem eqOp {P:Program} {t:TypeId} {ks:List TypeDesc} {xs ys:List Vc} {q:Prop} [Decidable q] (hl:gA P 10 t = some ks) (ha:bR P t = true) (hX:cR ks xs = true) (hY:cR ks ys = true) (hq:aW xs ys = true ↔ q) (w9:World) :
  (Op.equal t (.agg xs.toArray) (.agg ys.toArray)).run P w9 = .ok (decide q) w9:=by
 have h:=(dW 10 9990 t ks hl).2 xs ys hX hY w9
 simp only [asV,ha,if_true] at h
 have hh:aW xs ys = decide q:=by
  by_cases hh:q
  ·rw [decide_eq_true hh]; exact hq.2 hh
  ·rw [decide_eq_false hh]
   cases h2:aW xs ys
   ·rfl
   ·exact absurd (hq.1 h2) hh
 rw [<- hh]
 exact h
def MR {κ ν:Type} [Rep ν] (w:World) (L:List Nat):List (κ × List Vc) -> List (κ × ν) -> Prop
 | [],[]=>True
 | z :: Z,m :: M=>z.1 = m.1/\Rep.R w L z.2 m.2/\MR w L Z M
 | _,_=>False
section
variable {κ ν:Type} [Rep ν]
theorem MR.at_ {w w0:World} {O:List Ob} (_:St w0 w O) (L:List Nat) {Z:List (κ × List Vc)} {M:List (κ × ν)} (h:MR w (bl O ++ L) Z M):MR w (bl O ++ L) Z M:=h
theorem MR.mv {w1 w2:World} {O1 O2:List Ob} {L:List Nat}:∀ {Z:List (κ × List Vc)} {M:List (κ × ν)},MR w1 (bl O1 ++ L) Z M -> Tr w1 O1 w2 O2 -> MR w2 (bl O2 ++ L) Z M
 | [],[],_,_=>trivial
 | _ :: _,_ :: _,⟨h1,h2,h3⟩,t=>⟨h1,Rep.mv h2 t,h3.mv t⟩
 | _ :: _,[],h,_=>h.elim
 | [],_ :: _,h,_=>h.elim
theorem MR.len {w:World} {L:List Nat}:∀ {Z:List (κ × List Vc)} {M:List (κ × ν)},MR w L Z M -> Z.length = M.length
 | [],[],_=>rfl
 | _ :: _,_ :: _,⟨_,_,h3⟩=>by rw [List.length_cons,List.length_cons,h3.len]
 | _ :: _,[],h=>h.elim
 | [],_ :: _,h=>h.elim
theorem MR.nth {w:World} {L:List Nat}:∀ {Z:List (κ × List Vc)} {M:List (κ × ν)},MR w L Z M -> ∀ {i:Nat} {k:κ} {c:List Vc},Z[i]? = some (k,c) -> ∃ y,M[i]? = some (k,y)/\Rep.R w L c y
 | [],[],_,i,k,c,h=>by cases h
 | z :: Z,m :: M,⟨h1,h2,h3⟩,i,k,c,h=>by
  cases i with
  | zero=>
   rw [List.getElem?_cons_zero] at h
   cases h
   exact ⟨m.2,by rw [List.getElem?_cons_zero]; exact congrArg some (Prod.ext h1.symm I),h2⟩
  | succ i=>rw [List.getElem?_cons_succ] at h ⊢; exact h3.nth h
 | _ :: _,[],h,_,_,_,_=>h.elim
 | [],_ :: _,h,_,_,_,_=>h.elim
variable [DecidableEq κ]
theorem MR.set {w:World} {L:List Nat} {k:κ} {c:List Vc} {y:ν} (hr:Rep.R w L c y):∀ {Z:List (κ × List Vc)} {M:List (κ × ν)},MR w L Z M -> MR w L (aB Z k c) (aB M k y)
 | [],[],_=>⟨rfl,hr,trivial⟩
 | z :: Z,m :: M,⟨h1,h2,h3⟩=>by
  rw [aB,aB]
  by_cases hk:k = m.1
  ·rw [if_pos hk,if_pos (hk.trans h1.symm)]; exact ⟨rfl,hr,h3⟩
  ·rw [if_neg hk,if_neg (fun e=>hk (e.trans h1))]; exact ⟨h1,h2,h3.set hr⟩
 | _ :: _,[],h=>h.elim
 | [],_ :: _,h=>h.elim
theorem MR.get {w:World} {L:List Nat} (k:κ):∀ {Z:List (κ × List Vc)} {M:List (κ × ν)},MR w L Z M -> (bc M k = none/\bc Z k = none) ∨ ∃ c y,bc Z k = some c/\bc M k = some y/\Rep.R w L c y
 | [],[],_=>.inl ⟨rfl,rfl⟩
 | z :: Z,m :: M,⟨h1,h2,h3⟩=>by
  rw [bc,bc]
  by_cases hk:k = m.1
  ·rw [if_pos hk,if_pos (hk.trans h1.symm)]; exact .inr ⟨_,_,rfl,rfl,h2⟩
  ·rw [if_neg hk,if_neg (fun e=>hk (e.trans h1))]; exact h3.get k
 | _ :: _,[],h=>h.elim
 | [],_ :: _,h=>h.elim
end
theorem iu {ε:Type} (sn:Array Nat) {D:List ε}:left D sn = [] ↔ ∀ i < D.length,sn.contains i = true:=by
 unfold left
 rw [List.map_eq_nil_iff,List.filter_eq_nil_iff]
 constructor
 ·intro h i hi
  have:=h (D[i],i) (List.mem_zipIdx_iff_getElem?.2 (List.getElem?_eq_getElem hi))
  simpa using this
 ·rintro h ⟨z,i⟩ hz
  have:=List.mem_zipIdx_iff_getElem?.1 hz
  simp only at this
  have hl:=(List.getElem?_eq_some_iff.1 this).1
  have h9:=h i hl
  simpa using h9
section
variable {P:Program} {Z:Machine -> Prop} {b:Frame} {n:Nat} {ds:List Deferred} {cs:List Frame} {k:List Item} {σ τ:List (Nat × Vc)} {w w0:World} {ops:Array Oper} {l:List Oper} {d:Nat} {ty:TypeId} {ps:String} {af:Array Edge} {x:Operand} {t:TypeId} {O O' : List Ob} {dd:Oa Tmp} {g:Oa (Nat × Bool)} {κ ν:Type} [Enc κ] [Rep ν]
theorem RG.nextR {bm r:Nat} {W:List (κ × List Vc)} {M:List (κ × ν)} {L:List Nat} {sn:Array Nat} {F:Array Nat -> List Ob} {rest:List (κ × ν)} (hM:MR w L W M) (s:St w0 w O) (um:At O (.obj bm (ay W))) (u:∀ sn', Upd O (.obj r (aC bm W.length sn)) (.obj r (aC bm W.length sn')) (F sn')) (hx:ev σ x = some (.pointer (some ⟨r,0,none⟩))) (hd:Nat.blt d n = true) (hrest:left M sn = rest)
  (h0:∀ w1,rest = [] -> St w0 w1 O -> Tr w O w1 O -> RG P Z b n ds cs ops l k ((d,.tuple #[.bool false]) :: σ) w1)
  (h1:∀ w1 i (e:κ × ν) c rest', W[i]? = some (e.1,c) -> Rep.R w L c e.2 -> (e,rest') ∈ cK rest -> left M (sn.push i) = rest' -> St w0 w1 (F (sn.push i)) -> Tr w O w1 (F (sn.push i)) -> RG P Z b n ds cs ops l k ((d,.tuple #[.bool true,Enc.enc e.1,.agg c.toArray]) :: σ) w1) :
  RG P Z b n ds cs ops (⟨some d,.next x false,ty,ps,af,none⟩ :: l) k σ w:=
 RG.doesL .plain hd (DoesL.next s um u hx) fun v w1 q=>by
  rcases q with ⟨a1,rfl,a3,a4⟩ | ⟨i,hi,a1,rfl,a3,a4⟩
  ·refine h0 w1 (hrest.symm.trans ((iu sn).2 fun i hi=>(iu sn).1 a1 i (by rw [hM.len]; exact hi))) a3 a4
  ·obtain ⟨y,hy,hr⟩:=hM.nth (i:=i) (k:=W[i].1) (c:=W[i].2) (List.getElem?_eq_getElem hi)
   obtain ⟨hl,ey⟩:=List.getElem?_eq_some_iff.1 hy
   have hp:=kz M sn i hl a1
   rw [ey,hrest] at hp
   exact h1 w1 i (W[i].1,y) W[i].2 _ (List.getElem?_eq_getElem hi) hr hp I a3 a4
end
end
section
-- NT
open Go Go.RowKit
section
variable {α:Type}
def jF (lt:α -> α -> Bool) (x:α):List α -> List α
 | []=>[x]
 | y :: ys=>if lt y x then y :: jF lt x ys else x :: y :: ys
def bX (lt:α -> α -> Bool):List α -> List α
 | []=>[]
 | x :: xs=>jF lt x (bX lt xs)
def ltQ (c:α -> α -> Oa Int) (x y:α):Bool:=decide ((c x y).getD 0 < 0)
def mg [DecidableEq α] (c:α -> α -> Oa Int) (xs:List α):Bool:=
 xs.all fun x=>!(ltQ c x x) && xs.all fun y=>(c x y).isSome && (ltQ c x y || ltQ c y x || decide (x = y)) && xs.all fun z=>(!(ltQ c x y && ltQ c y z) || ltQ c x z)
def lm [DecidableEq α] (c:α -> α -> Oa Int) (xs:List α):Oa (List α):=if mg c xs = true then some (bX (ltQ c) xs) else none
theorem eJ (lt:α -> α -> Bool) (x:α):∀ ys,(jF lt x ys).Perm (x :: ys)
 | []=>.refl _
 | y :: ys=>by
  rw [jF]
  split
  ·exact ((eJ lt x ys).cons y).trans (.swap x y ys)
  ·exact .refl _
theorem bJ (lt:α -> α -> Bool):∀ xs,(bX lt xs).Perm xs
 | []=>.refl _
 | x :: xs=>(eJ lt x _).trans ((bJ lt xs).cons x)
theorem eT {lt:α -> α -> Bool} {x:α}:∀ {ys:List α},(∀ a b,(a ∈ ys ∨ a = x) -> (b ∈ ys ∨ b = x) -> ∀ c,(c ∈ ys ∨ c = x) -> lt a b = false -> lt b c = false -> lt a c = false) -> (∀ a,a ∈ ys -> lt a x = true -> lt x a = false) -> ys.Pairwise (fun a b=>lt b a = false) -> (jF lt x ys).Pairwise fun a b=>lt b a = false
 | [],_,_,_=>by rw [jF]; exact List.pairwise_singleton _ _
 | y :: ys,ht,ha,hp=>by
  obtain ⟨h1,h2⟩:=List.pairwise_cons.1 hp
  rw [jF]
  split
  ·rename_i hlt
   refine List.pairwise_cons.2 ⟨fun a hm=>?_,eT (fun a b h3 h4 c h5=>ht a b (h3.imp (List.mem_cons_of_mem _) id) (h4.imp (List.mem_cons_of_mem _) id) c (h5.imp (List.mem_cons_of_mem _) id)) (fun a hm=>ha a (List.mem_cons_of_mem _ hm)) h2⟩
   rcases List.mem_cons.1 ((eJ lt x ys).mem_iff.1 hm) with rfl | hm
   ·exact ha y (List.mem_cons_self ..) hlt
   ·exact h1 a hm
  ·rename_i hlt
   have hlt' : lt y x = false:=by simpa using hlt
   refine List.pairwise_cons.2 ⟨fun a hm=>?_,hp⟩
   rcases List.mem_cons.1 hm with rfl | hm'
   ·exact hlt'
   ·exact ht a y (.inl hm) (.inl (List.mem_cons_self ..)) x (.inr I) (h1 a hm') hlt'
variable {c:α -> α -> Oa Int} {xs:List α}
structure SortOk (c:α -> α -> Option Int) (xs:List α):Prop where
 irr:∀ x ∈ xs,ltQ c x x = false
 some:∀ x ∈ xs,∀ y ∈ xs,∃ r,c x y = some r
 tot:∀ x ∈ xs,∀ y ∈ xs,ltQ c x y = false -> ltQ c y x = false -> x = y
 trans:∀ x ∈ xs,∀ y ∈ xs,∀ z ∈ xs,ltQ c x y = true -> ltQ c y z = true -> ltQ c x z = true
theorem gH [DecidableEq α]:mg c xs = true ↔ SortOk c xs:=by
 unfold mg
 rw [List.all_eq_true]
 constructor
 ·intro h
  have h1:∀ x ∈ xs,ltQ c x x = false/\∀ y ∈ xs,((c x y).isSome = true/\((ltQ c x y = true ∨ ltQ c y x = true) ∨ x = y))/\∀ z ∈ xs,ltQ c x y = true -> ltQ c y z = true -> ltQ c x z = true:=fun x hx=>by
   have h2:=h x hx
   rw [Bool.and_eq_true,Bool.not_eq_true', List.all_eq_true] at h2
   refine ⟨h2.1,fun y hy=>?_⟩
   have h3:=h2.2 y hy
   rw [Bool.and_eq_true,Bool.and_eq_true,Bool.or_eq_true,Bool.or_eq_true,List.all_eq_true] at h3
   refine ⟨⟨h3.1.1,h3.1.2.imp id of_decide_eq_true⟩,fun z hz e1 e2=>?_⟩
   have h4:=h3.2 z hz
   rw [e1,e2] at h4
   simpa using h4
  refine ⟨fun x hx=>(h1 x hx).1,fun x hx y hy=>Option.isSome_iff_exists.1 ((h1 x hx).2 y hy).1.1,fun x hx y hy e1 e2=>?_,fun x hx y hy z hz=>((h1 x hx).2 y hy).2 z hz⟩
  rcases ((h1 x hx).2 y hy).1.2 with (h2 | h2) | h2
  ·rw [e1] at h2; cases h2
  ·rw [e2] at h2; cases h2
  ·exact h2
 ·intro h x hx
  rw [Bool.and_eq_true,Bool.not_eq_true', List.all_eq_true]
  refine ⟨h.irr x hx,fun y hy=>?_⟩
  rw [Bool.and_eq_true,Bool.and_eq_true,Bool.or_eq_true,Bool.or_eq_true,List.all_eq_true]
  refine ⟨⟨Option.isSome_iff_exists.2 (h.some x hx y hy),?_⟩,fun z hz=>?_⟩
  ·cases e1:ltQ c x y
   ·cases e2:ltQ c y x
    ·exact .inr (decide_eq_true (h.tot x hx y hy e1 e2))
    ·exact .inl (.inr I)
   ·exact .inl (.inl I)
  ·cases e1:ltQ c x y
   ·rfl
   ·cases e2:ltQ c y z
    ·rfl
    ·rw [h.trans x hx y hy z hz e1 e2]; rfl
theorem SortOk.ntrans (h:SortOk c xs) {x y z:α} (hx:x ∈ xs) (hy:y ∈ xs) (hz:z ∈ xs) (e1:ltQ c x y = false) (e2:ltQ c y z = false):ltQ c x z = false:=by
 cases e:ltQ c x z
 ·rfl
 ·cases e3:ltQ c y x
  ·rw [h.tot x hx y hy e1 e3,e2] at e; cases e
  ·rw [h.trans y hy x hx z hz e3 e] at e2; cases e2
theorem cN (h:SortOk c xs):∀ ys,(∀ y ∈ ys,y ∈ xs) -> (bX (ltQ c) ys).Pairwise fun a b=>ltQ c b a = false
 | [],_=>.nil
 | y :: ys,hm=>by
  rw [bX]
  have hy:=hm y (List.mem_cons_self ..)
  have hs:∀ a,(a ∈ bX (ltQ c) ys ∨ a = y) -> a ∈ xs:=fun a ha=>by
   rcases ha with ha | rfl
   ·exact hm a (List.mem_cons_of_mem _ ((bJ _ ys).mem_iff.1 ha))
   ·exact hy
  refine eT (fun a b h1 h2 d h3=>h.ntrans (hs a h1) (hs b h2) (hs d h3)) (fun a ha e=>?_) (cN h ys fun z hz=>hm z (List.mem_cons_of_mem _ hz))
  cases e2:ltQ c y a
  ·rfl
  ·have:=h.trans y hy a (hs a (.inl ha)) y hy e2 e
   rw [h.irr y hy] at this
   cases this
theorem fB (h:SortOk c xs) {ys zs:List α} (h1:ys.Perm xs) (h2:zs.Perm xs) (p1:ys.Pairwise fun a b=>ltQ c b a = false) (p2:zs.Pairwise fun a b=>ltQ c b a = false):ys = zs:=
 List.Perm.eq_of_pairwise (le:=fun a b=>ltQ c b a = false) (fun a b ha hb e1 e2=>h.tot a (h1.mem_iff.1 ha) b (h2.mem_iff.1 hb) e2 e1) p1 p2 (h1.trans h2.symm)
end
end
section
open Go Go.RowKit
section
variable {P:Program} {σ:List (Nat × Vc)} {w w0:World} {x y:Operand} {d:Oa Tmp} {t t' ty:TypeId} {ps:String} {af:Array Edge} {g:Oa (Nat × Bool)} {O O' : List Ob} {α:Type} [Rep α] {L:List Nat} {xs ys:List α} {v v' : Vc} {cs:List Vc} {base:Nat} {e:TypeId} {n' cap bk j sz:Nat} {old news new' : List Vc}
end
end
section
open Go Go.RowKit
section
variable {P:Program} {σ:List (Nat × Vc)} {w w0:World} {x y:Operand} {d:Oa Tmp} {t ty:TypeId} {ps:String} {af:Array Edge} {g:Oa (Nat × Bool)} {O O' : List Ob} {α:Type} [Rep α] {L:List Nat} {xs:List α} {v v1 va vb:Vc} {cs:List Vc} {base:Nat} {e:TypeId} {lo m n sz:Nat}
structure Pt (v v' : Value) (lo sz m n:Nat):Prop where
 le:lo + m <= n
 pos:0 < n
 at_:∃ bk c a,v = .slice (some ⟨bk,0,none⟩) n c/\n <= c/\v' = .slice (some a) m (c - lo)/\(lo < c -> a = (⟨bk,0,none⟩:Addr).add (lo * sz))
end
end
section
open Go Go.RowKit
section
variable {P:Program} {σ:List (Nat × Vc)} {w w0:World} {x y:Operand} {d:Oa Tmp} {t tn ty e:TypeId} {ps:String} {af:Array Edge} {g:Oa (Nat × Bool)} {O:List Ob} {α:Type} [Rep α] {v:Vc} {sz bytes k:Nat} {z:Vc} {zc:List Vc} {kn kq:IntKind}
structure Rm (v:Value) (k b c:Nat):Prop where
 eq:v = .slice (some ⟨b,0,none⟩) k c
 le:k <= c
 pos:0 < k
end
end
open Go Go.RowKit Go.Sort Go.Shelf
theorem je {w w' : World} (h:Agree [] w w'):∃ q os,w' = grow (w.drewN q) os:=by
 refine ⟨w'.drawn - w.drawn,w'.heap.extract w.heap.size w'.heap.size,?_⟩
 have hh:w.heap ++ w'.heap.extract w.heap.size w'.heap.size = w'.heap:=by
  apply Array.ext_getElem?
  intro i
  rw [Array.getElem?_append]
  split
  ·rename_i hi
   exact (h.block i hi (by simp)).symm
  ·rename_i hi
   rw [Array.getElem?_extract,show w.heap.size + (i - w.heap.size) = i by omega]
   split
   ·rfl
   ·rename_i h2
    rw [Array.getElem?_eq_none (by have:=h.size; omega)]
 have hd:=h.drawn
 obtain ⟨h1,h2,h3,h4,h5,h6⟩:=h
 cases w
 cases w'
 simp only at h1 h2 h3 hh hd
 subst h1 h2 h3
 simp only [grow,World.drewN,hh]
 congr 1
 omega
section
variable {α:Type}
theorem fy {enc:α -> List Vc} {k:Nat} (h0:0 < k) (hk:∀ x,(enc x).length = k):∀ (l:List α) (t:Nat),(l.flatMap enc)[t]? = (l[t / k]?).bind fun x=>(enc x)[t % k]?
 | [],t=>by simp
 | x :: l,t=>by
  rw [List.flatMap_cons]
  by_cases ht:t < k
  ·rw [List.getElem?_append_left (by rw [hk]; exact ht),Nat.div_eq_of_lt ht,Nat.mod_eq_of_lt ht]; rfl
  ·rw [List.getElem?_append_right (by rw [hk]; omega),hk,fy h0 hk l (t - k),show t / k = (t - k) / k + 1 from Nat.div_eq_sub_div h0 (by omega),Nat.mod_eq_sub_mod (a:=t) (b:=k) (by omega),List.getElem?_cons_succ]
theorem dc {enc:α -> List Vc} {k:Nat} (hk:∀ x,(enc x).length = k):∀ l:List α,(l.flatMap enc).length = l.length * k
 | []=>by simp
 | x :: l=>by rw [List.flatMap_cons,List.length_append,hk,dc hk l,List.length_cons,Nat.add_mul,Nat.one_mul,Nat.add_comm]
theorem gx [Inhabited α] {enc:α -> List Vc} {k:Nat} (h0:0 < k) (hk:∀ x,(enc x).length = k) (l:List α):(flatK enc k l.toArray).toList = l.flatMap enc:=by
 apply List.ext_getElem?
 intro t
 rw [fy h0 hk,Array.getElem?_toList]
 by_cases ht:t < l.length * k
 ·have h1:t / k < l.length:=Nat.div_lt_of_lt_mul (by rw [Nat.mul_comm]; exact ht)
  have h2:t % k < (enc l[t / k]).length:=by rw [hk]; exact Nat.mod_lt _ h0
  have hs:t < (flatK enc k l.toArray).size:=by rw [size_flatK]; simpa using ht
  have hg:=get_flatK enc k l.toArray t (by simpa using ht)
  rw [getElem!_pos _ t hs] at hg
  rw [Array.getElem?_eq_getElem hs,hg,List.getElem?_eq_getElem h1]
  simp only [Option.bind_some]
  rw [List.getElem?_eq_getElem h2]
  have e1:l.toArray[t / k]! = l[t / k]:=by rw [getElem!_pos _ _ (by simpa using h1)]; simp
  rw [e1]
  exact congrArg some (getElem!_pos (enc l[t / k]) (t % k) h2)
 ·rw [Array.getElem?_eq_none (by rw [size_flatK]; simpa using ht)]
  have h1:l.length <= t / k:=(Nat.le_div_iff_mul_le h0).2 (by omega)
  rw [List.getElem?_eq_none h1]; rfl
end
theorem lu {w:World} {g n:Nat} {os:Array Obj} {cur:Array Vc} {e:TypeId} {fr:Nat × Nat} (F:Array Vc) (hb:w.heap[g]? = some (.cells cur e fr)) :
  (grow (putRow id (Sort.ahead w n) g 0 F) os).heap[g]? = some (.cells (putCells id 0 F cur) e fr):=by
 have hg:g < w.heap.size:=(Array.getElem?_eq_some_iff.1 hb).1
 rw [heap_grow_old _ _ (by simpa using hg)]
 simp [putRow,mapBlock,Sort.ahead,Array.getElem?_modify,hb,onCells]
theorem kg {w:World} {g n:Nat} {os:Array Obj} (F:Array Vc):Agree [g] w (grow (putRow id (Sort.ahead w n) g 0 F) os):=by
 refine ⟨rfl,rfl,rfl,by simp,fun k hk hne=>?_,by simp [grow,putRow,mapBlock,Sort.ahead]⟩
 rw [heap_grow_old _ _ (by simpa using hk)]
 have:g ≠ k:=fun e=>hne (by rw [e]; simp)
 simp [putRow,mapBlock,Sort.ahead,Array.getElem?_modify,this]
theorem kS (cur F:Array Vc) (h:F.size <= cur.size):(putCells id 0 F cur).toList.take F.size = F.toList:=by
 apply List.ext_getElem?
 intro j
 by_cases hj:j < F.size
 ·rw [List.getElem?_take_of_lt hj,Array.getElem?_toList]
  simp [putCells,hj,show j < cur.size by omega]
 ·rw [List.getElem?_take_eq_none (by omega),List.getElem?_eq_none (by simp; omega)]
section
def de {α:Type} [DecidableEq α] (c:α -> α -> Oa Int) (li:Int) (xs:List α):Oa (List α):=if 0 <= li/\li < 4611686018427387904 then lm c xs else none
variable {P:Program} {ρ:Ren} {α:Type}
theorem ja {enc:α -> List Vc} {k:Nat} (hk0:0 < k) (hk:∀ x,(enc x).length = k) (h1:∀ x,∀ v ∈ enc x,v.oneCell' = true) {c:α -> α -> Oa Int} {xs:List α} (hB:SortOk c xs) {lim:Nat} (hlim:lim < 4611686018427387904) (L:SlLaysF0.n14 P ρ)
  (aE:∀ w,(isAgg (ρ.t 24)).run P w = .ok true w) (zE:∀ w,(Go.sizeOf (ρ.t 24)).run P w = .ok k w) {g:Nat} (eg:∀ args w,(callFunc g args).run P w = .ok (.enter g args) w)
  (hc:∀ x y r w9,c x y = some r -> Calls P g #[.agg (enc x).toArray,.agg (enc y).toArray] w9 (ar w9 fun _ u=>u = .int .i64 r))
  {w:World} {base:Nat} {e:TypeId} {v:Vc} (hown:w.ownsRow base e k v xs.length (xs.flatMap enc)) (hl:xs.length <= df) :
  Calls P (ρ.f 14) #[v,.int .i64 0,.int .i64 (xs.length:Int),.int .i64 (lim:Int),.func (.func g) #[] #[]] w fun e' w' =>∃ u,e' = .returned u/\u = .tuple #[]/\Agree v.ownBlock.toList w w' /\w'.ownsRow base e k v xs.length ((bX (ltQ c) xs).flatMap enc):=by
 unfold df at hl
 rcases Nat.eq_zero_or_pos xs.length with h0 | h0
 ·obtain rfl:=List.eq_nil_of_length_eq_zero h0
  have hv:∃ p cap,v = .slice p 0 cap:=by
   rcases hown.2 with ⟨rfl,_⟩ | ⟨bk,cap,cur,rfl,_⟩
   ·exact ⟨_,_,I⟩
   ·exact ⟨_,_,I⟩
  obtain ⟨p,cap,rfl⟩:=hv
  refine (AnyF.pdqsortCmpFunc_none L p cap (lim:Int) (.func (.func g) #[] #[]) w).mono ?_
  rintro e' w' ⟨rfl,rfl⟩
  exact ⟨_,I,I,Agree.refl _ _,hown⟩
 ·rcases hown.2 with ⟨rfl,h2⟩ | ⟨bk,cap,cur,rfl,hbase,hb,hn,hcap,hsz,htk⟩
  ·exact absurd h2 (by omega)
  ·haveI:Inhabited {x // x ∈ xs}:=⟨⟨xs[0],List.getElem_mem _⟩⟩
   have hat:∀ (l:List {x // x ∈ xs}),(l.flatMap fun x=>enc x.1) = (l.map (·.1)).flatMap enc:=fun l=>by rw [List.flatMap_map]
   have hsize:xs.attach.toArray.size = xs.length:=by simp
   have hF:=gx (enc:=fun x:{x // x ∈ xs}=>enc x.1) hk0 (fun x=>hk x.1) xs.attach
   rw [hat,List.attach_map_subtype_val] at hF
   have hH:HoldsK (fun x:{x // x ∈ xs}=>enc x.1) k w bk 0 xs.attach.toArray:=by
    intro j hj
    refine ⟨?_,by simp [World.frozen?,hb]⟩
    have hj' : j < xs.length * k:=by rw [size_flatK,hsize] at hj; exact hj
    simp only [World.cell?,hb,Nat.zero_add,Option.isSome_none,Bool.false_eq_true,if_false,id]
    rw [<- Array.getElem?_toList,<- List.getElem?_take_of_lt hj', htk,<- hF,Array.getElem?_toList,getElem!_pos _ j hj,Array.getElem?_eq_getElem hj]
   have hcmp:CmpLays P g #[] (fun x:{x // x ∈ xs}=>enc x.1) k (fun x y=>(c x.1 y.1).getD 0) bk 0 xs.attach.toArray.size w:=fun m os dk _ x y=>by
    obtain ⟨r,hr⟩:=hB.some x.1 x.2 y.1 y.2
    refine (hc x.1 y.1 r _ hr).mono ?_
    rintro e' w' ⟨u,rfl,rfl,hag⟩
    exact ⟨by show Ending.returned (.int .i64 r) = .returned (.int .i64 ((c x.1 y.1).getD 0)); rw [hr]; rfl,je hag⟩
   have hO:SWO (ltOf fun x y:{x // x ∈ xs}=>(c x.1 y.1).getD 0):=⟨fun x=>hB.irr x.1 x.2,fun x y z=>hB.trans x.1 x.2 y.1 y.2 z.1 z.2,fun x y z=>hB.ntrans x.2 y.2 z.2⟩
   have hcall:=AnyQ.pdqsortCmpFunc_all L k aE zE (fun x:{x // x ∈ xs}=>enc x.1) (fun x y=>(c x.1 y.1).getD 0) g #[] hO bk 0 cap xs.attach.toArray w eg hcmp ⟨fun x=>hk x.1,fun x=>h1 x.1,hH,(Array.getElem?_eq_some_iff.1 hb).1⟩ (xs.attach.toArray.size + 1) 0 xs.attach.toArray.size lim xs.attach.toArray w (by omega) I (SWK.start hH) (Nat.zero_le _) (Nat.le_refl _) (by rw [hsize]; omega) hlim (Or.inl I)
   have hps:=pdq_sorts (ltOf fun x y:{x // x ∈ xs}=>(c x.1 y.1).getD 0) hO xs.attach.toArray 0 xs.attach.toArray.size lim true true (Nat.zero_le _) (Nat.le_refl _) (Or.inl I)
   have hun:=sorted_unique_holds hO (fun x y e1 e2=>Subtype.ext (hB.tot x.1 x.2 y.1 y.2 e1 e2)) xs.attach.toArray _ hps.1 hps.2
   have hun2:=congrArg List.toArray hun
   rw [Array.toArray_toList] at hun2
   rw [hun2,hsize] at hcall
   refine hcall.mono ?_
   rintro e' w' ⟨rfl,n,os,rfl⟩
   have hms:((xs.attach.toArray.toList.mergeSort fun x y=>!(ltOf fun x y:{x // x ∈ xs}=>(c x.1 y.1).getD 0) y x).map (·.1)) = bX (ltQ c) xs:=by
    have hp:=List.mergeSort_perm xs.attach (fun x y=>!(ltOf fun x y:{x // x ∈ xs}=>(c x.1 y.1).getD 0) y x)
    have hs:=List.pairwise_mergeSort (le:=fun x y:{x // x ∈ xs}=>!(ltOf fun x y:{x // x ∈ xs}=>(c x.1 y.1).getD 0) y x) (fun a b d e1 e2=>by
     rw [Bool.not_eq_true'] at e1 e2 ⊢
     exact hB.ntrans d.2 b.2 a.2 e2 e1) (fun a b=>by
     rw [Bool.or_eq_true,Bool.not_eq_true', Bool.not_eq_true']
     cases e1:ltOf (fun x y:{x // x ∈ xs}=>(c x.1 y.1).getD 0) b a
     ·exact .inl I
     ·right
      cases e2:ltOf (fun x y:{x // x ∈ xs}=>(c x.1 y.1).getD 0) a b
      ·rfl
      ·have:=hB.trans a.1 a.2 b.1 b.2 a.1 a.2 e2 e1
       rw [hB.irr a.1 a.2] at this
       cases this) xs.attach
    refine fB hB ?_ (bJ _ _) ?_ (cN hB xs fun y hy=>hy)
    ·have:=hp.map (·.1)
     rw [List.attach_map_subtype_val] at this
     exact this
    ·rw [List.pairwise_map]
     exact hs.imp fun {a b} e1=>by rw [Bool.not_eq_true'] at e1; exact e1
   have hF2:=gx (enc:=fun x:{x // x ∈ xs}=>enc x.1) hk0 (fun x=>hk x.1) (xs.attach.toArray.toList.mergeSort fun x y=>!(ltOf fun x y:{x // x ∈ xs}=>(c x.1 y.1).getD 0) y x)
   rw [hat,hms] at hF2
   have hlen:(bX (ltQ c) xs).length = xs.length:=(bJ _ xs).length_eq
   have hfs:=congrArg List.length hF2
   rw [dc hk,hlen,Array.length_toList] at hfs
   refine ⟨_,rfl,rfl,kg _,by rw [dc hk,hlen],.inr ⟨bk,cap,_,rfl,hbase,lu _ hb,hn,hcap,by simp [putCells,hsz],?_⟩⟩
   have ht:=kS cur (flatK (fun x:{x // x ∈ xs}=>enc x.1) k (xs.attach.toArray.toList.mergeSort fun x y=>!(ltOf fun x y:{x // x ∈ xs}=>(c x.1 y.1).getD 0) y x).toArray) (by rw [hfs,hsz]; exact Nat.mul_le_mul hn (Nat.le_refl _))
   rw [hfs,hF2] at ht
   exact ht
end
section
variable {α:Type} [Rep α] {enc:α -> List Vc}
theorem fE (hE:∀ (w:World) (L:List Nat) (cs:List Vc) (x:α),Rep.R w L cs x -> cs = enc x) {w:World} {L:List Nat}:∀ {xs:List α} {cs:List Vc},Cells w L cs xs -> cs = xs.flatMap enc
 | [],cs,h=>List.eq_nil_of_length_eq_zero (by simpa using h.1)
 | x :: xs,cs,h=>by
  have h0:=h.2 0 (by simp)
  have e0:=hE _ _ _ _ h0
  have ht:Cells w L (cs.drop (Rep.size α)) xs:=by
   refine ⟨by rw [List.length_drop,h.1,List.length_cons,Nat.add_mul,Nat.one_mul,Nat.add_sub_cancel],fun i hi=>?_⟩
   have h1:=h.2 (i + 1) (by simpa using hi)
   rw [List.drop_drop,show Rep.size α + i * Rep.size α = (i + 1) * Rep.size α by rw [Nat.add_mul,Nat.one_mul,Nat.add_comm]]
   exact h1
  rw [List.flatMap_cons,<- fE hE ht,<- show _ = enc x from e0,Nat.zero_mul,List.drop_zero,List.take_append_drop]
theorem bp (hE:∀ (w:World) (L:List Nat) (x:α),Rep.R w L (enc x) x) (w:World) (L:List Nat):∀ xs:List α,Cells w L (xs.flatMap enc) xs
 | []=>Cells.nil _ _
 | x :: xs=>by rw [List.flatMap_cons]; exact Cells.cons (hE _ _ _) (bp hE w L xs)
end
section
variable {P:Program} {Z:Machine -> Prop} {b:Frame} {n:Nat} {ds:List Deferred} {cs:List Frame} {k:List Item} {σ τ:List (Nat × Vc)} {w w0:World} {ops:Array Oper} {l:List Oper} {d:Nat} {ty:TypeId} {ps:String} {af:Array Edge} {O O' : List Ob} {g:Oa (Nat × Bool)}
theorem RG.callW {f:FuncId} {c:Operand} {fst cap:List Vc} {xs:List Operand} {vs:List Vc} {ts:Array TypeId} {R:World -> Vc -> Prop} (hg:Want ops σ g true) (hf:bD P f = true) (hcal:ev σ c = some (.func (.func f) fst.toArray cap.toArray)) (hv:evs σ xs vs)
  (hc:∀ w', Agree [] w w' -> Calls P f (fst ++ vs ++ cap).toArray w' fun e w2=>∃ u,e = .returned u/\R w2 u) (hd:Nat.blt d n = true) (h:∀ w1 v,R w1 v -> RG P Z b n ds cs ops l k ((d,v) :: σ) w1) :
  RG P Z b n ds cs ops (⟨some d,.call { callee:=.value c,args:=xs.toArray,argTypes:=ts },ty,ps,af,g⟩ :: l) k σ w:=by
 intro i hi a w' ha hw
 obtain ⟨h1,h2⟩:=bf hi
 rw [List.length_cons,List.range'_succ]
 have he:=cE (P:=P) (ty:=ty) (ps:=ps) (af:=af) (g:=g) (dd:=some d) (ts:=ts) hf (ρ:=a.eval) (ha.ev hcal) (vs:=vs.toArray) (xs:=xs.toArray) (by rw [List.map_toArray,bn (fun x u hx=>ha.ev hx) hv]) w'
 refine .step (ck (bH hi) (hg.eq ha) (by rw [cS]; exact he)) ?_
 have hc' :=hc w' hw
 simp only [List.append_toArray]
 obtain ⟨e,w1,fr,⟨u,rfl,hR⟩,hs,_,hl⟩:=hc' (b.atR a (.inRegion ops (i :: List.range' (i + 1) l.length) :: k) :: cs)
 refine .steps hs (.step (step_leave_returned hl) ?_)
 rw [Frame.finish_atR,bH hi]
 exact h w1 u hR (i + 1) h2 _ _ (ha.put d u hd) (Agree.refl _ _)
theorem RG.sort {α:Type} [Rep α] [DecidableEq α] {enc:α -> List Vc} {ρ:Ren} {gf:Nat} {co:Operand} {xo:List Operand} {ts:Array TypeId} {c:α -> α -> Oa Int} {xs ys:List α} {v:Vc} {e:TypeId} {cz:List Vc} {L:List Nat} {li ln:Int} (hq:de c li xs = some ys) (hln:ln = ((xs.length:Nat):Int))
  (hE:∀ (w:World) (L:List Nat) (cs:List Vc) (x:α),Rep.R w L cs x -> cs = enc x) (hM:∀ (w:World) (L:List Nat) (x:α),Rep.R w L (enc x) x) (La:SlLaysF0.n14 P ρ)
  (aE:∀ w,(isAgg (ρ.t 24)).run P w = .ok true w) (zE:∀ w,(Go.sizeOf (ρ.t 24)).run P w = .ok (Rep.size α) w) (eg:∀ args w,(callFunc gf args).run P w = .ok (.enter gf args) w)
  (hc:∀ x y r w9,c x y = some r -> Calls P gf #[.agg (enc x).toArray,.agg (enc y).toArray] w9 (ar w9 fun _ u=>u = .int .i64 r))
  (hg:Want ops σ g true) (hf:bD P (ρ.f 14) = true) (hcal:ev σ co = some (.func (.func (ρ.f 14)) #[] #[])) (hv:evs σ xo [v,.int .i64 0,.int .i64 ln,.int .i64 li,.func (.func gf) #[] #[]]) (hd:Nat.blt d n = true)
  (s:St w0 w O) (hx:Cells w L cz xs) (u:Upd O (.row w0.heap.size e (Rep.size α) v xs.length cz) (.row w0.heap.size e (Rep.size α) v ys.length (ys.flatMap enc)) O')
  (h:∀ w1,St w0 w1 O' -> Tr w O w1 O' -> RG P Z b n ds cs ops l k ((d,.tuple #[]) :: σ) w1) :
  RG P Z b n ds cs ops (⟨some d,.call { callee:=.value co,args:=xo.toArray,argTypes:=ts },ty,ps,af,g⟩ :: l) k σ w:=by
 unfold de at hq
 split at hq
 case isFalse=>cases hq
 rename_i hli
 obtain ⟨lim,rfl⟩:∃ k:Nat,li = (k:Int):=⟨li.toNat,by omega⟩
 have hlim:lim < 4611686018427387904:=by omega
 subst hln
 unfold lm at hq
 split at hq
 ·rename_i hB
  cases hq
  have hO:=gH.1 hB
  have hlen:(bX (ltQ c) xs).length = xs.length:=(bJ _ xs).length_eq
  obtain rfl:=fE hE hx
  have hk:∀ x:α,(enc x).length = Rep.size α:=fun x=>Rep.len (hM w [] x)
  have h1:∀ x:α,∀ v ∈ enc x,v.oneCell' = true:=fun x=>Rep.one (hM w [] x)
  refine RG.callW (fst:=[]) (cap:=[]) (R:=fun w2 u=>u = .tuple #[]/\St w0 w2 O' /\Tr w O w2 O') hg hf hcal hv (fun w' hw=>?_) hd fun w1 u' ⟨e1,e2,e3⟩=>by subst e1; exact h w1 e2 e3
  obtain ⟨hown,hl⟩:(Ob.row w0.heap.size e (Rep.size α) v xs.length (xs.flatMap enc)).holds w' :=Ob.keep (s.get u) hw (by simp)
  have hcall:=ja (P:=P) (ρ:=ρ) Rep.pos hk h1 hO hlim La aE zE eg hc hown hl
  refine hcall.mono ?_
  rintro e' w2 ⟨u', rfl,rfl,hag,hrow⟩
  have hL:∀ b ∈ v.ownBlock.toList,(Ob.row w0.heap.size e (Rep.size α) v xs.length (xs.flatMap enc)).block = some b:=fun b hb=>by simpa [Ob.block] using hb
  have hb:∀ b', (Ob.row w0.heap.size e (Rep.size α) v (bX (ltQ c) xs).length ((bX (ltQ c) xs).flatMap enc)).block = some b' -> (Ob.row w0.heap.size e (Rep.size α) v xs.length (xs.flatMap enc)).block = some b' ∨ w.heap.size <= b' :=fun b' e=>.inl e
  have hag2:Agree v.ownBlock.toList w w2:=(Agree.widen hw).trans hag
  have hrow2:(Ob.row w0.heap.size e (Rep.size α) v (bX (ltQ c) xs).length ((bX (ltQ c) xs).flatMap enc)).holds w2:=⟨by rw [hlen]; exact hrow,by rw [hlen]; exact hl⟩
  exact ⟨_,I,I,s.upd u hag2 hL hrow2 hb,Tr.upd u hag2 hL hb⟩
 ·cases hq
end
@[reducible] def vn (n:Nat):Vc:=.int .i64 (n:Int)
@[reducible] def rr (w:World) (e:TypeId) (α:Type) [Rep α] (v:Vc) (n:Nat) (cs:List Vc):Ob:=.row w.heap.size e (Rep.size α) v n cs
abbrev hl (L:List Nat) (w:World):Prop:=∀ b ∈ L,b < w.heap.size
@[reducible] def vW (x:Int):Vc:=.int .u64 x
@[reducible] def vU (x:Ua):Vc:=.int .u64 (x.toNat:Int)
@[reducible] def zL:List Vc:=[vW 0,vW 0,vW 0,vW 0,vW 0,vW 0,vW 0,vW 0,vW 0,vW 0,vW 0,vW 0,vW 0,vW 0,vW 0,vW 0]
@[reducible] def zM:Array Vc:=#[vW 0,vW 0,vW 0,vW 0,vW 0,vW 0,vW 0,vW 0,vW 0,vW 0,vW 0,vW 0,vW 0,vW 0,vW 0,vW 0]
@[reducible] def zP:List Vc:=[vW 0,vW 0,vW 0,vW 0,vW 0,vW 0,vW 0,vW 0]
@[reducible] def zQ:Array Vc:=#[vW 0,vW 0,vW 0,vW 0,vW 0,vW 0,vW 0,vW 0]
section
variable {P:Program} {Z:Machine -> Prop} {b:Frame} {n:Nat} {ds:List Deferred} {cs:List Frame} {k:List Item} {σ:List (Nat × Vc)} {w:World} {T:List (Nat × Nat × Nat)} {ops:Array Oper} {m m' i t W:Nat}
theorem Rv {κ:KP} {f d:Nat} {op:Op} {ty:TypeId} {ps:String} {af:Array Edge} {v:Vc} (i:Nat) (hT:ba ops = T) (hi:ops[i]? = some ⟨some d,op,ty,ps,af,none⟩) (hp:aM ops = true) (hq:∀ w,FV P ⟨some d,op,ty,ps,af,none⟩ σ w v) (h:RD κ P Z b n ds cs ops t f (m ||| 1 <<< i) k ((d,v) :: σ) w) (hB:ez T t m i (m ||| 1 <<< i) = true:=by kernel_rfl) (hfr:κ.free i = true:=by rfl) (hd:Nat.blt d n = true:=by rfl):RD κ P Z b n ds cs ops t (f + 1) m k σ w:=RD.vw i _ hT hi hp hq hd h hB hfr
theorem Rx {κ:KP} {f d:Nat} {op:Op} {ty:TypeId} {ps:String} {af:Array Edge} {v:Vc} (i W:Nat) (hT:ba ops = T) (hi:ops[i]? = some ⟨some d,op,ty,ps,af,none⟩) (hp:aM ops = true) (hq:FV P ⟨some d,op,ty,ps,af,none⟩ σ w v) (h:RD κ P Z b n ds cs ops t f (m ||| 1 <<< i) k ((d,v) :: σ) w) (hB:gn T t m W i (m ||| 1 <<< i) = true:=by kernel_rfl) (hfr:κ.free i = true:=by rfl) (hd:Nat.blt d n = true:=by rfl):RD κ P Z b n ds cs ops t (f + 1) m k σ w:=RD.vx i _ W hT hi hp hq hd h hB hfr
theorem rk {rs:List Nat} (hT:ba ops = T) (h:eI T m rs = true:=by kernel_rfl):dR ops m rs = true:=dA hT h
theorem dk (hT:ba ops = T) (h:lL T m = true:=by kernel_rfl):Region.ready .any ops (lst ops.size m) = []:=kX hT h
theorem sk (hT:ba ops = T) (h:gz T m i m' = true:=by kernel_rfl):bU ops.size m i m' = true:=dZ hT h
theorem tk (hT:ba ops = T) (h:gn T t m W i m' = true:=by kernel_rfl):eQ ops t m W i m' = true:=fG hT h
theorem dt {id:Nat} {l:List Oper} (t:Nat) (T:List (Nat × Nat × Nat)) (h:ba l.toArray = T -> aM l.toArray = true -> RD kp0 P Z b n ds cs l.toArray t l.length 0 k σ w) (hT:ba l.toArray = T:=by kernel_rfl) (hm:P.follows .mixedOrders = true:=by kernel_rfl) (hp:aM l.toArray = true:=by kernel_rfl):MX P Z b n ds cs (.code (.region id l.toArray true) :: k) σ w:=MX.drawT t T hT hm hp h
theorem du {id:Nat} {l:List Oper} (t:Nat) (h:ba l.toArray = ba l.toArray -> aM l.toArray = true -> RD kp0 P Z b n ds cs l.toArray t l.length 0 k σ w) (hm:P.follows .mixedOrders = true:=by kernel_rfl) (hp:aM l.toArray = true:=by kernel_rfl):MX P Z b n ds cs (.code (.region id l.toArray true) :: k) σ w:=MX.drawT t (ba l.toArray) rfl hm hp h
theorem jA {α:Type} [Rep α] {w w0:World} {O:List Ob} {e:TypeId} {σ:List (Nat × Vc)} {ty:TypeId} {ps:String} {af:Array Edge} {t:TypeId} {g:Oa (Nat × Bool)} {bytes:Nat} {z:Vc} {zc:List Vc} {dd:Oa Tmp} {p:Nat × Operand} (x:α) (v:Vc) (h:St w0 w O) (hE:ElT P t e (Rep.size α) bytes z zc) (hv:evs σ [p.2] [v]) (hf:Instr.fill (fun i=>some (i * Rep.size α,Rep.size α)) (Array.map (fun x=>zc.toArray[x % zc.toArray.size]!) (Array.range (1 * Rep.size α))) (List.zip (List.map Prod.fst [p]) [v]) = some [v].toArray:=by kernel_rfl) (hb:(1 * Rep.size α).ble 16777216 = true:=by rfl) (hl:[v].length = 1 * Rep.size α:=by rfl):Does P ⟨dd,.buildSlice t 1 [p].toArray,ty,ps,af,g⟩ σ w (New w0 w O (fun b' =>.row w0.heap.size e (Rep.size α) (.slice (some { block:=b', off:=0 }) 1 1) [x].length [v]) fun b' =>.slice (some { block:=b', off:=0 }) 1 1):=Does.build (xs:=[x]) rfl h hE hb hv hf hl
theorem jB (α:Type) [Rep α] {w w0:World} {O:List Ob} {e:TypeId} {σ:List (Nat × Vc)} {ty:TypeId} {ps:String} {af:Array Edge} {t:TypeId} {g:Oa (Nat × Bool)} {bytes:Nat} {z:Vc} {zc:List Vc} {dd:Oa Tmp} (h:St w0 w O) (hE:ElT P t e (Rep.size α) bytes z zc) (hf:Instr.fill (fun i=>some (i * Rep.size α,Rep.size α)) (Array.map (fun x=>zc.toArray[x % zc.toArray.size]!) (Array.range (0 * Rep.size α))) (List.zip (List.map Prod.fst ([]:List (Nat × Operand))) []) = some [].toArray:=by kernel_rfl) (hb:(0 * Rep.size α).ble 16777216 = true:=by rfl) (hl:([]:List Vc).length = 0 * Rep.size α:=by rfl):Does P ⟨dd,.buildSlice t 0 [].toArray,ty,ps,af,g⟩ σ w (New w0 w O (fun b' =>.row w0.heap.size e (Rep.size α) (.slice (some { block:=b', off:=0 }) 0 0) ([]:List α).length []) fun b' =>.slice (some { block:=b', off:=0 }) 0 0):=Does.build (xs:=[]) rfl h hE hb ao hf hl
theorem jC {α:Type} [Rep α] {w0 w:World} {O:List Ob} (x:α) (v:Vc) (h:St w0 w O) (L:List Nat) (hr:Rep.R w (bl O ++ L) [v] x):Cells w (bl O ++ L) [v] [x]:=Cells.at_ (cs:=[v]) h L (Cells.cons hr (Cells.nil _ _))
theorem jD (α:Type) [Rep α] {w0 w:World} {O:List Ob} (h:St w0 w O) (L:List Nat):Cells w (bl O ++ L) [] ([]:List α):=Cells.nil _ _
theorem jE {l:List Oper} {f:FuncId} {c:Operand} {xs:List Operand} {vs:List Vc} {d:Nat} {ty:TypeId} {ps:String} {af:Array Edge} {ts:Array TypeId} {R:World -> Vc -> Prop} (hB:bD P f = true) (hc:ev σ c = some (.func (.func f) #[] #[])) (hx:evs σ xs vs) (h:∀ w', Agree [] w w' -> Calls P f ([] ++ vs ++ []).toArray w' (ar w' R)) (hd:d.blt n = true) (K:∀ (w1:World) (v:Vc),Agree [] w w1 -> R w1 v -> RG P Z b n ds cs ops l k ((d,v) :: σ) w1):RG P Z b n ds cs ops (⟨some d,.call ⟨.value c,xs.toArray,ts⟩,ty,ps,af,none⟩ :: l) k σ w:=RG.call' (fst:=[]) (cap:=[]) .plain hB hc hx h hd K
end
theorem geE.{u} {α:Type u} {l:List α} {i:Nat} (h:i < l.length):l[i]? = some l[i]:=List.getElem?_eq_getElem h
theorem leC.{u} {α:Type u} {a:α} {l:List α}:(a :: l).length = l.length + 1:=rfl
theorem leN.{u} {α:Type u}:([]:List α).length = 0:=rfl
abbrev U8:=Ua × Ua × Ua × Ua × Ua × Ua × Ua × Ua
abbrev U16:=Ua × Ua × Ua × Ua × Ua × Ua × Ua × Ua × Ua × Ua × Ua × Ua × Ua × Ua × Ua × Ua
theorem Tt {w1 w2 w3:World} {O1 O2 O3:List Ob} (h:Tr w1 O1 w2 O2) (k:Tr w2 O2 w3 O3):Tr w1 O1 w3 O3:=h.trans k
theorem bi {α β:Type} {x:Oa α} {f:α -> Oa β} {r:β} (h:x.bind f = some r):∃ y,x = some y/\f y = some r:=gP h
abbrev Aa:=@RG.nil
abbrev Ab:=@RG.va
abbrev Ac:=@FV.extract
abbrev Ae:=@RG.mo
abbrev Af:=@MX.sr
abbrev Ag:=@Rep.mv
abbrev Ah:=@Rep.keep0
abbrev Ai:=@RG.so
abbrev Aj:=@FV.move
abbrev Ak:=@MX.seq
abbrev Al:=@RD.vw
abbrev Am:=@RG.new
abbrev Ao:=@Cells.cons
abbrev Ap:=@MX.region
abbrev Aq:=@RT.leave
abbrev Ar:=@MX.skip
abbrev Au:=@MX.ret
abbrev Av:=@RG.no
abbrev Aw:=@MX.block
abbrev Ax:=@RG.ga
abbrev Ay:=@MX.inBlock
abbrev Az:=@RG.call'
abbrev AA:=@St.arrB
abbrev AB:=@Does.al
abbrev AC:=@Cells.at_
abbrev AD:=@Calls.gives
abbrev AE:=@Rep.o1
abbrev AF:=@FV.lN
abbrev AG:=@Does.build
abbrev AH:=@Cells.nil
abbrev AI:=@FV.buildV
abbrev AJ:=@Acts.storeAll
abbrev AK:=@Cells.mv
abbrev AL:=@RG.callq'
abbrev AM:=@Does.box
abbrev AN:=@RD.done
abbrev AO:=@Rep.mv0
abbrev AP:=@RD.vx
abbrev AQ:=@RG.sa
abbrev AR:=@MX.drawT
abbrev AS:=@St.start
abbrev AT:=@MX.start
abbrev AU:=@RD.cl
abbrev AV:=@RD.callq
abbrev AW:=@MX.cond_t
abbrev AX:=@RD.vP
abbrev AY:=@FV.lssN
abbrev AZ:=@FV.loadN
abbrev Ba:=@St.freeze
abbrev Bb:=@MX.ifd
abbrev Bc:=@FV.pick_t
abbrev Bd:=@MX.exit
abbrev Be:=@FV.pick_f
abbrev Bf:=@FV.nilCheck
abbrev Bg:=@Rep.lenle
abbrev Bh:=@FV.len
abbrev Bi:=@FV.indexArr
abbrev Bj:=@FV.addN
abbrev Bk:=@FV.assign
abbrev Bl:=@St.delS
abbrev Bm:=@St.delT
abbrev Bn:=@Rep.at_
abbrev Bo:=@RG.cq
abbrev Bp:=@RG.pf
abbrev Bq:=@Rep.nilAt
abbrev Br:=@MX.again1
abbrev Bs:=@RG.enterP
abbrev Bu:=@RD.offs
abbrev Bv:=@Rep.nth
abbrev Bw:=@FV.fa
abbrev Bx:=@FV.l1
abbrev By:=@RT.t1
abbrev Bz:=@DoesL.app
abbrev BA:=@Acts.mapUpdateK
abbrev BB:=@RG.fa
abbrev BC:=@FV.not
abbrev BD:=@Rep.sl
abbrev BE:=@MR.mv
abbrev BF:=@RD.nw
abbrev BG:=@MX.cond_f
abbrev BH:=@RG.l1
abbrev BI:=@RG.ifnb
abbrev BJ:=@FV.ia
abbrev BK:=@RD.one
abbrev BL:=@Acts.store
abbrev BM:=@FV.neq
abbrev BN:=@RG.doesL
abbrev BO:=@RD.each
end Go.Proofs.YtkommhmbkbhmlaaGreat
