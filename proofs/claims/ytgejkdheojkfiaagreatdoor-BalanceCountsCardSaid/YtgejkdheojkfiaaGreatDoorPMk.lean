/- Laws of the walk, more of them: strings, words of 32 bits, arrays as slices. No program in sight. -/
import Derived.Test.YtgejkdheojkfiaaGreatDoorPMj
import Derived.Laws.BytesString
import Derived.Laws.CopyRow
namespace Go.Proofs.YtgejkdheojkfiaaGreatDoor
open Go Go.RowKit
instance:Rep UInt32:=Rep.plain (fun x=>.int .u32 (x.toNat:Int)) (fun _=>rfl)
def scut (s:ByteArray) (l h:Int):Option ByteArray:=if 0 <= l/\l <= h/\h <= s.size then some (s.extract l.toNat h.toNat) else none
def sadd (a b:ByteArray):Option ByteArray:=if a.size + b.size <= 4611686018427387904 then some (a ++ b) else none
def bstr (xs:List UInt8):ByteArray:=⟨xs.toArray⟩
section
variable {P:Program} {σ:List (Nat × Value)} {w w0:World} {x y z:Operand} {d:Option Tmp} {t t' s ty e:TypeId} {ps:String} {af:Array Edge} {g:Option (Nat × Bool)} {O O' : List Ob} {v:Value}
theorem FV.strCut {s r:ByteArray} {l h:Int} {lo hi:Option Operand} (hc:scut s l h = some r) (ht:P.underlying t = some .string) (hx:ev σ x = some (.string s)) (hlo:match lo with | none=>l = 0 | some y=>∃ k,ev σ y = some (.int k l)) (hhi:match hi with | none=>h = (s.size:Int) | some y=>∃ k,ev σ y = some (.int k h)) :
    FV P ⟨d,.slice t x lo hi none,ty,ps,af,g⟩ σ w (.string r):=fun ρ ha w' _=>by
  unfold scut at hc
  split at hc
  · rename_i hh
    obtain ⟨h1,h2,h3⟩:=hh
    cases hc
    have h0:0 <= h:=by omega
    cases lo with
    | none=>
      simp only at hlo
      subst hlo
      cases hi with
      | none=>
        simp only at hhi
        subst hhi
        simp [execOp,ha _ _ hx,Instr.sliceAt,Instr.slice,Instr.sliceBounds,run_underlying ht]
      | some y=>
        obtain ⟨k,hy⟩:=hhi
        simp [execOp,ha _ _ hx,ha _ _ hy,Instr.sliceAt,Instr.slice,Instr.sliceBounds,Instr.sliceBound,asIntOf,run_underlying ht,h0,h3]
    | some q=>
      obtain ⟨k2,hq⟩:=hlo
      cases hi with
      | none=>
        simp only at hhi
        subst hhi
        simp [execOp,ha _ _ hx,ha _ _ hq,Instr.sliceAt,Instr.slice,Instr.sliceBounds,Instr.sliceBound,asIntOf,run_underlying ht,h1,h2]
      | some y=>
        obtain ⟨k,hy⟩:=hhi
        have h2' : l <= (h.toNat:Int):=by omega
        simp [execOp,ha _ _ hx,ha _ _ hy,ha _ _ hq,Instr.sliceAt,Instr.slice,Instr.sliceBounds,Instr.sliceBound,asIntOf,run_underlying ht,h0,h3,h1]
        intro h9; exfalso; omega
  · cases hc
theorem FV.addS {a b c:ByteArray} (h:sadd a b = some c) (hx:ev σ x = some (.string a)) (hy:ev σ y = some (.string b)):FV P ⟨d,.binOp .add t x y t', ty,ps,af,g⟩ σ w (.string c):=fun ρ ha w' _=>by
  unfold sadd at h
  split at h
  · rename_i hh
    cases h
    have hm:¬ (((a.size + b.size:Nat):Int) > IntKind.i64.max):=by simp [IntKind.max,IntKind.bits,IntKind.signed]; omega
    have hs:(Op.stringOp .add a b).run P w' = .ok (.string (a ++ b)) w' :=by unfold Op.stringOp; simp only; rw [if_neg hm]; rfl
    simp [execOp,ha _ _ hx,ha _ _ hy,eqGuard,binOp,hs]
  · cases h
/-! ### Bytes as a string -/
theorem foldl_push (xs:List UInt8):∀ r:ByteArray,(xs.map fun x=>(x.toNat:Int)).foldl (fun r n=>r.push (UInt8.ofNat n.toNat)) r = ⟨(r.data.toList ++ xs).toArray⟩:=by
  induction xs with
  | nil=>intro r; obtain ⟨⟨r⟩⟩:=r; simp
  | cons x xs ih=>
    intro r
    rw [List.map_cons,List.foldl_cons,ih]
    have hx:UInt8.ofNat ((x.toNat:Int).toNat) = x:=by simp
    rw [hx]
    obtain ⟨⟨r⟩⟩:=r
    simp [ByteArray.push]
theorem FV.bytesS {xs:List UInt8} {L:List Nat} (hs:P.underlying s = some (.slice e)) (ht:P.underlying t = some .string) (he:P.underlying e = some (.int .u8)) (hx:ev σ x = some v) (h:Src w L v xs):FV P ⟨d,.convert s t x,ty,ps,af,g⟩ σ w (.string (bstr xs)):=fun ρ ha w' hw=>by
  obtain ⟨A,c,ds,rfl,hc,hm,hA⟩:=h
  have hds:ds = xs.map fun x=>(Value.int .u8 (x.toNat:Int)):=by
    apply List.ext_getElem?
    intro i
    have hl:ds.length = xs.length:=by have:=hc.1; rwa [show Rep.size UInt8 = 1 from rfl,Nat.mul_one] at this
    rcases Nat.lt_or_ge i xs.length with hi | hi
    · have h2:=hc.2 i hi
      rw [show Rep.size UInt8 = 1 from rfl,Nat.mul_one] at h2
      have h3:(ds.drop i).take 1 = [.int .u8 (xs[i].toNat:Int)]:=h2
      have h4:=congrArg (·[0]?) h3
      simp only [List.getElem?_cons_zero,List.getElem?_take,Nat.zero_lt_one,if_true,List.getElem?_drop,Nat.add_zero] at h4
      rw [h4,List.getElem?_map,List.getElem?_eq_getElem hi]; rfl
    · rw [List.getElem?_eq_none (by omega),List.getElem?_eq_none (by rw [List.length_map]; omega)]
  have key:(Conv.bytesToString (.slice A xs.length c)).run P w' = .ok (.string (bstr xs)) w' :=by
    cases A with
    | none=>
      obtain rfl:=List.eq_nil_of_length_eq_zero (hA rfl)
      rfl
    | some ad=>
      have hl:(loadCells ad xs.length).run P w' = .ok ((xs.map fun x=>(x.toNat:Int)).map (Value.int .u8)).toArray w' :=by
        have h1:=run_loadCells_list (P:=P) w' ad ds (fun j u hu=>hw.cell0 (hm ad rfl j u hu))
        rw [hds,List.length_map] at h1
        rw [h1,List.map_map]; rfl
      rw [run_bytesToString w' ad xs.length c _ hl,foldl_push]
      rfl
  simp [execOp,convert,ha _ _ hx,run_underlying hs,run_underlying ht,run_underlying he,key]
/-! ### Arrays as slices -/
theorem Src.arr {α:Type} [Rep α] {L:List Nat} {ys:List α} {p:Addr} {ds:List Value} {n:Nat} (hm:∀ j u,ds[j]? = some u -> w.cell? (p.add j) = some u) (hc:Cells w L ds ys) (hn:ys.length = n):Src w L (.slice (some p) n n) ys:=by
  subst hn
  exact ⟨some p,_,ds,rfl,hc,fun ad e=>by cases e; exact hm,fun e=>by cases e⟩
def getA {α:Type} (ys:List α) (j:Nat) (o:α):α:=(ys[j]?).getD o
def cpL {α:Type} (ys:List α):Nat -> List α -> List α
  | _,[]=>[]
  | j,o :: os=>getA ys j o :: cpL ys (j + 1) os
theorem cpL_eq {α:Type} (ys:List α):∀ (os:List α) (j:Nat),cpL ys j os = (ys.drop j).take os.length ++ os.drop (min (ys.length - j) os.length)
  | [],j=>by simp [cpL]
  | o :: os,j=>by
    rw [cpL,cpL_eq ys os (j + 1)]
    unfold getA
    rcases Nat.lt_or_ge j ys.length with hj | hj
    · rw [List.getElem?_eq_getElem hj,Option.getD_some,List.drop_eq_getElem_cons hj,List.length_cons,List.take_succ_cons,List.cons_append]
      congr 2
      rw [show min (ys.length - j) (os.length + 1) = min (ys.length - (j + 1)) os.length + 1 by omega,List.drop_succ_cons]
    · rw [List.getElem?_eq_none hj,Option.getD_none,List.drop_of_length_le hj,List.drop_of_length_le (by omega:ys.length <= j + 1)]
      rw [show ys.length - j = 0 by omega,show ys.length - (j + 1) = 0 by omega]
      simp
theorem DoesL.copyArr {α:Type} [Rep α] (f:α -> Value) {L:List Nat} {olds ys:List α} {pre post old new' : List Value} {bk m' n:Nat} {eo:TypeId} {p:Addr} {sv:Value} {dd:Option Tmp} (hsz:Rep.size α = 1) (hf:∀ w L cs (x:α),Rep.R w L cs x -> cs = [f x]) (s:St w0 w O) (u:Upd O (.cells bk old eo) (.cells bk new' eo) O') (ht:elemB P t 1 = true)
    (hx:ev σ x = some (.slice (some p) n n)) (hp:p = ⟨bk,m', none⟩) (hm:pre.length = m') (hn:olds.length = n) (ho:old = pre ++ olds.map f ++ post) (hnw:new' = pre ++ (cpL ys 0 olds).map f ++ post) (hy:ev σ y = some sv) (hs:Src w L sv ys) :
    DoesL P ⟨dd,.call { callee:=.builtin .copy,args:=#[x,y],argTypes:=#[t,t'] },ty,ps,af,g⟩ σ w (fun r w1=>r = .int .i64 ((min ys.length n:Nat):Int)/\Now w0 w O O' w1):=by
  intro ρ ha w' hw
  subst hp
  obtain ⟨As,cc,ds,rfl,g2,g3,g4⟩:=hs
  have hl:ds.length = ys.length:=by rw [g2.1,hsz,Nat.mul_one]
  have hds:ds = ys.map f:=by
    apply List.ext_getElem?
    intro i
    rcases Nat.lt_or_ge i ys.length with hi | hi
    · have h2:=hf _ _ _ _ (g2.2 i hi)
      rw [hsz,Nat.mul_one] at h2
      have h4:=congrArg (·[0]?) h2
      simp only [List.getElem?_cons_zero,List.getElem?_take,Nat.zero_lt_one,if_true,List.getElem?_drop,Nat.add_zero] at h4
      rw [h4,List.getElem?_map,List.getElem?_eq_getElem hi]; rfl
    · rw [List.getElem?_eq_none (by omega),List.getElem?_eq_none (by rw [List.length_map]; omega)]
  have hb:=s.get u
  have hb' : w'.heap[bk]? = some (.cells old.toArray eo (0,0)):=blk_keep0 hw hb
  have hnew:new' = old.take m' ++ ds.take (min ys.length n) ++ old.drop (m' + (ds.take (min ys.length n)).length):=by
    have e1:cpL ys 0 olds = ys.take (min ys.length n) ++ olds.drop (min ys.length n):=by
      rw [cpL_eq,List.drop_zero,Nat.sub_zero,hn]
      congr 1
      rcases Nat.le_total ys.length n with h | h
      · rw [Nat.min_eq_left h,List.take_of_length_le h,List.take_length]
      · rw [Nat.min_eq_right h]
    have e2:(ds.take (min ys.length n)).length = min ys.length n:=by rw [List.length_take,hl]; omega
    rw [hnw,e1,e2,ho,hds,<- List.map_take]
    subst hm
    rw [List.append_assoc pre (List.map f olds),List.take_left,List.drop_length_add_append,List.map_append,List.drop_append_of_le_length (by rw [List.length_map]; omega),List.map_drop]
    simp [List.append_assoc]
  unfold elemB at ht
  split at ht
  · rename_i el hun
    split at ht
    · rename_i jj hjj
      have hinfo:(P.info? el).map (·.size) = some 1:=by rw [hjj]; simp; simpa using ht
      have hst:∀ w1,Agree [bk] w' w1 -> w1.heap[bk]? = some (.cells new'.toArray eo (0,0)) -> Now w0 w O O' w1:=fun w1 hag h1=>by
        have hag' : Agree [bk] w w1:=(hw.widen).trans hag
        have hL:∀ b ∈ [bk],(Ob.cells bk old eo).block = some b:=by simp [Ob.block]
        exact ⟨s.upd u hag' hL h1 (fun b e=>.inl e),Tr.upd u hag' hL (fun b e=>.inl e)⟩
      by_cases hk:min ys.length n = 0
      · refine ⟨.int .i64 0,w', ?_,by rw [hk]; rfl,hst w' (Agree.refl _ _) ?_⟩
        · have:=run_copy_none (P:=P) w' t t' ty el (some ⟨bk,m', none⟩) As n n ys.length cc hun hinfo hk
          simp only [execOp,resolve,invoke,builtin,Array.map]
          simp [ha _ _ hx,ha _ _ hy,this,goInt]
        · rw [hb']
          have:new' = old:=by rw [hnew,hk]; simp
          rw [this]
      · cases hAs:As with
        | none=>have:=g4 hAs; omega
        | some a=>
          have hfit:m' + (ds.take (min ys.length n)).length <= old.length:=by
            rw [ho,List.length_take,hl]; simp only [List.length_append,List.length_map]; omega
          have key:=run_copy_row (P:=P) w' t t' ty el bk m' n n a ys.length cc old.toArray eo (ds.take (min ys.length n)) hun hinfo hb' (by rw [List.length_take,hl]; show _ = min _ _; omega)
            (fun j u9 hj=>hw.cell0 (mem_part0 (g3 a hAs) _ j u9 hj)) (by simpa using hfit) (fun u9 hm=>g2.cell u9 (List.mem_of_mem_take hm))
          refine ⟨.int .i64 ((min ys.length n:Nat):Int),w'.setRow bk (old.take m' ++ ds.take (min ys.length n) ++ old.drop (m' + (ds.take (min ys.length n)).length)).toArray,?_,rfl,hst _ (agree_setRow hb' _) ?_⟩
          · have hkl:(ds.take (min ys.length n)).length = min ys.length n:=by rw [List.length_take,hl]; omega
            rw [hkl] at key ⊢
            subst hAs
            simp only [execOp,resolve,invoke,builtin,Array.map]
            simp only [Sem.run_bind]
            simp [ha _ _ hx,ha _ _ hy,key,goInt]
          · rw [hnew]; exact setRow_heap w' bk _ _ eo _ hb'
    · cases ht
  · cases ht
/-! ### Great arrays -/
theorem Acts.storeBig {α:Type} (f:α -> Value) {xs ys:List α} {m bk:Nat} {eo:TypeId} {dd:Option Tmp} {xo yo:Operand} (hx:xs.length = m) (hy:ys.length = m) (s:St w0 w O) (u:Upd O (.cells bk (xs.map f) eo) (.cells bk (ys.map f) eo) O') (hxo:ev σ xo = some (.pointer (some ⟨bk,0,none⟩))) (hyo:ev σ yo = some (.agg (ys.map f).toArray)) (hs:sizeB P t m = true)
    (h1:∀ x,(f x).oneCell' = true):Acts P ⟨dd,.store t xo yo,ty,ps,af,g⟩ σ w (Now w0 w O O'):=
  Acts.store (j:=0) (news:=ys.map f) s u hxo rfl hyo rfl (by rw [List.length_map,hy]; exact hs) (by rw [Nat.ble_eq]; simp only [List.length_map]; omega) (fun u hu=>by obtain ⟨x,_,rfl⟩:=List.mem_map.1 hu; exact h1 x)
    (by rw [List.take_zero,List.nil_append,Nat.zero_add,List.drop_of_length_le (by simp only [List.length_map]; omega),List.append_nil])
theorem Acts.setBig {α:Type} (f:α -> Value) {xs:List α} {m i bk:Nat} {x:α} {p:Addr} {eo:TypeId} {dd:Option Tmp} {xo yo:Operand} (hx:xs.length = m) (hi:i < m) (s:St w0 w O) (u:Upd O (.cells bk (xs.map f) eo) (.cells bk ((xs.set i x).map f) eo) O') (hxo:ev σ xo = some (.pointer (some p))) (hp:p = ⟨bk,0 + i,none⟩) (hyo:ev σ yo = some (f x)) (hs:sizeB P t 1 = true)
    (h1:∀ x,(f x).cells = #[f x]/\(f x).oneCell' = true):Acts P ⟨dd,.store t xo yo,ty,ps,af,g⟩ σ w (Now w0 w O O'):=
  Acts.store (j:=i) (news:=[f x]) s u hxo (by rw [hp,Nat.zero_add]) hyo (h1 x).1 hs (by rw [Nat.ble_eq]; simp only [List.length_map,List.length_singleton]; omega) (fun u hu=>by simp only [List.mem_singleton] at hu; subst hu; exact (h1 x).2)
    (by rw [List.map_set,List.length_singleton,List.append_assoc,List.set_eq_take_append_cons_drop,if_pos (by rw [List.length_map]; omega)]; rfl)
end
/-! ### Calls that hand over slices of their own -/
/-! ### Facts at a standing -/
section
variable {α:Type} [Rep α] {w0 w w1:World} {O O' : List Ob}
theorem Rep.nilAt (_:St w0 w O) (L:List Nat):Rep.R w (bl O ++ L) [.slice none 0 0] ([]:List α):=Rep.nilSlice _ _
theorem Rep.at_ {v:Value} {xs:List α} (_:St w0 w O) (L:List Nat) (h:Rep.R w (bl O ++ L) [v] xs):Rep.R w (bl O ++ L) [v] xs:=h
theorem Cells.at_ {cs:List Value} {xs:List α} (_:St w0 w O) (L:List Nat) (h:Cells w (bl O ++ L) cs xs):Cells w (bl O ++ L) cs xs:=h
end
section
variable {w0 w w1:World} {O O' : List Ob}
theorem St.delS {o:Ob} (s:St w0 w O) (u:Out O o O'):St w0 w O' :=s.del u.del
theorem St.delT {o:Ob} (_:St w0 w O) (u:Out O o O'):Tr w O w O' :=Tr.del u.del
theorem St.arrB (s:St w0 w O) (h:Arr O O'):St w0 w O' /\Tr w O w O' :=⟨s.arr h,Tr.arr h⟩
theorem St.agr (s:St w0 w O) (h:Agree [] w w1):St w0 w1 O/\Tr w O w1 O:=⟨s.agree h,Tr.agree h⟩
theorem St.nilRowT (_:St w0 w O) (e:TypeId) (sz:Nat):Tr w O w (.row w0.heap.size e sz (.slice none 0 0) 0 [] :: O):=Tr.nilRow _ _ _
end
/-! ### Short forms -/
section
variable {P:Program} {Z:Machine -> Prop} {b:Frame} {n:Nat} {ds:List Deferred} {cs:List Frame} {k:List Item} {σ:List (Nat × Value)} {w w0:World} {ops:Array Oper} {l:List Oper} {d:Nat} {op:Op} {ty:TypeId} {ps:String} {af:Array Edge} {v:Value} {x y:Operand} {t f m m' i:Nat} {O O' : List Ob} {g:Option (Nat × Bool)} {κ:KP}
theorem RG.vv (hq:FV P ⟨some d,op,ty,ps,af,none⟩ σ w v) (hd:Nat.blt d n = true) (h:RG P Z b n ds cs ops l k ((d,v) :: σ) w):RG P Z b n ds cs ops (⟨some d,op,ty,ps,af,none⟩ :: l) k σ w:=RG.val' .plain hq hd h
theorem RG.mv (hx:ev σ x = some v) (hd:Nat.blt d n = true) (h:RG P Z b n ds cs ops l k ((d,v) :: σ) w):RG P Z b n ds cs ops (⟨some d,.move x,ty,ps,af,none⟩ :: l) k σ w:=RG.val' .plain (FV.move hx) hd h
theorem RG.sg (hx:ev σ x = some v) (hd:Nat.blt d n = true) (h:RG P Z b n ds cs ops l k ((d,v) :: σ) w):RG P Z b n ds cs ops (⟨some d,.assign x,ty,ps,af,none⟩ :: l) k σ w:=RG.val' .plain (FV.assign hx) hd h
theorem MX.sr {id:Nat} {c:Code} (h:RG P Z b n ds cs l.toArray l (.code c :: k) σ w):MX P Z b n ds cs (.code (.seq (.region id l.toArray false) c) :: k) σ w:=MX.seq (MX.region h)
theorem Acts.storeAll {bk:Nat} {p:Addr} {old news:List Value} {e t:TypeId} {dd:Option Tmp} (s:St w0 w O) (u:Upd O (.cells bk old e) (.cells bk news e) O') (hx:ev σ x = some (.pointer (some p))) (hp:p = ⟨bk,0,none⟩) (hy:ev σ y = some v) (hv:v.cells = news.toArray) (hs:sizeB P t news.length = true) (hl:old.length = news.length) (h1:∀ u ∈ news,u.oneCell' = true):Acts P ⟨dd,.store t x y,ty,ps,af,g⟩ σ w (Now w0 w O O'):=
  Acts.store (j:=0) s u hx hp hy hv hs (by rw [Nat.ble_eq,hl]; omega) h1 (by rw [Nat.zero_add,<- hl,List.drop_length,List.take_zero]; simp)
theorem RD.vw {T:List (Nat × Nat × Nat)} (i m' : Nat) (hT:tabs ops = T) (hi:ops[i]? = some ⟨some d,op,ty,ps,af,none⟩) (hp:plainB ops = true) (hq:∀ w,FV P ⟨some d,op,ty,ps,af,none⟩ σ w v) (hd:Nat.blt d n = true)
    (h:RD κ P Z b n ds cs ops t f m' k ((d,v) :: σ) w) (hB:takePC T t m i m' = true:=by kernel_rfl) (hfr:κ.free i = true:=by rfl):RD κ P Z b n ds cs ops t (f + 1) m k σ w:=RD.vP i m' hT hi hp .plain hq hd h hB hfr
theorem RD.vx {T:List (Nat × Nat × Nat)} (i m' W:Nat) (hT:tabs ops = T) (hi:ops[i]? = some ⟨some d,op,ty,ps,af,none⟩) (hp:plainB ops = true) (hq:FV P ⟨some d,op,ty,ps,af,none⟩ σ w v) (hd:Nat.blt d n = true)
    (h:RD κ P Z b n ds cs ops t f m' k ((d,v) :: σ) w) (hB:takeC T t m W i m' = true:=by kernel_rfl) (hfr:κ.free i = true:=by rfl):RD κ P Z b n ds cs ops t (f + 1) m k σ w:=RD.val (takeC_ok hT hB) hi hp .plain hq hd h hfr
theorem RD.cq {T:List (Nat × Nat × Nat)} {fn:FuncId} {c:Operand} {xs:List Operand} {vs:List Value} {ts:Array TypeId} (i m' W:Nat) (v:Value) (hT:tabs ops = T) (hi:ops[i]? = some ⟨some d,.call { callee:=.value c,args:=xs.toArray,argTypes:=ts },ty,ps,af,none⟩) (hp:plainB ops = true)
    (hf:bodyB P fn = true) (hcal:ev σ c = some (.func (.func fn) #[] #[])) (hv:evs σ xs vs) (hc:∀ w', Agree [] w w' -> Calls P fn ([] ++ vs ++ []).toArray w' (Gives w' fun _ u=>u = v)) (hd:Nat.blt d n = true)
    (h:RD κ P Z b n ds cs ops t f m' k ((d,v) :: σ) w) (hB:takeC T t m W i m' = true:=by kernel_rfl) (hfr:κ.free i = true:=by rfl):RD κ P Z b n ds cs ops t (f + 1) m k σ w:=RD.callq (fst:=[]) (cap:=[]) (takeC_ok hT hB) hi hp .plain hf hcal hv hc hd h hfr
theorem RG.cq {fn:FuncId} {c:Operand} {xs:List Operand} {vs:List Value} {ts:Array TypeId} (v:Value) (hf:bodyB P fn = true) (hcal:ev σ c = some (.func (.func fn) #[] #[])) (hv:evs σ xs vs)
    (hc:∀ w', Agree [] w w' -> Calls P fn ([] ++ vs ++ []).toArray w' (Gives w' fun _ u=>u = v)) (hd:Nat.blt d n = true) (h:RG P Z b n ds cs ops l k ((d,v) :: σ) w) :
    RG P Z b n ds cs ops (⟨some d,.call { callee:=.value c,args:=xs.toArray,argTypes:=ts },ty,ps,af,none⟩ :: l) k σ w:=RG.callq' (fst:=[]) (cap:=[]) .plain hf hcal hv hc hd h
theorem RD.nu {T:List (Nat × Nat × Nat)} {mk:Nat -> Ob} {pv:Nat -> Value} (i m' : Nat) (hT:tabs ops = T) (hi:ops[i]? = some ⟨some d,op,ty,ps,af,g⟩) (hg:Want ops σ g true) (hd:Nat.blt d n = true) (D:Does P ⟨some d,op,ty,ps,af,g⟩ σ w (New w0 w O mk pv)) (h:∀ w1 b', St w0 w1 (mk b' :: O) -> Tr w O w1 (mk b' :: O) -> RD κ P Z b n ds cs ops t f m' k ((d,pv b') :: σ) w1)
    (h1:readyD T m [i] = true:=by kernel_rfl) (h2:stepC T m i m' = true:=by kernel_rfl) (hk:κ.nd (lst ops.size m) -> Kp κ.c w:=by exact KP.triv):RD κ P Z b n ds cs ops t (f + 1) m k σ w:=RD.one (readyD_ok hT h1) (RO.new (stepC_ok hT h2) hi hg hd D h) hk
theorem RD.nw {T:List (Nat × Nat × Nat)} (i m' : Nat) (hT:tabs ops = T) (hi:ops[i]? = some ⟨none,op,ty,ps,af,g⟩) (htl:tail t i = true) (hg:Want ops σ g true) (D:Acts P ⟨none,op,ty,ps,af,g⟩ σ w (Now w0 w O O')) (h:∀ w1,St w0 w1 O' -> Tr w O w1 O' -> RD κ P Z b n ds cs ops t f m' k σ w1)
    (h1:readyD T m [i] = true:=by kernel_rfl) (h2:stepC T m i m' = true:=by kernel_rfl) (hk:κ.nd (lst ops.size m) -> Kp κ.c w:=by exact KP.triv):RD κ P Z b n ds cs ops t (f + 1) m k σ w:=RD.one (readyD_ok hT h1) (RO.now (stepC_ok hT h2) hi htl hg D h) hk
theorem RD.cl {T:List (Nat × Nat × Nat)} {fn:FuncId} {c:Operand} {xs:List Operand} {vs:List Value} {ts:Array TypeId} {R:World -> Value -> Prop} (i m' : Nat) (hT:tabs ops = T) (hi:ops[i]? = some ⟨some d,.call { callee:=.value c,args:=xs.toArray,argTypes:=ts },ty,ps,af,g⟩) (hg:Want ops σ g true)
    (hf:bodyB P fn = true) (hcal:ev σ c = some (.func (.func fn) #[] #[])) (hv:evs σ xs vs) (hc:∀ w', Agree [] w w' -> Calls P fn ([] ++ vs ++ []).toArray w' (Gives w' R)) (hd:Nat.blt d n = true)
    (h:∀ w1 v,Agree [] w w1 -> R w1 v -> RD κ P Z b n ds cs ops t f m' k ((d,v) :: σ) w1) (h1:readyD T m [i] = true:=by kernel_rfl) (h2:stepC T m i m' = true:=by kernel_rfl) (hk:κ.nd (lst ops.size m) -> Kp κ.c w:=by exact KP.triv):RD κ P Z b n ds cs ops t (f + 1) m k σ w:=
  RD.one (readyD_ok hT h1) (RO.call (fst:=[]) (cap:=[]) (stepC_ok hT h2) hi hg hf hcal hv hc hd h) hk
end
theorem onesB {l:List Value} (h:l.all (·.oneCell') = true):∀ u ∈ l,u.oneCell' = true:=List.all_eq_true.1 h
section
variable {α:Type} [Rep α] {w w0:World} {O O' : List Ob} {L:List Nat} {v:Value} {xs ys zs:List α} {cs:List Value} {e:TypeId} {base:Nat}
variable {P:Program} {σ:List (Nat × Value)} {ty:TypeId} {ps:String} {af:Array Edge} {x y:Operand} {t:TypeId} {g:Option (Nat × Bool)} {bytes:Nat} {z:Value} {zc:List Value} {dd:Option Tmp}
inductive Reps {α:Type} [Rep α] (w:World) (L:List Nat):List (List Value) -> List α -> Prop
  | nil:Reps w L [] []
  | cons {c:List Value} {u:α} {css:List (List Value)} {us:List α} (h:Rep.R w L c u) (t:Reps w L css us):Reps w L (c :: css) (u :: us)
end
section
variable {α:Type} [Rep α] {w0 w w9:World} {O:List Ob} {L:List Nat} {cs:List Value} {x:α}
theorem St.k0 (s:St w0 w O) (h:Rep.R w0 L cs x) (hw:Agree [] w w9):Rep.R w9 L cs x:=Rep.keep0 h (s.ag.trans hw)
theorem St.km (s:St w0 w O) (h:Rep.R w0 L cs x) (hw:Agree [] w w9):Rep.R w9 (bl O ++ L) cs x:=Rep.keep0 (Rep.mv0 h s) hw
theorem St.kd (_:St w0 w O) (h:Rep.R w (bl O ++ L) cs x) (hw:Agree [] w w9):Rep.R w9 L cs x:=Rep.keep0 (Rep.dropO h) hw
end
section
variable {P:Program} {Z:Machine -> Prop} {b:Frame} {n:Nat} {ds:List Deferred} {cs:List Frame} {k:List Item} {σ τ:List (Nat × Value)} {w:World} {ops:Array Oper} {l:List Oper} {d:Nat} {op:Op} {ty:TypeId} {ps:String} {af:Array Edge} {g:Option (Nat × Bool)} {t f m m' i:Nat} {Q:Value -> Prop} {κ:KP}
end
section
variable {w0 w w1:World} {O O' : List Ob}
end
/-! ### Shorter forms -/
@[reducible] def vI (x:Int):Value:=.int .i64 x
@[reducible] def vN:Value:=.slice none 0 0
@[reducible] def vP (b:Nat):Value:=.pointer (some ⟨b,0,none⟩)
@[reducible] def vS (b n:Nat):Value:=.slice (some ⟨b,0,none⟩) n n
section
variable {P:Program} {Z:Machine -> Prop} {b:Frame} {n:Nat} {ds:List Deferred} {cs:List Frame} {k:List Item} {σ:List (Nat × Value)} {w w0:World} {ops:Array Oper} {l:List Oper} {d:Nat} {op:Op} {ty:TypeId} {ps:String} {af:Array Edge} {v:Value} {x y c:Operand} {t f m m' i:Nat} {O O' : List Ob} {g:Option (Nat × Bool)} {dd:Option Tmp} {j:Nat} {q:Bool} {p:Addr}
theorem RG.mo (hx:ev σ x = some v) (h:RG P Z b n ds cs ops l k ((d,v) :: σ) w) (hd:Nat.blt d n = true:=by rfl):RG P Z b n ds cs ops (⟨some d,.move x,ty,ps,af,none⟩ :: l) k σ w:=RG.mv hx hd h
theorem RG.so (hx:ev σ x = some v) (h:RG P Z b n ds cs ops l k ((d,v) :: σ) w) (hd:Nat.blt d n = true:=by rfl):RG P Z b n ds cs ops (⟨some d,.assign x,ty,ps,af,none⟩ :: l) k σ w:=RG.sg hx hd h
theorem RG.va (hq:FV P ⟨some d,op,ty,ps,af,none⟩ σ w v) (h:RG P Z b n ds cs ops l k ((d,v) :: σ) w) (hd:Nat.blt d n = true:=by rfl):RG P Z b n ds cs ops (⟨some d,op,ty,ps,af,none⟩ :: l) k σ w:=RG.vv hq hd h
theorem RG.ga (hq:FV P ⟨some d,op,ty,ps,af,some (j,q)⟩ σ w v) (h:RG P Z b n ds cs ops l k ((d,v) :: σ) w) (hg:Want ops σ (some (j,q)) true:=by exact .yes rfl rfl) (hd:Nat.blt d n = true:=by rfl):RG P Z b n ds cs ops (⟨some d,op,ty,ps,af,some (j,q)⟩ :: l) k σ w:=RG.val' hg hq hd h
theorem RG.no  (h:RG P Z b n ds cs ops l k ((d,undef) :: σ) w) (hg:Want ops σ (some (j,q)) false:=by exact .no rfl rfl) (hd:Nat.blt d n = true:=by rfl):RG P Z b n ds cs ops (⟨some d,op,ty,ps,af,some (j,q)⟩ :: l) k σ w:=RG.off hg hd h
theorem RG.un  (h:RG P Z b n ds cs ops l k ((d,undef) :: σ) w) (hg:Want ops σ (some (j,q)) false:=by exact .undef rfl rfl) (hd:Nat.blt d n = true:=by rfl):RG P Z b n ds cs ops (⟨some d,op,ty,ps,af,some (j,q)⟩ :: l) k σ w:=RG.off hg hd h
theorem FV.fa {fi:Nat} (off:Nat) (hx:ev σ x = some (.pointer (some p))) (hf:fieldB P t fi off = true:=by kernel_rfl):FV P ⟨dd,.fieldAddr t x fi,ty,ps,af,g⟩ σ w (.pointer (some (p.add off))):=FV.fieldAddr hf hx
theorem FV.l1 (hx:ev σ x = some (.pointer (some p))) (hc:w.cell? p = some v) (ht:oneB P t = true:=by kernel_rfl):FV P ⟨dd,.load t x,ty,ps,af,g⟩ σ w v:=FV.load1 ht hx hc
theorem FV.lN {cl:List Value} (hx:ev σ x = some (.pointer (some p))) (hc:∀ j v,cl[j]? = some v -> w.cell? (p.add j) = some v) (ht:aggB P t cl.length = true:=by kernel_rfl):FV P ⟨dd,.load t x,ty,ps,af,g⟩ σ w (.agg cl.toArray):=FV.loadN ht hx hc
theorem FV.ia {len c:Nat} {kd:IntKind} {j:Int} (m i:Nat) (hx:ev σ x = some v) (he:v = .slice (some p) len c) (hy:ev σ y = some (.int kd j)) (hj:j = (i:Int)) (hk:i < len) (ht:elemB P t m = true:=by kernel_rfl):FV P ⟨dd,.indexAddr t x y,ty,ps,af,g⟩ σ w (.pointer (some (p.add (i * m)))):=FV.idxAddr ht hx he hy hj hk
theorem RG.fa {fi:Nat} (off:Nat) (hx:ev σ x = some (.pointer (some p))) (h:RG P Z b n ds cs ops l k ((d,.pointer (some (p.add off))) :: σ) w) (hf:fieldB P t fi off = true:=by kernel_rfl) (hd:Nat.blt d n = true:=by rfl):RG P Z b n ds cs ops (⟨some d,.fieldAddr t x fi,ty,ps,af,none⟩ :: l) k σ w:=RG.vv (FV.fieldAddr hf hx) hd h
theorem RG.fg {fi:Nat} (off:Nat) (hx:ev σ x = some (.pointer (some p))) (h:RG P Z b n ds cs ops l k ((d,.pointer (some (p.add off))) :: σ) w) (hf:fieldB P t fi off = true:=by kernel_rfl) (hg:Want ops σ (some (j,q)) true:=by exact .yes rfl rfl) (hd:Nat.blt d n = true:=by rfl):RG P Z b n ds cs ops (⟨some d,.fieldAddr t x fi,ty,ps,af,some (j,q)⟩ :: l) k σ w:=RG.val' hg (FV.fieldAddr hf hx) hd h
theorem RG.l1 (hx:ev σ x = some (.pointer (some p))) (hc:w.cell? p = some v) (h:RG P Z b n ds cs ops l k ((d,v) :: σ) w) (ht:oneB P t = true:=by kernel_rfl) (hd:Nat.blt d n = true:=by rfl):RG P Z b n ds cs ops (⟨some d,.load t x,ty,ps,af,none⟩ :: l) k σ w:=RG.vv (FV.load1 ht hx hc) hd h
theorem RG.pt (hc:ev σ c = some (.bool true)) (hx:ev σ x = some v) (h:RG P Z b n ds cs ops l k ((d,v) :: σ) w) (hd:Nat.blt d n = true:=by rfl):RG P Z b n ds cs ops (⟨some d,.pick c x y,ty,ps,af,none⟩ :: l) k σ w:=RG.vv (FV.pick_t hc hx) hd h
theorem RG.pf (hc:ev σ c = some (.bool false)) (hx:ev σ y = some v) (h:RG P Z b n ds cs ops l k ((d,v) :: σ) w) (hd:Nat.blt d n = true:=by rfl):RG P Z b n ds cs ops (⟨some d,.pick c x y,ty,ps,af,none⟩ :: l) k σ w:=RG.vv (FV.pick_f hc hx) hd h
theorem e1 {x0:Operand} {v0:Value} (h0:ev σ x0 = some v0):evs σ [x0] [v0]:=evs_cons h0 (evs_nil)
theorem o1 {v0:Value} (h0:v0.oneCell' = true):∀ u ∈ [v0],u.oneCell' = true:=ones_cons h0 (ones_nil)
theorem e2 {x0 x1:Operand} {v0 v1:Value} (h0:ev σ x0 = some v0) (h1:ev σ x1 = some v1):evs σ [x0,x1] [v0,v1]:=evs_cons h0 (evs_cons h1 (evs_nil))
theorem o2 {v0 v1:Value} (h0:v0.oneCell' = true) (h1:v1.oneCell' = true):∀ u ∈ [v0,v1],u.oneCell' = true:=ones_cons h0 (ones_cons h1 (ones_nil))
theorem e3 {x0 x1 x2:Operand} {v0 v1 v2:Value} (h0:ev σ x0 = some v0) (h1:ev σ x1 = some v1) (h2:ev σ x2 = some v2):evs σ [x0,x1,x2] [v0,v1,v2]:=evs_cons h0 (evs_cons h1 (evs_cons h2 (evs_nil)))
theorem e4 {x0 x1 x2 x3:Operand} {v0 v1 v2 v3:Value} (h0:ev σ x0 = some v0) (h1:ev σ x1 = some v1) (h2:ev σ x2 = some v2) (h3:ev σ x3 = some v3):evs σ [x0,x1,x2,x3] [v0,v1,v2,v3]:=evs_cons h0 (evs_cons h1 (evs_cons h2 (evs_cons h3 (evs_nil))))
theorem o4 {v0 v1 v2 v3:Value} (h0:v0.oneCell' = true) (h1:v1.oneCell' = true) (h2:v2.oneCell' = true) (h3:v3.oneCell' = true):∀ u ∈ [v0,v1,v2,v3],u.oneCell' = true:=ones_cons h0 (ones_cons h1 (ones_cons h2 (ones_cons h3 (ones_nil))))
theorem e5 {x0 x1 x2 x3 x4:Operand} {v0 v1 v2 v3 v4:Value} (h0:ev σ x0 = some v0) (h1:ev σ x1 = some v1) (h2:ev σ x2 = some v2) (h3:ev σ x3 = some v3) (h4:ev σ x4 = some v4):evs σ [x0,x1,x2,x3,x4] [v0,v1,v2,v3,v4]:=evs_cons h0 (evs_cons h1 (evs_cons h2 (evs_cons h3 (evs_cons h4 (evs_nil)))))
theorem o5 {v0 v1 v2 v3 v4:Value} (h0:v0.oneCell' = true) (h1:v1.oneCell' = true) (h2:v2.oneCell' = true) (h3:v3.oneCell' = true) (h4:v4.oneCell' = true):∀ u ∈ [v0,v1,v2,v3,v4],u.oneCell' = true:=ones_cons h0 (ones_cons h1 (ones_cons h2 (ones_cons h3 (ones_cons h4 (ones_nil)))))
theorem e6 {x0 x1 x2 x3 x4 x5:Operand} {v0 v1 v2 v3 v4 v5:Value} (h0:ev σ x0 = some v0) (h1:ev σ x1 = some v1) (h2:ev σ x2 = some v2) (h3:ev σ x3 = some v3) (h4:ev σ x4 = some v4) (h5:ev σ x5 = some v5):evs σ [x0,x1,x2,x3,x4,x5] [v0,v1,v2,v3,v4,v5]:=evs_cons h0 (evs_cons h1 (evs_cons h2 (evs_cons h3 (evs_cons h4 (evs_cons h5 (evs_nil))))))
theorem o6 {v0 v1 v2 v3 v4 v5:Value} (h0:v0.oneCell' = true) (h1:v1.oneCell' = true) (h2:v2.oneCell' = true) (h3:v3.oneCell' = true) (h4:v4.oneCell' = true) (h5:v5.oneCell' = true):∀ u ∈ [v0,v1,v2,v3,v4,v5],u.oneCell' = true:=ones_cons h0 (ones_cons h1 (ones_cons h2 (ones_cons h3 (ones_cons h4 (ones_cons h5 (ones_nil))))))
theorem e7 {x0 x1 x2 x3 x4 x5 x6:Operand} {v0 v1 v2 v3 v4 v5 v6:Value} (h0:ev σ x0 = some v0) (h1:ev σ x1 = some v1) (h2:ev σ x2 = some v2) (h3:ev σ x3 = some v3) (h4:ev σ x4 = some v4) (h5:ev σ x5 = some v5) (h6:ev σ x6 = some v6):evs σ [x0,x1,x2,x3,x4,x5,x6] [v0,v1,v2,v3,v4,v5,v6]:=evs_cons h0 (evs_cons h1 (evs_cons h2 (evs_cons h3 (evs_cons h4 (evs_cons h5 (evs_cons h6 (evs_nil)))))))
theorem e8 {x0 x1 x2 x3 x4 x5 x6 x7:Operand} {v0 v1 v2 v3 v4 v5 v6 v7:Value} (h0:ev σ x0 = some v0) (h1:ev σ x1 = some v1) (h2:ev σ x2 = some v2) (h3:ev σ x3 = some v3) (h4:ev σ x4 = some v4) (h5:ev σ x5 = some v5) (h6:ev σ x6 = some v6) (h7:ev σ x7 = some v7):evs σ [x0,x1,x2,x3,x4,x5,x6,x7] [v0,v1,v2,v3,v4,v5,v6,v7]:=evs_cons h0 (evs_cons h1 (evs_cons h2 (evs_cons h3 (evs_cons h4 (evs_cons h5 (evs_cons h6 (evs_cons h7 (evs_nil))))))))
theorem RT.t1 {fi:FuncId} {fn:Func} {r:Tmp} {X:Value -> World -> Prop} (hk:RetOK P Z fi cs X) (hf:P.funcs[fi]? = some fn) (hr:fn.results = #[.tmp r]) (hx:look σ r = some v) (h:X v w):RT P Z (fb fi .normal none) n [] cs σ w:=RT.leave hk hf hr (.cons (.tmp hx) .nil) rfl h
theorem St.gv {u:Value} (s:St w0 w O):Agree [] w0 w/\∀ w9,Agree [] w w9 -> u = u:=⟨s.ag,fun _ _=>rfl⟩
end
section
variable {P:Program} {Z:Machine -> Prop} {b:Frame} {n:Nat} {ds:List Deferred} {cs:List Frame} {k:List Item} {σ:List (Nat × Value)} {w w0 w1:World} {ops:Array Oper} {l:List Oper} {ty:TypeId} {ps:String} {af:Array Edge} {v:Value} {x y:Operand} {t:TypeId} {O O' : List Ob} {g:Option (Nat × Bool)} {dd:Option Tmp} {p:Addr}
theorem RG.sa {bk:Nat} {old:List Value} {e:TypeId} (news:List Value) (s:St w0 w O) (u:Upd O (.cells bk old e) (.cells bk news e) O') (h1:∀ u ∈ news,u.oneCell' = true) (h:∀ w1,St w0 w1 O' -> Tr w O w1 O' -> RG P Z b n ds cs ops l k σ w1) (hx:ev σ x = some (.pointer (some p)):=by rfl) (hp:p = ⟨bk,0,none⟩:=by rfl) (hy:ev σ y = some v:=by rfl) (hv:v.cells = news.toArray:=by rfl) (hs:sizeB P t news.length = true:=by rfl) (hl:old.length = news.length:=by rfl):RG P Z b n ds cs ops (⟨none,.store t x y,ty,ps,af,none⟩ :: l) k σ w:=RG.now .plain (Acts.storeAll s u hx hp hy hv hs hl h1) h
theorem Does.al (zs:List Value) (s:St w0 w O) (hz:zerosB P t zs:=by exact zB (by kernel_rfl)):Does P ⟨dd,.alloc t,ty,ps,af,g⟩ σ w (New w0 w O (fun b' =>.cells b' zs t) (fun b' =>.pointer (some ⟨b', 0,none⟩))):=Does.alloc s hz
theorem mk_push1 {o:Ob} (s:St w0 w O) (s1:St w w1 [o]):St w0 w1 (o :: O):=St.merge s s1
theorem mk_tr1 {o:Ob} (s:St w0 w O) (s1:St w w1 [o]):Tr w O w1 (o :: O):=Tr.merge s s1
theorem mk_push2 {o o2:Ob} (s:St w0 w O) (s1:St w w1 [o,o2]):St w0 w1 (o :: o2 :: O):=St.merge s s1
theorem mk_tr2 {o o2:Ob} (s:St w0 w O) (s1:St w w1 [o,o2]):Tr w O w1 (o :: o2 :: O):=Tr.merge s s1
end
end Go.Proofs.YtgejkdheojkfiaaGreatDoor
