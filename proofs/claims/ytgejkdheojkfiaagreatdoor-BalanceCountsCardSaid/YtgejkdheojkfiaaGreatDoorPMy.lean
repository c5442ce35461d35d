/- Laws of the walk, more: returns; memory of the call's own; ranges over functions. No program in sight. -/
import Derived.Test.YtgejkdheojkfiaaGreatDoorPMx
namespace Go.Proofs.YtgejkdheojkfiaaGreatDoor
open Go Go.RowKit
section
variable {P:Program} {Z:Machine -> Prop} {b:Frame} {n:Nat} {ds:List Deferred} {cs:List Frame} {k:List Item} {σ τ:List (Nat × Value)} {w w0:World}
/-! ### Returns -/
theorem load_one {t:TypeId} (ht:oneB P t = true) {p:Addr} {v:Value} (hc:w.cell? p = some v):∀ w', Agree [] w w' -> (loadVar t p).run P w' = .ok v w' :=by
  intro w' hw
  have hc' :=hw.cell (p:=p) (by simp) hc
  unfold oneB at ht
  split at ht
  · cases ht
  · cases ht
  · rename_i u hu1 hu2 hu
    have hagg:(isAgg t).run P w' = .ok false w' :=by
      unfold isAgg
      rw [Sem.run_bind,run_underlying hu w']
      cases u <;> simp_all
    simp [loadVar,hagg,hc']
  · cases ht
theorem load_many {t:TypeId} {cs:List Value} (ht:aggB P t cs.length = true) {p:Addr} (hc:∀ j v,cs[j]? = some v -> w.cell? (p.add j) = some v):∀ w', Agree [] w w' -> (loadVar t p).run P w' = .ok (.agg cs.toArray) w' :=by
  intro w' hw
  have hl:(loadCells p cs.length).run P w' = .ok cs.toArray w' :=
    run_loadCells_list (P:=P) w' p cs fun j v hv=>hw.cell (by simp) (hc j v hv)
  unfold aggB at ht
  rw [Bool.and_eq_true] at ht
  obtain ⟨h1,h2⟩:=ht
  have hagg:(isAgg t).run P w' = .ok true w' :=by
    unfold isAgg
    split at h1
    · rename_i fs hu; rw [Sem.run_bind,run_underlying hu w']; simp
    · rename_i l e hu; rw [Sem.run_bind,run_underlying hu w']; simp
    · cases h1
  split at h2
  · rename_i i hi
    have hs:i.size = cs.length:=by simpa using h2
    simp [loadVar,hagg,sizeOf,typeInfo,hi,hs,hl]
  · cases h2
theorem ResV.tmp {t:Nat} {v:Value} (h:look σ t = some v):ResV P σ w (.tmp t) v:=h
theorem ResV.one {a:Nat} {t:TypeId} {p:Addr} {v:Value} (ht:oneB P t = true) (hl:look σ a = some (.pointer (some p))) (hc:w.cell? p = some v):ResV P σ w (.cell a t) v:=⟨p,hl,load_one ht hc⟩
theorem ResV.many {a:Nat} {t:TypeId} {p:Addr} {cs:List Value} (ht:aggB P t cs.length = true) (hl:look σ a = some (.pointer (some p))) (hc:∀ j v,cs[j]? = some v -> w.cell? (p.add j) = some v):ResV P σ w (.cell a t) (.agg cs.toArray):=⟨p,hl,load_many ht hc⟩
theorem ResVs.nil:ResVs P σ w [] []:=trivial
theorem ResVs.cons {r:ResultVar} {v:Value} {rs:List ResultVar} {vs:List Value} (h:ResV P σ w r v) (h2:ResVs P σ w rs vs):ResVs P σ w (r :: rs) (v :: vs):=⟨h,h2⟩
def oneV:List Value -> Value
  | [v]=>v
  | vs=>.tuple vs.toArray
def resOf (tmps:Array Value):ResultVar -> Sem Value
  | .tmp t=>pure (tmps.getD t undef)
  | .cell a t=>do loadVar t (<- asAddr (tmps.getD a undef))
theorem run_results {fn:Func} {rs:List ResultVar} {vs:List Value} {a:Act} {w' : World} (hr:fn.results = rs.toArray) (h:ResVs P σ w rs vs) (ha:Fr n ds σ a) (hw:Agree [] w w'):(results fn a.tmps).run P w' = .ok (oneV vs) w' :=by
  have key:∀ (rs:List ResultVar) (vs:List Value),ResVs P σ w rs vs -> (rs.mapM (resOf a.tmps)).run P w' = .ok vs w' :=by
    intro rs
    induction rs with
    | nil=>intro vs h; cases vs with
      | nil=>rfl
      | cons v vs=>exact h.elim
    | cons r rs ih=>intro vs h; cases vs with
      | nil=>exact h.elim
      | cons v vs=>
        obtain ⟨h1,h2⟩:=h
        have hi:=ih vs h2
        rw [List.mapM_cons]
        cases r with
        | tmp t=>
          have:=ha.get t v h1
          simp only [resOf,Sem.run_bind,Sem.run_pure,Result.andThen_ok,hi]
          simp [Array.getD_eq_getD_getElem?,this]
        | cell a' t=>
          obtain ⟨p,hp,hl⟩:=h1
          have:=ha.get a' _ hp
          have hg:a.tmps.getD a' undef = .pointer (some p):=by simp [Array.getD_eq_getD_getElem?,this]
          simp only [resOf,hg,asAddr,Sem.run_bind,Sem.run_pure,Result.andThen_ok,hl w' hw,hi]
  have hk:=key rs vs h
  have hm:(fn.results.mapM (resOf a.tmps)).run P w' = .ok vs.toArray w' :=by
    rw [hr,List.mapM_toArray]
    rw [map_eq_pure_bind]
    simp only [Sem.run_bind,hk,Result.andThen_ok,Sem.run_pure]
  unfold results
  rw [Sem.run_bind]
  refine (congrArg (fun x=>Result.andThen x _) hm).trans ?_
  simp only [Result.andThen_ok]
  cases vs with
  | nil=>rfl
  | cons v vs=>cases vs with
    | nil=>rfl
    | cons u vs=>rfl
theorem RT.leave {f:FuncId} {fn:Func} {rs:List ResultVar} {vs:List Value} {X:Value -> World -> Prop} (hk:RetOK P Z f cs X) (hf:P.funcs[f]? = some fn) (hr:fn.results = rs.toArray) {u:Value} (hv:ResVs P σ w rs vs) (ho:oneV vs = u) (h:X u w):RT P Z (fb f .normal none) n [] cs σ w:=by
  subst ho
  intro a w' todo ha hw
  exact hk _ w w' _ h hw rfl ⟨rfl,ha.defers,rfl,fn,hf,run_results hr hv ha hw⟩
/-! ### Memory of the call's own -/
variable {ops:Array Oper} {l:List Oper} {d:Nat} {op:Op} {ty:TypeId} {ps:String} {af:Array Edge} {v:Value} {x y:Operand} {t:TypeId} {O O' : List Ob} {g:Option (Nat × Bool)}
theorem blk_mem {w:World} {b:Nat} {cs:List Value} {t:TypeId} {fz:Nat × Nat} (h:w.heap[b]? = some (.cells cs.toArray t fz)):∀ j u,cs[j]? = some u -> w.cell? ((⟨b,0,none⟩:Addr).add j) = some u:=by
  intro j u hu
  have hadd:(⟨b,0,none⟩:Addr).add j = ⟨b,j,none⟩:=by unfold Addr.add; split <;> simp_all
  rw [hadd,cell_of_row w b j _ t fz h]
  simpa using hu
theorem mem_from {p:Addr} {cs:List Value} (h:∀ j u,cs[j]? = some u -> w.cell? (p.add j) = some u) (m:Nat):∀ j u,(cs.drop m)[j]? = some u -> w.cell? ((p.add m).add j) = some u:=by
  intro j u hu
  rw [add_of_add]; exact h _ _ (by rwa [List.getElem?_drop] at hu)
theorem mem_part {p:Addr} {cs:List Value} (h:∀ j u,cs[j]? = some u -> w.cell? (p.add j) = some u) (m k:Nat):∀ j u,((cs.drop m).take k)[j]? = some u -> w.cell? ((p.add m).add j) = some u:=by
  intro j u hu
  refine mem_from h m j u ?_
  rcases Nat.lt_or_ge j k with hj | hj
  · rwa [List.getElem?_take_of_lt hj] at hu
  · rw [List.getElem?_eq_none (by rw [List.length_take]; omega)] at hu; cases hu
def Does (P:Program) (o:Oper) (σ:List (Nat × Value)) (w:World) (Q:Value -> World -> Prop):Prop:=
  ∀ ρ:Operand -> Value,(∀ x u,ev σ x = some u -> ρ x = u) -> ∀ w', Agree [] w w' -> ∃ u w1,(execOp ρ o).run P w' = .ok (.value u) w1/\Agree [] w' w1/\Q u w1
def New (w0 w:World) (O:List Ob) (mk:Nat -> Ob) (pv:Nat -> Value) (u:Value) (w1:World):Prop:=∃ b', u = pv b' /\St w0 w1 (mk b' :: O)/\Tr w O w1 (mk b' :: O)
theorem mem_part0 {p:Addr} {cs:List Value} (h:∀ j u,cs[j]? = some u -> w.cell? (p.add j) = some u) (k:Nat):∀ j u,(cs.take k)[j]? = some u -> w.cell? (p.add j) = some u:=by
  intro j u hu
  refine h j u ?_
  rcases Nat.lt_or_ge j k with hj | hj
  · rwa [List.getElem?_take_of_lt hj] at hu
  · rw [List.getElem?_eq_none (by rw [List.length_take]; omega)] at hu; cases hu
theorem RG.does' {Q:Value -> World -> Prop} (hg:Want ops σ g true) (hd:Nat.blt d n = true) (D:Does P ⟨some d,op,ty,ps,af,g⟩ σ w Q) (h:∀ u w1,Q u w1 -> RG P Z b n ds cs ops l k ((d,u) :: σ) w1):RG P Z b n ds cs ops (⟨some d,op,ty,ps,af,g⟩ :: l) k σ w:=
  RG.does hg hd fun ρ ha w' hw=>let ⟨u,w1,h1,_,h2⟩:=D ρ ha w' hw; ⟨u,w1,h1,h u w1 h2⟩
theorem RG.new {mk:Nat -> Ob} {pv:Nat -> Value} (hg:Want ops σ g true) (hd:Nat.blt d n = true) (D:Does P ⟨some d,op,ty,ps,af,g⟩ σ w (New w0 w O mk pv)) (h:∀ w1 b', St w0 w1 (mk b' :: O) -> Tr w O w1 (mk b' :: O) -> RG P Z b n ds cs ops l k ((d,pv b') :: σ) w1):RG P Z b n ds cs ops (⟨some d,op,ty,ps,af,g⟩ :: l) k σ w:=
  RG.does' hg hd D fun u w1 ⟨b', e,h1,h2⟩=>by subst e; exact h w1 b' h1 h2
theorem Does.box {vs:List Value} {dd:Option Tmp} (s:St w0 w O) (hx:ev σ x = some v) (hc:v.cells = vs.toArray):Does P ⟨dd,.box t x,ty,ps,af,g⟩ σ w (New w0 w O (fun b' =>.cells b' vs t) (fun b' =>.pointer (some ⟨b', 0,none⟩))):=fun ρ ha w' hw=>by
  refine ⟨.pointer (some ⟨w'.heap.size,0,none⟩),w'.alloc (.cells vs.toArray t),?_,agree_new _ _ _,?_⟩
  · simp only [execOp,ha _ _ hx,Instr.box,newVar,newRow,hc]; rfl
  · have hag:=hw.trans (agree_new w' (.cells vs.toArray t) [])
    have hb:∀ b', (Ob.cells w'.heap.size vs t).block = some b' -> w.heap.size <= b' :=fun b' e=>by cases e; exact hw.size
    exact ⟨_,rfl,s.push hag (heap_alloc_new w' _) hb,Tr.push hag hb⟩
def zerosB (P:Program) (t:TypeId) (zs:List Value):Prop:=(P.info? t).bind (fun i=>i.zero.map (·.cells)) = some zs.toArray
theorem Does.alloc {zs:List Value} {dd:Option Tmp} (s:St w0 w O) (hz:zerosB P t zs):Does P ⟨dd,.alloc t,ty,ps,af,g⟩ σ w (New w0 w O (fun b' =>.cells b' zs t) (fun b' =>.pointer (some ⟨b', 0,none⟩))):=fun ρ ha w' hw=>by
  refine ⟨.pointer (some ⟨w'.heap.size,0,none⟩),w'.alloc (.cells zs.toArray t),?_,agree_new _ _ _,?_⟩
  · unfold zerosB at hz
    cases hi:P.info? t with
    | none=>rw [hi] at hz; cases hz
    | some i=>
      rw [hi] at hz
      cases hzz:i.zero with
      | none=>simp [hzz] at hz
      | some z=>
        have hzc:z.cells = zs.toArray:=by simpa [hzz] using hz
        simp [execOp,Instr.alloc,zeroValue,typeInfo,hi,hzz,newVar,newRow,hzc]
  · have hag:=hw.trans (agree_new w' (.cells zs.toArray t) [])
    have hb:∀ b', (Ob.cells w'.heap.size zs t).block = some b' -> w.heap.size <= b' :=fun b' e=>by cases e; exact hw.size
    exact ⟨_,rfl,s.push hag (heap_alloc_new w' _) hb,Tr.push hag hb⟩
def sizeB (P:Program) (t m:Nat):Bool:=match P.info? t with
  | some i=>i.size == m
  | none=>false
theorem run_store_at {w' : World} {b j:Nat} {p:Addr} {old news:List Value} {e:TypeId} (hp:p = ⟨b,j,none⟩) (hb:w'.heap[b]? = some (.cells old.toArray e (0,0))) (hv:v.cells = news.toArray) (hs:sizeB P t news.length = true) (hfit:j + news.length <= old.length)
    (h1:∀ u ∈ news,u.oneCell' = true):(storeVar t p v).run P w' = .ok () (w'.setRow b (old.take j ++ news ++ old.drop (j + news.length)).toArray):=by
  subst hp
  have hst:=run_storeCells_at P b j e news 0 old.toArray w' hb (by simpa using hfit) h1
  unfold sizeB at hs
  split at hs
  · rename_i i hi
    have hsz:i.size = news.length:=by simpa using hs
    simp only [Nat.add_zero] at hst
    simp [storeVar,sizeOf,typeInfo,hi,hv,hsz,hst]
  · cases hs
theorem agree_setRow {w' : World} {b:Nat} {o:Obj} (_hb:w'.heap[b]? = some o) (new:Array Value):Agree [b] w' (w'.setRow b new):=
  ⟨rfl,rfl,rfl,by simp,fun k _ hk=>setRow_other w' b k new (fun e=>hk (by simp [e]))⟩
def Acts (P:Program) (o:Oper) (σ:List (Nat × Value)) (w:World) (Q:World -> Prop):Prop:=
  ∀ ρ:Operand -> Value,(∀ x u,ev σ x = some u -> ρ x = u) -> ∀ w', Agree [] w w' -> ∃ w1,(execOp ρ o).run P w' = .ok .skip w1/\Q w1
def Now (w0 w:World) (O O' : List Ob) (w1:World):Prop:=St w0 w1 O' /\Tr w O w1 O'
theorem RG.acts' {Q:World -> Prop} (hg:Want ops σ g true) (D:Acts P ⟨none,op,ty,ps,af,g⟩ σ w Q) (h:∀ w1,Q w1 -> RG P Z b n ds cs ops l k σ w1):RG P Z b n ds cs ops (⟨none,op,ty,ps,af,g⟩ :: l) k σ w:=
  RG.acts hg fun ρ ha w' hw=>let ⟨w1,h1,h2⟩:=D ρ ha w' hw; ⟨w1,h1,h w1 h2⟩
theorem RG.now (hg:Want ops σ g true) (D:Acts P ⟨none,op,ty,ps,af,g⟩ σ w (Now w0 w O O')) (h:∀ w1,St w0 w1 O' -> Tr w O w1 O' -> RG P Z b n ds cs ops l k σ w1):RG P Z b n ds cs ops (⟨none,op,ty,ps,af,g⟩ :: l) k σ w:=
  RG.acts' hg D fun w1 q=>h w1 q.1 q.2
theorem Acts.store {bk j:Nat} {p:Addr} {old news new' : List Value} {e:TypeId} {dd:Option Tmp} (s:St w0 w O) (u:Upd O (.cells bk old e) (.cells bk new' e) O') (hx:ev σ x = some (.pointer (some p))) (hp:p = ⟨bk,j,none⟩) (hy:ev σ y = some v) (hv:v.cells = news.toArray) (hs:sizeB P t news.length = true)
    (hfit:Nat.ble (j + news.length) old.length = true) (h1:∀ u ∈ news,u.oneCell' = true) (hcs:old.take j ++ news ++ old.drop (j + news.length) = new'):Acts P ⟨dd,.store t x y,ty,ps,af,g⟩ σ w (Now w0 w O O'):=fun ρ ha w' hw=>by
  have hb' : w'.heap[bk]? = some (.cells old.toArray e (0,0)):=blk_keep0 hw (s.get u)
  have hr:=run_store_at (P:=P) (t:=t) hp hb' hv hs (by simpa [Nat.ble_eq] using hfit) h1
  rw [hcs] at hr
  refine ⟨w'.setRow bk new'.toArray,by simp [execOp,ha _ _ hx,ha _ _ hy,Instr.storeAt,Instr.sureAddr,hr],?_⟩
  have hag:Agree [bk] w (w'.setRow bk new'.toArray):=(hw.widen).trans (agree_setRow hb' _)
  have hL:∀ b ∈ [bk],(Ob.cells bk old e).block = some b:=by simp [Ob.block]
  exact ⟨s.upd u hag hL (setRow_heap w' bk _ _ e _ hb') (fun b e=>.inl e),Tr.upd u hag hL (fun b e=>.inl e)⟩
/-! #### Rows -/
theorem Does.buildSlice {m sz:Nat} {e:TypeId} {parts:List (Nat × Operand)} {vs:List Value} {ds' : List Value} {zs:List Value} {dd:Option Tmp} (s:St w0 w O) (ht:P.underlying t = some (.slice e)) (hsz:sizeB P e sz = true) (hz:zerosB P e zs) (hm:Nat.ble (m * sz) 16777216 = true) (hsz0:Nat.blt 0 sz = true)
    (hv:evs σ (parts.map Prod.snd) vs)
    (hfill:Instr.fill (fun i=>some (i * sz,sz)) ((Array.range (m * sz)).map (zs.toArray[· % zs.toArray.size]!)) ((parts.map Prod.fst).zip vs) = some ds'.toArray) (hlen:ds'.length = m * sz) :
    Does P ⟨dd,.buildSlice t m parts.toArray,ty,ps,af,g⟩ σ w (New w0 w O (fun b' =>.row w0.heap.size e sz (.slice (some ⟨b', 0,none⟩) m m) m ds') (fun b' =>.slice (some ⟨b', 0,none⟩) m m)):=fun ρ ha w' hw=>by
  have hm:m * sz <= 16777216:=by simpa [Nat.ble_eq] using hm
  have hsz0:0 < sz:=by simpa [Nat.blt_eq] using hsz0
  refine ⟨.slice (some ⟨w'.heap.size,0,none⟩) m m,w'.alloc (.cells ds'.toArray e),?_,agree_new _ _ _,?_⟩
  · have hsize:(sizeOf e).run P w' = .ok sz w' :=by
      unfold sizeB at hsz
      split at hsz
      · rename_i i hi
        have:i.size = sz:=by simpa using hsz
        simp [sizeOf,typeInfo,hi,this]
      · cases hsz
    have hzero:∀ w', ∃ z,(zeroValue e).run P w' = .ok z w' /\z.cells = zs.toArray:=by
      intro w'
      unfold zerosB at hz
      cases hi:P.info? e with
      | none=>rw [hi] at hz; cases hz
      | some i=>
        rw [hi] at hz
        cases hzz:i.zero with
        | none=>simp [hzz] at hz
        | some z=>exact ⟨z,by simp [zeroValue,typeInfo,hi,hzz],by simpa [hzz] using hz⟩
    obtain ⟨z,hz1,hz2⟩:=hzero w'
    have hmap:(parts.toArray.map fun (i,x)=>(i,ρ x)).toList = (parts.map Prod.fst).zip vs:=by
      rw [<- evs_map ha hv]
      simp [List.zip_map', List.map_map]
    simp only [execOp,Instr.buildSlice,Sem.run_bind,run_underlying ht,Result.andThen_ok,hsize,hmap]
    rw [if_neg (by omega)]
    by_cases h0:m * sz = 0
    · have hm0:m = 0:=by
        rcases Nat.mul_eq_zero.1 h0 with h | h
        · exact h
        · omega
      rw [if_pos h0]
      have hr0:Array.range 0 = #[]:=rfl
      have hf0:Instr.fill (fun i=>some (i * sz,sz)) ((Array.range (m * sz)).map fun x=>(#[]:Array Value)[x % (#[]:Array Value).size]!) ((parts.map Prod.fst).zip vs) = some ds'.toArray:=by
        rw [<- hfill,h0,hr0,Array.map_empty,Array.map_empty]
      simp only [Sem.run_bind,Sem.run_pure,Result.andThen_ok,hf0,newRow]
      rfl
    · rw [if_neg h0]
      simp only [Sem.run_bind,hz1,hz2,Result.andThen_ok,Sem.run_pure,hfill,newRow]
      rfl
  · have hag:=hw.trans (agree_new w' (.cells ds'.toArray e) [])
    have hb:∀ b', (Ob.row w0.heap.size e sz (.slice (some ⟨w'.heap.size,0,none⟩) m m) m ds').block = some b' -> w.heap.size <= b' :=fun b' e=>by cases e; exact hw.size
    have hmsz:m <= m * sz:=Nat.le_mul_of_pos_right m hsz0
    refine ⟨_,rfl,s.push hag ⟨⟨hlen,.inr ⟨_,m,ds'.toArray,rfl,Nat.le_trans s.ag.size hw.size,heap_alloc_new w' _,Nat.le_refl _,by simp only [maxLen]; omega,by simpa using hlen,?_⟩⟩,by unfold mostR; omega⟩ hb,Tr.push hag hb⟩
    rw [<- hlen]; simp
theorem flatten_at {zs:List Value}:∀ (m j:Nat),j < m * zs.length -> (List.replicate m zs).flatten[j]? = zs[j % zs.length]?
  | 0,j,h=>by simp at h
  | m + 1,j,h=>by
    rw [List.replicate_succ,List.flatten_cons]
    rcases Nat.lt_or_ge j zs.length with hj | hj
    · rw [List.getElem?_append_left hj,Nat.mod_eq_of_lt hj]
    · rw [List.getElem?_append_right hj,flatten_at m (j - zs.length) (by rw [Nat.succ_mul] at h; omega),Nat.mod_eq_sub_mod hj]
theorem made_flatten {zs:List Value} (m sz:Nat) (h:zs.length = sz):madeCells zs.toArray (m * sz) = (List.replicate m zs).flatten.toArray:=by
  subst h
  apply Array.ext'
  rw [List.toList_toArray]
  apply List.ext_getElem?
  intro j
  rcases Nat.lt_or_ge j (m * zs.length) with hj | hj
  · rw [flatten_at m j hj]
    have hp:0 < zs.length:=by
      rcases Nat.eq_zero_or_pos zs.length with h | h
      · rw [h] at hj; simp at hj
      · exact h
    have hm:=Nat.mod_lt j hp
    simp [madeCells,hj,hm]
  · rw [List.getElem?_eq_none (by rw [Array.length_toList,size_madeCells]; exact hj),List.getElem?_eq_none (by simp [List.length_flatten]; exact hj)]
theorem Does.make {sz:Nat} {e:TypeId} {m:Nat} {zs:List Value} {bytes:Nat} {z:Value} {dd:Option Tmp} (s:St w0 w O) (ht:P.underlying t = some (.slice e)) (hinfo:(P.info? e).map (fun i=>(i.zero,i.size,i.bytes)) = some (some z,sz,bytes)) (hz:z.cells = zs.toArray) (hzl:zs.length = sz)
    {mi:Int} (hx:ev σ x = some (.int .i64 mi)) (hmi:mi = ((m:Nat):Int)) (hm:m <= 4294967296) (hby:Nat.ble bytes 32768 = true) :
    Does P ⟨dd,.makeSlice t x x,ty,ps,af,g⟩ σ w (New w0 w O (fun b' =>.row w0.heap.size e sz (.slice (some ⟨b', 0,none⟩) m m) m (List.replicate m zs).flatten) (fun b' =>.slice (some ⟨b', 0,none⟩) m m)):=fun ρ ha w' hw=>by
  subst hmi
  have hby:bytes <= 32768:=by simpa [Nat.ble_eq] using hby
  obtain ⟨i,hi,hz0,hsize,hbytes⟩:=info_parts hinfo
  have hmul:i.bytes * m <= 281474976710656:=by rw [hbytes]; exact Nat.le_trans (Nat.mul_le_mul hby hm) (by omega)
  have hcells:(List.replicate m zs).flatten.length = m * sz:=by simp [List.length_flatten,hzl]
  have key:(Instr.makeSlice t (.int .i64 ((m:Nat):Int)) (.int .i64 ((m:Nat):Int))).run P w' = .ok (.slice (some ⟨w'.heap.size,0,none⟩) m m) (w'.alloc (.cells (List.replicate m zs).flatten.toArray e)):=by
    have hb' : (i.bytes:Int) * (m:Int) <= 281474976710656:=by
      have h:((i.bytes * m:Nat):Int) <= 281474976710656:=by omega
      rwa [Int.natCast_mul] at h
    have hr:=run_make (P:=P) w' t e i z ht hi hz0 .i64 .i64 m m (by omega) (Int.le_refl _) hb' (by omega)
    simp only [Int.toNat_natCast,hsize,hz] at hr
    rw [hr,made_flatten _ _ hzl]
  refine ⟨.slice (some ⟨w'.heap.size,0,none⟩) m m,w'.alloc (.cells (List.replicate m zs).flatten.toArray e),by simp [execOp,ha _ _ hx,key],agree_new _ _ _,?_⟩
  have hag:=hw.trans (agree_new w' (.cells (List.replicate m zs).flatten.toArray e) [])
  have hb:∀ b', (Ob.row w0.heap.size e sz (.slice (some ⟨w'.heap.size,0,none⟩) m m) m (List.replicate m zs).flatten).block = some b' -> w.heap.size <= b' :=fun b' e=>by cases e; exact hw.size
  refine ⟨_,rfl,s.push hag ⟨⟨hcells,.inr ⟨_,m,_,rfl,Nat.le_trans s.ag.size hw.size,heap_alloc_new w' _,Nat.le_refl _,by simp only [maxLen]; omega,by simpa using hcells,?_⟩⟩,hm⟩ hb,Tr.push hag hb⟩
  exact List.take_of_length_le (Nat.le_of_eq (by simpa using hcells))
def DoesL (P:Program) (o:Oper) (σ:List (Nat × Value)) (w:World) (Q:Value -> World -> Prop):Prop:=
  ∀ ρ:Operand -> Value,(∀ x u,ev σ x = some u -> ρ x = u) -> ∀ w', Agree [] w w' -> ∃ u w1,(execOp ρ o).run P w' = .ok (.value u) w1/\Q u w1
theorem RG.doesL {Q:Value -> World -> Prop} (hg:Want ops σ g true) (hd:Nat.blt d n = true) (D:DoesL P ⟨some d,op,ty,ps,af,g⟩ σ w Q) (h:∀ u w1,Q u w1 -> RG P Z b n ds cs ops l k ((d,u) :: σ) w1):RG P Z b n ds cs ops (⟨some d,op,ty,ps,af,g⟩ :: l) k σ w:=
  RG.does hg hd fun ρ ha w' hw=>let ⟨u,w1,h1,h2⟩:=D ρ ha w' hw; ⟨u,w1,h1,h u w1 h2⟩
theorem DoesL.append {sz bytes m n' c:Nat} {e:TypeId} {z:Value} {zs:List Value} {xv:Value} {cs1 cs2:List Value} {A:Option Addr} {F:Value -> List Ob} {dd:Option Tmp} (s:St w0 w O) (u:∀ v', Upd O (.row w0.heap.size e sz xv n' cs1) (.row w0.heap.size e sz v' (n' + m) (cs1 ++ cs2)) (F v')) (ht:P.underlying t = some (.slice e))
    (hinfo:(P.info? e).map (fun i=>(i.zero,i.size,i.bytes)) = some (some z,sz,bytes)) (hz:z.cells = zs.toArray) (hzl:zs.length = sz) (hsz0:Nat.blt 0 sz = true) (hby:Nat.ble bytes 32768 = true)
    (hx:ev σ x = some xv) (hy:ev σ y = some (.slice A m c)) (hlen:cs2.length = m * sz) (hmem:∀ ad,A = some ad -> ∀ j u,cs2[j]? = some u -> w.cell? (ad.add j) = some u) (h1:∀ u ∈ cs2,u.oneCell' = true) (hA:A = none -> m = 0) (hfit:n' + m <= mostR) :
    DoesL P ⟨dd,.call { callee:=.builtin .append,args:=#[x,y],argTypes:=#[t,t] },ty,ps,af,g⟩ σ w (fun v' w1=>Now w0 w O (F v') w1):=fun ρ ha w' hw=>by
  have hby:bytes <= 32768:=by simpa [Nat.ble_eq] using hby
  have hsz0:0 < sz:=by simpa [Nat.blt_eq] using hsz0
  obtain ⟨i,hi,hz0,hsize,hbytes⟩:=info_parts hinfo
  have hown:(Ob.row w0.heap.size e sz xv n' cs1).holds w' :=Ob.keep (s.get (u xv)) hw (by simp)
  have hzs:z.cells.size = sz:=by rw [hz]; simpa using hzl
  unfold mostR at hfit
  have hmul:(n' + m) * bytes <= 140737488355328:=Nat.le_trans (Nat.mul_le_mul hfit hby) (by omega)
  have key:∃ v' w1,(Builtin.append_ #[t,t] ty #[xv,.slice A m c]).run P w' = .ok v' w1/\w1.ownsRow w0.heap.size e sz v' (n' + m) (cs1 ++ cs2)/\w'.grownBy w1 xv.ownBlock/\(v'.ownBlock = xv.ownBlock ∨ v'.ownBlock = some w'.heap.size):=by
    by_cases h0:m = 0
    · subst h0
      have hnil:cs2 = []:=List.eq_nil_of_length_eq_zero (by simpa using hlen)
      subst hnil
      refine ⟨xv,w', ?_,by simpa using hown.1,World.grownBy.refl w' _,.inl rfl⟩
      rcases hown.1.2 with ⟨rfl,h2⟩ | ⟨g,cap,cur,rfl,_,_,hnc,_⟩
      · cases A with
        | none=>simp [Builtin.append_,run_underlying ht,sizeOf,typeInfo,hi,Builtin.lenOf,Builtin.firstCells]
        | some ad=>simp [Builtin.append_,run_underlying ht,sizeOf,typeInfo,hi,Builtin.lenOf,Builtin.firstCells,loadCells,loadCellsFrom]
      · cases A with
        | none=>simp [Builtin.append_,run_underlying ht,sizeOf,typeInfo,hi,Builtin.lenOf,Builtin.firstCells,hnc,storeCells]
        | some ad=>simp [Builtin.append_,run_underlying ht,sizeOf,typeInfo,hi,Builtin.lenOf,Builtin.firstCells,loadCells,loadCellsFrom,hnc,storeCells]
    · cases A with
      | none=>exact absurd (hA rfl) h0
      | some ad=>
        obtain ⟨v', w1,hrun,h2,h3,_,h5⟩:=run_append_own_at (P:=P) w' w0.heap.size t ty e i z sz bytes ht hi hz0 hsize hbytes hzs hsz0 xv n' cs1 hown.1 ad m c cs2 hlen (fun j u hu=>hw.cell0 (hmem ad rfl j u hu)) h1
          (by simp only [maxLen]; omega) hmul (Nat.le_trans s.ag.size hw.size)
        exact ⟨v', w1,hrun,h2,h3,h5⟩
  obtain ⟨v', w1,hrun,h2,h3,h4⟩:=key
  refine ⟨v', w1,by simp [execOp,resolve,invoke,builtin,ha _ _ hx,ha _ _ hy,hrun],?_⟩
  have u' :=u v'
  have hag:Agree xv.ownBlock.toList w w1:=(Agree.widen hw).grown h3 (fun k hk=>by rw [hk]; simp)
  have hL:∀ b ∈ xv.ownBlock.toList,(Ob.row w0.heap.size e sz xv n' cs1).block = some b:=fun b hb=>by simpa [Ob.block] using hb
  have hb:∀ b', (Ob.row w0.heap.size e sz v' (n' + m) (cs1 ++ cs2)).block = some b' -> (Ob.row w0.heap.size e sz xv n' cs1).block = some b' ∨ w.heap.size <= b' :=fun b' e=>by
    rcases h4 with h4 | h4
    · exact .inl (h4.symm.trans e)
    · right
      have:v'.ownBlock = some b' :=e
      rw [h4] at this
      cases this
      exact hw.size
  exact ⟨s.upd u' hag hL ⟨h2,by unfold mostR; exact hfit⟩ hb,Tr.upd u' hag hL hb⟩
theorem St.rowMem {e:TypeId} {sz n' cap bk base:Nat} {cs:List Value} {o' : Ob} (s:St w0 w O) (u:Upd O (.row base e sz (.slice (some ⟨bk,0,none⟩) n' cap) n' cs) o' O'):∀ j u,cs[j]? = some u -> w.cell? ((⟨bk,0,none⟩:Addr).add j) = some u:=by
  obtain ⟨⟨_,h⟩,_⟩:=s.get u
  rcases h with ⟨h,_⟩ | ⟨g,cap', cur,he,_,hg,_,_,_,ht⟩
  · cases h
  · cases he
    intro j u hu
    have hadd:(⟨bk,0,none⟩:Addr).add j = ⟨bk,j,none⟩:=by unfold Addr.add; split <;> simp_all
    rw [hadd,cell_of_row w bk _ _ e (0,0) hg,<- Array.getElem?_toList]
    rw [<- ht] at hu
    rcases Nat.lt_or_ge j (n' * sz) with hj | hj
    · rwa [List.getElem?_take_of_lt hj] at hu
    · rw [List.getElem?_eq_none (by rw [List.length_take]; omega)] at hu; cases hu
theorem St.rowForm {e:TypeId} {sz n' base:Nat} {xv:Value} {cs:List Value} {o' : Ob} (s:St w0 w O) (u:Upd O (.row base e sz xv n' cs) o' O'):∃ A c,xv = .slice A n' c/\n' <= 4294967296/\cs.length = n' * sz/\(A = none -> n' = 0)/\(0 < n' -> ∃ bk,A = some ⟨bk,0,none⟩)/\(∀ ad,A = some ad -> ∀ j u,cs[j]? = some u -> w.cell? (ad.add j) = some u):=by
  have hh:=s.get u
  obtain ⟨⟨h1,h⟩,h3⟩:=hh
  rcases h with ⟨rfl,h0⟩ | ⟨g,cap', cur,rfl,_,hg,_,_,_,ht⟩
  · subst h0
    exact ⟨none,0,rfl,h3,h1,fun _=>rfl,fun h=>(by omega),fun ad e=>(by cases e)⟩
  · exact ⟨some ⟨g,0,none⟩,cap', rfl,h3,h1,fun e=>(by cases e),fun _=>⟨g,rfl⟩,fun ad e=>(by cases e; exact s.rowMem u)⟩
theorem Acts.storeRow {bk j sz n' cap base:Nat} {p:Addr} {old news new' : List Value} {e:TypeId} {dd:Option Tmp} (s:St w0 w O) (u:Upd O (.row base e sz (.slice (some ⟨bk,0,none⟩) n' cap) n' old) (.row base e sz (.slice (some ⟨bk,0,none⟩) n' cap) n' new') O') (hx:ev σ x = some (.pointer (some p))) (hp:p = (⟨bk,0,none⟩:Addr).add j) (hy:ev σ y = some v) (hv:v.cells = news.toArray) (hs:sizeB P t news.length = true)
    (hfit:j + news.length <= old.length) (h1:∀ u ∈ news,u.oneCell' = true) (hcs:old.take j ++ news ++ old.drop (j + news.length) = new'):Acts P ⟨dd,.store t x y,ty,ps,af,g⟩ σ w (Now w0 w O O'):=fun ρ ha w' hw=>by
  have hpp:p = ⟨bk,j,none⟩:=by rw [hp]; unfold Addr.add; split <;> simp_all
  obtain ⟨⟨hl,hh⟩,hmost⟩:=s.get u
  rcases hh with ⟨hh,_⟩ | ⟨g', cap', cur,he,hbase,hgk,hnc,hcm,hcur,htake⟩
  · cases hh
  · cases he
    have hb' : w'.heap[bk]? = some (.cells cur.toList.toArray e (0,0)):=blk_keep0 hw (by simpa using hgk)
    have hle:old.length <= cur.toList.length:=by rw [<- htake,List.length_take]; omega
    have hr:=run_store_at (P:=P) (t:=t) hpp hb' hv hs (by omega) h1
    refine ⟨w'.setRow bk (cur.toList.take j ++ news ++ cur.toList.drop (j + news.length)).toArray,by simp [execOp,ha _ _ hx,ha _ _ hy,Instr.storeAt,Instr.sureAddr,hr],?_⟩
    have hag:Agree [bk] w (w'.setRow bk (cur.toList.take j ++ news ++ cur.toList.drop (j + news.length)).toArray):=(hw.widen).trans (agree_setRow hb' _)
    have hL:∀ b ∈ [bk],(Ob.row base e sz (.slice (some ⟨bk,0,none⟩) n' cap) n' old).block = some b:=by simp [Ob.block,Value.ownBlock]
    have hnl:new'.length = old.length:=by rw [<- hcs]; simp only [List.length_append,List.length_take,List.length_drop]; omega
    refine ⟨s.upd u hag hL ⟨⟨by rw [hnl,hl],.inr ⟨bk,cap,_,rfl,hbase,setRow_heap w' bk _ _ e _ hb', hnc,hcm,?_,?_⟩⟩,hmost⟩ (fun b e=>.inl e),Tr.upd u hag hL (fun b e=>.inl e)⟩
    · rw [List.size_toArray]; simp only [List.length_append,List.length_take,List.length_drop]
      rw [<- hcur,<- Array.length_toList]; omega
    · rw [List.toList_toArray,<- hcs]
      have hn:n' * sz = old.length:=hl.symm
      have hoc:∀ i,i < old.length -> old[i]? = cur.toList[i]?:=fun i hi=>by rw [<- htake,List.getElem?_take_of_lt (by omega)]
      apply List.ext_getElem?
      intro i
      rcases Nat.lt_or_ge i old.length with hi | hi
      · rw [List.getElem?_take_of_lt (by omega)]
        rcases Nat.lt_or_ge i j with h2 | h2
        · rw [List.append_assoc,List.append_assoc,List.getElem?_append_left (by rw [List.length_take]; omega),List.getElem?_append_left (by rw [List.length_take]; omega),List.getElem?_take_of_lt h2,List.getElem?_take_of_lt h2,hoc i hi]
        · rcases Nat.lt_or_ge i (j + news.length) with h3 | h3
          · rw [List.getElem?_append_left (by rw [List.length_append,List.length_take]; omega),List.getElem?_append_right (by rw [List.length_take]; omega),List.getElem?_append_left (by rw [List.length_append,List.length_take]; omega),List.getElem?_append_right (by rw [List.length_take]; omega),List.length_take,List.length_take,Nat.min_eq_left (by omega),Nat.min_eq_left (by omega)]
          · rw [List.getElem?_append_right (by rw [List.length_append,List.length_take]; omega),List.getElem?_append_right (by rw [List.length_append,List.length_take]; omega),List.getElem?_drop,List.getElem?_drop,List.length_append,List.length_append,List.length_take,List.length_take,Nat.min_eq_left (by omega),Nat.min_eq_left (by omega),show j + news.length + (i - (j + news.length)) = i by omega,hoc i hi]
      · rw [List.getElem?_eq_none (by rw [List.length_take]; omega),List.getElem?_eq_none (by simp only [List.length_append,List.length_take,List.length_drop]; omega)]
end
end Go.Proofs.YtgejkdheojkfiaaGreatDoor
