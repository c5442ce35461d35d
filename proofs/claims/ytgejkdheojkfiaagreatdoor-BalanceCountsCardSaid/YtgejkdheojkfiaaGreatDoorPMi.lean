/- Laws of the walk, more of them: shifts of signed numbers, an array at a variable, a slice of others and nil. No program in sight. -/
import Derived.Test.YtgejkdheojkfiaaGreatDoorPMh
namespace Go.Proofs.YtgejkdheojkfiaaGreatDoor
open Go Go.RowKit
/- Equality of tuples of words: the search for instances is short. -/
instance:DecidableEq (UInt64 × UInt64 × UInt64):=inferInstance
instance:DecidableEq (UInt64 × UInt64 × UInt64 × UInt64):=inferInstance
instance:DecidableEq (UInt64 × UInt64 × UInt64 × UInt64 × UInt64):=inferInstance
instance:DecidableEq (UInt64 × UInt64 × UInt64 × UInt64 × UInt64 × UInt64):=inferInstance
instance:DecidableEq (UInt64 × UInt64 × UInt64 × UInt64 × UInt64 × UInt64 × UInt64):=inferInstance
instance:DecidableEq (UInt64 × UInt64 × UInt64 × UInt64 × UInt64 × UInt64 × UInt64 × UInt64):=inferInstance
def shlS (x:Int) (k:Nat):Int:=IntKind.i64.wrap (x * 2 ^ (min k 64))
def shrS (x:Int) (k:Nat):Int:=x.fdiv (2 ^ (min k 64))
section
variable {P:Program} {σ:List (Nat × Value)} {w:World} {x y:Operand} {d:Option Tmp} {t t' ty e:TypeId} {ps:String} {af:Array Edge} {g:Option (Nat × Bool)}
theorem FV.shlS {k:IntKind} {i:Int} {j:Nat} (hx:ev σ x = some (.int .i64 i)) (hy:ev σ y = some (.int k ((j:Nat):Int))):FV P ⟨d,.binOp .shl t x y t', ty,ps,af,g⟩ σ w (.int .i64 (Proofs.YtgejkdheojkfiaaGreatDoor.shlS i j)):=fun ρ ha w' _=>by
  have hs:(Op.shift .shl .i64 i k (j:Int)).run P w' = .ok (.int .i64 (Proofs.YtgejkdheojkfiaaGreatDoor.shlS i j)) w' :=by
    unfold Op.shift Proofs.YtgejkdheojkfiaaGreatDoor.shlS; rw [if_neg (by omega)]; simp [IntKind.bits]
  simp [execOp,ha _ _ hx,ha _ _ hy,eqGuard,binOp,hs]
theorem FV.shrS {k:IntKind} {i:Int} {j:Nat} (hx:ev σ x = some (.int .i64 i)) (hy:ev σ y = some (.int k ((j:Nat):Int))):FV P ⟨d,.binOp .shr t x y t', ty,ps,af,g⟩ σ w (.int .i64 (Proofs.YtgejkdheojkfiaaGreatDoor.shrS i j)):=fun ρ ha w' _=>by
  have hs:(Op.shift .shr .i64 i k (j:Int)).run P w' = .ok (.int .i64 (Proofs.YtgejkdheojkfiaaGreatDoor.shrS i j)) w' :=by
    unfold Op.shift Proofs.YtgejkdheojkfiaaGreatDoor.shrS; rw [if_neg (by omega)]; simp [IntKind.bits]
  simp [execOp,ha _ _ hx,ha _ _ hy,eqGuard,binOp,hs]
theorem FV.shlSI {k:IntKind} {i q:Int} {j:Nat} (hx:ev σ x = some (.int .i64 i)) (hy:ev σ y = some (.int k q)) (hj:natOf q = some j):FV P ⟨d,.binOp .shl t x y t', ty,ps,af,g⟩ σ w (.int .i64 (Proofs.YtgejkdheojkfiaaGreatDoor.shlS i j)):=FV.shlS hx (by rw [hy,<- natOf_in hj])
theorem FV.shrSI {k:IntKind} {i q:Int} {j:Nat} (hx:ev σ x = some (.int .i64 i)) (hy:ev σ y = some (.int k q)) (hj:natOf q = some j):FV P ⟨d,.binOp .shr t x y t', ty,ps,af,g⟩ σ w (.int .i64 (Proofs.YtgejkdheojkfiaaGreatDoor.shrS i j)):=FV.shrS hx (by rw [hy,<- natOf_in hj])
end
theorem arr_get {α:Type} (f:α -> Value) {xs:List α} {i:Nat} {x:α} (h:xs[i]? = some x):(xs.map f)[i * 1]? = some (f x):=by rw [Nat.mul_one,List.getElem?_map,h]; rfl
theorem arr_lt {α:Type} {xs:List α} {i m:Nat} {x:α} (h:xs[i]? = some x) (hl:xs.length = m):i < m:=by rw [<- hl]; exact (List.getElem?_eq_some_iff.1 h).1
/-! ### Arrays at a variable -/
section
variable {P:Program} {σ:List (Nat × Value)} {w w0:World} {x y:Operand} {d:Option Tmp} {t t' ty e:TypeId} {ps:String} {af:Array Edge} {g:Option (Nat × Bool)} {O O' : List Ob}
theorem mem_elem1 {p:Addr} {cs:List Value} {i:Nat} {v:Value} (h:∀ j u,cs[j]? = some u -> w.cell? (p.add j) = some u) (hi:cs[i * 1]? = some v):∀ j u,([v]:List Value)[j]? = some u -> w.cell? ((p.add (i * 1)).add j) = some u:=by
  intro j u hu
  cases j with
  | zero=>cases hu; rw [add_of_add]; exact h _ _ (by simpa using hi)
  | succ j=>cases hu
def setA {α:Type} (i j:Nat) (x o:α):α:=if i = j then x else o
def setsA {α:Type} (i:Nat) (x:α):Nat -> List α -> List α
  | _,[]=>[]
  | j,o :: xs=>setA i j x o :: setsA i x (j + 1) xs
theorem setsA_get {α:Type} (i:Nat) (x:α):∀ (j:Nat) (xs:List α) (k:Nat),(setsA i x j xs)[k]? = if i = j + k/\k < xs.length then some x else xs[k]?
  | _,[],k=>by simp [setsA]
  | j,o :: xs,0=>by simp only [setsA,setA,List.getElem?_cons_zero,Nat.add_zero,List.length_cons,Nat.zero_lt_succ,and_true]; split <;> rfl
  | j,o :: xs,k + 1=>by
    rw [setsA,List.getElem?_cons_succ,setsA_get i x (j + 1) xs k,List.getElem?_cons_succ,List.length_cons,show j + 1 + k = j + (k + 1) by omega]
    simp only [Nat.succ_lt_succ_iff]
theorem setsA_map {α β:Type} (f:α -> β) (i:Nat) (x:α):∀ (j:Nat) (xs:List α),(setsA i x j xs).map f = setsA i (f x) j (xs.map f)
  | _,[]=>rfl
  | j,o :: xs=>by simp only [setsA,List.map_cons,setsA_map f i x (j + 1) xs]; congr 1; unfold setA; split <;> rfl
theorem setsA_set {α:Type} (i:Nat) (x:α) (xs:List α) (h:i < xs.length):setsA i x 0 xs = xs.take i ++ [x] ++ xs.drop (i + 1):=by
  apply List.ext_getElem?
  intro k
  rw [setsA_get,Nat.zero_add]
  split
  · rename_i h2; obtain ⟨rfl,_⟩:=h2
    rw [List.append_assoc,List.getElem?_append_right (by rw [List.length_take]; omega),List.length_take,Nat.min_eq_left (by omega),Nat.sub_self]; rfl
  · rename_i h2
    rcases Nat.lt_trichotomy k i with hk | hk | hk
    · rw [List.append_assoc,List.getElem?_append_left (by rw [List.length_take]; omega),List.getElem?_take_of_lt hk]
    · subst hk; exact absurd ⟨rfl,h⟩ h2
    · rw [List.getElem?_append_right (by rw [List.length_append,List.length_take]; simp; omega),List.getElem?_drop]
      congr 1; rw [List.length_append,List.length_take,Nat.min_eq_left (by omega)]; simp; omega
theorem arr_set {α:Type} (f:α -> Value) {xs:List α} {pre post:List Value} {i m m' : Nat} {x:α} (hl:xs.length = m) (hm:pre.length = m') (hi:i < m) :
    (pre ++ xs.map f ++ post).take (m' + i) ++ [f x] ++ (pre ++ xs.map f ++ post).drop (m' + i + ([f x]:List Value).length) = pre ++ (setsA i x 0 xs).map f ++ post:=by
  rw [setsA_map,setsA_set i (f x) (xs.map f) (by rw [List.length_map]; omega)]
  subst hm
  rw [List.append_assoc pre,List.take_length_add_append,List.take_append_of_le_length (by rw [List.length_map]; omega)]
  rw [List.length_singleton,Nat.add_assoc,List.drop_length_add_append,List.drop_append_of_le_length (by rw [List.length_map]; omega)]
  simp [List.append_assoc]
theorem FV.len_map {κ ν:Type} [Enc κ] [Enc ν] {kt et:TypeId} {bk:Nat} {D:List (κ × ν)} (s:St w0 w O) (u:At O (.obj bk (mapO D))) (ht:P.underlying t = some (.map kt et)) (hx:ev σ x = some (.map (some bk))) :
    FV P ⟨d,.call { callee:=.builtin .len,args:=#[x],argTypes:=#[t] },ty,ps,af,g⟩ σ w (.int .i64 (D.length:Int)):=fun ρ ha w' hw=>by
  have hb:=blk_keep0 hw (s.get u.upd)
  have hget:(getObj bk).run P w' = .ok (mapO D) w' :=by simp [getObj,Sem.run,hb,mapO]
  simp only [execOp,resolve,invoke,builtin,Builtin.len_,List.map_toArray,List.map_cons,List.map_nil,ha _ _ hx]
  simp [run_underlying ht,hget,mapO,goInt]
theorem FV.strAt {kd:IntKind} {s:ByteArray} {i:Int} {k:Nat} {z:UInt8} (ht:P.underlying t = some .string) (hx:ev σ x = some (.string s)) (hy:ev σ y = some (.int kd i)) (hi:i = (k:Int)) (hz:s.data[k]? = some z) :
    FV P ⟨d,.index t x y,ty,ps,af,g⟩ σ w (.int .u8 (z.toNat:Int)):=by
  obtain ⟨hk,rfl⟩:=Array.getElem?_eq_some_iff.1 hz
  exact FV.indexS ht hx hy hi hk
end
section
variable {P:Program} {σ:List (Nat × Value)} {w w0:World} {x y:Operand} {d:Option Tmp} {t t' ty e:TypeId} {ps:String} {af:Array Edge} {g:Option (Nat × Bool)} {O O' : List Ob} {v:Value}
theorem addr_at (b o i:Nat):((⟨b,o,none⟩:Addr).add (i * 1)) = ⟨b,o + i,none⟩:=by
  unfold Addr.add; split
  · rename_i h; simp at h; subst h; rfl
  · simp
theorem Acts.storeArr {α:Type} (f:α -> Value) {xs:List α} {pre post old new' : List Value} {i m m' bk:Nat} {x:α} {p:Addr} {e:TypeId} {dd:Option Tmp} {xo yo:Operand} (hl:xs.length = m) (hm:pre.length = m') (hi:i < m) (s:St w0 w O) (u:Upd O (.cells bk old e) (.cells bk new' e) O') (hx:ev σ xo = some (.pointer (some p))) (hp:p = ⟨bk,m' + i,none⟩) (hy:ev σ yo = some (f x)) (hs:sizeB P t 1 = true)
    (h1:∀ x,(f x).cells = #[f x]/\(f x).oneCell' = true) (ho:old = pre ++ xs.map f ++ post) (hn:new' = pre ++ (setsA i x 0 xs).map f ++ post):Acts P ⟨dd,.store t xo yo,ty,ps,af,g⟩ σ w (Now w0 w O O'):=
  Acts.store (j:=m' + i) (news:=[f x]) s u hx hp hy (h1 x).1 hs (by rw [ho,Nat.ble_eq]; simp only [List.length_append,List.length_map,List.length_singleton]; omega) (by intro u hu; simp only [List.mem_singleton] at hu; subst hu; exact (h1 x).2) (by rw [ho,hn]; exact arr_set f hl hm hi)
end
theorem UInt_inj64 {a b:UInt64} (h:(a.toNat:Int) = b.toNat):a = b:=UInt64.toNat_inj.1 (by omega)
/-! ### Equality of structs and arrays -/
def veq:Value -> Value -> Bool
  | .int _ a,.int _ b=>a == b
  | .bool a,.bool b=>a == b
  | .string a,.string b=>a.toList == b.toList
  | _,_=>false
def allEq:List Value -> List Value -> Bool
  | x :: xs,y :: ys=>veq x y && allEq xs ys
  | _,_=>true
def leafD:TypeDesc -> Bool
  | .int _=>true
  | .bool=>true
  | .string=>true
  | _=>false
def fit1:TypeDesc -> Value -> Bool
  | .int k,.int k' _=>k == k'
  | .bool,.bool _=>true
  | .string,.string _=>true
  | _,_=>false
def fitL:List TypeDesc -> List Value -> Bool
  | [],[]=>true
  | k :: ks,v :: vs=>fit1 k v && fitL ks vs
  | _,_=>false
theorem fitL_length:∀ {ks:List TypeDesc} {vs:List Value},fitL ks vs = true -> vs.length = ks.length
  | [],[],_=>rfl
  | [],_ :: _,h=>by cases h
  | _ :: _,[],h=>by cases h
  | k :: ks,v :: vs,h=>by rw [fitL,Bool.and_eq_true] at h; simp [fitL_length h.2]
theorem fitL_append:∀ {ks ls:List TypeDesc} {vs:List Value},fitL (ks ++ ls) vs = true -> ∃ xs ys,vs = xs ++ ys/\fitL ks xs = true/\fitL ls ys = true
  | [],_,vs,h=>⟨[],vs,rfl,rfl,h⟩
  | k :: ks,ls,[],h=>by cases h
  | k :: ks,ls,v :: vs,h=>by
    rw [List.cons_append,fitL,Bool.and_eq_true] at h
    obtain ⟨xs,ys,rfl,h1,h2⟩:=fitL_append h.2
    exact ⟨v :: xs,ys,rfl,by rw [fitL,h.1,h1]; rfl,h2⟩
theorem allEq_append:∀ {xs xs' ys ys' : List Value},xs.length = xs'.length -> allEq (xs ++ ys) (xs' ++ ys') = (allEq xs xs' && allEq ys ys')
  | [],[],_,_,_=>by simp [allEq]
  | [],_ :: _,_,_,h=>by cases h
  | _ :: _,[],_,_,h=>by cases h
  | x :: xs,y :: ys,_,_,h=>by simp only [List.cons_append,allEq]; rw [allEq_append (by simpa using h),Bool.and_assoc]
def segB (P:Program) (f:TypeId -> Option (List TypeDesc)):Nat -> List (TypeId × Nat) -> Option (List TypeDesc)
  | _,[]=>some []
  | o,(e,o') :: r=>if o = o' then (match f e with
    | some ks=>if P.cellsOf e = ks.length && (P.underlying e).isSome then (segB P f (o + ks.length) r).map (ks ++ ·) else none
    | none=>none) else none
def leafB (P:Program):Nat -> TypeId -> Option (List TypeDesc)
  | 0,_=>none
  | d + 1,t=>match P.underlying t with
    | some (.array n e)=>if n = 0 then none else segB P (leafB P d) 0 ((List.range n).map fun i=>(e,i * P.cellsOf e))
    | some (.struct fs) => if P.stoodInHeld t || fs.toList.any (fun f => f.name == "_") then none else segB P (leafB P d) 0 (fs.toList.map fun f => (f.type, f.offset))
    | some k=>if leafD k then some [k] else none
    | none=>none
def aggQ (P:Program) (t:TypeId):Bool:=match P.underlying t with
  | some (.array _ _)=>true
  | some (.struct _)=>true
  | _=>false
def asV (P:Program) (t:TypeId) (xs:List Value):Value:=if aggQ P t then .agg xs.toArray else xs.headD undef
section
variable {P:Program}
def segR (d:Nat) (xs ys:Array Value):List (TypeId × Nat) -> Sem Bool
  | []=>pure true
  | (e,o) :: r=>do
    let a <- part e xs o
    let b <- part e ys o
    let q <- Op.equalIn d e a b
    if (!q) = true then pure false else segR d xs ys r
theorem segR_items (d:Nat) (e:TypeId) (c:Nat) (xs ys:Array Value):∀ is:List Nat,Op.eqItems d e c xs ys is = segR d xs ys (is.map fun i=>(e,i * c))
  | []=>rfl
  | i :: is=>by simp only [Op.eqItems,segR,List.map_cons,segR_items d e c xs ys is]
theorem segR_fields (d : Nat) (xs ys : Array Value) : ∀ fs : List Field, fs.any (fun f => f.name == "_") = false → Op.eqFields d xs ys fs = segR d xs ys (fs.map fun f => (f.type, f.offset))
  | [],_=>rfl
  | f :: fs,h=>by
    rw [List.any_cons,Bool.or_eq_false_iff] at h
    simp only [Op.eqFields,segR,List.map_cons,segR_fields d xs ys fs h.2]
    rw [if_pos (by simpa using h.1)]
theorem run_part_seg {e:TypeId} {pre X Y:List Value} {o c:Nat} (ho:pre.length = o) (hc:P.cellsOf e = c) (hX:X.length = c) (hi:(P.underlying e).isSome = true) (h1:aggQ P e = false -> c = 1) (w:World):(part e (pre ++ (X ++ Y)).toArray o).run P w = .ok (asV P e X) w:=by
  obtain ⟨u,hu⟩:=Option.isSome_iff_exists.1 hi
  obtain ⟨i,hi⟩:=info_of_underlying hu
  subst ho
  unfold asV
  cases ha:aggQ P e with
  | false=>
    have hagg:(isAgg e).run P w = .ok false w:=by
      unfold aggQ at ha
      unfold isAgg
      rw [hu] at ha; rw [Sem.run_bind,run_underlying hu w]; cases u <;> simp_all
    have hX1:X.length = 1:=by rw [hX,h1 ha]
    obtain ⟨x,rfl⟩:=List.length_eq_one_iff.1 hX1
    simp [part,hagg]
  | true=>
    have hagg:(isAgg e).run P w = .ok true w:=by
      unfold aggQ at ha
      unfold isAgg
      rw [hu] at ha; rw [Sem.run_bind,run_underlying hu w]; cases u <;> simp_all
    simp only [part,Sem.run_bind,hagg,Result.andThen_ok,if_true,run_sizeOf w hi,hc,Sem.run_pure]
    congr 2
    apply Array.ext'
    rw [<- hX]
    simp
theorem seg_run {f:TypeId -> Option (List TypeDesc)} {d:Nat} (IH:∀ e ks,f e = some ks -> (aggQ P e = false -> ks.length = 1)/\∀ X Y,fitL ks X = true -> fitL ks Y = true -> ∀ w,(Op.equalIn d e (asV P e X) (asV P e Y)).run P w = .ok (allEq X Y) w) :
    ∀ (segs:List (TypeId × Nat)) (o:Nat) (ks:List TypeDesc),segB P f o segs = some ks -> ∀ (pre pre' X Y:List Value),pre.length = o -> pre'.length = o -> fitL ks X = true -> fitL ks Y = true -> ∀ w,(segR d (pre ++ X).toArray (pre' ++ Y).toArray segs).run P w = .ok (allEq X Y) w
  | [],o,ks,h,pre,pre', X,Y,_,_,hX,hY,w=>by
    cases h
    have h1:=fitL_length hX
    have h2:=fitL_length hY
    obtain rfl:=List.eq_nil_of_length_eq_zero h1
    obtain rfl:=List.eq_nil_of_length_eq_zero h2
    rfl
  | (e,o') :: r,o,ks,h,pre,pre', X,Y,h1,h2,hX,hY,w=>by
    rw [segB] at h
    split at h
    · rename_i ho
      subst ho
      split at h
      · rename_i k1 hk1
        split at h
        · rename_i hc
          rw [Bool.and_eq_true] at hc
          obtain ⟨k2,hk2,rfl⟩:=Option.map_eq_some_iff.1 h
          obtain ⟨X1,X2,rfl,hX1,hX2⟩:=fitL_append hX
          obtain ⟨Y1,Y2,rfl,hY1,hY2⟩:=fitL_append hY
          have hl1:=fitL_length hX1
          have hl2:=fitL_length hY1
          obtain ⟨i1,i2⟩:=IH e k1 hk1
          have hc1:P.cellsOf e = k1.length:=by simpa using hc.1
          simp only [segR,Sem.run_bind]
          rw [run_part_seg h1 hc1 hl1 hc.2 i1 w]
          simp only [Result.andThen_ok]
          rw [run_part_seg h2 hc1 hl2 hc.2 i1 w]
          simp only [Result.andThen_ok]
          rw [i2 X1 Y1 hX1 hY1 w]
          simp only [Result.andThen_ok]
          rw [allEq_append (by rw [hl1,hl2])]
          have hrest:=seg_run IH r (o + k1.length) k2 hk2 (pre ++ X1) (pre' ++ Y1) X2 Y2 (by rw [List.length_append]; omega) (by rw [List.length_append]; omega) hX2 hY2 w
          rw [List.append_assoc,List.append_assoc] at hrest
          cases allEq X1 Y1
          · simp
          · simpa using hrest
        · cases h
      · cases h
    · cases h
theorem leaf_run:∀ (d D:Nat) (t:TypeId) (ks:List TypeDesc),leafB P d t = some ks -> (aggQ P t = false -> ks.length = 1)/\∀ X Y,fitL ks X = true -> fitL ks Y = true -> ∀ w,(Op.equalIn (D + d) t (asV P t X) (asV P t Y)).run P w = .ok (allEq X Y) w
  | 0,_,_,_,h=>by cases h
  | d + 1,D,t,ks,h=>by
    rw [leafB] at h
    split at h
    · rename_i n e hu
      have h0:=h
      rw [if_neg (by rintro rfl; cases h0)] at h
      refine ⟨fun ha=>by simp [aggQ,hu] at ha,fun X Y hX hY w=>?_⟩
      have hagg:aggQ P t = true:=by simp [aggQ,hu]
      have hseg:=seg_run (d:=D + d) (leaf_run d D) _ 0 ks h [] [] X Y rfl rfl hX hY w
      cases n with
      | zero=>cases h0
      | succ n=>
        have hi:∃ i,P.info? e = some i:=by
          rw [List.range_succ_eq_map,List.map_cons,segB] at h
          simp only [Nat.zero_mul,if_true] at h
          split at h
          · split at h
            · rename_i hc; rw [Bool.and_eq_true] at hc; obtain ⟨u9,hu9⟩:=Option.isSome_iff_exists.1 hc.2; exact info_of_underlying hu9
            · cases h
          · cases h
        obtain ⟨i,hi⟩:=hi
        simp only [asV,hagg,if_true]
        rw [<- Nat.add_assoc,run_equalIn_array w (D + d) _ _ hu hi,segR_items]
        simpa using hseg
    · rename_i fs hu
      split at h
      · cases h
      · rename_i hn
        have hn' : (P.stoodInHeld t || fs.toList.any (fun f => f.name == "_")) = false := by simpa using hn
        rw [Bool.or_eq_false_iff] at hn'
        refine ⟨fun ha=>by simp [aggQ,hu] at ha,fun X Y hX hY w=>?_⟩
        have hagg:aggQ P t = true:=by simp [aggQ,hu]
        have hseg:=seg_run (d:=D + d) (leaf_run d D) _ 0 ks h [] [] X Y rfl rfl hX hY w
        have hf:P.fieldsOf t = fs:=by unfold Program.fieldsOf; rw [hu]
        simp only [asV,hagg,if_true]
        rw [<- Nat.add_assoc,run_equalIn_struct w (D + d) t _ _ (by rw [hf]; exact hu) hn'.1,hf,segR_fields _ _ _ _ hn'.2]
        simpa using hseg
    · rename_i k hna hns hu
      split at h
      · rename_i hl
        cases h
        have hagg:aggQ P t = false:=by
          unfold aggQ; rw [hu]; cases k <;> first | rfl | (cases hl; done)
        refine ⟨fun _=>rfl,fun X Y hX hY w=>?_⟩
        obtain ⟨x,rfl⟩:=List.length_eq_one_iff.1 (fitL_length hX)
        obtain ⟨y,rfl⟩:=List.length_eq_one_iff.1 (fitL_length hY)
        simp only [fitL,Bool.and_true] at hX hY
        simp only [asV,hagg,Bool.false_eq_true,if_false,List.headD_cons,allEq,Bool.and_true]
        rw [<- Nat.add_assoc]
        cases k <;> first | (cases hl; done) | skip
        all_goals (cases x <;> first | (cases hX; done) | skip)
        all_goals (cases y <;> first | (cases hY; done) | skip)
        all_goals simp only [veq]
        · exact run_equalIn_bool w _ t _ _ hu
        · simp only [fit1,beq_iff_eq] at hX hY
          subst hX; subst hY
          exact run_equalIn_int w _ t _ _ _ _ hu
        · exact run_equalIn_string w _ t _ _ hu
      · cases h
    · cases h
theorem eqAgg {t:TypeId} {ks:List TypeDesc} {xs ys:List Value} {q:Prop} [Decidable q] (hl:leafB P 10 t = some ks) (ha:aggQ P t = true) (hg:P.eqGuardType P.depth t = false) (hX:fitL ks xs = true) (hY:fitL ks ys = true) (hq:allEq xs ys = true ↔ q) (x y:Operand) (w9:World) :
    (do eqGuard .eql t x y (.agg xs.toArray) (.agg ys.toArray); binOp .eql t (.agg xs.toArray) (.agg ys.toArray):Sem Value).run P w9 = .ok (.bool (decide q)) w9:=by
  have h:=(leaf_run 10 9990 t ks hl).2 xs ys hX hY w9
  simp only [asV,ha,if_true] at h
  rw [Sem.run_bind,run_eqGuard_agg w9 .eql t x y _ _ hg]
  simp only [Result.andThen_ok]
  rw [run_eql_struct]
  rw [show (10000:Nat) = 9990 + 10 from rfl,h]
  simp only [Result.andThen_ok]
  have hh:allEq xs ys = decide q:=by
    by_cases hh:q
    · rw [decide_eq_true hh]; exact hq.2 hh
    · rw [decide_eq_false hh]
      cases h2:allEq xs ys
      · rfl
      · exact absurd (hq.1 h2) hh
  rw [hh]
end
end Go.Proofs.YtgejkdheojkfiaaGreatDoor
