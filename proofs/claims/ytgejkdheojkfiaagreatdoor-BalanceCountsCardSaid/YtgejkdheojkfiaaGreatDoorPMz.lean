/- Laws of the walk, more: ranges over functions, their rounds; maps of the call's own. No program in sight. -/
import Derived.Test.YtgejkdheojkfiaaGreatDoorPMy
import Derived.RangeFuncNested
namespace Go.Proofs.YtgejkdheojkfiaaGreatDoor
open Go Go.RowKit
def lpO (r:Loop) (s:LoopState) (p:Option Code):Obj:=.loop { r with state:=s,pending:=p }
structure Rec (r:Loop) (n:Nat) (σ:List (Nat × Value)) (ps:List Tmp) (assign body:Code):Prop where
  size:r.tmps.size = n
  get:∀ s v,look σ s = some v -> r.tmps[s]? = some v
  params:r.params = ps.toArray
  assign:r.assign = assign
  body:r.body = body
def puts:List Tmp -> List Value -> List (Nat × Value) -> List (Nat × Value)
  | p :: ps,v :: vs,σ=>puts ps vs ((p,v) :: σ)
  | _,_,σ=>σ
theorem agree_putObj {w:World} {r:Nat} {o:Obj}:Agree [r] w (w.putObj r o):=⟨rfl,rfl,rfl,by simp [World.putObj],fun k _ hk=>World.putObj_heap_other (by simpa using hk)⟩
theorem fr_puts {n:Nat}:∀ (ps:List Tmp) (vs:List Value) (σ:List (Nat × Value)) (T:Array Value),Fr n [] σ { tmps:=T,defers:=[] } -> ps.all (fun p=>Nat.blt p n) = true -> Fr n [] (puts ps vs σ) { tmps:=(ps.zip vs).foldl (fun t (p,v)=>t.setIfInBounds p v) T,defers:=[] }
  | [],_,_,_,h,_=>h
  | _ :: _,[],_,_,h,_=>h
  | p :: ps,v :: vs,σ,T,h,hp=>by
    rw [List.all_cons,Bool.and_eq_true] at hp
    exact fr_puts ps vs _ _ (h.put p v hp.1) hp.2
section
variable {P:Program} {Z:Machine -> Prop} {b:Frame} {n:Nat} {ds:List Deferred} {cs:List Frame} {k:List Item} {σ τ:List (Nat × Value)} {w w0:World} {ops:Array Oper} {l:List Oper} {d:Nat} {ty:TypeId} {ps:String} {af:Array Edge} {v:Value} {x y:Operand} {t:TypeId} {O O' : List Ob} {g:Option (Nat × Bool)}
theorem upd_put {bk:Nat} {o o2:Obj} (s:St w0 w O) (u:Upd O (.obj bk o) (.obj bk o2) O') {w' : World} (hw:Agree [] w w'):St w0 (w'.putObj bk o2) O' /\Tr w O (w'.putObj bk o2) O' :=by
  have hag:Agree [bk] w (w'.putObj bk o2):=hw.widen.trans agree_putObj
  have hL:∀ b ∈ [bk],(Ob.obj bk o).block = some b:=by simp [Ob.block]
  have hlt:bk < w'.heap.size:=Nat.lt_of_lt_of_le (blk_lt (s.get u)) hw.size
  exact ⟨s.upd u hag hL (World.putObj_heap_same hlt) (fun b e=>.inl e),Tr.upd u hag hL (fun b e=>.inl e)⟩
theorem MX.endRange {lk:Nat} {r:Loop} {st:LoopState} {pe:Option Code} (s:St w0 w O) (u:Upd O (.obj lk (lpO r st pe)) (.obj lk (lpO r .exhausted pe)) O') (hst:st ≠ .busy) (h:∀ w1,St w0 w1 O' -> Tr w O w1 O' -> MX P Z b n ds cs ((pe.map Item.code).toList ++ k) σ w1):MX P Z b n ds cs (.endRangeFunc lk :: k) σ w:=by
  intro a w' ha hw
  have hr:=run_endLoop (P:=P) (r:={ r with state:=st,pending:=pe }) (blk_keep0 hw (s.get u)) (by simpa using hst)
  refine .step (stepR_endRangeFunc hr) ?_
  obtain ⟨h1,h2⟩:=upd_put s u hw
  exact h _ h1 h2 _ _ ha (Agree.refl _ _)
theorem MX.endRange0 {lk:Nat} {r:Loop} {st:LoopState} (s:St w0 w O) (u:Upd O (.obj lk (lpO r st none)) (.obj lk (lpO r .exhausted none)) O') (hst:st ≠ .busy) (h:∀ w1,St w0 w1 O' -> Tr w O w1 O' -> MX P Z b n ds cs k σ w1):MX P Z b n ds cs (.endRangeFunc lk :: k) σ w:=MX.endRange s u hst h
theorem MX.begin {f:FuncId} {lk:Nat} {r:Loop} (s:St w0 w O) (u:Upd O (.obj lk (lpO r .ready none)) (.obj lk (lpO r .busy none)) O') (h:∀ w1,St w0 w1 O' -> Tr w O w1 O' -> MX P Z (fb f .normal (some lk)) n ds cs k σ w1):MX P Z (fb f .normal (some lk)) n ds cs (.beginRound :: k) σ w:=by
  intro a w' ha hw
  have hr:=run_beginRound (P:=P) (r:={ r with state:=.ready,pending:=none }) (blk_keep0 hw (s.get u)) rfl
  refine .step (stepR_beginRound rfl hr) ?_
  obtain ⟨h1,h2⟩:=upd_put s u hw
  exact h _ h1 h2 _ _ ha (Agree.refl _ _)
theorem MX.roundEnd {f:FuncId} {lk:Nat} {r:Loop} {fr:Frame} {X:Value -> World -> Prop} (hk:Back P Z fr cs X) (s:St w0 w O) (u:Upd O (.obj lk (lpO r .busy none)) (.obj lk (lpO r .ready none)) O') (h:∀ w1,St w0 w1 O' -> Tr w O w1 O' -> X (.bool true) w1):MX P Z (fb f .normal (some lk)) n ds (fr :: cs) [] σ w:=by
  intro a w' ha hw
  have hr:=run_endRound (P:=P) none (r:={ r with state:=.busy,pending:=none }) (blk_keep0 hw (s.get u))
  refine .step (stepR_round_end rfl rfl hr) ?_
  obtain ⟨h1,h2⟩:=upd_put s u hw
  exact hk _ _ _ (h _ h1 h2) (Agree.refl _ _)
theorem RT.take {D:Nat} (s:St w0 w O) (u:Upd O (.obj D (.deferred (some []))) (.obj D (.deferred none)) O') (h:∀ w1,St w0 w1 O' -> Tr w O w1 O' -> RT P Z b n ds cs σ w1):RT P Z b n ({ target:=.collected D,args:=#[] } :: ds) cs σ w:=by
  intro a w' todo ha hw
  have hr:=run_takeDeferred (P:=P) (blk_keep0 hw (s.get u))
  obtain ⟨h1,h2⟩:=upd_put s u hw
  refine .step (m1:=lone { b.atR { a with defers:=ds } todo with mode:=.returning } cs (w'.putObj D (.deferred none))) (step_lone_go ?_) (h _ h1 h2 { a with defers:=ds } _ todo ⟨ha.size,rfl,ha.get⟩ (Agree.refl _ _))
  have hd:=ha.defers
  obtain ⟨T,dd⟩:=a
  simp only at hd
  subst hd
  simp [stepG,unwind,Sem.runT_eq,hr,Frame.atR]
/-! ### Maps of the call's own -/
class Enc (α:Type) where
  enc:α -> Value
instance:Enc Int:=⟨fun x=>.int .i64 x⟩
instance:Enc Bool:=⟨fun x=>.bool x⟩
instance:Enc ByteArray:=⟨fun x=>.string x⟩
instance:Enc UInt64:=⟨fun x=>.int .u64 (x.toNat:Int)⟩
def mapO {κ ν:Type} [Enc κ] [Enc ν] (D:List (κ × ν)):Obj:=.map (D.zipIdx.map fun (e,i)=>({ key:=Enc.enc e.1,val:=Enc.enc e.2,born:=i }:MapEntry)).toArray D.length
def mset {κ ν:Type} [DecidableEq κ]:List (κ × ν) -> κ -> ν -> List (κ × ν)
  | [],k,v=>[(k,v)]
  | e :: D,k,v=>if k = e.1 then (k,v) :: D else e :: mset D k v
def mget {κ ν:Type} [DecidableEq κ]:List (κ × ν) -> κ -> Option ν
  | [],_=>none
  | e :: D,k=>if k = e.1 then some e.2 else mget D k
def mgetD {κ ν:Type} [DecidableEq κ] (D:List (κ × ν)) (k:κ) (z:ν):ν:=(mget D k).getD z
class MKey (κ:Type) [Enc κ] [DecidableEq κ] where
  kind:TypeDesc -> Bool
  same:∀ (t:TypeDesc) (a b:κ),kind t = true -> Instr.sameNow t (Enc.enc a) (Enc.enc b) = some (decide (a = b))
  bits:∀ a:κ,Instr.sameBits 10000 (Enc.enc a) (Enc.enc a) = true
  plain:∀ t,kind t = true -> (∀ ms,t ≠ .interface ms)/\(∀ n e,t ≠ .array n e)/\(∀ fs,t ≠ .struct fs)
theorem beqB_dec (a b:ByteArray):(a == b) = decide (a = b):=by
  obtain ⟨a⟩:=a; obtain ⟨b⟩:=b
  show (a == b) = _
  by_cases h:a = b
  · subst h; simp
  · rw [beq_eq_false_iff_ne.2 h,decide_eq_false (by simpa using h)]
instance:MKey Int where
  kind:=fun t=>match t with | .int _=>true | _=>false
  same:=fun t a b h=>by cases t <;> simp at h <;> simp [Instr.sameNow,Enc.enc,beq_dec]
  bits:=fun a=>by simp [Instr.sameBits,Enc.enc]
  plain:=fun t h=>by cases t <;> simp_all
instance:MKey ByteArray where
  kind:=fun t=>match t with | .string=>true | _=>false
  same:=fun t a b h=>by cases t <;> simp at h <;> simp [Instr.sameNow,Enc.enc]; exact beqB_dec a b
  bits:=fun a=>by simp [Instr.sameBits,Enc.enc,beqB_dec]
  plain:=fun t h=>by cases t <;> simp_all
section
variable {κ ν:Type} [Enc κ] [Enc ν]
def mapEs (D:List (κ × ν)) (i:Nat):List MapEntry:=(D.zipIdx i).map fun (e,i)=>({ key:=Enc.enc e.1,val:=Enc.enc e.2,born:=i }:MapEntry)
theorem mapEs_cons (e:κ × ν) (D:List (κ × ν)) (i:Nat):mapEs (e :: D) i = { key:=Enc.enc e.1,val:=Enc.enc e.2,born:=i } :: mapEs D (i + 1):=by simp [mapEs,List.zipIdx_cons]
theorem mapO_es (D:List (κ × ν)):mapO D = .map (mapEs D 0).toArray D.length:=rfl
theorem mapEs_set (D:List (κ × ν)):∀ (i m:Nat) (_h:m < D.length) (k:κ) (v:ν),mapEs (D.set m (k,v)) i = (mapEs D i).modify m fun e=>{ e with key:=Enc.enc k,val:=Enc.enc v }:=by
  induction D with
  | nil=>intro i m h; simp at h
  | cons e D ih=>
    intro i m h k v
    cases m with
    | zero=>rw [List.set_cons_zero,mapEs_cons,mapEs_cons]; rfl
    | succ m=>rw [List.set_cons_succ,mapEs_cons,mapEs_cons,ih (i + 1) m (by simpa using h) k v]; rfl
theorem mapEs_append (D:List (κ × ν)):∀ (i:Nat) (e:κ × ν),mapEs (D ++ [e]) i = mapEs D i ++ [{ key:=Enc.enc e.1,val:=Enc.enc e.2,born:=i + D.length }]:=by
  induction D with
  | nil=>intro i e; rfl
  | cons x D ih=>intro i e; rw [List.cons_append,mapEs_cons,mapEs_cons,ih]; simp [Nat.add_assoc,Nat.add_comm 1]
theorem mapEs_at (D:List (κ × ν)):∀ (i m:Nat),(mapEs D i)[m]? = (D[m]?).map fun e=>{ key:=Enc.enc e.1,val:=Enc.enc e.2,born:=i + m }:=by
  induction D with
  | nil=>intro i m; rfl
  | cons x D ih=>
    intro i m
    rw [mapEs_cons]
    cases m with
    | zero=>rfl
    | succ m=>simp only [List.getElem?_cons_succ]; rw [ih]; simp [Nat.add_assoc,Nat.add_comm 1]
end
section
variable {κ ν:Type} [DecidableEq κ]
def mfind (D:List (κ × ν)) (k:κ) (j:Nat):Option (Nat × ν):=match D with
  | []=>none
  | e :: D=>if k = e.1 then some (j,e.2) else mfind D k (j + 1)
theorem mget_mfind (k:κ):∀ (D:List (κ × ν)) (j:Nat),mget D k = (mfind D k j).map (·.2)
  | [],_=>rfl
  | e :: D,j=>by
    rw [mget,mfind]
    split
    · rfl
    · exact mget_mfind k D (j + 1)
theorem mfind_some {D:List (κ × ν)} {k:κ}:∀ {j m:Nat} {b:ν},mfind D k j = some (m,b) -> j <= m/\m - j < D.length/\∀ v,mset D k v = D.set (m - j) (k,v)/\(D[m - j]?).map (·.1) = some k:=by
  induction D with
  | nil=>intro j m b h; cases h
  | cons e D ih=>
    intro j m b h
    rw [mfind] at h
    split at h
    · rename_i he
      cases h
      refine ⟨Nat.le_refl _,by simp,fun v=>?_⟩
      rw [mset,if_pos he,Nat.sub_self]
      exact ⟨rfl,by simp [he]⟩
    · rename_i he
      obtain ⟨h1,h2,h3⟩:=ih h
      refine ⟨by omega,by rw [List.length_cons]; omega,fun v=>?_⟩
      obtain ⟨h4,h5⟩:=h3 v
      rw [mset,if_neg he,h4,show m - j = (m - (j + 1)) + 1 by omega]
      exact ⟨rfl,by simpa using h5⟩
theorem mfind_none {k:κ}:∀ {D:List (κ × ν)} {j:Nat},mfind D k j = none -> ∀ v,mset D k v = D ++ [(k,v)]
  | [],_,_,_=>rfl
  | e :: D,j,h,v=>by
    rw [mfind] at h
    split at h
    · cases h
    · rename_i he
      rw [mset,if_neg he,mfind_none h v]; rfl
end
section
variable {κ ν:Type} [Enc κ] [Enc ν] [DecidableEq κ] [MKey κ]
theorem findNow_mapEs {kd:TypeDesc} (hk:MKey.kind κ kd = true) (k:κ):∀ (D:List (κ × ν)) (i j:Nat),Instr.findNow kd (Enc.enc k) (mapEs D i) j = some ((mfind D k j).map fun (a,b)=>(a,Enc.enc b))
  | [],_,_=>rfl
  | e :: D,i,j=>by
    rw [mapEs_cons,Instr.findNow,MKey.same kd k e.1 hk,mfind]
    by_cases h:k = e.1
    · rw [decide_eq_true h,if_pos h]; rfl
    · rw [decide_eq_false h,if_neg h]; exact findNow_mapEs hk k D (i + 1) (j + 1)
theorem run_findKey {P:Program} {t:TypeId} {kd:TypeDesc} (ht:P.underlying t = some kd) (hk:MKey.kind κ kd = true) (k:κ) (D:List (κ × ν)) (w:World):(Instr.findKey t (Enc.enc k) (mapEs D 0)).run P w = .ok ((mfind D k 0).map fun (a,b)=>(a,Enc.enc b)) w:=by
  simp [Instr.findKey,Sem.run_bind,run_underlying ht,findNow_mapEs hk]
theorem run_checkKey {P:Program} {t:TypeId} {kd:TypeDesc} (q:Bool) (ht:P.underlying t = some kd) (hk:MKey.kind κ kd = true) (v:Value) (w:World):(Instr.checkKey q 10000 t v).run P w = .ok () w:=by
  obtain ⟨h1,h2,h3⟩:=MKey.plain (κ:=κ) kd hk
  rw [show (10000:Nat) = 9999 + 1 from rfl,Instr.checkKey,Sem.run_bind,run_underlying ht]
  cases kd <;> simp_all
theorem run_mapUpdate {P:Program} {t kt et:TypeId} {kd:TypeDesc} (hm:P.underlying t = some (.map kt et)) (ht:P.underlying kt = some kd) (hk:MKey.kind κ kd = true) {bk:Nat} {D:List (κ × ν)} {w:World} (hb:w.heap[bk]? = some (mapO D)) (k:κ) (v:ν) :
    (Instr.mapUpdate t (.map (some bk)) (Enc.enc k) (Enc.enc v)).run P w = .ok () (w.putObj bk (mapO (mset D k v))):=by
  have hget:(getObj bk).run P w = .ok (mapO D) w:=by simp [getObj,Sem.run,hb,mapO]
  have hset:∀ o,(setObj bk o).run P w = .ok () (w.putObj bk o):=fun o=>by simp [setObj,Sem.run,hb,mapO,World.putObj]
  simp only [Instr.mapUpdate,Sem.run_bind,run_underlying hm,Result.andThen_ok,hget,mapO_es,run_checkKey (κ:=κ) false ht hk,run_findKey ht hk]
  cases hf:mfind D k 0 with
  | none=>
    simp only [Option.map_none]
    rw [mfind_none hf v,mapEs_append,hset]
    simp
  | some r=>
    obtain ⟨m,u⟩:=r
    obtain ⟨_,h2,h3⟩:=mfind_some hf
    obtain ⟨h4,h5⟩:=h3 v
    rw [Nat.sub_zero] at h2 h4 h5
    have hkey:((mapEs D 0).toArray[m]?).map (·.key) = some (Enc.enc k):=by
      rw [List.getElem?_toArray,mapEs_at]
      cases hd:D[m]? with
      | none=>rw [hd] at h5; cases h5
      | some e=>rw [hd] at h5; simp at h5; simp [h5]
    simp only [Option.map_some,hkey,Option.getD_some,Instr.keyThatStays,MKey.bits k,if_true,Sem.run_bind,Sem.run_pure,Result.andThen_ok]
    rw [h4,mapEs_set D 0 m h2 k v,hset]
    simp [List.modify_toArray]
theorem Acts.mapUpdate {t kt et:TypeId} {kd:TypeDesc} {xm xk xv:Operand} {bk:Nat} {D:List (κ × ν)} {kv:κ} {vv:ν} {dd:Option Tmp} (s:St w0 w O) (u:Upd O (.obj bk (mapO D)) (.obj bk (mapO (mset D kv vv))) O') (hm:P.underlying t = some (.map kt et)) (ht:P.underlying kt = some kd) (hk:MKey.kind κ kd = true)
    (h1:ev σ xm = some (.map (some bk))) (h2:ev σ xk = some (Enc.enc kv)) (h3:ev σ xv = some (Enc.enc vv)):Acts P ⟨dd,.mapUpdate t xm xk xv,ty,ps,af,g⟩ σ w (Now w0 w O O'):=fun ρ ha w' hw=>by
  refine ⟨w'.putObj bk (mapO (mset D kv vv)),?_,upd_put s u hw⟩
  simp only [execOp,ha _ _ h1,ha _ _ h2,ha _ _ h3,Sem.run_bind,run_mapUpdate hm ht hk (blk_keep0 hw (s.get u)) kv vv,Result.andThen_ok]; rfl
theorem FV.lookup {t kt et:TypeId} {kd:TypeDesc} {xm xk:Operand} {dd:Option Tmp} {bk:Nat} {D:List (κ × ν)} {kv:κ} {z:ν} (s:St w0 w O) (u:At O (.obj bk (mapO D))) (hm:P.underlying t = some (.map kt et)) (ht:P.underlying kt = some kd) (hk:MKey.kind κ kd = true)
    (hz:(P.info? et).bind (·.zero) = some (Enc.enc z)) (h1:ev σ xm = some (.map (some bk))) (h2:ev σ xk = some (Enc.enc kv)):FV P ⟨dd,.lookup t xm xk false,ty,ps,af,g⟩ σ w (Enc.enc (mgetD D kv z)):=by
  intro ρ ha w' hw
  have hb:=blk_keep0 hw (s.get u.upd)
  have hget:(getObj bk).run P w' = .ok (mapO D) w' :=by simp [getObj,Sem.run,hb,mapO]
  have hzero:(zeroValue et).run P w' = .ok (Enc.enc z) w' :=by
    cases hi:P.info? et with
    | none=>rw [hi] at hz; cases hz
    | some i=>rw [hi] at hz; simp at hz; simp [zeroValue,typeInfo,hi,hz]
  simp only [execOp,ha _ _ h1,ha _ _ h2,Instr.lookup,Sem.run_bind,run_underlying hm,Result.andThen_ok,hget,mapO_es,Sem.run_pure,run_checkKey (κ:=κ) _ ht hk,run_findKey ht hk]
  unfold mgetD
  rw [mget_mfind kv D 0]
  cases hf:mfind D kv 0 with
  | none=>simp [hzero]
  | some r=>obtain ⟨m,u'⟩:=r; simp
end
section
variable {κ ν:Type} [Enc κ] [Enc ν]
theorem Does.makeMap {t:TypeId} {dd:Option Tmp} (s:St w0 w O):Does P ⟨dd,.makeMap t none,ty,ps,af,g⟩ σ w (New w0 w O (fun bk=>.obj bk (mapO ([]:List (κ × ν)))) (fun bk=>.map (some bk))):=fun ρ ha w' hw=>by
  refine ⟨.map (some w'.heap.size),w'.alloc (.map #[] 0),by simp [execOp,Instr.makeMap],agree_new _ _ _,?_⟩
  have hag:=hw.trans (agree_new w' (.map #[] 0) [])
  have hb:∀ b', (Ob.obj w'.heap.size (mapO ([]:List (κ × ν)))).block = some b' -> w.heap.size <= b' :=fun b' e=>by cases e; exact hw.size
  exact ⟨_,rfl,s.push hag (heap_alloc_new w' _) hb,Tr.push hag hb⟩
end
end
end Go.Proofs.YtgejkdheojkfiaaGreatDoor
