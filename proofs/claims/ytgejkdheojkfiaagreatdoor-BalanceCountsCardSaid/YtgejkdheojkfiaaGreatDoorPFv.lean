/- Operations that yield a value and leave the world as it is: one law for each. What is known of the slots is a list. No program in sight. -/
import Derived.Test.YtgejkdheojkfiaaGreatDoorPOb
import Derived.Laws.BitsAllLaws
import Derived.Deep.Quiet
namespace Go.Proofs.YtgejkdheojkfiaaGreatDoor
open Go Go.RowKit
def look:List (Nat × Value) -> Nat -> Option Value
  | [],_=>none
  | (t,v) :: σ,s=>match Nat.beq t s with
    | true=>some v
    | false=>look σ s
structure Fr (n:Nat) (ds:List Deferred) (σ:List (Nat × Value)) (a:Act):Prop where
  size:a.tmps.size = n
  defers:a.defers = ds
  get:∀ s v,look σ s = some v -> a.tmps[s]? = some v
theorem Fr.put {n:Nat} {ds:List Deferred} {σ:List (Nat × Value)} {a:Act} (h:Fr n ds σ a) (d:Nat) (v:Value) (hd:Nat.blt d n = true):Fr n ds ((d,v) :: σ) (a.put (some d) v):=by
  have hd:d < n:=by simpa [Nat.blt_eq] using hd
  refine ⟨by simp [Act.put,h.size],h.defers,fun s u hs=>?_⟩
  simp only [look] at hs
  cases hb:Nat.beq d s
  · rw [hb] at hs
    have hne:d ≠ s:=by intro e; subst e; simp at hb
    simp only [Act.put]
    rw [Array.getElem?_setIfInBounds_ne hne]
    exact h.get s u hs
  · rw [hb] at hs
    have he:d = s:=Nat.eq_of_beq_eq_true hb
    subst he
    injection hs with hs
    subst hs
    simp [Act.put,h.size,hd]
theorem Fr.sub {n:Nat} {ds:List Deferred} {σ τ:List (Nat × Value)} {a:Act} (h:Fr n ds σ a) (hs:∀ s v,look τ s = some v -> look σ s = some v):Fr n ds τ a:=⟨h.size,h.defers,fun s v hv=>h.get s v (hs s v hv)⟩
def Sub (σ:List (Nat × Value)):List (Nat × Value) -> Prop
  | []=>True
  | (s,v) :: τ=>look σ s = some v/\Sub σ τ
theorem Sub.look {σ:List (Nat × Value)}:∀ {τ:List (Nat × Value)},Sub σ τ -> ∀ s v,look τ s = some v -> look σ s = some v
  | [],_,s,v,h=>by cases h
  | (t,u) :: τ,⟨h1,h2⟩,s,v,h=>by
    simp only [Proofs.YtgejkdheojkfiaaGreatDoor.look] at h
    cases hb:Nat.beq t s
    · rw [hb] at h; exact Sub.look h2 s v h
    · rw [hb] at h
      injection h with h
      subst h
      rw [<- Nat.eq_of_beq_eq_true hb]; exact h1
def ev (σ:List (Nat × Value)):Operand -> Option Value
  | .tmp t=>look σ t
  | .const v=>some v
  | .global g=>some (.pointer (some ⟨g,0,none⟩))
  | .func f=>some (.func (.func f) #[] #[])
theorem Fr.ev {n:Nat} {ds:List Deferred} {σ:List (Nat × Value)} {a:Act} (h:Fr n ds σ a) {x:Operand} {v:Value} (hx:ev σ x = some v):a.eval x = v:=by
  cases x with
  | tmp t=>
    have:=h.get t v hx
    simp [Act.eval,Array.getD_eq_getD_getElem?,this]
  | const u=>simpa [Proofs.YtgejkdheojkfiaaGreatDoor.ev,Act.eval] using hx
  | global g=>simpa [Proofs.YtgejkdheojkfiaaGreatDoor.ev,Act.eval] using hx
  | func f=>simpa [Proofs.YtgejkdheojkfiaaGreatDoor.ev,Act.eval] using hx
def FV (P:Program) (o:Oper) (σ:List (Nat × Value)) (w:World) (v:Value):Prop:=
  ∀ ρ:Operand -> Value,(∀ x u,ev σ x = some u -> ρ x = u) -> ∀ w', Agree [] w w' -> (execOp ρ o).run P w' = .ok (.value v) w'
section
variable {P:Program} {o:Oper} {σ:List (Nat × Value)} {w:World}
theorem FV.move {x:Operand} {v:Value} (hx:ev σ x = some v) {d:Option Tmp} {ty:TypeId} {ps:String} {af:Array Edge} {g:Option (Nat × Bool)}:FV P ⟨d,.move x,ty,ps,af,g⟩ σ w v:=
  fun ρ ha w' _=>by simp [execOp,ha _ _ hx]
theorem FV.assign {x:Operand} {v:Value} (hx:ev σ x = some v) {d:Option Tmp} {ty:TypeId} {ps:String} {af:Array Edge} {g:Option (Nat × Bool)}:FV P ⟨d,.assign x,ty,ps,af,g⟩ σ w v:=
  fun ρ ha w' _=>by simp [execOp,ha _ _ hx]
theorem FV.pick_t {c x y:Operand} {v:Value} (hc:ev σ c = some (.bool true)) (hx:ev σ x = some v) {d:Option Tmp} {ty:TypeId} {ps:String} {af:Array Edge} {g:Option (Nat × Bool)}:FV P ⟨d,.pick c x y,ty,ps,af,g⟩ σ w v:=
  fun ρ ha w' _=>by simp [execOp,ha _ _ hc,ha _ _ hx,asBool]
theorem FV.pick_f {c x y:Operand} {v:Value} (hc:ev σ c = some (.bool false)) (hy:ev σ y = some v) {d:Option Tmp} {ty:TypeId} {ps:String} {af:Array Edge} {g:Option (Nat × Bool)}:FV P ⟨d,.pick c x y,ty,ps,af,g⟩ σ w v:=
  fun ρ ha w' _=>by simp [execOp,ha _ _ hc,ha _ _ hy,asBool]
theorem FV.len_slice {x:Operand} {t e:TypeId} {A:Option Addr} {m c:Nat} (ht:P.underlying t = some (.slice e)) (hx:ev σ x = some (.slice A m c)) {d:Option Tmp} {ty:TypeId} {ps:String} {af:Array Edge} {g:Option (Nat × Bool)} :
    FV P ⟨d,.call { callee:=.builtin .len,args:=#[x],argTypes:=#[t] },ty,ps,af,g⟩ σ w (.int .i64 m):=
  fun ρ ha w' _=>by simp [execOp,resolve,invoke,builtin,ha _ _ hx,Builtin.len_,run_underlying ht,goInt]
theorem FV.len_string {x:Operand} {t:TypeId} {s:ByteArray} (ht:P.underlying t = some .string) (hx:ev σ x = some (.string s)) {d:Option Tmp} {ty:TypeId} {ps:String} {af:Array Edge} {g:Option (Nat × Bool)} :
    FV P ⟨d,.call { callee:=.builtin .len,args:=#[x],argTypes:=#[t] },ty,ps,af,g⟩ σ w (.int .i64 s.size):=
  fun ρ ha w' _=>by simp [execOp,resolve,invoke,builtin,ha _ _ hx,Builtin.len_,run_underlying ht,goInt]
theorem FV.not {x:Operand} {b:Bool} (hx:ev σ x = some (.bool b)) {d:Option Tmp} {t ty:TypeId} {ps:String} {af:Array Edge} {g:Option (Nat × Bool)}:FV P ⟨d,.unOp .not t x,ty,ps,af,g⟩ σ w (.bool (!b)):=
  fun ρ ha w' _=>by simp [execOp,ha _ _ hx,go_sem]
end
section
variable {P:Program} {σ:List (Nat × Value)} {w:World} {k:IntKind} {x y:Operand} {i j r:Int} {d:Option Tmp} {t t' ty:TypeId} {ps:String} {af:Array Edge} {g:Option (Nat × Bool)} (hx:ev σ x = some (.int k i)) (hy:ev σ y = some (.int k j))
include hx hy
theorem FV.lss:FV P ⟨d,.binOp .lss t x y t', ty,ps,af,g⟩ σ w (.bool (decide (i < j))):=fun ρ ha w' _=>by simp [execOp,ha _ _ hx,ha _ _ hy,go_sem]
theorem FV.leq:FV P ⟨d,.binOp .leq t x y t', ty,ps,af,g⟩ σ w (.bool (decide (i <= j))):=fun ρ ha w' _=>by simp [execOp,ha _ _ hx,ha _ _ hy,go_sem]
theorem FV.gtr:FV P ⟨d,.binOp .gtr t x y t', ty,ps,af,g⟩ σ w (.bool (decide (j < i))):=fun ρ ha w' _=>by simp [execOp,ha _ _ hx,ha _ _ hy,go_sem]
theorem FV.geq:FV P ⟨d,.binOp .geq t x y t', ty,ps,af,g⟩ σ w (.bool (decide (j <= i))):=fun ρ ha w' _=>by simp [execOp,ha _ _ hx,ha _ _ hy,go_sem]
theorem FV.add (hr:k.wrap (i + j) = r):FV P ⟨d,.binOp .add t x y t', ty,ps,af,g⟩ σ w (.int k r):=fun ρ ha w' _=>by subst hr; simp [execOp,ha _ _ hx,ha _ _ hy,go_sem]
theorem FV.sub (hr:k.wrap (i - j) = r):FV P ⟨d,.binOp .sub t x y t', ty,ps,af,g⟩ σ w (.int k r):=fun ρ ha w' _=>by subst hr; simp [execOp,ha _ _ hx,ha _ _ hy,go_sem]
theorem FV.mul (hr:k.wrap (i * j) = r):FV P ⟨d,.binOp .mul t x y t', ty,ps,af,g⟩ σ w (.int k r):=fun ρ ha w' _=>by subst hr; simp [execOp,ha _ _ hx,ha _ _ hy,go_sem]
end
section
variable {P:Program} {σ:List (Nat × Value)} {w:World} {x y:Operand} {d:Option Tmp} {t t' ty:TypeId} {ps:String} {af:Array Edge} {g:Option (Nat × Bool)}
theorem beq_dec (i j:Int):(i == j) = decide (i = j):=by by_cases h:i = j <;> simp [h]
theorem beqS_dec (i j:ByteArray):(i.toList == j.toList) = decide (i = j):=by
  by_cases h:i = j
  · simp [h]
  · rw [decide_eq_false h,beq_eq_false_iff_ne]
    exact fun e=>h (Go.WideShapes.bytes_inj (by rw [<- ByteArray.toList_eq,<- ByteArray.toList_eq,e]))
theorem FV.eql {k:IntKind} {i j:Int} (hx:ev σ x = some (.int k i)) (hy:ev σ y = some (.int k j)):FV P ⟨d,.binOp .eql t x y t', ty,ps,af,g⟩ σ w (.bool (decide (i = j))):=
  fun ρ ha w' _=>by simp [execOp,ha _ _ hx,ha _ _ hy,go_sem]; exact beq_dec i j
theorem FV.neq {k:IntKind} {i j:Int} (hx:ev σ x = some (.int k i)) (hy:ev σ y = some (.int k j)):FV P ⟨d,.binOp .neq t x y t', ty,ps,af,g⟩ σ w (.bool (!decide (i = j))):=
  fun ρ ha w' _=>by simp [execOp,ha _ _ hx,ha _ _ hy,go_sem]; exact congrArg (!·) (beq_dec i j)
theorem FV.eqlS {i j:ByteArray} (hx:ev σ x = some (.string i)) (hy:ev σ y = some (.string j)):FV P ⟨d,.binOp .eql t x y t', ty,ps,af,g⟩ σ w (.bool (decide (i = j))):=
  fun ρ ha w' _=>by simp [execOp,ha _ _ hx,ha _ _ hy,go_sem]; exact beqS_dec i j
theorem FV.neqS {i j:ByteArray} (hx:ev σ x = some (.string i)) (hy:ev σ y = some (.string j)):FV P ⟨d,.binOp .neq t x y t', ty,ps,af,g⟩ σ w (.bool (!decide (i = j))):=
  fun ρ ha w' _=>by simp [execOp,ha _ _ hx,ha _ _ hy,go_sem]; exact beqS_dec i j
def fieldB (P:Program) (s f off:Nat):Bool:=match P.underlying s with
  | some (.struct fs)=>match fs[f]? with
    | some fd=>fd.offset == off && (match P.info? fd.type with
      | some i=>i.size != 0
      | none=>false)
    | none=>false
  | _=>false
def oneB (P:Program) (t:TypeId):Bool:=match P.underlying t with
  | some (.struct _)=>false
  | some (.array _ _)=>false
  | some _=>true
  | none=>false
def aggB (P:Program) (t:TypeId) (m:Nat):Bool:=(match P.underlying t with
  | some (.struct _)=>true
  | some (.array _ _)=>true
  | _=>false) && (match P.info? t with
  | some i=>i.size == m
  | none=>false)
def elemB (P:Program) (t m:Nat):Bool:=match P.underlying t with
  | some (.slice e)=>(match P.info? e with
    | some i=>i.size == m
    | none=>false)
  | _=>false
def arrB (P:Program) (t len m:Nat):Bool:=match P.underlying t with
  | some (.array l e)=>l == len && (match P.info? e with
    | some i=>i.size == m
    | none=>false)
  | _=>false
theorem FV.fieldAddr {f off:Nat} (hf:fieldB P t f off = true) {p:Addr} (hx:ev σ x = some (.pointer (some p))):FV P ⟨d,.fieldAddr t x f,ty,ps,af,g⟩ σ w (.pointer (some (p.add off))):=by
  refine fun ρ ha w' _=>?_
  unfold fieldB at hf
  split at hf
  · rename_i fs hu
    split at hf
    · rename_i fd hfd
      split at hf
      · rename_i i hi
        simp at hf
        simp [execOp,ha _ _ hx,Instr.fieldAt,run_underlying hu,hfd,Instr.sureAddr,fieldPlace,sizeOf,typeInfo,hi,hf.1,hf.2]
      · simp at hf
    · cases hf
  · cases hf
theorem FV.load1 (ht:oneB P t = true) {p:Addr} {v:Value} (hx:ev σ x = some (.pointer (some p))) (hc:w.cell? p = some v):FV P ⟨d,.load t x,ty,ps,af,g⟩ σ w v:=by
  refine fun ρ ha w' hw=>?_
  have hc' :=hw.cell (p:=p) (by simp) hc
  unfold oneB at ht
  split at ht
  · cases ht
  · cases ht
  · rename_i u hu1 hu2 hu
    have hagg:(isAgg t).run P w' = .ok false w' :=by
      unfold isAgg
      rw [Sem.run_bind,run_underlying hu w']
      cases u <;> simp_all
    simp [execOp,ha _ _ hx,Instr.loadAt,Instr.sureAddr,loadVar,hagg,hc']
  · cases ht
theorem FV.loadN {cs:List Value} (ht:aggB P t cs.length = true) {p:Addr} (hx:ev σ x = some (.pointer (some p))) (hc:∀ j v,cs[j]? = some v -> w.cell? (p.add j) = some v):FV P ⟨d,.load t x,ty,ps,af,g⟩ σ w (.agg cs.toArray):=by
  refine fun ρ ha w' hw=>?_
  have hl:(loadCells p cs.length).run P w' = .ok cs.toArray w' :=
    run_loadCells_list (P:=P) w' p cs fun j v hv=>hw.cell (by simp) (hc j v hv)
  unfold aggB at ht
  rw [Bool.and_eq_true] at ht
  obtain ⟨h1,h2⟩:=ht
  have hagg:(isAgg t).run P w' = .ok true w' :=by
    unfold isAgg
    split at h1
    · rename_i fs hu; rw [Sem.run_bind,run_underlying hu w']; simp
    · rename_i l e hu; rw [Sem.run_bind,run_underlying hu w']; simp
    · cases h1
  split at h2
  · rename_i i hi
    have hs:i.size = cs.length:=by simpa using h2
    simp [execOp,ha _ _ hx,Instr.loadAt,Instr.sureAddr,loadVar,hagg,sizeOf,typeInfo,hi,hs,hl]
  · cases h2
theorem FV.indexAddr {m len c k:Nat} {kd:IntKind} {i:Int} {A:Option Addr} {p:Addr} (ht:elemB P t m = true) (hx:ev σ x = some (.slice A len c)) (hy:ev σ y = some (.int kd i)) (hA:A = some p) (hi:i = (k:Int)) (hk:k < len) :
    FV P ⟨d,.indexAddr t x y,ty,ps,af,g⟩ σ w (.pointer (some (p.add (k * m)))):=by
  refine fun ρ ha w' _=>?_
  subst hA hi
  unfold elemB at ht
  split at ht
  · rename_i e hu
    split at ht
    · rename_i j hj
      have hs:j.size = m:=by simpa using ht
      simp [execOp,ha _ _ hx,ha _ _ hy,Instr.indexAt,asIntOf,run_underlying hu,sizeOf,typeInfo,hj,hs,hk]
    · cases ht
  · cases ht
theorem FV.indexArr {m len k:Nat} {kd:IntKind} {i:Int} {p:Addr} (ht:arrB P t len m = true) (hx:ev σ x = some (.pointer (some p))) (hy:ev σ y = some (.int kd i)) (hi:i = (k:Int)) (hk:k < len) :
    FV P ⟨d,.indexAddr t x y,ty,ps,af,g⟩ σ w (.pointer (some (p.add (k * m)))):=by
  refine fun ρ ha w' _=>?_
  subst hi
  unfold arrB at ht
  split at ht
  · rename_i l e hu
    rw [Bool.and_eq_true] at ht
    obtain ⟨h1,h2⟩:=ht
    have hl:l = len:=by simpa using h1
    subst hl
    split at h2
    · rename_i j hj
      have hs:j.size = m:=by simpa using h2
      simp [execOp,ha _ _ hx,ha _ _ hy,Instr.indexAt,Instr.sureAddr,asIntOf,run_underlying hu,sizeOf,typeInfo,hj,hs,hk]
    · cases h2
  · cases ht
theorem FV.indexS {kd:IntKind} {s:ByteArray} {i:Int} {k:Nat} (ht:P.underlying t = some .string) (hx:ev σ x = some (.string s)) (hy:ev σ y = some (.int kd i)) (hi:i = (k:Int)) (hk:k < s.size) :
    FV P ⟨d,.index t x y,ty,ps,af,g⟩ σ w (.int .u8 ((s[k]'hk).toNat:Int)):=by
  refine fun ρ ha w' _=>?_
  subst hi
  simp [execOp,ha _ _ hx,ha _ _ hy,go_sem,ht,hk]
theorem FV.extract {k:Nat} {vs:Array Value} {v:Value} (hx:ev σ x = some (.tuple vs)) (hv:vs[k]? = some v):FV P ⟨d,.extract x k,ty,ps,af,g⟩ σ w v:=
  fun ρ ha w' _=>by simp [execOp,ha _ _ hx,Instr.extract,hv]
end
section
variable {P:Program} {σ:List (Nat × Value)} {w:World} {k:IntKind} {x y:Operand} {i j:Nat} {d:Option Tmp} {t t' ty:TypeId} {ps:String} {af:Array Edge} {g:Option (Nat × Bool)} (hx:ev σ x = some (.int k ((i:Nat):Int))) (hy:ev σ y = some (.int k ((j:Nat):Int)))
include hx hy
theorem FV.lssN:FV P ⟨d,.binOp .lss t x y t', ty,ps,af,g⟩ σ w (.bool (decide (i < j))):=by rw [<- show decide ((i:Int) < j) = decide (i < j) from decide_eq_decide.2 (by omega)]; exact FV.lss hx hy
theorem FV.leqN:FV P ⟨d,.binOp .leq t x y t', ty,ps,af,g⟩ σ w (.bool (decide (i <= j))):=by rw [<- show decide ((i:Int) <= j) = decide (i <= j) from decide_eq_decide.2 (by omega)]; exact FV.leq hx hy
theorem FV.gtrN:FV P ⟨d,.binOp .gtr t x y t', ty,ps,af,g⟩ σ w (.bool (decide (j < i))):=by rw [<- show decide ((j:Int) < i) = decide (j < i) from decide_eq_decide.2 (by omega)]; exact FV.gtr hx hy
theorem FV.geqN:FV P ⟨d,.binOp .geq t x y t', ty,ps,af,g⟩ σ w (.bool (decide (j <= i))):=by rw [<- show decide ((j:Int) <= i) = decide (j <= i) from decide_eq_decide.2 (by omega)]; exact FV.geq hx hy
theorem FV.eqlN:FV P ⟨d,.binOp .eql t x y t', ty,ps,af,g⟩ σ w (.bool (decide (i = j))):=by rw [<- show decide ((i:Int) = j) = decide (i = j) from decide_eq_decide.2 (by omega)]; exact FV.eql hx hy
theorem FV.neqN:FV P ⟨d,.binOp .neq t x y t', ty,ps,af,g⟩ σ w (.bool (!decide (i = j))):=by rw [<- show decide ((i:Int) = j) = decide (i = j) from decide_eq_decide.2 (by omega)]; exact FV.neq hx hy
end
theorem FV.addN {P:Program} {σ:List (Nat × Value)} {w:World} {x y:Operand} {i j:Nat} {d:Option Tmp} {t t' ty:TypeId} {ps:String} {af:Array Edge} {g:Option (Nat × Bool)}
    (hx:ev σ x = some (.int .i64 ((i:Nat):Int))) (hy:ev σ y = some (.int .i64 ((j:Nat):Int))) (h:i + j <= 9223372036854775807):FV P ⟨d,.binOp .add t x y t', ty,ps,af,g⟩ σ w (.int .i64 ((i + j:Nat):Int)):=
  FV.add hx hy (by rw [IntWalk.i64_in _ (by omega)]; rfl)
end Go.Proofs.YtgejkdheojkfiaaGreatDoor
