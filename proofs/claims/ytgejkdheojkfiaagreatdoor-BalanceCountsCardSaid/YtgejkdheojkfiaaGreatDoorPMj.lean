/- Laws of the walk, more of them: fields and elements of values, small integers, elements of the call's own rows, functions without a body. No program in sight. -/
import Derived.Test.YtgejkdheojkfiaaGreatDoorPMp
namespace Go.Proofs.YtgejkdheojkfiaaGreatDoor
open Go Go.RowKit
instance:Rep Int16:=Rep.plain (fun x=>.int .i16 x.toInt) (fun _=>rfl)
def u8ofI (x:Int):UInt8:=UInt8.ofNat (x % 256).toNat
def sidx (s:ByteArray) (i:Int):Option UInt8:=if 0 <= i then s.data[i.toNat]? else none
theorem sidx_in {s:ByteArray} {i:Int} {z:UInt8} (h:sidx s i = some z):i = (i.toNat:Int)/\s.data[i.toNat]? = some z:=by
  unfold sidx at h
  split at h
  · exact ⟨by omega,h⟩
  · cases h
theorem wrap_u8 (x:Int):IntKind.u8.wrap x = ((u8ofI x).toNat:Int):=by
  unfold u8ofI
  have h:(x % 256).toNat < 256:=by omega
  rw [UInt8.toNat_ofNat_of_lt' (by simp [UInt8.size]; omega)]
  simp only [IntKind.wrap,IntKind.bits,IntKind.signed]
  simp
  omega
theorem arr_get0 {α:Type} (f:α -> Value) {xs:List α} {i:Nat} {x:α} (h:xs[i]? = some x):(xs.map f)[i * 1]? = some (f x):=by rw [Nat.mul_one,List.getElem?_map,h]; rfl
def add64 (x y c:UInt64):Option (UInt64 × UInt64):=if c.toNat <= 1 then some (UInt64.ofNat ((x.toNat + y.toNat + c.toNat) % 18446744073709551616),UInt64.ofNat ((x.toNat + y.toNat + c.toNat) / 18446744073709551616)) else none
def sub64 (x y b:UInt64):Option (UInt64 × UInt64):=if b.toNat <= 1 then some (UInt64.ofNat ((x.toNat + 18446744073709551616 - y.toNat - b.toNat) % 18446744073709551616),if x.toNat < y.toNat + b.toNat then 1 else 0) else none
section
variable {P:Program} {σ:List (Nat × Value)} {w w0:World} {x y z:Operand} {d:Option Tmp} {t t' s ty e:TypeId} {ps:String} {af:Array Edge} {g:Option (Nat × Bool)} {O O' : List Ob} {v:Value}
theorem FV.convU8 {k1:IntKind} {i:Int} (hs:P.underlying s = some (.int k1)) (ht:P.underlying t = some (.int .u8)) (hx:ev σ x = some (.int k1 i)):FV P ⟨d,.convert s t x,ty,ps,af,g⟩ σ w (.int .u8 ((u8ofI i).toNat:Int)):=FV.conv hs ht hx (wrap_u8 i)
def fldB (P:Program) (t f off m:Nat):Bool:=match P.underlying t with
  | some (.struct fs)=>match fs[f]? with
    | some fd=>fd.offset == off && P.cellsOf fd.type == m && (P.underlying fd.type).isSome
    | none=>false
  | _=>false
def fldT (P:Program) (t f:Nat):TypeId:=match P.underlying t with
  | some (.struct fs)=>match fs[f]? with
    | some fd=>fd.type
    | none=>0
  | _=>0
theorem run_field {f off m:Nat} {cs:Array Value} (h:fldB P t f off m = true) (w' : World):(Instr.field t (.agg cs) f).run P w' = (part (fldT P t f) cs off).run P w' /\P.cellsOf (fldT P t f) = m/\∃ u,P.underlying (fldT P t f) = some u:=by
  unfold fldB at h
  unfold fldT
  split at h
  · rename_i fs hu
    split at h
    · rename_i fd hf
      rw [Bool.and_eq_true,Bool.and_eq_true] at h
      have h1:fd.offset = off:=by simpa using h.1.1
      have h2:P.cellsOf fd.type = m:=by simpa using h.1.2
      refine ⟨?_,h2,Option.isSome_iff_exists.1 h.2⟩
      simp [Instr.field,Sem.run_bind,run_underlying hu,hf,asAgg,h1]
    · cases h
  · cases h
theorem FV.field1 {f off m:Nat} {cs:List Value} (h:fldB P t f off m = true) (h2:aggQ P (fldT P t f) = false) (hx:ev σ x = some (.agg cs.toArray)) (hv:cs[off]? = some v):FV P ⟨d,.field t x f,ty,ps,af,g⟩ σ w v:=fun ρ ha w' _=>by
  obtain ⟨h3,h4,u,hu⟩:=run_field (cs:=cs.toArray) h w'
  have hagg:(isAgg (fldT P t f)).run P w' = .ok false w' :=by
    unfold aggQ at h2
    unfold isAgg
    rw [hu] at h2; rw [Sem.run_bind,run_underlying hu w']; cases u <;> simp_all
  simp only [execOp,ha _ _ hx,Sem.run_bind,h3]
  simp [part,hagg,hv]
def arrT (P:Program) (t:Nat):TypeId:=match P.underlying t with
  | some (.array _ e)=>e
  | _=>0
def arrL (P:Program) (t:Nat):Nat:=match P.underlying t with
  | some (.array n _)=>n
  | _=>0
def idxB (P:Program) (t m:Nat) (q:Bool):Bool:=match P.underlying t with
  | some (.array _ e)=>P.cellsOf e == m && (P.underlying e).isSome && aggQ P e == q
  | _=>false
theorem run_indexA {m k:Nat} {q:Bool} {cs:Array Value} (h:idxB P t m q = true) {kd:IntKind} (hk:k < arrL P t) (w' : World):(Instr.index t (.agg cs) (.int kd (k:Int))).run P w' = (part (arrT P t) cs (k * m)).run P w' /\P.cellsOf (arrT P t) = m/\aggQ P (arrT P t) = q/\∃ u,P.underlying (arrT P t) = some u:=by
  unfold idxB at h
  unfold arrT arrL at *
  split at h
  · rename_i n e hu
    simp only [hu] at hk ⊢
    rw [Bool.and_eq_true,Bool.and_eq_true] at h
    have h1:P.cellsOf e = m:=by simpa using h.1.1
    have h3:aggQ P e = q:=by simpa using h.2
    obtain ⟨u,hu2⟩:=Option.isSome_iff_exists.1 h.1.2
    obtain ⟨i,hi⟩:=info_of_underlying hu2
    refine ⟨?_,h1,h3,u,hu2⟩
    have hlt:(0:Int) <= (k:Int)/\(k:Int) < (n:Int):=by omega
    simp [Instr.index,asIntOf,Sem.run_bind,run_underlying hu,hk,run_sizeOf w' hi,h1]
  · cases h
theorem FV.idx1 {m len k:Nat} {kd:IntKind} {i:Int} {cs:List Value} (h:idxB P t m false = true) (hl:arrL P t = len) (hx:ev σ x = some (.agg cs.toArray)) (hy:ev σ y = some (.int kd i)) (hi:i = (k:Int)) (hk:k < len) (hv:cs[k * m]? = some v):FV P ⟨d,.index t x y,ty,ps,af,g⟩ σ w v:=fun ρ ha w' _=>by
  subst hi
  obtain ⟨h3,h4,h2,u,hu⟩:=run_indexA (cs:=cs.toArray) (kd:=kd) h (by rw [hl]; exact hk) w'
  have hagg:(isAgg (arrT P t)).run P w' = .ok false w' :=by
    unfold aggQ at h2
    unfold isAgg
    rw [hu] at h2; rw [Sem.run_bind,run_underlying hu w']; cases u <;> simp_all
  simp only [execOp,ha _ _ hx,ha _ _ hy,Sem.run_bind,h3]
  simp [part,hagg,hv]
/-! ### Functions without a body -/
theorem run_extern {f : FuncId} {fn : Func} {ex : Array Value → Sem Value} (hfn : P.funcs[f]? = some fn) (hb : fn.body = none) (hn : (fn.name == "runtime.NumGoroutine") = false) (h1 : (Extern.findNext fn).isNone = true) (h2 : Extern.find fn = some ex) {vs : Array Value} {w' : World} {u : Value} (he : (ex vs).run P w' = .ok u w') : (callFunc f vs).run P w' = .ok (.value u) w' := by
  have h1' : Extern.findNext fn = none:=by simpa using h1
  simp only [callFunc,Sem.run_bind,run_program,Result.andThen_ok,hfn,hn,hb,Option.isNone_none,if_true,Bool.false_eq_true,if_false]
  simp [h1', h2,he,mark,Sem.run]
theorem FV.ext3 {f : FuncId} {fn : Func} {ex : Array Value → Sem Value} {a b c u : Value} {ts : Array TypeId} (hfn : P.funcs[f]? = some fn) (hb : fn.body = none) (hn : (fn.name == "runtime.NumGoroutine") = false) (h1 : (Extern.findNext fn).isNone = true) (h2 : Extern.find fn = some ex) (hx : ev σ x = some a) (hy : ev σ y = some b) (hz : ev σ z = some c)
    (he:∀ w', (ex #[a,b,c]).run P w' = .ok u w'):FV P ⟨d,.call { callee:=.value (.func f),args:=#[x,y,z],argTypes:=ts },ty,ps,af,g⟩ σ w u:=fun ρ ha w' _=>by
  have hc:ρ (.func f) = .func (.func f) #[] #[]:=ha _ _ rfl
  have hr:=run_extern (P:=P) (vs:=#[a,b,c]) (w' :=w') hfn hb hn h1 h2 (he w')
  simp [execOp,resolve,hc,ha _ _ hx,ha _ _ hy,ha _ _ hz,Deferred.ofValue,invoke,hr]
def addRow:Array Value -> Sem Value:=(Extern.MathBitsCarry.rows.head!).2
def subRow:Array Value -> Sem Value:=(Extern.MathBitsCarry.rows.tail.head!).2
theorem run_add64 {a b c:UInt64} {r:UInt64 × UInt64} (h:add64 a b c = some r) (w' : World):(addRow #[.int .u64 (a.toNat:Int),.int .u64 (b.toNat:Int),.int .u64 (c.toNat:Int)]).run P w' = .ok (.tuple #[.int .u64 (r.1.toNat:Int),.int .u64 (r.2.toNat:Int)]) w' :=by
  unfold add64 at h
  split at h
  · rename_i hc
    cases h
    have hc' : ¬ c.toNat > 1:=by omega
    have ha:=u64_lt a; have hb:=u64_lt b
    rw [UInt64.toNat_ofNat_of_lt' (by simp only [UInt64.size]; omega),UInt64.toNat_ofNat_of_lt' (by simp only [UInt64.size]; omega)]
    have h3:∀ nm,(Extern.MathBitsCarry.three nm #[.int .u64 (a.toNat:Int),.int .u64 (b.toNat:Int),.int .u64 (c.toNat:Int)]).run P w' = .ok (a.toNat,b.toNat,c.toNat) w' :=fun nm=>by
      show (do
        let c' :=(<- asInt (.int .u64 (c.toNat:Int))).toNat
        if c' > 1 then unsupported (.noEntry ("extern/math/bits." ++ nm ++ ": a carry that is neither 0 nor 1"))
        pure ((<- asInt (.int .u64 (a.toNat:Int))).toNat,(<- asInt (.int .u64 (b.toNat:Int))).toNat,c'):Sem (Nat × Nat × Nat)).run P w' = _
      have hc2:¬ 1 < c.toNat:=hc'
      simp [asInt,asIntOf]
      omega
    show (do let (x, y, c) ← Extern.MathBitsCarry.three "Add64" #[.int .u64 (a.toNat : Int), .int .u64 (b.toNat : Int), .int .u64 (c.toNat : Int)]; pure (Extern.MathBitsCarry.pair ((x + y + c) % Extern.MathBitsCarry.m64) ((x + y + c) / Extern.MathBitsCarry.m64)) : Sem Value).run P w' = _
    rw [Sem.run_bind,h3]
    simp [Extern.MathBitsCarry.pair,Extern.MathBitsCarry.m64]
  · cases h
theorem run_sub64 {a b c:UInt64} {r:UInt64 × UInt64} (h:sub64 a b c = some r) (w' : World):(subRow #[.int .u64 (a.toNat:Int),.int .u64 (b.toNat:Int),.int .u64 (c.toNat:Int)]).run P w' = .ok (.tuple #[.int .u64 (r.1.toNat:Int),.int .u64 (r.2.toNat:Int)]) w' :=by
  unfold sub64 at h
  split at h
  · rename_i hc
    cases h
    have hc' : ¬ c.toNat > 1:=by omega
    have ha:=u64_lt a; have hb:=u64_lt b
    have hi:((if a.toNat < b.toNat + c.toNat then (1:UInt64) else 0).toNat:Int) = if a.toNat < b.toNat + c.toNat then 1 else 0:=by split <;> rfl
    rw [UInt64.toNat_ofNat_of_lt' (by simp only [UInt64.size]; omega),hi]
    have h3:∀ nm,(Extern.MathBitsCarry.three nm #[.int .u64 (a.toNat:Int),.int .u64 (b.toNat:Int),.int .u64 (c.toNat:Int)]).run P w' = .ok (a.toNat,b.toNat,c.toNat) w' :=fun nm=>by
      show (do
        let c' :=(<- asInt (.int .u64 (c.toNat:Int))).toNat
        if c' > 1 then unsupported (.noEntry ("extern/math/bits." ++ nm ++ ": a carry that is neither 0 nor 1"))
        pure ((<- asInt (.int .u64 (a.toNat:Int))).toNat,(<- asInt (.int .u64 (b.toNat:Int))).toNat,c'):Sem (Nat × Nat × Nat)).run P w' = _
      have hc2:¬ 1 < c.toNat:=hc'
      simp [asInt,asIntOf]
      omega
    show (do let (x, y, c) ← Extern.MathBitsCarry.three "Sub64" #[.int .u64 (a.toNat : Int), .int .u64 (b.toNat : Int), .int .u64 (c.toNat : Int)]; pure (Extern.MathBitsCarry.pair ((x + Extern.MathBitsCarry.m64 - y - c) % Extern.MathBitsCarry.m64) (if x < y + c then 1 else 0)) : Sem Value).run P w' = _
    rw [Sem.run_bind,h3]
    simp [Extern.MathBitsCarry.pair,Extern.MathBitsCarry.m64]
    split <;> rfl
  · cases h
theorem FV.add64 {f : FuncId} {fn : Func} {a b c : UInt64} {r : UInt64 × UInt64} {ts : Array TypeId} (hfn : P.funcs[f]? = some fn) (hb : fn.body = none) (hn : (fn.name == "runtime.NumGoroutine") = false) (h1 : (Extern.findNext fn).isNone = true) (h2 : Extern.find fn = some addRow) (hx : ev σ x = some (.int .u64 (a.toNat : Int))) (hy : ev σ y = some (.int .u64 (b.toNat : Int))) (hz : ev σ z = some (.int .u64 (c.toNat : Int)))
    (h:Proofs.YtgejkdheojkfiaaGreatDoor.add64 a b c = some r):FV P ⟨d,.call { callee:=.value (.func f),args:=#[x,y,z],argTypes:=ts },ty,ps,af,g⟩ σ w (.tuple #[.int .u64 (r.1.toNat:Int),.int .u64 (r.2.toNat:Int)]):=FV.ext3 hfn hb hn h1 h2 hx hy hz (run_add64 h)
theorem FV.sub64 {f : FuncId} {fn : Func} {a b c : UInt64} {r : UInt64 × UInt64} {ts : Array TypeId} (hfn : P.funcs[f]? = some fn) (hb : fn.body = none) (hn : (fn.name == "runtime.NumGoroutine") = false) (h1 : (Extern.findNext fn).isNone = true) (h2 : Extern.find fn = some subRow) (hx : ev σ x = some (.int .u64 (a.toNat : Int))) (hy : ev σ y = some (.int .u64 (b.toNat : Int))) (hz : ev σ z = some (.int .u64 (c.toNat : Int)))
    (h:Proofs.YtgejkdheojkfiaaGreatDoor.sub64 a b c = some r):FV P ⟨d,.call { callee:=.value (.func f),args:=#[x,y,z],argTypes:=ts },ty,ps,af,g⟩ σ w (.tuple #[.int .u64 (r.1.toNat:Int),.int .u64 (r.2.toNat:Int)]):=FV.ext3 hfn hb hn h1 h2 hx hy hz (run_sub64 h)
end
/-! ### Elements of the call's own rows -/
section
variable {α:Type} [Rep α] {P:Program} {σ:List (Nat × Value)} {w w0:World} {x y:Operand} {t ty:TypeId} {ps:String} {af:Array Edge} {g:Option (Nat × Bool)} {O O' : List Ob} {v:Value} {base:Nat} {e:TypeId} {cs:List Value} {xs ys:List α} {L:List Nat} {dd:Option Tmp}
theorem addr_add2 (a:Addr) (i j:Nat):(a.add i).add j = a.add (i + j):=add_of_add _ _ _
theorem St.nthAt (s:St w0 w O) (u:At O (.row base e (Rep.size α) v xs.length cs)) (hc:Cells w L cs xs) {i:Nat} {x:α} (hx:xs[i]? = some x) {bk n' c' : Nat} (he:v = .slice (some ⟨bk,0,none⟩) n' c') :
    ∃ c,v = .slice (some ⟨bk,0,none⟩) xs.length c/\i < xs.length/\∃ es,Rep.R w L es x/\(∀ j u,es[j]? = some u -> w.cell? (((⟨bk,0,none⟩:Addr).add (i * Rep.size α)).add j) = some u)/\(cs.drop (i * Rep.size α)).take (Rep.size α) = es:=by
  obtain ⟨hi,rfl⟩:=List.getElem?_eq_some_iff.1 hx
  obtain ⟨A,c,h1,_,_,_,h5,h6⟩:=s.rowForm u.upd
  obtain ⟨bk', rfl⟩:=h5 (by omega)
  obtain rfl:bk' = bk:=by rw [h1] at he; cases he; rfl
  exact ⟨c,h1,hi,_,hc.2 i hi,fun j u hu=>mem_part (h6 _ rfl) _ _ j u hu,rfl⟩
theorem Acts.setPart {i tot:Nat} {yv:Value} {zx:α} {ds news full:List Value} {bk c:Nat} {F:List Value -> List Ob} {pa:Addr} (hput:put xs (i:Int) zx = some ys) (s:St w0 w O) (he:v = .slice (some ⟨bk,0,none⟩) xs.length c) (u:∀ cs', Upd O (.row base e (Rep.size α) v xs.length cs) (.row base e (Rep.size α) v ys.length cs') (F cs')) (hc:Cells w (bl O ++ L) cs xs)
    (hch:(cs.drop (i * Rep.size α)).take (Rep.size α) = ds) (hf:ds.take tot ++ news ++ ds.drop (tot + news.length) = full) (hn:Nat.ble (tot + news.length) (Rep.size α) = true)
    (hx:ev σ x = some (.pointer (some pa))) (hp:pa = ((⟨bk,0,none⟩:Addr).add (i * Rep.size α)).add tot) (hy:ev σ y = some yv) (hv:yv.cells = news.toArray) (hr:Rep.R w (bl O ++ L) full zx) (hs:sizeB P t news.length = true) (h1:∀ u ∈ news,u.oneCell' = true) :
    Acts P ⟨dd,.store t x y,ty,ps,af,g⟩ σ w (fun w1=>∃ cs', St w0 w1 (F cs')/\Tr w O w1 (F cs')/\Cells w1 (bl (F cs') ++ L) cs' ys):=by
  subst he
  obtain ⟨rfl,_,hi⟩:=put_in hput
  simp only [Int.toNat_natCast,List.length_set] at *
  have hn:tot + news.length <= Rep.size α:=by simpa [Nat.ble_eq] using hn
  have hl:=Rep.len hr
  have hle:i * Rep.size α + Rep.size α <= cs.length:=by rw [hc.1,<- Nat.succ_mul]; exact Nat.mul_le_mul_right _ hi
  have hdl:ds.length = Rep.size α:=by rw [<- hch,List.length_take,List.length_drop]; omega
  have hsplit:cs = cs.take (i * Rep.size α) ++ (ds ++ cs.drop (i * Rep.size α + Rep.size α)):=by
    rw [<- hch,<- List.drop_drop,List.take_append_drop,List.take_append_drop]
  have hA:(cs.take (i * Rep.size α)).length = i * Rep.size α:=by rw [List.length_take]; omega
  have hlist:cs.take (i * Rep.size α + tot) ++ news ++ cs.drop (i * Rep.size α + tot + news.length) = cs.take (i * Rep.size α) ++ full ++ cs.drop (i * Rep.size α + full.length):=by
    rw [hl,<- hf]
    generalize hB:cs.drop (i * Rep.size α + Rep.size α) = B at *
    generalize hA' : cs.take (i * Rep.size α) = A at *
    rw [hsplit]
    have e1:(A ++ (ds ++ B)).take (i * Rep.size α + tot) = A ++ ds.take tot:=by
      rw [<- hA,List.take_length_add_append,List.take_append_of_le_length (by omega)]
    have e2:(A ++ (ds ++ B)).drop (i * Rep.size α + tot + news.length) = ds.drop (tot + news.length) ++ B:=by
      rw [<- hA,Nat.add_assoc,List.drop_length_add_append,List.drop_append_of_le_length (by omega)]
    rw [e1,e2]
    simp [List.append_assoc]
  have hpa:pa = (⟨bk,0,none⟩:Addr).add (i * Rep.size α + tot):=by rw [hp,addr_add2]
  have key:=Acts.storeRow (P:=P) (t:=t) (dd:=dd) (ty:=ty) (ps:=ps) (af:=af) (g:=g) (old:=cs) (news:=news) s (u _) hx hpa hy hv hs (by omega) h1 rfl
  intro ρ ha w' hw
  obtain ⟨w1,h5,h6,h7⟩:=key ρ ha w' hw
  refine ⟨w1,h5,_,h6,h7,?_⟩
  rw [hlist]
  rw [hlist] at h7
  exact (hc.set hi hr).mv h7
end
end Go.Proofs.YtgejkdheojkfiaaGreatDoor
