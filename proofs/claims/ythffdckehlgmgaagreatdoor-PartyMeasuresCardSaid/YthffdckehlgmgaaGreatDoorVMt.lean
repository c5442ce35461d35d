/- Laws of the walk, more of them: fields and elements of values, small integers, elements of the call's own rows, functions without a body. No program in sight. -/
import Derived.Test.YthffdckehlgmgaaGreatDoorVMp
import Derived.Laws.BytesString
import Derived.Laws.CopyRow
import Derived.Maps.RangeRun
namespace Go.Proofs.YthffdckehlgmgaaGreatDoor
open Go Go.RowKit
instance:Rep Int16:=Rep.plain (fun x=>.int .i16 x.toInt) (fun _=>rfl)
def aN (x:Int):UInt8:=UInt8.ofNat (x % 256).toNat
def kB (s:ByteArray) (i:Int):Oa UInt8:=if 0 <= i then s.data[i.toNat]? else none
theorem ep {s:ByteArray} {i:Int} {z:UInt8} (h:kB s i = some z):i = (i.toNat:Int)/\s.data[i.toNat]? = some z:=by
 unfold kB at h
 split at h
 ·exact ⟨by omega,h⟩
 ·cases h
theorem wrap_u8 (x:Int):IntKind.u8.wrap x = ((aN x).toNat:Int):=by
 unfold aN
 have h:(x % 256).toNat < 256:=by omega
 rw [UInt8.toNat_ofNat_of_lt' (by simp [UInt8.size]; omega)]
 simp only [IntKind.wrap,IntKind.bits,IntKind.signed]
 simp
 omega
theorem cD {α:Type} (f:α -> Vc) {xs:List α} {i:Nat} {x:α} (h:xs[i]? = some x):(xs.map f)[i * 1]? = some (f x):=by rw [Nat.mul_one,List.getElem?_map,h]; rfl
def add64 (x y c:Ua):Oa (Ua × Ua):=if c.toNat <= 1 then some (UInt64.ofNat ((x.toNat + y.toNat + c.toNat) % 18446744073709551616),UInt64.ofNat ((x.toNat + y.toNat + c.toNat) / 18446744073709551616)) else none
def sub64 (x y b:Ua):Oa (Ua × Ua):=if b.toNat <= 1 then some (UInt64.ofNat ((x.toNat + 18446744073709551616 - y.toNat - b.toNat) % 18446744073709551616),if x.toNat < y.toNat + b.toNat then 1 else 0) else none
section
variable {P:Program} {σ:List (Nat × Vc)} {w w0:World} {x y z:Operand} {d:Oa Tmp} {t t' s ty e:TypeId} {ps:String} {af:Array Edge} {g:Oa (Nat × Bool)} {O O' : List Ob} {v:Vc}
theorem FV.convU8 {k1:IntKind} {i:Int} (hs:P.underlying s = some (.int k1)) (ht:P.underlying t = some (.int .u8)) (hx:ev σ x = some (.int k1 i)):FV P ⟨d,.convert s t x,ty,ps,af,g⟩ σ w (.int .u8 ((aN i).toNat:Int)):=FV.conv hs ht hx (wrap_u8 i)
def fldB (P:Program) (t f off m:Nat):Bool:=match P.underlying t with
 | some (.struct fs)=>match fs[f]? with
  | some fd=>fd.offset == off && P.cellsOf fd.type == m && (P.underlying fd.type).isSome
  | none=>false
 | _=>false
def mp (P:Program) (t f:Nat):TypeId:=match P.underlying t with
 | some (.struct fs)=>match fs[f]? with
  | some fd=>fd.type
  | none=>0
 | _=>0
theorem mH {f off m:Nat} {cs:Array Vc} (h:fldB P t f off m = true) (w' : World):(Instr.field t (.agg cs) f).run P w' = (part (mp P t f) cs off).run P w' /\P.cellsOf (mp P t f) = m/\∃ u,P.underlying (mp P t f) = some u:=by
 unfold fldB at h
 unfold mp
 split at h
 ·rename_i fs hu
  split at h
  ·rename_i fd hf
   rw [Bool.and_eq_true,Bool.and_eq_true] at h
   have h1:fd.offset = off:=by simpa using h.1.1
   have h2:P.cellsOf fd.type = m:=by simpa using h.1.2
   refine ⟨?_,h2,Option.isSome_iff_exists.1 h.2⟩
   simp [Instr.field,Sem.run_bind,run_underlying hu,hf,asAgg,h1]
  ·cases h
 ·cases h
theorem FV.field1 {f off m:Nat} {cs:List Vc} (h:fldB P t f off m = true) (h2:ct P (mp P t f) = false) (hx:ev σ x = some (.agg cs.toArray)) (hv:cs[off]? = some v):FV P ⟨d,.field t x f,ty,ps,af,g⟩ σ w v:=fun ρ ha w' _=>by
 obtain ⟨h3,h4,u,hu⟩:=mH (cs:=cs.toArray) h w'
 have hagg:(isAgg (mp P t f)).run P w' = .ok false w' :=by
  unfold ct at h2
  unfold isAgg
  rw [hu] at h2; rw [Sem.run_bind,run_underlying hu w']; cases u <;> simp_all
 simp only [execOp,ha _ _ hx,Sem.run_bind,h3]
 simp [part,hagg,hv]
def mr (P:Program) (t:Nat):TypeId:=match P.underlying t with
 | some (.array _ e)=>e
 | _=>0
def ol (P:Program) (t:Nat):Nat:=match P.underlying t with
 | some (.array n _)=>n
 | _=>0
def nn (P:Program) (t m:Nat) (q:Bool):Bool:=match P.underlying t with
 | some (.array _ e)=>P.cellsOf e == m && (P.underlying e).isSome && ct P e == q
 | _=>false
theorem kD {m k:Nat} {q:Bool} {cs:Array Vc} (h:nn P t m q = true) {kd:IntKind} (hk:k < ol P t) (w' : World):(Instr.index t (.agg cs) (.int kd (k:Int))).run P w' = (part (mr P t) cs (k * m)).run P w' /\P.cellsOf (mr P t) = m/\ct P (mr P t) = q/\∃ u,P.underlying (mr P t) = some u:=by
 unfold nn at h
 unfold mr ol at *
 split at h
 ·rename_i n e hu
  simp only [hu] at hk ⊢
  rw [Bool.and_eq_true,Bool.and_eq_true] at h
  have h1:P.cellsOf e = m:=by simpa using h.1.1
  have h3:ct P e = q:=by simpa using h.2
  obtain ⟨u,hu2⟩:=Option.isSome_iff_exists.1 h.1.2
  obtain ⟨i,hi⟩:=info_of_underlying hu2
  refine ⟨?_,h1,h3,u,hu2⟩
  have hlt:(0:Int) <= (k:Int)/\(k:Int) < (n:Int):=by omega
  simp [Instr.index,asIntOf,Sem.run_bind,run_underlying hu,hk,run_sizeOf w' hi,h1]
 ·cases h
theorem FV.idxN {m len k:Nat} {kd:IntKind} {i:Int} {cs ds:List Vc} (h:nn P t m true = true) (hl:ol P t = len) (hx:ev σ x = some (.agg cs.toArray)) (hy:ev σ y = some (.int kd i)) (hi:i = (k:Int)) (hk:k < len) (hv:(cs.drop (k * m)).take m = ds):FV P ⟨d,.index t x y,ty,ps,af,g⟩ σ w (.agg ds.toArray):=fun ρ ha w' _=>by
 subst hi
 obtain ⟨h3,h4,h2,u,hu⟩:=kD (cs:=cs.toArray) (kd:=kd) h (by rw [hl]; exact hk) w'
 obtain ⟨i,hi⟩:=info_of_underlying hu
 have hagg:(isAgg (mr P t)).run P w' = .ok true w' :=by
  unfold ct at h2
  unfold isAgg
  rw [hu] at h2; rw [Sem.run_bind,run_underlying hu w']; cases u <;> simp_all
 have hcs:cs.toArray.extract (k * m) (k * m + m) = ds.toArray:=by
  apply Array.ext'
  rw [<- hv]
  simp
 simp only [execOp,ha _ _ hx,ha _ _ hy,Sem.run_bind,h3]
 simp only [part,Sem.run_bind,hagg,Result.andThen_ok,if_true,run_sizeOf w' hi,h4,Sem.run_pure,hcs]
/-! ### Functions without a body -/
theorem lc {f : FuncId} {fn : Func} {ex : Array Value → Sem Value} (hfn : P.funcs[f]? = some fn) (hb : fn.body = none) (hn : (fn.name == "runtime.NumGoroutine") = false) (h1 : (Extern.findNext fn).isNone = true) (h2 : Extern.find fn = some ex) {vs : Array Value} {w' : World} {u : Value} (he : (ex vs).run P w' = .ok u w') : (callFunc f vs).run P w' = .ok (.value u) w' := by
 have h1' : Extern.findNext fn = none:=by simpa using h1
 simp only [callFunc,Sem.run_bind,run_program,Result.andThen_ok,hfn,hn,hb,Option.isNone_none,if_true,Bool.false_eq_true,if_false]
 simp [h1', h2,he,mark,Sem.run]
theorem FV.ext3 {f : FuncId} {fn : Func} {ex : Array Value → Sem Value} {a b c u : Value} {ts : Array TypeId} (hfn : P.funcs[f]? = some fn) (hb : fn.body = none) (hn : (fn.name == "runtime.NumGoroutine") = false) (h1 : (Extern.findNext fn).isNone = true) (h2 : Extern.find fn = some ex) (hx : ev σ x = some a) (hy : ev σ y = some b) (hz : ev σ z = some c)
  (he:∀ w', (ex #[a,b,c]).run P w' = .ok u w'):FV P ⟨d,.call { callee:=.value (.func f),args:=#[x,y,z],argTypes:=ts },ty,ps,af,g⟩ σ w u:=fun ρ ha w' _=>by
 have hc:ρ (.func f) = .func (.func f) #[] #[]:=ha _ _ I
 have hr:=lc (P:=P) (vs:=#[a,b,c]) (w' :=w') hfn hb hn h1 h2 (he w')
 simp [execOp,resolve,hc,ha _ _ hx,ha _ _ hy,ha _ _ hz,Deferred.ofValue,invoke,hr]
def nA:Array Vc -> Sem Vc:=(Extern.MathBitsCarry.rows.head!).2
def ox:Array Vc -> Sem Vc:=(Extern.MathBitsCarry.rows.tail.head!).2
theorem mB {a b c:Ua} {r:Ua × Ua} (h:add64 a b c = some r) (w' : World):(nA #[.int .u64 (a.toNat:Int),.int .u64 (b.toNat:Int),.int .u64 (c.toNat:Int)]).run P w' = .ok (.tuple #[.int .u64 (r.1.toNat:Int),.int .u64 (r.2.toNat:Int)]) w' :=by
 unfold add64 at h
 split at h
 ·rename_i hc
  cases h
  have hc' : ¬ c.toNat > 1:=by omega
  have ha:=bV a; have hb:=bV b
  rw [UInt64.toNat_ofNat_of_lt' (by simp only [UInt64.size]; omega),UInt64.toNat_ofNat_of_lt' (by simp only [UInt64.size]; omega)]
  have h3:∀ nm,(Extern.MathBitsCarry.three nm #[.int .u64 (a.toNat:Int),.int .u64 (b.toNat:Int),.int .u64 (c.toNat:Int)]).run P w' = .ok (a.toNat,b.toNat,c.toNat) w' :=fun nm=>by
   show (do
    let c' :=(<- asInt (.int .u64 (c.toNat:Int))).toNat
    if c' > 1 then unsupported (.noEntry ("extern/math/bits." ++ nm ++ ": a carry that is neither 0 nor 1"))
    pure ((<- asInt (.int .u64 (a.toNat:Int))).toNat,(<- asInt (.int .u64 (b.toNat:Int))).toNat,c'):Sem (Nat × Nat × Nat)).run P w' = _
   have hc2:¬ 1 < c.toNat:=hc'
   simp [asInt,asIntOf]
   omega
  show (do let (x, y, c) ← Extern.MathBitsCarry.three "Add64" #[.int .u64 (a.toNat : Int), .int .u64 (b.toNat : Int), .int .u64 (c.toNat : Int)]; pure (Extern.MathBitsCarry.pair ((x + y + c) % Extern.MathBitsCarry.m64) ((x + y + c) / Extern.MathBitsCarry.m64)) : Sem Value).run P w' = _
  rw [Sem.run_bind,h3]
  simp [Extern.MathBitsCarry.pair,Extern.MathBitsCarry.m64]
 ·cases h
theorem my {a b c:Ua} {r:Ua × Ua} (h:sub64 a b c = some r) (w' : World):(ox #[.int .u64 (a.toNat:Int),.int .u64 (b.toNat:Int),.int .u64 (c.toNat:Int)]).run P w' = .ok (.tuple #[.int .u64 (r.1.toNat:Int),.int .u64 (r.2.toNat:Int)]) w' :=by
 unfold sub64 at h
 split at h
 ·rename_i hc
  cases h
  have hc' : ¬ c.toNat > 1:=by omega
  have ha:=bV a; have hb:=bV b
  have hi:((if a.toNat < b.toNat + c.toNat then (1:Ua) else 0).toNat:Int) = if a.toNat < b.toNat + c.toNat then 1 else 0:=by split <;> rfl
  rw [UInt64.toNat_ofNat_of_lt' (by simp only [UInt64.size]; omega),hi]
  have h3:∀ nm,(Extern.MathBitsCarry.three nm #[.int .u64 (a.toNat:Int),.int .u64 (b.toNat:Int),.int .u64 (c.toNat:Int)]).run P w' = .ok (a.toNat,b.toNat,c.toNat) w' :=fun nm=>by
   show (do
    let c' :=(<- asInt (.int .u64 (c.toNat:Int))).toNat
    if c' > 1 then unsupported (.noEntry ("extern/math/bits." ++ nm ++ ": a carry that is neither 0 nor 1"))
    pure ((<- asInt (.int .u64 (a.toNat:Int))).toNat,(<- asInt (.int .u64 (b.toNat:Int))).toNat,c'):Sem (Nat × Nat × Nat)).run P w' = _
   have hc2:¬ 1 < c.toNat:=hc'
   simp [asInt,asIntOf]
   omega
  show (do let (x, y, c) ← Extern.MathBitsCarry.three "Sub64" #[.int .u64 (a.toNat : Int), .int .u64 (b.toNat : Int), .int .u64 (c.toNat : Int)]; pure (Extern.MathBitsCarry.pair ((x + Extern.MathBitsCarry.m64 - y - c) % Extern.MathBitsCarry.m64) (if x < y + c then 1 else 0)) : Sem Value).run P w' = _
  rw [Sem.run_bind,h3]
  simp [Extern.MathBitsCarry.pair,Extern.MathBitsCarry.m64]
  split <;> rfl
 ·cases h
theorem FV.add64 {f : FuncId} {fn : Func} {a b c : UInt64} {r : UInt64 × UInt64} {ts : Array TypeId} (hfn : P.funcs[f]? = some fn) (hb : fn.body = none) (hn : (fn.name == "runtime.NumGoroutine") = false) (h1 : (Extern.findNext fn).isNone = true) (h2 : Extern.find fn = some nA) (hx : ev σ x = some (.int .u64 (a.toNat : Int))) (hy : ev σ y = some (.int .u64 (b.toNat : Int))) (hz : ev σ z = some (.int .u64 (c.toNat : Int)))
  (h:Proofs.YthffdckehlgmgaaGreatDoor.add64 a b c = some r):FV P ⟨d,.call { callee:=.value (.func f),args:=#[x,y,z],argTypes:=ts },ty,ps,af,g⟩ σ w (.tuple #[.int .u64 (r.1.toNat:Int),.int .u64 (r.2.toNat:Int)]):=FV.ext3 hfn hb hn h1 h2 hx hy hz (mB h)
theorem FV.sub64 {f : FuncId} {fn : Func} {a b c : UInt64} {r : UInt64 × UInt64} {ts : Array TypeId} (hfn : P.funcs[f]? = some fn) (hb : fn.body = none) (hn : (fn.name == "runtime.NumGoroutine") = false) (h1 : (Extern.findNext fn).isNone = true) (h2 : Extern.find fn = some ox) (hx : ev σ x = some (.int .u64 (a.toNat : Int))) (hy : ev σ y = some (.int .u64 (b.toNat : Int))) (hz : ev σ z = some (.int .u64 (c.toNat : Int)))
  (h:Proofs.YthffdckehlgmgaaGreatDoor.sub64 a b c = some r):FV P ⟨d,.call { callee:=.value (.func f),args:=#[x,y,z],argTypes:=ts },ty,ps,af,g⟩ σ w (.tuple #[.int .u64 (r.1.toNat:Int),.int .u64 (r.2.toNat:Int)]):=FV.ext3 hfn hb hn h1 h2 hx hy hz (my h)
end
/-! ### Elements of the call's own rows -/
section
variable {α:Type} [Rep α] {P:Program} {σ:List (Nat × Vc)} {w w0:World} {x y:Operand} {t ty:TypeId} {ps:String} {af:Array Edge} {g:Oa (Nat × Bool)} {O O' : List Ob} {v:Vc} {base:Nat} {e:TypeId} {cs:List Vc} {xs ys:List α} {L:List Nat} {dd:Oa Tmp}
theorem mG (a:Addr) (i j:Nat):(a.add i).add j = a.add (i + j):=bh _ _ _
theorem St.nthAt (s:St w0 w O) (u:At O (.row base e (Rep.size α) v xs.length cs)) (hc:Cells w L cs xs) {i:Nat} {x:α} (hx:xs[i]? = some x) {bk n' c' : Nat} (he:v = .slice (some ⟨bk,0,none⟩) n' c') :
  ∃ c,v = .slice (some ⟨bk,0,none⟩) xs.length c/\i < xs.length/\∃ es,Rep.R w L es x/\(∀ j u,es[j]? = some u -> w.cell? (((⟨bk,0,none⟩:Addr).add (i * Rep.size α)).add j) = some u)/\(cs.drop (i * Rep.size α)).take (Rep.size α) = es:=by
 obtain ⟨hi,rfl⟩:=List.getElem?_eq_some_iff.1 hx
 obtain ⟨A,c,h1,_,_,_,h5,h6⟩:=s.rowForm u.upd
 obtain ⟨bk', rfl⟩:=h5 (by omega)
 obtain rfl:bk' = bk:=by rw [h1] at he; cases he; rfl
 exact ⟨c,h1,hi,_,hc.2 i hi,fun j u hu=>ah (h6 _ I) _ _ j u hu,I⟩
theorem Acts.setPart {i tot:Nat} {yv:Vc} {zx:α} {ds news full:List Vc} {bk c:Nat} {F:List Vc -> List Ob} {pa:Addr} (hput:put xs (i:Int) zx = some ys) (s:St w0 w O) (he:v = .slice (some ⟨bk,0,none⟩) xs.length c) (u:∀ cs', Upd O (.row base e (Rep.size α) v xs.length cs) (.row base e (Rep.size α) v ys.length cs') (F cs')) (hc:Cells w (bl O ++ L) cs xs)
  (hch:(cs.drop (i * Rep.size α)).take (Rep.size α) = ds) (hf:ds.take tot ++ news ++ ds.drop (tot + news.length) = full) (hn:Nat.ble (tot + news.length) (Rep.size α) = true)
  (hx:ev σ x = some (.pointer (some pa))) (hp:pa = ((⟨bk,0,none⟩:Addr).add (i * Rep.size α)).add tot) (hy:ev σ y = some yv) (hv:yv.cells = news.toArray) (hr:Rep.R w (bl O ++ L) full zx) (hs:bX P t news.length = true) (h1:∀ u ∈ news,u.oneCell' = true) :
  Acts P ⟨dd,.store t x y,ty,ps,af,g⟩ σ w (fun w1=>∃ cs', St w0 w1 (F cs')/\Tr w O w1 (F cs')/\Cells w1 (bl (F cs') ++ L) cs' ys):=by
 subst he
 obtain ⟨rfl,_,hi⟩:=ou hput
 simp only [Int.toNat_natCast,List.length_set] at *
 have hn:tot + news.length <= Rep.size α:=by simpa [Nat.ble_eq] using hn
 have hl:=Rep.len hr
 have hle:i * Rep.size α + Rep.size α <= cs.length:=by rw [hc.1,<- Nat.succ_mul]; exact Nat.mul_le_mul_right _ hi
 have hdl:ds.length = Rep.size α:=by rw [<- hch,List.length_take,List.length_drop]; omega
 have hsplit:cs = cs.take (i * Rep.size α) ++ (ds ++ cs.drop (i * Rep.size α + Rep.size α)):=by
  rw [<- hch,<- List.drop_drop,List.take_append_drop,List.take_append_drop]
 have hA:(cs.take (i * Rep.size α)).length = i * Rep.size α:=by rw [List.length_take]; omega
 have hlist:cs.take (i * Rep.size α + tot) ++ news ++ cs.drop (i * Rep.size α + tot + news.length) = cs.take (i * Rep.size α) ++ full ++ cs.drop (i * Rep.size α + full.length):=by
  rw [hl,<- hf]
  generalize hB:cs.drop (i * Rep.size α + Rep.size α) = B at *
  generalize hA' : cs.take (i * Rep.size α) = A at *
  rw [hsplit]
  have e1:(A ++ (ds ++ B)).take (i * Rep.size α + tot) = A ++ ds.take tot:=by
   rw [<- hA,List.take_length_add_append,List.take_append_of_le_length (by omega)]
  have e2:(A ++ (ds ++ B)).drop (i * Rep.size α + tot + news.length) = ds.drop (tot + news.length) ++ B:=by
   rw [<- hA,Nat.add_assoc,List.drop_length_add_append,List.drop_append_of_le_length (by omega)]
  rw [e1,e2]
  simp [List.append_assoc]
 have hpa:pa = (⟨bk,0,none⟩:Addr).add (i * Rep.size α + tot):=by rw [hp,mG]
 have key:=Acts.storeRow (P:=P) (t:=t) (dd:=dd) (ty:=ty) (ps:=ps) (af:=af) (g:=g) (old:=cs) (news:=news) s (u _) hx hpa hy hv hs (by omega) h1 I
 intro ρ ha w' hw
 obtain ⟨w1,h5,h6,h7⟩:=key ρ ha w' hw
 refine ⟨w1,h5,_,h6,h7,?_⟩
 rw [hlist]
 rw [hlist] at h7
 exact (hc.set hi hr).mv h7
end
section
open Go Go.RowKit
instance:Rep UInt32:=Rep.plain (fun x=>.int .u32 (x.toNat:Int)) (fun _=>rfl)
def ki (s:ByteArray) (l h:Int):Oa ByteArray:=if 0 <= l/\l <= h/\h <= s.size then some (s.extract l.toNat h.toNat) else none
def nD (a b:ByteArray):Oa ByteArray:=if a.size + b.size <= 4611686018427387904 then some (a ++ b) else none
def bstr (xs:List UInt8):ByteArray:=⟨xs.toArray⟩
section
variable {P:Program} {σ:List (Nat × Vc)} {w w0:World} {x y z:Operand} {d:Oa Tmp} {t t' s ty e:TypeId} {ps:String} {af:Array Edge} {g:Oa (Nat × Bool)} {O O' : List Ob} {v:Vc}
theorem FV.strCut {s r:ByteArray} {l h:Int} {lo hi:Oa Operand} (hc:ki s l h = some r) (ht:P.underlying t = some .string) (hx:ev σ x = some (.string s)) (hlo:match lo with | none=>l = 0 | some y=>∃ k,ev σ y = some (.int k l)) (hhi:match hi with | none=>h = (s.size:Int) | some y=>∃ k,ev σ y = some (.int k h)) :
  FV P ⟨d,.slice t x lo hi none,ty,ps,af,g⟩ σ w (.string r):=fun ρ ha w' _=>by
 unfold ki at hc
 split at hc
 ·rename_i hh
  obtain ⟨h1,h2,h3⟩:=hh
  cases hc
  have h0:0 <= h:=by omega
  cases lo with
  | none=>
   simp only at hlo
   subst hlo
   cases hi with
   | none=>
    simp only at hhi
    subst hhi
    simp [execOp,ha _ _ hx,Instr.sliceAt,Instr.slice,Instr.sliceBounds,run_underlying ht]
   | some y=>
    obtain ⟨k,hy⟩:=hhi
    simp [execOp,ha _ _ hx,ha _ _ hy,Instr.sliceAt,Instr.slice,Instr.sliceBounds,Instr.sliceBound,asIntOf,run_underlying ht,h0,h3]
  | some q=>
   obtain ⟨k2,hq⟩:=hlo
   cases hi with
   | none=>
    simp only at hhi
    subst hhi
    simp [execOp,ha _ _ hx,ha _ _ hq,Instr.sliceAt,Instr.slice,Instr.sliceBounds,Instr.sliceBound,asIntOf,run_underlying ht,h1,h2]
   | some y=>
    obtain ⟨k,hy⟩:=hhi
    have h2' : l <= (h.toNat:Int):=by omega
    simp [execOp,ha _ _ hx,ha _ _ hy,ha _ _ hq,Instr.sliceAt,Instr.slice,Instr.sliceBounds,Instr.sliceBound,asIntOf,run_underlying ht,h0,h3,h1]
    intro h9; exfalso; omega
 ·cases hc
theorem FV.addS {a b c:ByteArray} (h:nD a b = some c) (hx:ev σ x = some (.string a)) (hy:ev σ y = some (.string b)):FV P ⟨d,.binOp .add t x y t', ty,ps,af,g⟩ σ w (.string c):=fun ρ ha w' _=>by
 unfold nD at h
 split at h
 ·rename_i hh
  cases h
  have hm:¬ (((a.size + b.size:Nat):Int) > IntKind.i64.max):=by simp [IntKind.max,IntKind.bits,IntKind.signed]; omega
  have hs:(Op.stringOp .add a b).run P w' = .ok (.string (a ++ b)) w' :=by unfold Op.stringOp; simp only; rw [if_neg hm]; rfl
  simp [execOp,ha _ _ hx,ha _ _ hy,eqGuard,binOp,hs]
 ·cases h
/-! ### Bytes as a string -/
theorem kN (xs:List UInt8):∀ r:ByteArray,(xs.map fun x=>(x.toNat:Int)).foldl (fun r n=>r.push (UInt8.ofNat n.toNat)) r = ⟨(r.data.toList ++ xs).toArray⟩:=by
 induction xs with
 | nil=>intro r; obtain ⟨⟨r⟩⟩:=r; simp
 | cons x xs ih=>
  intro r
  rw [List.map_cons,List.foldl_cons,ih]
  have hx:UInt8.ofNat ((x.toNat:Int).toNat) = x:=by simp
  rw [hx]
  obtain ⟨⟨r⟩⟩:=r
  simp [ByteArray.push]
theorem FV.convIS {k1:IntKind} {i:Int} {r:ByteArray} (hs:P.underlying s = some (.int k1)) (ht:P.underlying t = some .string) (hx:ev σ x = some (.int k1 i)) (hr:Utf8.encode i = r):FV P ⟨d,.convert s t x,ty,ps,af,g⟩ σ w (.string r):=fun ρ ha w' _=>by
 subst hr
 simp [execOp,ha _ _ hx,go_sem,hs,ht]
theorem FV.bytesS {xs:List UInt8} {L:List Nat} (hs:P.underlying s = some (.slice e)) (ht:P.underlying t = some .string) (he:P.underlying e = some (.int .u8)) (hx:ev σ x = some v) (h:Src w L v xs):FV P ⟨d,.convert s t x,ty,ps,af,g⟩ σ w (.string (bstr xs)):=fun ρ ha w' hw=>by
 obtain ⟨A,c,ds,rfl,hc,hm,hA⟩:=h
 have hds:ds = xs.map fun x=>(Value.int .u8 (x.toNat:Int)):=by
  apply List.ext_getElem?
  intro i
  have hl:ds.length = xs.length:=by have:=hc.1; rwa [show Rep.size UInt8 = 1 from I,Nat.mul_one] at this
  rcases Nat.lt_or_ge i xs.length with hi | hi
  ·have h2:=hc.2 i hi
   rw [show Rep.size UInt8 = 1 from I,Nat.mul_one] at h2
   have h3:(ds.drop i).take 1 = [.int .u8 (xs[i].toNat:Int)]:=h2
   have h4:=congrArg (·[0]?) h3
   simp only [List.getElem?_cons_zero,List.getElem?_take,Nat.zero_lt_one,if_true,List.getElem?_drop,Nat.add_zero] at h4
   rw [h4,List.getElem?_map,List.getElem?_eq_getElem hi]; rfl
  ·rw [List.getElem?_eq_none (by omega),List.getElem?_eq_none (by rw [List.length_map]; omega)]
 have key:(Conv.bytesToString (.slice A xs.length c)).run P w' = .ok (.string (bstr xs)) w' :=by
  cases A with
  | none=>
   obtain rfl:=List.eq_nil_of_length_eq_zero (hA I)
   rfl
  | some ad=>
   have hl:(loadCells ad xs.length).run P w' = .ok ((xs.map fun x=>(x.toNat:Int)).map (Value.int .u8)).toArray w' :=by
    have h1:=run_loadCells_list (P:=P) w' ad ds (fun j u hu=>hw.cell0 (hm ad I j u hu))
    rw [hds,List.length_map] at h1
    rw [h1,List.map_map]; rfl
   rw [run_bytesToString w' ad xs.length c _ hl,kN]
   rfl
 simp [execOp,convert,ha _ _ hx,run_underlying hs,run_underlying ht,run_underlying he,key]
/-! ### Arrays as slices -/
theorem Src.arr {α:Type} [Rep α] {L:List Nat} {ys:List α} {p:Addr} {ds:List Vc} {n:Nat} (hm:∀ j u,ds[j]? = some u -> w.cell? (p.add j) = some u) (hc:Cells w L ds ys) (hn:ys.length = n):Src w L (.slice (some p) n n) ys:=by
 subst hn
 exact ⟨some p,_,ds,rfl,hc,fun ad e=>by cases e; exact hm,fun e=>by cases e⟩
def aQ {α:Type} (ys:List α) (j:Nat) (o:α):α:=(ys[j]?).getD o
def cpL {α:Type} (ys:List α):Nat -> List α -> List α
 | _,[]=>[]
 | j,o :: os=>aQ ys j o :: cpL ys (j + 1) os
theorem oc {α:Type} (ys:List α):∀ (os:List α) (j:Nat),cpL ys j os = (ys.drop j).take os.length ++ os.drop (min (ys.length - j) os.length)
 | [],j=>by simp [cpL]
 | o :: os,j=>by
  rw [cpL,oc ys os (j + 1)]
  unfold aQ
  rcases Nat.lt_or_ge j ys.length with hj | hj
  ·rw [List.getElem?_eq_getElem hj,Option.getD_some,List.drop_eq_getElem_cons hj,List.length_cons,List.take_succ_cons,List.cons_append]
   congr 2
   rw [show min (ys.length - j) (os.length + 1) = min (ys.length - (j + 1)) os.length + 1 by omega,List.drop_succ_cons]
  ·rw [List.getElem?_eq_none hj,Option.getD_none,List.drop_of_length_le hj,List.drop_of_length_le (by omega:ys.length <= j + 1)]
   rw [show ys.length - j = 0 by omega,show ys.length - (j + 1) = 0 by omega]
   simp
theorem DoesL.copyArr {α:Type} [Rep α] (f:α -> Vc) {L:List Nat} {olds ys:List α} {pre post old new' : List Vc} {bk m' n:Nat} {eo:TypeId} {p:Addr} {sv:Vc} {dd:Oa Tmp} (hsz:Rep.size α = 1) (hf:∀ w L cs (x:α),Rep.R w L cs x -> cs = [f x]) (s:St w0 w O) (u:Upd O (.cells bk old eo) (.cells bk new' eo) O') (ht:cO P t 1 = true)
  (hx:ev σ x = some (.slice (some p) n n)) (hp:p = ⟨bk,m', none⟩) (hm:pre.length = m') (hn:olds.length = n) (ho:old = pre ++ olds.map f ++ post) (hnw:new' = pre ++ (cpL ys 0 olds).map f ++ post) (hy:ev σ y = some sv) (hs:Src w L sv ys) :
  DoesL P ⟨dd,.call { callee:=.builtin .copy,args:=#[x,y],argTypes:=#[t,t'] },ty,ps,af,g⟩ σ w (fun r w1=>r = .int .i64 ((min ys.length n:Nat):Int)/\Now w0 w O O' w1):=by
 intro ρ ha w' hw
 subst hp
 obtain ⟨As,cc,ds,rfl,g2,g3,g4⟩:=hs
 have hl:ds.length = ys.length:=by rw [g2.1,hsz,Nat.mul_one]
 have hds:ds = ys.map f:=by
  apply List.ext_getElem?
  intro i
  rcases Nat.lt_or_ge i ys.length with hi | hi
  ·have h2:=hf _ _ _ _ (g2.2 i hi)
   rw [hsz,Nat.mul_one] at h2
   have h4:=congrArg (·[0]?) h2
   simp only [List.getElem?_cons_zero,List.getElem?_take,Nat.zero_lt_one,if_true,List.getElem?_drop,Nat.add_zero] at h4
   rw [h4,List.getElem?_map,List.getElem?_eq_getElem hi]; rfl
  ·rw [List.getElem?_eq_none (by omega),List.getElem?_eq_none (by rw [List.length_map]; omega)]
 have hb:=s.get u
 have hb' : w'.heap[bk]? = some (.cells old.toArray eo (0,0)):=aX hw hb
 have hnew:new' = old.take m' ++ ds.take (min ys.length n) ++ old.drop (m' + (ds.take (min ys.length n)).length):=by
  have e1:cpL ys 0 olds = ys.take (min ys.length n) ++ olds.drop (min ys.length n):=by
   rw [oc,List.drop_zero,Nat.sub_zero,hn]
   congr 1
   rcases Nat.le_total ys.length n with h | h
   ·rw [Nat.min_eq_left h,List.take_of_length_le h,List.take_length]
   ·rw [Nat.min_eq_right h]
  have e2:(ds.take (min ys.length n)).length = min ys.length n:=by rw [List.length_take,hl]; omega
  rw [hnw,e1,e2,ho,hds,<- List.map_take]
  subst hm
  rw [List.append_assoc pre (List.map f olds),List.take_left,List.drop_length_add_append,List.map_append,List.drop_append_of_le_length (by rw [List.length_map]; omega),List.map_drop]
  simp [List.append_assoc]
 unfold cO at ht
 split at ht
 ·rename_i el hun
  split at ht
  ·rename_i jj hjj
   have hinfo:(P.info? el).map (·.size) = some 1:=by rw [hjj]; simp; simpa using ht
   have hst:∀ w1,Agree [bk] w' w1 -> w1.heap[bk]? = some (.cells new'.toArray eo (0,0)) -> Now w0 w O O' w1:=fun w1 hag h1=>by
    have hag' : Agree [bk] w w1:=(hw.widen).trans hag
    have hL:∀ b ∈ [bk],(Ob.cells bk old eo).block = some b:=by simp [Ob.block]
    exact ⟨s.upd u hag' hL h1 (fun b e=>.inl e),Tr.upd u hag' hL (fun b e=>.inl e)⟩
   by_cases hk:min ys.length n = 0
   ·refine ⟨.int .i64 0,w', ?_,by rw [hk]; rfl,hst w' (Agree.refl _ _) ?_⟩
    ·have:=run_copy_none (P:=P) w' t t' ty el (some ⟨bk,m', none⟩) As n n ys.length cc hun hinfo hk
     simp only [execOp,resolve,invoke,builtin,Array.map]
     simp [ha _ _ hx,ha _ _ hy,this,goInt]
    ·rw [hb']
     have:new' = old:=by rw [hnew,hk]; simp
     rw [this]
   ·cases hAs:As with
    | none=>have:=g4 hAs; omega
    | some a=>
     have hfit:m' + (ds.take (min ys.length n)).length <= old.length:=by
      rw [ho,List.length_take,hl]; simp only [List.length_append,List.length_map]; omega
     have key:=run_copy_row (P:=P) w' t t' ty el bk m' n n a ys.length cc old.toArray eo (ds.take (min ys.length n)) hun hinfo hb' (by rw [List.length_take,hl]; show _ = min _ _; omega)
      (fun j u9 hj=>hw.cell0 (mz (g3 a hAs) _ j u9 hj)) (by simpa using hfit) (fun u9 hm=>g2.cell u9 (List.mem_of_mem_take hm))
     refine ⟨.int .i64 ((min ys.length n:Nat):Int),w'.setRow bk (old.take m' ++ ds.take (min ys.length n) ++ old.drop (m' + (ds.take (min ys.length n)).length)).toArray,?_,I,hst _ (cF hb' _) ?_⟩
     ·have hkl:(ds.take (min ys.length n)).length = min ys.length n:=by rw [List.length_take,hl]; omega
      rw [hkl] at key ⊢
      subst hAs
      simp only [execOp,resolve,invoke,builtin,Array.map]
      simp only [Sem.run_bind]
      simp [ha _ _ hx,ha _ _ hy,key,goInt]
     ·rw [hnew]; exact setRow_heap w' bk _ _ eo _ hb'
  ·cases ht
 ·cases ht
/-! ### Great arrays -/
theorem Acts.storeBig {α:Type} (f:α -> Vc) {xs ys:List α} {m bk:Nat} {eo:TypeId} {dd:Oa Tmp} {xo yo:Operand} (hx:xs.length = m) (hy:ys.length = m) (s:St w0 w O) (u:Upd O (.cells bk (xs.map f) eo) (.cells bk (ys.map f) eo) O') (hxo:ev σ xo = some (.pointer (some ⟨bk,0,none⟩))) (hyo:ev σ yo = some (.agg (ys.map f).toArray)) (hs:bX P t m = true)
  (h1:∀ x,(f x).oneCell' = true):Acts P ⟨dd,.store t xo yo,ty,ps,af,g⟩ σ w (Now w0 w O O'):=
 Acts.store (j:=0) (news:=ys.map f) s u hxo rfl hyo rfl (by rw [List.length_map,hy]; exact hs) (by rw [Nat.ble_eq]; simp only [List.length_map]; omega) (fun u hu=>by obtain ⟨x,_,rfl⟩:=List.mem_map.1 hu; exact h1 x)
  (by rw [List.take_zero,List.nil_append,Nat.zero_add,List.drop_of_length_le (by simp only [List.length_map]; omega),List.append_nil])
theorem Acts.setBig {α:Type} (f:α -> Vc) {xs:List α} {m i bk:Nat} {x:α} {p:Addr} {eo:TypeId} {dd:Oa Tmp} {xo yo:Operand} (hx:xs.length = m) (hi:i < m) (s:St w0 w O) (u:Upd O (.cells bk (xs.map f) eo) (.cells bk ((xs.set i x).map f) eo) O') (hxo:ev σ xo = some (.pointer (some p))) (hp:p = ⟨bk,0 + i,none⟩) (hyo:ev σ yo = some (f x)) (hs:bX P t 1 = true)
  (h1:∀ x,(f x).cells = #[f x]/\(f x).oneCell' = true):Acts P ⟨dd,.store t xo yo,ty,ps,af,g⟩ σ w (Now w0 w O O'):=
 Acts.store (j:=i) (news:=[f x]) s u hxo (by rw [hp,Nat.zero_add]) hyo (h1 x).1 hs (by rw [Nat.ble_eq]; simp only [List.length_map,List.length_singleton]; omega) (fun u hu=>by simp only [List.mem_singleton] at hu; subst hu; exact (h1 x).2)
  (by rw [List.map_set,List.length_singleton,List.append_assoc,List.set_eq_take_append_cons_drop,if_pos (by rw [List.length_map]; omega)]; rfl)
end
/-! ### Calls that hand over slices of their own -/
def aV (base:Nat) (l:List (TypeId × Nat × Vc × Nat × List Vc)):List Ob:=l.map fun r=>.row base r.1 r.2.1 r.2.2.1 r.2.2.2.1 r.2.2.2.2
theorem dw (b b' : Nat):∀ l,bl (aV b l) = bl (aV b' l)
 | []=>rfl
 | r :: l=>by
  have:=dw b b' l
  unfold aV at *
  rw [List.map_cons,List.map_cons,iU,iU,this]; rfl
theorem Owns.rebase {w:World} {b b' : Nat} (h:b' <= b):∀ {l},Owns w (aV b l) -> Owns w (aV b' l)
 | [],_=>trivial
 | r :: l,⟨h1,h2,h3⟩=>by
  refine ⟨?_,fun c hc=>?_,Owns.rebase h h3⟩
  ·obtain ⟨⟨h4,h5⟩,h6⟩:=h1
   refine ⟨⟨h4,?_⟩,h6⟩
   rcases h5 with h5 | ⟨g,cap,cur,e1,e2,rest⟩
   ·exact .inl h5
   ·exact .inr ⟨g,cap,cur,e1,Nat.le_trans h e2,rest⟩
  ·rw [show List.map _ l = aV b' l from I,dw b' b]; exact h2 c hc
theorem St.rebase {w w9 w8:World} {b b' : Nat} {l:List (TypeId × Nat × Vc × Nat × List Vc)} (s:St w9 w8 (aV b l)) (hw:Agree [] w w9) (h:b' <= b):St w w8 (aV b' l):=
 ⟨hw.trans s.ag,fun c hc=>Nat.le_trans hw.size (s.new c (by rw [dw b b']; exact hc)),s.ok.rebase h⟩
theorem Cells.rebase {α:Type} [Rep α] {w:World} {b b' : Nat} {l:List (TypeId × Nat × Vc × Nat × List Vc)} {L:List Nat} {cs:List Vc} {xs:List α} (h:Cells w (bl (aV b l) ++ L) cs xs):Cells w (bl (aV b' l) ++ L) cs xs:=by rw [dw b' b]; exact h
theorem dB {α:Type} [Rep α] {w:World} {b:Nat} {l:List (TypeId × Nat × Vc × Nat × List Vc)} {O:List Ob} {L:List Nat} {cs:List Vc} {xs:List α} (h:Cells w (bl (aV b l) ++ (bl O ++ L)) cs xs):Cells w (bl (aV b l ++ O) ++ L) cs xs:=by
 rw [dp,List.append_assoc]; exact h
/-! ### Facts at a standing -/
section
variable {α:Type} [Rep α] {w0 w w1:World} {O O' : List Ob}
theorem Rep.nilAt (_:St w0 w O) (L:List Nat):Rep.R w (bl O ++ L) [.slice none 0 0] ([]:List α):=Rep.nilSlice _ _
theorem Rep.at_ {v:Vc} {xs:List α} (_:St w0 w O) (L:List Nat) (h:Rep.R w (bl O ++ L) [v] xs):Rep.R w (bl O ++ L) [v] xs:=h
theorem Cells.at_ {cs:List Vc} {xs:List α} (_:St w0 w O) (L:List Nat) (h:Cells w (bl O ++ L) cs xs):Cells w (bl O ++ L) cs xs:=h
end
section
variable {w0 w w1:World} {O O' : List Ob}
theorem St.delS {o:Ob} (s:St w0 w O) (u:Out O o O'):St w0 w O' :=s.del u.del
theorem St.delT {o:Ob} (_:St w0 w O) (u:Out O o O'):Tr w O w O' :=Tr.del u.del
theorem St.arrB (s:St w0 w O) (h:Arr O O'):St w0 w O' /\Tr w O w O' :=⟨s.arr h,Tr.arr h⟩
theorem St.agr (s:St w0 w O) (h:Agree [] w w1):St w0 w1 O/\Tr w O w1 O:=⟨s.agree h,Tr.agree h⟩
theorem St.nilRowT (_:St w0 w O) (e:TypeId) (sz:Nat):Tr w O w (.row w0.heap.size e sz (.slice none 0 0) 0 [] :: O):=Tr.nilRow _ _ _
theorem eF {e:TypeId} {sz n:Nat} {v:Vc} {cs:List Vc} {b:Nat} (s:St w0 w O) (s1:St w w1 (aV b [(e,sz,v,n,cs)])):St w0 w1 (.row b e sz v n cs :: O):=St.merge s s1
theorem iM {e:TypeId} {sz n:Nat} {v:Vc} {cs:List Vc} {b:Nat} (s:St w0 w O) (s1:St w w1 (aV b [(e,sz,v,n,cs)])):Tr w O w1 (.row b e sz v n cs :: O):=Tr.merge s s1
theorem dK {P:Program} {f:FuncId} {vs:Array Vc} {w9:World} {α:Type} [Rep α] {F:Vc -> Vc} {e:TypeId} {sz n b0:Nat} {L:List Nat} {xs:List α} (h:Calls P f vs w9 (ae w9 fun w' u=>∃ (v:Vc) (cs:List Vc),u = F v/\St w9 w' (aV w9.heap.size [(e,sz,v,n,cs)])/\Cells w' (bl (aV w9.heap.size [(e,sz,v,n,cs)]) ++ L) cs xs)) (hw:Agree [] w w9) (hb:b0 <= w9.heap.size) :
  Calls P f vs w9 (ae w9 fun w' u=>∃ (v:Vc) (cs:List Vc),u = F v/\St w w' (aV b0 [(e,sz,v,n,cs)])/\Cells w' (bl (aV b0 [(e,sz,v,n,cs)]) ++ L) cs xs):=
 Calls.gives h fun _ _ ⟨v,cs,hu,s,hc⟩=>⟨v,cs,hu,s.rebase hw hb,hc.rebase⟩
end
/-! ### Short forms -/
section
variable {P:Program} {Z:Machine -> Prop} {b:Frame} {n:Nat} {ds:List Deferred} {cs:List Frame} {k:List Item} {σ:List (Nat × Vc)} {w w0:World} {ops:Array Oper} {l:List Oper} {d:Nat} {op:Op} {ty:TypeId} {ps:String} {af:Array Edge} {v:Vc} {x y:Operand} {t f m m' i:Nat} {O O' : List Ob} {g:Oa (Nat × Bool)} {κ:KP}
theorem RG.vv (hq:FV P ⟨some d,op,ty,ps,af,none⟩ σ w v) (hd:Nat.blt d n = true) (h:RG P Z b n ds cs ops l k ((d,v) :: σ) w):RG P Z b n ds cs ops (⟨some d,op,ty,ps,af,none⟩ :: l) k σ w:=RG.val' .plain hq hd h
theorem RG.mv (hx:ev σ x = some v) (hd:Nat.blt d n = true) (h:RG P Z b n ds cs ops l k ((d,v) :: σ) w):RG P Z b n ds cs ops (⟨some d,.move x,ty,ps,af,none⟩ :: l) k σ w:=RG.val' .plain (FV.move hx) hd h
theorem RG.sg (hx:ev σ x = some v) (hd:Nat.blt d n = true) (h:RG P Z b n ds cs ops l k ((d,v) :: σ) w):RG P Z b n ds cs ops (⟨some d,.assign x,ty,ps,af,none⟩ :: l) k σ w:=RG.val' .plain (FV.assign hx) hd h
theorem MX.sr {id:Nat} {c:Code} (h:RG P Z b n ds cs l.toArray l (.code c :: k) σ w):MX P Z b n ds cs (.code (.seq (.region id l.toArray false) c) :: k) σ w:=MX.seq (MX.region h)
theorem Acts.storeAll {bk:Nat} {p:Addr} {old news:List Vc} {e t:TypeId} {dd:Oa Tmp} (s:St w0 w O) (u:Upd O (.cells bk old e) (.cells bk news e) O') (hx:ev σ x = some (.pointer (some p))) (hp:p = ⟨bk,0,none⟩) (hy:ev σ y = some v) (hv:v.cells = news.toArray) (hs:bX P t news.length = true) (hl:old.length = news.length) (h1:∀ u ∈ news,u.oneCell' = true):Acts P ⟨dd,.store t x y,ty,ps,af,g⟩ σ w (Now w0 w O O'):=
 Acts.store (j:=0) s u hx hp hy hv hs (by rw [Nat.ble_eq,hl]; omega) h1 (by rw [Nat.zero_add,<- hl,List.drop_length,List.take_zero]; simp)
theorem RD.vw {T:List (Nat × Nat × Nat)} (i m' : Nat) (hT:bf ops = T) (hi:ops[i]? = some ⟨some d,op,ty,ps,af,none⟩) (hp:aO ops = true) (hq:∀ w,FV P ⟨some d,op,ty,ps,af,none⟩ σ w v) (hd:Nat.blt d n = true)
  (h:RD κ P Z b n ds cs ops t f m' k ((d,v) :: σ) w) (hB:dT T t m i m' = true:=by kernel_rfl) (hfr:κ.free i = true:=by rfl):RD κ P Z b n ds cs ops t (f + 1) m k σ w:=RD.vP i m' hT hi hp .plain hq hd h hB hfr
theorem RD.vx {T:List (Nat × Nat × Nat)} (i m' W:Nat) (hT:bf ops = T) (hi:ops[i]? = some ⟨some d,op,ty,ps,af,none⟩) (hp:aO ops = true) (hq:FV P ⟨some d,op,ty,ps,af,none⟩ σ w v) (hd:Nat.blt d n = true)
  (h:RD κ P Z b n ds cs ops t f m' k ((d,v) :: σ) w) (hB:iE T t m W i m' = true:=by kernel_rfl) (hfr:κ.free i = true:=by rfl):RD κ P Z b n ds cs ops t (f + 1) m k σ w:=RD.val (hO hT hB) hi hp .plain hq hd h hfr
theorem RD.vE {T:List (Nat × Nat × Nat)} {Q:Vc -> Prop} (i m' : Nat) (hT:bf ops = T) (hi:ops[i]? = some ⟨some d,op,ty,ps,af,g⟩) (hp:aO ops = true) (hg:Want ops σ g true) (he:∃ v,(∀ w,FV P ⟨some d,op,ty,ps,af,g⟩ σ w v)/\Q v) (hd:Nat.blt d n = true)
  (h:∀ v,Q v -> RD κ P Z b n ds cs ops t f m' k ((d,v) :: σ) w) (hB:dT T t m i m' = true:=by kernel_rfl) (hfr:κ.free i = true:=by rfl):RD κ P Z b n ds cs ops t (f + 1) m k σ w:=let ⟨v,h1,h2⟩:=he; RD.vP i m' hT hi hp hg h1 hd (h v h2) hB hfr
theorem RD.cq {T:List (Nat × Nat × Nat)} {fn:FuncId} {c:Operand} {xs:List Operand} {vs:List Vc} {ts:Array TypeId} (i m' W:Nat) (v:Vc) (hT:bf ops = T) (hi:ops[i]? = some ⟨some d,.call { callee:=.value c,args:=xs.toArray,argTypes:=ts },ty,ps,af,none⟩) (hp:aO ops = true)
  (hf:bE P fn = true) (hcal:ev σ c = some (.func (.func fn) #[] #[])) (hv:evs σ xs vs) (hc:∀ w', Agree [] w w' -> Calls P fn ([] ++ vs ++ []).toArray w' (ae w' fun _ u=>u = v)) (hd:Nat.blt d n = true)
  (h:RD κ P Z b n ds cs ops t f m' k ((d,v) :: σ) w) (hB:iE T t m W i m' = true:=by kernel_rfl) (hfr:κ.free i = true:=by rfl):RD κ P Z b n ds cs ops t (f + 1) m k σ w:=RD.callq (fst:=[]) (cap:=[]) (hO hT hB) hi hp .plain hf hcal hv hc hd h hfr
theorem RG.cq {fn:FuncId} {c:Operand} {xs:List Operand} {vs:List Vc} {ts:Array TypeId} (v:Vc) (hf:bE P fn = true) (hcal:ev σ c = some (.func (.func fn) #[] #[])) (hv:evs σ xs vs)
  (hc:∀ w', Agree [] w w' -> Calls P fn ([] ++ vs ++ []).toArray w' (ae w' fun _ u=>u = v)) (hd:Nat.blt d n = true) (h:RG P Z b n ds cs ops l k ((d,v) :: σ) w) :
  RG P Z b n ds cs ops (⟨some d,.call { callee:=.value c,args:=xs.toArray,argTypes:=ts },ty,ps,af,none⟩ :: l) k σ w:=RG.callq' (fst:=[]) (cap:=[]) .plain hf hcal hv hc hd h
theorem RD.nu {T:List (Nat × Nat × Nat)} {mk:Nat -> Ob} {pv:Nat -> Vc} (i m' : Nat) (hT:bf ops = T) (hi:ops[i]? = some ⟨some d,op,ty,ps,af,g⟩) (hg:Want ops σ g true) (hd:Nat.blt d n = true) (D:Does P ⟨some d,op,ty,ps,af,g⟩ σ w (New w0 w O mk pv)) (h:∀ w1 b', St w0 w1 (mk b' :: O) -> Tr w O w1 (mk b' :: O) -> RD κ P Z b n ds cs ops t f m' k ((d,pv b') :: σ) w1)
  (h1:fI T m [i] = true:=by kernel_rfl) (h2:ix T m i m' = true:=by kernel_rfl) (hk:κ.nd (lst ops.size m) -> Kp κ.c w:=by exact KP.triv):RD κ P Z b n ds cs ops t (f + 1) m k σ w:=RD.one (dD hT h1) (RO.new (eR hT h2) hi hg hd D h) hk
theorem RD.nw {T:List (Nat × Nat × Nat)} (i m' : Nat) (hT:bf ops = T) (hi:ops[i]? = some ⟨none,op,ty,ps,af,g⟩) (htl:tail t i = true) (hg:Want ops σ g true) (D:Acts P ⟨none,op,ty,ps,af,g⟩ σ w (Now w0 w O O')) (h:∀ w1,St w0 w1 O' -> Tr w O w1 O' -> RD κ P Z b n ds cs ops t f m' k σ w1)
  (h1:fI T m [i] = true:=by kernel_rfl) (h2:ix T m i m' = true:=by kernel_rfl) (hk:κ.nd (lst ops.size m) -> Kp κ.c w:=by exact KP.triv):RD κ P Z b n ds cs ops t (f + 1) m k σ w:=RD.one (dD hT h1) (RO.now (eR hT h2) hi htl hg D h) hk
theorem RD.cl {T:List (Nat × Nat × Nat)} {fn:FuncId} {c:Operand} {xs:List Operand} {vs:List Vc} {ts:Array TypeId} {R:World -> Vc -> Prop} (i m' : Nat) (hT:bf ops = T) (hi:ops[i]? = some ⟨some d,.call { callee:=.value c,args:=xs.toArray,argTypes:=ts },ty,ps,af,g⟩) (hg:Want ops σ g true)
  (hf:bE P fn = true) (hcal:ev σ c = some (.func (.func fn) #[] #[])) (hv:evs σ xs vs) (hc:∀ w', Agree [] w w' -> Calls P fn ([] ++ vs ++ []).toArray w' (ae w' R)) (hd:Nat.blt d n = true)
  (h:∀ w1 v,Agree [] w w1 -> R w1 v -> RD κ P Z b n ds cs ops t f m' k ((d,v) :: σ) w1) (h1:fI T m [i] = true:=by kernel_rfl) (h2:ix T m i m' = true:=by kernel_rfl) (hk:κ.nd (lst ops.size m) -> Kp κ.c w:=by exact KP.triv):RD κ P Z b n ds cs ops t (f + 1) m k σ w:=
 RD.one (dD hT h1) (RO.call (fst:=[]) (cap:=[]) (eR hT h2) hi hg hf hcal hv hc hd h) hk
end
theorem ai {l:List Vc} (h:l.all (·.oneCell') = true):∀ u ∈ l,u.oneCell' = true:=List.all_eq_true.1 h
section
variable {α:Type} [Rep α] {w w0:World} {O O' : List Ob} {L:List Nat} {v:Vc} {xs ys zs:List α} {cs:List Vc} {e:TypeId} {base:Nat}
variable {P:Program} {σ:List (Nat × Vc)} {ty:TypeId} {ps:String} {af:Array Edge} {x y:Operand} {t:TypeId} {g:Oa (Nat × Bool)} {bytes:Nat} {z:Vc} {zc:List Vc} {dd:Oa Tmp}
theorem FV.cutP0 {d:Oa Tmp} (ht:cO P t (Rep.size α) = true) (hx:ev σ x = some v) (h:Rep.R w L [v] xs) {lo hi:Oa Operand} {l u:Nat}
  (hlo:match lo with | none=>l = 0 | some y=>∃ k,ev σ y = some (.int k ((l:Nat):Int))) (hhi:match hi with | none=>u = xs.length | some y=>∃ k,ev σ y = some (.int k ((u:Nat):Int))) (hlu:l <= u) (hu:u <= xs.length) :
  ∃ v', (∀ w9,FV P ⟨d,.slice t x lo hi none,ty,ps,af,g⟩ σ w9 v')/\Rep.R w L [v'] ((xs.take u).drop l):=by
 obtain ⟨A,c,e,hc1,hc2,hc3,hE⟩:=h
 cases e
 unfold cO at ht
 split at ht
 ·rename_i e hun
  split at ht
  ·rename_i j hj
   have hs:j.size = Rep.size α:=by simpa using ht
   have hlen:((xs.take u).drop l).length = u - l:=by rw [List.length_drop,List.length_take]; omega
   refine ⟨.slice (if c = l then A else A.map (·.add (l * Rep.size α))) (u - l) (c - l),?_,_,c - l,by rw [hlen],by rw [hlen]; omega,by omega,by rw [hlen]; unfold bc at *; omega,fun i hi=>?_⟩
   ·intro _ ρ ha w' _
    have hb:(Instr.sliceBounds true xs.length c (lo.map ρ) (hi.map ρ) none).run P w' = .ok (l,u,c) w' :=by
     cases lo with
     | none=>
      subst hlo
      cases hi with
      | none=>subst hhi; simp [Instr.sliceBounds]
      | some y=>obtain ⟨k,hy⟩:=hhi; simp [Instr.sliceBounds,Instr.sliceBound,ha _ _ hy,asIntOf]; omega
     | some z=>
      obtain ⟨k,hz⟩:=hlo
      cases hi with
      | none=>subst hhi; simp [Instr.sliceBounds,Instr.sliceBound,ha _ _ hz,asIntOf]; omega
      | some y=>obtain ⟨k', hy⟩:=hhi; simp [Instr.sliceBounds,Instr.sliceBound,ha _ _ hy,ha _ _ hz,asIntOf]; rw [if_pos (by omega)]; simp; omega
    have hsz:(sizeOf e).run P w' = .ok (Rep.size α) w' :=by simp [sizeOf,typeInfo,hj,hs]
    simp only [execOp,ha _ _ hx,Instr.sliceAt]
    simp [Instr.slice,run_underlying hun,hb,hsz]
   ·have hi' : i < u - l:=by rw [hlen] at hi; exact hi
    obtain ⟨ad,rfl,hnb,cs,hr,hcell⟩:=hE (l + i) (by omega)
    have hne:¬ c = l:=by omega
    refine ⟨ad.add (l * Rep.size α),by rw [if_neg hne]; rfl,by rw [bY]; exact hnb,cs,?_,fun j u' hu' =>?_⟩
    ·have:((xs.take u).drop l)[i] = xs[l + i]'(by omega):=by simp
     rw [this]; exact hr
    ·have:=hcell j u' hu'
     rw [bh,show l * Rep.size α + (i * Rep.size α + j) = (l + i) * Rep.size α + j by rw [Nat.add_mul]; omega]
     exact this
  ·cases ht
 ·cases ht
theorem FV.cutP {d:Oa Tmp} {l u:Int} {lo hi:Oa Operand} (hc:Proofs.YthffdckehlgmgaaGreatDoor.cut xs l u = some ys) (ht:cO P t (Rep.size α) = true) (hx:ev σ x = some v) (h:Rep.R w L [v] xs)
  (hlo:match lo with | none=>l = 0 | some y=>∃ k,ev σ y = some (.int k l)) (hhi:match hi with | none=>u = (xs.length:Int) | some y=>∃ k,ev σ y = some (.int k u)) :
  ∃ v', (∀ w9,FV P ⟨d,.slice t x lo hi none,ty,ps,af,g⟩ σ w9 v')/\Rep.R w L [v'] ys:=by
 obtain ⟨rfl,h1,h2,h3,h4⟩:=nO hc
 refine FV.cutP0 (l:=l.toNat) (u:=u.toNat) ht hx h ?_ ?_ h3 h4
 ·cases lo with
  | none=>simp only at hlo ⊢; omega
  | some y=>obtain ⟨k,hk⟩:=hlo; exact ⟨k,by rw [hk,<- h1]⟩
 ·cases hi with
  | none=>simp only at hhi ⊢; omega
  | some y=>obtain ⟨k,hk⟩:=hhi; exact ⟨k,by rw [hk,<- h2]⟩
inductive Reps {α:Type} [Rep α] (w:World) (L:List Nat):List (List Vc) -> List α -> Prop
 | nil:Reps w L [] []
 | cons {c:List Vc} {u:α} {css:List (List Vc)} {us:List α} (h:Rep.R w L c u) (t:Reps w L css us):Reps w L (c :: css) (u :: us)
theorem ny {css:List (List Vc)} (hF:Reps w L css xs):∀ {i:Nat} {u:α},xs[i]? = some u -> ∃ ds,Rep.R w L ds u/\(css.flatten.drop (i * Rep.size α)).take (Rep.size α) = ds:=by
 induction hF with
 | nil=>intro i u h; simp at h
 | @cons c x css us h1 h2 ih=>
  intro i u hu
  cases i with
  | zero=>
   simp only [List.getElem?_cons_zero,Option.some.injEq] at hu
   subst hu
   exact ⟨c,h1,by rw [Nat.zero_mul,List.drop_zero,List.flatten_cons,<- Rep.len h1,List.take_left']; rfl⟩
  | succ i=>
   obtain ⟨ds,h3,h4⟩:=ih (by simpa using hu)
   refine ⟨ds,h3,?_⟩
   rw [<- h4,List.flatten_cons,Nat.succ_mul,Nat.add_comm,<- List.drop_drop,List.drop_left' (Rep.len h1)]
theorem FV.idxRP {d:Oa Tmp} {len i:Nat} {kd:IntKind} {j:Int} {cells:List Vc} {css:List (List Vc)} {u:α} (h:nn P t (Rep.size α) true = true) (hl:ol P t = len) (hn:xs.length = len) (hx:ev σ x = some (.agg cells.toArray)) (hc:cells = css.flatten) (hy:ev σ y = some (.int kd j)) (hi:j = (i:Int))
  (hF:Reps w L css xs) (hz:xs[i]? = some u):∃ v,(∀ w9,FV P ⟨d,.index t x y,ty,ps,af,g⟩ σ w9 v)/\∃ ds,v = .agg ds.toArray/\Rep.R w L ds u:=by
 obtain ⟨ds,h1,h2⟩:=ny hF hz
 subst hc
 exact ⟨_,fun _=>FV.idxN h hl hx hy hi (by rw [<- hn]; exact (List.getElem?_eq_some_iff.1 hz).1) h2,ds,rfl,h1⟩
theorem FV.idxR {d:Oa Tmp} {len i:Nat} {kd:IntKind} {j:Int} {cells:List Vc} {css:List (List Vc)} {u:α} (h:nn P t (Rep.size α) true = true) (hl:ol P t = len) (hn:xs.length = len) (hx:ev σ x = some (.agg cells.toArray)) (hc:cells = css.flatten) (hy:ev σ y = some (.int kd j)) (hi:j = (i:Int))
  (hF:Reps w L css xs) (hz:xs[i]? = some u):∃ v,FV P ⟨d,.index t x y,ty,ps,af,g⟩ σ w v/\∃ ds,v = .agg ds.toArray/\Rep.R w L ds u:=
 let ⟨v,h1,h2⟩:=FV.idxRP h hl hn hx hc hy hi hF hz; ⟨v,h1 w,h2⟩
end
section
variable {α:Type} [Rep α] {w0 w w9:World} {O:List Ob} {L:List Nat} {cs:List Vc} {x:α}
theorem St.k0 (s:St w0 w O) (h:Rep.R w0 L cs x) (hw:Agree [] w w9):Rep.R w9 L cs x:=Rep.keep0 h (s.ag.trans hw)
theorem St.km (s:St w0 w O) (h:Rep.R w0 L cs x) (hw:Agree [] w w9):Rep.R w9 (bl O ++ L) cs x:=Rep.keep0 (Rep.mv0 h s) hw
theorem St.kd (_:St w0 w O) (h:Rep.R w (bl O ++ L) cs x) (hw:Agree [] w w9):Rep.R w9 L cs x:=Rep.keep0 (Rep.dropO h) hw
end
section
variable {P:Program} {Z:Machine -> Prop} {b:Frame} {n:Nat} {ds:List Deferred} {cs:List Frame} {k:List Item} {σ τ:List (Nat × Vc)} {w:World} {ops:Array Oper} {l:List Oper} {d:Nat} {op:Op} {ty:TypeId} {ps:String} {af:Array Edge} {g:Oa (Nat × Bool)} {t f m m' i:Nat} {Q:Vc -> Prop} {κ:KP}
end
section
variable {w0 w w1:World} {O O' : List Ob}
end
/-! ### Shorter forms -/
@[reducible] def vI (x:Int):Vc:=.int .i64 x
@[reducible] def vN:Vc:=.slice none 0 0
@[reducible] def vP (b:Nat):Vc:=.pointer (some ⟨b,0,none⟩)
@[reducible] def vS (b n:Nat):Vc:=.slice (some ⟨b,0,none⟩) n n
section
variable {P:Program} {Z:Machine -> Prop} {b:Frame} {n:Nat} {ds:List Deferred} {cs:List Frame} {k:List Item} {σ:List (Nat × Vc)} {w w0:World} {ops:Array Oper} {l:List Oper} {d:Nat} {op:Op} {ty:TypeId} {ps:String} {af:Array Edge} {v:Vc} {x y c:Operand} {t f m m' i:Nat} {O O' : List Ob} {g:Oa (Nat × Bool)} {dd:Oa Tmp} {j:Nat} {q:Bool} {p:Addr}
theorem RG.mo (hx:ev σ x = some v) (h:RG P Z b n ds cs ops l k ((d,v) :: σ) w) (hd:Nat.blt d n = true:=by rfl):RG P Z b n ds cs ops (⟨some d,.move x,ty,ps,af,none⟩ :: l) k σ w:=RG.mv hx hd h
theorem RG.so (hx:ev σ x = some v) (h:RG P Z b n ds cs ops l k ((d,v) :: σ) w) (hd:Nat.blt d n = true:=by rfl):RG P Z b n ds cs ops (⟨some d,.assign x,ty,ps,af,none⟩ :: l) k σ w:=RG.sg hx hd h
theorem RG.va (hq:FV P ⟨some d,op,ty,ps,af,none⟩ σ w v) (h:RG P Z b n ds cs ops l k ((d,v) :: σ) w) (hd:Nat.blt d n = true:=by rfl):RG P Z b n ds cs ops (⟨some d,op,ty,ps,af,none⟩ :: l) k σ w:=RG.vv hq hd h
theorem RG.ga (hq:FV P ⟨some d,op,ty,ps,af,some (j,q)⟩ σ w v) (h:RG P Z b n ds cs ops l k ((d,v) :: σ) w) (hg:Want ops σ (some (j,q)) true:=by exact .yes rfl rfl) (hd:Nat.blt d n = true:=by rfl):RG P Z b n ds cs ops (⟨some d,op,ty,ps,af,some (j,q)⟩ :: l) k σ w:=RG.val' hg hq hd h
theorem RG.no  (h:RG P Z b n ds cs ops l k ((d,undef) :: σ) w) (hg:Want ops σ (some (j,q)) false:=by exact .no rfl rfl) (hd:Nat.blt d n = true:=by rfl):RG P Z b n ds cs ops (⟨some d,op,ty,ps,af,some (j,q)⟩ :: l) k σ w:=RG.off hg hd h
theorem RG.un  (h:RG P Z b n ds cs ops l k ((d,undef) :: σ) w) (hg:Want ops σ (some (j,q)) false:=by exact .undef rfl rfl) (hd:Nat.blt d n = true:=by rfl):RG P Z b n ds cs ops (⟨some d,op,ty,ps,af,some (j,q)⟩ :: l) k σ w:=RG.off hg hd h
theorem FV.fa {fi:Nat} (off:Nat) (hx:ev σ x = some (.pointer (some p))) (hf:gA P t fi off = true:=by kernel_rfl):FV P ⟨dd,.fieldAddr t x fi,ty,ps,af,g⟩ σ w (.pointer (some (p.add off))):=FV.fieldAddr hf hx
theorem FV.l1 (hx:ev σ x = some (.pointer (some p))) (hc:w.cell? p = some v) (ht:lh P t = true:=by kernel_rfl):FV P ⟨dd,.load t x,ty,ps,af,g⟩ σ w v:=FV.load1 ht hx hc
theorem FV.lN {cl:List Vc} (hx:ev σ x = some (.pointer (some p))) (hc:∀ j v,cl[j]? = some v -> w.cell? (p.add j) = some v) (ht:me P t cl.length = true:=by kernel_rfl):FV P ⟨dd,.load t x,ty,ps,af,g⟩ σ w (.agg cl.toArray):=FV.loadN ht hx hc
theorem FV.ia {len c:Nat} {kd:IntKind} {j:Int} (m i:Nat) (hx:ev σ x = some v) (he:v = .slice (some p) len c) (hy:ev σ y = some (.int kd j)) (hj:j = (i:Int)) (hk:i < len) (ht:cO P t m = true:=by kernel_rfl):FV P ⟨dd,.indexAddr t x y,ty,ps,af,g⟩ σ w (.pointer (some (p.add (i * m)))):=FV.idxAddr ht hx he hy hj hk
theorem RG.fa {fi:Nat} (off:Nat) (hx:ev σ x = some (.pointer (some p))) (h:RG P Z b n ds cs ops l k ((d,.pointer (some (p.add off))) :: σ) w) (hf:gA P t fi off = true:=by kernel_rfl) (hd:Nat.blt d n = true:=by rfl):RG P Z b n ds cs ops (⟨some d,.fieldAddr t x fi,ty,ps,af,none⟩ :: l) k σ w:=RG.vv (FV.fieldAddr hf hx) hd h
theorem RG.fg {fi:Nat} (off:Nat) (hx:ev σ x = some (.pointer (some p))) (h:RG P Z b n ds cs ops l k ((d,.pointer (some (p.add off))) :: σ) w) (hf:gA P t fi off = true:=by kernel_rfl) (hg:Want ops σ (some (j,q)) true:=by exact .yes rfl rfl) (hd:Nat.blt d n = true:=by rfl):RG P Z b n ds cs ops (⟨some d,.fieldAddr t x fi,ty,ps,af,some (j,q)⟩ :: l) k σ w:=RG.val' hg (FV.fieldAddr hf hx) hd h
theorem RG.l1 (hx:ev σ x = some (.pointer (some p))) (hc:w.cell? p = some v) (h:RG P Z b n ds cs ops l k ((d,v) :: σ) w) (ht:lh P t = true:=by kernel_rfl) (hd:Nat.blt d n = true:=by rfl):RG P Z b n ds cs ops (⟨some d,.load t x,ty,ps,af,none⟩ :: l) k σ w:=RG.vv (FV.load1 ht hx hc) hd h
theorem RG.pt (hc:ev σ c = some (.bool true)) (hx:ev σ x = some v) (h:RG P Z b n ds cs ops l k ((d,v) :: σ) w) (hd:Nat.blt d n = true:=by rfl):RG P Z b n ds cs ops (⟨some d,.pick c x y,ty,ps,af,none⟩ :: l) k σ w:=RG.vv (FV.pick_t hc hx) hd h
theorem RG.pf (hc:ev σ c = some (.bool false)) (hx:ev σ y = some v) (h:RG P Z b n ds cs ops l k ((d,v) :: σ) w) (hd:Nat.blt d n = true:=by rfl):RG P Z b n ds cs ops (⟨some d,.pick c x y,ty,ps,af,none⟩ :: l) k σ w:=RG.vv (FV.pick_f hc hx) hd h
theorem e1 {x0:Operand} {v0:Vc} (h0:ev σ x0 = some v0):evs σ [x0] [v0]:=aw h0 (ak)
theorem o1 {v0:Vc} (h0:v0.oneCell' = true):∀ u ∈ [v0],u.oneCell' = true:=aI h0 (dc)
theorem e2 {x0 x1:Operand} {v0 v1:Vc} (h0:ev σ x0 = some v0) (h1:ev σ x1 = some v1):evs σ [x0,x1] [v0,v1]:=aw h0 (aw h1 (ak))
theorem o2 {v0 v1:Vc} (h0:v0.oneCell' = true) (h1:v1.oneCell' = true):∀ u ∈ [v0,v1],u.oneCell' = true:=aI h0 (aI h1 (dc))
theorem e3 {x0 x1 x2:Operand} {v0 v1 v2:Vc} (h0:ev σ x0 = some v0) (h1:ev σ x1 = some v1) (h2:ev σ x2 = some v2):evs σ [x0,x1,x2] [v0,v1,v2]:=aw h0 (aw h1 (aw h2 (ak)))
theorem e4 {x0 x1 x2 x3:Operand} {v0 v1 v2 v3:Vc} (h0:ev σ x0 = some v0) (h1:ev σ x1 = some v1) (h2:ev σ x2 = some v2) (h3:ev σ x3 = some v3):evs σ [x0,x1,x2,x3] [v0,v1,v2,v3]:=aw h0 (aw h1 (aw h2 (aw h3 (ak))))
theorem o4 {v0 v1 v2 v3:Vc} (h0:v0.oneCell' = true) (h1:v1.oneCell' = true) (h2:v2.oneCell' = true) (h3:v3.oneCell' = true):∀ u ∈ [v0,v1,v2,v3],u.oneCell' = true:=aI h0 (aI h1 (aI h2 (aI h3 (dc))))
theorem e5 {x0 x1 x2 x3 x4:Operand} {v0 v1 v2 v3 v4:Vc} (h0:ev σ x0 = some v0) (h1:ev σ x1 = some v1) (h2:ev σ x2 = some v2) (h3:ev σ x3 = some v3) (h4:ev σ x4 = some v4):evs σ [x0,x1,x2,x3,x4] [v0,v1,v2,v3,v4]:=aw h0 (aw h1 (aw h2 (aw h3 (aw h4 (ak)))))
theorem o5 {v0 v1 v2 v3 v4:Vc} (h0:v0.oneCell' = true) (h1:v1.oneCell' = true) (h2:v2.oneCell' = true) (h3:v3.oneCell' = true) (h4:v4.oneCell' = true):∀ u ∈ [v0,v1,v2,v3,v4],u.oneCell' = true:=aI h0 (aI h1 (aI h2 (aI h3 (aI h4 (dc)))))
theorem e6 {x0 x1 x2 x3 x4 x5:Operand} {v0 v1 v2 v3 v4 v5:Vc} (h0:ev σ x0 = some v0) (h1:ev σ x1 = some v1) (h2:ev σ x2 = some v2) (h3:ev σ x3 = some v3) (h4:ev σ x4 = some v4) (h5:ev σ x5 = some v5):evs σ [x0,x1,x2,x3,x4,x5] [v0,v1,v2,v3,v4,v5]:=aw h0 (aw h1 (aw h2 (aw h3 (aw h4 (aw h5 (ak))))))
theorem o6 {v0 v1 v2 v3 v4 v5:Vc} (h0:v0.oneCell' = true) (h1:v1.oneCell' = true) (h2:v2.oneCell' = true) (h3:v3.oneCell' = true) (h4:v4.oneCell' = true) (h5:v5.oneCell' = true):∀ u ∈ [v0,v1,v2,v3,v4,v5],u.oneCell' = true:=aI h0 (aI h1 (aI h2 (aI h3 (aI h4 (aI h5 (dc))))))
theorem e7 {x0 x1 x2 x3 x4 x5 x6:Operand} {v0 v1 v2 v3 v4 v5 v6:Vc} (h0:ev σ x0 = some v0) (h1:ev σ x1 = some v1) (h2:ev σ x2 = some v2) (h3:ev σ x3 = some v3) (h4:ev σ x4 = some v4) (h5:ev σ x5 = some v5) (h6:ev σ x6 = some v6):evs σ [x0,x1,x2,x3,x4,x5,x6] [v0,v1,v2,v3,v4,v5,v6]:=aw h0 (aw h1 (aw h2 (aw h3 (aw h4 (aw h5 (aw h6 (ak)))))))
theorem e8 {x0 x1 x2 x3 x4 x5 x6 x7:Operand} {v0 v1 v2 v3 v4 v5 v6 v7:Vc} (h0:ev σ x0 = some v0) (h1:ev σ x1 = some v1) (h2:ev σ x2 = some v2) (h3:ev σ x3 = some v3) (h4:ev σ x4 = some v4) (h5:ev σ x5 = some v5) (h6:ev σ x6 = some v6) (h7:ev σ x7 = some v7):evs σ [x0,x1,x2,x3,x4,x5,x6,x7] [v0,v1,v2,v3,v4,v5,v6,v7]:=aw h0 (aw h1 (aw h2 (aw h3 (aw h4 (aw h5 (aw h6 (aw h7 (ak))))))))
theorem RT.t1 {fi:FuncId} {fn:Func} {r:Tmp} {X:Vc -> World -> Prop} (hk:RetOK P Z fi cs X) (hf:P.funcs[fi]? = some fn) (hr:fn.results = #[.tmp r]) (hx:look σ r = some v) (h:X v w):RT P Z (fb fi .normal none) n [] cs σ w:=RT.leave hk hf hr (.cons (.tmp hx) .nil) rfl h
theorem St.gv {u:Vc} (s:St w0 w O):Agree [] w0 w/\∀ w9,Agree [] w w9 -> u = u:=⟨s.ag,fun _ _=>rfl⟩
end
section
variable {P:Program} {Z:Machine -> Prop} {b:Frame} {n:Nat} {ds:List Deferred} {cs:List Frame} {k:List Item} {σ:List (Nat × Vc)} {w w0 w1:World} {ops:Array Oper} {l:List Oper} {ty:TypeId} {ps:String} {af:Array Edge} {v:Vc} {x y:Operand} {t:TypeId} {O O' : List Ob} {g:Oa (Nat × Bool)} {dd:Oa Tmp} {p:Addr}
theorem RG.sa {bk:Nat} {old:List Vc} {e:TypeId} (news:List Vc) (s:St w0 w O) (u:Upd O (.cells bk old e) (.cells bk news e) O') (h1:∀ u ∈ news,u.oneCell' = true) (h:∀ w1,St w0 w1 O' -> Tr w O w1 O' -> RG P Z b n ds cs ops l k σ w1) (hx:ev σ x = some (.pointer (some p)):=by rfl) (hp:p = ⟨bk,0,none⟩:=by rfl) (hy:ev σ y = some v:=by rfl) (hv:v.cells = news.toArray:=by rfl) (hs:bX P t news.length = true:=by rfl) (hl:old.length = news.length:=by rfl):RG P Z b n ds cs ops (⟨none,.store t x y,ty,ps,af,none⟩ :: l) k σ w:=RG.now .plain (Acts.storeAll s u hx hp hy hv hs hl h1) h
theorem Does.al (zs:List Vc) (s:St w0 w O) (hz:cI P t zs:=by exact zB (by kernel_rfl)):Does P ⟨dd,.alloc t,ty,ps,af,g⟩ σ w (New w0 w O (fun b' =>.cells b' zs t) (fun b' =>.pointer (some ⟨b', 0,none⟩))):=Does.alloc s hz
theorem gr {o:Ob} (s:St w0 w O) (s1:St w w1 [o]):St w0 w1 (o :: O):=St.merge s s1
theorem lj {o:Ob} (s:St w0 w O) (s1:St w w1 [o]):Tr w O w1 (o :: O):=Tr.merge s s1
theorem gP {o o2:Ob} (s:St w0 w O) (s1:St w w1 [o,o2]):St w0 w1 (o :: o2 :: O):=St.merge s s1
theorem kW {o o2:Ob} (s:St w0 w O) (s1:St w w1 [o,o2]):Tr w O w1 (o :: o2 :: O):=Tr.merge s s1
end
end
section
open Go Go.RowKit
def left {ε:Type} (D:List ε) (sn:Array Nat):List ε:=(D.zipIdx.filter fun e=>!sn.contains e.2).map (·.1)
section
variable {P:Program} {Z:Machine -> Prop} {b:Frame} {n:Nat} {ds:List Deferred} {cs:List Frame} {k:List Item} {σ τ:List (Nat × Vc)} {w w0:World} {ops:Array Oper} {l:List Oper} {d:Nat} {ty:TypeId} {ps:String} {af:Array Edge} {x:Operand} {t:TypeId} {O O' : List Ob} {dd:Oa Tmp} {g:Oa (Nat × Bool)}
variable {κ ν:Type} [Enc κ] [Enc ν]
end
end
section
open Go Go.RowKit
theorem ge {O O' : List Ob} (p:O.Perm O') {b:Nat}:b ∈ bl O ↔ b ∈ bl O' :=(p.filterMap Ob.block).mem_iff
theorem Owns.perm {w:World} {O O' : List Ob} (p:O.Perm O'):Owns w O -> Owns w O' :=by
 induction p with
 | nil=>exact id
 | cons x p ih=>exact fun h=>⟨h.1,fun b e hm=>h.2.1 b e ((ge p).2 hm),ih h.2.2⟩
 | swap x y l=>
  rintro ⟨h1,h2,h3,h4,h5⟩
  refine ⟨h3,fun b e hm=>?_,h1,fun b e hm=>h2 b e (av.2 (.inr hm)),h5⟩
  rcases av.1 hm with hm | hm
  ·exact h2 b hm (av.2 (.inl e))
  ·exact h4 b e hm
 | trans _ _ ih1 ih2=>exact fun h=>ih2 (ih1 h)
theorem St.perm {w0 w:World} {O O' : List Ob} (s:St w0 w O) (p:O.Perm O'):St w0 w O' :=⟨s.ag,fun b hb=>s.new b ((ge p).2 hb),s.ok.perm p⟩
theorem Tr.perm {w:World} {O O' : List Ob} (p:O.Perm O'):Tr w O w O' :=⟨Agree.refl _ _,fun _ hb=>.inl ((ge p).2 hb)⟩
instance:Enc (Option Nat):=⟨fun a=>.pointer (a.map fun b=>⟨b,0,none⟩)⟩
section
variable {κ β:Type}
variable {w w0:World} {T pre:List Ob} {t:TypeId} {f:β -> List Vc} {Z Z1 Z2:List ((κ × β) × Nat)} {k:κ} {y y' : β} {b:Nat}
end
section
variable {P:Program} {Z:Machine -> Prop} {b:Frame} {n:Nat} {ds:List Deferred} {cs:List Frame} {k:List Item} {σ τ:List (Nat × Vc)} {w w0:World} {ops:Array Oper} {l:List Oper} {d:Nat} {ty:TypeId} {ps:String} {af:Array Edge} {x y:Operand} {t t' e:TypeId} {O O' : List Ob} {dd:Oa Tmp} {g:Oa (Nat × Bool)}
end
end
section
open Go Go.RowKit
section
variable {w w0:World} {O O' T pre pre' : List Ob} {L:List Nat} {base e e2:Nat} {v0 v y:Vc} {Z Z1 Z2:List (Vc × List Int)} {xs xs' : List Int} {cs cs' : List Vc}
def iC (xs:List Int):List Vc:=xs.map fun x=>.int .i64 x
def gI (base e:Nat) (Z:List (Vc × List Int)):List Ob:=Z.map fun z=>.row base e (Rep.size Int) z.1 z.2.length (iC z.2)
def gC (Z:List (Vc × List Int)):List Vc:=Z.map (·.1)
@[reducible] def gM (Z:List (Vc × List Int)):List (List Int):=Z.map (·.2)
theorem Cells.int (w:World) (L:List Nat) (xs:List Int):Cells w L (iC xs) xs:=by
 induction xs with
 | nil=>exact Cells.nil _ _
 | cons x xs ih=>exact Cells.cons (cs:=[.int .i64 x]) (x:=x) I ih
theorem Cells.int_eq (h:Cells w L cs xs):cs = iC xs:=by
 refine List.ext_getElem (by rw [h.1]; simp [iC,Rep.size]) fun i h1 h2=>?_
 have hi:i < xs.length:=by simpa [iC] using h2
 have h3:(cs.drop (i * 1)).take 1 = [.int .i64 xs[i]]:=h.2 i hi
 have h4:((cs.drop (i * 1)).take 1)[0]? = some (.int .i64 xs[i]):=by rw [h3]; rfl
 rw [List.getElem?_take_of_lt (by omega),List.getElem?_drop,Nat.mul_one,Nat.add_zero,List.getElem?_eq_getElem h1] at h4
 simpa [iC] using Option.some.inj h4
theorem Out.perm {O O' : List Ob} {o:Ob} (u:Out O o O'):O.Perm (o :: O'):=by
 induction u with
 | hd=>exact List.Perm.refl _
 | tl _ ih=>exact (ih.cons _).trans (List.Perm.swap _ _ _)
theorem gI_cons (z:Vc × List Int):(gI base e (Z1 ++ z :: Z2)).Perm (.row base e (Rep.size Int) z.1 z.2.length (iC z.2) :: gI base e (Z1 ++ Z2)):=by
 unfold gI
 exact (List.perm_middle (a:=z) (l₁:=Z1) (l₂:=Z2)).map _
theorem dI (z:Vc × List Int):(pre ++ (gI base e (Z1 ++ z :: Z2) ++ T)).Perm (.row base e (Rep.size Int) z.1 z.2.length (iC z.2) :: (pre ++ (gI base e (Z1 ++ Z2) ++ T))):=
 (((gI_cons z).append_right T).append_left pre).trans (List.perm_middle (l₁:=pre) (l₂:=gI base e (Z1 ++ Z2) ++ T))
theorem gC_set (xs' : List Int):gC (Z1 ++ (y,xs) :: Z2) = gC (Z1 ++ (y,xs') :: Z2):=by simp [gC]
theorem nv (xs' : List Int) (y' : Vc):(gM (Z1 ++ (y,xs) :: Z2)).length = (gM (Z1 ++ (y', xs') :: Z2)).length:=by simp [gM]
theorem St.gOpen (s:St w0 w (pre ++ (gI base e (Z1 ++ (y,xs) :: Z2) ++ T))):St w0 w (.row base e (Rep.size Int) y xs.length (iC xs) :: (pre ++ (gI base e (Z1 ++ Z2) ++ T)))/\Tr w (pre ++ (gI base e (Z1 ++ (y,xs) :: Z2) ++ T)) w (.row base e (Rep.size Int) y xs.length (iC xs) :: (pre ++ (gI base e (Z1 ++ Z2) ++ T))):=
 ⟨s.perm (dI (y,xs)),Tr.perm (dI (y,xs))⟩
theorem St.gShut {Q:Nat -> List Vc -> List Ob} (hc:Cells w L cs' xs') (s:St w0 w (.row base e (Rep.size Int) y xs'.length cs' :: (Q (gM (Z1 ++ (y,xs) :: Z2)).length (gC (Z1 ++ (y,xs) :: Z2)) ++ (gI base e (Z1 ++ Z2) ++ T)))) :
  St w0 w (Q (gM (Z1 ++ (y,xs') :: Z2)).length (gC (Z1 ++ (y,xs') :: Z2)) ++ (gI base e (Z1 ++ (y,xs') :: Z2) ++ T))/\Tr w (.row base e (Rep.size Int) y xs'.length cs' :: (Q (gM (Z1 ++ (y,xs) :: Z2)).length (gC (Z1 ++ (y,xs) :: Z2)) ++ (gI base e (Z1 ++ Z2) ++ T))) w (Q (gM (Z1 ++ (y,xs') :: Z2)).length (gC (Z1 ++ (y,xs') :: Z2)) ++ (gI base e (Z1 ++ (y,xs') :: Z2) ++ T)):=by
 obtain rfl:=hc.int_eq
 have c1:=gC_set (Z1:=Z1) (Z2:=Z2) (y:=y) (xs:=xs) xs'
 have c2:=nv (Z1:=Z1) (Z2:=Z2) (y:=y) (xs:=xs) xs' y
 rw [c1,c2] at s ⊢
 exact ⟨s.perm (dI (y,xs')).symm,Tr.perm (dI (y,xs')).symm⟩
theorem St.gPut {Q:Nat -> List Vc -> List Ob} {v' : Vc} {i:Nat} (hi:Z1.length = i) (hc:Cells w L cs' xs') (s:St w0 w (.row base e (Rep.size Int) v' xs'.length cs' :: (Q (gM (Z1 ++ (y,xs) :: Z2)).length ((gC (Z1 ++ (y,xs) :: Z2)).set i v') ++ (gI base e (Z1 ++ (y,xs) :: Z2) ++ T)))) :
  St w0 w (Q (gM (Z1 ++ (v', xs') :: Z2)).length (gC (Z1 ++ (v', xs') :: Z2)) ++ (gI base e (Z1 ++ (v', xs') :: Z2) ++ T))/\Tr w (.row base e (Rep.size Int) v' xs'.length cs' :: (Q (gM (Z1 ++ (y,xs) :: Z2)).length ((gC (Z1 ++ (y,xs) :: Z2)).set i v') ++ (gI base e (Z1 ++ (y,xs) :: Z2) ++ T))) w (Q (gM (Z1 ++ (v', xs') :: Z2)).length (gC (Z1 ++ (v', xs') :: Z2)) ++ (gI base e (Z1 ++ (v', xs') :: Z2) ++ T)):=by
 obtain rfl:=hc.int_eq
 have e1:(gC (Z1 ++ (y,xs) :: Z2)).set i v' = gC (Z1 ++ (v', xs') :: Z2):=by
  subst hi
  have h2:=List.set_append_right (s:=Z1.map (·.1)) (t:=y :: Z2.map (·.1)) Z1.length v' (by simp)
  simp only [gC,List.map_append,List.map_cons]
  rw [h2]; simp
 have c2:=nv (Z1:=Z1) (Z2:=Z2) (y:=y) (xs:=xs) xs' v'
 rw [e1,c2] at s ⊢
 have d:Del (.row base e (Rep.size Int) v' xs'.length (iC xs') :: .row base e (Rep.size Int) y xs.length (iC xs) :: (Q (gM (Z1 ++ (v', xs') :: Z2)).length (gC (Z1 ++ (v', xs') :: Z2)) ++ (gI base e (Z1 ++ Z2) ++ T))) (.row base e (Rep.size Int) v' xs'.length (iC xs') :: (Q (gM (Z1 ++ (v', xs') :: Z2)).length (gC (Z1 ++ (v', xs') :: Z2)) ++ (gI base e (Z1 ++ Z2) ++ T))):=.keep (.drop (Del.refl _))
 have p1:=(dI (pre:=Q (gM (Z1 ++ (v', xs') :: Z2)).length (gC (Z1 ++ (v', xs') :: Z2))) (base:=base) (e:=e) (T:=T) (Z1:=Z1) (Z2:=Z2) (y,xs)).cons (.row base e (Rep.size Int) v' xs'.length (iC xs'))
 have p2:=(dI (pre:=Q (gM (Z1 ++ (v', xs') :: Z2)).length (gC (Z1 ++ (v', xs') :: Z2))) (base:=base) (e:=e) (T:=T) (Z1:=Z1) (Z2:=Z2) (v', xs')).symm
 exact ⟨((s.perm p1).del d).perm p2,((Tr.perm p1).trans (Tr.del d)).trans (Tr.perm p2)⟩
theorem g_split {i:Nat} (h:(gM Z)[i]? = some xs):∃ Z1 y Z2,Z = Z1 ++ (y,xs) :: Z2/\Z1.length = i/\∀ (y' : Vc) (xs' : List Int),(gM Z).set i xs' = gM (Z1 ++ (y', xs') :: Z2):=by
 obtain ⟨hi,h2⟩:=List.getElem?_eq_some_iff.1 h
 have hi' : i < Z.length:=by simpa [gM] using hi
 have h3:Z[i].2 = xs:=by simpa [gM] using h2
 have e0:Z = Z.take i ++ Z[i] :: Z.drop (i + 1):=by rw [<- List.drop_eq_getElem_cons hi', List.take_append_drop]
 refine ⟨Z.take i,Z[i].1,Z.drop (i + 1),by rw [<- h3]; exact e0,by rw [List.length_take]; omega,fun y' xs' =>?_⟩
 have hl:(Z.take i).length = i:=by rw [List.length_take]; omega
 have e1:gM Z = (Z.take i).map (·.2) ++ Z[i].2 :: (Z.drop (i + 1)).map (·.2):=by
  have:=congrArg (List.map (·.2)) e0
  rwa [List.map_append,List.map_cons] at this
 rw [e1,List.set_append_right _ _ (by simp; omega)]
 simp only [gM,List.map_append,List.map_cons,List.length_map,hl,Nat.sub_self,List.set_cons_zero]
theorem St.gNth (s:St w0 w O) (u:At O (.row base e2 (Rep.size (List Int)) v0 (gM (Z1 ++ (y,xs) :: Z2)).length (gC (Z1 ++ (y,xs) :: Z2)))) {i:Nat} (hi:Z1.length = i) :
  ∃ bk c,v0 = .slice (some ⟨bk,0,none⟩) (gM (Z1 ++ (y,xs) :: Z2)).length c/\i < (gM (Z1 ++ (y,xs) :: Z2)).length/\∀ j u,[y][j]? = some u -> w.cell? (((⟨bk,0,none⟩:Addr).add (i * 1)).add j) = some u:=by
 obtain ⟨A,c,h1,_,_,_,h5,h6⟩:=s.rowForm u.upd
 have hl:i < (gM (Z1 ++ (y,xs) :: Z2)).length:=by simp [gM]; omega
 obtain ⟨bk,rfl⟩:=h5 (by omega)
 refine ⟨bk,c,h1,hl,fun j u hu=>?_⟩
 obtain rfl:j = 0:=by
  rcases j with _ | j
  ·rfl
  ·simp at hu
 rw [bh]
 refine h6 _ I _ _ ?_
 subst hi
 have:(gC (Z1 ++ (y,xs) :: Z2))[Z1.length]? = some y:=by
  unfold gC
  rw [List.getElem?_map,List.getElem?_append_right (Nat.le_refl _)]; simp
 simpa [this] using hu
theorem gC_rep (n:Nat):(List.replicate n [Value.slice none 0 0]).flatten = gC (List.replicate n ((.slice none 0 0:Vc),([]:List Int))):=by
 induction n with
 | zero=>rfl
 | succ n ih=>rw [List.replicate_succ,List.flatten_cons,ih]; rfl
theorem St.nils (s:St w0 w O) (base e n:Nat):St w0 w (gI base e (List.replicate n ((.slice none 0 0:Vc),([]:List Int))) ++ O):=by
 induction n with
 | zero=>exact s
 | succ n ih=>exact ih.push (Agree.refl _ _) ⟨World.ownsRow_nil w _ e _,by simp [dQ]⟩ (fun b e=>by cases e)
theorem nils_bl (O:List Ob) (base e n:Nat):bl (gI base e (List.replicate n ((.slice none 0 0:Vc),([]:List Int))) ++ O) = bl O:=by
 induction n with
 | zero=>rfl
 | succ n ih=>exact ih
theorem St.gMake {n m:Nat} (hm:m = n) (e:Nat) (s:St w0 w (.row base e2 (Rep.size (List Int)) v0 m (List.replicate n [Value.slice none 0 0]).flatten :: O)) :
  St w0 w (.row base e2 (Rep.size (List Int)) v0 (gM (List.replicate n ((.slice none 0 0:Vc),([]:List Int)))).length (gC (List.replicate n ((.slice none 0 0:Vc),([]:List Int)))) :: (O ++ (gI base e (List.replicate n ((.slice none 0 0:Vc),([]:List Int))) ++ [])))/\
   Tr w (.row base e2 (Rep.size (List Int)) v0 m (List.replicate n [Value.slice none 0 0]).flatten :: O) w (.row base e2 (Rep.size (List Int)) v0 (gM (List.replicate n ((.slice none 0 0:Vc),([]:List Int)))).length (gC (List.replicate n ((.slice none 0 0:Vc),([]:List Int)))) :: (O ++ (gI base e (List.replicate n ((.slice none 0 0:Vc),([]:List Int))) ++ []))):=by
 subst hm
 rw [gC_rep,show (gM (List.replicate m ((.slice none 0 0:Vc),([]:List Int)))).length = m by simp [gM]] at *
 have p:∀ X:List Ob,(X ++ (.row base e2 (Rep.size (List Int)) v0 m (gC (List.replicate m ((.slice none 0 0:Vc),([]:List Int)))) :: O)).Perm (.row base e2 (Rep.size (List Int)) v0 m (gC (List.replicate m ((.slice none 0 0:Vc),([]:List Int)))) :: (O ++ (X ++ []))):=fun X=>by
  refine List.perm_append_comm.trans ?_
  rw [List.append_nil]; exact List.Perm.refl _
 exact ⟨(s.nils base e m).perm (p _),Agree.refl _ _,fun b hb=>.inl (by have:=(ge (p _)).2 hb; rwa [nils_bl] at this)⟩
theorem lZ (hL:∀ b ∈ L,b < w0.heap.size):∀ Z:List (Vc × List Int),St w0 w (gI base e Z ++ O) -> ∀ z ∈ Z,Rep.R w (bl O ++ L) [z.1] z.2
 | [],_,_,hz=>by cases hz
 | z0 :: Z,s,z,hz=>by
  have s' : St w0 w (.row base e (Rep.size Int) z0.1 z0.2.length (iC z0.2) :: (gI base e Z ++ O)):=s
  have s2:St w0 w (gI base e Z ++ O):=s'.del (.drop (Del.refl _))
  rcases List.mem_cons.1 hz with rfl | hz
  ·refine gi s'.ok.1 (Cells.int _ _ _) fun b hb hm=>?_
   rcases List.mem_append.1 hm with hm | hm
   ·refine s'.ok.2.1 b hb ?_
    have key:∀ Z:List (Vc × List Int),b ∈ bl O -> b ∈ bl (gI base e Z ++ O):=fun Z=>by
     induction Z with
     | nil=>exact id
     | cons z Z ih=>exact fun h=>av.2 (.inr (ih h))
    exact key Z hm
   ·have h1:=s'.new b (av.2 (.inl hb)); have h2:=hL b hm; omega
  ·exact lZ hL Z s2 z hz
theorem St.gFreeze (s:St w0 w (pre ++ (gI base e Z ++ T))) (u:Out pre (.row base e2 (Rep.size (List Int)) v0 (gM Z).length (gC Z)) pre') (hL:∀ b ∈ L,b < w0.heap.size) :
  Rep.R w (bl (pre' ++ T) ++ L) [v0] (gM Z)/\St w0 w (pre' ++ T)/\Tr w (pre ++ (gI base e Z ++ T)) w (pre' ++ T):=by
 have p:(pre ++ (gI base e Z ++ T)).Perm (.row base e2 (Rep.size (List Int)) v0 (gM Z).length (gC Z) :: (gI base e Z ++ (pre' ++ T))):=by
  refine (u.perm.append_right _).trans (List.Perm.cons _ ?_)
  have q:=(List.perm_append_comm (l₁:=pre') (l₂:=gI base e Z)).append_right T
  rwa [List.append_assoc,List.append_assoc] at q
 have s1:=s.perm p
 have s2:St w0 w (gI base e Z ++ (pre' ++ T)):=s1.del (.drop (Del.refl _))
 have hd:Del (gI base e Z ++ (pre' ++ T)) (pre' ++ T):=by
  have key:∀ Z:List (Vc × List Int),Del (gI base e Z ++ (pre' ++ T)) (pre' ++ T):=fun Z=>by
   induction Z with
   | nil=>exact Del.refl _
   | cons z Z ih=>exact .drop ih
  exact key Z
 have hr:=lZ hL Z s2
 have hc:∀ Z' : List (Vc × List Int),(∀ z ∈ Z', z ∈ Z) -> Cells w (bl (pre' ++ T) ++ L) (gC Z') (gM Z'):=fun Z' =>by
  induction Z' with
  | nil=>exact fun _=>Cells.nil _ _
  | cons z Z' ih=>exact fun h=>Cells.cons (cs:=[z.1]) (hr z (h z (List.mem_cons_self ..))) (ih fun x hx=>h x (List.mem_cons_of_mem _ hx))
 refine ⟨gi s1.ok.1 (hc Z fun _ h=>h) fun b hb hm=>?_,s2.del hd,(Tr.perm p).trans (Tr.del (.drop hd))⟩
 rcases List.mem_append.1 hm with hm | hm
 ·exact s1.ok.2.1 b hb (hd.bl hm)
 ·have h1:=s1.new b (av.2 (.inl hb)); have h2:=hL b hm; omega
end
end
section
open Go Go.RowKit
theorem At.t1 {x0 o:Ob} {O:List Ob}:At (x0 :: o :: O) o:=.tl .hd
theorem Upd.t1 {x0 o o' : Ob} {O:List Ob}:Upd (x0 :: o :: O) o o' (x0 :: o' :: O):=.tl .hd
theorem Out.t1 {x0 o:Ob} {O:List Ob}:Out (x0 :: o :: O) o (x0 :: O):=.tl .hd
theorem At.t2 {x0 x1 o:Ob} {O:List Ob}:At (x0 :: x1 :: o :: O) o:=.tl (.tl .hd)
theorem Upd.t2 {x0 x1 o o' : Ob} {O:List Ob}:Upd (x0 :: x1 :: o :: O) o o' (x0 :: x1 :: o' :: O):=.tl (.tl .hd)
theorem Out.t2 {x0 x1 o:Ob} {O:List Ob}:Out (x0 :: x1 :: o :: O) o (x0 :: x1 :: O):=.tl (.tl .hd)
theorem At.t3 {x0 x1 x2 o:Ob} {O:List Ob}:At (x0 :: x1 :: x2 :: o :: O) o:=.tl (.tl (.tl .hd))
theorem Upd.t3 {x0 x1 x2 o o' : Ob} {O:List Ob}:Upd (x0 :: x1 :: x2 :: o :: O) o o' (x0 :: x1 :: x2 :: o' :: O):=.tl (.tl (.tl .hd))
theorem Out.t3 {x0 x1 x2 o:Ob} {O:List Ob}:Out (x0 :: x1 :: x2 :: o :: O) o (x0 :: x1 :: x2 :: O):=.tl (.tl (.tl .hd))
theorem At.t4 {x0 x1 x2 x3 o:Ob} {O:List Ob}:At (x0 :: x1 :: x2 :: x3 :: o :: O) o:=.tl (.tl (.tl (.tl .hd)))
theorem Upd.t4 {x0 x1 x2 x3 o o' : Ob} {O:List Ob}:Upd (x0 :: x1 :: x2 :: x3 :: o :: O) o o' (x0 :: x1 :: x2 :: x3 :: o' :: O):=.tl (.tl (.tl (.tl .hd)))
theorem At.t5 {x0 x1 x2 x3 x4 o:Ob} {O:List Ob}:At (x0 :: x1 :: x2 :: x3 :: x4 :: o :: O) o:=.tl (.tl (.tl (.tl (.tl .hd))))
theorem Upd.t5 {x0 x1 x2 x3 x4 o o' : Ob} {O:List Ob}:Upd (x0 :: x1 :: x2 :: x3 :: x4 :: o :: O) o o' (x0 :: x1 :: x2 :: x3 :: x4 :: o' :: O):=.tl (.tl (.tl (.tl (.tl .hd))))
theorem At.t6 {x0 x1 x2 x3 x4 x5 o:Ob} {O:List Ob}:At (x0 :: x1 :: x2 :: x3 :: x4 :: x5 :: o :: O) o:=.tl (.tl (.tl (.tl (.tl (.tl .hd)))))
theorem Upd.t6 {x0 x1 x2 x3 x4 x5 o o' : Ob} {O:List Ob}:Upd (x0 :: x1 :: x2 :: x3 :: x4 :: x5 :: o :: O) o o' (x0 :: x1 :: x2 :: x3 :: x4 :: x5 :: o' :: O):=.tl (.tl (.tl (.tl (.tl (.tl .hd)))))
theorem At.t7 {x0 x1 x2 x3 x4 x5 x6 o:Ob} {O:List Ob}:At (x0 :: x1 :: x2 :: x3 :: x4 :: x5 :: x6 :: o :: O) o:=.tl (.tl (.tl (.tl (.tl (.tl (.tl .hd))))))
theorem At.t9 {x0 x1 x2 x3 x4 x5 x6 x7 x8 o:Ob} {O:List Ob}:At (x0 :: x1 :: x2 :: x3 :: x4 :: x5 :: x6 :: x7 :: x8 :: o :: O) o:=.tl (.tl (.tl (.tl (.tl (.tl (.tl (.tl (.tl .hd))))))))
theorem Arr.d0:∀ {O:List Ob},Arr O O
 | []=>.done
 | _ :: _=>.one .hd Arr.d0
theorem Arr.a0 {o:Ob} {O O' : List Ob} (h:Arr O O'):Arr (o :: O) (o :: O'):=.one .hd h
theorem Arr.a1 {x0 o:Ob} {O O' : List Ob} (h:Arr (x0 :: O) O'):Arr (x0 :: o :: O) (o :: O'):=.one .t1 h
theorem Arr.a2 {x0 x1 o:Ob} {O O' : List Ob} (h:Arr (x0 :: x1 :: O) O'):Arr (x0 :: x1 :: o :: O) (o :: O'):=.one .t2 h
theorem Arr.dr {x:Ob}:∀ {O O' : List Ob},Arr O O' -> Arr (x :: O) O'
 | _,_,.done=>.done
 | _,_,.one h h2=>.one (.tl h) (Arr.dr h2)
theorem Arr.d1 {x0:Ob} {O:List Ob}:Arr (x0 :: O) O:=.dr Arr.d0
theorem Arr.d2 {x0 x1:Ob} {O:List Ob}:Arr (x0 :: x1 :: O) O:=.dr (Arr.d1)
theorem Arr.d3 {x0 x1 x2:Ob} {O:List Ob}:Arr (x0 :: x1 :: x2 :: O) O:=.dr (Arr.d2)
theorem Arr.d4 {x0 x1 x2 x3:Ob} {O:List Ob}:Arr (x0 :: x1 :: x2 :: x3 :: O) O:=.dr (Arr.d3)
theorem Arr.d5 {x0 x1 x2 x3 x4:Ob} {O:List Ob}:Arr (x0 :: x1 :: x2 :: x3 :: x4 :: O) O:=.dr (Arr.d4)
theorem Arr.d6 {x0 x1 x2 x3 x4 x5:Ob} {O:List Ob}:Arr (x0 :: x1 :: x2 :: x3 :: x4 :: x5 :: O) O:=.dr (Arr.d5)
theorem Arr.d7 {x0 x1 x2 x3 x4 x5 x6:Ob} {O:List Ob}:Arr (x0 :: x1 :: x2 :: x3 :: x4 :: x5 :: x6 :: O) O:=.dr (Arr.d6)
section
variable {P:Program} {Z:Machine -> Prop} {b:Frame} {n:Nat} {ds:List Deferred} {cs:List Frame} {k:List Item} {σ τ:List (Nat × Vc)} {w w0:World} {ops:Array Oper} {t f m:Nat} {κ:KP} {O1:List Ob}
theorem MX.lf {α γ Q:Type} {B:(γ -> Oa Q) -> γ -> Oa Q} {N:Nat} {r:Q} {c:Code} (S:α -> List (Nat × Vc)) (E:α -> List Ob) (G:α -> World -> Prop) (p:α -> γ) (x0:α) (hh:aj B N (p x0) = some r) (s:St w0 w (E x0)) (hG:G x0 w)
  (round:∀ (J:γ -> Oa Q) x wx,(∀ x' {wx' σ'},St w0 wx' (E x') -> Tr w (E x0) wx' (E x') -> G x' wx' -> J (p x') = some r -> ∀ (_:Sub σ' (S x'):=by repeat (first | refine ⟨rfl,?_⟩ | exact trivial)),MX P Z b n ds cs (.inLoop c :: k) σ' wx') -> St w0 wx (E x) -> Tr w (E x0) wx (E x) -> G x wx -> B J (p x) = some r -> MX P Z b n ds cs (.code c :: .inLoop c :: k) (S x) wx)
  (hs:Sub σ (S x0):=by repeat (first | refine ⟨rfl,?_⟩ | exact trivial)):MX P Z b n ds cs (.code (.loop c) :: k) σ w:=
 MX.loop S (fun x wx=>St w0 wx (E x)/\Tr w (E x0) wx (E x)/\G x wx) p x0 hh hs ⟨s,Tr.refl _ _,hG⟩ fun J x wx h1 h2=>round J x wx (fun x' {wx' σ'} a2 a3 a4 a5 a1=>h1 x' wx' σ' a1 ⟨a2,a3,a4⟩ a5) h2.1 h2.2.1 h2.2.2
theorem MX.lo {α γ Q:Type} {B:(γ -> Oa Q) -> γ -> Oa Q} {N:Nat} {r:Q} {c:Code} (S:α -> List (Nat × Vc)) (E:α -> List Ob) (p:α -> γ) (x0:α) (hh:aj B N (p x0) = some r) (s:St w0 w (E x0))
  (round:∀ (J:γ -> Oa Q) x wx,(∀ x' {wx' σ'},St w0 wx' (E x') -> Tr w (E x0) wx' (E x') -> J (p x') = some r -> ∀ (_:Sub σ' (S x'):=by repeat (first | refine ⟨rfl,?_⟩ | exact trivial)),MX P Z b n ds cs (.inLoop c :: k) σ' wx') -> St w0 wx (E x) -> Tr w (E x0) wx (E x) -> B J (p x) = some r -> MX P Z b n ds cs (.code c :: .inLoop c :: k) (S x) wx)
  (hs:Sub σ (S x0):=by repeat (first | refine ⟨rfl,?_⟩ | exact trivial)):MX P Z b n ds cs (.code (.loop c) :: k) σ w:=
 MX.loop S (fun x wx=>St w0 wx (E x)/\Tr w (E x0) wx (E x)) p x0 hh hs ⟨s,Tr.refl _ _⟩ fun J x wx h1 h2=>round J x wx (fun x' {wx' σ'} a2 a3 a5 a1=>h1 x' wx' σ' a1 ⟨a2,a3⟩ a5) h2.1 h2.2
theorem MX.jf {α γ Q:Type} {K:γ -> Oa Q} {B:(γ -> Oa Q) -> Oa Q} {r:Q} {it:Item} (S:α -> List (Nat × Vc)) (E:α -> List Ob) (G:α -> World -> Prop) (p:α -> γ) (_s:St w0 w O1) (hh:jn K B = some r)
  (hJ:∀ x wx,St w0 wx (E x) -> Tr w O1 wx (E x) -> G x wx -> K (p x) = some r -> MX P Z b n ds cs k (S x) wx)
  (h:∀ J:γ -> Oa Q,(∀ x {wx σ'},St w0 wx (E x) -> Tr w O1 wx (E x) -> G x wx -> J (p x) = some r -> ∀ (_:Sub σ' (S x):=by repeat (first | refine ⟨rfl,?_⟩ | exact trivial)),MX P Z b n ds cs k σ' wx) -> B J = some r -> MX P Z b n ds cs (it :: k) σ w):MX P Z b n ds cs (it :: k) σ w:=
 MX.join S (fun x wx=>St w0 wx (E x)/\Tr w O1 wx (E x)/\G x wx) p hh (fun x wx h1 h2=>hJ x wx h1.1 h1.2.1 h1.2.2 h2) fun J h1 h2=>h J (fun x {wx σ'} a2 a3 a4 a5 a1=>h1 x wx σ' a1 ⟨a2,a3,a4⟩ a5) h2
theorem MX.jo {α γ Q:Type} {K:γ -> Oa Q} {B:(γ -> Oa Q) -> Oa Q} {r:Q} {it:Item} (S:α -> List (Nat × Vc)) (E:α -> List Ob) (p:α -> γ) (_s:St w0 w O1) (hh:jn K B = some r)
  (hJ:∀ x wx,St w0 wx (E x) -> Tr w O1 wx (E x) -> K (p x) = some r -> MX P Z b n ds cs k (S x) wx)
  (h:∀ J:γ -> Oa Q,(∀ x {wx σ'},St w0 wx (E x) -> Tr w O1 wx (E x) -> J (p x) = some r -> ∀ (_:Sub σ' (S x):=by repeat (first | refine ⟨rfl,?_⟩ | exact trivial)),MX P Z b n ds cs k σ' wx) -> B J = some r -> MX P Z b n ds cs (it :: k) σ w):MX P Z b n ds cs (it :: k) σ w:=
 MX.join S (fun x wx=>St w0 wx (E x)/\Tr w O1 wx (E x)) p hh (fun x wx h1 h2=>hJ x wx h1.1 h1.2 h2) fun J h1 h2=>h J (fun x {wx σ'} a2 a3 a5 a1=>h1 x wx σ' a1 ⟨a2,a3⟩ a5) h2
theorem MX.xf {α γ Q:Type} {K:γ -> Oa Q} {B:(γ -> Oa Q) -> Oa Q} {r:Q} {it:Item} {k' : List Item} (id:Nat) (S:α -> List (Nat × Vc)) (E:α -> List Ob) (G:α -> World -> Prop) (p:α -> γ) (_s:St w0 w O1) (hx:exitTo id k = some k') (hh:jn K B = some r)
  (hJ:∀ x wx,St w0 wx (E x) -> Tr w O1 wx (E x) -> G x wx -> K (p x) = some r -> MX P Z b n ds cs k' (S x) wx)
  (h:∀ J:γ -> Oa Q,(∀ x {wx σ'},St w0 wx (E x) -> Tr w O1 wx (E x) -> G x wx -> J (p x) = some r -> ∀ (_:Sub σ' (S x):=by repeat (first | refine ⟨rfl,?_⟩ | exact trivial)),MX P Z b n ds cs k' σ' wx) -> B J = some r -> MX P Z b n ds cs (it :: k) σ w):MX P Z b n ds cs (it :: k) σ w:=
 MX.joinx S (fun x wx=>St w0 wx (E x)/\Tr w O1 wx (E x)/\G x wx) p hx hh (fun x wx h1 h2=>hJ x wx h1.1 h1.2.1 h1.2.2 h2) fun J h1 h2=>h J (fun x {wx σ'} a2 a3 a4 a5 a1=>h1 x wx σ' a1 ⟨a2,a3,a4⟩ a5) h2
theorem MX.xo {α γ Q:Type} {K:γ -> Oa Q} {B:(γ -> Oa Q) -> Oa Q} {r:Q} {it:Item} {k' : List Item} (id:Nat) (S:α -> List (Nat × Vc)) (E:α -> List Ob) (p:α -> γ) (_s:St w0 w O1) (hx:exitTo id k = some k') (hh:jn K B = some r)
  (hJ:∀ x wx,St w0 wx (E x) -> Tr w O1 wx (E x) -> K (p x) = some r -> MX P Z b n ds cs k' (S x) wx)
  (h:∀ J:γ -> Oa Q,(∀ x {wx σ'},St w0 wx (E x) -> Tr w O1 wx (E x) -> J (p x) = some r -> ∀ (_:Sub σ' (S x):=by repeat (first | refine ⟨rfl,?_⟩ | exact trivial)),MX P Z b n ds cs k' σ' wx) -> B J = some r -> MX P Z b n ds cs (it :: k) σ w):MX P Z b n ds cs (it :: k) σ w:=
 MX.joinx S (fun x wx=>St w0 wx (E x)/\Tr w O1 wx (E x)) p hx hh (fun x wx h1 h2=>hJ x wx h1.1 h1.2 h2) fun J h1 h2=>h J (fun x {wx σ'} a2 a3 a5 a1=>h1 x wx σ' a1 ⟨a2,a3⟩ a5) h2
theorem RD.mf {α:Type} (S:α -> List (Nat × Vc)) (E:α -> List Ob) (G:α -> World -> Prop) (_s:St w0 w O1) (f' m' : Nat)
  (hJ:∀ x wx,St w0 wx (E x) -> Tr w O1 wx (E x) -> G x wx -> RD κ P Z b n ds cs ops t f' m' k (S x) wx)
  (h:(∀ x {wx σ'},St w0 wx (E x) -> Tr w O1 wx (E x) -> G x wx -> ∀ (_:Sub σ' (S x):=by repeat (first | refine ⟨rfl,?_⟩ | exact trivial)),RD κ P Z b n ds cs ops t f' m' k σ' wx) -> RD κ P Z b n ds cs ops t f m k σ w):RD κ P Z b n ds cs ops t f m k σ w:=
 RD.meet S (fun x wx=>St w0 wx (E x)/\Tr w O1 wx (E x)/\G x wx) f' m' (fun x wx h1=>hJ x wx h1.1 h1.2.1 h1.2.2) fun h1=>h fun x {wx σ'} a2 a3 a4 a1=>h1 x wx σ' a1 ⟨a2,a3,a4⟩
theorem RD.mo {α:Type} (S:α -> List (Nat × Vc)) (E:α -> List Ob) (_s:St w0 w O1) (f' m' : Nat)
  (hJ:∀ x wx,St w0 wx (E x) -> Tr w O1 wx (E x) -> RD κ P Z b n ds cs ops t f' m' k (S x) wx)
  (h:(∀ x {wx σ'},St w0 wx (E x) -> Tr w O1 wx (E x) -> ∀ (_:Sub σ' (S x):=by repeat (first | refine ⟨rfl,?_⟩ | exact trivial)),RD κ P Z b n ds cs ops t f' m' k σ' wx) -> RD κ P Z b n ds cs ops t f m k σ w):RD κ P Z b n ds cs ops t f m k σ w:=
 RD.meet S (fun x wx=>St w0 wx (E x)/\Tr w O1 wx (E x)) f' m' (fun x wx h1=>hJ x wx h1.1 h1.2) fun h1=>h fun x {wx σ'} a2 a3 a1=>h1 x wx σ' a1 ⟨a2,a3⟩
theorem RG.bx {d:Tmp} {t ty:TypeId} {ps:String} {af:Array Edge} {x:Operand} {v:Vc} {vs:List Vc} {l:List Oper} {O:List Ob} (s:St w0 w O) (hx:ev σ x = some v) (hc:v.cells = vs.toArray) (h:∀ w1 b', St w0 w1 (.cells b' vs t :: O) -> Tr w O w1 (.cells b' vs t :: O) -> RG P Z b n ds cs ops l k ((d,.pointer (some ⟨b', 0,none⟩)) :: σ) w1) (hd:Nat.blt d n = true:=by rfl):RG P Z b n ds cs ops (⟨some d,.box t x,ty,ps,af,none⟩ :: l) k σ w:=RG.new .plain hd (Does.box s hx hc) h
theorem RG.nl {d:Tmp} {t ty:TypeId} {ps:String} {af:Array Edge} {l:List Oper} {O:List Ob} (zs:List Vc) (s:St w0 w O) (h:∀ w1 b', St w0 w1 (.cells b' zs t :: O) -> Tr w O w1 (.cells b' zs t :: O) -> RG P Z b n ds cs ops l k ((d,.pointer (some ⟨b', 0,none⟩)) :: σ) w1) (hz:cI P t zs:=by exact zB (by kernel_rfl)) (hd:Nat.blt d n = true:=by rfl):RG P Z b n ds cs ops (⟨some d,.alloc t,ty,ps,af,none⟩ :: l) k σ w:=RG.new .plain hd (Does.alloc s hz) h
theorem bk {α β:Type} {C:Prop} {x:Oa α} {g:α -> Oa β} {r:β} (h:x.bind g = some r) (k:∀ y,x = some y -> g y = some r -> C):C:=
 let ⟨y,h1,h2⟩:=jp h; k y h1 h2
theorem xk {ε α β:Type} {C:Prop} {x:Oa (Except ε α)} {f:α -> Oa β} {g:ε -> Oa β} {r:β} (h:(x.bind fun y=>exc y f g) = some r) (k1:∀ e,x = some (.error e) -> g e = some r -> C) (k2:∀ y,x = some (.ok y) -> f y = some r -> C):C:=by
 obtain ⟨y,h1,h2⟩:=jp h
 rcases y with e | y
 ·exact k1 e h1 h2
 ·exact k2 y h1 h2
theorem tn {α β:Type} {C:Prop} {o:Oa (α ⊕ β)} {K:β -> Oa α} {r:α} (h:thn o K = some r) (k:∀ x,o = some x -> thn (some x) K = some r -> C):C:=
 let ⟨y,h1,h2⟩:=thn_in h; k y h1 h2
end
end
section
open Go Go.RowKit
def w32 (i:Int):Int:=IntKind.i32.wrap i
def chr (i:Int):ByteArray:=Utf8.encode i
section
variable {P:Program} {σ:List (Nat × Vc)} {w:World} {d:Oa Nat} {ty s t:TypeId} {ps:String} {af:Array Edge} {g:Oa (Nat × Bool)} {x:Operand}
theorem FV.conv32 {i:Int} (hs:P.underlying s = some (.int .i64)) (ht:P.underlying t = some (.int .i32)) (hx:ev σ x = some (.int .i64 i)):FV P ⟨d,.convert s t x,ty,ps,af,g⟩ σ w (.int .i32 (w32 i)):=FV.conv hs ht hx rfl
theorem FV.conv32S {i:Int} (hs:P.underlying s = some (.int .i32)) (ht:P.underlying t = some .string) (hx:ev σ x = some (.int .i32 i)):FV P ⟨d,.convert s t x,ty,ps,af,g⟩ σ w (.string (chr i)):=FV.convIS hs ht hx rfl
end
end
open Go Go.RowKit
section
variable {w w0:World} {O O' T pre pre' : List Ob} {L:List Nat} {base e e2 i:Nat} {v0 v y v' : Vc} {Z Z1 Z2:List (Vc × List Int)} {xs xs' : List Int} {cs cs' : List Vc} {M M2:List (List Int)}
@[reducible] def gZ (k:Int):List (Vc × List Int):=List.replicate k.toNat ((.slice none 0 0:Vc),([]:List Int))
theorem mk_gZ {k:Int} (h:mk k ([]:List Int) = some M):M = gM (gZ k):=by
 unfold mk at h
 split at h
 ·cases h; simp [gM,gZ]
 ·cases h
theorem gMk {k:Int} (h:mk k ([]:List Int) = some M) (e:Nat) (s:St w0 w (.row base e2 (Rep.size (List Int)) v0 M.length (List.replicate k.toNat [Value.slice none 0 0]).flatten :: O)) :
  St w0 w (.row base e2 (Rep.size (List Int)) v0 M.length (gC (gZ k)) :: (O ++ (gI base e (gZ k) ++ [])))/\Tr w (.row base e2 (Rep.size (List Int)) v0 M.length (List.replicate k.toNat [Value.slice none 0 0]).flatten :: O) w (.row base e2 (Rep.size (List Int)) v0 M.length (gC (gZ k)) :: (O ++ (gI base e (gZ k) ++ []))):=by
 have hm:=mk_gZ h
 subst hm
 have hl:(gM (gZ k)).length = k.toNat:=by simp [gM,gZ]
 have:=St.gMake (e:=e) hl s
 exact this
theorem kk (hz:M = gM Z) (h:M[i]? = some xs):∃ Z1 y Z2,Z = Z1 ++ (y,xs) :: Z2/\Z1.length = i/\∀ (y' : Vc) (xs' : List Int),M.set i xs' = gM (Z1 ++ (y', xs') :: Z2):=by
 subst hz; exact g_split h
theorem St.gNth' (hz:M = gM (Z1 ++ (y,xs) :: Z2)) (s:St w0 w O) (u:At O (.row base e2 (Rep.size (List Int)) v0 M.length (gC (Z1 ++ (y,xs) :: Z2)))) (hi:Z1.length = i) :
  ∃ bk c,v0 = .slice (some ⟨bk,0,none⟩) M.length c/\i < M.length/\∀ j u,[y][j]? = some u -> w.cell? (((⟨bk,0,none⟩:Addr).add (i * 1)).add j) = some u:=by
 subst hz; exact s.gNth u hi
theorem St.gShut' {Q:Nat -> List Vc -> List Ob} (hz:M = gM (Z1 ++ (y,xs) :: Z2)) (h2:M2 = gM (Z1 ++ (y,xs') :: Z2)) (hc:Cells w L cs' xs') (s:St w0 w (.row base e (Rep.size Int) y xs'.length cs' :: (Q M.length (gC (Z1 ++ (y,xs) :: Z2)) ++ (gI base e (Z1 ++ Z2) ++ T)))) :
  St w0 w (Q M2.length (gC (Z1 ++ (y,xs') :: Z2)) ++ (gI base e (Z1 ++ (y,xs') :: Z2) ++ T))/\Tr w (.row base e (Rep.size Int) y xs'.length cs' :: (Q M.length (gC (Z1 ++ (y,xs) :: Z2)) ++ (gI base e (Z1 ++ Z2) ++ T))) w (Q M2.length (gC (Z1 ++ (y,xs') :: Z2)) ++ (gI base e (Z1 ++ (y,xs') :: Z2) ++ T)):=by
 subst hz; subst h2; exact St.gShut hc s
theorem St.gPut' {Q:Nat -> List Vc -> List Ob} (hz:M = gM (Z1 ++ (y,xs) :: Z2)) (h2:M2 = gM (Z1 ++ (v', xs') :: Z2)) (hi:Z1.length = i) (hc:Cells w L cs' xs') (s:St w0 w (.row base e (Rep.size Int) v' xs'.length cs' :: (Q M.length ((gC (Z1 ++ (y,xs) :: Z2)).set i v') ++ (gI base e (Z1 ++ (y,xs) :: Z2) ++ T)))) :
  St w0 w (Q M2.length (gC (Z1 ++ (v', xs') :: Z2)) ++ (gI base e (Z1 ++ (v', xs') :: Z2) ++ T))/\Tr w (.row base e (Rep.size Int) v' xs'.length cs' :: (Q M.length ((gC (Z1 ++ (y,xs) :: Z2)).set i v') ++ (gI base e (Z1 ++ (y,xs) :: Z2) ++ T))) w (Q M2.length (gC (Z1 ++ (v', xs') :: Z2)) ++ (gI base e (Z1 ++ (v', xs') :: Z2) ++ T)):=by
 subst hz; subst h2; exact St.gPut hi hc s
theorem St.gFreeze' (hz:M = gM Z) (s:St w0 w (pre ++ (gI base e Z ++ T))) (u:Out pre (.row base e2 (Rep.size (List Int)) v0 M.length (gC Z)) pre') (hL:∀ b ∈ L,b < w0.heap.size) :
  Rep.R w (bl (pre' ++ T) ++ L) [v0] M/\St w0 w (pre' ++ T)/\Tr w (pre ++ (gI base e Z ++ T)) w (pre' ++ T):=by
 subst hz; exact s.gFreeze u hL
end
theorem Calls.erp {P:Program} {f:FuncId} {vs:Array Vc} {w:World} {α ε:Type} {R:α -> World -> Vc -> Prop} {E:ε -> Vc} {e:ε} (h:Calls P f vs w (aL w R E (.error e))):Calls P f vs w (aL w (fun (_:α) (_:World) (_:Vc)=>False) E (.error e)):=h.mono fun q w' ⟨h1,h2⟩=>⟨h1,by
 cases q with
 | returned v=>exact h2.elim
 | panicked ch=>exact h2
 | outgrown=>exact h2⟩
section
variable {P:Program} {w w0:World} {O:List Ob} {σ:List (Nat × Vc)} {dd:Oa Nat} {ty t:TypeId} {ps:String} {af:Array Edge} {g:Oa (Nat × Bool)} {x y:Operand} {base e:Nat} {v:Vc}
theorem g_len {M:List (List Int)} {Z:List (Vc × List Int)} (hz:M = gM Z):M.length = (gC Z).length:=by subst hz; simp [gM,gC]
theorem Acts.gPut {i bk c n' : Nat} {O' : List Ob} {pa:Addr} {yv:Vc} {Z:List (Vc × List Int)} (hZ:n' = (gC Z).length) (hi:i < n') (s:St w0 w O) (he:v = .slice (some ⟨bk,0,none⟩) n' c) (u:Upd O (.row base e (Rep.size (List Int)) v n' (gC Z)) (.row base e (Rep.size (List Int)) v n' ((gC Z).set i yv)) O')
  (hx:ev σ x = some (.pointer (some pa))) (hp:pa = (⟨bk,0,none⟩:Addr).add (i * 1)) (hy:ev σ y = some yv) (hv:yv.cells = [yv].toArray) (h1:yv.oneCell' = true) (hs:bX P t 1 = true) :
  Acts P ⟨dd,.store t x y,ty,ps,af,g⟩ σ w (Now w0 w O O'):=by
 subst he
 refine Acts.storeRow (j:=i * 1) (news:=[yv]) s u hx hp hy hv hs (by simp; omega) (by intro q hq; cases List.mem_singleton.1 hq; exact h1) ?_
 rw [Nat.mul_one,List.set_eq_take_append_cons_drop,if_pos (by omega)]
 simp
end
@[reducible] def vn (n:Nat):Vc:=.int .i64 (n:Int)
@[reducible] def rr (w:World) (e:TypeId) (α:Type) [Rep α] (v:Vc) (n:Nat) (cs:List Vc):Ob:=.row w.heap.size e (Rep.size α) v n cs
abbrev hl (L:List Nat) (w:World):Prop:=∀ b ∈ L,b < w.heap.size
@[reducible] def vW (x:Int):Vc:=.int .u64 x
@[reducible] def vU (x:Ua):Vc:=.int .u64 (x.toNat:Int)
@[reducible] def zL:List Vc:=[vW 0,vW 0,vW 0,vW 0,vW 0,vW 0,vW 0,vW 0,vW 0,vW 0,vW 0,vW 0,vW 0,vW 0,vW 0,vW 0]
@[reducible] def zM:Array Vc:=#[vW 0,vW 0,vW 0,vW 0,vW 0,vW 0,vW 0,vW 0,vW 0,vW 0,vW 0,vW 0,vW 0,vW 0,vW 0,vW 0]
@[reducible] def zP:List Vc:=[vW 0,vW 0,vW 0,vW 0,vW 0,vW 0,vW 0,vW 0]
@[reducible] def zQ:Array Vc:=#[vW 0,vW 0,vW 0,vW 0,vW 0,vW 0,vW 0,vW 0]
section
variable {P:Program} {Z:Machine -> Prop} {b:Frame} {n:Nat} {ds:List Deferred} {cs:List Frame} {k:List Item} {σ:List (Nat × Vc)} {w:World} {T:List (Nat × Nat × Nat)} {ops:Array Oper} {m m' i t W:Nat}
theorem Rv {κ:KP} {f d:Nat} {op:Op} {ty:TypeId} {ps:String} {af:Array Edge} {v:Vc} (i:Nat) (hT:bf ops = T) (hi:ops[i]? = some ⟨some d,op,ty,ps,af,none⟩) (hp:aO ops = true) (hq:∀ w,FV P ⟨some d,op,ty,ps,af,none⟩ σ w v) (h:RD κ P Z b n ds cs ops t f (m ||| 1 <<< i) k ((d,v) :: σ) w) (hB:dT T t m i (m ||| 1 <<< i) = true:=by kernel_rfl) (hfr:κ.free i = true:=by rfl) (hd:Nat.blt d n = true:=by rfl):RD κ P Z b n ds cs ops t (f + 1) m k σ w:=RD.vw i _ hT hi hp hq hd h hB hfr
theorem Rx {κ:KP} {f d:Nat} {op:Op} {ty:TypeId} {ps:String} {af:Array Edge} {v:Vc} (i W:Nat) (hT:bf ops = T) (hi:ops[i]? = some ⟨some d,op,ty,ps,af,none⟩) (hp:aO ops = true) (hq:FV P ⟨some d,op,ty,ps,af,none⟩ σ w v) (h:RD κ P Z b n ds cs ops t f (m ||| 1 <<< i) k ((d,v) :: σ) w) (hB:iE T t m W i (m ||| 1 <<< i) = true:=by kernel_rfl) (hfr:κ.free i = true:=by rfl) (hd:Nat.blt d n = true:=by rfl):RD κ P Z b n ds cs ops t (f + 1) m k σ w:=RD.vx i _ W hT hi hp hq hd h hB hfr
theorem rk {rs:List Nat} (hT:bf ops = T) (h:fI T m rs = true:=by kernel_rfl):dS ops m rs = true:=dD hT h
theorem dk (hT:bf ops = T) (h:oF T m = true:=by kernel_rfl):Region.ready .any ops (lst ops.size m) = []:=nT hT h
theorem sk (hT:bf ops = T) (h:ix T m i m' = true:=by kernel_rfl):ce ops.size m i m' = true:=eR hT h
theorem tk (hT:bf ops = T) (h:iE T t m W i m' = true:=by kernel_rfl):gE ops t m W i m' = true:=hO hT h
theorem dt {id:Nat} {l:List Oper} (t:Nat) (T:List (Nat × Nat × Nat)) (h:bf l.toArray = T -> aO l.toArray = true -> RD kp0 P Z b n ds cs l.toArray t l.length 0 k σ w) (hT:bf l.toArray = T:=by kernel_rfl) (hm:P.follows .mixedOrders = true:=by kernel_rfl) (hp:aO l.toArray = true:=by kernel_rfl):MX P Z b n ds cs (.code (.region id l.toArray true) :: k) σ w:=MX.drawT t T hT hm hp h
theorem du {id:Nat} {l:List Oper} (t:Nat) (h:bf l.toArray = bf l.toArray -> aO l.toArray = true -> RD kp0 P Z b n ds cs l.toArray t l.length 0 k σ w) (hm:P.follows .mixedOrders = true:=by kernel_rfl) (hp:aO l.toArray = true:=by kernel_rfl):MX P Z b n ds cs (.code (.region id l.toArray true) :: k) σ w:=MX.drawT t (bf l.toArray) rfl hm hp h
theorem jA {α:Type} [Rep α] {w w0:World} {O:List Ob} {e:TypeId} {σ:List (Nat × Vc)} {ty:TypeId} {ps:String} {af:Array Edge} {t:TypeId} {g:Oa (Nat × Bool)} {bytes:Nat} {z:Vc} {zc:List Vc} {dd:Oa Tmp} {p:Nat × Operand} (x:α) (v:Vc) (h:St w0 w O) (hE:ElT P t e (Rep.size α) bytes z zc) (hv:evs σ [p.2] [v]) (hf:Instr.fill (fun i=>some (i * Rep.size α,Rep.size α)) (Array.map (fun x=>zc.toArray[x % zc.toArray.size]!) (Array.range (1 * Rep.size α))) (List.zip (List.map Prod.fst [p]) [v]) = some [v].toArray:=by kernel_rfl) (hb:(1 * Rep.size α).ble 16777216 = true:=by rfl) (hl:[v].length = 1 * Rep.size α:=by rfl):Does P ⟨dd,.buildSlice t 1 [p].toArray,ty,ps,af,g⟩ σ w (New w0 w O (fun b' =>.row w0.heap.size e (Rep.size α) (.slice (some { block:=b', off:=0 }) 1 1) [x].length [v]) fun b' =>.slice (some { block:=b', off:=0 }) 1 1):=Does.build (xs:=[x]) rfl h hE hb hv hf hl
theorem jB (α:Type) [Rep α] {w w0:World} {O:List Ob} {e:TypeId} {σ:List (Nat × Vc)} {ty:TypeId} {ps:String} {af:Array Edge} {t:TypeId} {g:Oa (Nat × Bool)} {bytes:Nat} {z:Vc} {zc:List Vc} {dd:Oa Tmp} (h:St w0 w O) (hE:ElT P t e (Rep.size α) bytes z zc) (hf:Instr.fill (fun i=>some (i * Rep.size α,Rep.size α)) (Array.map (fun x=>zc.toArray[x % zc.toArray.size]!) (Array.range (0 * Rep.size α))) (List.zip (List.map Prod.fst ([]:List (Nat × Operand))) []) = some [].toArray:=by kernel_rfl) (hb:(0 * Rep.size α).ble 16777216 = true:=by rfl) (hl:([]:List Vc).length = 0 * Rep.size α:=by rfl):Does P ⟨dd,.buildSlice t 0 [].toArray,ty,ps,af,g⟩ σ w (New w0 w O (fun b' =>.row w0.heap.size e (Rep.size α) (.slice (some { block:=b', off:=0 }) 0 0) ([]:List α).length []) fun b' =>.slice (some { block:=b', off:=0 }) 0 0):=Does.build (xs:=[]) rfl h hE hb ak hf hl
theorem jC {α:Type} [Rep α] {w0 w:World} {O:List Ob} (x:α) (v:Vc) (h:St w0 w O) (L:List Nat) (hr:Rep.R w (bl O ++ L) [v] x):Cells w (bl O ++ L) [v] [x]:=Cells.at_ (cs:=[v]) h L (Cells.cons hr (Cells.nil _ _))
theorem jD (α:Type) [Rep α] {w0 w:World} {O:List Ob} (h:St w0 w O) (L:List Nat):Cells w (bl O ++ L) [] ([]:List α):=Cells.nil _ _
theorem jE {l:List Oper} {f:FuncId} {c:Operand} {xs:List Operand} {vs:List Vc} {d:Nat} {ty:TypeId} {ps:String} {af:Array Edge} {ts:Array TypeId} {R:World -> Vc -> Prop} (hB:bE P f = true) (hc:ev σ c = some (.func (.func f) #[] #[])) (hx:evs σ xs vs) (h:∀ w', Agree [] w w' -> Calls P f ([] ++ vs ++ []).toArray w' (ae w' R)) (hd:d.blt n = true) (K:∀ (w1:World) (v:Vc),Agree [] w w1 -> R w1 v -> RG P Z b n ds cs ops l k ((d,v) :: σ) w1):RG P Z b n ds cs ops (⟨some d,.call ⟨.value c,xs.toArray,ts⟩,ty,ps,af,none⟩ :: l) k σ w:=RG.call' (fst:=[]) (cap:=[]) .plain hB hc hx h hd K
end
theorem geE.{u} {α:Type u} {l:List α} {i:Nat} (h:i < l.length):l[i]? = some l[i]:=List.getElem?_eq_getElem h
theorem leC.{u} {α:Type u} {a:α} {as:List α}:(a :: as).length = as.length + 1:=rfl
theorem leN.{u} {α:Type u}:([]:List α).length = 0:=rfl
abbrev U8:=Ua × Ua × Ua × Ua × Ua × Ua × Ua × Ua
abbrev U16:=Ua × Ua × Ua × Ua × Ua × Ua × Ua × Ua × Ua × Ua × Ua × Ua × Ua × Ua × Ua × Ua
theorem Tt {w1 w2 w3:World} {O1 O2 O3:List Ob} (h:Tr w1 O1 w2 O2) (k:Tr w2 O2 w3 O3):Tr w1 O1 w3 O3:=h.trans k
theorem bi {α β:Type} {x:Oa α} {f:α -> Oa β} {r:β} (h:x.bind f = some r):∃ y,x = some y/\f y = some r:=jp h
abbrev Aa:=@RG.nil
abbrev Ac:=@RG.va
abbrev Ae:=@RG.mo
abbrev Af:=@MX.sr
abbrev Ag:=@RG.so
abbrev Ah:=@RD.vw
abbrev Ai:=@FV.move
abbrev Aj:=@MX.seq
abbrev Ak:=@FV.extract
abbrev Al:=@RG.new
abbrev Am:=@MX.ret
abbrev Ao:=@Rep.mv
abbrev Ap:=@MX.region
abbrev Aq:=@RG.no
abbrev Ar:=@MX.skip
abbrev Au:=@RT.leave
abbrev Av:=@Cells.cons
abbrev Aw:=@Rep.keep0
abbrev Ax:=@MX.block
abbrev Ay:=@Does.box
abbrev Az:=@Does.al
abbrev AA:=@St.start
abbrev AB:=@Cells.mv
abbrev AC:=@MX.inBlock
abbrev AD:=@Cells.at_
abbrev AE:=@Acts.storeAll
abbrev AF:=@MX.start
abbrev AG:=@RG.ga
abbrev AH:=@FV.lN
abbrev AI:=@RD.vx
abbrev AJ:=@Cells.nil
abbrev AK:=@St.arrB
abbrev AL:=@Does.build
abbrev AM:=@MX.drawT
abbrev AN:=@RD.done
abbrev AO:=@FV.indexArr
abbrev AP:=@FV.l1
abbrev AQ:=@MX.ifd
abbrev AR:=@RG.l1
abbrev AS:=@FV.buildV
abbrev AT:=@Rep.mv0
abbrev AU:=@Rep.lenle
abbrev AV:=@RG.sa
abbrev AW:=@RT.t1
abbrev AX:=@MX.exit
abbrev AY:=@Rep.o1
abbrev AZ:=@FV.pick_f
abbrev Ba:=@FV.len
abbrev Bb:=@FV.ia
abbrev Bc:=@RG.call'
abbrev Bd:=@RG.fa
abbrev Be:=@FV.assign
abbrev Bf:=@DoesL.app
abbrev Bg:=@St.freeze
abbrev Bh:=@Rep.nth
abbrev Bi:=@FV.fa
abbrev Bj:=@RG.cq
abbrev Bk:=@FV.loadN
abbrev Bl:=@FV.addN
abbrev Bm:=@Calls.okp
abbrev Bn:=@RG.pt
abbrev Bo:=@PN.leave
abbrev Bp:=@FV.lssN
abbrev Bq:=@MX.cond_t
abbrev Br:=@RD.offs
abbrev Bs:=@RD.cl
abbrev Bu:=@FV.not
abbrev Bv:=@RG.pf
abbrev Bw:=@FV.addc
abbrev Bx:=@Tr.refl
abbrev By:=@St.nthOwn
abbrev Bz:=@RD.each
abbrev BA:=@St.delS
abbrev BB:=@St.delT
abbrev BC:=@Rep.at_
abbrev BD:=@RG.ifd
abbrev BE:=@RG.callE
abbrev BF:=@MX.cond_f
abbrev BG:=@RD.nw
abbrev BH:=@RO.new
abbrev BI:=@RO.doesL
abbrev BJ:=@RD.vP
abbrev BK:=@RG.enterP
abbrev BL:=@FV.len_string
abbrev BM:=@RD.one
abbrev BN:=@FV.pick_t
abbrev BO:=@FV.lss
abbrev BP:=@FV.eqlN
abbrev BQ:=@FV.subc
abbrev BR:=@Rep.sl
abbrev BS:=@RD.nu
abbrev BT:=@Acts.store
abbrev BU:=@St.nth
abbrev BV:=@RD.cq
abbrev BW:=@St.nilRowT
abbrev BX:=@FV.makeFunc
abbrev BY:=@Cells.mk
abbrev BZ:=@MX.startP
abbrev Ca:=@Src.rep
abbrev Cb:=@Acts.set
end Go.Proofs.YthffdckehlgmgaaGreatDoor
