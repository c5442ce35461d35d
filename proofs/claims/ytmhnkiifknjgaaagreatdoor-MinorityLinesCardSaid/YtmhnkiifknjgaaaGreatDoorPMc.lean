/- Laws of the walk, more of them: fields and elements of values, small integers, elements of the call's own rows, functions without a body. No program in sight. -/
import Derived.Test.YtmhnkiifknjgaaaGreatDoorPMp
import Derived.Laws.BytesString
import Derived.Laws.CopyRow
import Derived.Maps.RangeRun
namespace Go.Proofs.YtmhnkiifknjgaaaGreatDoor
open Go Go.RowKit
instance:Rep Int16:=Rep.plain (fun x=>.int .i16 x.toInt) (fun _=>rfl)
def aO (x:Int):UInt8:=UInt8.ofNat (x % 256).toNat
def lP (s:ByteArray) (i:Int):Oa UInt8:=if 0 <= i then s.data[i.toNat]? else none
theorem ge {s:ByteArray} {i:Int} {z:UInt8} (h:lP s i = some z):i = (i.toNat:Int)/\s.data[i.toNat]? = some z:=by
 unfold lP at h
 split at h
 ·exact ⟨by omega,h⟩
 ·cases h
theorem wrap_u8 (x:Int):IntKind.u8.wrap x = ((aO x).toNat:Int):=by
 unfold aO
 have h:(x % 256).toNat < 256:=by omega
 rw [UInt8.toNat_ofNat_of_lt' (by simp [UInt8.size]; omega)]
 simp only [IntKind.wrap,IntKind.bits,IntKind.signed]
 simp
 omega
theorem gK {α:Type} (f:α -> Vc) {xs:La α} {i:Nat} {x:α} (h:xs[i]? = some x):(xs.map f)[i * 1]? = some (f x):=by rw [Nat.mul_one,List.getElem?_map,h]; rfl
def add64 (x y c:Ua):Oa (Ua × Ua):=if c.toNat <= 1 then some (UInt64.ofNat ((x.toNat + y.toNat + c.toNat) % 18446744073709551616),UInt64.ofNat ((x.toNat + y.toNat + c.toNat) / 18446744073709551616)) else none
def sub64 (x y b:Ua):Oa (Ua × Ua):=if b.toNat <= 1 then some (UInt64.ofNat ((x.toNat + 18446744073709551616 - y.toNat - b.toNat) % 18446744073709551616),if x.toNat < y.toNat + b.toNat then 1 else 0) else none
section
variable {P:Program} {σ:La (Nat × Vc)} {w w0:World} {x y z:Operand} {d:Oa Tmp} {t t' s ty e:TypeId} {ps:String} {af:Array Edge} {g:Oa (Nat × Bool)} {O O' : La Ob} {v:Vc}
theorem FV.convU8 {k1:IntKind} {i:Int} (hs:P.underlying s = some (.int k1)) (ht:P.underlying t = some (.int .u8)) (hx:ev σ x = some (.int k1 i)):FV P ⟨d,.convert s t x,ty,ps,af,g⟩ σ w (.int .u8 ((aO i).toNat:Int)):=FV.conv hs ht hx (wrap_u8 i)
def fldB (P:Program) (t f off m:Nat):Bool:=match P.underlying t with
 | some (.struct fs)=>match fs[f]? with
  | some fd=>fd.offset == off && P.cellsOf fd.type == m && (P.underlying fd.type).isSome
  | none=>false
 | _=>false
def lu (P:Program) (t f:Nat):TypeId:=match P.underlying t with
 | some (.struct fs)=>match fs[f]? with
  | some fd=>fd.type
  | none=>0
 | _=>0
theorem lX {f off m:Nat} {cs:Array Vc} (h:fldB P t f off m = true) (w' : World):(Instr.field t (.agg cs) f).run P w' = (part (lu P t f) cs off).run P w' /\P.cellsOf (lu P t f) = m/\∃ u,P.underlying (lu P t f) = some u:=by
 unfold fldB at h
 unfold lu
 split at h
 ·rename_i fs hu
  split at h
  ·rename_i fd hf
   rw [Bool.and_eq_true,Bool.and_eq_true] at h
   have h1:fd.offset = off:=by simpa using h.1.1
   have h2:P.cellsOf fd.type = m:=by simpa using h.1.2
   refine ⟨?_,h2,Option.isSome_iff_exists.1 h.2⟩
   simp [Instr.field,Sem.run_bind,run_underlying hu,hf,asAgg,h1]
  ·cases h
 ·cases h
theorem FV.field1 {f off m:Nat} {cs:La Vc} (h:fldB P t f off m = true) (h2:cv P (lu P t f) = false) (hx:ev σ x = some (.agg cs.toArray)) (hv:cs[off]? = some v):FV P ⟨d,.field t x f,ty,ps,af,g⟩ σ w v:=fun ρ ha w' _=>by
 obtain ⟨h3,h4,u,hu⟩:=lX (cs:=cs.toArray) h w'
 have hagg:(isAgg (lu P t f)).run P w' = .ok false w' :=by
  unfold cv at h2
  unfold isAgg
  rw [hu] at h2; rw [Sem.run_bind,run_underlying hu w']; cases u <;> simp_all
 simp only [execOp,ha _ _ hx,Sem.run_bind,h3]
 simp [part,hagg,hv]
def lU (P:Program) (t:Nat):TypeId:=match P.underlying t with
 | some (.array _ e)=>e
 | _=>0
def mT (P:Program) (t:Nat):Nat:=match P.underlying t with
 | some (.array n _)=>n
 | _=>0
def mH (P:Program) (t m:Nat) (q:Bool):Bool:=match P.underlying t with
 | some (.array _ e)=>P.cellsOf e == m && (P.underlying e).isSome && cv P e == q
 | _=>false
theorem kh {m k:Nat} {q:Bool} {cs:Array Vc} (h:mH P t m q = true) {kd:IntKind} (hk:k < mT P t) (w' : World):(Instr.index t (.agg cs) (.int kd (k:Int))).run P w' = (part (lU P t) cs (k * m)).run P w' /\P.cellsOf (lU P t) = m/\cv P (lU P t) = q/\∃ u,P.underlying (lU P t) = some u:=by
 unfold mH at h
 unfold lU mT at *
 split at h
 ·rename_i n e hu
  simp only [hu] at hk ⊢
  rw [Bool.and_eq_true,Bool.and_eq_true] at h
  have h1:P.cellsOf e = m:=by simpa using h.1.1
  have h3:cv P e = q:=by simpa using h.2
  obtain ⟨u,hu2⟩:=Option.isSome_iff_exists.1 h.1.2
  obtain ⟨i,hi⟩:=info_of_underlying hu2
  refine ⟨?_,h1,h3,u,hu2⟩
  have hlt:(0:Int) <= (k:Int)/\(k:Int) < (n:Int):=by omega
  simp [Instr.index,asIntOf,Sem.run_bind,run_underlying hu,hk,run_sizeOf w' hi,h1]
 ·cases h
theorem FV.idxN {m len k:Nat} {kd:IntKind} {i:Int} {cs ds:La Vc} (h:mH P t m true = true) (hl:mT P t = len) (hx:ev σ x = some (.agg cs.toArray)) (hy:ev σ y = some (.int kd i)) (hi:i = (k:Int)) (hk:k < len) (hv:(cs.drop (k * m)).take m = ds):FV P ⟨d,.index t x y,ty,ps,af,g⟩ σ w (.agg ds.toArray):=fun ρ ha w' _=>by
 subst hi
 obtain ⟨h3,h4,h2,u,hu⟩:=kh (cs:=cs.toArray) (kd:=kd) h (by rw [hl]; exact hk) w'
 obtain ⟨i,hi⟩:=info_of_underlying hu
 have hagg:(isAgg (lU P t)).run P w' = .ok true w' :=by
  unfold cv at h2
  unfold isAgg
  rw [hu] at h2; rw [Sem.run_bind,run_underlying hu w']; cases u <;> simp_all
 have hcs:cs.toArray.extract (k * m) (k * m + m) = ds.toArray:=by
  apply Array.ext'
  rw [<- hv]
  simp
 simp only [execOp,ha _ _ hx,ha _ _ hy,Sem.run_bind,h3]
 simp only [part,Sem.run_bind,hagg,Result.andThen_ok,if_true,run_sizeOf w' hi,h4,Sem.run_pure,hcs]
/-! ### Functions without a body -/
theorem kD {f : FuncId} {fn : Func} {ex : Array Value → Sem Value} (hfn : P.funcs[f]? = some fn) (hb : fn.body = none) (hn : (fn.name == "runtime.NumGoroutine") = false) (h1 : (Extern.findNext fn).isNone = true) (h2 : Extern.find fn = some ex) {vs : Array Value} {w' : World} {u : Value} (he : (ex vs).run P w' = .ok u w') : (callFunc f vs).run P w' = .ok (.value u) w' := by
 have h1' : Extern.findNext fn = none:=by simpa using h1
 simp only [callFunc,Sem.run_bind,run_program,Result.andThen_ok,hfn,hn,hb,Option.isNone_none,if_true,Bool.false_eq_true,if_false]
 simp [h1', h2,he,mark,Sem.run]
theorem FV.ext3 {f : FuncId} {fn : Func} {ex : Array Value → Sem Value} {a b c u : Value} {ts : Array TypeId} (hfn : P.funcs[f]? = some fn) (hb : fn.body = none) (hn : (fn.name == "runtime.NumGoroutine") = false) (h1 : (Extern.findNext fn).isNone = true) (h2 : Extern.find fn = some ex) (hx : ev σ x = some a) (hy : ev σ y = some b) (hz : ev σ z = some c)
  (he:∀ w', (ex #[a,b,c]).run P w' = .ok u w'):FV P ⟨d,.call { callee:=.value (.func f),args:=#[x,y,z],argTypes:=ts },ty,ps,af,g⟩ σ w u:=fun ρ ha w' _=>by
 have hc:ρ (.func f) = .func (.func f) #[] #[]:=ha _ _ I
 have hr:=kD (P:=P) (vs:=#[a,b,c]) (w' :=w') hfn hb hn h1 h2 (he w')
 simp [execOp,resolve,hc,ha _ _ hx,ha _ _ hy,ha _ _ hz,Deferred.ofValue,invoke,hr]
def ns:Array Vc -> Sem Vc:=(Extern.MathBitsCarry.rows.head!).2
def nb:Array Vc -> Sem Vc:=(Extern.MathBitsCarry.rows.tail.head!).2
theorem lH {a b c:Ua} {r:Ua × Ua} (h:add64 a b c = some r) (w' : World):(ns #[.int .u64 (a.toNat:Int),.int .u64 (b.toNat:Int),.int .u64 (c.toNat:Int)]).run P w' = .ok (.tuple #[.int .u64 (r.1.toNat:Int),.int .u64 (r.2.toNat:Int)]) w' :=by
 unfold add64 at h
 split at h
 ·rename_i hc
  cases h
  have hc' : ¬ c.toNat > 1:=by omega
  have ha:=bZ a; have hb:=bZ b
  rw [UInt64.toNat_ofNat_of_lt' (by simp only [UInt64.size]; omega),UInt64.toNat_ofNat_of_lt' (by simp only [UInt64.size]; omega)]
  have h3:∀ nm,(Extern.MathBitsCarry.three nm #[.int .u64 (a.toNat:Int),.int .u64 (b.toNat:Int),.int .u64 (c.toNat:Int)]).run P w' = .ok (a.toNat,b.toNat,c.toNat) w' :=fun nm=>by
   show (do
    let c' :=(<- asInt (.int .u64 (c.toNat:Int))).toNat
    if c' > 1 then unsupported (.noEntry ("extern/math/bits." ++ nm ++ ": a carry that is neither 0 nor 1"))
    pure ((<- asInt (.int .u64 (a.toNat:Int))).toNat,(<- asInt (.int .u64 (b.toNat:Int))).toNat,c'):Sem (Nat × Nat × Nat)).run P w' = _
   have hc2:¬ 1 < c.toNat:=hc'
   simp [asInt,asIntOf]
   omega
  show (do let (x, y, c) ← Extern.MathBitsCarry.three "Add64" #[.int .u64 (a.toNat : Int), .int .u64 (b.toNat : Int), .int .u64 (c.toNat : Int)]; pure (Extern.MathBitsCarry.pair ((x + y + c) % Extern.MathBitsCarry.m64) ((x + y + c) / Extern.MathBitsCarry.m64)) : Sem Value).run P w' = _
  rw [Sem.run_bind,h3]
  simp [Extern.MathBitsCarry.pair,Extern.MathBitsCarry.m64]
 ·cases h
theorem ma {a b c:Ua} {r:Ua × Ua} (h:sub64 a b c = some r) (w' : World):(nb #[.int .u64 (a.toNat:Int),.int .u64 (b.toNat:Int),.int .u64 (c.toNat:Int)]).run P w' = .ok (.tuple #[.int .u64 (r.1.toNat:Int),.int .u64 (r.2.toNat:Int)]) w' :=by
 unfold sub64 at h
 split at h
 ·rename_i hc
  cases h
  have hc' : ¬ c.toNat > 1:=by omega
  have ha:=bZ a; have hb:=bZ b
  have hi:((if a.toNat < b.toNat + c.toNat then (1:Ua) else 0).toNat:Int) = if a.toNat < b.toNat + c.toNat then 1 else 0:=by split <;> rfl
  rw [UInt64.toNat_ofNat_of_lt' (by simp only [UInt64.size]; omega),hi]
  have h3:∀ nm,(Extern.MathBitsCarry.three nm #[.int .u64 (a.toNat:Int),.int .u64 (b.toNat:Int),.int .u64 (c.toNat:Int)]).run P w' = .ok (a.toNat,b.toNat,c.toNat) w' :=fun nm=>by
   show (do
    let c' :=(<- asInt (.int .u64 (c.toNat:Int))).toNat
    if c' > 1 then unsupported (.noEntry ("extern/math/bits." ++ nm ++ ": a carry that is neither 0 nor 1"))
    pure ((<- asInt (.int .u64 (a.toNat:Int))).toNat,(<- asInt (.int .u64 (b.toNat:Int))).toNat,c'):Sem (Nat × Nat × Nat)).run P w' = _
   have hc2:¬ 1 < c.toNat:=hc'
   simp [asInt,asIntOf]
   omega
  show (do let (x, y, c) ← Extern.MathBitsCarry.three "Sub64" #[.int .u64 (a.toNat : Int), .int .u64 (b.toNat : Int), .int .u64 (c.toNat : Int)]; pure (Extern.MathBitsCarry.pair ((x + Extern.MathBitsCarry.m64 - y - c) % Extern.MathBitsCarry.m64) (if x < y + c then 1 else 0)) : Sem Value).run P w' = _
  rw [Sem.run_bind,h3]
  simp [Extern.MathBitsCarry.pair,Extern.MathBitsCarry.m64]
  split <;> rfl
 ·cases h
theorem FV.add64 {f : FuncId} {fn : Func} {a b c : UInt64} {r : UInt64 × UInt64} {ts : Array TypeId} (hfn : P.funcs[f]? = some fn) (hb : fn.body = none) (hn : (fn.name == "runtime.NumGoroutine") = false) (h1 : (Extern.findNext fn).isNone = true) (h2 : Extern.find fn = some ns) (hx : ev σ x = some (.int .u64 (a.toNat : Int))) (hy : ev σ y = some (.int .u64 (b.toNat : Int))) (hz : ev σ z = some (.int .u64 (c.toNat : Int)))
  (h:Proofs.YtmhnkiifknjgaaaGreatDoor.add64 a b c = some r):FV P ⟨d,.call { callee:=.value (.func f),args:=#[x,y,z],argTypes:=ts },ty,ps,af,g⟩ σ w (.tuple #[.int .u64 (r.1.toNat:Int),.int .u64 (r.2.toNat:Int)]):=FV.ext3 hfn hb hn h1 h2 hx hy hz (lH h)
theorem FV.sub64 {f : FuncId} {fn : Func} {a b c : UInt64} {r : UInt64 × UInt64} {ts : Array TypeId} (hfn : P.funcs[f]? = some fn) (hb : fn.body = none) (hn : (fn.name == "runtime.NumGoroutine") = false) (h1 : (Extern.findNext fn).isNone = true) (h2 : Extern.find fn = some nb) (hx : ev σ x = some (.int .u64 (a.toNat : Int))) (hy : ev σ y = some (.int .u64 (b.toNat : Int))) (hz : ev σ z = some (.int .u64 (c.toNat : Int)))
  (h:Proofs.YtmhnkiifknjgaaaGreatDoor.sub64 a b c = some r):FV P ⟨d,.call { callee:=.value (.func f),args:=#[x,y,z],argTypes:=ts },ty,ps,af,g⟩ σ w (.tuple #[.int .u64 (r.1.toNat:Int),.int .u64 (r.2.toNat:Int)]):=FV.ext3 hfn hb hn h1 h2 hx hy hz (ma h)
end
/-! ### Elements of the call's own rows -/
section
variable {α:Type} [Rep α] {P:Program} {σ:La (Nat × Vc)} {w w0:World} {x y:Operand} {t ty:TypeId} {ps:String} {af:Array Edge} {g:Oa (Nat × Bool)} {O O' : La Ob} {v:Vc} {base:Nat} {e:TypeId} {cs:La Vc} {xs ys:La α} {L:La Nat} {dd:Oa Tmp}
theorem lz (a:Addr) (i j:Nat):(a.add i).add j = a.add (i + j):=bP _ _ _
theorem St.nthAt (s:St w0 w O) (u:At O (.row base e (Rep.size α) v xs.length cs)) (hc:Cells w L cs xs) {i:Nat} {x:α} (hx:xs[i]? = some x) {bk n' c' : Nat} (he:v = .slice (some ⟨bk,0,none⟩) n' c') :
  ∃ c,v = .slice (some ⟨bk,0,none⟩) xs.length c/\i < xs.length/\∃ es,Rep.R w L es x/\(∀ j u,es[j]? = some u -> w.cell? (((⟨bk,0,none⟩:Addr).add (i * Rep.size α)).add j) = some u)/\(cs.drop (i * Rep.size α)).take (Rep.size α) = es:=by
 obtain ⟨hi,rfl⟩:=List.getElem?_eq_some_iff.1 hx
 obtain ⟨A,c,h1,_,_,_,h5,h6⟩:=s.rowForm u.upd
 obtain ⟨bk', rfl⟩:=h5 (by omega)
 obtain rfl:bk' = bk:=by rw [h1] at he; cases he; rfl
 exact ⟨c,h1,hi,_,hc.2 i hi,fun j u hu=>ac (h6 _ I) _ _ j u hu,I⟩
theorem Acts.setPart {i tot:Nat} {yv:Vc} {zx:α} {ds news full:La Vc} {bk c:Nat} {F:La Vc -> La Ob} {pa:Addr} (hput:put xs (i:Int) zx = some ys) (s:St w0 w O) (he:v = .slice (some ⟨bk,0,none⟩) xs.length c) (u:∀ cs', Upd O (.row base e (Rep.size α) v xs.length cs) (.row base e (Rep.size α) v ys.length cs') (F cs')) (hc:Cells w (bl O ++ L) cs xs)
  (hch:(cs.drop (i * Rep.size α)).take (Rep.size α) = ds) (hf:ds.take tot ++ news ++ ds.drop (tot + news.length) = full) (hn:Nat.ble (tot + news.length) (Rep.size α) = true)
  (hx:ev σ x = some (.pointer (some pa))) (hp:pa = ((⟨bk,0,none⟩:Addr).add (i * Rep.size α)).add tot) (hy:ev σ y = some yv) (hv:yv.cells = news.toArray) (hr:Rep.R w (bl O ++ L) full zx) (hs:cp P t news.length = true) (h1:∀ u ∈ news,u.oneCell' = true) :
  Acts P ⟨dd,.store t x y,ty,ps,af,g⟩ σ w (fun w1=>∃ cs', St w0 w1 (F cs')/\Tr w O w1 (F cs')/\Cells w1 (bl (F cs') ++ L) cs' ys):=by
 subst he
 obtain ⟨rfl,_,hi⟩:=mn hput
 simp only [Int.toNat_natCast,List.length_set] at *
 have hn:tot + news.length <= Rep.size α:=by simpa [Nat.ble_eq] using hn
 have hl:=Rep.len hr
 have hle:i * Rep.size α + Rep.size α <= cs.length:=by rw [hc.1,<- Nat.succ_mul]; exact Nat.mul_le_mul_right _ hi
 have hdl:ds.length = Rep.size α:=by rw [<- hch,List.length_take,List.length_drop]; omega
 have hsplit:cs = cs.take (i * Rep.size α) ++ (ds ++ cs.drop (i * Rep.size α + Rep.size α)):=by
  rw [<- hch,<- List.drop_drop,List.take_append_drop,List.take_append_drop]
 have hA:(cs.take (i * Rep.size α)).length = i * Rep.size α:=by rw [List.length_take]; omega
 have hlist:cs.take (i * Rep.size α + tot) ++ news ++ cs.drop (i * Rep.size α + tot + news.length) = cs.take (i * Rep.size α) ++ full ++ cs.drop (i * Rep.size α + full.length):=by
  rw [hl,<- hf]
  generalize hB:cs.drop (i * Rep.size α + Rep.size α) = B at *
  generalize hA' : cs.take (i * Rep.size α) = A at *
  rw [hsplit]
  have e1:(A ++ (ds ++ B)).take (i * Rep.size α + tot) = A ++ ds.take tot:=by
   rw [<- hA,List.take_length_add_append,List.take_append_of_le_length (by omega)]
  have e2:(A ++ (ds ++ B)).drop (i * Rep.size α + tot + news.length) = ds.drop (tot + news.length) ++ B:=by
   rw [<- hA,Nat.add_assoc,List.drop_length_add_append,List.drop_append_of_le_length (by omega)]
  rw [e1,e2]
  simp [List.append_assoc]
 have hpa:pa = (⟨bk,0,none⟩:Addr).add (i * Rep.size α + tot):=by rw [hp,lz]
 have key:=Acts.storeRow (P:=P) (t:=t) (dd:=dd) (ty:=ty) (ps:=ps) (af:=af) (g:=g) (old:=cs) (news:=news) s (u _) hx hpa hy hv hs (by omega) h1 I
 intro ρ ha w' hw
 obtain ⟨w1,h5,h6,h7⟩:=key ρ ha w' hw
 refine ⟨w1,h5,_,h6,h7,?_⟩
 rw [hlist]
 rw [hlist] at h7
 exact (hc.set hi hr).mv h7
end
section
open Go Go.RowKit
instance:Rep UInt32:=Rep.plain (fun x=>.int .u32 (x.toNat:Int)) (fun _=>rfl)
def mc (s:ByteArray) (l h:Int):Oa ByteArray:=if 0 <= l/\l <= h/\h <= s.size then some (s.extract l.toNat h.toNat) else none
def kr (a b:ByteArray):Oa ByteArray:=if a.size + b.size <= 4611686018427387904 then some (a ++ b) else none
def bstr (xs:La UInt8):ByteArray:=⟨xs.toArray⟩
section
variable {P:Program} {σ:La (Nat × Vc)} {w w0:World} {x y z:Operand} {d:Oa Tmp} {t t' s ty e:TypeId} {ps:String} {af:Array Edge} {g:Oa (Nat × Bool)} {O O' : La Ob} {v:Vc}
theorem FV.strCut {s r:ByteArray} {l h:Int} {lo hi:Oa Operand} (hc:mc s l h = some r) (ht:P.underlying t = some .string) (hx:ev σ x = some (.string s)) (hlo:match lo with | none=>l = 0 | some y=>∃ k,ev σ y = some (.int k l)) (hhi:match hi with | none=>h = (s.size:Int) | some y=>∃ k,ev σ y = some (.int k h)) :
  FV P ⟨d,.slice t x lo hi none,ty,ps,af,g⟩ σ w (.string r):=fun ρ ha w' _=>by
 unfold mc at hc
 split at hc
 ·rename_i hh
  obtain ⟨h1,h2,h3⟩:=hh
  cases hc
  have h0:0 <= h:=by omega
  cases lo with
  | none=>
   simp only at hlo
   subst hlo
   cases hi with
   | none=>
    simp only at hhi
    subst hhi
    simp [execOp,ha _ _ hx,Instr.sliceAt,Instr.slice,Instr.sliceBounds,run_underlying ht]
   | some y=>
    obtain ⟨k,hy⟩:=hhi
    simp [execOp,ha _ _ hx,ha _ _ hy,Instr.sliceAt,Instr.slice,Instr.sliceBounds,Instr.sliceBound,asIntOf,run_underlying ht,h0,h3]
  | some q=>
   obtain ⟨k2,hq⟩:=hlo
   cases hi with
   | none=>
    simp only at hhi
    subst hhi
    simp [execOp,ha _ _ hx,ha _ _ hq,Instr.sliceAt,Instr.slice,Instr.sliceBounds,Instr.sliceBound,asIntOf,run_underlying ht,h1,h2]
   | some y=>
    obtain ⟨k,hy⟩:=hhi
    have h2' : l <= (h.toNat:Int):=by omega
    simp [execOp,ha _ _ hx,ha _ _ hy,ha _ _ hq,Instr.sliceAt,Instr.slice,Instr.sliceBounds,Instr.sliceBound,asIntOf,run_underlying ht,h0,h3,h1]
    intro h9; exfalso; omega
 ·cases hc
theorem FV.addS {a b c:ByteArray} (h:kr a b = some c) (hx:ev σ x = some (.string a)) (hy:ev σ y = some (.string b)):FV P ⟨d,.binOp .add t x y t', ty,ps,af,g⟩ σ w (.string c):=fun ρ ha w' _=>by
 unfold kr at h
 split at h
 ·rename_i hh
  cases h
  have hm:¬ (((a.size + b.size:Nat):Int) > IntKind.i64.max):=by simp [IntKind.max,IntKind.bits,IntKind.signed]; omega
  have hs:(Op.stringOp .add a b).run P w' = .ok (.string (a ++ b)) w' :=by unfold Op.stringOp; simp only; rw [if_neg hm]; rfl
  simp [execOp,ha _ _ hx,ha _ _ hy,eqGuard,binOp,hs]
 ·cases h
/-! ### Bytes as a string -/
theorem ka (xs:La UInt8):∀ r:ByteArray,(xs.map fun x=>(x.toNat:Int)).foldl (fun r n=>r.push (UInt8.ofNat n.toNat)) r = ⟨(r.data.toList ++ xs).toArray⟩:=by
 induction xs with
 | nil=>intro r; obtain ⟨⟨r⟩⟩:=r; simp
 | cons x xs ih=>
  intro r
  rw [List.map_cons,List.foldl_cons,ih]
  have hx:UInt8.ofNat ((x.toNat:Int).toNat) = x:=by simp
  rw [hx]
  obtain ⟨⟨r⟩⟩:=r
  simp [ByteArray.push]
theorem FV.convIS {k1:IntKind} {i:Int} {r:ByteArray} (hs:P.underlying s = some (.int k1)) (ht:P.underlying t = some .string) (hx:ev σ x = some (.int k1 i)) (hr:Utf8.encode i = r):FV P ⟨d,.convert s t x,ty,ps,af,g⟩ σ w (.string r):=fun ρ ha w' _=>by
 subst hr
 simp [execOp,ha _ _ hx,go_sem,hs,ht]
theorem FV.bytesS {xs:La UInt8} {L:La Nat} (hs:P.underlying s = some (.slice e)) (ht:P.underlying t = some .string) (he:P.underlying e = some (.int .u8)) (hx:ev σ x = some v) (h:Src w L v xs):FV P ⟨d,.convert s t x,ty,ps,af,g⟩ σ w (.string (bstr xs)):=fun ρ ha w' hw=>by
 obtain ⟨A,c,ds,rfl,hc,hm,hA⟩:=h
 have hds:ds = xs.map fun x=>(Value.int .u8 (x.toNat:Int)):=by
  apply List.ext_getElem?
  intro i
  have hl:ds.length = xs.length:=by have:=hc.1; rwa [show Rep.size UInt8 = 1 from I,Nat.mul_one] at this
  rcases Nat.lt_or_ge i xs.length with hi | hi
  ·have h2:=hc.2 i hi
   rw [show Rep.size UInt8 = 1 from I,Nat.mul_one] at h2
   have h3:(ds.drop i).take 1 = [.int .u8 (xs[i].toNat:Int)]:=h2
   have h4:=congrArg (·[0]?) h3
   simp only [List.getElem?_cons_zero,List.getElem?_take,Nat.zero_lt_one,if_true,List.getElem?_drop,Nat.add_zero] at h4
   rw [h4,List.getElem?_map,List.getElem?_eq_getElem hi]; rfl
  ·rw [List.getElem?_eq_none (by omega),List.getElem?_eq_none (by rw [List.length_map]; omega)]
 have key:(Conv.bytesToString (.slice A xs.length c)).run P w' = .ok (.string (bstr xs)) w' :=by
  cases A with
  | none=>
   obtain rfl:=List.eq_nil_of_length_eq_zero (hA I)
   rfl
  | some ad=>
   have hl:(loadCells ad xs.length).run P w' = .ok ((xs.map fun x=>(x.toNat:Int)).map (Value.int .u8)).toArray w' :=by
    have h1:=run_loadCells_list (P:=P) w' ad ds (fun j u hu=>hw.cell0 (hm ad I j u hu))
    rw [hds,List.length_map] at h1
    rw [h1,List.map_map]; rfl
   rw [run_bytesToString w' ad xs.length c _ hl,ka]
   rfl
 simp [execOp,convert,ha _ _ hx,run_underlying hs,run_underlying ht,run_underlying he,key]
/-! ### Arrays as slices -/
theorem Src.arr {α:Type} [Rep α] {L:La Nat} {ys:La α} {p:Addr} {ds:La Vc} {n:Nat} (hm:∀ j u,ds[j]? = some u -> w.cell? (p.add j) = some u) (hc:Cells w L ds ys) (hn:ys.length = n):Src w L (.slice (some p) n n) ys:=by
 subst hn
 exact ⟨some p,_,ds,rfl,hc,fun ad e=>by cases e; exact hm,fun e=>by cases e⟩
def aQ {α:Type} (ys:La α) (j:Nat) (o:α):α:=(ys[j]?).getD o
def cpL {α:Type} (ys:La α):Nat -> La α -> La α
 | _,[]=>[]
 | j,o :: os=>aQ ys j o :: cpL ys (j + 1) os
theorem nj {α:Type} (ys:La α):∀ (os:La α) (j:Nat),cpL ys j os = (ys.drop j).take os.length ++ os.drop (min (ys.length - j) os.length)
 | [],j=>by simp [cpL]
 | o :: os,j=>by
  rw [cpL,nj ys os (j + 1)]
  unfold aQ
  rcases Nat.lt_or_ge j ys.length with hj | hj
  ·rw [List.getElem?_eq_getElem hj,Option.getD_some,List.drop_eq_getElem_cons hj,List.length_cons,List.take_succ_cons,List.cons_append]
   congr 2
   rw [show min (ys.length - j) (os.length + 1) = min (ys.length - (j + 1)) os.length + 1 by omega,List.drop_succ_cons]
  ·rw [List.getElem?_eq_none hj,Option.getD_none,List.drop_of_length_le hj,List.drop_of_length_le (by omega:ys.length <= j + 1)]
   rw [show ys.length - j = 0 by omega,show ys.length - (j + 1) = 0 by omega]
   simp
theorem DoesL.copyArr {α:Type} [Rep α] (f:α -> Vc) {L:La Nat} {olds ys:La α} {pre post old new' : La Vc} {bk m' n:Nat} {eo:TypeId} {p:Addr} {sv:Vc} {dd:Oa Tmp} (hsz:Rep.size α = 1) (hf:∀ w L cs (x:α),Rep.R w L cs x -> cs = [f x]) (s:St w0 w O) (u:Upd O (.cells bk old eo) (.cells bk new' eo) O') (ht:dV P t 1 = true)
  (hx:ev σ x = some (.slice (some p) n n)) (hp:p = ⟨bk,m', none⟩) (hm:pre.length = m') (hn:olds.length = n) (ho:old = pre ++ olds.map f ++ post) (hnw:new' = pre ++ (cpL ys 0 olds).map f ++ post) (hy:ev σ y = some sv) (hs:Src w L sv ys) :
  DoesL P ⟨dd,.call { callee:=.builtin .copy,args:=#[x,y],argTypes:=#[t,t'] },ty,ps,af,g⟩ σ w (fun r w1=>r = .int .i64 ((min ys.length n:Nat):Int)/\Now w0 w O O' w1):=by
 intro ρ ha w' hw
 subst hp
 obtain ⟨As,cc,ds,rfl,g2,g3,g4⟩:=hs
 have hl:ds.length = ys.length:=by rw [g2.1,hsz,Nat.mul_one]
 have hds:ds = ys.map f:=by
  apply List.ext_getElem?
  intro i
  rcases Nat.lt_or_ge i ys.length with hi | hi
  ·have h2:=hf _ _ _ _ (g2.2 i hi)
   rw [hsz,Nat.mul_one] at h2
   have h4:=congrArg (·[0]?) h2
   simp only [List.getElem?_cons_zero,List.getElem?_take,Nat.zero_lt_one,if_true,List.getElem?_drop,Nat.add_zero] at h4
   rw [h4,List.getElem?_map,List.getElem?_eq_getElem hi]; rfl
  ·rw [List.getElem?_eq_none (by omega),List.getElem?_eq_none (by rw [List.length_map]; omega)]
 have hb:=s.get u
 have hb' : w'.heap[bk]? = some (.cells old.toArray eo (0,0)):=aW hw hb
 have hnew:new' = old.take m' ++ ds.take (min ys.length n) ++ old.drop (m' + (ds.take (min ys.length n)).length):=by
  have e1:cpL ys 0 olds = ys.take (min ys.length n) ++ olds.drop (min ys.length n):=by
   rw [nj,List.drop_zero,Nat.sub_zero,hn]
   congr 1
   rcases Nat.le_total ys.length n with h | h
   ·rw [Nat.min_eq_left h,List.take_of_length_le h,List.take_length]
   ·rw [Nat.min_eq_right h]
  have e2:(ds.take (min ys.length n)).length = min ys.length n:=by rw [List.length_take,hl]; omega
  rw [hnw,e1,e2,ho,hds,<- List.map_take]
  subst hm
  rw [List.append_assoc pre (List.map f olds),List.take_left,List.drop_length_add_append,List.map_append,List.drop_append_of_le_length (by rw [List.length_map]; omega),List.map_drop]
  simp [List.append_assoc]
 unfold dV at ht
 split at ht
 ·rename_i el hun
  split at ht
  ·rename_i jj hjj
   have hinfo:(P.info? el).map (·.size) = some 1:=by rw [hjj]; simp; simpa using ht
   have hst:∀ w1,Agree [bk] w' w1 -> w1.heap[bk]? = some (.cells new'.toArray eo (0,0)) -> Now w0 w O O' w1:=fun w1 hag h1=>by
    have hag' : Agree [bk] w w1:=(hw.widen).trans hag
    have hL:∀ b ∈ [bk],(Ob.cells bk old eo).block = some b:=by simp [Ob.block]
    exact ⟨s.upd u hag' hL h1 (fun b e=>.inl e),Tr.upd u hag' hL (fun b e=>.inl e)⟩
   by_cases hk:min ys.length n = 0
   ·refine ⟨.int .i64 0,w', ?_,by rw [hk]; rfl,hst w' (Agree.refl _ _) ?_⟩
    ·have:=run_copy_none (P:=P) w' t t' ty el (some ⟨bk,m', none⟩) As n n ys.length cc hun hinfo hk
     simp only [execOp,resolve,invoke,builtin,Array.map]
     simp [ha _ _ hx,ha _ _ hy,this,goInt]
    ·rw [hb']
     have:new' = old:=by rw [hnew,hk]; simp
     rw [this]
   ·cases hAs:As with
    | none=>have:=g4 hAs; omega
    | some a=>
     have hfit:m' + (ds.take (min ys.length n)).length <= old.length:=by
      rw [ho,List.length_take,hl]; simp only [List.length_append,List.length_map]; omega
     have key:=run_copy_row (P:=P) w' t t' ty el bk m' n n a ys.length cc old.toArray eo (ds.take (min ys.length n)) hun hinfo hb' (by rw [List.length_take,hl]; show _ = min _ _; omega)
      (fun j u9 hj=>hw.cell0 (lZ (g3 a hAs) _ j u9 hj)) (by simpa using hfit) (fun u9 hm=>g2.cell u9 (List.mem_of_mem_take hm))
     refine ⟨.int .i64 ((min ys.length n:Nat):Int),w'.setRow bk (old.take m' ++ ds.take (min ys.length n) ++ old.drop (m' + (ds.take (min ys.length n)).length)).toArray,?_,I,hst _ (cN hb' _) ?_⟩
     ·have hkl:(ds.take (min ys.length n)).length = min ys.length n:=by rw [List.length_take,hl]; omega
      rw [hkl] at key ⊢
      subst hAs
      simp only [execOp,resolve,invoke,builtin,Array.map]
      simp only [Sem.run_bind]
      simp [ha _ _ hx,ha _ _ hy,key,goInt]
     ·rw [hnew]; exact setRow_heap w' bk _ _ eo _ hb'
  ·cases ht
 ·cases ht
/-! ### Great arrays -/
theorem Acts.storeBig {α:Type} (f:α -> Vc) {xs ys:La α} {m bk:Nat} {eo:TypeId} {dd:Oa Tmp} {xo yo:Operand} (hx:xs.length = m) (hy:ys.length = m) (s:St w0 w O) (u:Upd O (.cells bk (xs.map f) eo) (.cells bk (ys.map f) eo) O') (hxo:ev σ xo = some (.pointer (some ⟨bk,0,none⟩))) (hyo:ev σ yo = some (.agg (ys.map f).toArray)) (hs:cp P t m = true)
  (h1:∀ x,(f x).oneCell' = true):Acts P ⟨dd,.store t xo yo,ty,ps,af,g⟩ σ w (Now w0 w O O'):=
 Acts.store (j:=0) (news:=ys.map f) s u hxo rfl hyo rfl (by rw [List.length_map,hy]; exact hs) (by rw [Nat.ble_eq]; simp only [List.length_map]; omega) (fun u hu=>by obtain ⟨x,_,rfl⟩:=List.mem_map.1 hu; exact h1 x)
  (by rw [List.take_zero,List.nil_append,Nat.zero_add,List.drop_of_length_le (by simp only [List.length_map]; omega),List.append_nil])
theorem Acts.setBig {α:Type} (f:α -> Vc) {xs:La α} {m i bk:Nat} {x:α} {p:Addr} {eo:TypeId} {dd:Oa Tmp} {xo yo:Operand} (hx:xs.length = m) (hi:i < m) (s:St w0 w O) (u:Upd O (.cells bk (xs.map f) eo) (.cells bk ((xs.set i x).map f) eo) O') (hxo:ev σ xo = some (.pointer (some p))) (hp:p = ⟨bk,0 + i,none⟩) (hyo:ev σ yo = some (f x)) (hs:cp P t 1 = true)
  (h1:∀ x,(f x).cells = #[f x]/\(f x).oneCell' = true):Acts P ⟨dd,.store t xo yo,ty,ps,af,g⟩ σ w (Now w0 w O O'):=
 Acts.store (j:=i) (news:=[f x]) s u hxo (by rw [hp,Nat.zero_add]) hyo (h1 x).1 hs (by rw [Nat.ble_eq]; simp only [List.length_map,List.length_singleton]; omega) (fun u hu=>by simp only [List.mem_singleton] at hu; subst hu; exact (h1 x).2)
  (by rw [List.map_set,List.length_singleton,List.append_assoc,List.set_eq_take_append_cons_drop,if_pos (by rw [List.length_map]; omega)]; rfl)
end
/-! ### Calls that hand over slices of their own -/
def aU (base:Nat) (l:La (TypeId × Nat × Vc × Nat × La Vc)):La Ob:=l.map fun r=>.row base r.1 r.2.1 r.2.2.1 r.2.2.2.1 r.2.2.2.2
theorem dB (b b' : Nat):∀ l,bl (aU b l) = bl (aU b' l)
 | []=>rfl
 | r :: l=>by
  have:=dB b b' l
  unfold aU at *
  rw [List.map_cons,List.map_cons,ja,ja,this]; rfl
theorem Owns.rebase {w:World} {b b' : Nat} (h:b' <= b):∀ {l},Owns w (aU b l) -> Owns w (aU b' l)
 | [],_=>trivial
 | r :: l,⟨h1,h2,h3⟩=>by
  refine ⟨?_,fun c hc=>?_,Owns.rebase h h3⟩
  ·obtain ⟨⟨h4,h5⟩,h6⟩:=h1
   refine ⟨⟨h4,?_⟩,h6⟩
   rcases h5 with h5 | ⟨g,cap,cur,e1,e2,rest⟩
   ·exact .inl h5
   ·exact .inr ⟨g,cap,cur,e1,Nat.le_trans h e2,rest⟩
  ·rw [show List.map _ l = aU b' l from I,dB b' b]; exact h2 c hc
theorem St.rebase {w w9 w8:World} {b b' : Nat} {l:La (TypeId × Nat × Vc × Nat × La Vc)} (s:St w9 w8 (aU b l)) (hw:Agree [] w w9) (h:b' <= b):St w w8 (aU b' l):=
 ⟨hw.trans s.ag,fun c hc=>Nat.le_trans hw.size (s.new c (by rw [dB b b']; exact hc)),s.ok.rebase h⟩
theorem Cells.rebase {α:Type} [Rep α] {w:World} {b b' : Nat} {l:La (TypeId × Nat × Vc × Nat × La Vc)} {L:La Nat} {cs:La Vc} {xs:La α} (h:Cells w (bl (aU b l) ++ L) cs xs):Cells w (bl (aU b' l) ++ L) cs xs:=by rw [dB b' b]; exact h
theorem cG {α:Type} [Rep α] {w:World} {b:Nat} {l:La (TypeId × Nat × Vc × Nat × La Vc)} {O:La Ob} {L:La Nat} {cs:La Vc} {xs:La α} (h:Cells w (bl (aU b l) ++ (bl O ++ L)) cs xs):Cells w (bl (aU b l ++ O) ++ L) cs xs:=by
 rw [dD,List.append_assoc]; exact h
/-! ### Facts at a standing -/
section
variable {α:Type} [Rep α] {w0 w w1:World} {O O' : La Ob}
theorem Rep.nilAt (_:St w0 w O) (L:La Nat):Rep.R w (bl O ++ L) [.slice none 0 0] ([]:La α):=Rep.nilSlice _ _
theorem Rep.at_ {v:Vc} {xs:La α} (_:St w0 w O) (L:La Nat) (h:Rep.R w (bl O ++ L) [v] xs):Rep.R w (bl O ++ L) [v] xs:=h
theorem Cells.at_ {cs:La Vc} {xs:La α} (_:St w0 w O) (L:La Nat) (h:Cells w (bl O ++ L) cs xs):Cells w (bl O ++ L) cs xs:=h
end
section
variable {w0 w w1:World} {O O' : La Ob}
theorem St.delS {o:Ob} (s:St w0 w O) (u:Out O o O'):St w0 w O' :=s.del u.del
theorem St.delT {o:Ob} (_:St w0 w O) (u:Out O o O'):Tr w O w O' :=Tr.del u.del
theorem St.arrB (s:St w0 w O) (h:Arr O O'):St w0 w O' /\Tr w O w O' :=⟨s.arr h,Tr.arr h⟩
theorem St.agr (s:St w0 w O) (h:Agree [] w w1):St w0 w1 O/\Tr w O w1 O:=⟨s.agree h,Tr.agree h⟩
theorem St.nilRowT (_:St w0 w O) (e:TypeId) (sz:Nat):Tr w O w (.row w0.heap.size e sz (.slice none 0 0) 0 [] :: O):=Tr.nilRow _ _ _
theorem dc {e:TypeId} {sz n:Nat} {v:Vc} {cs:La Vc} {b:Nat} (s:St w0 w O) (s1:St w w1 (aU b [(e,sz,v,n,cs)])):St w0 w1 (.row b e sz v n cs :: O):=St.merge s s1
theorem gM {e:TypeId} {sz n:Nat} {v:Vc} {cs:La Vc} {b:Nat} (s:St w0 w O) (s1:St w w1 (aU b [(e,sz,v,n,cs)])):Tr w O w1 (.row b e sz v n cs :: O):=Tr.merge s s1
theorem cA {P:Program} {f:FuncId} {vs:Array Vc} {w9:World} {α:Type} [Rep α] {F:Vc -> Vc} {e:TypeId} {sz n b0:Nat} {L:La Nat} {xs:La α} (h:Calls P f vs w9 (aj w9 fun w' u=>∃ (v:Vc) (cs:La Vc),u = F v/\St w9 w' (aU w9.heap.size [(e,sz,v,n,cs)])/\Cells w' (bl (aU w9.heap.size [(e,sz,v,n,cs)]) ++ L) cs xs)) (hw:Agree [] w w9) (hb:b0 <= w9.heap.size) :
  Calls P f vs w9 (aj w9 fun w' u=>∃ (v:Vc) (cs:La Vc),u = F v/\St w w' (aU b0 [(e,sz,v,n,cs)])/\Cells w' (bl (aU b0 [(e,sz,v,n,cs)]) ++ L) cs xs):=
 Calls.gives h fun _ _ ⟨v,cs,hu,s,hc⟩=>⟨v,cs,hu,s.rebase hw hb,hc.rebase⟩
end
/-! ### Short forms -/
section
variable {P:Program} {Z:Machine -> Prop} {b:Frame} {n:Nat} {ds:La Deferred} {cs:La Frame} {k:La Item} {σ:La (Nat × Vc)} {w w0:World} {ops:Array Oper} {l:La Oper} {d:Nat} {op:Op} {ty:TypeId} {ps:String} {af:Array Edge} {v:Vc} {x y:Operand} {t f m m' i:Nat} {O O' : La Ob} {g:Oa (Nat × Bool)} {κ:KP}
theorem RG.vv (hq:FV P ⟨some d,op,ty,ps,af,none⟩ σ w v) (hd:Nat.blt d n = true) (h:RG P Z b n ds cs ops l k ((d,v) :: σ) w):RG P Z b n ds cs ops (⟨some d,op,ty,ps,af,none⟩ :: l) k σ w:=RG.val' .plain hq hd h
theorem RG.mv (hx:ev σ x = some v) (hd:Nat.blt d n = true) (h:RG P Z b n ds cs ops l k ((d,v) :: σ) w):RG P Z b n ds cs ops (⟨some d,.move x,ty,ps,af,none⟩ :: l) k σ w:=RG.val' .plain (FV.move hx) hd h
theorem RG.sg (hx:ev σ x = some v) (hd:Nat.blt d n = true) (h:RG P Z b n ds cs ops l k ((d,v) :: σ) w):RG P Z b n ds cs ops (⟨some d,.assign x,ty,ps,af,none⟩ :: l) k σ w:=RG.val' .plain (FV.assign hx) hd h
theorem MX.sr {id:Nat} {c:Code} (h:RG P Z b n ds cs l.toArray l (.code c :: k) σ w):MX P Z b n ds cs (.code (.seq (.region id l.toArray false) c) :: k) σ w:=MX.seq (MX.region h)
theorem Acts.storeAll {bk:Nat} {p:Addr} {old news:La Vc} {e t:TypeId} {dd:Oa Tmp} (s:St w0 w O) (u:Upd O (.cells bk old e) (.cells bk news e) O') (hx:ev σ x = some (.pointer (some p))) (hp:p = ⟨bk,0,none⟩) (hy:ev σ y = some v) (hv:v.cells = news.toArray) (hs:cp P t news.length = true) (hl:old.length = news.length) (h1:∀ u ∈ news,u.oneCell' = true):Acts P ⟨dd,.store t x y,ty,ps,af,g⟩ σ w (Now w0 w O O'):=
 Acts.store (j:=0) s u hx hp hy hv hs (by rw [Nat.ble_eq,hl]; omega) h1 (by rw [Nat.zero_add,<- hl,List.drop_length,List.take_zero]; simp)
theorem RD.vw {T:La (Nat × Nat × Nat)} (i m' : Nat) (hT:bt ops = T) (hi:ops[i]? = some ⟨some d,op,ty,ps,af,none⟩) (hp:aP ops = true) (hq:∀ w,FV P ⟨some d,op,ty,ps,af,none⟩ σ w v) (hd:Nat.blt d n = true)
  (h:RD κ P Z b n ds cs ops t f m' k ((d,v) :: σ) w) (hB:eM T t m i m' = true:=by kernel_rfl) (hfr:κ.free i = true:=by rfl):RD κ P Z b n ds cs ops t (f + 1) m k σ w:=RD.vP i m' hT hi hp .plain hq hd h hB hfr
theorem RD.vx {T:La (Nat × Nat × Nat)} (i m' W:Nat) (hT:bt ops = T) (hi:ops[i]? = some ⟨some d,op,ty,ps,af,none⟩) (hp:aP ops = true) (hq:FV P ⟨some d,op,ty,ps,af,none⟩ σ w v) (hd:Nat.blt d n = true)
  (h:RD κ P Z b n ds cs ops t f m' k ((d,v) :: σ) w) (hB:ie T t m W i m' = true:=by kernel_rfl) (hfr:κ.free i = true:=by rfl):RD κ P Z b n ds cs ops t (f + 1) m k σ w:=RD.val (gy hT hB) hi hp .plain hq hd h hfr
theorem RD.cq {T:La (Nat × Nat × Nat)} {fn:FuncId} {c:Operand} {xs:La Operand} {vs:La Vc} {ts:Array TypeId} (i m' W:Nat) (v:Vc) (hT:bt ops = T) (hi:ops[i]? = some ⟨some d,.call { callee:=.value c,args:=xs.toArray,argTypes:=ts },ty,ps,af,none⟩) (hp:aP ops = true)
  (hf:bq P fn = true) (hcal:ev σ c = some (.func (.func fn) #[] #[])) (hv:evs σ xs vs) (hc:∀ w', Agree [] w w' -> Calls P fn ([] ++ vs ++ []).toArray w' (aj w' fun _ u=>u = v)) (hd:Nat.blt d n = true)
  (h:RD κ P Z b n ds cs ops t f m' k ((d,v) :: σ) w) (hB:ie T t m W i m' = true:=by kernel_rfl) (hfr:κ.free i = true:=by rfl):RD κ P Z b n ds cs ops t (f + 1) m k σ w:=RD.callq (fst:=[]) (cap:=[]) (gy hT hB) hi hp .plain hf hcal hv hc hd h hfr
theorem RG.cq {fn:FuncId} {c:Operand} {xs:La Operand} {vs:La Vc} {ts:Array TypeId} (v:Vc) (hf:bq P fn = true) (hcal:ev σ c = some (.func (.func fn) #[] #[])) (hv:evs σ xs vs)
  (hc:∀ w', Agree [] w w' -> Calls P fn ([] ++ vs ++ []).toArray w' (aj w' fun _ u=>u = v)) (hd:Nat.blt d n = true) (h:RG P Z b n ds cs ops l k ((d,v) :: σ) w) :
  RG P Z b n ds cs ops (⟨some d,.call { callee:=.value c,args:=xs.toArray,argTypes:=ts },ty,ps,af,none⟩ :: l) k σ w:=RG.callq' (fst:=[]) (cap:=[]) .plain hf hcal hv hc hd h
theorem RD.nu {T:La (Nat × Nat × Nat)} {mk:Nat -> Ob} {pv:Nat -> Vc} (i m' : Nat) (hT:bt ops = T) (hi:ops[i]? = some ⟨some d,op,ty,ps,af,g⟩) (hg:Want ops σ g true) (hd:Nat.blt d n = true) (D:Does P ⟨some d,op,ty,ps,af,g⟩ σ w (New w0 w O mk pv)) (h:∀ w1 b', St w0 w1 (mk b' :: O) -> Tr w O w1 (mk b' :: O) -> RD κ P Z b n ds cs ops t f m' k ((d,pv b') :: σ) w1)
  (h1:fO T m [i] = true:=by kernel_rfl) (h2:iv T m i m' = true:=by kernel_rfl) (hk:κ.nd (lst ops.size m) -> Kp κ.c w:=by exact KP.triv):RD κ P Z b n ds cs ops t (f + 1) m k σ w:=RD.one (dC hT h1) (RO.new (em hT h2) hi hg hd D h) hk
theorem RD.nw {T:La (Nat × Nat × Nat)} (i m' : Nat) (hT:bt ops = T) (hi:ops[i]? = some ⟨none,op,ty,ps,af,g⟩) (htl:tail t i = true) (hg:Want ops σ g true) (D:Acts P ⟨none,op,ty,ps,af,g⟩ σ w (Now w0 w O O')) (h:∀ w1,St w0 w1 O' -> Tr w O w1 O' -> RD κ P Z b n ds cs ops t f m' k σ w1)
  (h1:fO T m [i] = true:=by kernel_rfl) (h2:iv T m i m' = true:=by kernel_rfl) (hk:κ.nd (lst ops.size m) -> Kp κ.c w:=by exact KP.triv):RD κ P Z b n ds cs ops t (f + 1) m k σ w:=RD.one (dC hT h1) (RO.now (em hT h2) hi htl hg D h) hk
theorem RD.cl {T:La (Nat × Nat × Nat)} {fn:FuncId} {c:Operand} {xs:La Operand} {vs:La Vc} {ts:Array TypeId} {R:World -> Vc -> Prop} (i m' : Nat) (hT:bt ops = T) (hi:ops[i]? = some ⟨some d,.call { callee:=.value c,args:=xs.toArray,argTypes:=ts },ty,ps,af,g⟩) (hg:Want ops σ g true)
  (hf:bq P fn = true) (hcal:ev σ c = some (.func (.func fn) #[] #[])) (hv:evs σ xs vs) (hc:∀ w', Agree [] w w' -> Calls P fn ([] ++ vs ++ []).toArray w' (aj w' R)) (hd:Nat.blt d n = true)
  (h:∀ w1 v,Agree [] w w1 -> R w1 v -> RD κ P Z b n ds cs ops t f m' k ((d,v) :: σ) w1) (h1:fO T m [i] = true:=by kernel_rfl) (h2:iv T m i m' = true:=by kernel_rfl) (hk:κ.nd (lst ops.size m) -> Kp κ.c w:=by exact KP.triv):RD κ P Z b n ds cs ops t (f + 1) m k σ w:=
 RD.one (dC hT h1) (RO.call (fst:=[]) (cap:=[]) (em hT h2) hi hg hf hcal hv hc hd h) hk
theorem RO.callq {fn:FuncId} {c:Operand} {fst cap:La Vc} {xs:La Operand} {vs:La Vc} {ts:Array TypeId} (hst:bK ops.size m i m' = true) (hi:ops[i]? = some ⟨some d,.call { callee:=.value c,args:=xs.toArray,argTypes:=ts },ty,ps,af,g⟩) (hg:Want ops σ g true)
  (hf:bq P fn = true) (hcal:ev σ c = some (.func (.func fn) fst.toArray cap.toArray)) (hv:evs σ xs vs) (hc:∀ w', Agree [] w w' -> Calls P fn (fst ++ vs ++ cap).toArray w' (aj w' fun _ u=>u = v)) (hd:Nat.blt d n = true)
  (h:RD κ P Z b n ds cs ops t f m' k ((d,v) :: σ) w):RO κ P Z b n ds cs ops t f m k σ w i:=
 RO.call hst hi hg hf hcal hv hc hd fun w1 u hag hu=>by subst hu; exact ⟨fun hn=>Kp.agree hag (h.1 hn),fun a w' ha hw=>h.2 a w' ha (hag.trans hw)⟩
end
theorem ai {l:La Vc} (h:l.all (·.oneCell') = true):∀ u ∈ l,u.oneCell' = true:=List.all_eq_true.1 h
section
variable {α:Type} [Rep α] {w w0:World} {O O' : La Ob} {L:La Nat} {v:Vc} {xs ys zs:La α} {cs:La Vc} {e:TypeId} {base:Nat}
variable {P:Program} {σ:La (Nat × Vc)} {ty:TypeId} {ps:String} {af:Array Edge} {x y:Operand} {t:TypeId} {g:Oa (Nat × Bool)} {bytes:Nat} {z:Vc} {zc:La Vc} {dd:Oa Tmp}
inductive Reps {α:Type} [Rep α] (w:World) (L:La Nat):La (La Vc) -> La α -> Prop
 | nil:Reps w L [] []
 | cons {c:La Vc} {u:α} {css:La (La Vc)} {us:La α} (h:Rep.R w L c u) (t:Reps w L css us):Reps w L (c :: css) (u :: us)
theorem np {css:La (La Vc)} (hF:Reps w L css xs):∀ {i:Nat} {u:α},xs[i]? = some u -> ∃ ds,Rep.R w L ds u/\(css.flatten.drop (i * Rep.size α)).take (Rep.size α) = ds:=by
 induction hF with
 | nil=>intro i u h; simp at h
 | @cons c x css us h1 h2 ih=>
  intro i u hu
  cases i with
  | zero=>
   simp only [List.getElem?_cons_zero,Option.some.injEq] at hu
   subst hu
   exact ⟨c,h1,by rw [Nat.zero_mul,List.drop_zero,List.flatten_cons,<- Rep.len h1,List.take_left']; rfl⟩
  | succ i=>
   obtain ⟨ds,h3,h4⟩:=ih (by simpa using hu)
   refine ⟨ds,h3,?_⟩
   rw [<- h4,List.flatten_cons,Nat.succ_mul,Nat.add_comm,<- List.drop_drop,List.drop_left' (Rep.len h1)]
theorem FV.idxRP {d:Oa Tmp} {len i:Nat} {kd:IntKind} {j:Int} {cells:La Vc} {css:La (La Vc)} {u:α} (h:mH P t (Rep.size α) true = true) (hl:mT P t = len) (hn:xs.length = len) (hx:ev σ x = some (.agg cells.toArray)) (hc:cells = css.flatten) (hy:ev σ y = some (.int kd j)) (hi:j = (i:Int))
  (hF:Reps w L css xs) (hz:xs[i]? = some u):∃ v,(∀ w9,FV P ⟨d,.index t x y,ty,ps,af,g⟩ σ w9 v)/\∃ ds,v = .agg ds.toArray/\Rep.R w L ds u:=by
 obtain ⟨ds,h1,h2⟩:=np hF hz
 subst hc
 exact ⟨_,fun _=>FV.idxN h hl hx hy hi (by rw [<- hn]; exact (List.getElem?_eq_some_iff.1 hz).1) h2,ds,rfl,h1⟩
theorem FV.idxR {d:Oa Tmp} {len i:Nat} {kd:IntKind} {j:Int} {cells:La Vc} {css:La (La Vc)} {u:α} (h:mH P t (Rep.size α) true = true) (hl:mT P t = len) (hn:xs.length = len) (hx:ev σ x = some (.agg cells.toArray)) (hc:cells = css.flatten) (hy:ev σ y = some (.int kd j)) (hi:j = (i:Int))
  (hF:Reps w L css xs) (hz:xs[i]? = some u):∃ v,FV P ⟨d,.index t x y,ty,ps,af,g⟩ σ w v/\∃ ds,v = .agg ds.toArray/\Rep.R w L ds u:=
 let ⟨v,h1,h2⟩:=FV.idxRP h hl hn hx hc hy hi hF hz; ⟨v,h1 w,h2⟩
end
section
variable {α:Type} [Rep α] {w0 w w9:World} {O:La Ob} {L:La Nat} {cs:La Vc} {x:α}
theorem St.k0 (s:St w0 w O) (h:Rep.R w0 L cs x) (hw:Agree [] w w9):Rep.R w9 L cs x:=Rep.keep0 h (s.ag.trans hw)
theorem St.km (s:St w0 w O) (h:Rep.R w0 L cs x) (hw:Agree [] w w9):Rep.R w9 (bl O ++ L) cs x:=Rep.keep0 (Rep.mv0 h s) hw
theorem St.kd (_:St w0 w O) (h:Rep.R w (bl O ++ L) cs x) (hw:Agree [] w w9):Rep.R w9 L cs x:=Rep.keep0 (Rep.dropO h) hw
end
section
variable {P:Program} {Z:Machine -> Prop} {b:Frame} {n:Nat} {ds:La Deferred} {cs:La Frame} {k:La Item} {σ τ:La (Nat × Vc)} {w:World} {ops:Array Oper} {l:La Oper} {d:Nat} {op:Op} {ty:TypeId} {ps:String} {af:Array Edge} {g:Oa (Nat × Bool)} {t f m m' i:Nat} {Q:Vc -> Prop} {κ:KP}
end
section
variable {w0 w w1:World} {O O' : La Ob}
end
/-! ### Shorter forms -/
@[reducible] def vI (x:Int):Vc:=.int .i64 x
@[reducible] def vN:Vc:=.slice none 0 0
@[reducible] def vP (b:Nat):Vc:=.pointer (some ⟨b,0,none⟩)
@[reducible] def vS (b n:Nat):Vc:=.slice (some ⟨b,0,none⟩) n n
section
variable {P:Program} {Z:Machine -> Prop} {b:Frame} {n:Nat} {ds:La Deferred} {cs:La Frame} {k:La Item} {σ:La (Nat × Vc)} {w w0:World} {ops:Array Oper} {l:La Oper} {d:Nat} {op:Op} {ty:TypeId} {ps:String} {af:Array Edge} {v:Vc} {x y c:Operand} {t f m m' i:Nat} {O O' : La Ob} {g:Oa (Nat × Bool)} {dd:Oa Tmp} {j:Nat} {q:Bool} {p:Addr}
theorem RG.mo (hx:ev σ x = some v) (h:RG P Z b n ds cs ops l k ((d,v) :: σ) w) (hd:Nat.blt d n = true:=by rfl):RG P Z b n ds cs ops (⟨some d,.move x,ty,ps,af,none⟩ :: l) k σ w:=RG.mv hx hd h
theorem RG.so (hx:ev σ x = some v) (h:RG P Z b n ds cs ops l k ((d,v) :: σ) w) (hd:Nat.blt d n = true:=by rfl):RG P Z b n ds cs ops (⟨some d,.assign x,ty,ps,af,none⟩ :: l) k σ w:=RG.sg hx hd h
theorem RG.va (hq:FV P ⟨some d,op,ty,ps,af,none⟩ σ w v) (h:RG P Z b n ds cs ops l k ((d,v) :: σ) w) (hd:Nat.blt d n = true:=by rfl):RG P Z b n ds cs ops (⟨some d,op,ty,ps,af,none⟩ :: l) k σ w:=RG.vv hq hd h
theorem RG.ga (hq:FV P ⟨some d,op,ty,ps,af,some (j,q)⟩ σ w v) (h:RG P Z b n ds cs ops l k ((d,v) :: σ) w) (hg:Want ops σ (some (j,q)) true:=by exact .yes rfl rfl) (hd:Nat.blt d n = true:=by rfl):RG P Z b n ds cs ops (⟨some d,op,ty,ps,af,some (j,q)⟩ :: l) k σ w:=RG.val' hg hq hd h
theorem RG.no  (h:RG P Z b n ds cs ops l k ((d,undef) :: σ) w) (hg:Want ops σ (some (j,q)) false:=by exact .no rfl rfl) (hd:Nat.blt d n = true:=by rfl):RG P Z b n ds cs ops (⟨some d,op,ty,ps,af,some (j,q)⟩ :: l) k σ w:=RG.off hg hd h
theorem RG.un  (h:RG P Z b n ds cs ops l k ((d,undef) :: σ) w) (hg:Want ops σ (some (j,q)) false:=by exact .undef rfl rfl) (hd:Nat.blt d n = true:=by rfl):RG P Z b n ds cs ops (⟨some d,op,ty,ps,af,some (j,q)⟩ :: l) k σ w:=RG.off hg hd h
theorem FV.fa {fi:Nat} (off:Nat) (hx:ev σ x = some (.pointer (some p))) (hf:gE P t fi off = true:=by kernel_rfl):FV P ⟨dd,.fieldAddr t x fi,ty,ps,af,g⟩ σ w (.pointer (some (p.add off))):=FV.fieldAddr hf hx
theorem FV.l1 (hx:ev σ x = some (.pointer (some p))) (hc:w.cell? p = some v) (ht:jZ P t = true:=by kernel_rfl):FV P ⟨dd,.load t x,ty,ps,af,g⟩ σ w v:=FV.load1 ht hx hc
theorem FV.lN {cl:La Vc} (hx:ev σ x = some (.pointer (some p))) (hc:∀ j v,cl[j]? = some v -> w.cell? (p.add j) = some v) (ht:lA P t cl.length = true:=by kernel_rfl):FV P ⟨dd,.load t x,ty,ps,af,g⟩ σ w (.agg cl.toArray):=FV.loadN ht hx hc
theorem FV.ia {len c:Nat} {kd:IntKind} {j:Int} (m i:Nat) (hx:ev σ x = some v) (he:v = .slice (some p) len c) (hy:ev σ y = some (.int kd j)) (hj:j = (i:Int)) (hk:i < len) (ht:dV P t m = true:=by kernel_rfl):FV P ⟨dd,.indexAddr t x y,ty,ps,af,g⟩ σ w (.pointer (some (p.add (i * m)))):=FV.idxAddr ht hx he hy hj hk
theorem RG.fa {fi:Nat} (off:Nat) (hx:ev σ x = some (.pointer (some p))) (h:RG P Z b n ds cs ops l k ((d,.pointer (some (p.add off))) :: σ) w) (hf:gE P t fi off = true:=by kernel_rfl) (hd:Nat.blt d n = true:=by rfl):RG P Z b n ds cs ops (⟨some d,.fieldAddr t x fi,ty,ps,af,none⟩ :: l) k σ w:=RG.vv (FV.fieldAddr hf hx) hd h
theorem RG.fg {fi:Nat} (off:Nat) (hx:ev σ x = some (.pointer (some p))) (h:RG P Z b n ds cs ops l k ((d,.pointer (some (p.add off))) :: σ) w) (hf:gE P t fi off = true:=by kernel_rfl) (hg:Want ops σ (some (j,q)) true:=by exact .yes rfl rfl) (hd:Nat.blt d n = true:=by rfl):RG P Z b n ds cs ops (⟨some d,.fieldAddr t x fi,ty,ps,af,some (j,q)⟩ :: l) k σ w:=RG.val' hg (FV.fieldAddr hf hx) hd h
theorem RG.l1 (hx:ev σ x = some (.pointer (some p))) (hc:w.cell? p = some v) (h:RG P Z b n ds cs ops l k ((d,v) :: σ) w) (ht:jZ P t = true:=by kernel_rfl) (hd:Nat.blt d n = true:=by rfl):RG P Z b n ds cs ops (⟨some d,.load t x,ty,ps,af,none⟩ :: l) k σ w:=RG.vv (FV.load1 ht hx hc) hd h
theorem RG.pt (hc:ev σ c = some (.bool true)) (hx:ev σ x = some v) (h:RG P Z b n ds cs ops l k ((d,v) :: σ) w) (hd:Nat.blt d n = true:=by rfl):RG P Z b n ds cs ops (⟨some d,.pick c x y,ty,ps,af,none⟩ :: l) k σ w:=RG.vv (FV.pick_t hc hx) hd h
theorem RG.pf (hc:ev σ c = some (.bool false)) (hx:ev σ y = some v) (h:RG P Z b n ds cs ops l k ((d,v) :: σ) w) (hd:Nat.blt d n = true:=by rfl):RG P Z b n ds cs ops (⟨some d,.pick c x y,ty,ps,af,none⟩ :: l) k σ w:=RG.vv (FV.pick_f hc hx) hd h
theorem e1 {x0:Operand} {v0:Vc} (h0:ev σ x0 = some v0):evs σ [x0] [v0]:=ay h0 (ak)
theorem o1 {v0:Vc} (h0:v0.oneCell' = true):∀ u ∈ [v0],u.oneCell' = true:=aH h0 (di)
theorem e2 {x0 x1:Operand} {v0 v1:Vc} (h0:ev σ x0 = some v0) (h1:ev σ x1 = some v1):evs σ [x0,x1] [v0,v1]:=ay h0 (ay h1 (ak))
theorem o2 {v0 v1:Vc} (h0:v0.oneCell' = true) (h1:v1.oneCell' = true):∀ u ∈ [v0,v1],u.oneCell' = true:=aH h0 (aH h1 (di))
theorem e3 {x0 x1 x2:Operand} {v0 v1 v2:Vc} (h0:ev σ x0 = some v0) (h1:ev σ x1 = some v1) (h2:ev σ x2 = some v2):evs σ [x0,x1,x2] [v0,v1,v2]:=ay h0 (ay h1 (ay h2 (ak)))
theorem e4 {x0 x1 x2 x3:Operand} {v0 v1 v2 v3:Vc} (h0:ev σ x0 = some v0) (h1:ev σ x1 = some v1) (h2:ev σ x2 = some v2) (h3:ev σ x3 = some v3):evs σ [x0,x1,x2,x3] [v0,v1,v2,v3]:=ay h0 (ay h1 (ay h2 (ay h3 (ak))))
theorem o4 {v0 v1 v2 v3:Vc} (h0:v0.oneCell' = true) (h1:v1.oneCell' = true) (h2:v2.oneCell' = true) (h3:v3.oneCell' = true):∀ u ∈ [v0,v1,v2,v3],u.oneCell' = true:=aH h0 (aH h1 (aH h2 (aH h3 (di))))
theorem e5 {x0 x1 x2 x3 x4:Operand} {v0 v1 v2 v3 v4:Vc} (h0:ev σ x0 = some v0) (h1:ev σ x1 = some v1) (h2:ev σ x2 = some v2) (h3:ev σ x3 = some v3) (h4:ev σ x4 = some v4):evs σ [x0,x1,x2,x3,x4] [v0,v1,v2,v3,v4]:=ay h0 (ay h1 (ay h2 (ay h3 (ay h4 (ak)))))
theorem o5 {v0 v1 v2 v3 v4:Vc} (h0:v0.oneCell' = true) (h1:v1.oneCell' = true) (h2:v2.oneCell' = true) (h3:v3.oneCell' = true) (h4:v4.oneCell' = true):∀ u ∈ [v0,v1,v2,v3,v4],u.oneCell' = true:=aH h0 (aH h1 (aH h2 (aH h3 (aH h4 (di)))))
theorem e6 {x0 x1 x2 x3 x4 x5:Operand} {v0 v1 v2 v3 v4 v5:Vc} (h0:ev σ x0 = some v0) (h1:ev σ x1 = some v1) (h2:ev σ x2 = some v2) (h3:ev σ x3 = some v3) (h4:ev σ x4 = some v4) (h5:ev σ x5 = some v5):evs σ [x0,x1,x2,x3,x4,x5] [v0,v1,v2,v3,v4,v5]:=ay h0 (ay h1 (ay h2 (ay h3 (ay h4 (ay h5 (ak))))))
theorem o6 {v0 v1 v2 v3 v4 v5:Vc} (h0:v0.oneCell' = true) (h1:v1.oneCell' = true) (h2:v2.oneCell' = true) (h3:v3.oneCell' = true) (h4:v4.oneCell' = true) (h5:v5.oneCell' = true):∀ u ∈ [v0,v1,v2,v3,v4,v5],u.oneCell' = true:=aH h0 (aH h1 (aH h2 (aH h3 (aH h4 (aH h5 (di))))))
theorem e7 {x0 x1 x2 x3 x4 x5 x6:Operand} {v0 v1 v2 v3 v4 v5 v6:Vc} (h0:ev σ x0 = some v0) (h1:ev σ x1 = some v1) (h2:ev σ x2 = some v2) (h3:ev σ x3 = some v3) (h4:ev σ x4 = some v4) (h5:ev σ x5 = some v5) (h6:ev σ x6 = some v6):evs σ [x0,x1,x2,x3,x4,x5,x6] [v0,v1,v2,v3,v4,v5,v6]:=ay h0 (ay h1 (ay h2 (ay h3 (ay h4 (ay h5 (ay h6 (ak)))))))
theorem e8 {x0 x1 x2 x3 x4 x5 x6 x7:Operand} {v0 v1 v2 v3 v4 v5 v6 v7:Vc} (h0:ev σ x0 = some v0) (h1:ev σ x1 = some v1) (h2:ev σ x2 = some v2) (h3:ev σ x3 = some v3) (h4:ev σ x4 = some v4) (h5:ev σ x5 = some v5) (h6:ev σ x6 = some v6) (h7:ev σ x7 = some v7):evs σ [x0,x1,x2,x3,x4,x5,x6,x7] [v0,v1,v2,v3,v4,v5,v6,v7]:=ay h0 (ay h1 (ay h2 (ay h3 (ay h4 (ay h5 (ay h6 (ay h7 (ak))))))))
theorem RT.t1 {fi:FuncId} {fn:Func} {r:Tmp} {X:Vc -> World -> Prop} (hk:RetOK P Z fi cs X) (hf:P.funcs[fi]? = some fn) (hr:fn.results = #[.tmp r]) (hx:look σ r = some v) (h:X v w):RT P Z (fb fi .normal none) n [] cs σ w:=RT.leave hk hf hr (.cons (.tmp hx) .nil) rfl h
theorem St.gv {u:Vc} (s:St w0 w O):Agree [] w0 w/\∀ w9,Agree [] w w9 -> u = u:=⟨s.ag,fun _ _=>rfl⟩
end
section
variable {P:Program} {Z:Machine -> Prop} {b:Frame} {n:Nat} {ds:La Deferred} {cs:La Frame} {k:La Item} {σ:La (Nat × Vc)} {w w0 w1:World} {ops:Array Oper} {l:La Oper} {ty:TypeId} {ps:String} {af:Array Edge} {v:Vc} {x y:Operand} {t:TypeId} {O O' : La Ob} {g:Oa (Nat × Bool)} {dd:Oa Tmp} {p:Addr}
theorem RG.sa {bk:Nat} {old:La Vc} {e:TypeId} (news:La Vc) (s:St w0 w O) (u:Upd O (.cells bk old e) (.cells bk news e) O') (h1:∀ u ∈ news,u.oneCell' = true) (h:∀ w1,St w0 w1 O' -> Tr w O w1 O' -> RG P Z b n ds cs ops l k σ w1) (hx:ev σ x = some (.pointer (some p)):=by rfl) (hp:p = ⟨bk,0,none⟩:=by rfl) (hy:ev σ y = some v:=by rfl) (hv:v.cells = news.toArray:=by rfl) (hs:cp P t news.length = true:=by rfl) (hl:old.length = news.length:=by rfl):RG P Z b n ds cs ops (⟨none,.store t x y,ty,ps,af,none⟩ :: l) k σ w:=RG.now .plain (Acts.storeAll s u hx hp hy hv hs hl h1) h
theorem Does.al (zs:La Vc) (s:St w0 w O) (hz:cK P t zs:=by exact zB (by kernel_rfl)):Does P ⟨dd,.alloc t,ty,ps,af,g⟩ σ w (New w0 w O (fun b' =>.cells b' zs t) (fun b' =>.pointer (some ⟨b', 0,none⟩))):=Does.alloc s hz
theorem ez {o:Ob} (s:St w0 w O) (s1:St w w1 [o]):St w0 w1 (o :: O):=St.merge s s1
theorem iY {o:Ob} (s:St w0 w O) (s1:St w w1 [o]):Tr w O w1 (o :: O):=Tr.merge s s1
theorem gD {o o2:Ob} (s:St w0 w O) (s1:St w w1 [o,o2]):St w0 w1 (o :: o2 :: O):=St.merge s s1
theorem kE {o o2:Ob} (s:St w0 w O) (s1:St w w1 [o,o2]):Tr w O w1 (o :: o2 :: O):=Tr.merge s s1
end
end
section
open Go Go.RowKit
def left {ε:Type} (D:La ε) (sn:Array Nat):La ε:=(D.zipIdx.filter fun e=>!sn.contains e.2).map (·.1)
section
variable {P:Program} {Z:Machine -> Prop} {b:Frame} {n:Nat} {ds:La Deferred} {cs:La Frame} {k:La Item} {σ τ:La (Nat × Vc)} {w w0:World} {ops:Array Oper} {l:La Oper} {d:Nat} {ty:TypeId} {ps:String} {af:Array Edge} {x:Operand} {t:TypeId} {O O' : La Ob} {dd:Oa Tmp} {g:Oa (Nat × Bool)}
variable {κ ν:Type} [Enc κ] [Enc ν]
end
end
section
open Go Go.RowKit
instance:Enc (Option Nat):=⟨fun a=>.pointer (a.map fun b=>⟨b,0,none⟩)⟩
section
variable {κ β:Type}
variable {w w0:World} {T pre:La Ob} {t:TypeId} {f:β -> La Vc} {Z Z1 Z2:La ((κ × β) × Nat)} {k:κ} {y y' : β} {b:Nat}
end
section
variable {P:Program} {Z:Machine -> Prop} {b:Frame} {n:Nat} {ds:La Deferred} {cs:La Frame} {k:La Item} {σ τ:La (Nat × Vc)} {w w0:World} {ops:Array Oper} {l:La Oper} {d:Nat} {ty:TypeId} {ps:String} {af:Array Edge} {x y:Operand} {t t' e:TypeId} {O O' : La Ob} {dd:Oa Tmp} {g:Oa (Nat × Bool)}
end
end
section
open Go Go.RowKit
section
variable {w w0:World} {O O' T pre pre' : La Ob} {L:La Nat} {base e e2:Nat} {v0 v y:Vc} {Z Z1 Z2:La (Vc × La Int)} {xs xs' : La Int} {cs cs' : La Vc}
end
end
section
open Go Go.RowKit
theorem At.t1 {x0 o:Ob} {O:La Ob}:At (x0 :: o :: O) o:=.tl .hd
theorem Upd.t1 {x0 o o' : Ob} {O:La Ob}:Upd (x0 :: o :: O) o o' (x0 :: o' :: O):=.tl .hd
theorem Out.t1 {x0 o:Ob} {O:La Ob}:Out (x0 :: o :: O) o (x0 :: O):=.tl .hd
theorem At.t2 {x0 x1 o:Ob} {O:La Ob}:At (x0 :: x1 :: o :: O) o:=.tl (.tl .hd)
theorem Upd.t2 {x0 x1 o o' : Ob} {O:La Ob}:Upd (x0 :: x1 :: o :: O) o o' (x0 :: x1 :: o' :: O):=.tl (.tl .hd)
theorem Out.t2 {x0 x1 o:Ob} {O:La Ob}:Out (x0 :: x1 :: o :: O) o (x0 :: x1 :: O):=.tl (.tl .hd)
theorem At.t3 {x0 x1 x2 o:Ob} {O:La Ob}:At (x0 :: x1 :: x2 :: o :: O) o:=.tl (.tl (.tl .hd))
theorem Upd.t3 {x0 x1 x2 o o' : Ob} {O:La Ob}:Upd (x0 :: x1 :: x2 :: o :: O) o o' (x0 :: x1 :: x2 :: o' :: O):=.tl (.tl (.tl .hd))
theorem Out.t3 {x0 x1 x2 o:Ob} {O:La Ob}:Out (x0 :: x1 :: x2 :: o :: O) o (x0 :: x1 :: x2 :: O):=.tl (.tl (.tl .hd))
theorem At.t4 {x0 x1 x2 x3 o:Ob} {O:La Ob}:At (x0 :: x1 :: x2 :: x3 :: o :: O) o:=.tl (.tl (.tl (.tl .hd)))
theorem Upd.t4 {x0 x1 x2 x3 o o' : Ob} {O:La Ob}:Upd (x0 :: x1 :: x2 :: x3 :: o :: O) o o' (x0 :: x1 :: x2 :: x3 :: o' :: O):=.tl (.tl (.tl (.tl .hd)))
theorem At.t5 {x0 x1 x2 x3 x4 o:Ob} {O:La Ob}:At (x0 :: x1 :: x2 :: x3 :: x4 :: o :: O) o:=.tl (.tl (.tl (.tl (.tl .hd))))
theorem Upd.t5 {x0 x1 x2 x3 x4 o o' : Ob} {O:La Ob}:Upd (x0 :: x1 :: x2 :: x3 :: x4 :: o :: O) o o' (x0 :: x1 :: x2 :: x3 :: x4 :: o' :: O):=.tl (.tl (.tl (.tl (.tl .hd))))
theorem At.t6 {x0 x1 x2 x3 x4 x5 o:Ob} {O:La Ob}:At (x0 :: x1 :: x2 :: x3 :: x4 :: x5 :: o :: O) o:=.tl (.tl (.tl (.tl (.tl (.tl .hd)))))
theorem Upd.t6 {x0 x1 x2 x3 x4 x5 o o' : Ob} {O:La Ob}:Upd (x0 :: x1 :: x2 :: x3 :: x4 :: x5 :: o :: O) o o' (x0 :: x1 :: x2 :: x3 :: x4 :: x5 :: o' :: O):=.tl (.tl (.tl (.tl (.tl (.tl .hd)))))
theorem Out.t6 {x0 x1 x2 x3 x4 x5 o:Ob} {O:La Ob}:Out (x0 :: x1 :: x2 :: x3 :: x4 :: x5 :: o :: O) o (x0 :: x1 :: x2 :: x3 :: x4 :: x5 :: O):=.tl (.tl (.tl (.tl (.tl (.tl .hd)))))
theorem At.t7 {x0 x1 x2 x3 x4 x5 x6 o:Ob} {O:La Ob}:At (x0 :: x1 :: x2 :: x3 :: x4 :: x5 :: x6 :: o :: O) o:=.tl (.tl (.tl (.tl (.tl (.tl (.tl .hd))))))
theorem Out.t7 {x0 x1 x2 x3 x4 x5 x6 o:Ob} {O:La Ob}:Out (x0 :: x1 :: x2 :: x3 :: x4 :: x5 :: x6 :: o :: O) o (x0 :: x1 :: x2 :: x3 :: x4 :: x5 :: x6 :: O):=.tl (.tl (.tl (.tl (.tl (.tl (.tl .hd))))))
theorem At.t8 {x0 x1 x2 x3 x4 x5 x6 x7 o:Ob} {O:La Ob}:At (x0 :: x1 :: x2 :: x3 :: x4 :: x5 :: x6 :: x7 :: o :: O) o:=.tl (.tl (.tl (.tl (.tl (.tl (.tl (.tl .hd)))))))
theorem Arr.d0:∀ {O:La Ob},Arr O O
 | []=>.done
 | _ :: _=>.one .hd Arr.d0
theorem Arr.a0 {o:Ob} {O O' : La Ob} (h:Arr O O'):Arr (o :: O) (o :: O'):=.one .hd h
theorem Arr.a1 {x0 o:Ob} {O O' : La Ob} (h:Arr (x0 :: O) O'):Arr (x0 :: o :: O) (o :: O'):=.one .t1 h
theorem Arr.a2 {x0 x1 o:Ob} {O O' : La Ob} (h:Arr (x0 :: x1 :: O) O'):Arr (x0 :: x1 :: o :: O) (o :: O'):=.one .t2 h
theorem Arr.a3 {x0 x1 x2 o:Ob} {O O' : La Ob} (h:Arr (x0 :: x1 :: x2 :: O) O'):Arr (x0 :: x1 :: x2 :: o :: O) (o :: O'):=.one .t3 h
theorem Arr.dr {x:Ob}:∀ {O O' : La Ob},Arr O O' -> Arr (x :: O) O'
 | _,_,.done=>.done
 | _,_,.one h h2=>.one (.tl h) (Arr.dr h2)
theorem Arr.d1 {x0:Ob} {O:La Ob}:Arr (x0 :: O) O:=.dr Arr.d0
theorem Arr.d2 {x0 x1:Ob} {O:La Ob}:Arr (x0 :: x1 :: O) O:=.dr (Arr.d1)
theorem Arr.d3 {x0 x1 x2:Ob} {O:La Ob}:Arr (x0 :: x1 :: x2 :: O) O:=.dr (Arr.d2)
theorem Arr.d4 {x0 x1 x2 x3:Ob} {O:La Ob}:Arr (x0 :: x1 :: x2 :: x3 :: O) O:=.dr (Arr.d3)
theorem Arr.d5 {x0 x1 x2 x3 x4:Ob} {O:La Ob}:Arr (x0 :: x1 :: x2 :: x3 :: x4 :: O) O:=.dr (Arr.d4)
theorem Arr.d6 {x0 x1 x2 x3 x4 x5:Ob} {O:La Ob}:Arr (x0 :: x1 :: x2 :: x3 :: x4 :: x5 :: O) O:=.dr (Arr.d5)
theorem Arr.d7 {x0 x1 x2 x3 x4 x5 x6:Ob} {O:La Ob}:Arr (x0 :: x1 :: x2 :: x3 :: x4 :: x5 :: x6 :: O) O:=.dr (Arr.d6)
section
variable {P:Program} {Z:Machine -> Prop} {b:Frame} {n:Nat} {ds:La Deferred} {cs:La Frame} {k:La Item} {σ τ:La (Nat × Vc)} {w w0:World} {ops:Array Oper} {t f m:Nat} {κ:KP} {O1:La Ob}
theorem MX.lf {α γ Q:Type} {B:(γ -> Oa Q) -> γ -> Oa Q} {N:Nat} {r:Q} {c:Code} (S:α -> La (Nat × Vc)) (E:α -> La Ob) (G:α -> World -> Prop) (p:α -> γ) (x0:α) (hh:au B N (p x0) = some r) (s:St w0 w (E x0)) (hG:G x0 w)
  (round:∀ (J:γ -> Oa Q) x wx,(∀ x' {wx' σ'},St w0 wx' (E x') -> Tr w (E x0) wx' (E x') -> G x' wx' -> J (p x') = some r -> ∀ (_:Sub σ' (S x'):=by repeat (first | refine ⟨rfl,?_⟩ | exact trivial)),MX P Z b n ds cs (.inLoop c :: k) σ' wx') -> St w0 wx (E x) -> Tr w (E x0) wx (E x) -> G x wx -> B J (p x) = some r -> MX P Z b n ds cs (.code c :: .inLoop c :: k) (S x) wx)
  (hs:Sub σ (S x0):=by repeat (first | refine ⟨rfl,?_⟩ | exact trivial)):MX P Z b n ds cs (.code (.loop c) :: k) σ w:=
 MX.loop S (fun x wx=>St w0 wx (E x)/\Tr w (E x0) wx (E x)/\G x wx) p x0 hh hs ⟨s,Tr.refl _ _,hG⟩ fun J x wx h1 h2=>round J x wx (fun x' {wx' σ'} a2 a3 a4 a5 a1=>h1 x' wx' σ' a1 ⟨a2,a3,a4⟩ a5) h2.1 h2.2.1 h2.2.2
theorem MX.lo {α γ Q:Type} {B:(γ -> Oa Q) -> γ -> Oa Q} {N:Nat} {r:Q} {c:Code} (S:α -> La (Nat × Vc)) (E:α -> La Ob) (p:α -> γ) (x0:α) (hh:au B N (p x0) = some r) (s:St w0 w (E x0))
  (round:∀ (J:γ -> Oa Q) x wx,(∀ x' {wx' σ'},St w0 wx' (E x') -> Tr w (E x0) wx' (E x') -> J (p x') = some r -> ∀ (_:Sub σ' (S x'):=by repeat (first | refine ⟨rfl,?_⟩ | exact trivial)),MX P Z b n ds cs (.inLoop c :: k) σ' wx') -> St w0 wx (E x) -> Tr w (E x0) wx (E x) -> B J (p x) = some r -> MX P Z b n ds cs (.code c :: .inLoop c :: k) (S x) wx)
  (hs:Sub σ (S x0):=by repeat (first | refine ⟨rfl,?_⟩ | exact trivial)):MX P Z b n ds cs (.code (.loop c) :: k) σ w:=
 MX.loop S (fun x wx=>St w0 wx (E x)/\Tr w (E x0) wx (E x)) p x0 hh hs ⟨s,Tr.refl _ _⟩ fun J x wx h1 h2=>round J x wx (fun x' {wx' σ'} a2 a3 a5 a1=>h1 x' wx' σ' a1 ⟨a2,a3⟩ a5) h2.1 h2.2
theorem MX.jf {α γ Q:Type} {K:γ -> Oa Q} {B:(γ -> Oa Q) -> Oa Q} {r:Q} {it:Item} (S:α -> La (Nat × Vc)) (E:α -> La Ob) (G:α -> World -> Prop) (p:α -> γ) (_s:St w0 w O1) (hh:jn K B = some r)
  (hJ:∀ x wx,St w0 wx (E x) -> Tr w O1 wx (E x) -> G x wx -> K (p x) = some r -> MX P Z b n ds cs k (S x) wx)
  (h:∀ J:γ -> Oa Q,(∀ x {wx σ'},St w0 wx (E x) -> Tr w O1 wx (E x) -> G x wx -> J (p x) = some r -> ∀ (_:Sub σ' (S x):=by repeat (first | refine ⟨rfl,?_⟩ | exact trivial)),MX P Z b n ds cs k σ' wx) -> B J = some r -> MX P Z b n ds cs (it :: k) σ w):MX P Z b n ds cs (it :: k) σ w:=
 MX.join S (fun x wx=>St w0 wx (E x)/\Tr w O1 wx (E x)/\G x wx) p hh (fun x wx h1 h2=>hJ x wx h1.1 h1.2.1 h1.2.2 h2) fun J h1 h2=>h J (fun x {wx σ'} a2 a3 a4 a5 a1=>h1 x wx σ' a1 ⟨a2,a3,a4⟩ a5) h2
theorem MX.jo {α γ Q:Type} {K:γ -> Oa Q} {B:(γ -> Oa Q) -> Oa Q} {r:Q} {it:Item} (S:α -> La (Nat × Vc)) (E:α -> La Ob) (p:α -> γ) (_s:St w0 w O1) (hh:jn K B = some r)
  (hJ:∀ x wx,St w0 wx (E x) -> Tr w O1 wx (E x) -> K (p x) = some r -> MX P Z b n ds cs k (S x) wx)
  (h:∀ J:γ -> Oa Q,(∀ x {wx σ'},St w0 wx (E x) -> Tr w O1 wx (E x) -> J (p x) = some r -> ∀ (_:Sub σ' (S x):=by repeat (first | refine ⟨rfl,?_⟩ | exact trivial)),MX P Z b n ds cs k σ' wx) -> B J = some r -> MX P Z b n ds cs (it :: k) σ w):MX P Z b n ds cs (it :: k) σ w:=
 MX.join S (fun x wx=>St w0 wx (E x)/\Tr w O1 wx (E x)) p hh (fun x wx h1 h2=>hJ x wx h1.1 h1.2 h2) fun J h1 h2=>h J (fun x {wx σ'} a2 a3 a5 a1=>h1 x wx σ' a1 ⟨a2,a3⟩ a5) h2
theorem MX.xo {α γ Q:Type} {K:γ -> Oa Q} {B:(γ -> Oa Q) -> Oa Q} {r:Q} {it:Item} {k' : La Item} (id:Nat) (S:α -> La (Nat × Vc)) (E:α -> La Ob) (p:α -> γ) (_s:St w0 w O1) (hx:exitTo id k = some k') (hh:jn K B = some r)
  (hJ:∀ x wx,St w0 wx (E x) -> Tr w O1 wx (E x) -> K (p x) = some r -> MX P Z b n ds cs k' (S x) wx)
  (h:∀ J:γ -> Oa Q,(∀ x {wx σ'},St w0 wx (E x) -> Tr w O1 wx (E x) -> J (p x) = some r -> ∀ (_:Sub σ' (S x):=by repeat (first | refine ⟨rfl,?_⟩ | exact trivial)),MX P Z b n ds cs k' σ' wx) -> B J = some r -> MX P Z b n ds cs (it :: k) σ w):MX P Z b n ds cs (it :: k) σ w:=
 MX.joinx S (fun x wx=>St w0 wx (E x)/\Tr w O1 wx (E x)) p hx hh (fun x wx h1 h2=>hJ x wx h1.1 h1.2 h2) fun J h1 h2=>h J (fun x {wx σ'} a2 a3 a5 a1=>h1 x wx σ' a1 ⟨a2,a3⟩ a5) h2
theorem RD.mf {α:Type} (S:α -> La (Nat × Vc)) (E:α -> La Ob) (G:α -> World -> Prop) (_s:St w0 w O1) (f' m' : Nat)
  (hJ:∀ x wx,St w0 wx (E x) -> Tr w O1 wx (E x) -> G x wx -> RD κ P Z b n ds cs ops t f' m' k (S x) wx)
  (h:(∀ x {wx σ'},St w0 wx (E x) -> Tr w O1 wx (E x) -> G x wx -> ∀ (_:Sub σ' (S x):=by repeat (first | refine ⟨rfl,?_⟩ | exact trivial)),RD κ P Z b n ds cs ops t f' m' k σ' wx) -> RD κ P Z b n ds cs ops t f m k σ w):RD κ P Z b n ds cs ops t f m k σ w:=
 RD.meet S (fun x wx=>St w0 wx (E x)/\Tr w O1 wx (E x)/\G x wx) f' m' (fun x wx h1=>hJ x wx h1.1 h1.2.1 h1.2.2) fun h1=>h fun x {wx σ'} a2 a3 a4 a1=>h1 x wx σ' a1 ⟨a2,a3,a4⟩
theorem RD.mo {α:Type} (S:α -> La (Nat × Vc)) (E:α -> La Ob) (_s:St w0 w O1) (f' m' : Nat)
  (hJ:∀ x wx,St w0 wx (E x) -> Tr w O1 wx (E x) -> RD κ P Z b n ds cs ops t f' m' k (S x) wx)
  (h:(∀ x {wx σ'},St w0 wx (E x) -> Tr w O1 wx (E x) -> ∀ (_:Sub σ' (S x):=by repeat (first | refine ⟨rfl,?_⟩ | exact trivial)),RD κ P Z b n ds cs ops t f' m' k σ' wx) -> RD κ P Z b n ds cs ops t f m k σ w):RD κ P Z b n ds cs ops t f m k σ w:=
 RD.meet S (fun x wx=>St w0 wx (E x)/\Tr w O1 wx (E x)) f' m' (fun x wx h1=>hJ x wx h1.1 h1.2) fun h1=>h fun x {wx σ'} a2 a3 a1=>h1 x wx σ' a1 ⟨a2,a3⟩
theorem RG.bx {d:Tmp} {t ty:TypeId} {ps:String} {af:Array Edge} {x:Operand} {v:Vc} {vs:La Vc} {l:La Oper} {O:La Ob} (s:St w0 w O) (hx:ev σ x = some v) (hc:v.cells = vs.toArray) (h:∀ w1 b', St w0 w1 (.cells b' vs t :: O) -> Tr w O w1 (.cells b' vs t :: O) -> RG P Z b n ds cs ops l k ((d,.pointer (some ⟨b', 0,none⟩)) :: σ) w1) (hd:Nat.blt d n = true:=by rfl):RG P Z b n ds cs ops (⟨some d,.box t x,ty,ps,af,none⟩ :: l) k σ w:=RG.new .plain hd (Does.box s hx hc) h
theorem RG.nl {d:Tmp} {t ty:TypeId} {ps:String} {af:Array Edge} {l:La Oper} {O:La Ob} (zs:La Vc) (s:St w0 w O) (h:∀ w1 b', St w0 w1 (.cells b' zs t :: O) -> Tr w O w1 (.cells b' zs t :: O) -> RG P Z b n ds cs ops l k ((d,.pointer (some ⟨b', 0,none⟩)) :: σ) w1) (hz:cK P t zs:=by exact zB (by kernel_rfl)) (hd:Nat.blt d n = true:=by rfl):RG P Z b n ds cs ops (⟨some d,.alloc t,ty,ps,af,none⟩ :: l) k σ w:=RG.new .plain hd (Does.alloc s hz) h
theorem bk {α β:Type} {C:Prop} {x:Oa α} {g:α -> Oa β} {r:β} (h:x.bind g = some r) (k:∀ y,x = some y -> g y = some r -> C):C:=
 let ⟨y,h1,h2⟩:=iW h; k y h1 h2
theorem xk {ε α β:Type} {C:Prop} {x:Oa (Except ε α)} {f:α -> Oa β} {g:ε -> Oa β} {r:β} (h:(x.bind fun y=>exc y f g) = some r) (k1:∀ e,x = some (.error e) -> g e = some r -> C) (k2:∀ y,x = some (.ok y) -> f y = some r -> C):C:=by
 obtain ⟨y,h1,h2⟩:=iW h
 rcases y with e | y
 ·exact k1 e h1 h2
 ·exact k2 y h1 h2
theorem tn {α β:Type} {C:Prop} {o:Oa (α ⊕ β)} {K:β -> Oa α} {r:α} (h:thn o K = some r) (k:∀ x,o = some x -> thn (some x) K = some r -> C):C:=
 let ⟨y,h1,h2⟩:=thn_in h; k y h1 h2
end
end
open Go Go.RowKit
section
variable {P:Program} {Z:Machine -> Prop} {b:Frame} {n:Nat} {ds:La Deferred} {cs:La Frame} {k:La Item} {σ τ:La (Nat × Vc)} {w w0:World} {O1:La Ob}
end
/-! ### Functions that write to what a pointer of the caller's shows -/
def ee (w0 w:World) (O O' : La Ob) (R:World -> Vc -> Prop) (e:Ending) (w1:World):Prop:=∃ v,e = .returned v/\R w1 v/\St w0 w1 O' /\Tr w O w1 O'
section
variable {P:Program} {Z:Machine -> Prop} {b:Frame} {n:Nat} {ds:La Deferred} {cs:La Frame} {k:La Item} {σ:La (Nat × Vc)} {w w0:World} {O O' : La Ob} {d:Nat} {ty:TypeId} {ps:String} {af:Array Edge} {g:Oa (Nat × Bool)} {ops:Array Oper} {l:La Oper} {R:World -> Vc -> Prop}
theorem MX.startL {f:FuncId} {fn:Func} {c:Code} {vs:La Vc} (hf:P.funcs[f]? = some fn) (hb:fn.body = some c) (hn:fn.ntmps = n) (hl:Nat.ble vs.length n = true)
  (h:∀ Z cs,RetOK P Z f cs (fun v w1=>St w0 w1 O' /\Tr w O w1 O' /\∀ w', Agree [] w1 w' -> R w' v) -> MX P Z (fb f .normal none) n [] cs [.code c] (args 0 vs) w):Calls P f vs.toArray w (ee w0 w O O' R):=
 MX.start' hf hb hn hl h (Agree.refl _ _) fun v _ w2 hx hag=>⟨v,I,hx.2.2 w2 hag,hx.1.agree hag,hx.2.1.trans (Tr.agree hag)⟩
theorem RG.callL {f:FuncId} {c:Operand} {fst cap:La Vc} {xs:La Operand} {vs:La Vc} {ts:Array TypeId} (hg:Want ops σ g true) (hf:bq P f = true) (hcal:ev σ c = some (.func (.func f) fst.toArray cap.toArray)) (hv:evs σ xs vs)
  (hc:∀ w', Agree [] w w' -> Calls P f (fst ++ vs ++ cap).toArray w' (ee w0 w' O O' R)) (hd:Nat.blt d n = true) (h:∀ w1 v,St w0 w1 O' -> Tr w O w1 O' -> R w1 v -> RG P Z b n ds cs ops l k ((d,v) :: σ) w1) :
  RG P Z b n ds cs ops (⟨some d,.call { callee:=.value c,args:=xs.toArray,argTypes:=ts },ty,ps,af,g⟩ :: l) k σ w:=by
 intro i hi a w' ha hw
 obtain ⟨h1,h2⟩:=aR hi
 rw [List.length_cons,List.range'_succ]
 have he:=bM (P:=P) (ty:=ty) (ps:=ps) (af:=af) (g:=g) (dd:=some d) (ts:=ts) hf (ρ:=a.eval) (ha.ev hcal) (vs:=vs.toArray) (xs:=xs.toArray) (by rw [List.map_toArray,bb (fun x u hx=>ha.ev hx) hv]) w'
 refine .step (bR (bf hi) (hg.eq ha) (by rw [cr]; exact he)) ?_
 have hc' :=hc w' hw
 simp only [List.append_toArray]
 obtain ⟨e,w1,fr,⟨u,rfl,hR,s1,t1⟩,hs,_,hl⟩:=hc' (b.atR a (.inRegion ops (i :: List.range' (i + 1) l.length) :: k) :: cs)
 refine .steps hs (.step (step_leave_returned hl) ?_)
 rw [Frame.finish_atR,bf hi]
 exact h w1 u s1 ((Tr.agree hw).trans t1) hR (i + 1) h2 _ _ (ha.put d u hd) (Agree.refl _ _)
theorem RO.callL {κ:KP} {t f m m' i:Nat} {fn:FuncId} {c:Operand} {fst cap:La Vc} {xs:La Operand} {vs:La Vc} {ts:Array TypeId} (hst:bK ops.size m i m' = true) (ht:tail t i = true) (hi:ops[i]? = some ⟨some d,.call { callee:=.value c,args:=xs.toArray,argTypes:=ts },ty,ps,af,g⟩) (hg:Want ops σ g true)
  (hf:bq P fn = true) (hcal:ev σ c = some (.func (.func fn) fst.toArray cap.toArray)) (hv:evs σ xs vs) (hc:∀ w', Agree [] w w' -> Calls P fn (fst ++ vs ++ cap).toArray w' (ee w0 w' O O' R)) (hd:Nat.blt d n = true)
  (h:∀ w1 v,St w0 w1 O' -> Tr w O w1 O' -> R w1 v -> RD κ P Z b n ds cs ops t f m' k ((d,v) :: σ) w1):RO κ P Z b n ds cs ops t f m k σ w i:=by
 intro a w' ha hw
 unfold OpI
 rw [hi]
 simp only
 rw [if_pos (hg.eq ha)]
 have he:=bM (P:=P) (ty:=ty) (ps:=ps) (af:=af) (g:=g) (dd:=some d) (ts:=ts) hf (ρ:=a.eval) (ha.ev hcal) (vs:=vs.toArray) (xs:=xs.toArray) (by rw [List.map_toArray,bb (fun x u hx=>ha.ev hx) hv]) w'
 unfold OpW
 rw [he,bj hst]
 simp only [List.append_toArray]
 exact (hc w' hw).mono fun e w1 ⟨u,e1,hR,s1,t1⟩=>.inl ⟨u,e1,fun hf=>(by rw [ht] at hf; cases hf),(h w1 u s1 ((Tr.agree hw).trans t1) hR).1,(h w1 u s1 ((Tr.agree hw).trans t1) hR).2 _ _ (ha.put d u hd) (Agree.refl _ _)⟩
end
/-! ### Zeros -/
abbrev ae:La Vc:=[.int .u64 0,.int .u64 0,.int .u64 0,.int .u64 0,.int .u64 0,.int .u64 0,.int .u64 0,.int .u64 0,.int .u64 0,.int .u64 0,.int .u64 0,.int .u64 0,.int .u64 0,.int .u64 0,.int .u64 0,.int .u64 0]
abbrev ap:La Vc:=[.int .u64 0,.int .u64 0,.int .u64 0,.int .u64 0,.int .u64 0,.int .u64 0,.int .u64 0,.int .u64 0,.int .u64 0,.int .u64 0,.int .u64 0,.int .u64 0,.int .u64 0,.int .u64 0,.int .u64 0,.int .u64 0,.int .u64 0,.int .u64 0,.int .u64 0,.int .u64 0,.int .u64 0,.int .u64 0,.int .u64 0,.int .u64 0,.int .u64 0,.int .u64 0,.int .u64 0,.int .u64 0,.int .u64 0,.int .u64 0,.int .u64 0,.int .u64 0]
abbrev aq:La Vc:=[.int .u64 0,.int .u64 0,.int .u64 0,.int .u64 0,.int .u64 0,.int .u64 0,.int .u64 0,.int .u64 0,.int .u64 0,.int .u64 0,.int .u64 0,.int .u64 0,.int .u64 0,.int .u64 0,.int .u64 0,.int .u64 0,.int .u64 0,.int .u64 0,.int .u64 0,.int .u64 0,.int .u64 0,.int .u64 0,.int .u64 0,.int .u64 0,.int .u64 0,.int .u64 0,.int .u64 0,.int .u64 0,.int .u64 0,.int .u64 0,.int .u64 0,.int .u64 0,.int .u64 0,.int .u64 0,.int .u64 0,.int .u64 0,.int .u64 0,.int .u64 0,.int .u64 0,.int .u64 0,.int .u64 0,.int .u64 0,.int .u64 0,.int .u64 0,.int .u64 0,.int .u64 0,.int .u64 0,.int .u64 0,.int .u64 0,.int .u64 0,.int .u64 0,.int .u64 0,.int .u64 0,.int .u64 0,.int .u64 0,.int .u64 0,.int .u64 0,.int .u64 0,.int .u64 0,.int .u64 0,.int .u64 0,.int .u64 0,.int .u64 0,.int .u64 0,.int .u64 0,.int .u64 0,.int .u64 0,.int .u64 0,.int .u64 0,.int .u64 0,.int .u64 0,.int .u64 0,.int .u64 0,.int .u64 0,.int .u64 0,.int .u64 0,.int .u64 0,.int .u64 0,.int .u64 0,.int .u64 0,.int .u64 0,.int .u64 0,.int .u64 0,.int .u64 0,.int .u64 0,.int .u64 0,.int .u64 0,.int .u64 0,.int .u64 0,.int .u64 0,.int .u64 0,.int .u64 0,.int .u64 0,.int .u64 0,.int .u64 0,.int .u64 0,.int .u64 0,.int .u64 0,.int .u64 0,.int .u64 0,.int .u64 0,.int .u64 0,.int .u64 0,.int .u64 0,.int .u64 0,.int .u64 0,.int .u64 0,.int .u64 0,.int .u64 0,.int .u64 0,.int .u64 0,.int .u64 0,.int .u64 0,.int .u64 0,.int .u64 0,.int .u64 0,.int .u64 0,.int .u64 0,.int .u64 0,.int .u64 0,.int .u64 0,.int .u64 0,.int .u64 0,.int .u64 0,.int .u64 0,.int .u64 0,.int .u64 0,.int .u64 0]
@[reducible] def vn (n:Nat):Vc:=.int .i64 (n:Int)
@[reducible] def rr (w:World) (e:TypeId) (α:Type) [Rep α] (v:Vc) (n:Nat) (cs:La Vc):Ob:=.row w.heap.size e (Rep.size α) v n cs
abbrev hl (L:La Nat) (w:World):Prop:=∀ b ∈ L,b < w.heap.size
@[reducible] def vW (x:Int):Vc:=.int .u64 x
@[reducible] def vU (x:Ua):Vc:=.int .u64 (x.toNat:Int)
@[reducible] def zL:La Vc:=[vW 0,vW 0,vW 0,vW 0,vW 0,vW 0,vW 0,vW 0,vW 0,vW 0,vW 0,vW 0,vW 0,vW 0,vW 0,vW 0]
@[reducible] def zM:Array Vc:=#[vW 0,vW 0,vW 0,vW 0,vW 0,vW 0,vW 0,vW 0,vW 0,vW 0,vW 0,vW 0,vW 0,vW 0,vW 0,vW 0]
@[reducible] def zP:La Vc:=[vW 0,vW 0,vW 0,vW 0,vW 0,vW 0,vW 0,vW 0]
@[reducible] def zQ:Array Vc:=#[vW 0,vW 0,vW 0,vW 0,vW 0,vW 0,vW 0,vW 0]
section
variable {P:Program} {Z:Machine -> Prop} {b:Frame} {n:Nat} {ds:La Deferred} {cs:La Frame} {k:La Item} {σ:La (Nat × Vc)} {w:World} {T:La (Nat × Nat × Nat)} {ops:Array Oper} {m m' i t W:Nat}
theorem Rv {κ:KP} {f d:Nat} {op:Op} {ty:TypeId} {ps:String} {af:Array Edge} {v:Vc} (i:Nat) (hT:bt ops = T) (hi:ops[i]? = some ⟨some d,op,ty,ps,af,none⟩) (hp:aP ops = true) (hq:∀ w,FV P ⟨some d,op,ty,ps,af,none⟩ σ w v) (h:RD κ P Z b n ds cs ops t f (m ||| 1 <<< i) k ((d,v) :: σ) w) (hB:eM T t m i (m ||| 1 <<< i) = true:=by kernel_rfl) (hfr:κ.free i = true:=by rfl) (hd:Nat.blt d n = true:=by rfl):RD κ P Z b n ds cs ops t (f + 1) m k σ w:=RD.vw i _ hT hi hp hq hd h hB hfr
theorem Rx {κ:KP} {f d:Nat} {op:Op} {ty:TypeId} {ps:String} {af:Array Edge} {v:Vc} (i W:Nat) (hT:bt ops = T) (hi:ops[i]? = some ⟨some d,op,ty,ps,af,none⟩) (hp:aP ops = true) (hq:FV P ⟨some d,op,ty,ps,af,none⟩ σ w v) (h:RD κ P Z b n ds cs ops t f (m ||| 1 <<< i) k ((d,v) :: σ) w) (hB:ie T t m W i (m ||| 1 <<< i) = true:=by kernel_rfl) (hfr:κ.free i = true:=by rfl) (hd:Nat.blt d n = true:=by rfl):RD κ P Z b n ds cs ops t (f + 1) m k σ w:=RD.vx i _ W hT hi hp hq hd h hB hfr
theorem rk {rs:La Nat} (hT:bt ops = T) (h:fO T m rs = true:=by kernel_rfl):dT ops m rs = true:=dC hT h
theorem dk (hT:bt ops = T) (h:nf T m = true:=by kernel_rfl):Region.ready .any ops (lst ops.size m) = []:=nh hT h
theorem sk (hT:bt ops = T) (h:iv T m i m' = true:=by kernel_rfl):bK ops.size m i m' = true:=em hT h
theorem tk (hT:bt ops = T) (h:ie T t m W i m' = true:=by kernel_rfl):gL ops t m W i m' = true:=gy hT h
theorem dt {id:Nat} {l:La Oper} (t:Nat) (T:La (Nat × Nat × Nat)) (h:bt l.toArray = T -> aP l.toArray = true -> RD kp0 P Z b n ds cs l.toArray t l.length 0 k σ w) (hT:bt l.toArray = T:=by kernel_rfl) (hm:P.follows .mixedOrders = true:=by kernel_rfl) (hp:aP l.toArray = true:=by kernel_rfl):MX P Z b n ds cs (.code (.region id l.toArray true) :: k) σ w:=MX.drawT t T hT hm hp h
theorem du {id:Nat} {l:La Oper} (t:Nat) (h:bt l.toArray = bt l.toArray -> aP l.toArray = true -> RD kp0 P Z b n ds cs l.toArray t l.length 0 k σ w) (hm:P.follows .mixedOrders = true:=by kernel_rfl) (hp:aP l.toArray = true:=by kernel_rfl):MX P Z b n ds cs (.code (.region id l.toArray true) :: k) σ w:=MX.drawT t (bt l.toArray) rfl hm hp h
theorem jA {α:Type} [Rep α] {w w0:World} {O:La Ob} {e:TypeId} {σ:La (Nat × Vc)} {ty:TypeId} {ps:String} {af:Array Edge} {t:TypeId} {g:Oa (Nat × Bool)} {bytes:Nat} {z:Vc} {zc:La Vc} {dd:Oa Tmp} {p:Nat × Operand} (x:α) (v:Vc) (h:St w0 w O) (hE:ElT P t e (Rep.size α) bytes z zc) (hv:evs σ [p.2] [v]) (hf:Instr.fill (fun i=>some (i * Rep.size α,Rep.size α)) (Array.map (fun x=>zc.toArray[x % zc.toArray.size]!) (Array.range (1 * Rep.size α))) (List.zip (List.map Prod.fst [p]) [v]) = some [v].toArray:=by kernel_rfl) (hb:(1 * Rep.size α).ble 16777216 = true:=by rfl) (hl:[v].length = 1 * Rep.size α:=by rfl):Does P ⟨dd,.buildSlice t 1 [p].toArray,ty,ps,af,g⟩ σ w (New w0 w O (fun b' =>.row w0.heap.size e (Rep.size α) (.slice (some { block:=b', off:=0 }) 1 1) [x].length [v]) fun b' =>.slice (some { block:=b', off:=0 }) 1 1):=Does.build (xs:=[x]) rfl h hE hb hv hf hl
theorem jB (α:Type) [Rep α] {w w0:World} {O:La Ob} {e:TypeId} {σ:La (Nat × Vc)} {ty:TypeId} {ps:String} {af:Array Edge} {t:TypeId} {g:Oa (Nat × Bool)} {bytes:Nat} {z:Vc} {zc:La Vc} {dd:Oa Tmp} (h:St w0 w O) (hE:ElT P t e (Rep.size α) bytes z zc) (hf:Instr.fill (fun i=>some (i * Rep.size α,Rep.size α)) (Array.map (fun x=>zc.toArray[x % zc.toArray.size]!) (Array.range (0 * Rep.size α))) (List.zip (List.map Prod.fst ([]:La (Nat × Operand))) []) = some [].toArray:=by kernel_rfl) (hb:(0 * Rep.size α).ble 16777216 = true:=by rfl) (hl:([]:La Vc).length = 0 * Rep.size α:=by rfl):Does P ⟨dd,.buildSlice t 0 [].toArray,ty,ps,af,g⟩ σ w (New w0 w O (fun b' =>.row w0.heap.size e (Rep.size α) (.slice (some { block:=b', off:=0 }) 0 0) ([]:La α).length []) fun b' =>.slice (some { block:=b', off:=0 }) 0 0):=Does.build (xs:=[]) rfl h hE hb ak hf hl
theorem jC {α:Type} [Rep α] {w0 w:World} {O:La Ob} (x:α) (v:Vc) (h:St w0 w O) (L:La Nat) (hr:Rep.R w (bl O ++ L) [v] x):Cells w (bl O ++ L) [v] [x]:=Cells.at_ (cs:=[v]) h L (Cells.cons hr (Cells.nil _ _))
theorem jD (α:Type) [Rep α] {w0 w:World} {O:La Ob} (h:St w0 w O) (L:La Nat):Cells w (bl O ++ L) [] ([]:La α):=Cells.nil _ _
theorem jE {l:La Oper} {f:FuncId} {c:Operand} {xs:La Operand} {vs:La Vc} {d:Nat} {ty:TypeId} {ps:String} {af:Array Edge} {ts:Array TypeId} {R:World -> Vc -> Prop} (hB:bq P f = true) (hc:ev σ c = some (.func (.func f) #[] #[])) (hx:evs σ xs vs) (h:∀ w', Agree [] w w' -> Calls P f ([] ++ vs ++ []).toArray w' (aj w' R)) (hd:d.blt n = true) (K:∀ (w1:World) (v:Vc),Agree [] w w1 -> R w1 v -> RG P Z b n ds cs ops l k ((d,v) :: σ) w1):RG P Z b n ds cs ops (⟨some d,.call ⟨.value c,xs.toArray,ts⟩,ty,ps,af,none⟩ :: l) k σ w:=RG.call' (fst:=[]) (cap:=[]) .plain hB hc hx h hd K
end
theorem geE.{u} {α:Type u} {l:La α} {i:Nat} (h:i < l.length):l[i]? = some l[i]:=List.getElem?_eq_getElem h
theorem leC.{u} {α:Type u} {a:α} {l:La α}:(a :: l).length = l.length + 1:=rfl
theorem leN.{u} {α:Type u}:([]:La α).length = 0:=rfl
abbrev U8:=Ua × Ua × Ua × Ua × Ua × Ua × Ua × Ua
abbrev U16:=Ua × Ua × Ua × Ua × Ua × Ua × Ua × Ua × Ua × Ua × Ua × Ua × Ua × Ua × Ua × Ua
theorem Tt {w1 w2 w3:World} {O1 O2 O3:La Ob} (h:Tr w1 O1 w2 O2) (k:Tr w2 O2 w3 O3):Tr w1 O1 w3 O3:=h.trans k
theorem bi {α β:Type} {x:Oa α} {f:α -> Oa β} {r:β} (h:x.bind f = some r):∃ y,x = some y/\f y = some r:=iW h
abbrev Aa:=@RG.nil
abbrev Ab:=@RG.va
abbrev Ac:=@MX.sr
abbrev Ae:=@RG.mo
abbrev Af:=@RD.vw
abbrev Ag:=@RG.so
abbrev Ah:=@RG.new
abbrev Ai:=@FV.extract
abbrev Aj:=@MX.seq
abbrev Ak:=@FV.move
abbrev Al:=@Does.al
abbrev Am:=@St.arrB
abbrev Ao:=@MX.ret
abbrev Ap:=@Rep.mv
abbrev Aq:=@FV.loadN
abbrev Ar:=@Rep.keep0
abbrev Au:=@RT.leave
abbrev Av:=@MX.region
abbrev Aw:=@RG.no
abbrev Ax:=@Acts.storeAll
abbrev Ay:=@Does.box
abbrev Az:=@MX.skip
abbrev AA:=@RD.vx
abbrev AB:=@Cells.cons
abbrev AC:=@FV.lN
abbrev AD:=@St.start
abbrev AE:=@PN.leave
abbrev AF:=@MX.block
abbrev AG:=@Cells.mv
abbrev AH:=@RG.ga
abbrev AI:=@MX.inBlock
abbrev AJ:=@Cells.at_
abbrev AK:=@MX.start
abbrev AL:=@MX.drawT
abbrev AM:=@RD.each
abbrev AN:=@FV.l1
abbrev AO:=@RD.done
abbrev AP:=@FV.buildV
abbrev AQ:=@RO.callL
abbrev AR:=@Cells.nil
abbrev AS:=@FV.fa
abbrev AT:=@RD.one
abbrev AU:=@Does.build
abbrev AV:=@RO.val
abbrev AW:=@RG.sa
abbrev AX:=@Rep.o1
abbrev AY:=@RG.l1
abbrev AZ:=@Calls.okp
abbrev Ba:=@RG.fa
abbrev Bb:=@Rep.mv0
abbrev Bc:=@FV.indexArr
abbrev Be:=@MX.ifd
abbrev Bf:=@RO.new
abbrev Bg:=@MX.cond_t
abbrev Bh:=@Rep.lenle
abbrev Bi:=@RT.t1
abbrev Bj:=@MX.exit
abbrev Bk:=@FV.len
abbrev Bl:=@St.freeze
abbrev Bm:=@RG.cq
abbrev Bn:=@FV.assign
abbrev Bo:=@RG.call'
abbrev Bp:=@RD.cl
abbrev Bq:=@RG.pt
abbrev Br:=@Tr.refl
abbrev Bs:=@Acts.store
abbrev Bu:=@FV.addN
abbrev Bv:=@RD.nw
abbrev Bw:=@Rep.nth
abbrev Bx:=@St.arr2Of
abbrev By:=@RG.pf
abbrev Bz:=@FV.not
abbrev BA:=@FV.pick_f
abbrev BB:=@DoesL.app
abbrev BC:=@RO.callE
abbrev BD:=@FV.lssN
abbrev BE:=@FV.ia
abbrev BF:=@RG.enterP
abbrev BG:=@RG.ifd
abbrev BH:=@RD.mo
abbrev BI:=@St.delS
abbrev BJ:=@St.delT
abbrev BK:=@Rep.at_
abbrev BL:=@RG.callE
abbrev BM:=@FV.nilCheck
abbrev BN:=@Tr.arr2
abbrev BO:=@FV.makeInterface
abbrev BP:=@MX.cond_f
abbrev BQ:=@RD.cq
abbrev BR:=@FV.addc
abbrev BS:=@RD.offs
abbrev BT:=@PN.take
abbrev BU:=@RG.now
abbrev BV:=@MX.startP
abbrev BW:=@RO.doesL
abbrev BX:=@FV.makeFunc
abbrev BY:=@FV.pick_t
abbrev BZ:=@FV.eqlN
abbrev Ca:=@RD.nu
abbrev Cb:=@St.nthOwn
abbrev Cc:=@FV.len_string
end Go.Proofs.YtmhnkiifknjgaaaGreatDoor
