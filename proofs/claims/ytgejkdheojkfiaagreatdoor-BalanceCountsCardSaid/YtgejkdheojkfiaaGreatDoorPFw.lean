/- More operations that yield a value and leave the world as it is. No program in sight. -/
import Derived.Test.YtgejkdheojkfiaaGreatDoorPFv
namespace Go.Proofs.YtgejkdheojkfiaaGreatDoor
open Go Go.RowKit
def evs (σ:List (Nat × Value)):List Operand -> List Value -> Prop
  | [],vs=>vs = []
  | _ :: _,[]=>False
  | x :: xs,v :: vs=>ev σ x = some v/\evs σ xs vs
theorem evs_nil {σ:List (Nat × Value)}:evs σ [] []:=rfl
theorem evs_cons {σ:List (Nat × Value)} {x:Operand} {v:Value} {xs:List Operand} {vs:List Value} (h:ev σ x = some v) (h2:evs σ xs vs):evs σ (x :: xs) (v :: vs):=⟨h,h2⟩
theorem evs_map {σ:List (Nat × Value)} {ρ:Operand -> Value} (hρ:∀ x u,ev σ x = some u -> ρ x = u):∀ {xs:List Operand} {vs:List Value},evs σ xs vs -> xs.map ρ = vs
  | [],vs,h=>by simpa [evs] using h.symm
  | x :: xs,[],h=>h.elim
  | x :: xs,v :: vs,⟨h1,h2⟩=>by rw [List.map_cons,hρ x v h1,evs_map hρ h2]
/-! ### Words of 64 bits -/
def shlU (x:UInt64) (k:Nat):UInt64:=if k < 64 then UInt64.ofNat (x.toNat * 2 ^ k) else 0
def shrU (x:UInt64) (k:Nat):UInt64:=if k < 64 then UInt64.ofNat (x.toNat / 2 ^ k) else 0
def u64of (x:Int):UInt64:=UInt64.ofNat (x % 18446744073709551616).toNat
def i64of (x:UInt64):Int:=if x.toNat < 9223372036854775808 then (x.toNat:Int) else (x.toNat:Int) - 18446744073709551616
theorem u64_lt (a:UInt64):a.toNat < 18446744073709551616:=a.toNat_lt
theorem wrap_u64 (x:Int):IntKind.u64.wrap x = ((u64of x).toNat:Int):=by
  unfold u64of
  have h1:0 <= x % 18446744073709551616:=Int.emod_nonneg _ (by decide)
  have h2:x % 18446744073709551616 < 18446744073709551616:=Int.emod_lt_of_pos _ (by decide)
  rw [UInt64.toNat_ofNat_of_lt' (by simp [UInt64.size]; omega)]
  simp only [IntKind.wrap,IntKind.bits,IntKind.signed]
  simp
  omega
theorem wrap_i64_u64 (x:UInt64):IntKind.i64.wrap (x.toNat:Int) = i64of x:=by
  have:=u64_lt x
  unfold i64of
  split
  · rw [IntWalk.i64_in _ (by omega)]
  · simp only [IntKind.wrap,IntKind.bits,IntKind.signed]
    simp
    omega
theorem u64of_nat (n:Nat):u64of (n:Int) = UInt64.ofNat n:=by
  apply UInt64.toNat_inj.1
  have:=wrap_u64 (n:Int)
  rw [<- Int.ofNat_inj,<- this]
  simp only [IntKind.wrap,IntKind.bits,IntKind.signed]
  simp
theorem u64of_toNat (x:UInt64):u64of (x.toNat:Int) = x:=by rw [u64of_nat]; simp
theorem wrap_add64 (a b:UInt64):IntKind.u64.wrap ((a.toNat:Int) + (b.toNat:Int)) = ((a + b).toNat:Int):=by
  rw [wrap_u64,<- Int.natCast_add,u64of_nat,UInt64.ofNat_add]; simp
theorem wrap_mul64 (a b:UInt64):IntKind.u64.wrap ((a.toNat:Int) * (b.toNat:Int)) = ((a * b).toNat:Int):=by
  rw [wrap_u64,<- Int.natCast_mul,u64of_nat,UInt64.ofNat_mul]; simp
theorem wrap_sub64 (a b:UInt64):IntKind.u64.wrap ((a.toNat:Int) - (b.toNat:Int)) = ((a - b).toNat:Int):=by
  have ha:=u64_lt a; have hb:=u64_lt b
  rw [UInt64.toNat_sub]
  simp only [IntKind.wrap,IntKind.bits,IntKind.signed]
  simp
  omega
theorem or64 (a b:UInt64):bits .or .u64 (a.toNat:Int) (b.toNat:Int) = ((a ||| b).toNat:Int):=by rw [u64_or_nat _ _ (u64_lt a) (u64_lt b),UInt64.toNat_or]
theorem and64 (a b:UInt64):bits .and .u64 (a.toNat:Int) (b.toNat:Int) = ((a &&& b).toNat:Int):=by rw [u64_and_nat _ _ (u64_lt a) (u64_lt b),UInt64.toNat_and]
section
variable {P:Program} {σ:List (Nat × Value)} {w:World} {x y:Operand} {d:Option Tmp} {t t' ty:TypeId} {ps:String} {af:Array Edge} {g:Option (Nat × Bool)} {a b:UInt64}
theorem FV.rem0 {k:IntKind} {i j:Int} (hx:ev σ x = some (.int k i)) (hy:ev σ y = some (.int k j)) (h0:j ≠ 0):FV P ⟨d,.binOp .rem t x y t', ty,ps,af,g⟩ σ w (.int k (i.tmod j)):=fun ρ ha w' _=>by simp [execOp,ha _ _ hx,ha _ _ hy,go_sem,h0]
theorem FV.quo0 {k:IntKind} {i j r:Int} (hx:ev σ x = some (.int k i)) (hy:ev σ y = some (.int k j)) (h0:j ≠ 0) (hr:k.wrap (i.tdiv j) = r):FV P ⟨d,.binOp .quo t x y t', ty,ps,af,g⟩ σ w (.int k r):=fun ρ ha w' _=>by subst hr; simp [execOp,ha _ _ hx,ha _ _ hy,go_sem,h0]
section
variable (hx:ev σ x = some (.int .u64 (a.toNat:Int))) (hy:ev σ y = some (.int .u64 (b.toNat:Int)))
include hx hy
theorem FV.lssU:FV P ⟨d,.binOp .lss t x y t', ty,ps,af,g⟩ σ w (.bool (decide (a < b))):=by rw [<- show decide ((a.toNat:Int) < b.toNat) = decide (a < b) from decide_eq_decide.2 (by rw [UInt64.lt_iff_toNat_lt]; omega)]; exact FV.lss hx hy
theorem FV.leqU:FV P ⟨d,.binOp .leq t x y t', ty,ps,af,g⟩ σ w (.bool (decide (a <= b))):=by rw [<- show decide ((a.toNat:Int) <= b.toNat) = decide (a <= b) from decide_eq_decide.2 (by rw [UInt64.le_iff_toNat_le]; omega)]; exact FV.leq hx hy
theorem FV.gtrU:FV P ⟨d,.binOp .gtr t x y t', ty,ps,af,g⟩ σ w (.bool (decide (b < a))):=by rw [<- show decide ((b.toNat:Int) < a.toNat) = decide (b < a) from decide_eq_decide.2 (by rw [UInt64.lt_iff_toNat_lt]; omega)]; exact FV.gtr hx hy
theorem FV.geqU:FV P ⟨d,.binOp .geq t x y t', ty,ps,af,g⟩ σ w (.bool (decide (b <= a))):=by rw [<- show decide ((b.toNat:Int) <= a.toNat) = decide (b <= a) from decide_eq_decide.2 (by rw [UInt64.le_iff_toNat_le]; omega)]; exact FV.geq hx hy
theorem FV.eqlU:FV P ⟨d,.binOp .eql t x y t', ty,ps,af,g⟩ σ w (.bool (decide (a = b))):=by rw [<- show decide ((a.toNat:Int) = b.toNat) = decide (a = b) from decide_eq_decide.2 (by rw [<- UInt64.toNat_inj]; omega)]; exact FV.eql hx hy
theorem FV.neqU:FV P ⟨d,.binOp .neq t x y t', ty,ps,af,g⟩ σ w (.bool (!decide (a = b))):=by rw [<- show decide ((a.toNat:Int) = b.toNat) = decide (a = b) from decide_eq_decide.2 (by rw [<- UInt64.toNat_inj]; omega)]; exact FV.neq hx hy
theorem FV.addU:FV P ⟨d,.binOp .add t x y t', ty,ps,af,g⟩ σ w (.int .u64 ((a + b).toNat:Int)):=FV.add hx hy (wrap_add64 a b)
theorem FV.subU:FV P ⟨d,.binOp .sub t x y t', ty,ps,af,g⟩ σ w (.int .u64 ((a - b).toNat:Int)):=FV.sub hx hy (wrap_sub64 a b)
theorem FV.mulU:FV P ⟨d,.binOp .mul t x y t', ty,ps,af,g⟩ σ w (.int .u64 ((a * b).toNat:Int)):=FV.mul hx hy (wrap_mul64 a b)
theorem FV.andU:FV P ⟨d,.binOp .and t x y t', ty,ps,af,g⟩ σ w (.int .u64 ((a &&& b).toNat:Int)):=fun ρ ha w' _=>by rw [<- and64]; simp [execOp,ha _ _ hx,ha _ _ hy,go_sem,bits]
theorem FV.orU:FV P ⟨d,.binOp .or t x y t', ty,ps,af,g⟩ σ w (.int .u64 ((a ||| b).toNat:Int)):=fun ρ ha w' _=>by rw [<- or64]; simp [execOp,ha _ _ hx,ha _ _ hy,go_sem,bits]
theorem FV.remU (h0:b ≠ 0):FV P ⟨d,.binOp .rem t x y t', ty,ps,af,g⟩ σ w (.int .u64 ((a % b).toNat:Int)):=fun ρ ha w' hw=>by
  have hb:¬ (b.toNat:Int) = 0:=fun e=>h0 (UInt64.toNat_inj.1 (by simpa using e))
  have e:(a.toNat:Int).tmod (b.toNat:Int) = ((a % b).toNat:Int):=by rw [UInt64.toNat_mod]; rfl
  rw [<- e]; exact FV.rem0 hx hy hb ρ ha w' hw
theorem FV.quoU (h0:b ≠ 0):FV P ⟨d,.binOp .quo t x y t', ty,ps,af,g⟩ σ w (.int .u64 ((a / b).toNat:Int)):=fun ρ ha w' hw=>by
  have hb:¬ (b.toNat:Int) = 0:=fun e=>h0 (UInt64.toNat_inj.1 (by simpa using e))
  have e:IntKind.u64.wrap ((a.toNat:Int).tdiv (b.toNat:Int)) = ((a / b).toNat:Int):=by
    rw [show (a.toNat:Int).tdiv (b.toNat:Int) = ((a / b).toNat:Int) by rw [UInt64.toNat_div]; rfl,wrap_u64,u64of_toNat]
  exact FV.quo0 hx hy hb e ρ ha w' hw
end
theorem FV.negU (hx:ev σ x = some (.int .u64 (a.toNat:Int))):FV P ⟨d,.unOp .neg t x,ty,ps,af,g⟩ σ w (.int .u64 ((-a).toNat:Int)):=fun ρ ha w' _=>by
  have e:=wrap_sub64 0 a
  rw [UInt64.zero_sub] at e
  simp [execOp,ha _ _ hx,go_sem]
  try simpa using e
theorem FV.shlU {k:IntKind} {j:Nat} (hx:ev σ x = some (.int .u64 (a.toNat:Int))) (hy:ev σ y = some (.int k ((j:Nat):Int))):FV P ⟨d,.binOp .shl t x y t', ty,ps,af,g⟩ σ w (.int .u64 ((shlU a j).toNat:Int)):=fun ρ ha w' _=>by
  have e:IntKind.u64.wrap ((a.toNat:Int) * 2 ^ (min j 64)) = ((Proofs.YtgejkdheojkfiaaGreatDoor.shlU a j).toNat:Int):=by
    unfold Proofs.YtgejkdheojkfiaaGreatDoor.shlU
    split
    · rename_i h
      rw [Nat.min_eq_left (by omega),show (a.toNat:Int) * 2 ^ j = ((a.toNat * 2 ^ j:Nat):Int) by simp,wrap_u64,u64of_nat]
    · rename_i h
      rw [Nat.min_eq_right (by omega),wrap_u64,show (a.toNat:Int) * 2 ^ 64 = ((a.toNat * 18446744073709551616:Nat):Int) by simp,u64of_nat]
      have:UInt64.ofNat (a.toNat * 18446744073709551616) = 0:=by rw [<- UInt64.toNat_inj]; simp
      rw [this]
  have hs:(Op.shift .shl .u64 (a.toNat:Int) k (j:Int)).run P w' = .ok (.int .u64 ((Proofs.YtgejkdheojkfiaaGreatDoor.shlU a j).toNat:Int)) w' :=by
    rw [<- e]; unfold Op.shift; rw [if_neg (by omega)]; simp [IntKind.bits]
  simp [execOp,ha _ _ hx,ha _ _ hy,eqGuard,binOp,hs]
theorem FV.shrU {k:IntKind} {j:Nat} (hx:ev σ x = some (.int .u64 (a.toNat:Int))) (hy:ev σ y = some (.int k ((j:Nat):Int))):FV P ⟨d,.binOp .shr t x y t', ty,ps,af,g⟩ σ w (.int .u64 ((shrU a j).toNat:Int)):=fun ρ ha w' _=>by
  have e:(a.toNat:Int).fdiv (2 ^ (min j 64)) = ((Proofs.YtgejkdheojkfiaaGreatDoor.shrU a j).toNat:Int):=by
    have hlt:=u64_lt a
    rw [show (2:Int) ^ (min j 64) = ((2 ^ (min j 64):Nat):Int) by simp,show (a.toNat:Int).fdiv ((2 ^ (min j 64):Nat):Int) = ((a.toNat / 2 ^ (min j 64):Nat):Int) by rw [Int.fdiv_eq_ediv_of_nonneg _ (Int.natCast_nonneg _)]; rfl]
    unfold Proofs.YtgejkdheojkfiaaGreatDoor.shrU
    split
    · rename_i h
      rw [Nat.min_eq_left (by omega),UInt64.toNat_ofNat_of_lt']
      exact Nat.lt_of_le_of_lt (Nat.div_le_self _ _) hlt
    · rename_i h
      rw [Nat.min_eq_right (by omega),Nat.div_eq_of_lt (by simpa using hlt)]; rfl
  have hs:(Op.shift .shr .u64 (a.toNat:Int) k (j:Int)).run P w' = .ok (.int .u64 ((Proofs.YtgejkdheojkfiaaGreatDoor.shrU a j).toNat:Int)) w' :=by
    rw [<- e]; unfold Op.shift; rw [if_neg (by omega)]; simp [IntKind.bits]
  simp [execOp,ha _ _ hx,ha _ _ hy,eqGuard,binOp,hs]
end
section
variable {P:Program} {σ:List (Nat × Value)} {w:World} {x y:Operand} {d:Option Tmp} {s t t' ty:TypeId} {ps:String} {af:Array Edge} {g:Option (Nat × Bool)}
/-! ### Division, conversions -/
theorem FV.rem {k:IntKind} {i j:Int} (hx:ev σ x = some (.int k i)) (hy:ev σ y = some (.int k j)) (h0:j ≠ 0):FV P ⟨d,.binOp .rem t x y t', ty,ps,af,g⟩ σ w (.int k (i.tmod j)):=fun ρ ha w' _=>by simp [execOp,ha _ _ hx,ha _ _ hy,go_sem,h0]
theorem FV.quo {k:IntKind} {i j r:Int} (hx:ev σ x = some (.int k i)) (hy:ev σ y = some (.int k j)) (h0:j ≠ 0) (hr:k.wrap (i.tdiv j) = r):FV P ⟨d,.binOp .quo t x y t', ty,ps,af,g⟩ σ w (.int k r):=fun ρ ha w' _=>by subst hr; simp [execOp,ha _ _ hx,ha _ _ hy,go_sem,h0]
theorem FV.remN {k:IntKind} {i j:Nat} (hx:ev σ x = some (.int k ((i:Nat):Int))) (hy:ev σ y = some (.int k ((j:Nat):Int))) (h0:Nat.blt 0 j = true):FV P ⟨d,.binOp .rem t x y t', ty,ps,af,g⟩ σ w (.int k ((i % j:Nat):Int)):=
  FV.rem hx hy (by simp [Nat.blt_eq] at h0; omega)
theorem FV.quoN {i j:Nat} (hx:ev σ x = some (.int .i64 ((i:Nat):Int))) (hy:ev σ y = some (.int .i64 ((j:Nat):Int))) (h0:Nat.blt 0 j = true) (hi:i <= 9223372036854775807):FV P ⟨d,.binOp .quo t x y t', ty,ps,af,g⟩ σ w (.int .i64 ((i / j:Nat):Int)):=
  FV.quo hx hy (by simp [Nat.blt_eq] at h0; omega) (by
    rw [show ((i:Nat):Int).tdiv ((j:Nat):Int) = ((i / j:Nat):Int) from rfl]
    generalize hq:i / j = q
    have:=Nat.div_le_self i j
    exact IntWalk.i64_in _ (by omega))
theorem FV.addc {i j r:Int} (hx:ev σ x = some (.int .i64 i)) (hy:ev σ y = some (.int .i64 j)) (hr:chk (i + j) = some r):FV P ⟨d,.binOp .add t x y t', ty,ps,af,g⟩ σ w (.int .i64 r):=FV.add hx hy (by obtain ⟨rfl,h⟩:=chk_in hr; exact IntWalk.i64_in _ h)
theorem FV.subc {i j r:Int} (hx:ev σ x = some (.int .i64 i)) (hy:ev σ y = some (.int .i64 j)) (hr:chk (i - j) = some r):FV P ⟨d,.binOp .sub t x y t', ty,ps,af,g⟩ σ w (.int .i64 r):=FV.sub hx hy (by obtain ⟨rfl,h⟩:=chk_in hr; exact IntWalk.i64_in _ h)
theorem FV.mulc {i j r:Int} (hx:ev σ x = some (.int .i64 i)) (hy:ev σ y = some (.int .i64 j)) (hr:chk (i * j) = some r):FV P ⟨d,.binOp .mul t x y t', ty,ps,af,g⟩ σ w (.int .i64 r):=FV.mul hx hy (by obtain ⟨rfl,h⟩:=chk_in hr; exact IntWalk.i64_in _ h)
theorem FV.addI {i j:Int} (hx:ev σ x = some (.int .i64 i)) (hy:ev σ y = some (.int .i64 j)) (hr:-9223372036854775808 <= i + j/\i + j <= 9223372036854775807):FV P ⟨d,.binOp .add t x y t', ty,ps,af,g⟩ σ w (.int .i64 (i + j)):=FV.add hx hy (IntWalk.i64_in _ hr)
theorem FV.subI {i j:Int} (hx:ev σ x = some (.int .i64 i)) (hy:ev σ y = some (.int .i64 j)) (hr:-9223372036854775808 <= i - j/\i - j <= 9223372036854775807):FV P ⟨d,.binOp .sub t x y t', ty,ps,af,g⟩ σ w (.int .i64 (i - j)):=FV.sub hx hy (IntWalk.i64_in _ hr)
theorem FV.conv {k1 k2:IntKind} {i r:Int} (hs:P.underlying s = some (.int k1)) (ht:P.underlying t = some (.int k2)) (hx:ev σ x = some (.int k1 i)) (hr:k2.wrap i = r):FV P ⟨d,.convert s t x,ty,ps,af,g⟩ σ w (.int k2 r):=fun ρ ha w' _=>by
  subst hr
  simp [execOp,ha _ _ hx,go_sem,hs,ht]
theorem FV.convN {k1:IntKind} {i:Nat} (hs:P.underlying s = some (.int k1)) (ht:P.underlying t = some (.int .i64)) (hx:ev σ x = some (.int k1 ((i:Nat):Int))) (hi:i <= 9223372036854775807):FV P ⟨d,.convert s t x,ty,ps,af,g⟩ σ w (.int .i64 ((i:Nat):Int)):=
  FV.conv hs ht hx (IntWalk.i64_in _ (by omega))
theorem FV.convU {k1:IntKind} {i:Int} (hs:P.underlying s = some (.int k1)) (ht:P.underlying t = some (.int .u64)) (hx:ev σ x = some (.int k1 i)):FV P ⟨d,.convert s t x,ty,ps,af,g⟩ σ w (.int .u64 ((u64of i).toNat:Int)):=
  FV.conv hs ht hx (wrap_u64 i)
theorem FV.convUI {a:UInt64} (hs:P.underlying s = some (.int .u64)) (ht:P.underlying t = some (.int .i64)) (hx:ev σ x = some (.int .u64 (a.toNat:Int))):FV P ⟨d,.convert s t x,ty,ps,af,g⟩ σ w (.int .i64 (i64of a)):=
  FV.conv hs ht hx (wrap_i64_u64 a)
/-! ### Small bytes -/
theorem FV.rem8 {a b:UInt8} (hx:ev σ x = some (.int .u8 (a.toNat:Int))) (hy:ev σ y = some (.int .u8 (b.toNat:Int))) (h0:b ≠ 0):FV P ⟨d,.binOp .rem t x y t', ty,ps,af,g⟩ σ w (.int .u8 ((a % b).toNat:Int)):=by
  have hb:(b.toNat:Int) ≠ 0:=fun e=>h0 (UInt8.toNat_inj.1 (by simpa using e))
  have:=FV.rem (P:=P) (w:=w) (d:=d) (t:=t) (t' :=t') (ty:=ty) (ps:=ps) (af:=af) (g:=g) hx hy hb
  rwa [show (a.toNat:Int).tmod (b.toNat:Int) = ((a % b).toNat:Int) by rw [UInt8.toNat_mod]; rfl] at this
/-! ### Functions, pointers, interfaces, numbers -/
theorem FV.makeFunc {fn:Fn} {first captured:List Operand} {vs us:List Value} (hf:evs σ first vs) (hc:evs σ captured us):FV P ⟨d,.makeFunc fn first.toArray captured.toArray,ty,ps,af,g⟩ σ w (.func fn vs.toArray us.toArray):=fun ρ ha w' _=>by
  simp [execOp,Instr.makeFunc,evs_map ha hf,evs_map ha hc]
theorem FV.nilCheck {p:Addr} (hx:ev σ x = some (.pointer (some p))):FV P ⟨d,.nilCheck x,ty,ps,af,g⟩ σ w (.pointer (some p)):=fun ρ ha w' _=>by simp [execOp,ha _ _ hx]
def concreteB (P:Program) (t:TypeId):Bool:=match P.underlying t with
  | some (.interface _)=>false
  | some _=>true
  | none=>false
theorem FV.makeInterface {v:Value} (ht:concreteB P t = true) (hx:ev σ x = some v):FV P ⟨d,.makeInterface t x,ty,ps,af,g⟩ σ w (.iface t v):=fun ρ ha w' _=>by
  unfold concreteB at ht
  split at ht
  · cases ht
  · rename_i u hu1 hu
    simp only [execOp,ha _ _ hx,Instr.makeInterface,Sem.run_bind,run_underlying hu]
    cases u <;> simp_all
  · cases ht
theorem FV.min2 {k:IntKind} {i j:Int} (hx:ev σ x = some (.int k i)) (hy:ev σ y = some (.int k j)) {ts:Array TypeId}:FV P ⟨d,.call { callee:=.builtin .min,args:=#[x,y],argTypes:=ts },ty,ps,af,g⟩ σ w (.int k (min i j)):=fun ρ ha w' _=>by
  have e:(if j < i then j else i) = min i j:=by rw [Int.min_def]; split <;> split <;> omega
  simp [execOp,resolve,invoke,builtin,ha _ _ hx,ha _ _ hy,Builtin.min_,Builtin.min2,e]
theorem FV.max2 {k:IntKind} {i j:Int} (hx:ev σ x = some (.int k i)) (hy:ev σ y = some (.int k j)) {ts:Array TypeId}:FV P ⟨d,.call { callee:=.builtin .max,args:=#[x,y],argTypes:=ts },ty,ps,af,g⟩ σ w (.int k (max i j)):=fun ρ ha w' _=>by
  have e:(if i < j then j else i) = max i j:=by rw [Int.max_def]; split <;> split <;> omega
  simp [execOp,resolve,invoke,builtin,ha _ _ hx,ha _ _ hy,Builtin.max_,Builtin.max2,e]
/-! ### Slices of others -/
theorem FV.len {α:Type} [Rep α] {L:List Nat} {v:Value} {xs:List α} {e:TypeId} (ht:P.underlying t = some (.slice e)) (hx:ev σ x = some v) (h:Rep.R w L [v] xs) :
    FV P ⟨d,.call { callee:=.builtin .len,args:=#[x],argTypes:=#[t] },ty,ps,af,g⟩ σ w (.int .i64 xs.length):=by
  obtain ⟨A,c,rfl,_⟩:=Rep.sl h
  exact FV.len_slice ht hx
theorem FV.cut {α:Type} [Rep α] {L:List Nat} {v:Value} {xs:List α} (ht:elemB P t (Rep.size α) = true) (hx:ev σ x = some v) (h:Rep.R w L [v] xs) {lo hi:Option Operand} {l u:Nat}
    (hlo:match lo with | none=>l = 0 | some y=>∃ k,ev σ y = some (.int k ((l:Nat):Int))) (hhi:match hi with | none=>u = xs.length | some y=>∃ k,ev σ y = some (.int k ((u:Nat):Int))) (hlu:l <= u) (hu:u <= xs.length) :
    ∃ v', FV P ⟨d,.slice t x lo hi none,ty,ps,af,g⟩ σ w v' /\Rep.R w L [v'] ((xs.take u).drop l):=by
  obtain ⟨A,c,e,hc1,hc2,hc3,hE⟩:=h
  cases e
  unfold elemB at ht
  split at ht
  · rename_i e hun
    split at ht
    · rename_i j hj
      have hs:j.size = Rep.size α:=by simpa using ht
      have hlen:((xs.take u).drop l).length = u - l:=by rw [List.length_drop,List.length_take]; omega
      refine ⟨.slice (if c = l then A else A.map (·.add (l * Rep.size α))) (u - l) (c - l),?_,_,c - l,by rw [hlen],by rw [hlen]; omega,by omega,by rw [hlen]; unfold most at *; omega,fun i hi=>?_⟩
      · intro ρ ha w' _
        have hb:(Instr.sliceBounds true xs.length c (lo.map ρ) (hi.map ρ) none).run P w' = .ok (l,u,c) w' :=by
          cases lo with
          | none=>
            subst hlo
            cases hi with
            | none=>subst hhi; simp [Instr.sliceBounds]
            | some y=>obtain ⟨k,hy⟩:=hhi; simp [Instr.sliceBounds,Instr.sliceBound,ha _ _ hy,asIntOf]; omega
          | some z=>
            obtain ⟨k,hz⟩:=hlo
            cases hi with
            | none=>subst hhi; simp [Instr.sliceBounds,Instr.sliceBound,ha _ _ hz,asIntOf]; omega
            | some y=>obtain ⟨k', hy⟩:=hhi; simp [Instr.sliceBounds,Instr.sliceBound,ha _ _ hy,ha _ _ hz,asIntOf]; rw [if_pos (by omega)]; simp; omega
        have hsz:(sizeOf e).run P w' = .ok (Rep.size α) w' :=by simp [sizeOf,typeInfo,hj,hs]
        simp only [execOp,ha _ _ hx,Instr.sliceAt]
        simp [Instr.slice,run_underlying hun,hb,hsz]
      · have hi' : i < u - l:=by rw [hlen] at hi; exact hi
        obtain ⟨ad,rfl,hnb,cs,hr,hcell⟩:=hE (l + i) (by omega)
        have hne:¬ c = l:=by omega
        refine ⟨ad.add (l * Rep.size α),by rw [if_neg hne]; rfl,by rw [block_of_add]; exact hnb,cs,?_,fun j u' hu' =>?_⟩
        · have:((xs.take u).drop l)[i] = xs[l + i]'(by omega):=by simp
          rw [this]; exact hr
        · have:=hcell j u' hu'
          rw [add_of_add,show l * Rep.size α + (i * Rep.size α + j) = (l + i) * Rep.size α + j by rw [Nat.add_mul]; omega]
          exact this
    · cases ht
  · cases ht
end
end Go.Proofs.YtgejkdheojkfiaaGreatDoor
