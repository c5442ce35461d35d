/- Functions of the program, and what they give: part 1. -/
import Derived.Test.YtcijnmkodpfpgaaGreatDoorProg
import Derived.Test.YtcijnmkodpfpgaaGreatDoorZMn
namespace Go.Proofs.YtcijnmkodpfpgaaGreatDoor
open Go Go.RowKit
set_option maxRecDepth 4000
set_option maxHeartbeats 4000000

def tb23_6:List (Nat × Nat × Nat):=[(0,65536,1),(0,131072,32),(3,262144,196608),(4,524288,262144),(0,1048576,2),(0,2097152,32),(48,4194304,3145728),(64,8388608,4194304),(136,16777216,8912896)]
def slices_Equal_int_int_l1 (_n:Nat) (a0:List Int) (a1:List Int) (b0:Nat → Option (Bool ⊕ Unit)):Nat → Option (Bool ⊕ Unit)
  | i32=>(if i32 < a0.length then (a0[i32]?).bind fun c0=>(a1[i32]?).bind fun d0=>(if c0 = d0 then b0 (i32 + 1) else some (.inl false)) else some (.inr ()))
def slices_Equal_int_int_p (n:Nat) (a0:List Int) (a1:List Int):Option Bool:=
  (if a0.length = a1.length then thn (loopF (slices_Equal_int_int_l1 n a0 a1) n 0) (fun _=>some true) else some false)
theorem slices_Equal_int_int_c (n:Nat) (L:List Nat) (w:World) (_hL:∀ b ∈ L,b < w.heap.size) (a0:List Int) {v0_0:Value} (h0_0:Rep.R w L [v0_0] a0) (a1:List Int) {v1_0:Value} (h1_0:Rep.R w L [v1_0] a1)  {r:Bool} (h:slices_Equal_int_int_p n a0 a1 = some r) :
    Calls Tryz.prog 23 #[v0_0,v1_0] w (Gives w fun _ u=>u = .bool r):=by
 unfold slices_Equal_int_int_p at h
 have hS0:=AK w
 refine AM Tryz.func23 rfl rfl rfl (fun _ cs0 hb0=>?_)
 refine Ae<|Ag rfl<|Aa<|Ak<|Ae<|Ac rfl ?_
 have hl1:a0.length ≤ 281474976710656:=AZ h0_0
 refine Ab (Bj (xs:=a0) Tryz.underlying42 rfl h0_0)<|Ac rfl ?_
 have hl2:a1.length ≤ 281474976710656:=AZ h1_0
 refine Ab (Bj (xs:=a1) Tryz.underlying42 rfl h1_0)<|Ab (FV.neqN (i:=a0.length) (j:=a1.length) rfl rfl)<|Aa<|BV rfl h (fun c3 h=>?_) (fun c3 h=>?_)
 refine Ao<|Ak<|Ae<|Ac rfl<|Ab (Bj (xs:=a0) Tryz.underlying42 rfl h0_0)<|Ac rfl<|Aa<|AB ?_
 obtain ⟨X0,I0,j0⟩:=thn_in h
 refine Bp (α:=Nat) (fun i32=>[(0,v0_0),(1,v1_0),(12,vI ((a0.length:Nat):Int)),(13,vI ((i32:Nat):Int))]) (fun i32 g0=>St w g0 []∧Tr w [] g0 []) (fun i32=>i32) 0 I0 ⟨rfl,rfl,rfl,rfl,trivial⟩ ⟨hS0,AN _ _⟩ ?_
 rintro U0 i32 g0 v0 ⟨d0,x0⟩ h
 unfold slices_Equal_int_int_l1 at h
 try dsimp only at h
 refine Ae<|Ab (BA (i:=i32) (j:=a0.length) rfl rfl)<|Aa<|Ak<|AW rfl h (fun q0 h=>?_) (fun q0 h=>?_)
 refine Ao<|Ak<|AB<|Ae<|Ac rfl<|Ag rfl<|Aa<|Ak<|Bm 9 tb23_6 (by kernel_rfl) (by kernel_rfl) (by kernel_rfl) (fun b0 c0=>?_)
 refine Ah 0 1 b0 rfl c0 (fun _=>Ai rfl) rfl<|Ah 1 3 b0 rfl c0 (fun _=>Ai rfl) rfl ?_
 obtain ⟨k0,M0,h⟩:=bi h
 have F0:=Ax h0_0 d0
 obtain ⟨Q0,V0,y0,C0,t0,J0,E0⟩:=Bb F0 M0
 have z0:t0 = [vI k0]:=J0; subst z0
 refine Ah 2 7 b0 rfl c0 (fun _=>Be 1 i32 rfl y0 rfl rfl C0) rfl<|AT 3 15 256 b0 rfl c0 (AA rfl (E0 0 _ rfl)) rfl<|Ah 4 31 b0 rfl c0 (fun _=>Ai rfl) rfl<|Ah 5 63 b0 rfl c0 (fun _=>Ai rfl) rfl ?_
 obtain ⟨p0,P0,h⟩:=bi h
 have H0:=Ax h1_0 d0
 obtain ⟨R0,W0,A0,D0,u0,K0,G0⟩:=Bb H0 P0
 have B0:u0 = [vI p0]:=K0; subst B0
 refine Ah 6 127 b0 rfl c0 (fun _=>Be 1 i32 rfl A0 rfl rfl D0) rfl<|AT 7 255 256 b0 rfl c0 (AA rfl (G0 0 _ rfl)) rfl<|Ah 8 511 b0 rfl c0 (fun _=>BO (i:=k0) (j:=p0) rfl rfl) rfl<|Bc (doneD_ok b0 (by kernel_rfl))<|BV rfl h (fun s0 h=>?_) (fun s0 h=>?_)
 refine Ao<|AF<|Aw<|Ab (Bu (i:=i32) (j:=1) rfl rfl (by omega))<|Ac rfl<|Aa ?_
 exact v0 (i32 + 1) _ _ ⟨rfl,rfl,rfl,rfl,trivial⟩ ⟨d0,x0⟩ h
 refine Ae<|Ag rfl<|Aa ?_
 have h:=thn_inl h j0
 refine Am rfl<|AJ hb0 Tryz.func23 rfl rfl ?_
 cases h
 exact d0.gv
 refine Bd rfl ?_
 have h:=thn_inr h j0
 try dsimp only at h
 refine Ae<|Ag rfl<|Aa<|Am rfl<|AJ hb0 Tryz.func23 rfl rfl ?_
 cases h
 exact d0.gv
 refine Ae<|Ag rfl<|Aa<|Am rfl<|AJ hb0 Tryz.func23 rfl rfl ?_
 cases h
 exact hS0.gv
structure Tbroken where
  fErrno:Int
  deriving DecidableEq
instance:Rep Tbroken:=Rep.via (β:=Int) fun x=>x.fErrno
def balance_need_p (_n:Nat) (a0:Int):Option (Except Tbroken Unit):=
  (if a0 = 0 then some (.ok ()) else some (.error (⟨a0⟩:Tbroken)))
theorem balance_need_c (n:Nat) (L:List Nat) (w:World) (_hL:∀ b ∈ L,b < w.heap.size) (a0:Int)  {r:Except Tbroken Unit} (h:balance_need_p n a0 = some r) :
    Calls Tryz.prog 81 #[vI a0] w (PGives w (fun (y:Unit) _ u=>u = .tuple #[]) (fun e=>.iface 137 (.agg #[vI e.fErrno])) r):=by
 unfold balance_need_p at h
 have hS0:=AK w
 refine MX.startP Tryz.func81 rfl rfl rfl (fun _ cs0 hb0 hp0=>?_)
 refine Ae<|Ac rfl<|Ab (BO (i:=a0) (j:=0) rfl rfl)<|Aa<|BV rfl h (fun c1 h=>?_) (fun c1 h=>?_)
 refine Ao<|MX.fin rfl<|Ay hb0 Tryz.func81 rfl .nil rfl ?_
 cases h
 exact ⟨hS0.ag,fun w9 hw9=>okOf_in rfl⟩
 refine Aw<|Ac rfl<|Ab (AV (vs:=[vI a0]) (u:=.agg #[vI a0]) (e1 rfl) (fun w9=>by kernel_rfl))<|Ab (FV.makeInterface (by kernel_rfl) rfl)<|RG.panic .plain rfl ?_
 cases h
 exact BU hp0 Tryz.func81 ⟨hS0.ag,rfl⟩
def slices_Index_bool_bool_l1 (_n:Nat) (a0:List Bool) (a1:Bool) (c0:Nat → Option (Int ⊕ Unit)):Nat → Option (Int ⊕ Unit)
  | b0=>(if b0 < a0.length then (a0[b0]?).bind fun d0=>(if (a1 == d0) = true then some (.inl ((b0:Nat):Int)) else c0 (b0 + 1)) else some (.inr ()))
def slices_Index_bool_bool_p (n:Nat) (a0:List Bool) (a1:Bool):Option Int:=
  thn (loopF (slices_Index_bool_bool_l1 n a0 a1) n 0) (fun _=>some (-1:Int))
theorem slices_Index_bool_bool_c (n:Nat) (L:List Nat) (w:World) (_hL:∀ b ∈ L,b < w.heap.size) (a0:List Bool) {v0_0:Value} (h0_0:Rep.R w L [v0_0] a0) (a1:Bool)  {r:Int} (h:slices_Index_bool_bool_p n a0 a1 = some r) :
    Calls Tryz.prog 135 #[v0_0,.bool a1] w (Gives w fun _ u=>u = vI r):=by
 unfold slices_Index_bool_bool_p at h
 have hS0:=AK w
 refine AM Tryz.func135 rfl rfl rfl (fun _ cs0 hb0=>?_)
 refine Ae<|Ag rfl<|Aa<|Ak<|Ae<|Ac rfl ?_
 have hl1:a0.length ≤ 281474976710656:=AZ h0_0
 refine Ab (Bj (xs:=a0) Tryz.underlying182 rfl h0_0)<|Ac rfl<|Aa<|AB ?_
 obtain ⟨G0,A0,g0⟩:=thn_in h
 refine Bp (α:=Nat) (fun b0=>[(0,v0_0),(1,.bool a1),(7,vI ((a0.length:Nat):Int)),(8,vI ((b0:Nat):Int))]) (fun b0 d0=>St w d0 []∧Tr w [] d0 []) (fun b0=>b0) 0 A0 ⟨rfl,rfl,rfl,rfl,trivial⟩ ⟨hS0,AN _ _⟩ ?_
 rintro E0 b0 d0 s0 ⟨c0,t0⟩ h
 unfold slices_Index_bool_bool_l1 at h
 try dsimp only at h
 refine Ae<|Ab (BA (i:=b0) (j:=a0.length) rfl rfl)<|Aa<|Ak<|AW rfl h (fun k0 h=>?_) (fun k0 h=>?_)
 refine Ao<|Ak<|AB<|Ae<|Ac rfl<|Ag rfl<|Aa<|Ae<|Ac rfl<|Ac rfl<|Ac rfl ?_
 obtain ⟨j0,C0,h⟩:=bi h
 have z0:=Ax h0_0 c0
 obtain ⟨D0,F0,u0,x0,q0,B0,y0⟩:=Bb z0 C0
 have v0:q0 = [.bool j0]:=B0; subst v0
 refine Ab (Be 1 b0 rfl u0 rfl rfl x0)<|AS rfl (y0 0 _ rfl)<|Ab (FV.eqlB (a:=a1) (b:=j0) Tryz.underlying4 rfl rfl)<|Aa<|MX.ifb rfl h (fun p0 h=>?_) (fun p0 h=>?_)
 refine Ae<|Ac rfl<|Ag rfl<|Aa ?_
 have h:=thn_inl h g0
 refine Am rfl<|AJ hb0 Tryz.func135 rfl rfl ?_
 cases h
 exact c0.gv
 refine Ao<|AF<|Aw<|Ab (Bu (i:=b0) (j:=1) rfl rfl (by omega))<|Ac rfl<|Aa ?_
 exact s0 (b0 + 1) _ _ ⟨rfl,rfl,rfl,rfl,trivial⟩ ⟨c0,t0⟩ h
 refine Bd rfl ?_
 have h:=thn_inr h g0
 try dsimp only at h
 refine Ae<|Ag rfl<|Aa<|Am rfl<|AJ hb0 Tryz.func135 rfl rfl ?_
 cases h
 exact c0.gv
theorem body135:bodyB Tryz.prog 135 = true:=by kernel_rfl
def slices_Contains_bool_bool_p (n:Nat) (a0:List Bool) (a1:Bool):Option Bool:=
  (slices_Index_bool_bool_p n a0 a1).bind fun y1=>some (decide (0 ≤ y1))
theorem slices_Contains_bool_bool_c (n:Nat) (L:List Nat) (w:World) (hL:∀ b ∈ L,b < w.heap.size) (a0:List Bool) {v0_0:Value} (h0_0:Rep.R w L [v0_0] a0) (a1:Bool)  {r:Bool} (h:slices_Contains_bool_bool_p n a0 a1 = some r) :
    Calls Tryz.prog 124 #[v0_0,.bool a1] w (Gives w fun _ u=>u = .bool r):=by
 unfold slices_Contains_bool_bool_p at h
 have hS0:=AK w
 refine AM Tryz.func124 rfl rfl rfl (fun _ cs0 hb0=>?_)
 refine Ae<|Ag rfl<|Aa<|Ae<|Ac rfl<|Ac rfl ?_
 obtain ⟨y1,hy1,h⟩:=bi h
 refine BE (vI y1) body135 rfl (e2 rfl rfl) (fun w9 hw9=>slices_Index_bool_bool_c n _ w9 (hS0.hL0 hL hw9) a0 (hS0.kd h0_0 hw9) a1 hy1) rfl<|Ab (FV.geq (i:=y1) (j:=0) rfl rfl)<|Ag rfl<|Aa<|Am rfl<|AJ hb0 Tryz.func124 rfl rfl ?_
 cases h
 exact hS0.gv
theorem body124:bodyB Tryz.prog 124 = true:=by kernel_rfl
def units_every_p (n:Nat) (a0:List Bool):Option Bool:=
  (slices_Contains_bool_bool_p n a0 false).bind fun y1=>some (!y1)
theorem units_every_c (n:Nat) (L:List Nat) (w:World) (hL:∀ b ∈ L,b < w.heap.size) (a0:List Bool) {v0_0:Value} (h0_0:Rep.R w L [v0_0] a0)  {r:Bool} (h:units_every_p n a0 = some r) :
    Calls Tryz.prog 104 #[v0_0] w (Gives w fun _ u=>u = .bool r):=by
 unfold units_every_p at h
 have hS0:=AK w
 refine AM Tryz.func104 rfl rfl rfl (fun _ cs0 hb0=>?_)
 refine Ae<|Ag rfl<|Aa<|Ae<|Ac rfl ?_
 obtain ⟨y1,hy1,h⟩:=bi h
 refine BE (.bool y1) body124 rfl (e2 rfl rfl) (fun w9 hw9=>slices_Contains_bool_bool_c n _ w9 (hS0.hL0 hL hw9) a0 (hS0.kd h0_0 hw9) false hy1) rfl<|Ab (Ba rfl)<|Ag rfl<|Aa<|Am rfl<|AJ hb0 Tryz.func104 rfl rfl ?_
 cases h
 exact hS0.gv
def strings_trimLeftByte_l1 (_n:Nat) (a1:UInt8) (c0:ByteArray → Option ByteArray):ByteArray → Option ByteArray
  | b0=>(if 0 < b0.size then (b0.data[0]?).bind fun g0=>(if g0.toNat = a1.toNat then (scut b0 1 (b0.size:Int)).bind fun d0=>c0 d0 else some b0) else some b0)
def strings_trimLeftByte_p (n:Nat) (a0:ByteArray) (a1:UInt8):Option ByteArray:=
  jn (fun c0=>some c0) (fun b0=>Option.bind (loopF (strings_trimLeftByte_l1 n a1) n a0) (b0))
theorem strings_trimLeftByte_c (n:Nat) (L:List Nat) (w:World) (_hL:∀ b ∈ L,b < w.heap.size) (a0:ByteArray) (a1:UInt8)  {r:ByteArray} (h:strings_trimLeftByte_p n a0 a1 = some r) :
    Calls Tryz.prog 136 #[.string a0,.int .u8 (a1.toNat:Int)] w (Gives w fun _ u=>u = .string r):=by
 unfold strings_trimLeftByte_p at h
 have hS0:=AK w
 refine AM Tryz.func136 rfl rfl rfl (fun _ cs0 hb0=>?_)
 refine Ae<|Ag rfl<|Aa<|Ak<|AB<|MX.joinx (α:=ByteArray) (fun c0=>[(0,.string c0)]) (fun c0 j0=>St w j0 []∧Tr w [] j0 []) (fun c0=>c0) (id:=0) rfl h ?_ ?_
 rintro c0 j0 ⟨v0,E0⟩ h
 try dsimp only at h
 refine Ae<|Ac rfl<|Ag rfl<|Aa<|Am rfl<|AJ hb0 Tryz.func136 rfl rfl ?_
 cases h
 exact v0.gv
 intro C0 p0 h
 try dsimp only at h
 obtain ⟨F0,x0,q0⟩:=bind_in2 h
 refine Bp (α:=ByteArray) (fun b0=>[(0,.string b0),(1,.int .u8 (a1.toNat:Int))]) (fun b0 k0=>St w k0 []∧Tr w [] k0 []) (fun b0=>b0) a0 x0 ⟨rfl,rfl,trivial⟩ ⟨hS0,AN _ _⟩ ?_
 rintro D0 b0 k0 u0 ⟨d0,g0⟩ h
 unfold strings_trimLeftByte_l1 at h
 try dsimp only at h
 refine Ak<|Ae<|Ac rfl<|Ab (BK Tryz.underlying9 rfl)<|Ab (FV.gtrN (i:=b0.size) (j:=0) rfl rfl)<|Ac rfl<|Bi (s:=8) rfl h (fun s0 h=>?_) (fun s0 h=>?_)
 refine Ap (Ai rfl) ?_
 obtain ⟨B0,z0,h⟩:=bi h
 refine Ap (FV.strAt (k:=0) Tryz.underlying9 rfl rfl rfl z0)<|Ap (Ai rfl)<|Ap (BR (i:=B0.toNat) (j:=a1.toNat) rfl rfl)<|AU rfl rfl<|Aa<|AW rfl h (fun t0 h=>?_) (fun t0 h=>?_)
 refine Ao<|AB<|Aw<|Ac rfl ?_
 obtain ⟨A0,y0,h⟩:=bi h
 refine Ab (FV.strCut y0 Tryz.underlying9 rfl ⟨_,rfl⟩ rfl)<|Ag rfl<|Aa<|AF ?_
 exact u0 A0 _ _ ⟨rfl,rfl,trivial⟩ ⟨d0,g0⟩ h
 refine Bd rfl ?_
 have h:=q0 _ h
 try dsimp only at h
 exact p0 b0 _ _ ⟨rfl,trivial⟩ ⟨d0,g0⟩ h
 refine Af<|Af<|Af<|Af<|AO rfl rfl<|Aa<|BC rfl<|Bd rfl ?_
 have h:=q0 _ h
 try dsimp only at h
 exact p0 b0 _ _ ⟨rfl,trivial⟩ ⟨d0,g0⟩ h
def strings_trimRightByte_l1 (_n:Nat) (a1:UInt8) (c0:ByteArray → Option ByteArray):ByteArray → Option ByteArray
  | b0=>(if 0 < b0.size then (chk (((b0.size:Nat):Int) - 1)).bind fun d0=>(sidx b0 d0).bind fun k0=>(if k0.toNat = a1.toNat then (chk (((b0.size:Nat):Int) - 1)).bind fun g0=>(scut b0 0 g0).bind fun j0=>c0 j0 else some b0) else some b0)
def strings_trimRightByte_p (n:Nat) (a0:ByteArray) (a1:UInt8):Option ByteArray:=
  jn (fun c0=>some c0) (fun b0=>Option.bind (loopF (strings_trimRightByte_l1 n a1) n a0) (b0))
theorem strings_trimRightByte_c (n:Nat) (L:List Nat) (w:World) (_hL:∀ b ∈ L,b < w.heap.size) (a0:ByteArray) (a1:UInt8)  {r:ByteArray} (h:strings_trimRightByte_p n a0 a1 = some r) :
    Calls Tryz.prog 137 #[.string a0,.int .u8 (a1.toNat:Int)] w (Gives w fun _ u=>u = .string r):=by
 unfold strings_trimRightByte_p at h
 have hS0:=AK w
 refine AM Tryz.func137 rfl rfl rfl (fun _ cs0 hb0=>?_)
 refine Ae<|Ag rfl<|Aa<|Ak<|AB<|MX.joinx (α:=ByteArray) (fun c0=>[(0,.string c0)]) (fun c0 j0=>St w j0 []∧Tr w [] j0 []) (fun c0=>c0) (id:=0) rfl h ?_ ?_
 rintro c0 j0 ⟨v0,J0⟩ h
 try dsimp only at h
 refine Ae<|Ac rfl<|Ag rfl<|Aa<|Am rfl<|AJ hb0 Tryz.func137 rfl rfl ?_
 cases h
 exact v0.gv
 intro H0 p0 h
 try dsimp only at h
 obtain ⟨K0,y0,q0⟩:=bind_in2 h
 refine Bp (α:=ByteArray) (fun b0=>[(0,.string b0),(1,.int .u8 (a1.toNat:Int))]) (fun b0 k0=>St w k0 []∧Tr w [] k0 []) (fun b0=>b0) a0 y0 ⟨rfl,rfl,trivial⟩ ⟨hS0,AN _ _⟩ ?_
 rintro I0 b0 k0 u0 ⟨d0,g0⟩ h
 unfold strings_trimRightByte_l1 at h
 try dsimp only at h
 refine Ak<|Ae<|Ac rfl<|Ab (BK Tryz.underlying9 rfl)<|Ab (FV.gtrN (i:=b0.size) (j:=0) rfl rfl)<|Ac rfl<|Bi (s:=8) rfl h (fun s0 h=>?_) (fun s0 h=>?_)
 refine Ap (Ai rfl)<|Ap (Ai rfl)<|Ap (BK Tryz.underlying9 rfl) ?_
 obtain ⟨E0,z0,h⟩:=bi h
 refine Ap (FV.subc (i:=((b0.size:Nat):Int)) (j:=1) rfl rfl z0) ?_
 obtain ⟨G0,D0,h⟩:=bi h
 obtain ⟨x0,C0⟩:=sidx_in D0
 refine Ap (FV.strAt (k:=E0.toNat) Tryz.underlying9 rfl rfl x0 C0)<|Ap (Ai rfl)<|Ap (BR (i:=G0.toNat) (j:=a1.toNat) rfl rfl)<|AU rfl rfl<|Aa<|AW rfl h (fun t0 h=>?_) (fun t0 h=>?_)
 refine Ao<|AB<|Aw<|Ac rfl<|Ac rfl<|Ab (BK Tryz.underlying9 rfl) ?_
 obtain ⟨M0,A0,h⟩:=bi h
 refine Ab (FV.subc (i:=((b0.size:Nat):Int)) (j:=1) rfl rfl A0) ?_
 obtain ⟨F0,B0,h⟩:=bi h
 refine Ab (FV.strCut B0 Tryz.underlying9 rfl rfl ⟨_,rfl⟩)<|Ag rfl<|Aa<|AF ?_
 exact u0 F0 _ _ ⟨rfl,rfl,trivial⟩ ⟨d0,g0⟩ h
 refine Bd rfl ?_
 have h:=q0 _ h
 try dsimp only at h
 exact p0 b0 _ _ ⟨rfl,trivial⟩ ⟨d0,g0⟩ h
 refine Af<|Af<|Af<|Af<|Af<|Af<|Af<|AO rfl rfl<|Aa<|BC rfl<|Bd rfl ?_
 have h:=q0 _ h
 try dsimp only at h
 exact p0 b0 _ _ ⟨rfl,trivial⟩ ⟨d0,g0⟩ h
def internal_stringslite_IndexByte_p (_n:Nat) (_a0:ByteArray) (_a1:UInt8):Option Int:=
  none
theorem internal_stringslite_IndexByte_c (n:Nat) (L:List Nat) (w:World) (_hL:∀ b ∈ L,b < w.heap.size) (a0:ByteArray) (a1:UInt8)  {r:Int} (h:internal_stringslite_IndexByte_p n a0 a1 = some r) :
    Calls Tryz.prog 158 #[.string a0,.int .u8 (a1.toNat:Int)] w (Gives w fun _ u=>u = vI r):=by
 unfold internal_stringslite_IndexByte_p at h
 have hS0:=AK w
 refine AM Tryz.func158 rfl rfl rfl (fun _ cs0 hb0=>?_)
 refine Ae<|Ag rfl<|Aa<|Ae<|Ac rfl<|Ac rfl ?_
 cases h
theorem body158:bodyB Tryz.prog 158 = true:=by kernel_rfl
def strings_IndexByte_p (n:Nat) (a0:ByteArray) (a1:UInt8):Option Int:=
  (internal_stringslite_IndexByte_p n a0 a1).bind fun y1=>some y1
theorem strings_IndexByte_c (n:Nat) (L:List Nat) (w:World) (hL:∀ b ∈ L,b < w.heap.size) (a0:ByteArray) (a1:UInt8)  {r:Int} (h:strings_IndexByte_p n a0 a1 = some r) :
    Calls Tryz.prog 154 #[.string a0,.int .u8 (a1.toNat:Int)] w (Gives w fun _ u=>u = vI r):=by
 unfold strings_IndexByte_p at h
 have hS0:=AK w
 refine AM Tryz.func154 rfl rfl rfl (fun _ cs0 hb0=>?_)
 refine Ae<|Ag rfl<|Aa<|Ae<|Ac rfl<|Ac rfl ?_
 obtain ⟨y1,hy1,h⟩:=bi h
 refine BE (vI y1) body158 rfl (e2 rfl rfl) (fun w9 hw9=>internal_stringslite_IndexByte_c n _ w9 (hS0.hL0 hL hw9) a0 a1 hy1) rfl<|Ag rfl<|Aa<|Am rfl<|AJ hb0 Tryz.func154 rfl rfl ?_
 cases h
 exact hS0.gv
def unicode_utf8_ValidRune_p (_n:Nat) (a0:Int):Option Bool:=
  (if 0 ≤ a0 then (if a0 < 55296 then some true else (if 57343 < a0 then (if a0 ≤ 1114111 then some true else some false) else some false)) else (if 57343 < a0 then (if a0 ≤ 1114111 then some true else some false) else some false))
theorem unicode_utf8_ValidRune_c (n:Nat) (L:List Nat) (w:World) (_hL:∀ b ∈ L,b < w.heap.size) (a0:Int)  {r:Bool} (h:unicode_utf8_ValidRune_p n a0 = some r) :
    Calls Tryz.prog 155 #[.int .i32 a0] w (Gives w fun _ u=>u = .bool r):=by
 unfold unicode_utf8_ValidRune_p at h
 have hS0:=AK w
 refine AM Tryz.func155 rfl rfl rfl (fun _ cs0 hb0=>?_)
 refine Ae<|Ag rfl<|Aa<|Ak<|AB<|Ae<|Ac rfl<|Ab (FV.leq (i:=0) (j:=a0) rfl rfl)<|Ac rfl<|Bi (s:=6) rfl h (fun c1 h=>?_) (fun c1 h=>?_)
 refine Ap (Ai rfl)<|Ap (BF (i:=a0) (j:=55296) rfl rfl)<|AU rfl rfl<|Ag rfl<|Aa<|AW rfl h (fun c2 h=>?_) (fun c2 h=>?_)
 refine Ae<|Ag rfl<|Aa<|Am rfl<|AJ hb0 Tryz.func155 rfl rfl ?_
 cases h
 exact hS0.gv
 refine Ae<|Ac rfl<|Ab (BF (i:=57343) (j:=a0) rfl rfl)<|Ac rfl<|Bi (s:=13) rfl h (fun c3 h=>?_) (fun c3 h=>?_)
 refine Ap (Ai rfl)<|Ap (FV.leq (i:=a0) (j:=1114111) rfl rfl)<|AU rfl rfl<|Ag rfl<|Aa<|AW rfl h (fun c4 h=>?_) (fun c4 h=>?_)
 refine Ae<|Ag rfl<|Aa<|Am rfl<|AJ hb0 Tryz.func155 rfl rfl ?_
 cases h
 exact hS0.gv
 refine Ao<|AF<|Ae<|Ag rfl<|Aa<|Am rfl<|AJ hb0 Tryz.func155 rfl rfl ?_
 cases h
 exact hS0.gv
 refine Af<|Af<|AO rfl rfl<|Ag rfl<|Aa<|BC rfl<|Ao<|AF<|Ae<|Ag rfl<|Aa<|Am rfl<|AJ hb0 Tryz.func155 rfl rfl ?_
 cases h
 exact hS0.gv
 refine Af<|Af<|AO rfl rfl<|Ag rfl<|Aa<|BC rfl<|Ae<|Ac rfl<|Ab (BF (i:=57343) (j:=a0) rfl rfl)<|Ac rfl<|Bi (s:=13) rfl h (fun c5 h=>?_) (fun c5 h=>?_)
 refine Ap (Ai rfl)<|Ap (FV.leq (i:=a0) (j:=1114111) rfl rfl)<|AU rfl rfl<|Ag rfl<|Aa<|AW rfl h (fun c6 h=>?_) (fun c6 h=>?_)
 refine Ae<|Ag rfl<|Aa<|Am rfl<|AJ hb0 Tryz.func155 rfl rfl ?_
 cases h
 exact hS0.gv
 refine Ao<|AF<|Ae<|Ag rfl<|Aa<|Am rfl<|AJ hb0 Tryz.func155 rfl rfl ?_
 cases h
 exact hS0.gv
 refine Af<|Af<|AO rfl rfl<|Ag rfl<|Aa<|BC rfl<|Ao<|AF<|Ae<|Ag rfl<|Aa<|Am rfl<|AJ hb0 Tryz.func155 rfl rfl ?_
 cases h
 exact hS0.gv
def internal_bytealg_Cutover_p (_n:Nat) (a0:Int):Option Int:=
  (chk (a0 + 16)).bind fun s1=>(quoI s1 8).bind fun s2=>some s2
theorem internal_bytealg_Cutover_c (n:Nat) (L:List Nat) (w:World) (_hL:∀ b ∈ L,b < w.heap.size) (a0:Int)  {r:Int} (h:internal_bytealg_Cutover_p n a0 = some r) :
    Calls Tryz.prog 156 #[vI a0] w (Gives w fun _ u=>u = vI r):=by
 unfold internal_bytealg_Cutover_p at h
 have hS0:=AK w
 refine AM Tryz.func156 rfl rfl rfl (fun _ cs0 hb0=>?_)
 refine Ae<|Ag rfl<|Aa<|Ae<|Ac rfl ?_
 obtain ⟨s1,hs1,h⟩:=bi h
 refine Ab (BT (i:=a0) (j:=16) rfl rfl hs1) ?_
 obtain ⟨s2,hs2,h⟩:=bi h
 refine Ab (FV.quoc (i:=s1) (j:=8) rfl rfl hs2)<|Ag rfl<|Aa<|Am rfl<|AJ hb0 Tryz.func156 rfl rfl ?_
 cases h
 exact hS0.gv
def unicode_utf8_RuneStart_p (_n:Nat) (a0:UInt8):Option Bool:=
  some (!(decide (((a0 &&& (192:UInt8)).toNat) = 128)))
theorem unicode_utf8_RuneStart_c (n:Nat) (L:List Nat) (w:World) (_hL:∀ b ∈ L,b < w.heap.size) (a0:UInt8)  {r:Bool} (h:unicode_utf8_RuneStart_p n a0 = some r) :
    Calls Tryz.prog 153 #[.int .u8 (a0.toNat:Int)] w (Gives w fun _ u=>u = .bool r):=by
 unfold unicode_utf8_RuneStart_p at h
 have hS0:=AK w
 refine AM Tryz.func153 rfl rfl rfl (fun _ cs0 hb0=>?_)
 refine Ae<|Ag rfl<|Aa<|Ae<|Ac rfl<|Ab (FV.and8 (a:=a0) (b:=(192:UInt8)) rfl rfl)<|Ab (FV.neqN (i:=(a0 &&& (192:UInt8)).toNat) (j:=128) rfl rfl)<|Ag rfl<|Aa<|Am rfl<|AJ hb0 Tryz.func153 rfl rfl ?_
 cases h
 exact hS0.gv
def tb125_4:List (Nat × Nat × Nat):=[(0,4194304,1),(0,8388608,2),(2,16777216,8388608),(5,33554432,20971520),(0,67108864,2),(16,134217728,67108864),(40,268435456,167772160),(127,16,268435456)]
theorem body136:bodyB Tryz.prog 136 = true:=by kernel_rfl
theorem body137:bodyB Tryz.prog 137 = true:=by kernel_rfl
theorem body138:bodyB Tryz.prog 138 = true:=by kernel_rfl
theorem body139:bodyB Tryz.prog 139 = true:=by kernel_rfl
theorem body140:bodyB Tryz.prog 140 = true:=by kernel_rfl
theorem body146:bodyB Tryz.prog 146 = true:=by kernel_rfl
def strings_Trim_l1 (_n:Nat) (g0:List Bool) (c0:ByteArray → Option ByteArray):ByteArray → Option ByteArray
  | b0=>(if 0 < b0.size then (b0.data[0]?).bind fun j0=>(g0[j0.toNat]?).bind fun k0=>(if k0 = true then (scut b0 1 (b0.size:Int)).bind fun d0=>c0 d0 else some b0) else some b0)
def strings_Trim_l2 (_n:Nat) (k0:List Bool) (c0:ByteArray → Option ByteArray):ByteArray → Option ByteArray
  | b0=>(if 0 < b0.size then (chk (((b0.size:Nat):Int) - 1)).bind fun d0=>(sidx b0 d0).bind fun p0=>(k0[p0.toNat]?).bind fun q0=>(if q0 = true then (chk (((b0.size:Nat):Int) - 1)).bind fun g0=>(scut b0 0 g0).bind fun j0=>c0 j0 else some b0) else some b0)
def strings_Trim_l3 (_n:Nat) (a1:ByteArray) (g0:Nat × (List Bool) → Option (ByteArray ⊕ (List Bool))):Nat × (List Bool) → Option (ByteArray ⊕ (List Bool))
  | (b0,c0)=>(if b0 < a1.size then (a1.data[b0]?).bind fun d0=>(if 128 ≤ d0.toNat then (none).map .inl else (c0[d0.toNat]?).bind fun j0=>g0 (b0 + 1,(c0.set d0.toNat true))) else some (.inr c0))
def strings_Trim_l4 (_n:Nat) (g0:List Bool) (c0:ByteArray → Option ByteArray):ByteArray → Option ByteArray
  | b0=>(if 0 < b0.size then (b0.data[0]?).bind fun j0=>(g0[j0.toNat]?).bind fun k0=>(if k0 = true then (scut b0 1 (b0.size:Int)).bind fun d0=>c0 d0 else some b0) else some b0)
def strings_Trim_l5 (_n:Nat) (k0:List Bool) (c0:ByteArray → Option ByteArray):ByteArray → Option ByteArray
  | b0=>(if 0 < b0.size then (chk (((b0.size:Nat):Int) - 1)).bind fun d0=>(sidx b0 d0).bind fun p0=>(k0[p0.toNat]?).bind fun q0=>(if q0 = true then (chk (((b0.size:Nat):Int) - 1)).bind fun g0=>(scut b0 0 g0).bind fun j0=>c0 j0 else some b0) else some b0)
def strings_Trim_l6 (_n:Nat) (a1:ByteArray) (g0:Int × (List Bool) → Option (ByteArray ⊕ (List Bool))):Int × (List Bool) → Option (ByteArray ⊕ (List Bool))
  | (c0,b0)=>(if c0 < ((a1.size:Nat):Int) then (sidx a1 c0).bind fun d0=>(if 128 ≤ d0.toNat then (none).map .inl else (b0[d0.toNat]?).bind fun k0=>(chk (c0 + 1)).bind fun j0=>g0 (j0,(b0.set d0.toNat true))) else some (.inr b0))
def strings_Trim_p (n:Nat) (a0:ByteArray) (a1:ByteArray):Option ByteArray:=
  (if a0 = ⟨#[]⟩ then some a0 else (if a1 = ⟨#[]⟩ then some a0 else (if a1.size = 1 then (a1.data[0]?).bind fun z4=>(if z4.toNat < 128 then (a1.data[0]?).bind fun z8=>(strings_trimRightByte_p n a0 z8).bind fun y9=>(a1.data[0]?).bind fun v0=>(strings_trimLeftByte_p n y9 v0).bind fun u0=>some u0 else thn (loopF (strings_Trim_l3 n a1) n (0,(List.replicate 256 false))) (fun c0=>jn (fun p0=>jn (fun q0=>some q0) (fun g0=>Option.bind (loopF (strings_Trim_l1 n c0) n p0) (g0))) (fun d0=>Option.bind (loopF (strings_Trim_l2 n c0) n a0) (d0)))) else thn (loopF (strings_Trim_l6 n a1) n (0,(List.replicate 256 false))) (fun b0=>jn (fun s0=>jn (fun t0=>some t0) (fun k0=>Option.bind (loopF (strings_Trim_l4 n b0) n s0) (k0))) (fun j0=>Option.bind (loopF (strings_Trim_l5 n b0) n a0) (j0))))))
theorem strings_Trim_c (n:Nat) (L:List Nat) (w:World) (hL:∀ b ∈ L,b < w.heap.size) (a0:ByteArray) (a1:ByteArray)  {r:ByteArray} (h:strings_Trim_p n a0 a1 = some r) :
    Calls Tryz.prog 125 #[.string a0,.string a1] w (Gives w fun _ u=>u = .string r):=by
 unfold strings_Trim_p at h
 have hS0:=AK w
 refine AM Tryz.func125 rfl rfl rfl (fun _ cs0 hb0=>?_)
 refine Ae<|Ag rfl<|Aa<|Ak<|Ae<|Ac rfl<|Ab (FV.eqlS rfl rfl)<|Ac rfl<|Bi (s:=9) rfl h (fun c1 h=>?_) (fun c1 h=>?_)
 refine Af<|Af<|AU rfl rfl<|Aa<|AY rfl<|Ae<|Ac rfl<|Ag rfl<|Aa<|Am rfl<|AJ hb0 Tryz.func125 rfl rfl ?_
 cases h
 exact hS0.gv
 refine Ap (Ai rfl)<|Ap (FV.eqlS rfl rfl)<|AO rfl rfl<|Aa<|AW rfl h (fun c2 h=>?_) (fun c2 h=>?_)
 refine Ae<|Ac rfl<|Ag rfl<|Aa<|Am rfl<|AJ hb0 Tryz.func125 rfl rfl ?_
 cases h
 exact hS0.gv
 refine Ao<|Ak<|Ae<|Ac rfl<|Ab (BK Tryz.underlying9 rfl)<|Ab (BR (i:=a1.size) (j:=1) rfl rfl)<|Ac rfl<|Bi (s:=17) rfl h (fun c3 h=>?_) (fun c3 h=>?_)
 refine Ap (Ai rfl) ?_
 obtain ⟨z4,hz4,h⟩:=bi h
 refine Ap (FV.strAt (k:=0) Tryz.underlying9 rfl rfl rfl hz4)<|Ap (BA (i:=z4.toNat) (j:=128) rfl rfl)<|AU rfl rfl<|Aa<|AW rfl h (fun c5 h=>?_) (fun c5 h=>?_)
 refine Ak<|Bm 8 tb125_4 (by kernel_rfl) (by kernel_rfl) (by kernel_rfl) (fun kt6 kp7=>?_)
 refine Ah 0 1 kt6 rfl kp7 (fun _=>Ai rfl) rfl<|Ah 1 3 kt6 rfl kp7 (fun _=>Ai rfl) rfl ?_
 obtain ⟨z8,hz8,h⟩:=bi h
 refine Ah 2 7 kt6 rfl kp7 (fun _=>FV.strAt (k:=0) Tryz.underlying9 rfl rfl rfl hz8) rfl ?_
 obtain ⟨y9,hy9,h⟩:=bi h
 refine RD.cq 3 15 192 (.string y9) kt6 rfl kp7 body137 rfl (e2 rfl rfl) (fun w9 hw9=>strings_trimRightByte_c n _ w9 (hS0.hL0 hL hw9) a0 z8 hy9) rfl<|Ah 4 31 kt6 rfl kp7 (fun _=>Ai rfl) rfl ?_
 obtain ⟨Q4,u4,h⟩:=bi h
 refine Ah 5 63 kt6 rfl kp7 (fun _=>FV.strAt (k:=0) Tryz.underlying9 rfl rfl rfl u4) rfl ?_
 obtain ⟨P4,t4,h⟩:=bi h
 refine RD.cq 6 127 128 (.string P4) kt6 rfl kp7 body136 rfl (e2 rfl rfl) (fun w9 hw9=>strings_trimLeftByte_c n _ w9 (hS0.hL0 hL hw9) y9 Q4 t4) rfl<|Ah 7 255 kt6 rfl kp7 (fun _=>BP rfl) rfl<|Bc (doneD_ok kt6 (by kernel_rfl))<|Am rfl<|AJ hb0 Tryz.func125 rfl rfl ?_
 cases h
 exact hS0.gv
 refine Ao<|Ak<|Ae<|Ac rfl<|BL (fst:=[]) (cap:=[]) (vs:=[.string a1]) .plain body138 Tryz.func138 rfl rfl rfl rfl (e1 rfl) rfl (fun v5 H1 q6=>?_)
 refine Ae ?_
 have A3:(List.replicate 256 false).length = 256:=List.length_replicate
 refine Az .plain rfl (AX ((List.replicate 256 false).map (fun z9:Bool=>(.bool z9:Value))) hS0) (fun K4 z0 F2 I5=>?_)
 refine Ag rfl<|Aa<|Ak<|Ae<|Ag rfl<|Aa<|AB ?_
 obtain ⟨G6,W3,R1⟩:=thn_in h
 refine Bp (α:=Nat × (List Bool)) (fun ⟨s0,c0⟩=>[(0,.string a1),(2,vP z0),(4,vI ((s0:Nat):Int))]) (fun ⟨s0,c0⟩ p1=>St w p1 [.cells z0 (c0.map (fun z9:Bool=>(.bool z9:Value))) 200]∧Tr K4 [.cells z0 ((List.replicate 256 false).map (fun z9:Bool=>(.bool z9:Value))) 200] p1 [.cells z0 (c0.map (fun z9:Bool=>(.bool z9:Value))) 200]∧c0.length = 256) (fun ⟨s0,c0⟩=>(s0,c0)) (0,(List.replicate 256 false)) W3 ⟨rfl,rfl,rfl,trivial⟩ ⟨F2,AN _ _,A3⟩ ?_
 rintro q5 ⟨s0,c0⟩ p1 D2 ⟨C0,d3,k0⟩ h
 unfold strings_Trim_l3 at h
 try dsimp only at h
 refine Ak<|Ae<|Ac rfl<|Ac rfl<|Ab (BK Tryz.underlying9 rfl)<|Ab (BA (i:=s0) (j:=a1.size) rfl rfl)<|Aa<|AW rfl h (fun v2 h=>?_) (fun v2 h=>?_)
 refine Ao<|Ak<|AB<|Ae<|Ac rfl<|Ac rfl ?_
 obtain ⟨G0,C4,h⟩:=bi h
 refine Ab (FV.strAt (k:=s0) Tryz.underlying9 rfl rfl rfl C4)<|Ag rfl<|Aa<|Ak<|Ae<|Ac rfl<|Ab (FV.geqN (i:=G0.toNat) (j:=128) rfl rfl)<|Aa<|AW rfl h (fun x2 h=>?_) (fun x2 h=>?_)
 refine Ae<|Ab (FV.loadN (cs:=c0.map (fun z9:Bool=>(.bool z9:Value))) (by rw [List.length_map,k0]; kernel_rfl) rfl (C0.memA .hd))<|BG .plain (Acts.storeBig (fun z9:Bool=>(.bool z9:Value)) (m:=256) k0 k0 C0 .hd rfl rfl (by kernel_rfl) (fun _=>rfl)) (fun U6 D1 Y5=>?_)
 refine Ag rfl<|Aa ?_
 have h:=thn_map h R1
 refine Am rfl<|Ay (u:=.tuple #[.agg (c0.map (fun z9:Bool=>(.bool z9:Value))).toArray,.bool false]) H1 Tryz.func138 rfl (.cons (.many (cs:=c0.map (fun z9:Bool=>(.bool z9:Value))) (by rw [List.length_map,k0]; kernel_rfl) rfl (D1.memA .hd)) (.cons (.tmp rfl) .nil)) rfl<|Ac rfl<|Ab (Au rfl rfl)<|Ab (Au rfl rfl) ?_
 have F3:(List.replicate 256 false).length = 256:=List.length_replicate
 refine Az .plain rfl (AX ((List.replicate 256 false).map (fun z9:Bool=>(.bool z9:Value))) D1) (fun V6 t5 V2 Z5=>?_)
 refine BG .plain (Acts.storeBig (fun z9:Bool=>(.bool z9:Value)) (m:=256) F3 k0 V2 .hd rfl rfl (by kernel_rfl) (fun _=>rfl)) (fun W6 G5 b6=>?_)
 refine Ag rfl<|Aa<|Ae<|Ac rfl<|Aa<|BC rfl<|Ao<|Ae<|Ac rfl<|Ac rfl ?_
 cases h
 refine Ao<|Aw<|Ac rfl ?_
 obtain ⟨c7,X0,h⟩:=bi h
 have k6:=mem_elem1 (p:=⟨z0,0,none⟩) (cs:=c0.map (fun z9:Bool=>(.bool z9:Value))) (i:=G0.toNat) (C0.memA .hd) (arr_get0 (fun z9:Bool=>(.bool z9:Value)) X0)
 refine Ab (BN (m:=1) (k:=G0.toNat) (len:=256) (by kernel_rfl) rfl rfl rfl (arr_lt X0 k0)) ?_
 have G3:(c0.set G0.toNat true).length = 256:=by rw [List.length_set]; exact k0
 refine BG .plain (Acts.setBig (fun z9:Bool=>(.bool z9:Value)) (i:=G0.toNat) (x:=true) (m:=256) k0 (arr_lt X0 k0) C0 .hd rfl (addr_at _ _ _) rfl (by kernel_rfl) (fun _=>⟨rfl,rfl⟩)) (fun X6 W2 g3=>?_)
 refine Aa<|AF<|Aw<|Ac rfl<|Ab (Bu (i:=s0) (j:=1) rfl rfl (by omega))<|Ag rfl<|Aa ?_
 exact D2 (s0 + 1,(c0.set G0.toNat true)) _ _ ⟨rfl,rfl,rfl,trivial⟩ ⟨W2,(Tt d3 g3),G3⟩ h
 refine Bd rfl ?_
 have h:=thn_inr h R1
 try dsimp only at h
 refine Ae<|Ab (FV.loadN (cs:=c0.map (fun z9:Bool=>(.bool z9:Value))) (by rw [List.length_map,k0]; kernel_rfl) rfl (C0.memA .hd))<|BG .plain (Acts.storeBig (fun z9:Bool=>(.bool z9:Value)) (m:=256) k0 k0 C0 .hd rfl rfl (by kernel_rfl) (fun _=>rfl)) (fun Y6 E1 c6=>?_)
 refine Ag rfl<|Aa<|Am rfl<|Ay (u:=.tuple #[.agg (c0.map (fun z9:Bool=>(.bool z9:Value))).toArray,.bool true]) H1 Tryz.func138 rfl (.cons (.many (cs:=c0.map (fun z9:Bool=>(.bool z9:Value))) (by rw [List.length_map,k0]; kernel_rfl) rfl (E1.memA .hd)) (.cons (.tmp rfl) .nil)) rfl<|Ac rfl<|Ab (Au rfl rfl)<|Ab (Au rfl rfl) ?_
 have H3:(List.replicate 256 false).length = 256:=List.length_replicate
 refine Az .plain rfl (AX ((List.replicate 256 false).map (fun z9:Bool=>(.bool z9:Value))) E1) (fun Z6 g0 X2 d6=>?_)
 refine BG .plain (Acts.storeBig (fun z9:Bool=>(.bool z9:Value)) (m:=256) H3 k0 X2 .hd rfl rfl (by kernel_rfl) (fun _=>rfl)) (fun Z1 Y2 g6=>?_)
 refine Ag rfl<|Aa<|Ae<|Ac rfl<|Aa<|AY rfl<|Ae<|Ac rfl<|BL (fst:=[]) (cap:=[]) (vs:=[.string a0,vP g0]) .plain body140 Tryz.func140 rfl rfl rfl rfl (e2 rfl rfl) rfl (fun u5 j3 p6=>?_)
 refine Ae<|Ag rfl<|Aa<|Ak<|AB<|MX.joinx (α:=ByteArray) (fun t0=>[(0,.string t0)]) (fun t0 H0=>St w H0 [.cells g0 (c0.map (fun z9:Bool=>(.bool z9:Value))) 200]∧Tr Z1 [.cells g0 (c0.map (fun z9:Bool=>(.bool z9:Value))) 200,.cells z0 (c0.map (fun z9:Bool=>(.bool z9:Value))) 200] H0 [.cells g0 (c0.map (fun z9:Bool=>(.bool z9:Value))) 200]) (fun t0=>t0) (id:=0) rfl h ?_ ?_
 rintro t0 H0 ⟨E2,H5⟩ h
 try dsimp only at h
 refine Ae<|Ac rfl<|Ag rfl<|Aa<|Am rfl<|Ay (u:=.string t0) j3 Tryz.func140 rfl (.cons (.tmp rfl) .nil) rfl<|BL (fst:=[]) (cap:=[]) (vs:=[.string t0,vP g0]) .plain body139 Tryz.func139 rfl rfl rfl rfl (e2 rfl rfl) rfl (fun x5 k3 s6=>?_)
 refine Ae<|Ag rfl<|Aa<|Ak<|AB<|MX.joinx (α:=ByteArray) (fun D0=>[(0,.string D0)]) (fun D0 Y0=>St w Y0 [.cells g0 (c0.map (fun z9:Bool=>(.bool z9:Value))) 200]∧Tr H0 [.cells g0 (c0.map (fun z9:Bool=>(.bool z9:Value))) 200] Y0 [.cells g0 (c0.map (fun z9:Bool=>(.bool z9:Value))) 200]) (fun D0=>D0) (id:=0) rfl h ?_ ?_
 rintro D0 Y0 ⟨G2,J5⟩ h
 try dsimp only at h
 refine Ae<|Ac rfl<|Ag rfl<|Aa<|Am rfl<|Ay (u:=.string D0) k3 Tryz.func139 rfl (.cons (.tmp rfl) .nil) rfl<|Ag rfl<|Aa<|Am rfl<|AJ hb0 Tryz.func125 rfl rfl ?_
 cases h
 exact G2.gv
 intro Y4 y1 h
 try dsimp only at h
 obtain ⟨B6,P3,J1⟩:=bind_in2 h
 refine Bp (α:=ByteArray) (fun u0=>[(0,.string u0),(1,vP g0)]) (fun u0 Z0=>St w Z0 [.cells g0 (c0.map (fun z9:Bool=>(.bool z9:Value))) 200]∧Tr H0 [.cells g0 (c0.map (fun z9:Bool=>(.bool z9:Value))) 200] Z0 [.cells g0 (c0.map (fun z9:Bool=>(.bool z9:Value))) 200]) (fun u0=>u0) t0 P3 ⟨rfl,rfl,trivial⟩ ⟨E2,AN _ _⟩ ?_
 rintro Z4 u0 Z0 y2 ⟨J0,Q0⟩ h
 unfold strings_Trim_l1 at h
 try dsimp only at h
 refine Ak<|Ae<|Ac rfl<|Ab (BK Tryz.underlying9 rfl)<|Ab (FV.gtrN (i:=u0.size) (j:=0) rfl rfl)<|Aa<|AW rfl h (fun b2 h=>?_) (fun b2 h=>?_)
 refine Ao<|AB<|Ak<|Ae<|Ac rfl<|Ac rfl ?_
 obtain ⟨q1,v4,h⟩:=bi h
 refine Ab (FV.strAt (k:=0) Tryz.underlying9 rfl rfl rfl v4)<|BL (fst:=[]) (cap:=[]) (vs:=[vP g0,.int .u8 (q1.toNat:Int)]) .plain body146 Tryz.func146 rfl rfl rfl rfl (e2 rfl rfl) rfl (fun y5 p3 t6=>?_)
 refine Ae<|Ag rfl<|Aa<|Ae<|Ac rfl<|Ac rfl<|Ab (Bs rfl) ?_
 obtain ⟨R4,U1,h⟩:=bi h
 have I3:=mem_elem1 (p:=⟨g0,0,none⟩) (cs:=c0.map (fun z9:Bool=>(.bool z9:Value))) (i:=q1.toNat) (J0.memA .hd) (arr_get0 (fun z9:Bool=>(.bool z9:Value)) U1)
 refine Ab (BN (m:=1) (k:=q1.toNat) (len:=256) (by kernel_rfl) rfl rfl rfl (arr_lt U1 k0))<|AS rfl (I3 0 _ rfl)<|Ag rfl<|Aa<|Am rfl<|Ay (u:=.bool R4) p3 Tryz.func146 rfl (.cons (.tmp rfl) .nil) rfl<|Ab (Ba rfl)<|Aa<|BS rfl h (fun d2 h=>?_) (fun d2 h=>?_)
 refine Ao<|Aw<|Ac rfl ?_
 obtain ⟨D4,X3,h⟩:=bi h
 refine Ab (FV.strCut X3 Tryz.underlying9 rfl ⟨_,rfl⟩ rfl)<|Ag rfl<|Aa<|AF ?_
 exact y2 D4 _ _ ⟨rfl,rfl,trivial⟩ ⟨J0,Q0⟩ h
 refine Bd rfl ?_
 have h:=J1 _ h
 try dsimp only at h
 exact y1 u0 _ _ ⟨rfl,trivial⟩ ⟨J0,Q0⟩ h
 refine Bd rfl ?_
 have h:=J1 _ h
 try dsimp only at h
 exact y1 u0 _ _ ⟨rfl,trivial⟩ ⟨J0,Q0⟩ h
 intro X4 x1 h
 try dsimp only at h
 obtain ⟨H2,F1⟩:=AD Y2 (.one .hd .done)
 obtain ⟨C6,Q3,K1⟩:=bind_in2 h
 refine Bp (α:=ByteArray) (fun p0=>[(0,.string p0),(1,vP g0)]) (fun p0 b1=>St w b1 [.cells g0 (c0.map (fun z9:Bool=>(.bool z9:Value))) 200]∧Tr Z1 [.cells g0 (c0.map (fun z9:Bool=>(.bool z9:Value))) 200] b1 [.cells g0 (c0.map (fun z9:Bool=>(.bool z9:Value))) 200]) (fun p0=>p0) a0 Q3 ⟨rfl,rfl,trivial⟩ ⟨H2,AN _ _⟩ ?_
 rintro b5 p0 b1 z2 ⟨K0,R0⟩ h
 unfold strings_Trim_l2 at h
 try dsimp only at h
 refine Ak<|Ae<|Ac rfl<|Ab (BK Tryz.underlying9 rfl)<|Ab (FV.gtrN (i:=p0.size) (j:=0) rfl rfl)<|Aa<|AW rfl h (fun g2 h=>?_) (fun g2 h=>?_)
 refine Ao<|AB<|Ak<|Ae<|Ac rfl<|Ac rfl<|Ac rfl<|Ab (BK Tryz.underlying9 rfl) ?_
 obtain ⟨E4,Y3,h⟩:=bi h
 refine Ab (FV.subc (i:=((p0.size:Nat):Int)) (j:=1) rfl rfl Y3) ?_
 obtain ⟨s1,x4,h⟩:=bi h
 obtain ⟨x3,p4⟩:=sidx_in x4
 refine Ab (FV.strAt (k:=E4.toNat) Tryz.underlying9 rfl rfl x3 p4)<|BL (fst:=[]) (cap:=[]) (vs:=[vP g0,.int .u8 (s1.toNat:Int)]) .plain body146 Tryz.func146 rfl rfl rfl rfl (e2 rfl rfl) rfl (fun z5 q3 u6=>?_)
 refine Ae<|Ag rfl<|Aa<|Ae<|Ac rfl<|Ac rfl<|Ab (Bs rfl) ?_
 obtain ⟨U4,V1,h⟩:=bi h
 have J3:=mem_elem1 (p:=⟨g0,0,none⟩) (cs:=c0.map (fun z9:Bool=>(.bool z9:Value))) (i:=s1.toNat) (K0.memA .hd) (arr_get0 (fun z9:Bool=>(.bool z9:Value)) V1)
 refine Ab (BN (m:=1) (k:=s1.toNat) (len:=256) (by kernel_rfl) rfl rfl rfl (arr_lt V1 k0))<|AS rfl (J3 0 _ rfl)<|Ag rfl<|Aa<|Am rfl<|Ay (u:=.bool U4) q3 Tryz.func146 rfl (.cons (.tmp rfl) .nil) rfl<|Ab (Ba rfl)<|Aa<|BS rfl h (fun j2 h=>?_) (fun j2 h=>?_)
 refine Ao<|Aw<|Ac rfl<|Ac rfl<|Ab (BK Tryz.underlying9 rfl) ?_
 obtain ⟨H6,Z3,h⟩:=bi h
 refine Ab (FV.subc (i:=((p0.size:Nat):Int)) (j:=1) rfl rfl Z3) ?_
 obtain ⟨F4,b4,h⟩:=bi h
 refine Ab (FV.strCut b4 Tryz.underlying9 rfl rfl ⟨_,rfl⟩)<|Ag rfl<|Aa<|AF ?_
 exact z2 F4 _ _ ⟨rfl,rfl,trivial⟩ ⟨K0,R0⟩ h
 refine Bd rfl ?_
 have h:=K1 _ h
 try dsimp only at h
 exact x1 p0 _ _ ⟨rfl,trivial⟩ ⟨K0,(Tt F1 R0)⟩ h
 refine Bd rfl ?_
 have h:=K1 _ h
 try dsimp only at h
 exact x1 p0 _ _ ⟨rfl,trivial⟩ ⟨K0,(Tt F1 R0)⟩ h
 refine Af<|Af<|Af<|AO rfl rfl<|Aa<|BC rfl<|Ao<|Ak<|Ae<|Ac rfl<|BL (fst:=[]) (cap:=[]) (vs:=[.string a1]) .plain body138 Tryz.func138 rfl rfl rfl rfl (e1 rfl) rfl (fun A5 I1 v6=>?_)
 refine Ae ?_
 have B3:(List.replicate 256 false).length = 256:=List.length_replicate
 refine Az .plain rfl (AX ((List.replicate 256 false).map (fun z9:Bool=>(.bool z9:Value))) hS0) (fun M4 A0 I2 K5=>?_)
 refine Ag rfl<|Aa<|Ak<|Ae<|Ag rfl<|Aa<|AB ?_
 obtain ⟨D6,R3,M1⟩:=thn_in h
 refine Bp (α:=Int × (List Bool)) (fun ⟨y0,b0⟩=>[(0,.string a1),(2,vP A0),(4,vI y0)]) (fun ⟨y0,b0⟩ d1=>St w d1 [.cells A0 (b0.map (fun z9:Bool=>(.bool z9:Value))) 200]∧Tr M4 [.cells A0 ((List.replicate 256 false).map (fun z9:Bool=>(.bool z9:Value))) 200] d1 [.cells A0 (b0.map (fun z9:Bool=>(.bool z9:Value))) 200]∧b0.length = 256) (fun ⟨y0,b0⟩=>(y0,b0)) (0,(List.replicate 256 false)) R3 ⟨rfl,rfl,rfl,trivial⟩ ⟨I2,AN _ _,B3⟩ ?_
 rintro d5 ⟨y0,b0⟩ d1 A2 ⟨B0,Z2,j0⟩ h
 unfold strings_Trim_l6 at h
 try dsimp only at h
 refine Ak<|Ae<|Ac rfl<|Ac rfl<|Ab (BK Tryz.underlying9 rfl)<|Ab (BF (i:=y0) (j:=((a1.size:Nat):Int)) rfl rfl)<|Aa<|AW rfl h (fun k2 h=>?_) (fun k2 h=>?_)
 refine Ao<|Ak<|AB<|Ae<|Ac rfl<|Ac rfl ?_
 obtain ⟨F0,y4,h⟩:=bi h
 obtain ⟨y3,q4⟩:=sidx_in y4
 refine Ab (FV.strAt (k:=y0.toNat) Tryz.underlying9 rfl rfl y3 q4)<|Ag rfl<|Aa<|Ak<|Ae<|Ac rfl<|Ab (FV.geqN (i:=F0.toNat) (j:=128) rfl rfl)<|Aa<|AW rfl h (fun p2 h=>?_) (fun p2 h=>?_)
 refine Ae<|Ab (FV.loadN (cs:=b0.map (fun z9:Bool=>(.bool z9:Value))) (by rw [List.length_map,j0]; kernel_rfl) rfl (B0.memA .hd))<|BG .plain (Acts.storeBig (fun z9:Bool=>(.bool z9:Value)) (m:=256) j0 j0 B0 .hd rfl rfl (by kernel_rfl) (fun _=>rfl)) (fun J6 B1 M5=>?_)
 refine Ag rfl<|Aa ?_
 have h:=thn_map h M1
 refine Am rfl<|Ay (u:=.tuple #[.agg (b0.map (fun z9:Bool=>(.bool z9:Value))).toArray,.bool false]) I1 Tryz.func138 rfl (.cons (.many (cs:=b0.map (fun z9:Bool=>(.bool z9:Value))) (by rw [List.length_map,j0]; kernel_rfl) rfl (B1.memA .hd)) (.cons (.tmp rfl) .nil)) rfl<|Ac rfl<|Ab (Au rfl rfl)<|Ab (Au rfl rfl) ?_
 have C3:(List.replicate 256 false).length = 256:=List.length_replicate
 refine Az .plain rfl (AX ((List.replicate 256 false).map (fun z9:Bool=>(.bool z9:Value))) B1) (fun K6 s5 J2 P5=>?_)
 refine BG .plain (Acts.storeBig (fun z9:Bool=>(.bool z9:Value)) (m:=256) C3 j0 J2 .hd rfl rfl (by kernel_rfl) (fun _=>rfl)) (fun M6 F5 Q5=>?_)
 refine Ag rfl<|Aa<|Ae<|Ac rfl<|Aa<|BC rfl<|Ao<|Ae<|Ac rfl<|Ac rfl ?_
 cases h
 refine Ao<|Aw<|Ac rfl ?_
 obtain ⟨b7,W0,h⟩:=bi h
 have j6:=mem_elem1 (p:=⟨A0,0,none⟩) (cs:=b0.map (fun z9:Bool=>(.bool z9:Value))) (i:=F0.toNat) (B0.memA .hd) (arr_get0 (fun z9:Bool=>(.bool z9:Value)) W0)
 refine Ab (BN (m:=1) (k:=F0.toNat) (len:=256) (by kernel_rfl) rfl rfl rfl (arr_lt W0 j0)) ?_
 have D3:(b0.set F0.toNat true).length = 256:=by rw [List.length_set]; exact j0
 refine BG .plain (Acts.setBig (fun z9:Bool=>(.bool z9:Value)) (i:=F0.toNat) (x:=true) (m:=256) j0 (arr_lt W0 j0) B0 .hd rfl (addr_at _ _ _) rfl (by kernel_rfl) (fun _=>⟨rfl,rfl⟩)) (fun P6 K2 b3=>?_)
 refine Aa<|AF<|Aw<|Ac rfl ?_
 obtain ⟨G4,c4,h⟩:=bi h
 refine Ab (BT (i:=y0) (j:=1) rfl rfl c4)<|Ag rfl<|Aa ?_
 exact A2 (G4,(b0.set F0.toNat true)) _ _ ⟨rfl,rfl,rfl,trivial⟩ ⟨K2,(Tt Z2 b3),D3⟩ h
 refine Bd rfl ?_
 have h:=thn_inr h M1
 try dsimp only at h
 refine Ae<|Ab (FV.loadN (cs:=b0.map (fun z9:Bool=>(.bool z9:Value))) (by rw [List.length_map,j0]; kernel_rfl) rfl (B0.memA .hd))<|BG .plain (Acts.storeBig (fun z9:Bool=>(.bool z9:Value)) (m:=256) j0 j0 B0 .hd rfl rfl (by kernel_rfl) (fun _=>rfl)) (fun Q6 C1 R5=>?_)
 refine Ag rfl<|Aa<|Am rfl<|Ay (u:=.tuple #[.agg (b0.map (fun z9:Bool=>(.bool z9:Value))).toArray,.bool true]) I1 Tryz.func138 rfl (.cons (.many (cs:=b0.map (fun z9:Bool=>(.bool z9:Value))) (by rw [List.length_map,j0]; kernel_rfl) rfl (C1.memA .hd)) (.cons (.tmp rfl) .nil)) rfl<|Ac rfl<|Ab (Au rfl rfl)<|Ab (Au rfl rfl) ?_
 have E3:(List.replicate 256 false).length = 256:=List.length_replicate
 refine Az .plain rfl (AX ((List.replicate 256 false).map (fun z9:Bool=>(.bool z9:Value))) C1) (fun R6 d0 M2 U5=>?_)
 refine BG .plain (Acts.storeBig (fun z9:Bool=>(.bool z9:Value)) (m:=256) E3 j0 M2 .hd rfl rfl (by kernel_rfl) (fun _=>rfl)) (fun Y1 P2 V5=>?_)
 refine Ag rfl<|Aa<|Ae<|Ac rfl<|Aa<|AY rfl<|Ae<|Ac rfl<|BL (fst:=[]) (cap:=[]) (vs:=[.string a0,vP d0]) .plain body140 Tryz.func140 rfl rfl rfl rfl (e2 rfl rfl) rfl (fun B5 s3 x6=>?_)
 refine Ae<|Ag rfl<|Aa<|Ak<|AB<|MX.joinx (α:=ByteArray) (fun v0=>[(0,.string v0)]) (fun v0 I0=>St w I0 [.cells d0 (b0.map (fun z9:Bool=>(.bool z9:Value))) 200]∧Tr Y1 [.cells d0 (b0.map (fun z9:Bool=>(.bool z9:Value))) 200,.cells A0 (b0.map (fun z9:Bool=>(.bool z9:Value))) 200] I0 [.cells d0 (b0.map (fun z9:Bool=>(.bool z9:Value))) 200]) (fun v0=>v0) (id:=0) rfl h ?_ ?_
 rintro v0 I0 ⟨Q2,W5⟩ h
 try dsimp only at h
 refine Ae<|Ac rfl<|Ag rfl<|Aa<|Am rfl<|Ay (u:=.string v0) s3 Tryz.func140 rfl (.cons (.tmp rfl) .nil) rfl<|BL (fst:=[]) (cap:=[]) (vs:=[.string v0,vP d0]) .plain body139 Tryz.func139 rfl rfl rfl rfl (e2 rfl rfl) rfl (fun C5 t3 y6=>?_)
 refine Ae<|Ag rfl<|Aa<|Ak<|AB<|MX.joinx (α:=ByteArray) (fun E0=>[(0,.string E0)]) (fun E0 g1=>St w g1 [.cells d0 (b0.map (fun z9:Bool=>(.bool z9:Value))) 200]∧Tr I0 [.cells d0 (b0.map (fun z9:Bool=>(.bool z9:Value))) 200] g1 [.cells d0 (b0.map (fun z9:Bool=>(.bool z9:Value))) 200]) (fun E0=>E0) (id:=0) rfl h ?_ ?_
 rintro E0 g1 ⟨R2,X5⟩ h
 try dsimp only at h
 refine Ae<|Ac rfl<|Ag rfl<|Aa<|Am rfl<|Ay (u:=.string E0) t3 Tryz.func139 rfl (.cons (.tmp rfl) .nil) rfl<|Ag rfl<|Aa<|Am rfl<|AJ hb0 Tryz.func125 rfl rfl ?_
 cases h
 exact R2.gv
 intro j5 A1 h
 try dsimp only at h
 obtain ⟨E6,U3,P1⟩:=bind_in2 h
 refine Bp (α:=ByteArray) (fun x0=>[(0,.string x0),(1,vP d0)]) (fun x0 j1=>St w j1 [.cells d0 (b0.map (fun z9:Bool=>(.bool z9:Value))) 200]∧Tr I0 [.cells d0 (b0.map (fun z9:Bool=>(.bool z9:Value))) 200] j1 [.cells d0 (b0.map (fun z9:Bool=>(.bool z9:Value))) 200]) (fun x0=>x0) v0 U3 ⟨rfl,rfl,trivial⟩ ⟨Q2,AN _ _⟩ ?_
 rintro k5 x0 j1 B2 ⟨M0,U0⟩ h
 unfold strings_Trim_l4 at h
 try dsimp only at h
 refine Ak<|Ae<|Ac rfl<|Ab (BK Tryz.underlying9 rfl)<|Ab (FV.gtrN (i:=x0.size) (j:=0) rfl rfl)<|Aa<|AW rfl h (fun q2 h=>?_) (fun q2 h=>?_)
 refine Ao<|AB<|Ak<|Ae<|Ac rfl<|Ac rfl ?_
 obtain ⟨u1,A4,h⟩:=bi h
 refine Ab (FV.strAt (k:=0) Tryz.underlying9 rfl rfl rfl A4)<|BL (fst:=[]) (cap:=[]) (vs:=[vP d0,.int .u8 (u1.toNat:Int)]) .plain body146 Tryz.func146 rfl rfl rfl rfl (e2 rfl rfl) rfl (fun D5 u3 z6=>?_)
 refine Ae<|Ag rfl<|Aa<|Ae<|Ac rfl<|Ac rfl<|Ab (Bs rfl) ?_
 obtain ⟨V4,W1,h⟩:=bi h
 have K3:=mem_elem1 (p:=⟨d0,0,none⟩) (cs:=b0.map (fun z9:Bool=>(.bool z9:Value))) (i:=u1.toNat) (M0.memA .hd) (arr_get0 (fun z9:Bool=>(.bool z9:Value)) W1)
 refine Ab (BN (m:=1) (k:=u1.toNat) (len:=256) (by kernel_rfl) rfl rfl rfl (arr_lt W1 j0))<|AS rfl (K3 0 _ rfl)<|Ag rfl<|Aa<|Am rfl<|Ay (u:=.bool V4) u3 Tryz.func146 rfl (.cons (.tmp rfl) .nil) rfl<|Ab (Ba rfl)<|Aa<|BS rfl h (fun s2 h=>?_) (fun s2 h=>?_)
 refine Ao<|Aw<|Ac rfl ?_
 obtain ⟨H4,d4,h⟩:=bi h
 refine Ab (FV.strCut d4 Tryz.underlying9 rfl ⟨_,rfl⟩ rfl)<|Ag rfl<|Aa<|AF ?_
 exact B2 H4 _ _ ⟨rfl,rfl,trivial⟩ ⟨M0,U0⟩ h
 refine Bd rfl ?_
 have h:=P1 _ h
 try dsimp only at h
 exact A1 x0 _ _ ⟨rfl,trivial⟩ ⟨M0,U0⟩ h
 refine Bd rfl ?_
 have h:=P1 _ h
 try dsimp only at h
 exact A1 x0 _ _ ⟨rfl,trivial⟩ ⟨M0,U0⟩ h
 intro g5 z1 h
 try dsimp only at h
 obtain ⟨U2,G1⟩:=AD P2 (.one .hd .done)
 obtain ⟨F6,V3,Q1⟩:=bind_in2 h
 refine Bp (α:=ByteArray) (fun q0=>[(0,.string q0),(1,vP d0)]) (fun q0 k1=>St w k1 [.cells d0 (b0.map (fun z9:Bool=>(.bool z9:Value))) 200]∧Tr Y1 [.cells d0 (b0.map (fun z9:Bool=>(.bool z9:Value))) 200] k1 [.cells d0 (b0.map (fun z9:Bool=>(.bool z9:Value))) 200]) (fun q0=>q0) a0 V3 ⟨rfl,rfl,trivial⟩ ⟨U2,AN _ _⟩ ?_
 rintro p5 q0 k1 C2 ⟨P0,V0⟩ h
 unfold strings_Trim_l5 at h
 try dsimp only at h
 refine Ak<|Ae<|Ac rfl<|Ab (BK Tryz.underlying9 rfl)<|Ab (FV.gtrN (i:=q0.size) (j:=0) rfl rfl)<|Aa<|AW rfl h (fun t2 h=>?_) (fun t2 h=>?_)
 refine Ao<|AB<|Ak<|Ae<|Ac rfl<|Ac rfl<|Ac rfl<|Ab (BK Tryz.underlying9 rfl) ?_
 obtain ⟨I4,g4,h⟩:=bi h
 refine Ab (FV.subc (i:=((q0.size:Nat):Int)) (j:=1) rfl rfl g4) ?_
 obtain ⟨v1,B4,h⟩:=bi h
 obtain ⟨z3,s4⟩:=sidx_in B4
 refine Ab (FV.strAt (k:=I4.toNat) Tryz.underlying9 rfl rfl z3 s4)<|BL (fst:=[]) (cap:=[]) (vs:=[vP d0,.int .u8 (v1.toNat:Int)]) .plain body146 Tryz.func146 rfl rfl rfl rfl (e2 rfl rfl) rfl (fun E5 v3 A6=>?_)
 refine Ae<|Ag rfl<|Aa<|Ae<|Ac rfl<|Ac rfl<|Ab (Bs rfl) ?_
 obtain ⟨W4,X1,h⟩:=bi h
 have M3:=mem_elem1 (p:=⟨d0,0,none⟩) (cs:=b0.map (fun z9:Bool=>(.bool z9:Value))) (i:=v1.toNat) (P0.memA .hd) (arr_get0 (fun z9:Bool=>(.bool z9:Value)) X1)
 refine Ab (BN (m:=1) (k:=v1.toNat) (len:=256) (by kernel_rfl) rfl rfl rfl (arr_lt X1 j0))<|AS rfl (M3 0 _ rfl)<|Ag rfl<|Aa<|Am rfl<|Ay (u:=.bool W4) v3 Tryz.func146 rfl (.cons (.tmp rfl) .nil) rfl<|Ab (Ba rfl)<|Aa<|BS rfl h (fun u2 h=>?_) (fun u2 h=>?_)
 refine Ao<|Aw<|Ac rfl<|Ac rfl<|Ab (BK Tryz.underlying9 rfl) ?_
 obtain ⟨I6,j4,h⟩:=bi h
 refine Ab (FV.subc (i:=((q0.size:Nat):Int)) (j:=1) rfl rfl j4) ?_
 obtain ⟨J4,k4,h⟩:=bi h
 refine Ab (FV.strCut k4 Tryz.underlying9 rfl rfl ⟨_,rfl⟩)<|Ag rfl<|Aa<|AF ?_
 exact C2 J4 _ _ ⟨rfl,rfl,trivial⟩ ⟨P0,V0⟩ h
 refine Bd rfl ?_
 have h:=Q1 _ h
 try dsimp only at h
 exact z1 q0 _ _ ⟨rfl,trivial⟩ ⟨P0,(Tt G1 V0)⟩ h
 refine Bd rfl ?_
 have h:=Q1 _ h
 try dsimp only at h
 exact z1 q0 _ _ ⟨rfl,trivial⟩ ⟨P0,(Tt G1 V0)⟩ h
def units_within_1_p (_n:Nat) (a0:Int) (a1:Int):Option Bool:=
  (if a0 < 0 then some true else some (decide (a1 < a0)))
theorem units_within_1_c (n:Nat) (L:List Nat) (w:World) (_hL:∀ b ∈ L,b < w.heap.size) (a0:Int) (a1:Int) {p1:Nat} (m1:∀ j9 v9,([vI a1]:List Value)[j9]? = some v9 → w.cell? ((⟨p1,0,none⟩:Addr).add j9) = some v9)  {r:Bool} (h:units_within_1_p n a0 a1 = some r) :
    Calls Tryz.prog 144 #[vI a0,.pointer (some ⟨p1,0,none⟩)] w (Gives w fun _ u=>u = .bool r):=by
 unfold units_within_1_p at h
 have hS0:=AK w
 refine AM Tryz.func144 rfl rfl rfl (fun _ cs0 hb0=>?_)
 refine Ae<|Ag rfl<|Aa<|Ae<|Ac rfl<|Ab (BF (i:=a0) (j:=0) rfl rfl)<|Ac rfl<|Bi (s:=6) rfl h (fun c1 h=>?_) (fun c1 h=>?_)
 refine Af<|Af<|Af<|AU rfl rfl<|Ag rfl<|Aa<|Am rfl<|AJ hb0 Tryz.func144 rfl rfl ?_
 cases h
 exact hS0.gv
 refine Ap (Ai rfl)<|Ap (AA rfl ((fun j9 v9 h9=>hS0.ag.cell0 (m1 j9 v9 h9)) 0 _ rfl))<|Ap (FV.gtr (i:=a0) (j:=a1) rfl rfl)<|AO rfl rfl<|Ag rfl<|Aa<|Am rfl<|AJ hb0 Tryz.func144 rfl rfl ?_
 cases h
 exact hS0.gv
theorem body143:bodyB Tryz.prog 143 = true:=by kernel_rfl
theorem body144:bodyB Tryz.prog 144 = true:=by kernel_rfl
theorem body150:bodyB Tryz.prog 150 = true:=by kernel_rfl
def units_within_l1 (n:Nat) (a0:List Int) (a2:Int) (b0:Nat → Option (Bool ⊕ Unit)):Nat → Option (Bool ⊕ Unit)
  | i32=>(if i32 < a0.length then (a0[i32]?).bind fun c0=>(units_within_1_p n c0 a2).bind fun d0=>(if d0 = true then some (.inl (!(decide (0 ≤ i32)))) else b0 (i32 + 1)) else some (.inr ()))
def units_within_p (n:Nat) (a0:List Int) (a1:Int) (a2:Int):Option Bool:=
  (if ((a0.length:Nat):Int) = a1 then thn (loopF (units_within_l1 n a0 a2) n 0) (fun _=>some (!(decide (0 ≤ (-1))))) else some false)
theorem units_within_c (n:Nat) (L:List Nat) (w:World) (hL:∀ b ∈ L,b < w.heap.size) (a0:List Int) {v0_0:Value} (h0_0:Rep.R w L [v0_0] a0) (a1:Int) (a2:Int)  {r:Bool} (h:units_within_p n a0 a1 a2 = some r) :
    Calls Tryz.prog 126 #[v0_0,vI a1,vI a2] w (Gives w fun _ u=>u = .bool r):=by
 unfold units_within_p at h
 have hS0:=AK w
 refine AM Tryz.func126 rfl rfl rfl (fun _ cs0 hb0=>?_)
 refine Ae<|Az .plain rfl (AI hS0 rfl rfl) (fun w2 b5 hS3 hT4=>?_)
 refine Ag rfl<|Aa<|Ae<|Ac rfl ?_
 have hm7:=Ax h0_0 hS3
 have hl6:a0.length ≤ 281474976710656:=AZ hm7
 refine Ab (Bj (xs:=a0) Tryz.underlying42 rfl hm7)<|Ac rfl<|Ab (FV.eql (i:=((a0.length:Nat):Int)) (j:=a1) rfl rfl)<|Ac rfl<|Bi (s:=11) rfl h (fun c8 h=>?_) (fun c8 h=>?_)
 refine Ap (Ai rfl)<|Ap (FV.makeFunc (vs:=[]) (us:=[vP b5]) evs_nil (e1 rfl))<|BL (fst:=[]) (cap:=[]) (vs:=[v0_0,.func (.func 144) #[] #[vP b5]]) (.yes rfl rfl) body143 Tryz.func143 rfl rfl rfl rfl (e2 rfl rfl) rfl (fun I0 hb9 K0=>?_)
 refine Ae<|Ag rfl<|Aa<|Ae<|Ac rfl<|Ac rfl<|BL (fst:=[]) (cap:=[]) (vs:=[v0_0,.func (.func 144) #[] #[vP b5]]) .plain body150 Tryz.func150 rfl rfl rfl rfl (e2 rfl rfl) rfl (fun J0 d0 M0=>?_)
 refine Ae<|Ag rfl<|Aa<|Ak<|Ae<|Ac rfl<|Ab (Bj (xs:=a0) Tryz.underlying42 rfl hm7)<|Ac rfl<|Aa<|AB ?_
 obtain ⟨P0,A0,g0⟩:=thn_in h
 refine Bp (α:=Nat) (fun i32=>[(0,v0_0),(1,.func (.func 144) #[] #[vP b5]),(7,vI ((a0.length:Nat):Int)),(8,vI ((i32:Nat):Int))]) (fun i32 c0=>St w c0 [.cells b5 [vI a2] 3]∧Tr w2 [.cells b5 [vI a2] 3] c0 [.cells b5 [vI a2] 3]) (fun i32=>i32) 0 A0 ⟨rfl,rfl,rfl,rfl,trivial⟩ ⟨hS3,AN _ _⟩ ?_
 rintro G0 i32 c0 s0 ⟨b0,t0⟩ h
 unfold units_within_l1 at h
 try dsimp only at h
 refine Ae<|Ab (BA (i:=i32) (j:=a0.length) rfl rfl)<|Aa<|Ak<|AW rfl h (fun k0 h=>?_) (fun k0 h=>?_)
 refine Ao<|Ak<|AB<|Ae<|Ac rfl<|Ag rfl<|Aa<|Ae<|Ac rfl<|Ac rfl<|Ac rfl ?_
 obtain ⟨j0,C0,h⟩:=bi h
 have z0:=Ax h0_0 b0
 obtain ⟨F0,H0,u0,x0,q0,B0,y0⟩:=Bb z0 C0
 have v0:q0 = [vI j0]:=B0; subst v0
 refine Ab (Be 1 i32 rfl u0 rfl rfl x0)<|AS rfl (y0 0 _ rfl) ?_
 obtain ⟨E0,D0,h⟩:=bi h
 refine RG.callq' (v:=.bool E0) (fst:=[]) (cap:=[vP b5]) .plain body144 rfl (e1 rfl) (fun w9 hw9=>units_within_1_c n _ w9 (b0.hL0 hL hw9) j0 a2 (fun j9 v9 h9=>hw9.cell0 ((b0.memA .hd) j9 v9 h9)) D0) rfl<|Aa<|MX.ifb rfl h (fun p0 h=>?_) (fun p0 h=>?_)
 refine Ae<|Ac rfl<|Ag rfl<|Aa ?_
 have h:=thn_inl h g0
 refine Am rfl<|Ay (u:=vI ((i32:Nat):Int)) d0 Tryz.func150 rfl (.cons (.tmp rfl) .nil) rfl<|Ab (FV.geqN (i:=i32) (j:=0) rfl rfl)<|Ag rfl<|Aa<|Am rfl<|Ay (u:=.bool (decide (0 ≤ i32))) hb9 Tryz.func143 rfl (.cons (.tmp rfl) .nil) rfl<|Ap (Ba rfl)<|AU rfl rfl<|Ag rfl<|Aa<|Am rfl<|AJ hb0 Tryz.func126 rfl rfl ?_
 cases h
 exact b0.gv
 refine Ao<|AF<|Aw<|Ab (Bu (i:=i32) (j:=1) rfl rfl (by omega))<|Ac rfl<|Aa ?_
 exact s0 (i32 + 1) _ _ ⟨rfl,rfl,rfl,rfl,trivial⟩ ⟨b0,t0⟩ h
 refine Bd rfl ?_
 have h:=thn_inr h g0
 try dsimp only at h
 refine Ae<|Ag rfl<|Aa<|Am rfl<|Ay (u:=vI (-1)) d0 Tryz.func150 rfl (.cons (.tmp rfl) .nil) rfl<|Ab (FV.geq (i:=(-1)) (j:=0) rfl rfl)<|Ag rfl<|Aa<|Am rfl<|Ay (u:=.bool (decide (0 ≤ (-1)))) hb9 Tryz.func143 rfl (.cons (.tmp rfl) .nil) rfl<|Ap (Ba rfl)<|AU rfl rfl<|Ag rfl<|Aa<|Am rfl<|AJ hb0 Tryz.func126 rfl rfl ?_
 cases h
 exact b0.gv
 refine Af<|Af<|Af<|Af<|AO rfl rfl<|Ag rfl<|Aa<|Am rfl<|AJ hb0 Tryz.func126 rfl rfl ?_
 cases h
 exact hS3.gv
structure TUnit where
  fName:ByteArray
  fPeople:Int
  fGroups:List Int
  fVotes:List Int
  fParents:List Int
  fWater:Bool
  deriving DecidableEq
instance:Rep TUnit:=Rep.via (β:=ByteArray × Int × (List Int) × (List Int) × (List Int) × Bool) fun x=>(x.fName,x.fPeople,x.fGroups,x.fVotes,x.fParents,x.fWater)
structure TRoll where
  fGroups:Int
  fParties:Int
  fLevels:Int
  fUnits:List TUnit
  deriving DecidableEq
instance:Rep TRoll:=Rep.via (β:=Int × Int × Int × (List TUnit)) fun x=>(x.fGroups,x.fParties,x.fLevels,x.fUnits)
def tb105_4:List (Nat × Nat × Nat):=[(0,512,8),(1,1024,512),(2,2048,1024),(0,4096,8),(8,8192,4096),(16,16384,8192),(32,32768,16384),(0,65536,8),(128,131072,65536),(256,262144,131072),(512,524288,262144),(0,1048576,8),(2048,2097152,1048576),(4096,4194304,2097152),(0,8388608,8),(16384,16777216,8388608),(0,33554432,32),(98304,67108864,50331648),(0,134217728,8),(262144,268435456,134217728),(0,536870912,4),(1048576,1073741824,536870912),(0,2147483648,8),(4194304,4294967296,2147483648),(11010560,8589934592,5637144576),(0,17179869184,8),(33554432,34359738368,17179869184),(0,68719476736,4),(134217728,137438953472,68719476736),(0,274877906944,32),(889192448,549755813888,446676598784),(0,1099511627776,8),(2147483648,2199023255552,1099511627776),(0,4398046511104,4),(8589934592,8796093022208,4398046511104),(0,17592186044416,64),(56908316672,35184372088832,28587302322176),(69810136132,70368744177664,35742789699584),(206158430208,140737488355328,70368744177664),(549755813887,16,140737488355328)]
theorem el182:ElT Tryz.prog 182 4 (Rep.size Bool) 1 (.bool false) [.bool false]:=⟨Tryz.underlying182,by kernel_rfl,rfl,rfl,rfl,rfl⟩
theorem body104:bodyB Tryz.prog 104 = true:=by kernel_rfl
theorem body125:bodyB Tryz.prog 125 = true:=by kernel_rfl
theorem body126:bodyB Tryz.prog 126 = true:=by kernel_rfl
def units_right_p (n:Nat) (a0:TRoll) (a1:TUnit):Option Bool:=
  jn (fun (c0,d0)=>(strings_Trim_p n a1.fName ⟨#[65,66,67,68,69,70,71,72,73,74,75,76,77,78,79,80,81,82,83,84,85,86,87,88,89,90,97,98,99,100,101,102,103,104,105,106,107,108,109,110,111,112,113,114,115,116,117,118,119,120,121,122,48,49,50,51,52,53,54,55,56,57,45,95]⟩).bind fun g0=>(units_within_p n a1.fGroups a0.fGroups a1.fPeople).bind fun j0=>(units_within_p n a1.fVotes a0.fParties ((c0:Nat):Int)).bind fun k0=>(units_within_p n a1.fParents a0.fLevels ((d0:Nat):Int)).bind fun p0=>(units_every_p n ([(!(decide (a1.fName = ⟨#[]⟩))),(decide (a1.fName.size ≤ 12)),(decide (g0 = ⟨#[]⟩)),(decide (0 ≤ a1.fPeople)),(decide (a1.fPeople ≤ ((c0:Nat):Int))),j0,k0,p0]:List Bool)).bind fun q0=>some q0) (fun b0=>(if a1.fWater = true then b0 (0,0) else b0 (1000000000,63)))
theorem units_right_c (n:Nat) (L:List Nat) (w:World) (hL:∀ b ∈ L,b < w.heap.size) (a0:TRoll) {v0_3:Value} (h0_3:Rep.R w L [v0_3] a0.fUnits) (a1:TUnit) {v1_2:Value} (h1_2:Rep.R w L [v1_2] a1.fGroups) {v1_3:Value} (h1_3:Rep.R w L [v1_3] a1.fVotes) {v1_4:Value} (h1_4:Rep.R w L [v1_4] a1.fParents)  {r:Bool} (h:units_right_p n a0 a1 = some r) :
    Calls Tryz.prog 105 #[.agg #[vI a0.fGroups,vI a0.fParties,vI a0.fLevels,v0_3],.agg #[.string a1.fName,vI a1.fPeople,v1_2,v1_3,v1_4,.bool a1.fWater]] w (Gives w fun _ u=>u = .bool r):=by
 unfold units_right_p at h
 have hS0:=AK w
 refine AM Tryz.func105 rfl rfl rfl (fun _ cs0 hb0=>?_)
 refine Ae<|Az .plain rfl (AI hS0 rfl rfl) (fun w2 b5 hS3 hT4=>?_)
 refine Az .plain rfl (AI hS3 rfl rfl) (fun w7 u0 hS8 hT9=>?_)
 refine Ag rfl<|Aa<|Ae<|Ag rfl<|Ag rfl<|Aa<|Ak<|Ae<|AH 5 rfl<|AS rfl ((hS8.memA .hd) 5 _ rfl)<|Aa<|MX.join (α:=Nat × Nat) (fun ⟨g0,t0⟩=>[(2,vP b5),(3,vP u0),(5,vI ((g0:Nat):Int)),(6,vI ((t0:Nat):Int))]) (fun ⟨g0,t0⟩ x0=>St w x0 [.cells u0 [.string a1.fName,vI a1.fPeople,v1_2,v1_3,v1_4,.bool a1.fWater] 70,.cells b5 [vI a0.fGroups,vI a0.fParties,vI a0.fLevels,v0_3] 41]∧Tr w7 [.cells u0 [.string a1.fName,vI a1.fPeople,v1_2,v1_3,v1_4,.bool a1.fWater] 70,.cells b5 [vI a0.fGroups,vI a0.fParties,vI a0.fLevels,v0_3] 41] x0 [.cells u0 [.string a1.fName,vI a1.fPeople,v1_2,v1_3,v1_4,.bool a1.fWater] 70,.cells b5 [vI a0.fGroups,vI a0.fParties,vI a0.fLevels,v0_3] 41]) (fun ⟨g0,t0⟩=>(g0,t0)) h ?_ ?_
 rintro ⟨g0,t0⟩ x0 ⟨d0,J0⟩ h
 try dsimp only at h
 refine Ak<|Bm 40 tb105_4 (by kernel_rfl) (by kernel_rfl) (by kernel_rfl) (fun b0 c0=>?_)
 refine Ah 0 1 b0 rfl c0 (fun _=>Bt 0 rfl) rfl<|AT 1 3 962072674308 b0 rfl c0 (AA rfl ((d0.memA .hd) 0 _ rfl)) rfl<|Ah 2 7 b0 rfl c0 (fun _=>FV.neqS rfl rfl) rfl<|Ah 3 15 b0 rfl c0 (fun _=>Bt 0 rfl) rfl<|AT 4 31 962072674400 b0 rfl c0 (AA rfl ((d0.memA .hd) 0 _ rfl)) rfl<|AT 5 63 962072674368 b0 rfl c0 (BK Tryz.underlying9 rfl) rfl<|Ah 6 127 b0 rfl c0 (fun _=>FV.leqN (i:=a1.fName.size) (j:=12) rfl rfl) rfl<|Ah 7 255 b0 rfl c0 (fun _=>Bt 0 rfl) rfl<|AT 8 511 1031882671616 b0 rfl c0 (AA rfl ((d0.memA .hd) 0 _ rfl)) rfl ?_
 obtain ⟨s0,B0,h⟩:=bi h
 refine RD.cq 9 1023 1031882671104 (.string s0) b0 rfl c0 body125 rfl (e2 rfl rfl) (fun w9 hw9=>strings_Trim_c n _ w9 (d0.hL0 hL hw9) a1.fName ⟨#[65,66,67,68,69,70,71,72,73,74,75,76,77,78,79,80,81,82,83,84,85,86,87,88,89,90,97,98,99,100,101,102,103,104,105,106,107,108,109,110,111,112,113,114,115,116,117,118,119,120,121,122,48,49,50,51,52,53,54,55,56,57,45,95]⟩ B0) rfl<|Ah 10 2047 b0 rfl c0 (fun _=>FV.eqlS rfl rfl) rfl<|Ah 11 4095 b0 rfl c0 (fun _=>Bt 1 rfl) rfl<|AT 12 8191 962072682496 b0 rfl c0 (AA rfl ((d0.memA .hd) 1 _ rfl)) rfl<|Ah 13 16383 b0 rfl c0 (fun _=>FV.geq (i:=a1.fPeople) (j:=0) rfl rfl) rfl<|Ah 14 32767 b0 rfl c0 (fun _=>Bt 1 rfl) rfl<|AT 15 65535 962072805376 b0 rfl c0 (AA rfl ((d0.memA .hd) 1 _ rfl)) rfl<|Ah 16 131071 b0 rfl c0 (fun _=>Ai rfl) rfl<|Ah 17 262143 b0 rfl c0 (fun _=>FV.leq (i:=a1.fPeople) (j:=((g0:Nat):Int)) rfl rfl) rfl<|Ah 18 524287 b0 rfl c0 (fun _=>Bt 2 rfl) rfl<|AT 19 1048575 1031882670080 b0 rfl c0 (AA rfl ((d0.memA .hd) 2 _ rfl)) rfl<|Ah 20 2097151 b0 rfl c0 (fun _=>Bt 0 rfl) rfl<|AT 21 4194303 1031882670080 b0 rfl c0 (AA rfl ((d0.memA (.tl .hd)) 0 _ rfl)) rfl<|Ah 22 8388607 b0 rfl c0 (fun _=>Bt 1 rfl) rfl<|AT 23 16777215 1031882670080 b0 rfl c0 (AA rfl ((d0.memA .hd) 1 _ rfl)) rfl ?_
 obtain ⟨q0,C0,h⟩:=bi h
 refine RD.cq 24 33554431 1031865892864 (.bool q0) b0 rfl c0 body126 rfl (e3 rfl rfl rfl) (fun w9 hw9=>units_within_c n _ w9 (d0.hL0 hL hw9) a1.fGroups (d0.k0 h1_2 hw9) a0.fGroups a1.fPeople C0) rfl<|Ah 25 67108863 b0 rfl c0 (fun _=>Bt 3 rfl) rfl<|AT 26 134217727 1031865892864 b0 rfl c0 (AA rfl ((d0.memA .hd) 3 _ rfl)) rfl<|Ah 27 268435455 b0 rfl c0 (fun _=>Bt 1 rfl) rfl<|AT 28 536870911 1031865892864 b0 rfl c0 (AA rfl ((d0.memA (.tl .hd)) 1 _ rfl)) rfl<|Ah 29 1073741823 b0 rfl c0 (fun _=>Ai rfl) rfl ?_
 obtain ⟨p0,D0,h⟩:=bi h
 refine RD.cq 30 2147483647 1030792151040 (.bool p0) b0 rfl c0 body126 rfl (e3 rfl rfl rfl) (fun w9 hw9=>units_within_c n _ w9 (d0.hL0 hL hw9) a1.fVotes (d0.k0 h1_3 hw9) a0.fParties ((g0:Nat):Int) D0) rfl<|Ah 31 4294967295 b0 rfl c0 (fun _=>Bt 4 rfl) rfl<|AT 32 8589934591 1030792151040 b0 rfl c0 (AA rfl ((d0.memA .hd) 4 _ rfl)) rfl<|Ah 33 17179869183 b0 rfl c0 (fun _=>Bt 2 rfl) rfl<|AT 34 34359738367 1030792151040 b0 rfl c0 (AA rfl ((d0.memA (.tl .hd)) 2 _ rfl)) rfl<|Ah 35 68719476735 b0 rfl c0 (fun _=>Ai rfl) rfl ?_
 obtain ⟨j0,E0,h⟩:=bi h
 refine RD.cq 36 137438953471 962072674304 (.bool j0) b0 rfl c0 body126 rfl (e3 rfl rfl rfl) (fun w9 hw9=>units_within_c n _ w9 (d0.hL0 hL hw9) a1.fParents (d0.k0 h1_4 hw9) a0.fLevels ((t0:Nat):Int) E0) rfl<|RD.nu 37 274877906943 b0 rfl .plain rfl (AE (α:=Bool) (xs:=([(!(decide (a1.fName = ⟨#[]⟩))),(decide (a1.fName.size ≤ 12)),(decide (s0 = ⟨#[]⟩)),(decide (0 ≤ a1.fPeople)),(decide (a1.fPeople ≤ ((g0:Nat):Int))),q0,p0,j0]:List Bool)) (vs:=[.bool (!(decide (a1.fName = ⟨#[]⟩))),.bool (decide (a1.fName.size ≤ 12)),.bool (decide (s0 = ⟨#[]⟩)),.bool (decide (0 ≤ a1.fPeople)),.bool (decide (a1.fPeople ≤ ((g0:Nat):Int))),.bool q0,.bool p0,.bool j0]) (ds' :=[.bool (!(decide (a1.fName = ⟨#[]⟩))),.bool (decide (a1.fName.size ≤ 12)),.bool (decide (s0 = ⟨#[]⟩)),.bool (decide (0 ≤ a1.fPeople)),.bool (decide (a1.fPeople ≤ ((g0:Nat):Int))),.bool q0,.bool p0,.bool j0]) rfl d0 el182 rfl (e8 rfl rfl rfl rfl rfl rfl rfl rfl) (by kernel_rfl) rfl) (fun M0 I0 v0 K0=>?_)
 have A0:=Ar (cs:=[.bool (!(decide (a1.fName = ⟨#[]⟩))),.bool (decide (a1.fName.size ≤ 12)),.bool (decide (s0 = ⟨#[]⟩)),.bool (decide (0 ≤ a1.fPeople)),.bool (decide (a1.fPeople ≤ ((g0:Nat):Int))),.bool q0,.bool p0,.bool j0]) (xs:=(([(!(decide (a1.fName = ⟨#[]⟩))),(decide (a1.fName.size ≤ 12)),(decide (s0 = ⟨#[]⟩)),(decide (0 ≤ a1.fPeople)),(decide (a1.fPeople ≤ ((g0:Nat):Int))),q0,p0,j0]:List Bool):List Bool)) v0 L (Aq (cs:=[.bool (!(decide (a1.fName = ⟨#[]⟩)))]) (ds:=[.bool (decide (a1.fName.size ≤ 12)),.bool (decide (s0 = ⟨#[]⟩)),.bool (decide (0 ≤ a1.fPeople)),.bool (decide (a1.fPeople ≤ ((g0:Nat):Int))),.bool q0,.bool p0,.bool j0]) rfl (Aq (cs:=[.bool (decide (a1.fName.size ≤ 12))]) (ds:=[.bool (decide (s0 = ⟨#[]⟩)),.bool (decide (0 ≤ a1.fPeople)),.bool (decide (a1.fPeople ≤ ((g0:Nat):Int))),.bool q0,.bool p0,.bool j0]) rfl (Aq (cs:=[.bool (decide (s0 = ⟨#[]⟩))]) (ds:=[.bool (decide (0 ≤ a1.fPeople)),.bool (decide (a1.fPeople ≤ ((g0:Nat):Int))),.bool q0,.bool p0,.bool j0]) rfl (Aq (cs:=[.bool (decide (0 ≤ a1.fPeople))]) (ds:=[.bool (decide (a1.fPeople ≤ ((g0:Nat):Int))),.bool q0,.bool p0,.bool j0]) rfl (Aq (cs:=[.bool (decide (a1.fPeople ≤ ((g0:Nat):Int)))]) (ds:=[.bool q0,.bool p0,.bool j0]) rfl (Aq (cs:=[.bool q0]) (ds:=[.bool p0,.bool j0]) rfl (Aq (cs:=[.bool p0]) (ds:=[.bool j0]) rfl (Aq (cs:=[.bool j0]) (ds:=[]) rfl (AC _ _)))))))))
 obtain ⟨G0,F0,h⟩:=bi h
 refine RD.cq 38 549755813887 549755813888 (.bool G0) b0 rfl c0 body104 rfl (e1 rfl) (fun w9 hw9=>units_every_c n _ w9 (v0.hL0 hL hw9) ([(!(decide (a1.fName = ⟨#[]⟩))),(decide (a1.fName.size ≤ 12)),(decide (s0 = ⟨#[]⟩)),(decide (0 ≤ a1.fPeople)),(decide (a1.fPeople ≤ ((g0:Nat):Int))),q0,p0,j0]:List Bool) (Av (St.lend (α:=Bool) (L:=L) v0 .hd A0 hL) hw9) F0) rfl<|Ah 39 1099511627775 b0 rfl c0 (fun _=>BP rfl) rfl<|Bc (doneD_ok b0 (by kernel_rfl))<|Am rfl<|AJ hb0 Tryz.func105 rfl rfl ?_
 cases h
 exact v0.gv
 intro H0 y0 h
 try dsimp only at h
 refine MX.ifb rfl h (fun z0 h=>?_) (fun z0 h=>?_)
 refine Aw<|Ag rfl<|Ag rfl<|Aa ?_
 exact y0 (0,0) _ _ ⟨rfl,rfl,rfl,rfl,trivial⟩ ⟨hS8,AN _ _⟩ h
 refine Ao ?_
 exact y0 (1000000000,63) _ _ ⟨rfl,rfl,rfl,rfl,trivial⟩ ⟨hS8,AN _ _⟩ h
def tb82_9:List (Nat × Nat × Nat):=[(0,35184372088832,2),(0,70368744177664,128),(3,140737488355328,105553116266496),(0,281474976710656,16),(0,562949953421312,128),(16,1125899906842624,562949953421312),(40,2251799813685248,1407374883553280),(64,4503599627370496,2251799813685248),(0,9007199254740992,128),(256,18014398509481984,9007199254740992),(516,36028797018963968,18014398509481984),(1024,72057594037927936,36028797018964000),(3072,144115188075855872,108086391056891904),(5120,288230376151711744,180143985094819840),(0,576460752303423488,64),(16384,1152921504606846976,576460752303423488),(33792,2305843009213693952,1152921504606846976),(65536,4611686018427387904,2305843009213694080),(196608,9223372036854775808,6917529027641081856),(327680,18446744073709551616,11529215046068469760),(589824,36893488147419103232,20752587082923245568),(1056900,73786976294838206464,37186362860686540800),(2162688,147573952589676412928,73786976294838206464),(4194304,295147905179352825856,147573952589676412928)]
theorem op_TUnit {w:World} {L:List Nat} {cs:List Value} {x:TUnit} (h:Rep.R w L cs x):∃ v2 v3 v4:Value,cs = [.string x.fName,vI x.fPeople,v2,v3,v4,.bool x.fWater]∧Rep.R w L [v2] x.fGroups∧Rep.R w L [v3] x.fVotes∧Rep.R w L [v4] x.fParents:=by
  obtain ⟨c0,r0,rfl,h0,h⟩:=h
  have e0:c0 = [.string x.fName]:=h0; subst e0
  obtain ⟨c1,r1,rfl,h1,h⟩:=h
  have e1:c1 = [vI x.fPeople]:=h1; subst e1
  obtain ⟨c2,r2,rfl,h2,h⟩:=h
  obtain ⟨v2,rfl,kv2⟩:=lst_one (xs:=x.fGroups) h2
  obtain ⟨c3,r3,rfl,h3,h⟩:=h
  obtain ⟨v3,rfl,kv3⟩:=lst_one (xs:=x.fVotes) h3
  obtain ⟨c4,r4,rfl,h4,h⟩:=h
  obtain ⟨v4,rfl,kv4⟩:=lst_one (xs:=x.fParents) h4
  have e5:r4 = [.bool x.fWater]:=h; subst e5
  exact ⟨v2,v3,v4,rfl,kv2,kv3,kv4⟩
theorem mk_TUnit {w:World} {L:List Nat} (a0:ByteArray) (a1:Int) (a2:List Int) {u2:Value} (h2:Rep.R w L [u2] a2) (a3:List Int) {u3:Value} (h3:Rep.R w L [u3] a3) (a4:List Int) {u4:Value} (h4:Rep.R w L [u4] a4) (a5:Bool):Rep.R w L [.string a0,vI a1,u2,u3,u4,.bool a5] (⟨a0,a1,a2,a3,a4,a5⟩:TUnit):=⟨[.string a0],[vI a1,u2,u3,u4,.bool a5],rfl,rfl,⟨[vI a1],[u2,u3,u4,.bool a5],rfl,rfl,⟨[u2],[u3,u4,.bool a5],rfl,h2,⟨[u3],[u4,.bool a5],rfl,h3,⟨[u4],[.bool a5],rfl,h4,rfl⟩⟩⟩⟩⟩
theorem body105:bodyB Tryz.prog 105 = true:=by kernel_rfl
def units_CheckRoll_l1 (n:Nat) (a0:TRoll) (g0:Bool × Nat × (List (ByteArray × Bool)) → Option (Int ⊕ Unit)):Bool × Nat × (List (ByteArray × Bool)) → Option (Int ⊕ Unit)
  | (k0,d0,c0)=>(if d0 < a0.fUnits.length then (a0.fUnits[d0]?).bind fun b0=>(units_right_p n a0 b0).bind fun j0=>(if b0.fWater = true then (if 0 < d0 then (units_every_p n ([j0,(!(mgetD c0 b0.fName false)),true,true]:List Bool)).bind fun p0=>(if p0 = true then g0 (b0.fWater,d0 + 1,mset c0 b0.fName true) else some (.inl (161:Int))) else (units_every_p n ([j0,(!(mgetD c0 b0.fName false)),true,(!b0.fWater)]:List Bool)).bind fun q0=>(if q0 = true then g0 (b0.fWater,d0 + 1,mset c0 b0.fName true) else some (.inl (161:Int)))) else (if 0 < d0 then (units_every_p n ([j0,(!(mgetD c0 b0.fName false)),(!k0),true]:List Bool)).bind fun s0=>(if s0 = true then g0 (b0.fWater,d0 + 1,mset c0 b0.fName true) else some (.inl (161:Int))) else (units_every_p n ([j0,(!(mgetD c0 b0.fName false)),(!k0),(!b0.fWater)]:List Bool)).bind fun t0=>(if t0 = true then g0 (b0.fWater,d0 + 1,mset c0 b0.fName true) else some (.inl (161:Int))))) else some (.inr ()))
def units_CheckRoll_p (n:Nat) (a0:TRoll):Option Int:=
  (units_every_p n ([(decide (0 ≤ a0.fGroups)),(decide (a0.fGroups ≤ 6)),(decide (0 ≤ a0.fParties)),(decide (a0.fParties ≤ 12)),(decide (0 ≤ a0.fLevels)),(decide (a0.fLevels ≤ 3)),(decide (0 < a0.fUnits.length)),(decide (a0.fUnits.length ≤ 64))]:List Bool)).bind fun b0=>(if b0 = true then thn (loopF (units_CheckRoll_l1 n a0) n (false,0,([]:List (ByteArray × Bool)))) (fun _=>some (0:Int)) else some (161:Int))
theorem units_CheckRoll_c (n:Nat) (L:List Nat) (w:World) (hL:∀ b ∈ L,b < w.heap.size) (a0:TRoll) {v0_3:Value} (h0_3:Rep.R w L [v0_3] a0.fUnits)  {r:Int} (h:units_CheckRoll_p n a0 = some r) :
    Calls Tryz.prog 82 #[.agg #[vI a0.fGroups,vI a0.fParties,vI a0.fLevels,v0_3]] w (Gives w fun _ u=>u = vI r):=by
 unfold units_CheckRoll_p at h
 have hS0:=AK w
 refine AM Tryz.func82 rfl rfl rfl (fun _ cs0 hb0=>?_)
 refine Ae<|Az .plain rfl (AI hS0 rfl rfl) (fun w2 b5 hS3 hT4=>?_)
 refine Ag rfl<|Aa<|Ae<|AH 3 rfl<|AS rfl ((hS3.memA .hd) 3 _ rfl) ?_
 have hm7:=Ax h0_3 hS3
 have hl6:a0.fUnits.length ≤ 281474976710656:=AZ hm7
 refine Ab (Bj (xs:=a0.fUnits) Tryz.underlying39 rfl hm7)<|Ag rfl<|Aa<|Ak<|Ae<|AH 0 rfl<|AS rfl ((hS3.memA .hd) 0 _ rfl)<|Ab (FV.geq (i:=a0.fGroups) (j:=0) rfl rfl)<|AH 0 rfl<|AS rfl ((hS3.memA .hd) 0 _ rfl)<|Ab (FV.leq (i:=a0.fGroups) (j:=6) rfl rfl)<|AH 1 rfl<|AS rfl ((hS3.memA .hd) 1 _ rfl)<|Ab (FV.geq (i:=a0.fParties) (j:=0) rfl rfl)<|AH 1 rfl<|AS rfl ((hS3.memA .hd) 1 _ rfl)<|Ab (FV.leq (i:=a0.fParties) (j:=12) rfl rfl)<|AH 2 rfl<|AS rfl ((hS3.memA .hd) 2 _ rfl)<|Ab (FV.geq (i:=a0.fLevels) (j:=0) rfl rfl)<|AH 2 rfl<|AS rfl ((hS3.memA .hd) 2 _ rfl)<|Ab (FV.leq (i:=a0.fLevels) (j:=3) rfl rfl)<|Ac rfl ?_
 refine Ab (FV.gtrN (i:=a0.fUnits.length) (j:=0) rfl rfl)<|Ac rfl<|Ab (FV.leqN (i:=a0.fUnits.length) (j:=64) rfl rfl)<|Az .plain rfl (AE (α:=Bool) (xs:=([(decide (0 ≤ a0.fGroups)),(decide (a0.fGroups ≤ 6)),(decide (0 ≤ a0.fParties)),(decide (a0.fParties ≤ 12)),(decide (0 ≤ a0.fLevels)),(decide (a0.fLevels ≤ 3)),(decide (0 < a0.fUnits.length)),(decide (a0.fUnits.length ≤ 64))]:List Bool)) (vs:=[.bool (decide (0 ≤ a0.fGroups)),.bool (decide (a0.fGroups ≤ 6)),.bool (decide (0 ≤ a0.fParties)),.bool (decide (a0.fParties ≤ 12)),.bool (decide (0 ≤ a0.fLevels)),.bool (decide (a0.fLevels ≤ 3)),.bool (decide (0 < a0.fUnits.length)),.bool (decide (a0.fUnits.length ≤ 64))]) (ds' :=[.bool (decide (0 ≤ a0.fGroups)),.bool (decide (a0.fGroups ≤ 6)),.bool (decide (0 ≤ a0.fParties)),.bool (decide (a0.fParties ≤ 12)),.bool (decide (0 ≤ a0.fLevels)),.bool (decide (a0.fLevels ≤ 3)),.bool (decide (0 < a0.fUnits.length)),.bool (decide (a0.fUnits.length ≤ 64))]) rfl hS3 el182 rfl (e8 rfl rfl rfl rfl rfl rfl rfl rfl) (by kernel_rfl) rfl) (fun w9 M2 A0 Y2=>?_)
 have H1:=Ar (cs:=[.bool (decide (0 ≤ a0.fGroups)),.bool (decide (a0.fGroups ≤ 6)),.bool (decide (0 ≤ a0.fParties)),.bool (decide (a0.fParties ≤ 12)),.bool (decide (0 ≤ a0.fLevels)),.bool (decide (a0.fLevels ≤ 3)),.bool (decide (0 < a0.fUnits.length)),.bool (decide (a0.fUnits.length ≤ 64))]) (xs:=(([(decide (0 ≤ a0.fGroups)),(decide (a0.fGroups ≤ 6)),(decide (0 ≤ a0.fParties)),(decide (a0.fParties ≤ 12)),(decide (0 ≤ a0.fLevels)),(decide (a0.fLevels ≤ 3)),(decide (0 < a0.fUnits.length)),(decide (a0.fUnits.length ≤ 64))]:List Bool):List Bool)) A0 L (Aq (cs:=[.bool (decide (0 ≤ a0.fGroups))]) (ds:=[.bool (decide (a0.fGroups ≤ 6)),.bool (decide (0 ≤ a0.fParties)),.bool (decide (a0.fParties ≤ 12)),.bool (decide (0 ≤ a0.fLevels)),.bool (decide (a0.fLevels ≤ 3)),.bool (decide (0 < a0.fUnits.length)),.bool (decide (a0.fUnits.length ≤ 64))]) rfl (Aq (cs:=[.bool (decide (a0.fGroups ≤ 6))]) (ds:=[.bool (decide (0 ≤ a0.fParties)),.bool (decide (a0.fParties ≤ 12)),.bool (decide (0 ≤ a0.fLevels)),.bool (decide (a0.fLevels ≤ 3)),.bool (decide (0 < a0.fUnits.length)),.bool (decide (a0.fUnits.length ≤ 64))]) rfl (Aq (cs:=[.bool (decide (0 ≤ a0.fParties))]) (ds:=[.bool (decide (a0.fParties ≤ 12)),.bool (decide (0 ≤ a0.fLevels)),.bool (decide (a0.fLevels ≤ 3)),.bool (decide (0 < a0.fUnits.length)),.bool (decide (a0.fUnits.length ≤ 64))]) rfl (Aq (cs:=[.bool (decide (a0.fParties ≤ 12))]) (ds:=[.bool (decide (0 ≤ a0.fLevels)),.bool (decide (a0.fLevels ≤ 3)),.bool (decide (0 < a0.fUnits.length)),.bool (decide (a0.fUnits.length ≤ 64))]) rfl (Aq (cs:=[.bool (decide (0 ≤ a0.fLevels))]) (ds:=[.bool (decide (a0.fLevels ≤ 3)),.bool (decide (0 < a0.fUnits.length)),.bool (decide (a0.fUnits.length ≤ 64))]) rfl (Aq (cs:=[.bool (decide (a0.fLevels ≤ 3))]) (ds:=[.bool (decide (0 < a0.fUnits.length)),.bool (decide (a0.fUnits.length ≤ 64))]) rfl (Aq (cs:=[.bool (decide (0 < a0.fUnits.length))]) (ds:=[.bool (decide (a0.fUnits.length ≤ 64))]) rfl (Aq (cs:=[.bool (decide (a0.fUnits.length ≤ 64))]) (ds:=[]) rfl (AC _ _)))))))))
 obtain ⟨E2,t2,h⟩:=bi h
 refine BE (.bool E2) body104 rfl (e1 rfl) (fun w9 hw9=>units_every_c n _ w9 (A0.hL0 hL hw9) ([(decide (0 ≤ a0.fGroups)),(decide (a0.fGroups ≤ 6)),(decide (0 ≤ a0.fParties)),(decide (a0.fParties ≤ 12)),(decide (0 ≤ a0.fLevels)),(decide (a0.fLevels ≤ 3)),(decide (0 < a0.fUnits.length)),(decide (a0.fUnits.length ≤ 64))]:List Bool) (Av (St.lend (α:=Bool) (L:=L) A0 .hd H1 hL) hw9) t2) rfl<|Ab (Ba rfl)<|Aa<|BS rfl h (fun U0 h=>?_) (fun U0 h=>?_)
 refine Ao<|Ae<|Az .plain rfl (Does.makeMap (κ:=ByteArray) (ν:=Bool) A0) (fun D2 C0 F0 Z2=>?_)
 refine Ag rfl<|Aa<|Ae<|Ag rfl<|Aa<|Ak<|Ae<|AH 3 rfl<|AS rfl ((F0.memA (.tl (.tl .hd))) 3 _ rfl) ?_
 have R1:=Ax h0_3 F0
 refine Ab (Bj (xs:=a0.fUnits) Tryz.underlying39 rfl R1)<|Ac rfl<|Aa<|AB ?_
 obtain ⟨g1,b3⟩:=AD F0 (.one .hd (.one (.tl .hd) .done))
 obtain ⟨c3,d2,B0⟩:=thn_in h
 refine Bp (α:=Bool × Nat × (List (ByteArray × Bool))) (fun ⟨p0,q0,d0⟩=>[(1,vP b5),(4,.map (some C0)),(5,.bool p0),(38,v0_3),(39,vI ((a0.fUnits.length:Nat):Int)),(40,vI ((q0:Nat):Int))]) (fun ⟨p0,q0,d0⟩ H0=>St w H0 [.obj C0 (mapO (d0:List (ByteArray × Bool))),.cells b5 [vI a0.fGroups,vI a0.fParties,vI a0.fLevels,v0_3] 41]∧Tr D2 [.obj C0 (mapO ([]:List (ByteArray × Bool))),.cells b5 [vI a0.fGroups,vI a0.fParties,vI a0.fLevels,v0_3] 41] H0 [.obj C0 (mapO (d0:List (ByteArray × Bool))),.cells b5 [vI a0.fGroups,vI a0.fParties,vI a0.fLevels,v0_3] 41]) (fun ⟨p0,q0,d0⟩=>(p0,q0,d0)) (false,0,([]:List (ByteArray × Bool))) d2 ⟨rfl,rfl,rfl,rfl,rfl,rfl,trivial⟩ ⟨g1,AN _ _⟩ ?_
 rintro K2 ⟨p0,q0,d0⟩ H0 D0 ⟨G0,E0⟩ h
 unfold units_CheckRoll_l1 at h
 try dsimp only at h
 refine Ae<|Ab (BA (i:=q0) (j:=a0.fUnits.length) rfl rfl)<|Aa<|Ak<|AW rfl h (fun V0 h=>?_) (fun V0 h=>?_)
 refine Ao<|Ak<|AB<|Ae<|Ac rfl ?_
 obtain ⟨b0,s2,h⟩:=bi h
 have V1:=Ax h0_3 G0
 obtain ⟨J2,W2,P1,Q1,X2,q2,U1⟩:=Bb V1 s2
 obtain ⟨A2,B2,C2,rfl,P0,Q0,R0⟩:=op_TUnit q2
 refine Ab (Be 6 q0 rfl P1 rfl rfl Q1)<|Ab (AG rfl U1)<|Az .plain rfl (AX [.string ⟨#[]⟩,vI 0,vN,vN,vN,.bool false] G0) (fun d3 P2 j1 t0=>?_)
 refine Ag rfl ?_
 have W1:=Aj P0 t0
 have X1:=Aj Q0 t0
 have Y1:=Aj R0 t0
 refine Bk [.string b0.fName,vI b0.fPeople,A2,B2,C2,.bool b0.fWater] j1 .hd (o6 rfl rfl (AP W1) (AP X1) (AP Y1) rfl) (fun g3 s0 u0=>?_)
 refine Aa<|Ak<|Ak<|Bm 24 tb82_9 (by kernel_rfl) (by kernel_rfl) (by kernel_rfl) (fun c0 g0=>?_)
 refine AT 0 1 16727044 c0 rfl g0 (AG rfl (s0.memA (.tl (.tl .hd)))) rfl<|AT 1 3 16727044 c0 rfl g0 (AG rfl (s0.memA .hd)) rfl ?_
 obtain ⟨j0,u2,h⟩:=bi h
 have Z1:=Aj P0 (Tt t0 u0)
 have b2:=Aj Q0 (Tt t0 u0)
 have c2:=Aj R0 (Tt t0 u0)
 refine RD.cq 2 7 16727040 (.bool j0) c0 rfl g0 body105 rfl (e2 rfl rfl) (fun w9 hw9=>units_right_c n _ w9 (s0.hL0 hL hw9) a0 (s0.k0 h0_3 hw9) b0 (s0.kd Z1 hw9) (s0.kd b2 hw9) (s0.kd c2 hw9) u2) rfl<|Ah 3 15 c0 rfl g0 (fun _=>Ai rfl) rfl<|Ah 4 31 c0 rfl g0 (fun _=>Bt 0 rfl) rfl<|AT 5 63 14680256 c0 rfl g0 (AA rfl ((s0.memA .hd) 0 _ rfl)) rfl<|AT 6 127 14680192 c0 rfl g0 (FV.lookup (kv:=b0.fName) (z:=false) s0 (.tl .hd) Tryz.underlying161 Tryz.underlying9 rfl (by kernel_rfl) rfl rfl) rfl<|Ah 7 255 c0 rfl g0 (fun _=>Ba rfl) rfl<|Ah 8 511 c0 rfl g0 (fun _=>Bt 5 rfl) rfl<|AT 9 1023 16727040 c0 rfl g0 (AA rfl ((s0.memA .hd) 5 _ rfl)) rfl<|Ah 10 2047 c0 rfl g0 (fun _=>Ai rfl) rfl<|RD.ifb (s:=55) rfl h (fun W0 h=>?_) (fun W0 h=>?_)
 refine By 8191 11 [(11,56),(12,57)] (F:=[(55,true)]) (U:=[]) c0 g0 (.cons rfl .nil) .nil ?_
 dsimp only [offS,List.map]
 refine Ah 13 16383 c0 rfl g0 (fun _=>Bl rfl rfl) rfl<|Ah 14 32767 c0 rfl g0 (fun _=>Ai rfl) rfl<|Ah 15 65535 c0 rfl g0 (fun _=>FV.gtrN (i:=q0) (j:=0) rfl rfl) rfl<|Ah 16 131071 c0 rfl g0 (fun _=>Ai rfl) rfl<|RD.ifd (s:=61) rfl h (fun X0 h=>?_) (fun X0 h=>?_)
 refine By 1048575 4 [(17,62),(18,63),(19,64)] (F:=[(61,true)]) (U:=[]) c0 g0 (.cons rfl .nil) .nil ?_
 dsimp only [offS,List.map]
 refine Ah 20 2097151 c0 rfl g0 (fun _=>Bl rfl rfl) rfl<|RD.nu 21 4194303 c0 rfl .plain rfl (AE (α:=Bool) (xs:=([j0,(!(mgetD d0 b0.fName false)),true,true]:List Bool)) (vs:=[.bool j0,.bool (!(mgetD d0 b0.fName false)),.bool true,.bool true]) (ds' :=[.bool j0,.bool (!(mgetD d0 b0.fName false)),.bool true,.bool true]) rfl s0 el182 rfl (e4 rfl rfl rfl rfl) (by kernel_rfl) rfl) (fun j3 Q2 v0 u1=>?_)
 have I1:=Ar (cs:=[.bool j0,.bool (!(mgetD d0 b0.fName false)),.bool true,.bool true]) (xs:=(([j0,(!(mgetD d0 b0.fName false)),true,true]:List Bool):List Bool)) v0 L (Aq (cs:=[.bool j0]) (ds:=[.bool (!(mgetD d0 b0.fName false)),.bool true,.bool true]) rfl (Aq (cs:=[.bool (!(mgetD d0 b0.fName false))]) (ds:=[.bool true,.bool true]) rfl (Aq (cs:=[.bool true]) (ds:=[.bool true]) rfl (Aq (cs:=[.bool true]) (ds:=[]) rfl (AC _ _)))))
 obtain ⟨F2,v2,h⟩:=bi h
 refine RD.cq 22 8388607 8388608 (.bool F2) c0 rfl g0 body104 rfl (e1 rfl) (fun w9 hw9=>units_every_c n _ w9 (v0.hL0 hL hw9) ([j0,(!(mgetD d0 b0.fName false)),true,true]:List Bool) (Av (St.lend (α:=Bool) (L:=L) v0 .hd I1 hL) hw9) v2) rfl<|Ah 23 16777215 c0 rfl g0 (fun _=>Ba rfl) rfl<|Bc (doneD_ok c0 (by kernel_rfl))<|BS rfl h (fun Y0 h=>?_) (fun Y0 h=>?_)
 refine Ao<|Ae<|Ac rfl<|AH 0 rfl<|AS rfl ((v0.memA (.tl .hd)) 0 _ rfl)<|BG .plain (Acts.mapUpdate (kv:=b0.fName) (vv:=true) v0 (.tl (.tl .hd)) Tryz.underlying161 Tryz.underlying9 rfl rfl rfl rfl) (fun k3 I0 v1=>?_)
 refine Aa<|Aw<|AH 5 rfl<|AS rfl ((I0.memA (.tl .hd)) 5 _ rfl)<|Ag rfl<|Aa<|AF<|Aw<|Ab (Bu (i:=q0) (j:=1) rfl rfl (by omega))<|Ac rfl<|Aa ?_
 obtain ⟨k1,x1⟩:=AD I0 (.one (.tl (.tl .hd)) (.one (.tl (.tl .hd)) .done))
 have g2:=Tt t0 (Tt u0 (Tt u1 (Tt v1 x1)))
 exact D0 (b0.fWater,q0 + 1,mset d0 b0.fName true) _ _ ⟨rfl,rfl,rfl,rfl,rfl,rfl,trivial⟩ ⟨k1,(Tt E0 g2)⟩ h
 refine Ae<|Ag rfl<|Aa ?_
 have h:=thn_inl h B0
 refine Am rfl<|AJ hb0 Tryz.func82 rfl rfl ?_
 cases h
 exact v0.gv
 refine BJ 17 262143 c0 rfl g0 (.yes rfl rfl) (fun _=>Bt 5 rfl) rfl<|BM (i:=18) (m' :=524287) (W:=16252928) (takeC_ok c0 (by kernel_rfl)) rfl g0 (.yes rfl rfl) (AA rfl ((s0.memA .hd) 5 _ rfl)) rfl<|BJ 19 1048575 c0 rfl g0 (.yes rfl rfl) (fun _=>Ba rfl) rfl<|Ah 20 2097151 c0 rfl g0 (fun _=>Bn rfl rfl) rfl<|RD.nu 21 4194303 c0 rfl .plain rfl (AE (α:=Bool) (xs:=([j0,(!(mgetD d0 b0.fName false)),true,(!b0.fWater)]:List Bool)) (vs:=[.bool j0,.bool (!(mgetD d0 b0.fName false)),.bool true,.bool (!b0.fWater)]) (ds' :=[.bool j0,.bool (!(mgetD d0 b0.fName false)),.bool true,.bool (!b0.fWater)]) rfl s0 el182 rfl (e4 rfl rfl rfl rfl) (by kernel_rfl) rfl) (fun p3 R2 x0 y1=>?_)
 have J1:=Ar (cs:=[.bool j0,.bool (!(mgetD d0 b0.fName false)),.bool true,.bool (!b0.fWater)]) (xs:=(([j0,(!(mgetD d0 b0.fName false)),true,(!b0.fWater)]:List Bool):List Bool)) x0 L (Aq (cs:=[.bool j0]) (ds:=[.bool (!(mgetD d0 b0.fName false)),.bool true,.bool (!b0.fWater)]) rfl (Aq (cs:=[.bool (!(mgetD d0 b0.fName false))]) (ds:=[.bool true,.bool (!b0.fWater)]) rfl (Aq (cs:=[.bool true]) (ds:=[.bool (!b0.fWater)]) rfl (Aq (cs:=[.bool (!b0.fWater)]) (ds:=[]) rfl (AC _ _)))))
 obtain ⟨G2,x2,h⟩:=bi h
 refine RD.cq 22 8388607 8388608 (.bool G2) c0 rfl g0 body104 rfl (e1 rfl) (fun w9 hw9=>units_every_c n _ w9 (x0.hL0 hL hw9) ([j0,(!(mgetD d0 b0.fName false)),true,(!b0.fWater)]:List Bool) (Av (St.lend (α:=Bool) (L:=L) x0 .hd J1 hL) hw9) x2) rfl<|Ah 23 16777215 c0 rfl g0 (fun _=>Ba rfl) rfl<|Bc (doneD_ok c0 (by kernel_rfl))<|BS rfl h (fun Z0 h=>?_) (fun Z0 h=>?_)
 refine Ao<|Ae<|Ac rfl<|AH 0 rfl<|AS rfl ((x0.memA (.tl .hd)) 0 _ rfl)<|BG .plain (Acts.mapUpdate (kv:=b0.fName) (vv:=true) x0 (.tl (.tl .hd)) Tryz.underlying161 Tryz.underlying9 rfl rfl rfl rfl) (fun q3 J0 z1=>?_)
 refine Aa<|Aw<|AH 5 rfl<|AS rfl ((J0.memA (.tl .hd)) 5 _ rfl)<|Ag rfl<|Aa<|AF<|Aw<|Ab (Bu (i:=q0) (j:=1) rfl rfl (by omega))<|Ac rfl<|Aa ?_
 obtain ⟨p1,A1⟩:=AD J0 (.one (.tl (.tl .hd)) (.one (.tl (.tl .hd)) .done))
 have j2:=Tt t0 (Tt u0 (Tt y1 (Tt z1 A1)))
 exact D0 (b0.fWater,q0 + 1,mset d0 b0.fName true) _ _ ⟨rfl,rfl,rfl,rfl,rfl,rfl,trivial⟩ ⟨p1,(Tt E0 j2)⟩ h
 refine Ae<|Ag rfl<|Aa ?_
 have h:=thn_inl h B0
 refine Am rfl<|AJ hb0 Tryz.func82 rfl rfl ?_
 cases h
 exact x0.gv
 refine BJ 11 4095 c0 rfl g0 (.yes rfl rfl) (fun _=>Ai rfl) rfl<|BJ 12 8191 c0 rfl g0 (.yes rfl rfl) (fun _=>Ba rfl) rfl<|Ah 13 16383 c0 rfl g0 (fun _=>Bn rfl rfl) rfl<|Ah 14 32767 c0 rfl g0 (fun _=>Ai rfl) rfl<|Ah 15 65535 c0 rfl g0 (fun _=>FV.gtrN (i:=q0) (j:=0) rfl rfl) rfl<|Ah 16 131071 c0 rfl g0 (fun _=>Ai rfl) rfl<|RD.ifd (s:=61) rfl h (fun b1 h=>?_) (fun b1 h=>?_)
 refine By 1048575 4 [(17,62),(18,63),(19,64)] (F:=[(61,true)]) (U:=[]) c0 g0 (.cons rfl .nil) .nil ?_
 dsimp only [offS,List.map]
 refine Ah 20 2097151 c0 rfl g0 (fun _=>Bl rfl rfl) rfl<|RD.nu 21 4194303 c0 rfl .plain rfl (AE (α:=Bool) (xs:=([j0,(!(mgetD d0 b0.fName false)),(!p0),true]:List Bool)) (vs:=[.bool j0,.bool (!(mgetD d0 b0.fName false)),.bool (!p0),.bool true]) (ds' :=[.bool j0,.bool (!(mgetD d0 b0.fName false)),.bool (!p0),.bool true]) rfl s0 el182 rfl (e4 rfl rfl rfl rfl) (by kernel_rfl) rfl) (fun s3 U2 y0 B1=>?_)
 have K1:=Ar (cs:=[.bool j0,.bool (!(mgetD d0 b0.fName false)),.bool (!p0),.bool true]) (xs:=(([j0,(!(mgetD d0 b0.fName false)),(!p0),true]:List Bool):List Bool)) y0 L (Aq (cs:=[.bool j0]) (ds:=[.bool (!(mgetD d0 b0.fName false)),.bool (!p0),.bool true]) rfl (Aq (cs:=[.bool (!(mgetD d0 b0.fName false))]) (ds:=[.bool (!p0),.bool true]) rfl (Aq (cs:=[.bool (!p0)]) (ds:=[.bool true]) rfl (Aq (cs:=[.bool true]) (ds:=[]) rfl (AC _ _)))))
 obtain ⟨H2,y2,h⟩:=bi h
 refine RD.cq 22 8388607 8388608 (.bool H2) c0 rfl g0 body104 rfl (e1 rfl) (fun w9 hw9=>units_every_c n _ w9 (y0.hL0 hL hw9) ([j0,(!(mgetD d0 b0.fName false)),(!p0),true]:List Bool) (Av (St.lend (α:=Bool) (L:=L) y0 .hd K1 hL) hw9) y2) rfl<|Ah 23 16777215 c0 rfl g0 (fun _=>Ba rfl) rfl<|Bc (doneD_ok c0 (by kernel_rfl))<|BS rfl h (fun c1 h=>?_) (fun c1 h=>?_)
 refine Ao<|Ae<|Ac rfl<|AH 0 rfl<|AS rfl ((y0.memA (.tl .hd)) 0 _ rfl)<|BG .plain (Acts.mapUpdate (kv:=b0.fName) (vv:=true) y0 (.tl (.tl .hd)) Tryz.underlying161 Tryz.underlying9 rfl rfl rfl rfl) (fun t3 K0 C1=>?_)
 refine Aa<|Aw<|AH 5 rfl<|AS rfl ((K0.memA (.tl .hd)) 5 _ rfl)<|Ag rfl<|Aa<|AF<|Aw<|Ab (Bu (i:=q0) (j:=1) rfl rfl (by omega))<|Ac rfl<|Aa ?_
 obtain ⟨q1,D1⟩:=AD K0 (.one (.tl (.tl .hd)) (.one (.tl (.tl .hd)) .done))
 have k2:=Tt t0 (Tt u0 (Tt B1 (Tt C1 D1)))
 exact D0 (b0.fWater,q0 + 1,mset d0 b0.fName true) _ _ ⟨rfl,rfl,rfl,rfl,rfl,rfl,trivial⟩ ⟨q1,(Tt E0 k2)⟩ h
 refine Ae<|Ag rfl<|Aa ?_
 have h:=thn_inl h B0
 refine Am rfl<|AJ hb0 Tryz.func82 rfl rfl ?_
 cases h
 exact y0.gv
 refine BJ 17 262143 c0 rfl g0 (.yes rfl rfl) (fun _=>Bt 5 rfl) rfl<|BM (i:=18) (m' :=524287) (W:=16252928) (takeC_ok c0 (by kernel_rfl)) rfl g0 (.yes rfl rfl) (AA rfl ((s0.memA .hd) 5 _ rfl)) rfl<|BJ 19 1048575 c0 rfl g0 (.yes rfl rfl) (fun _=>Ba rfl) rfl<|Ah 20 2097151 c0 rfl g0 (fun _=>Bn rfl rfl) rfl<|RD.nu 21 4194303 c0 rfl .plain rfl (AE (α:=Bool) (xs:=([j0,(!(mgetD d0 b0.fName false)),(!p0),(!b0.fWater)]:List Bool)) (vs:=[.bool j0,.bool (!(mgetD d0 b0.fName false)),.bool (!p0),.bool (!b0.fWater)]) (ds' :=[.bool j0,.bool (!(mgetD d0 b0.fName false)),.bool (!p0),.bool (!b0.fWater)]) rfl s0 el182 rfl (e4 rfl rfl rfl rfl) (by kernel_rfl) rfl) (fun u3 V2 z0 E1=>?_)
 have M1:=Ar (cs:=[.bool j0,.bool (!(mgetD d0 b0.fName false)),.bool (!p0),.bool (!b0.fWater)]) (xs:=(([j0,(!(mgetD d0 b0.fName false)),(!p0),(!b0.fWater)]:List Bool):List Bool)) z0 L (Aq (cs:=[.bool j0]) (ds:=[.bool (!(mgetD d0 b0.fName false)),.bool (!p0),.bool (!b0.fWater)]) rfl (Aq (cs:=[.bool (!(mgetD d0 b0.fName false))]) (ds:=[.bool (!p0),.bool (!b0.fWater)]) rfl (Aq (cs:=[.bool (!p0)]) (ds:=[.bool (!b0.fWater)]) rfl (Aq (cs:=[.bool (!b0.fWater)]) (ds:=[]) rfl (AC _ _)))))
 obtain ⟨I2,z2,h⟩:=bi h
 refine RD.cq 22 8388607 8388608 (.bool I2) c0 rfl g0 body104 rfl (e1 rfl) (fun w9 hw9=>units_every_c n _ w9 (z0.hL0 hL hw9) ([j0,(!(mgetD d0 b0.fName false)),(!p0),(!b0.fWater)]:List Bool) (Av (St.lend (α:=Bool) (L:=L) z0 .hd M1 hL) hw9) z2) rfl<|Ah 23 16777215 c0 rfl g0 (fun _=>Ba rfl) rfl<|Bc (doneD_ok c0 (by kernel_rfl))<|BS rfl h (fun d1 h=>?_) (fun d1 h=>?_)
 refine Ao<|Ae<|Ac rfl<|AH 0 rfl<|AS rfl ((z0.memA (.tl .hd)) 0 _ rfl)<|BG .plain (Acts.mapUpdate (kv:=b0.fName) (vv:=true) z0 (.tl (.tl .hd)) Tryz.underlying161 Tryz.underlying9 rfl rfl rfl rfl) (fun v3 M0 F1=>?_)
 refine Aa<|Aw<|AH 5 rfl<|AS rfl ((M0.memA (.tl .hd)) 5 _ rfl)<|Ag rfl<|Aa<|AF<|Aw<|Ab (Bu (i:=q0) (j:=1) rfl rfl (by omega))<|Ac rfl<|Aa ?_
 obtain ⟨s1,G1⟩:=AD M0 (.one (.tl (.tl .hd)) (.one (.tl (.tl .hd)) .done))
 have p2:=Tt t0 (Tt u0 (Tt E1 (Tt F1 G1)))
 exact D0 (b0.fWater,q0 + 1,mset d0 b0.fName true) _ _ ⟨rfl,rfl,rfl,rfl,rfl,rfl,trivial⟩ ⟨s1,(Tt E0 p2)⟩ h
 refine Ae<|Ag rfl<|Aa ?_
 have h:=thn_inl h B0
 refine Am rfl<|AJ hb0 Tryz.func82 rfl rfl ?_
 cases h
 exact z0.gv
 refine Bd rfl ?_
 have h:=thn_inr h B0
 try dsimp only at h
 refine Ae<|Ag rfl<|Aa<|Am rfl<|AJ hb0 Tryz.func82 rfl rfl ?_
 cases h
 exact G0.gv
 refine Ae<|Ag rfl<|Aa<|Am rfl<|AJ hb0 Tryz.func82 rfl rfl ?_
 cases h
 exact A0.gv
theorem body81:bodyB Tryz.prog 81 = true:=by kernel_rfl
def balance_fail_p (n:Nat) (a0:Bool) (a1:Int):Option (Except Tbroken Unit):=
  (if a0 = true then (balance_need_p n a1).bind fun y2=>exc y2 (fun y4=>some (.ok ())) (fun e3=>some (.error e3)) else some (.ok ()))
theorem balance_fail_c (n:Nat) (L:List Nat) (w:World) (hL:∀ b ∈ L,b < w.heap.size) (a0:Bool) (a1:Int)  {r:Except Tbroken Unit} (h:balance_fail_p n a0 a1 = some r) :
    Calls Tryz.prog 83 #[.bool a0,vI a1] w (PGives w (fun (y:Unit) _ u=>u = .tuple #[]) (fun e=>.iface 137 (.agg #[vI e.fErrno])) r):=by
 unfold balance_fail_p at h
 have hS0:=AK w
 refine MX.startP Tryz.func83 rfl rfl rfl (fun _ cs0 hb0 hp0=>?_)
 refine Ae<|Ac rfl<|Aa<|MX.ifb rfl h (fun c1 h=>?_) (fun c1 h=>?_)
 refine Aw<|Ac rfl ?_
 obtain ⟨y2,hy2,h⟩:=bi h
 rcases y2 with e3 | y4
 have h:=exc_e h
 try dsimp only at h
 refine RG.callE (fst:=[]) (cap:=[]) .plain body81 rfl (e1 rfl) (fun w9 hw9=>balance_need_c n _ w9 (hS0.hL0 hL hw9) a1 hy2) (fun w5 hag6=>?_)
 obtain ⟨hS7,hT8⟩:=hS0.agr hag6
 cases h
 exact BU hp0 Tryz.func83 ⟨hS7.ag,rfl⟩
 have h:=exc_o h
 try dsimp only at h
 refine BE (.tuple #[]) body81 rfl (e1 rfl) (fun w9 hw9=>BX (balance_need_c n _ w9 (hS0.hL0 hL hw9) a1 hy2)) rfl<|Aa<|MX.fin rfl<|Ay hb0 Tryz.func83 rfl .nil rfl ?_
 cases h
 exact ⟨hS0.ag,fun w9 hw9=>okOf_in rfl⟩
 refine Ao<|MX.fin rfl<|Ay hb0 Tryz.func83 rfl .nil rfl ?_
 cases h
 exact ⟨hS0.ag,fun w9 hw9=>okOf_in rfl⟩
structure Tcount where
  fRoll:TRoll
  fk:Int
  deriving DecidableEq
instance:Rep Tcount:=Rep.via (β:=TRoll × Int) fun x=>(x.fRoll,x.fk)
theorem body82:bodyB Tryz.prog 82 = true:=by kernel_rfl
theorem body83:bodyB Tryz.prog 83 = true:=by kernel_rfl
def balance_counted_p (n:Nat) (a0:TRoll) (a1:Int):Option (Except Tbroken Tcount):=
  (units_CheckRoll_p n a0).bind fun g0=>(balance_need_p n g0).bind fun j0=>exc j0 (fun q0=>(if a1 < 1 then (balance_fail_p n true (2:Int)).bind fun k0=>exc k0 (fun s0=>some (.ok (⟨a0,a1⟩:Tcount))) (fun c0=>some (.error c0)) else (balance_fail_p n (decide (8 < a1)) (2:Int)).bind fun p0=>exc p0 (fun t0=>some (.ok (⟨a0,a1⟩:Tcount))) (fun d0=>some (.error d0)))) (fun b0=>some (.error b0))
theorem balance_counted_c (n:Nat) (L:List Nat) (w:World) (hL:∀ b ∈ L,b < w.heap.size) (a0:TRoll) {v0_3:Value} (h0_3:Rep.R w L [v0_3] a0.fUnits) (a1:Int)  {r:Except Tbroken Tcount} (h:balance_counted_p n a0 a1 = some r) :
    Calls Tryz.prog 59 #[.agg #[vI a0.fGroups,vI a0.fParties,vI a0.fLevels,v0_3],vI a1] w (PGives w (fun (y:Tcount) w' u=>∃ v0_3:Value,u = .agg #[vI y.fRoll.fGroups,vI y.fRoll.fParties,vI y.fRoll.fLevels,v0_3,vI y.fk]∧Rep.R w' L [v0_3] y.fRoll.fUnits) (fun e=>.iface 137 (.agg #[vI e.fErrno])) r):=by
 unfold balance_counted_p at h
 have hS0:=AK w
 refine MX.startP Tryz.func59 rfl rfl rfl (fun _ cs0 hb0 hp0=>?_)
 refine Ae<|Az .plain rfl (AI hS0 rfl rfl) (fun w2 b5 hS3 hT4=>?_)
 refine Az .plain rfl (AX [vI 0,vI 0,vI 0,vN,vI 0] hS3) (fun w7 J0 hS8 hT9=>?_)
 refine Aa<|Ae<|Ab (AG rfl (hS8.memA (.tl .hd))) ?_
 obtain ⟨d0,D0,h⟩:=bi h
 refine BE (vI d0) body82 rfl (e1 rfl) (fun w9 hw9=>units_CheckRoll_c n _ w9 (hS8.hL0 hL hw9) a0 (hS8.k0 h0_3 hw9) D0) rfl ?_
 obtain ⟨E0,p0,h⟩:=bi h
 rcases E0 with P0 | j1
 have h:=exc_e h
 try dsimp only at h
 refine RG.callE (fst:=[]) (cap:=[]) .plain body81 rfl (e1 rfl) (fun w9 hw9=>balance_need_c n _ w9 (hS8.hL0 hL hw9) d0 p0) (fun Z0 y0=>?_)
 obtain ⟨u0,U0⟩:=hS8.agr y0
 cases h
 exact BU hp0 Tryz.func59 ⟨u0.ag,rfl⟩
 have h:=exc_o h
 try dsimp only at h
 refine BE (.tuple #[]) body81 rfl (e1 rfl) (fun w9 hw9=>BX (balance_need_c n _ w9 (hS8.hL0 hL hw9) d0 p0)) rfl<|Aa<|Ae<|Ac rfl<|Ab (BF (i:=a1) (j:=1) rfl rfl)<|Ac rfl<|Bi (s:=10) rfl h (fun t0 h=>?_) (fun t0 h=>?_)
 refine Af<|Af<|AU rfl rfl ?_
 obtain ⟨F0,q0,h⟩:=bi h
 rcases F0 with Q0 | k1
 have h:=exc_e h
 try dsimp only at h
 refine RG.callE (fst:=[]) (cap:=[]) .plain body83 rfl (e2 rfl rfl) (fun w9 hw9=>balance_fail_c n _ w9 (hS8.hL0 hL hw9) true (2:Int) q0) (fun b1 z0=>?_)
 obtain ⟨v0,V0⟩:=hS8.agr z0
 cases h
 exact BU hp0 Tryz.func59 ⟨v0.ag,rfl⟩
 have h:=exc_o h
 try dsimp only at h
 refine BE (.tuple #[]) body83 rfl (e2 rfl rfl) (fun w9 hw9=>BX (balance_fail_c n _ w9 (hS8.hL0 hL hw9) true (2:Int) q0)) rfl<|Aa<|Ae<|Ab (AG rfl (hS8.memA (.tl .hd)))<|Ac rfl ?_
 have g0:=Ax h0_3 hS8
 obtain ⟨H0,K0,B0,_⟩:=BQ g0
 refine Ab (AV (vs:=[.agg #[vI a0.fGroups,vI a0.fParties,vI a0.fLevels,v0_3],vI a1]) (u:=.agg #[vI a0.fGroups,vI a0.fParties,vI a0.fLevels,v0_3,vI a1]) (e2 rfl rfl) (fun w9=>by rw [B0]; try kernel_rfl))<|Bk [vI a0.fGroups,vI a0.fParties,vI a0.fLevels,v0_3,vI a1] hS8 .hd (o5 rfl rfl rfl (AP g0) rfl) (fun c1 b0 W0=>?_)
 refine Aa<|Am rfl<|Ay hb0 Tryz.func59 rfl (.cons (.many (cs:=[vI a0.fGroups,vI a0.fParties,vI a0.fLevels,v0_3,vI a1]) (by kernel_rfl) rfl (b0.memA .hd)) .nil) rfl ?_
 cases h
 exact ⟨b0.ag,fun w9 hw9=>okOf_in ⟨v0_3,rfl,b0.k0 h0_3 hw9⟩⟩
 refine Ap (Ai rfl)<|Ap (FV.gtr (i:=a1) (j:=8) rfl rfl)<|AO rfl rfl ?_
 obtain ⟨G0,s0,h⟩:=bi h
 rcases G0 with R0 | p1
 have h:=exc_e h
 try dsimp only at h
 refine RG.callE (fst:=[]) (cap:=[]) .plain body83 rfl (e2 rfl rfl) (fun w9 hw9=>balance_fail_c n _ w9 (hS8.hL0 hL hw9) (decide (8 < a1)) (2:Int) s0) (fun d1 A0=>?_)
 obtain ⟨x0,X0⟩:=hS8.agr A0
 cases h
 exact BU hp0 Tryz.func59 ⟨x0.ag,rfl⟩
 have h:=exc_o h
 try dsimp only at h
 refine BE (.tuple #[]) body83 rfl (e2 rfl rfl) (fun w9 hw9=>BX (balance_fail_c n _ w9 (hS8.hL0 hL hw9) (decide (8 < a1)) (2:Int) s0)) rfl<|Aa<|Ae<|Ab (AG rfl (hS8.memA (.tl .hd)))<|Ac rfl ?_
 have j0:=Ax h0_3 hS8
 obtain ⟨I0,M0,C0,_⟩:=BQ j0
 refine Ab (AV (vs:=[.agg #[vI a0.fGroups,vI a0.fParties,vI a0.fLevels,v0_3],vI a1]) (u:=.agg #[vI a0.fGroups,vI a0.fParties,vI a0.fLevels,v0_3,vI a1]) (e2 rfl rfl) (fun w9=>by rw [C0]; try kernel_rfl))<|Bk [vI a0.fGroups,vI a0.fParties,vI a0.fLevels,v0_3,vI a1] hS8 .hd (o5 rfl rfl rfl (AP j0) rfl) (fun g1 c0 Y0=>?_)
 refine Aa<|Am rfl<|Ay hb0 Tryz.func59 rfl (.cons (.many (cs:=[vI a0.fGroups,vI a0.fParties,vI a0.fLevels,v0_3,vI a1]) (by kernel_rfl) rfl (c0.memA .hd)) .nil) rfl ?_
 cases h
 exact ⟨c0.ag,fun w9 hw9=>okOf_in ⟨v0_3,rfl,c0.k0 h0_3 hw9⟩⟩
theorem balance_count_land_c (n:Nat) (L:List Nat) (w:World) (_hL:∀ b ∈ L,b < w.heap.size) (a0:Tcount) {v0_3:Value} (h0_3:Rep.R w L [v0_3] a0.fRoll.fUnits)  :
    Calls Tryz.prog 85 #[.agg #[vI a0.fRoll.fGroups,vI a0.fRoll.fParties,vI a0.fRoll.fLevels,v0_3,vI a0.fk]] w (Gives w fun w' u=>∃ b5:Nat,u = .func (.func 106) #[] #[vP b5]∧St w w' [.cells b5 [vI a0.fRoll.fGroups,vI a0.fRoll.fParties,vI a0.fRoll.fLevels,v0_3,vI a0.fk] 111]):=by
 have hS0:=AK w
 refine AM Tryz.func85 rfl rfl rfl (fun _ cs0 hb0=>?_)
 refine Ae<|Az .plain rfl (AI hS0 rfl rfl) (fun w2 b5 hS3 hT4=>?_)
 refine Ag rfl<|Aa<|Ae<|Ab (FV.makeFunc (vs:=[]) (us:=[vP b5]) evs_nil (e1 rfl))<|Ag rfl<|Aa<|Am rfl<|Ay (u:=.func (.func 106) #[] #[vP b5]) hb0 Tryz.func85 rfl (.cons (.tmp rfl) .nil) rfl ?_
 exact ⟨hS3.ag,fun w9 hw9=>⟨b5,rfl,hS3.agree hw9⟩⟩
theorem body85:bodyB Tryz.prog 85 = true:=by kernel_rfl
theorem body106:bodyB Tryz.prog 106 = true:=by kernel_rfl
def balance_count_check_l1 (n:Nat) (a1:List Int) (a0:Tcount) (g0:Nat × (List (Int × Bool)) → Option ((Except Tbroken Unit) ⊕ (List (Int × Bool)))):Nat × (List (Int × Bool)) → Option ((Except Tbroken Unit) ⊕ (List (Int × Bool)))
  | (b0,d0)=>(if b0 < a1.length then (a1[b0]?).bind fun c0=>(if c0 < 0 then (balance_fail_p n true (220:Int)).bind fun p0=>exc p0 (fun s0=>g0 (b0 + 1,mset d0 c0 true)) (fun j0=>some (.inl (.error j0))) else (balance_fail_p n (decide (a0.fk ≤ c0)) (220:Int)).bind fun q0=>exc q0 (fun t0=>g0 (b0 + 1,mset d0 c0 true)) (fun k0=>some (.inl (.error k0)))) else some (.inr d0))
def balance_count_check_l2 (n:Nat) (a1:List Int) (a0:Tcount) (g0:Nat × (List (Int × Bool)) → Option ((Except Tbroken Unit) ⊕ (List (Int × Bool)))):Nat × (List (Int × Bool)) → Option ((Except Tbroken Unit) ⊕ (List (Int × Bool)))
  | (b0,d0)=>(if b0 < a1.length then (a1[b0]?).bind fun c0=>(if c0 < 0 then (balance_fail_p n true (220:Int)).bind fun p0=>exc p0 (fun s0=>g0 (b0 + 1,mset d0 c0 true)) (fun j0=>some (.inl (.error j0))) else (balance_fail_p n (decide (a0.fk ≤ c0)) (220:Int)).bind fun q0=>exc q0 (fun t0=>g0 (b0 + 1,mset d0 c0 true)) (fun k0=>some (.inl (.error k0)))) else some (.inr d0))
def balance_count_check_l3 (n:Nat) (a0:Tcount) (a1:List Int) (g0:Nat × Int → Option ((Except Tbroken Unit) ⊕ Int)):Nat × Int → Option ((Except Tbroken Unit) ⊕ Int)
  | (b0,c0)=>(if b0 < a0.fRoll.fUnits.length then (a0.fRoll.fUnits[b0]?).bind fun q0=>(if q0.fWater = true then ((balance_fail_p n (!(decide (((a1.length:Nat):Int) = c0))) (220:Int)).bind fun s0=>exc s0 (fun u0=>thn (loopF (balance_count_check_l1 n a1 a0) n (0,([]:List (Int × Bool)))) (fun d0=>(balance_fail_p n (!(decide (((d0.length:Nat):Int) = a0.fk))) (220:Int)).bind fun t0=>exc t0 (fun v0=>some (.ok ())) (fun k0=>some (.error k0)))) (fun j0=>some (.error j0))).map .inl else (chk (c0 + 1)).bind fun p0=>g0 (b0 + 1,p0)) else some (.inr c0))
def balance_count_check_p (n:Nat) (a0:Tcount) (a1:List Int):Option (Except Tbroken Unit):=
  thn (loopF (balance_count_check_l3 n a0 a1) n (0,0)) (fun k0=>(balance_fail_p n (!(decide (((a1.length:Nat):Int) = k0))) (220:Int)).bind fun g0=>exc g0 (fun p0=>thn (loopF (balance_count_check_l2 n a1 a0) n (0,([]:List (Int × Bool)))) (fun b0=>(balance_fail_p n (!(decide (((b0.length:Nat):Int) = a0.fk))) (220:Int)).bind fun j0=>exc j0 (fun q0=>some (.ok ())) (fun d0=>some (.error d0)))) (fun c0=>some (.error c0)))
theorem balance_count_check_c (n:Nat) (L:List Nat) (w:World) (hL:∀ b ∈ L,b < w.heap.size) (a0:Tcount) {v0_3:Value} (h0_3:Rep.R w L [v0_3] a0.fRoll.fUnits) (a1:List Int) {v1_0:Value} (h1_0:Rep.R w L [v1_0] a1)  {r:Except Tbroken Unit} (h:balance_count_check_p n a0 a1 = some r) :
    Calls Tryz.prog 84 #[.agg #[vI a0.fRoll.fGroups,vI a0.fRoll.fParties,vI a0.fRoll.fLevels,v0_3,vI a0.fk],v1_0] w (PGives w (fun (y:Unit) _ u=>u = .tuple #[]) (fun e=>.iface 137 (.agg #[vI e.fErrno])) r):=by
 unfold balance_count_check_p at h
 have hS0:=AK w
 refine MX.startP Tryz.func84 rfl rfl rfl (fun _ cs0 hb0 hp0=>?_)
 refine Ae<|Az .plain rfl (AI hS0 rfl rfl) (fun w2 b5 hS3 hT4=>?_)
 refine Aa<|Ae<|Az .plain rfl (AX [vI 0] hS3) (fun w7 G0 hS8 hT9=>?_)
 refine Bk [vI 0] hS8 .hd (o1 rfl) (fun A4 A0 y5=>?_)
 refine Aa<|Ak<|Ae<|Ab (AG rfl (A0.memA (.tl .hd)))<|Bx (fst:=[]) (cap:=[]) .plain body85 rfl (e1 rfl) (fun w9 hw9=>Calls.gives (balance_count_land_c n _ w9 (A0.hL hL hw9) a0 (A0.km h0_3 hw9)) fun (w8:World) (u8:Value) ⟨b0_,hu_,s_⟩=>(⟨b0_,hu_,s_.from hw9⟩:∃ v0:Nat,u8 = Value.func (.func 106) #[] #[vP v0]∧St A4 w8 [.cells v0 [vI a0.fRoll.fGroups,vI a0.fRoll.fParties,vI a0.fRoll.fLevels,v0_3,vI a0.fk] 111])) rfl (fun P6 K6 B6 ⟨v0,u4,z1⟩=>?_)
 subst u4
 have X1:=mk_push1 A0 z1
 have F5:=mk_tr1 A0 z1
 refine Aa<|AB<|MX.rangeP (lb:=[vP v0]) rfl X1 rfl body106 Tryz.func106 rfl rfl rfl (fun C4 F0 s0 M0 g5 I0 G5 z4 c1 F6=>?_)
 refine Ae<|AH 0 rfl<|AH 3 rfl<|Ab (AA rfl ((mem_from (I0.memA (.tl (.tl .hd))) 0) 3 _ rfl)) ?_
 have k1:=Ax h0_3 I0
 have E6:a0.fRoll.fUnits.length ≤ 281474976710656:=AZ k1
 refine Ab (Bj (xs:=a0.fRoll.fUnits) Tryz.underlying39 rfl k1)<|Ac rfl<|Aa<|AB ?_
 obtain ⟨H6,Z3,d1⟩:=thn_in h
 refine Bp (α:=Nat × Int) (fun ⟨q0,d0⟩=>[(0,.func (.yield F0) #[] #[]),(7,v0_3),(8,vI ((a0.fRoll.fUnits.length:Nat):Int)),(9,vI ((q0:Nat):Int))]) (fun ⟨q0,d0⟩ P0=>St w P0 [.obj F0 (lpO M0 .ready none),.obj s0 (.deferred (some [])),.cells v0 [vI a0.fRoll.fGroups,vI a0.fRoll.fParties,vI a0.fRoll.fLevels,v0_3,vI a0.fk] 111,.cells G0 [vI d0] 3,.cells b5 [vI a0.fRoll.fGroups,vI a0.fRoll.fParties,vI a0.fRoll.fLevels,v0_3,vI a0.fk] 111]∧Tr C4 [.obj F0 (lpO M0 .ready none),.obj s0 (.deferred (some [])),.cells v0 [vI a0.fRoll.fGroups,vI a0.fRoll.fParties,vI a0.fRoll.fLevels,v0_3,vI a0.fk] 111,.cells G0 [vI 0] 3,.cells b5 [vI a0.fRoll.fGroups,vI a0.fRoll.fParties,vI a0.fRoll.fLevels,v0_3,vI a0.fk] 111] P0 [.obj F0 (lpO M0 .ready none),.obj s0 (.deferred (some [])),.cells v0 [vI a0.fRoll.fGroups,vI a0.fRoll.fParties,vI a0.fRoll.fLevels,v0_3,vI a0.fk] 111,.cells G0 [vI d0] 3,.cells b5 [vI a0.fRoll.fGroups,vI a0.fRoll.fParties,vI a0.fRoll.fLevels,v0_3,vI a0.fk] 111]) (fun ⟨q0,d0⟩=>(q0,d0)) (0,0) Z3 ⟨rfl,rfl,rfl,rfl,trivial⟩ ⟨I0,AN _ _⟩ ?_
 rintro U4 ⟨q0,d0⟩ P0 P1 ⟨H0,X2⟩ h
 unfold balance_count_check_l3 at h
 try dsimp only at h
 refine Ae<|Ab (BA (i:=q0) (j:=a0.fRoll.fUnits.length) rfl rfl)<|Aa<|Ak<|AW rfl h (fun E1 h=>?_) (fun E1 h=>?_)
 refine Ao<|Ak<|AB<|Ae<|Ac rfl ?_
 obtain ⟨z0,v4,h⟩:=bi h
 have K3:=Ax h0_3 H0
 obtain ⟨P4,Y4,B3,G3,d5,g4,J3⟩:=Bb K3 v4
 obtain ⟨B1,C1,D1,rfl,j4,k4,p4⟩:=op_TUnit g4
 refine Ab (Be 6 q0 rfl B3 rfl rfl G3)<|Ab (AG rfl J3)<|Az .plain rfl (AX [.string ⟨#[]⟩,vI 0,vN,vN,vN,.bool false] H0) (fun M6 X4 Q1 E0=>?_)
 refine Ag rfl ?_
 have M3:=Aj j4 E0
 have P3:=Aj k4 E0
 have Q3:=Aj p4 E0
 refine Bk [.string z0.fName,vI z0.fPeople,B1,C1,D1,.bool z0.fWater] Q1 .hd (o6 rfl rfl (AP M3) (AP P3) (AP Q3) rfl) (fun Q6 B0 Y2=>?_)
 refine Aa<|Ae<|AH 5 rfl<|AS rfl ((B0.memA .hd) 5 _ rfl)<|Ac rfl<|RG.ifb (s:=16) rfl h (fun F1 h=>?_) (fun F1 h=>?_)
 refine Af<|Af<|Af<|Af<|Af<|AU rfl rfl<|Aa<|AY rfl ?_
 have h:=thn_map h d1
 refine Am rfl<|Ay (u:=.tuple #[]) c1 Tryz.func106 rfl .nil rfl<|MX.endRange0 B0 (.tl .hd) (by intro h9; cases h9) (fun R6 R1 z5=>?_)
 obtain ⟨x0,A5⟩:=AD R1 (.one .hd (.one (.tl .hd) (.one (.tl .hd) (.one (.tl .hd) (.one (.tl .hd) .done)))))
 refine AF<|Ae<|Ac rfl ?_
 have g1:=Ax h1_0 x0
 have C6:a1.length ≤ 281474976710656:=AZ g1
 refine Ab (Bj (xs:=a1) Tryz.underlying43 rfl g1)<|Ab (AA rfl ((x0.memA (.tl (.tl (.tl .hd)))) 0 _ rfl))<|Ab (BO (i:=((a1.length:Nat):Int)) (j:=d0) rfl rfl) ?_
 obtain ⟨E4,p1,h⟩:=bi h
 rcases E4 with k5 | F7
 have h:=exc_e h
 try dsimp only at h
 refine RG.callE (fst:=[]) (cap:=[]) .plain body83 rfl (e2 rfl rfl) (fun w9 hw9=>balance_fail_c n _ w9 (x0.hL0 hL hw9) (!(decide (((a1.length:Nat):Int) = d0))) (220:Int) p1) (fun U6 q3=>?_)
 obtain ⟨U1,B5⟩:=x0.agr q3
 refine PN.take U1 (.tl .hd) (fun V6 V1 C5=>?_)
 obtain ⟨W1,D5⟩:=AD V1 (.one .hd (.one (.tl .hd) (.one (.tl .hd) (.one (.tl .hd) .done))))
 cases h
 exact BU hp0 Tryz.func84 ⟨W1.ag,rfl⟩
 have h:=exc_o h
 try dsimp only at h
 refine BE (.tuple #[]) body83 rfl (e2 rfl rfl) (fun w9 hw9=>BX (balance_fail_c n _ w9 (x0.hL0 hL hw9) (!(decide (((a1.length:Nat):Int) = d0))) (220:Int) p1)) rfl<|Aa<|Ae<|Az .plain rfl (Does.makeMap (κ:=Int) (ν:=Bool) x0) (fun B4 C0 W0 E5=>?_)
 refine Ag rfl<|Aa<|Ak<|Ae<|Ac rfl ?_
 have R3:=Ax h1_0 W0
 refine Ab (Bj (xs:=a1) Tryz.underlying43 rfl R3)<|Ac rfl<|Aa<|AB ?_
 obtain ⟨Y1,H5⟩:=AD W0 (.one .hd (.one (.tl .hd) (.one (.tl (.tl (.tl .hd))) .done)))
 obtain ⟨I6,b4,J0⟩:=thn_in h
 refine Bp (α:=Nat × (List (Int × Bool))) (fun ⟨k0,g0⟩=>[(2,vP b5),(5,.map (some C0)),(20,v1_0),(21,vI ((a1.length:Nat):Int)),(22,vI ((k0:Nat):Int))]) (fun ⟨k0,g0⟩ Q0=>St w Q0 [.obj C0 (mapO (g0:List (Int × Bool))),.obj s0 (.deferred (some [])),.cells b5 [vI a0.fRoll.fGroups,vI a0.fRoll.fParties,vI a0.fRoll.fLevels,v0_3,vI a0.fk] 111]∧Tr B4 [.obj C0 (mapO ([]:List (Int × Bool))),.obj s0 (.deferred (some [])),.cells b5 [vI a0.fRoll.fGroups,vI a0.fRoll.fParties,vI a0.fRoll.fLevels,v0_3,vI a0.fk] 111] Q0 [.obj C0 (mapO (g0:List (Int × Bool))),.obj s0 (.deferred (some [])),.cells b5 [vI a0.fRoll.fGroups,vI a0.fRoll.fParties,vI a0.fRoll.fLevels,v0_3,vI a0.fk] 111]) (fun ⟨k0,g0⟩=>(k0,g0)) (0,([]:List (Int × Bool))) b4 ⟨rfl,rfl,rfl,rfl,rfl,trivial⟩ ⟨Y1,AN _ _⟩ ?_
 rintro V4 ⟨k0,g0⟩ Q0 U0 ⟨b0,Z0⟩ h
 unfold balance_count_check_l1 at h
 try dsimp only at h
 refine Ae<|Ab (BA (i:=k0) (j:=a1.length) rfl rfl)<|Aa<|Ak<|AW rfl h (fun G1 h=>?_) (fun G1 h=>?_)
 refine Ao<|Ak<|AB<|Ae ?_
 obtain ⟨t0,x4,h⟩:=bi h
 have V3:=Ax h1_0 b0
 obtain ⟨Q4,Z4,C3,H3,K1,q4,U3⟩:=Bb V3 x4
 have D3:K1 = [vI t0]:=q4; subst D3
 refine Ab (Be 1 k0 rfl C3 rfl rfl H3)<|AS rfl (U3 0 _ rfl)<|Ag rfl<|Aa<|Ae<|Ac rfl<|Ab (BF (i:=t0) (j:=0) rfl rfl)<|Ac rfl<|Bi (s:=28) rfl h (fun H1 h=>?_) (fun H1 h=>?_)
 refine Af<|Af<|Af<|Af<|AU rfl rfl ?_
 obtain ⟨F4,q1,h⟩:=bi h
 rcases F4 with p5 | G7
 have h:=exc_e h
 try dsimp only at h
 have h:=thn_inl h J0
 refine RG.callE (fst:=[]) (cap:=[]) .plain body83 rfl (e2 rfl rfl) (fun w9 hw9=>balance_fail_c n _ w9 (b0.hL0 hL hw9) true (220:Int) q1) (fun W6 s3=>?_)
 obtain ⟨Z1,I5⟩:=b0.agr s3
 refine PN.take Z1 (.tl .hd) (fun X6 b2 J5=>?_)
 obtain ⟨c2,K5⟩:=AD b2 (.one .hd (.one (.tl .hd) .done))
 cases h
 exact BU hp0 Tryz.func84 ⟨c2.ag,rfl⟩
 have h:=exc_o h
 try dsimp only at h
 refine BE (.tuple #[]) body83 rfl (e2 rfl rfl) (fun w9 hw9=>BX (balance_fail_c n _ w9 (b0.hL0 hL hw9) true (220:Int) q1)) rfl<|Aa<|Aw<|Ac rfl<|Ac rfl<|BG .plain (Acts.mapUpdate (kv:=t0) (vv:=true) b0 .hd Tryz.underlying115 Tryz.underlying3 rfl rfl rfl rfl) (fun Y6 d2 Z2=>?_)
 refine Aa<|AF<|Aw<|Ab (Bu (i:=k0) (j:=1) rfl rfl (by omega))<|Ac rfl<|Aa ?_
 exact U0 (k0 + 1,mset g0 t0 true) _ _ ⟨rfl,rfl,rfl,rfl,rfl,trivial⟩ ⟨d2,(Tt Z0 Z2)⟩ h
 refine Ap (Ai rfl)<|BB 4 rfl<|Ap (AA rfl ((b0.memA (.tl (.tl .hd))) 4 _ rfl))<|Ap (FV.geq (i:=t0) (j:=a0.fk) rfl rfl)<|AO rfl rfl ?_
 obtain ⟨G4,s1,h⟩:=bi h
 rcases G4 with q5 | H7
 have h:=exc_e h
 try dsimp only at h
 have h:=thn_inl h J0
 refine RG.callE (fst:=[]) (cap:=[]) .plain body83 rfl (e2 rfl rfl) (fun w9 hw9=>balance_fail_c n _ w9 (b0.hL0 hL hw9) (decide (a0.fk ≤ t0)) (220:Int) s1) (fun Z6 t3=>?_)
 obtain ⟨g2,M5⟩:=b0.agr t3
 refine PN.take g2 (.tl .hd) (fun b7 j2 P5=>?_)
 obtain ⟨k2,Q5⟩:=AD j2 (.one .hd (.one (.tl .hd) .done))
 cases h
 exact BU hp0 Tryz.func84 ⟨k2.ag,rfl⟩
 have h:=exc_o h
 try dsimp only at h
 refine BE (.tuple #[]) body83 rfl (e2 rfl rfl) (fun w9 hw9=>BX (balance_fail_c n _ w9 (b0.hL0 hL hw9) (decide (a0.fk ≤ t0)) (220:Int) s1)) rfl<|Aa<|Aw<|Ac rfl<|Ac rfl<|BG .plain (Acts.mapUpdate (kv:=t0) (vv:=true) b0 .hd Tryz.underlying115 Tryz.underlying3 rfl rfl rfl rfl) (fun c7 p2 b3=>?_)
 refine Aa<|AF<|Aw<|Ab (Bu (i:=k0) (j:=1) rfl rfl (by omega))<|Ac rfl<|Aa ?_
 exact U0 (k0 + 1,mset g0 t0 true) _ _ ⟨rfl,rfl,rfl,rfl,rfl,trivial⟩ ⟨p2,(Tt Z0 b3)⟩ h
 refine Bd rfl ?_
 have h:=thn_inr h J0
 try dsimp only at h
 refine Aw<|Ac rfl<|Ab (FV.len_map (D:=g0) b0 .hd Tryz.underlying115 rfl)<|AH 4 rfl<|AS rfl ((b0.memA (.tl (.tl .hd))) 4 _ rfl)<|Ab (BO (i:=((g0.length:Nat):Int)) (j:=a0.fk) rfl rfl) ?_
 obtain ⟨H4,t1,h⟩:=bi h
 rcases H4 with s5 | I7
 have h:=exc_e h
 try dsimp only at h
 refine RG.callE (fst:=[]) (cap:=[]) .plain body83 rfl (e2 rfl rfl) (fun w9 hw9=>balance_fail_c n _ w9 (b0.hL0 hL hw9) (!(decide (((g0.length:Nat):Int) = a0.fk))) (220:Int) t1) (fun d7 u3=>?_)
 obtain ⟨q2,R5⟩:=b0.agr u3
 refine PN.take q2 (.tl .hd) (fun g7 s2 U5=>?_)
 obtain ⟨t2,V5⟩:=AD s2 (.one .hd (.one (.tl .hd) .done))
 cases h
 exact BU hp0 Tryz.func84 ⟨t2.ag,rfl⟩
 have h:=exc_o h
 try dsimp only at h
 refine BE (.tuple #[]) body83 rfl (e2 rfl rfl) (fun w9 hw9=>BX (balance_fail_c n _ w9 (b0.hL0 hL hw9) (!(decide (((g0.length:Nat):Int) = a0.fk))) (220:Int) t1)) rfl<|Aa<|MX.fin rfl<|RT.take b0 (.tl .hd) (fun j7 u2 W5=>?_)
 obtain ⟨v2,X5⟩:=AD u2 (.one .hd (.one (.tl .hd) .done))
 refine Ay hb0 Tryz.func84 rfl .nil rfl ?_
 cases h
 exact ⟨v2.ag,fun w9 hw9=>okOf_in rfl⟩
 refine Ap (Ai rfl)<|Ap (Ai rfl)<|Ap (AG rfl (B0.memA .hd))<|RG.yieldP (fd:=84) (vs:=[vI ((q0:Nat):Int),.agg #[.string z0.fName,vI z0.fPeople,B1,C1,D1,.bool z0.fWater]]) (.yes rfl rfl) rfl (e2 rfl rfl) B0 (.tl .hd) z4 rfl rfl rfl (fun j5 A3 G6=>?_)
 refine Ao<|MX.begin B0 (.tl .hd) (fun k7 X0 c3=>?_)
 refine AB<|Aw<|Ab (AA rfl ((X0.memA (.tl (.tl (.tl (.tl .hd))))) 0 _ rfl)) ?_
 obtain ⟨A1,t4,h⟩:=bi h
 refine Ab (BT (i:=d0) (j:=1) rfl rfl t4)<|Bk [vI A1] X0 (.tl (.tl (.tl (.tl .hd)))) (o1 rfl) (fun p7 x2 d3=>?_)
 refine Aa<|AF<|MX.roundEnd A3 x2 (.tl .hd) (fun q7 y2 g3=>?_)
 refine Ap (Ba rfl)<|AO rfl rfl<|Aa<|BC rfl<|Ao<|AF<|Aw<|Ab (Bu (i:=q0) (j:=1) rfl rfl (by omega))<|Ac rfl<|Aa ?_
 obtain ⟨z2,j3⟩:=AD y2 (.one (.tl .hd) (.one (.tl .hd) (.one (.tl .hd) (.one (.tl .hd) (.one (.tl .hd) .done)))))
 have d4:=Tt E0 (Tt Y2 (Tt c3 (Tt d3 (Tt g3 j3))))
 exact P1 (q0 + 1,A1) _ _ ⟨rfl,rfl,rfl,rfl,trivial⟩ ⟨z2,(Tt X2 d4)⟩ h
 refine Bd rfl ?_
 have h:=thn_inr h d1
 try dsimp only at h
 refine MX.fin rfl<|Ay (u:=.tuple #[]) c1 Tryz.func106 rfl .nil rfl<|MX.endRange0 H0 .hd (by intro h9; cases h9) (fun s7 A2 Y5=>?_)
 obtain ⟨y0,Z5⟩:=AD A2 (.one (.tl .hd) (.one (.tl .hd) (.one (.tl .hd) (.one (.tl .hd) .done))))
 refine AF<|Ae<|Ac rfl ?_
 have j1:=Ax h1_0 y0
 have D6:a1.length ≤ 281474976710656:=AZ j1
 refine Ab (Bj (xs:=a1) Tryz.underlying43 rfl j1)<|AS rfl ((y0.memA (.tl (.tl .hd))) 0 _ rfl)<|Ab (BO (i:=((a1.length:Nat):Int)) (j:=d0) rfl rfl) ?_
 obtain ⟨I4,u1,h⟩:=bi h
 rcases I4 with t5 | J7
 have h:=exc_e h
 try dsimp only at h
 refine RG.callE (fst:=[]) (cap:=[]) .plain body83 rfl (e2 rfl rfl) (fun w9 hw9=>balance_fail_c n _ w9 (y0.hL0 hL hw9) (!(decide (((a1.length:Nat):Int) = d0))) (220:Int) u1) (fun t7 v3=>?_)
 obtain ⟨B2,b6⟩:=y0.agr v3
 refine PN.take B2 .hd (fun u7 C2 c6=>?_)
 obtain ⟨D2,d6⟩:=AD C2 (.one (.tl .hd) (.one (.tl .hd) (.one (.tl .hd) .done)))
 cases h
 exact BU hp0 Tryz.func84 ⟨D2.ag,rfl⟩
 have h:=exc_o h
 try dsimp only at h
 refine BE (.tuple #[]) body83 rfl (e2 rfl rfl) (fun w9 hw9=>BX (balance_fail_c n _ w9 (y0.hL0 hL hw9) (!(decide (((a1.length:Nat):Int) = d0))) (220:Int) u1)) rfl<|Aa<|Ae<|Az .plain rfl (Does.makeMap (κ:=Int) (ν:=Bool) y0) (fun D4 D0 Y0 g6=>?_)
 refine Ag rfl<|Aa<|Ak<|Ae<|Ac rfl ?_
 have W3:=Ax h1_0 Y0
 refine Ab (Bj (xs:=a1) Tryz.underlying43 rfl W3)<|Ac rfl<|Aa<|AB ?_
 obtain ⟨E2,j6⟩:=AD Y0 (.one .hd (.one .hd (.one (.tl (.tl .hd)) .done)))
 obtain ⟨J6,c4,K0⟩:=thn_in h
 refine Bp (α:=Nat × (List (Int × Bool))) (fun ⟨p0,j0⟩=>[(2,vP b5),(5,.map (some D0)),(20,v1_0),(21,vI ((a1.length:Nat):Int)),(22,vI ((p0:Nat):Int))]) (fun ⟨p0,j0⟩ R0=>St w R0 [.obj D0 (mapO (j0:List (Int × Bool))),.obj s0 (.deferred (some [])),.cells b5 [vI a0.fRoll.fGroups,vI a0.fRoll.fParties,vI a0.fRoll.fLevels,v0_3,vI a0.fk] 111]∧Tr D4 [.obj D0 (mapO ([]:List (Int × Bool))),.obj s0 (.deferred (some [])),.cells b5 [vI a0.fRoll.fGroups,vI a0.fRoll.fParties,vI a0.fRoll.fLevels,v0_3,vI a0.fk] 111] R0 [.obj D0 (mapO (j0:List (Int × Bool))),.obj s0 (.deferred (some [])),.cells b5 [vI a0.fRoll.fGroups,vI a0.fRoll.fParties,vI a0.fRoll.fLevels,v0_3,vI a0.fk] 111]) (fun ⟨p0,j0⟩=>(p0,j0)) (0,([]:List (Int × Bool))) c4 ⟨rfl,rfl,rfl,rfl,rfl,trivial⟩ ⟨E2,AN _ _⟩ ?_
 rintro W4 ⟨p0,j0⟩ R0 V0 ⟨c0,b1⟩ h
 unfold balance_count_check_l2 at h
 try dsimp only at h
 refine Ae<|Ab (BA (i:=p0) (j:=a1.length) rfl rfl)<|Aa<|Ak<|AW rfl h (fun I1 h=>?_) (fun I1 h=>?_)
 refine Ao<|Ak<|AB<|Ae ?_
 obtain ⟨u0,y4,h⟩:=bi h
 have Y3:=Ax h1_0 c0
 obtain ⟨R4,c5,E3,I3,M1,s4,X3⟩:=Bb Y3 y4
 have F3:M1 = [vI u0]:=s4; subst F3
 refine Ab (Be 1 p0 rfl E3 rfl rfl I3)<|AS rfl (X3 0 _ rfl)<|Ag rfl<|Aa<|Ae<|Ac rfl<|Ab (BF (i:=u0) (j:=0) rfl rfl)<|Ac rfl<|Bi (s:=28) rfl h (fun J1 h=>?_) (fun J1 h=>?_)
 refine Af<|Af<|Af<|Af<|AU rfl rfl ?_
 obtain ⟨J4,v1,h⟩:=bi h
 rcases J4 with u5 | K7
 have h:=exc_e h
 try dsimp only at h
 have h:=thn_inl h K0
 refine RG.callE (fst:=[]) (cap:=[]) .plain body83 rfl (e2 rfl rfl) (fun w9 hw9=>balance_fail_c n _ w9 (c0.hL0 hL hw9) true (220:Int) v1) (fun v7 x3=>?_)
 obtain ⟨F2,k6⟩:=c0.agr x3
 refine PN.take F2 (.tl .hd) (fun x7 G2 p6=>?_)
 obtain ⟨H2,q6⟩:=AD G2 (.one .hd (.one (.tl .hd) .done))
 cases h
 exact BU hp0 Tryz.func84 ⟨H2.ag,rfl⟩
 have h:=exc_o h
 try dsimp only at h
 refine BE (.tuple #[]) body83 rfl (e2 rfl rfl) (fun w9 hw9=>BX (balance_fail_c n _ w9 (c0.hL0 hL hw9) true (220:Int) v1)) rfl<|Aa<|Aw<|Ac rfl<|Ac rfl<|BG .plain (Acts.mapUpdate (kv:=u0) (vv:=true) c0 .hd Tryz.underlying115 Tryz.underlying3 rfl rfl rfl rfl) (fun y7 I2 k3=>?_)
 refine Aa<|AF<|Aw<|Ab (Bu (i:=p0) (j:=1) rfl rfl (by omega))<|Ac rfl<|Aa ?_
 exact V0 (p0 + 1,mset j0 u0 true) _ _ ⟨rfl,rfl,rfl,rfl,rfl,trivial⟩ ⟨I2,(Tt b1 k3)⟩ h
 refine Ap (Ai rfl)<|BB 4 rfl<|Ap (AA rfl ((c0.memA (.tl (.tl .hd))) 4 _ rfl))<|Ap (FV.geq (i:=u0) (j:=a0.fk) rfl rfl)<|AO rfl rfl ?_
 obtain ⟨K4,x1,h⟩:=bi h
 rcases K4 with v5 | M7
 have h:=exc_e h
 try dsimp only at h
 have h:=thn_inl h K0
 refine RG.callE (fst:=[]) (cap:=[]) .plain body83 rfl (e2 rfl rfl) (fun w9 hw9=>balance_fail_c n _ w9 (c0.hL0 hL hw9) (decide (a0.fk ≤ u0)) (220:Int) x1) (fun z7 y3=>?_)
 obtain ⟨J2,s6⟩:=c0.agr y3
 refine PN.take J2 (.tl .hd) (fun A7 K2 t6=>?_)
 obtain ⟨M2,u6⟩:=AD K2 (.one .hd (.one (.tl .hd) .done))
 cases h
 exact BU hp0 Tryz.func84 ⟨M2.ag,rfl⟩
 have h:=exc_o h
 try dsimp only at h
 refine BE (.tuple #[]) body83 rfl (e2 rfl rfl) (fun w9 hw9=>BX (balance_fail_c n _ w9 (c0.hL0 hL hw9) (decide (a0.fk ≤ u0)) (220:Int) x1)) rfl<|Aa<|Aw<|Ac rfl<|Ac rfl<|BG .plain (Acts.mapUpdate (kv:=u0) (vv:=true) c0 .hd Tryz.underlying115 Tryz.underlying3 rfl rfl rfl rfl) (fun B7 P2 p3=>?_)
 refine Aa<|AF<|Aw<|Ab (Bu (i:=p0) (j:=1) rfl rfl (by omega))<|Ac rfl<|Aa ?_
 exact V0 (p0 + 1,mset j0 u0 true) _ _ ⟨rfl,rfl,rfl,rfl,rfl,trivial⟩ ⟨P2,(Tt b1 p3)⟩ h
 refine Bd rfl ?_
 have h:=thn_inr h K0
 try dsimp only at h
 refine Aw<|Ac rfl<|Ab (FV.len_map (D:=j0) c0 .hd Tryz.underlying115 rfl)<|AH 4 rfl<|AS rfl ((c0.memA (.tl (.tl .hd))) 4 _ rfl)<|Ab (BO (i:=((j0.length:Nat):Int)) (j:=a0.fk) rfl rfl) ?_
 obtain ⟨M4,y1,h⟩:=bi h
 rcases M4 with x5 | P7
 have h:=exc_e h
 try dsimp only at h
 refine RG.callE (fst:=[]) (cap:=[]) .plain body83 rfl (e2 rfl rfl) (fun w9 hw9=>balance_fail_c n _ w9 (c0.hL0 hL hw9) (!(decide (((j0.length:Nat):Int) = a0.fk))) (220:Int) y1) (fun C7 z3=>?_)
 obtain ⟨Q2,v6⟩:=c0.agr z3
 refine PN.take Q2 (.tl .hd) (fun D7 R2 x6=>?_)
 obtain ⟨U2,y6⟩:=AD R2 (.one .hd (.one (.tl .hd) .done))
 cases h
 exact BU hp0 Tryz.func84 ⟨U2.ag,rfl⟩
 have h:=exc_o h
 try dsimp only at h
 refine BE (.tuple #[]) body83 rfl (e2 rfl rfl) (fun w9 hw9=>BX (balance_fail_c n _ w9 (c0.hL0 hL hw9) (!(decide (((j0.length:Nat):Int) = a0.fk))) (220:Int) y1)) rfl<|Aa<|MX.fin rfl<|RT.take c0 (.tl .hd) (fun E7 V2 z6=>?_)
 obtain ⟨W2,A6⟩:=AD V2 (.one .hd (.one (.tl .hd) .done))
 refine Ay hb0 Tryz.func84 rfl .nil rfl ?_
 cases h
 exact ⟨W2.ag,fun w9 hw9=>okOf_in rfl⟩
def tb60_6:List (Nat × Nat × Nat):=[(0,262144,32),(0,524288,8),(0,1048576,64),(6,2097152,1572864),(8,4194304,2097152),(17,8388608,4456448),(32,16777216,8388608),(0,33554432,128),(128,67108864,33554432),(320,134217728,83886080),(1023,268435456,4456448),(2047,0,402653184)]
theorem el42:ElT Tryz.prog 42 3 (Rep.size Int) 8 (vI 0) [vI 0]:=⟨Tryz.underlying42,by kernel_rfl,rfl,rfl,rfl,rfl⟩
theorem body84:bodyB Tryz.prog 84 = true:=by kernel_rfl
def balance_count_totals_l1 (_n:Nat) (a0:Tcount) (a1:List Int) (j0:Nat × (List Int) → Option ((Except Tbroken (List Int)) ⊕ (List Int))):Nat × (List Int) → Option ((Except Tbroken (List Int)) ⊕ (List Int))
  | (b0,c0)=>(if b0 < a0.fRoll.fUnits.length then (a0.fRoll.fUnits[b0]?).bind fun d0=>(if d0.fWater = true then some (.inl (.ok c0)) else (a1[b0]?).bind fun g0=>(idx c0 g0).bind fun p0=>(chk (p0 + d0.fPeople)).bind fun k0=>(put c0 ((g0.toNat:Nat):Int) k0).bind fun q0=>j0 (b0 + 1,q0)) else some (.inr c0))
def balance_count_totals_p (n:Nat) (a0:Tcount) (a1:List Int):Option (Except Tbroken (List Int)):=
  (balance_count_check_p n a0 a1).bind fun g0=>exc g0 (fun j0=>(mk a0.fk (0:Int)).bind fun c0=>thn (loopF (balance_count_totals_l1 n a0 a1) n (0,c0)) (fun d0=>some (.ok d0))) (fun b0=>some (.error b0))
theorem balance_count_totals_c (n:Nat) (L:List Nat) (w:World) (hL:∀ b ∈ L,b < w.heap.size) (a0:Tcount) {v0_3:Value} (h0_3:Rep.R w L [v0_3] a0.fRoll.fUnits) (a1:List Int) {v1_0:Value} (h1_0:Rep.R w L [v1_0] a1)  {r:Except Tbroken (List Int)} (h:balance_count_totals_p n a0 a1 = some r) :
    Calls Tryz.prog 60 #[.agg #[vI a0.fRoll.fGroups,vI a0.fRoll.fParties,vI a0.fRoll.fLevels,v0_3,vI a0.fk],v1_0] w (PGives w (fun (y:List Int) w' u=>∃ v0_0:Value,u = v0_0∧Rep.R w' L [v0_0] y) (fun e=>.iface 137 (.agg #[vI e.fErrno])) r):=by
 unfold balance_count_totals_p at h
 have hS0:=AK w
 refine MX.startP Tryz.func60 rfl rfl rfl (fun _ cs0 hb0 hp0=>?_)
 refine Ae<|Az .plain rfl (AI hS0 rfl rfl) (fun w2 b5 hS3 hT4=>?_)
 have hm7:=Ax h1_0 hS3
 refine Az .plain rfl (AI hS3 rfl (Rep.c1 hm7)) (fun w8 A0 hS9 x4=>?_)
 refine Ag rfl<|Aa<|Ae<|Ab (AG rfl (hS9.memA (.tl .hd)))<|AS rfl ((hS9.memA .hd) 0 _ rfl) ?_
 obtain ⟨Y3,D1,h⟩:=bi h
 rcases Y3 with v4 | j5
 have h:=exc_e h
 try dsimp only at h
 refine RG.callE (fst:=[]) (cap:=[]) .plain body84 rfl (e2 rfl rfl) (fun w9 hw9=>balance_count_check_c n _ w9 (hS9.hL0 hL hw9) a0 (hS9.k0 h0_3 hw9) a1 (hS9.k0 h1_0 hw9) D1) (fun J4 H2=>?_)
 obtain ⟨R1,y4⟩:=hS9.agr H2
 cases h
 exact BU hp0 Tryz.func60 ⟨R1.ag,rfl⟩
 have h:=exc_o h
 try dsimp only at h
 refine BE (.tuple #[]) body84 rfl (e2 rfl rfl) (fun w9 hw9=>BX (balance_count_check_c n _ w9 (hS9.hL0 hL hw9) a0 (hS9.k0 h0_3 hw9) a1 (hS9.k0 h1_0 hw9) D1)) rfl<|Aa<|Ae<|AH 4 rfl<|AS rfl ((hS9.memA (.tl .hd)) 4 _ rfl) ?_
 obtain ⟨Y0,C1,h⟩:=bi h
 refine Az .plain rfl (Does.mk (α:=Int) C1 hS9 el42 rfl) (fun K4 c0 Z0 z4=>?_)
 have J2:=Ar (cs:=(List.replicate a0.fk.toNat [vI 0]).flatten) (xs:=Y0) Z0 L (Cells.mk C1 rfl)
 refine Az .plain rfl (AX [vN] Z0) (fun Q4 B0 J0 u2=>?_)
 refine BG .plain (Bq (news:=[(.slice (some ⟨c0,0,none⟩) a0.fk.toNat a0.fk.toNat)]) J0 .hd rfl rfl rfl (St.c1 (α:=Int) J0 (.tl .hd)) rfl rfl (o1 (Bz (α:=Int) J0 (.tl .hd)))) (fun V3 v0 z2=>?_)
 refine Aa<|Ak<|Ae<|Ab (AG rfl (v0.memA (.tl (.tl (.tl .hd)))))<|Bx (fst:=[]) (cap:=[]) .plain body85 rfl (e1 rfl) (fun w9 hw9=>Calls.gives (balance_count_land_c n _ w9 (v0.hL hL hw9) a0 (v0.km h0_3 hw9)) fun (w8:World) (u8:Value) ⟨b0_,hu_,s_⟩=>(⟨b0_,hu_,s_.from hw9⟩:∃ q0:Nat,u8 = Value.func (.func 106) #[] #[vP q0]∧St V3 w8 [.cells q0 [vI a0.fRoll.fGroups,vI a0.fRoll.fParties,vI a0.fRoll.fLevels,v0_3,vI a0.fk] 111])) rfl (fun g5 I4 C4 ⟨q0,J3,E1⟩=>?_)
 subst J3
 have j2:=mk_push1 v0 E1
 have F2:=mk_tr1 v0 E1
 refine Aa<|AB<|MX.rangeP (lb:=[vP q0]) rfl j2 rfl body106 Tryz.func106 rfl rfl rfl (fun W3 y0 z0 E0 u4 Q0 G2 U3 p1 F4=>?_)
 refine Ae<|AH 0 rfl<|AH 3 rfl<|Ab (AA rfl ((mem_from (Q0.memA (.tl (.tl .hd))) 0) 3 _ rfl)) ?_
 have x1:=Ax h0_3 Q0
 have D4:a0.fRoll.fUnits.length ≤ 281474976710656:=AZ x1
 refine Ab (Bj (xs:=a0.fRoll.fUnits) Tryz.underlying39 rfl x1)<|Ac rfl<|Aa<|AB ?_
 have x3:=Tt u2 (Tt z2 (Tt F2 G2))
 have W2:=Al J2 x3
 obtain ⟨G4,v3,s1⟩:=thn_in h
 refine Bp (α:=Nat × (List Int) × (List Value)) (fun ⟨d0,p0,s0⟩=>[(0,.func (.yield y0) #[] #[]),(7,v0_3),(8,vI ((a0.fRoll.fUnits.length:Nat):Int)),(9,vI ((d0:Nat):Int))]) (fun ⟨d0,p0,s0⟩ F0=>St w F0 [.obj y0 (lpO E0 .ready none),.obj z0 (.deferred (some [])),.cells q0 [vI a0.fRoll.fGroups,vI a0.fRoll.fParties,vI a0.fRoll.fLevels,v0_3,vI a0.fk] 111,.cells B0 [(.slice (some ⟨c0,0,none⟩) a0.fk.toNat a0.fk.toNat)] 42,.row w.heap.size 3 (Rep.size Int) (.slice (some ⟨c0,0,none⟩) a0.fk.toNat a0.fk.toNat) p0.length s0,.cells A0 [v1_0] 43,.cells b5 [vI a0.fRoll.fGroups,vI a0.fRoll.fParties,vI a0.fRoll.fLevels,v0_3,vI a0.fk] 111]∧Tr W3 [.obj y0 (lpO E0 .ready none),.obj z0 (.deferred (some [])),.cells q0 [vI a0.fRoll.fGroups,vI a0.fRoll.fParties,vI a0.fRoll.fLevels,v0_3,vI a0.fk] 111,.cells B0 [(.slice (some ⟨c0,0,none⟩) a0.fk.toNat a0.fk.toNat)] 42,.row w.heap.size 3 (Rep.size Int) (.slice (some ⟨c0,0,none⟩) a0.fk.toNat a0.fk.toNat) Y0.length ((List.replicate a0.fk.toNat [vI 0]).flatten),.cells A0 [v1_0] 43,.cells b5 [vI a0.fRoll.fGroups,vI a0.fRoll.fParties,vI a0.fRoll.fLevels,v0_3,vI a0.fk] 111] F0 [.obj y0 (lpO E0 .ready none),.obj z0 (.deferred (some [])),.cells q0 [vI a0.fRoll.fGroups,vI a0.fRoll.fParties,vI a0.fRoll.fLevels,v0_3,vI a0.fk] 111,.cells B0 [(.slice (some ⟨c0,0,none⟩) a0.fk.toNat a0.fk.toNat)] 42,.row w.heap.size 3 (Rep.size Int) (.slice (some ⟨c0,0,none⟩) a0.fk.toNat a0.fk.toNat) p0.length s0,.cells A0 [v1_0] 43,.cells b5 [vI a0.fRoll.fGroups,vI a0.fRoll.fParties,vI a0.fRoll.fLevels,v0_3,vI a0.fk] 111]∧Cells F0 (bl [.obj y0 (lpO E0 .ready none),.obj z0 (.deferred (some [])),.cells q0 [vI a0.fRoll.fGroups,vI a0.fRoll.fParties,vI a0.fRoll.fLevels,v0_3,vI a0.fk] 111,.cells B0 [(.slice (some ⟨c0,0,none⟩) a0.fk.toNat a0.fk.toNat)] 42,.row w.heap.size 3 (Rep.size Int) (.slice (some ⟨c0,0,none⟩) a0.fk.toNat a0.fk.toNat) p0.length s0,.cells A0 [v1_0] 43,.cells b5 [vI a0.fRoll.fGroups,vI a0.fRoll.fParties,vI a0.fRoll.fLevels,v0_3,vI a0.fk] 111] ++ L) s0 p0) (fun ⟨d0,p0,s0⟩=>(d0,p0)) (0,Y0,(List.replicate a0.fk.toNat [vI 0]).flatten) v3 ⟨rfl,rfl,rfl,rfl,trivial⟩ ⟨Q0,AN _ _,W2⟩ ?_
 rintro c4 ⟨d0,p0,s0⟩ F0 Q1 ⟨H0,k2,R0⟩ h
 unfold balance_count_totals_l1 at h
 try dsimp only at h
 refine Ae<|Ab (BA (i:=d0) (j:=a0.fRoll.fUnits.length) rfl rfl)<|Aa<|Ak<|AW rfl h (fun I1 h=>?_) (fun I1 h=>?_)
 refine Ao<|Ak<|AB<|Ae<|Ac rfl ?_
 obtain ⟨j0,K3,h⟩:=bi h
 have Y2:=Ax h0_3 H0
 obtain ⟨Z3,j4,M2,U2,s4,B3,X2⟩:=Bb Y2 K3
 obtain ⟨V0,W0,X0,rfl,z1,A1,B1⟩:=op_TUnit B3
 refine Ab (Be 6 d0 rfl M2 rfl rfl U2)<|Ab (AG rfl X2)<|Az .plain rfl (AX [.string ⟨#[]⟩,vI 0,vN,vN,vN,.bool false] H0) (fun M4 d4 U1 x0=>?_)
 refine Ag rfl ?_
 have Z2:=Aj z1 x0
 have b3:=Aj A1 x0
 have c3:=Aj B1 x0
 refine Bk [.string j0.fName,vI j0.fPeople,V0,W0,X0,.bool j0.fWater] U1 .hd (o6 rfl rfl (AP Z2) (AP b3) (AP c3) rfl) (fun P4 u0 g1=>?_)
 refine Aa<|Ae<|AH 5 rfl<|AS rfl ((u0.memA .hd) 5 _ rfl)<|Ac rfl<|RG.ifb (s:=16) rfl h (fun J1 h=>?_) (fun J1 h=>?_)
 refine Af<|Af<|Af<|Af<|Af<|AU rfl rfl<|Aa<|AY rfl ?_
 have h:=thn_inl h s1
 refine Am rfl<|Ay (u:=.tuple #[]) p1 Tryz.func106 rfl .nil rfl<|MX.endRange0 u0 (.tl .hd) (by intro h9; cases h9) (fun R4 V1 p2=>?_)
 obtain ⟨b1,q2⟩:=AD V1 (.one .hd (.one (.tl .hd) (.one (.tl .hd) (.one (.tl .hd) (.one (.tl .hd) (.one (.tl .hd) (.one (.tl .hd) .done)))))))
 refine AF<|Ae<|Ab (AA rfl ((b1.memA (.tl (.tl (.tl .hd)))) 0 _ rfl))<|Ag rfl<|Aa<|Am rfl<|RT.take b1 (.tl .hd) (fun U4 W1 s2=>?_)
 obtain ⟨I0,t2⟩:=AD W1 (.one .hd (.one (.tl .hd) (.one (.tl .hd) (.one (.tl .hd) (.one (.tl .hd) (.one (.tl .hd) .done))))))
 have y3:=Tt x0 (Tt g1 (Tt p2 (Tt q2 (Tt s2 t2))))
 have d3:=Al R0 y3
 have C3:=AQ (α:=Int) I0 (.tl (.tl (.tl .hd))) d3 hL
 have K0:=Bf I0 (.tl (.tl (.tl .hd)))
 have A4:=Bg I0 (.tl (.tl (.tl .hd)))
 have D3:=Bh (α:=Int) (v:=(.slice (some ⟨c0,0,none⟩) a0.fk.toNat a0.fk.toNat)) (xs:=p0) K0 L C3
 refine AJ hb0 Tryz.func60 rfl rfl ?_
 cases h
 exact ⟨K0.ag,fun w9 hw9=>okOf_in ⟨(.slice (some ⟨c0,0,none⟩) a0.fk.toNat a0.fk.toNat),rfl,K0.kd D3 hw9⟩⟩
 refine Ap (Ai rfl)<|Ap (Ai rfl)<|Ap (AG rfl (u0.memA .hd))<|RG.yieldP (fd:=60) (vs:=[vI ((d0:Nat):Int),.agg #[.string j0.fName,vI j0.fPeople,V0,W0,X0,.bool j0.fWater]]) (.yes rfl rfl) rfl (e2 rfl rfl) u0 (.tl .hd) U3 rfl rfl rfl (fun t4 I2 E4=>?_)
 refine Ae<|Ag rfl<|Aa<|Aw<|Az .plain rfl (AX [.string ⟨#[]⟩,vI 0,vN,vN,vN,.bool false] u0) (fun V4 g4 X1 v2=>?_)
 have D0:=Tt x0 (Tt g1 v2)
 have g3:=Aj z1 D0
 have j3:=Aj A1 D0
 have k3:=Aj B1 D0
 refine Bk [.string j0.fName,vI j0.fPeople,V0,W0,X0,.bool j0.fWater] X1 .hd (o6 rfl rfl (AP g3) (AP j3) (AP k3) rfl) (fun W4 Y1 x2=>?_)
 refine Aa<|MX.begin Y1 (.tl (.tl .hd)) (fun X4 t0 y2=>?_)
 refine AB<|Bm 11 tb60_6 (by kernel_rfl) (by kernel_rfl) (by kernel_rfl) (fun b0 g0=>?_)
 refine AT 0 1 3680 b0 rfl g0 (AA rfl ((t0.memA (.tl (.tl (.tl (.tl (.tl .hd)))))) 0 _ rfl)) rfl<|AT 1 3 3704 b0 rfl g0 (AA rfl ((t0.memA (.tl (.tl (.tl (.tl (.tl (.tl (.tl .hd)))))))) 0 _ rfl)) rfl<|Ah 2 7 b0 rfl g0 (fun _=>Ai rfl) rfl ?_
 obtain ⟨G0,M3,h⟩:=bi h
 have q3:=Ax h1_0 t0
 obtain ⟨b4,k4,P2,V2,K1,E3,p3⟩:=Bb q3 M3
 have Q2:K1 = [vI G0]:=E3; subst Q2
 refine Ah 3 15 b0 rfl g0 (fun _=>Be 1 d0 rfl P2 rfl rfl V2) rfl<|AT 4 31 3680 b0 rfl g0 (AA rfl (p3 0 _ rfl)) rfl ?_
 obtain ⟨F1,P3,h⟩:=bi h
 obtain ⟨u1,Q3⟩:=idx_in P3
 have y1:=Tt D0 (Tt x2 y2)
 have v1:=Al R0 y1
 obtain ⟨G1,p4,C0,U0,M1,F3,s3⟩:=St.nth (α:=Int) t0 (.tl (.tl (.tl (.tl (.tl (.tl .hd)))))) v1 Q3
 obtain ⟨H1,q4,q1⟩:=BH (α:=Int) t0 (.tl (.tl (.tl (.tl (.tl (.tl .hd)))))) U0
 obtain rfl:G1 = ⟨H1,0,none⟩:=by rw [q1] at C0; cases C0; rfl
 have R2:M1 = [vI F1]:=F3; subst R2
 refine Ah 5 63 b0 rfl g0 (fun _=>Be 1 (G0.toNat) rfl C0 rfl u1 U0) rfl<|AT 6 127 3584 b0 rfl g0 (AA rfl (s3 0 _ rfl)) rfl<|Ah 7 255 b0 rfl g0 (fun _=>Bt 1 rfl) rfl<|AT 8 511 3584 b0 rfl g0 (AA rfl ((t0.memA .hd) 1 _ rfl)) rfl ?_
 obtain ⟨H4,I3,h⟩:=bi h
 refine Ah 9 1023 b0 rfl g0 (fun _=>BT (i:=F1) (j:=j0.fPeople) rfl rfl I3) rfl<|Ah 10 2047 b0 rfl g0 (fun _=>Be 1 (G0.toNat) rfl C0 rfl u1 U0) rfl ?_
 obtain ⟨X3,R3,h⟩:=bi h
 refine BD (i:=11) (readyD_ok b0 (by kernel_rfl)) (RO.acts (m' :=4095) (stepC_ok b0 (by kernel_rfl)) rfl rfl .plain (Acts.set (α:=Int) (i:=G0.toNat) R3 t0 q1 (fun _=>(.tl (.tl (.tl (.tl (.tl (.tl .hd))))))) v1 rfl rfl rfl rfl rfl (by kernel_rfl)) (fun Y4 ⟨P1,Z1,A2,K2⟩=>?_))
 refine Bc (doneD_ok b0 (by kernel_rfl))<|AF<|MX.roundEnd I2 Z1 (.tl (.tl .hd)) (fun Z4 b2 j1=>?_)
 refine Ap (Ba rfl)<|AO rfl rfl<|Aa<|BC rfl<|Ao<|AF<|Aw<|Ab (Bu (i:=d0) (j:=1) rfl rfl (by omega))<|Ac rfl<|Aa ?_
 obtain ⟨c2,k1⟩:=AD b2 (.one (.tl (.tl .hd)) (.one (.tl (.tl .hd)) (.one (.tl (.tl .hd)) (.one (.tl (.tl .hd)) (.one (.tl (.tl .hd)) (.one (.tl (.tl .hd)) (.one (.tl (.tl .hd)) .done)))))))
 have t3:=Al K2 (Tt j1 k1)
 have z3:=Tt y1 (Tt A2 (Tt j1 k1))
 exact Q1 (d0 + 1,X3,P1) _ _ ⟨rfl,rfl,rfl,rfl,trivial⟩ ⟨c2,(Tt k2 z3),t3⟩ h
 refine Bd rfl ?_
 have h:=thn_inr h s1
 try dsimp only at h
 refine MX.fin rfl<|Ay (u:=.tuple #[]) p1 Tryz.func106 rfl .nil rfl<|MX.endRange0 H0 .hd (by intro h9; cases h9) (fun c5 d2 B2=>?_)
 obtain ⟨d1,C2⟩:=AD d2 (.one (.tl .hd) (.one (.tl .hd) (.one (.tl .hd) (.one (.tl .hd) (.one (.tl .hd) (.one (.tl .hd) .done))))))
 refine AF<|Ae<|AS rfl ((d1.memA (.tl (.tl .hd))) 0 _ rfl)<|Ag rfl<|Aa<|Am rfl<|RT.take d1 .hd (fun d5 g2 D2=>?_)
 obtain ⟨M0,E2⟩:=AD g2 (.one (.tl .hd) (.one (.tl .hd) (.one (.tl .hd) (.one (.tl .hd) (.one (.tl .hd) .done)))))
 have A3:=Tt B2 (Tt C2 (Tt D2 E2))
 have u3:=Al R0 A3
 have G3:=AQ (α:=Int) M0 (.tl (.tl .hd)) u3 hL
 have P0:=Bf M0 (.tl (.tl .hd))
 have B4:=Bg M0 (.tl (.tl .hd))
 have H3:=Bh (α:=Int) (v:=(.slice (some ⟨c0,0,none⟩) a0.fk.toNat a0.fk.toNat)) (xs:=p0) P0 L G3
 refine AJ hb0 Tryz.func60 rfl rfl ?_
 cases h
 exact ⟨P0.ag,fun w9 hw9=>okOf_in ⟨(.slice (some ⟨c0,0,none⟩) a0.fk.toNat a0.fk.toNat),rfl,P0.kd H3 hw9⟩⟩
end Go.Proofs.YtcijnmkodpfpgaaGreatDoor
