/- Functions of the program, and what they give: part 1. -/
import Derived.Test.YtmhgoecnjleagaaGreatDoorProg
import Derived.Test.YtmhgoecnjleagaaGreatDoorXMk
namespace Go.Proofs.YtmhgoecnjleagaaGreatDoor
open Go Go.RowKit
set_option maxRecDepth 4000
set_option maxHeartbeats 4000000

structure Tbounds where
  flow:Int
  fhigh:Int
  deriving DecidableEq
instance:Rep Tbounds:=Rep.via (β:=Int × Int) fun x=>(x.flow,x.fhigh)
structure Tbroken where
  fErrno:Int
  deriving DecidableEq
instance:Rep Tbroken:=Rep.via (β:=Int) fun x=>x.fErrno
def balance_need_p (_n:Nat) (a0:Int):Option (Except Tbroken Unit):=
  (if a0 = 0 then some (.ok ()) else some (.error (⟨a0⟩:Tbroken)))
theorem balance_need_c (n:Nat) (L:List Nat) (w:World) (_hL:∀ b ∈ L,b < w.heap.size) (a0:Int)  {r:Except Tbroken Unit} (h:balance_need_p n a0 = some r) :
    Calls Tryz.prog 100 #[vI a0] w (PGives w (fun (y:Unit) _ u=>u = .tuple #[]) (fun e=>.iface 140 (.agg #[vI e.fErrno])) r):=by
 unfold balance_need_p at h
 have hS0:=Ax w
 refine MX.startP Tryz.func100 rfl rfl rfl (fun _ cs0 hb0 hp0=>?_)
 refine Ac<|Ae rfl<|Ab (FV.neq (i:=a0) (j:=0) rfl rfl)<|Aa<|MX.ifn rfl h (fun c1 h=>?_) (fun c1 h=>?_)
 refine Aq<|MX.fin rfl<|Ao hb0 Tryz.func100 rfl .nil rfl ?_
 cases h
 exact ⟨hS0.ag,fun w9 hw9=>okOf_in rfl⟩
 refine Ar<|Ae rfl<|Ab (AS (vs:=[vI a0]) (u:=.agg #[vI a0]) (e1 rfl) (fun w9=>by kernel_rfl))<|Ab (FV.makeInterface (by kernel_rfl) rfl)<|RG.panic .plain rfl ?_
 cases h
 exact Ba hp0 Tryz.func100 ⟨hS0.ag,rfl⟩
theorem body100:bodyB Tryz.prog 100 = true:=by kernel_rfl
def balance_fail_p (n:Nat) (a0:Bool) (a1:Int):Option (Except Tbroken Unit):=
  (if a0 = true then (balance_need_p n a1).bind fun y2=>exc y2 (fun c0=>some (.ok ())) (fun b0=>some (.error b0)) else some (.ok ()))
theorem balance_fail_c (n:Nat) (L:List Nat) (w:World) (hL:∀ b ∈ L,b < w.heap.size) (a0:Bool) (a1:Int)  {r:Except Tbroken Unit} (h:balance_fail_p n a0 a1 = some r) :
    Calls Tryz.prog 75 #[.bool a0,vI a1] w (PGives w (fun (y:Unit) _ u=>u = .tuple #[]) (fun e=>.iface 140 (.agg #[vI e.fErrno])) r):=by
 unfold balance_fail_p at h
 have hS0:=Ax w
 refine MX.startP Tryz.func75 rfl rfl rfl (fun _ cs0 hb0 hp0=>?_)
 refine Ac<|Ae rfl<|Aa<|MX.ifb rfl h (fun c1 h=>?_) (fun c1 h=>?_)
 refine Ar<|Ae rfl ?_
 obtain ⟨y2,hy2,h⟩:=bi h
 rcases y2 with d0 | k0
 have h:=exc_e h
 try dsimp only at h
 refine Bu (fst:=[]) (cap:=[]) .plain body100 rfl (e1 rfl) (fun w9 hw9=>balance_need_c n _ w9 (hS0.hL0 hL hw9) a1 hy2) (fun j0 c0=>?_)
 obtain ⟨b0,g0⟩:=hS0.agr c0
 cases h
 exact Ba hp0 Tryz.func75 ⟨b0.ag,rfl⟩
 have h:=exc_o h
 try dsimp only at h
 refine Bf (.tuple #[]) body100 rfl (e1 rfl) (fun w9 hw9=>AU (balance_need_c n _ w9 (hS0.hL0 hL hw9) a1 hy2)) rfl<|Aa<|MX.fin rfl<|Ao hb0 Tryz.func75 rfl .nil rfl ?_
 cases h
 exact ⟨hS0.ag,fun w9 hw9=>okOf_in rfl⟩
 refine Aq<|MX.fin rfl<|Ao hb0 Tryz.func75 rfl .nil rfl ?_
 cases h
 exact ⟨hS0.ag,fun w9 hw9=>okOf_in rfl⟩
def slices_Index_bool_bool_l1 (_n:Nat) (a0:List Bool) (a1:Bool) (c0:Nat → Option (Int ⊕ Unit)):Nat → Option (Int ⊕ Unit)
  | b0=>(if b0 < a0.length then (a0[b0]?).bind fun d0=>(if (a1 == d0) = true then some (.inl ((b0:Nat):Int)) else c0 (b0 + 1)) else some (.inr ()))
def slices_Index_bool_bool_p (n:Nat) (a0:List Bool) (a1:Bool):Option Int:=
  thn (loopF (slices_Index_bool_bool_l1 n a0 a1) n 0) (fun _=>some (-1:Int))
theorem slices_Index_bool_bool_c (n:Nat) (L:List Nat) (w:World) (_hL:∀ b ∈ L,b < w.heap.size) (a0:List Bool) {v0_0:Value} (h0_0:Rep.R w L [v0_0] a0) (a1:Bool)  {r:Int} (h:slices_Index_bool_bool_p n a0 a1 = some r) :
    Calls Tryz.prog 201 #[v0_0,.bool a1] w (Gives w fun _ u=>u = vI r):=by
 unfold slices_Index_bool_bool_p at h
 have hS0:=Ax w
 refine AA Tryz.func201 rfl rfl rfl (fun _ cs0 hb0=>?_)
 refine Ac<|Ag rfl<|Aa<|Ak<|Ac<|Ae rfl ?_
 have hl1:a0.length ≤ 281474976710656:=AT h0_0
 refine Ab (Bb (xs:=a0) Tryz.underlying169 rfl h0_0)<|Ae rfl<|Aa<|Az ?_
 obtain ⟨G0,A0,g0⟩:=thn_in h
 refine Bj (α:=Nat) (fun b0=>[(0,v0_0),(1,.bool a1),(7,vI ((a0.length:Nat):Int)),(8,vI ((b0:Nat):Int))]) (fun b0 d0=>St w d0 []∧Tr w [] d0 []) (fun b0=>b0) 0 A0 ⟨rfl,rfl,rfl,rfl,trivial⟩ ⟨hS0,AP _ _⟩ ?_
 rintro E0 b0 d0 s0 ⟨c0,t0⟩ h
 unfold slices_Index_bool_bool_l1 at h
 try dsimp only at h
 refine Ac<|Ab (Bn (i:=b0) (j:=a0.length) rfl rfl)<|Aa<|Ak<|AQ rfl h (fun k0 h=>?_) (fun k0 h=>?_)
 refine Aq<|Ak<|Az<|Ac<|Ae rfl<|Ag rfl<|Aa<|Ac<|Ae rfl<|Ae rfl<|Ae rfl ?_
 obtain ⟨j0,C0,h⟩:=bi h
 have z0:=AM h0_0 c0
 obtain ⟨D0,F0,u0,x0,q0,B0,y0⟩:=Bm z0 C0
 have v0:q0 = [.bool j0]:=B0; subst v0
 refine Ab (Bo 1 b0 rfl u0 rfl rfl x0)<|Bd rfl (y0 0 _ rfl)<|Ab (FV.eqlB (a:=a1) (b:=j0) Tryz.underlying4 rfl rfl)<|Aa<|MX.ifb rfl h (fun p0 h=>?_) (fun p0 h=>?_)
 refine Ac<|Ae rfl<|Ag rfl<|Aa ?_
 have h:=thn_inl h g0
 refine Al rfl<|Bc hb0 Tryz.func201 rfl rfl ?_
 cases h
 exact c0.gv
 refine Aq<|AC<|Ar<|Ab (Br (i:=b0) (j:=1) rfl rfl (by omega))<|Ae rfl<|Aa ?_
 exact s0 (b0 + 1) _ _ ⟨rfl,rfl,rfl,rfl,trivial⟩ ⟨c0,t0⟩ h
 refine Be rfl ?_
 have h:=thn_inr h g0
 try dsimp only at h
 refine Ac<|Ag rfl<|Aa<|Al rfl<|Bc hb0 Tryz.func201 rfl rfl ?_
 cases h
 exact c0.gv
theorem body201:bodyB Tryz.prog 201 = true:=by kernel_rfl
def slices_Contains_bool_bool_p (n:Nat) (a0:List Bool) (a1:Bool):Option Bool:=
  (slices_Index_bool_bool_p n a0 a1).bind fun y1=>some (decide (0 ≤ y1))
theorem slices_Contains_bool_bool_c (n:Nat) (L:List Nat) (w:World) (hL:∀ b ∈ L,b < w.heap.size) (a0:List Bool) {v0_0:Value} (h0_0:Rep.R w L [v0_0] a0) (a1:Bool)  {r:Bool} (h:slices_Contains_bool_bool_p n a0 a1 = some r) :
    Calls Tryz.prog 178 #[v0_0,.bool a1] w (Gives w fun _ u=>u = .bool r):=by
 unfold slices_Contains_bool_bool_p at h
 have hS0:=Ax w
 refine AA Tryz.func178 rfl rfl rfl (fun _ cs0 hb0=>?_)
 refine Ac<|Ag rfl<|Aa<|Ac<|Ae rfl<|Ae rfl ?_
 obtain ⟨y1,hy1,h⟩:=bi h
 refine Bf (vI y1) body201 rfl (e2 rfl rfl) (fun w9 hw9=>slices_Index_bool_bool_c n _ w9 (hS0.hL0 hL hw9) a0 (hS0.kd h0_0 hw9) a1 hy1) rfl<|Ab (FV.geq (i:=y1) (j:=0) rfl rfl)<|Ag rfl<|Aa<|Al rfl<|Bc hb0 Tryz.func178 rfl rfl ?_
 cases h
 exact hS0.gv
theorem body178:bodyB Tryz.prog 178 = true:=by kernel_rfl
def units_every_p (n:Nat) (a0:List Bool):Option Bool:=
  (slices_Contains_bool_bool_p n a0 false).bind fun y1=>some (!y1)
theorem units_every_c (n:Nat) (L:List Nat) (w:World) (hL:∀ b ∈ L,b < w.heap.size) (a0:List Bool) {v0_0:Value} (h0_0:Rep.R w L [v0_0] a0)  {r:Bool} (h:units_every_p n a0 = some r) :
    Calls Tryz.prog 141 #[v0_0] w (Gives w fun _ u=>u = .bool r):=by
 unfold units_every_p at h
 have hS0:=Ax w
 refine AA Tryz.func141 rfl rfl rfl (fun _ cs0 hb0=>?_)
 refine Ac<|Ag rfl<|Aa<|Ac<|Ae rfl ?_
 obtain ⟨y1,hy1,h⟩:=bi h
 refine Bf (.bool y1) body178 rfl (e2 rfl rfl) (fun w9 hw9=>slices_Contains_bool_bool_c n _ w9 (hS0.hL0 hL hw9) a0 (hS0.kd h0_0 hw9) false hy1) rfl<|Ab (Bz rfl)<|Ag rfl<|Aa<|Al rfl<|Bc hb0 Tryz.func141 rfl rfl ?_
 cases h
 exact hS0.gv
def strings_trimLeftByte_l1 (_n:Nat) (a1:UInt8) (c0:ByteArray → Option ByteArray):ByteArray → Option ByteArray
  | b0=>(if 0 < b0.size then (b0.data[0]?).bind fun g0=>(if g0.toNat = a1.toNat then (scut b0 1 (b0.size:Int)).bind fun d0=>c0 d0 else some b0) else some b0)
def strings_trimLeftByte_p (n:Nat) (a0:ByteArray) (a1:UInt8):Option ByteArray:=
  jn (fun c0=>some c0) (fun b0=>Option.bind (loopF (strings_trimLeftByte_l1 n a1) n a0) (b0))
theorem strings_trimLeftByte_c (n:Nat) (L:List Nat) (w:World) (_hL:∀ b ∈ L,b < w.heap.size) (a0:ByteArray) (a1:UInt8)  {r:ByteArray} (h:strings_trimLeftByte_p n a0 a1 = some r) :
    Calls Tryz.prog 202 #[.string a0,.int .u8 (a1.toNat:Int)] w (Gives w fun _ u=>u = .string r):=by
 unfold strings_trimLeftByte_p at h
 have hS0:=Ax w
 refine AA Tryz.func202 rfl rfl rfl (fun _ cs0 hb0=>?_)
 refine Ac<|Ag rfl<|Aa<|Ak<|Az<|MX.joinx (α:=ByteArray) (fun c0=>[(0,.string c0)]) (fun c0 j0=>St w j0 []∧Tr w [] j0 []) (fun c0=>c0) (id:=0) rfl h ?_ ?_
 rintro c0 j0 ⟨v0,E0⟩ h
 try dsimp only at h
 refine Ac<|Ae rfl<|Ag rfl<|Aa<|Al rfl<|Bc hb0 Tryz.func202 rfl rfl ?_
 cases h
 exact v0.gv
 intro C0 p0 h
 try dsimp only at h
 obtain ⟨F0,x0,q0⟩:=bind_in2 h
 refine Bj (α:=ByteArray) (fun b0=>[(0,.string b0),(1,.int .u8 (a1.toNat:Int))]) (fun b0 k0=>St w k0 []∧Tr w [] k0 []) (fun b0=>b0) a0 x0 ⟨rfl,rfl,trivial⟩ ⟨hS0,AP _ _⟩ ?_
 rintro D0 b0 k0 u0 ⟨d0,g0⟩ h
 unfold strings_trimLeftByte_l1 at h
 try dsimp only at h
 refine Ak<|Ac<|Ae rfl<|Ab (By Tryz.underlying9 rfl)<|Ab (FV.gtrN (i:=b0.size) (j:=0) rfl rfl)<|Ae rfl<|RG.ifd (s:=8) rfl h (fun s0 h=>?_) (fun s0 h=>?_)
 refine AY (Ai rfl) ?_
 obtain ⟨B0,z0,h⟩:=bi h
 refine AY (FV.strAt (k:=0) Tryz.underlying9 rfl rfl rfl z0)<|AY (Ai rfl)<|AY (FV.eqlN (i:=B0.toNat) (j:=a1.toNat) rfl rfl)<|RG.pt rfl rfl<|Aa<|AQ rfl h (fun t0 h=>?_) (fun t0 h=>?_)
 refine Aq<|Az<|Ar<|Ae rfl ?_
 obtain ⟨A0,y0,h⟩:=bi h
 refine Ab (FV.strCut y0 Tryz.underlying9 rfl ⟨_,rfl⟩ rfl)<|Ag rfl<|Aa<|AC ?_
 exact u0 A0 _ _ ⟨rfl,rfl,trivial⟩ ⟨d0,g0⟩ h
 refine Be rfl ?_
 have h:=q0 _ h
 try dsimp only at h
 exact p0 b0 _ _ ⟨rfl,trivial⟩ ⟨d0,g0⟩ h
 refine AR<|AR<|AR<|AR<|RG.pf rfl rfl<|Aa<|Bv rfl<|Be rfl ?_
 have h:=q0 _ h
 try dsimp only at h
 exact p0 b0 _ _ ⟨rfl,trivial⟩ ⟨d0,g0⟩ h
def strings_trimRightByte_l1 (_n:Nat) (a1:UInt8) (c0:ByteArray → Option ByteArray):ByteArray → Option ByteArray
  | b0=>(if 0 < b0.size then (chk (((b0.size:Nat):Int) - 1)).bind fun d0=>(sidx b0 d0).bind fun k0=>(if k0.toNat = a1.toNat then (chk (((b0.size:Nat):Int) - 1)).bind fun g0=>(scut b0 0 g0).bind fun j0=>c0 j0 else some b0) else some b0)
def strings_trimRightByte_p (n:Nat) (a0:ByteArray) (a1:UInt8):Option ByteArray:=
  jn (fun c0=>some c0) (fun b0=>Option.bind (loopF (strings_trimRightByte_l1 n a1) n a0) (b0))
theorem strings_trimRightByte_c (n:Nat) (L:List Nat) (w:World) (_hL:∀ b ∈ L,b < w.heap.size) (a0:ByteArray) (a1:UInt8)  {r:ByteArray} (h:strings_trimRightByte_p n a0 a1 = some r) :
    Calls Tryz.prog 203 #[.string a0,.int .u8 (a1.toNat:Int)] w (Gives w fun _ u=>u = .string r):=by
 unfold strings_trimRightByte_p at h
 have hS0:=Ax w
 refine AA Tryz.func203 rfl rfl rfl (fun _ cs0 hb0=>?_)
 refine Ac<|Ag rfl<|Aa<|Ak<|Az<|MX.joinx (α:=ByteArray) (fun c0=>[(0,.string c0)]) (fun c0 j0=>St w j0 []∧Tr w [] j0 []) (fun c0=>c0) (id:=0) rfl h ?_ ?_
 rintro c0 j0 ⟨v0,J0⟩ h
 try dsimp only at h
 refine Ac<|Ae rfl<|Ag rfl<|Aa<|Al rfl<|Bc hb0 Tryz.func203 rfl rfl ?_
 cases h
 exact v0.gv
 intro H0 p0 h
 try dsimp only at h
 obtain ⟨K0,y0,q0⟩:=bind_in2 h
 refine Bj (α:=ByteArray) (fun b0=>[(0,.string b0),(1,.int .u8 (a1.toNat:Int))]) (fun b0 k0=>St w k0 []∧Tr w [] k0 []) (fun b0=>b0) a0 y0 ⟨rfl,rfl,trivial⟩ ⟨hS0,AP _ _⟩ ?_
 rintro I0 b0 k0 u0 ⟨d0,g0⟩ h
 unfold strings_trimRightByte_l1 at h
 try dsimp only at h
 refine Ak<|Ac<|Ae rfl<|Ab (By Tryz.underlying9 rfl)<|Ab (FV.gtrN (i:=b0.size) (j:=0) rfl rfl)<|Ae rfl<|RG.ifd (s:=8) rfl h (fun s0 h=>?_) (fun s0 h=>?_)
 refine AY (Ai rfl)<|AY (Ai rfl)<|AY (By Tryz.underlying9 rfl) ?_
 obtain ⟨E0,z0,h⟩:=bi h
 refine AY (FV.subc (i:=((b0.size:Nat):Int)) (j:=1) rfl rfl z0) ?_
 obtain ⟨G0,D0,h⟩:=bi h
 obtain ⟨x0,C0⟩:=sidx_in D0
 refine AY (FV.strAt (k:=E0.toNat) Tryz.underlying9 rfl rfl x0 C0)<|AY (Ai rfl)<|AY (FV.eqlN (i:=G0.toNat) (j:=a1.toNat) rfl rfl)<|RG.pt rfl rfl<|Aa<|AQ rfl h (fun t0 h=>?_) (fun t0 h=>?_)
 refine Aq<|Az<|Ar<|Ae rfl<|Ae rfl<|Ab (By Tryz.underlying9 rfl) ?_
 obtain ⟨M0,A0,h⟩:=bi h
 refine Ab (FV.subc (i:=((b0.size:Nat):Int)) (j:=1) rfl rfl A0) ?_
 obtain ⟨F0,B0,h⟩:=bi h
 refine Ab (FV.strCut B0 Tryz.underlying9 rfl rfl ⟨_,rfl⟩)<|Ag rfl<|Aa<|AC ?_
 exact u0 F0 _ _ ⟨rfl,rfl,trivial⟩ ⟨d0,g0⟩ h
 refine Be rfl ?_
 have h:=q0 _ h
 try dsimp only at h
 exact p0 b0 _ _ ⟨rfl,trivial⟩ ⟨d0,g0⟩ h
 refine AR<|AR<|AR<|AR<|AR<|AR<|AR<|RG.pf rfl rfl<|Aa<|Bv rfl<|Be rfl ?_
 have h:=q0 _ h
 try dsimp only at h
 exact p0 b0 _ _ ⟨rfl,trivial⟩ ⟨d0,g0⟩ h
def internal_stringslite_IndexByte_p (_n:Nat) (_a0:ByteArray) (_a1:UInt8):Option Int:=
  none
theorem internal_stringslite_IndexByte_c (n:Nat) (L:List Nat) (w:World) (_hL:∀ b ∈ L,b < w.heap.size) (a0:ByteArray) (a1:UInt8)  {r:Int} (h:internal_stringslite_IndexByte_p n a0 a1 = some r) :
    Calls Tryz.prog 231 #[.string a0,.int .u8 (a1.toNat:Int)] w (Gives w fun _ u=>u = vI r):=by
 unfold internal_stringslite_IndexByte_p at h
 have hS0:=Ax w
 refine AA Tryz.func231 rfl rfl rfl (fun _ cs0 hb0=>?_)
 refine Ac<|Ag rfl<|Aa<|Ac<|Ae rfl<|Ae rfl ?_
 cases h
theorem body231:bodyB Tryz.prog 231 = true:=by kernel_rfl
def strings_IndexByte_p (n:Nat) (a0:ByteArray) (a1:UInt8):Option Int:=
  (internal_stringslite_IndexByte_p n a0 a1).bind fun y1=>some y1
theorem strings_IndexByte_c (n:Nat) (L:List Nat) (w:World) (hL:∀ b ∈ L,b < w.heap.size) (a0:ByteArray) (a1:UInt8)  {r:Int} (h:strings_IndexByte_p n a0 a1 = some r) :
    Calls Tryz.prog 227 #[.string a0,.int .u8 (a1.toNat:Int)] w (Gives w fun _ u=>u = vI r):=by
 unfold strings_IndexByte_p at h
 have hS0:=Ax w
 refine AA Tryz.func227 rfl rfl rfl (fun _ cs0 hb0=>?_)
 refine Ac<|Ag rfl<|Aa<|Ac<|Ae rfl<|Ae rfl ?_
 obtain ⟨y1,hy1,h⟩:=bi h
 refine Bf (vI y1) body231 rfl (e2 rfl rfl) (fun w9 hw9=>internal_stringslite_IndexByte_c n _ w9 (hS0.hL0 hL hw9) a0 a1 hy1) rfl<|Ag rfl<|Aa<|Al rfl<|Bc hb0 Tryz.func227 rfl rfl ?_
 cases h
 exact hS0.gv
def unicode_utf8_ValidRune_p (_n:Nat) (a0:Int):Option Bool:=
  (if 0 ≤ a0 then (if a0 < 55296 then some true else (if 57343 < a0 then (if a0 ≤ 1114111 then some true else some false) else some false)) else (if 57343 < a0 then (if a0 ≤ 1114111 then some true else some false) else some false))
theorem unicode_utf8_ValidRune_c (n:Nat) (L:List Nat) (w:World) (_hL:∀ b ∈ L,b < w.heap.size) (a0:Int)  {r:Bool} (h:unicode_utf8_ValidRune_p n a0 = some r) :
    Calls Tryz.prog 228 #[.int .i32 a0] w (Gives w fun _ u=>u = .bool r):=by
 unfold unicode_utf8_ValidRune_p at h
 have hS0:=Ax w
 refine AA Tryz.func228 rfl rfl rfl (fun _ cs0 hb0=>?_)
 refine Ac<|Ag rfl<|Aa<|Ak<|Az<|Ac<|Ae rfl<|Ab (FV.leq (i:=0) (j:=a0) rfl rfl)<|Ae rfl<|RG.ifd (s:=6) rfl h (fun c1 h=>?_) (fun c1 h=>?_)
 refine AY (Ai rfl)<|AY (FV.lss (i:=a0) (j:=55296) rfl rfl)<|RG.pt rfl rfl<|Ag rfl<|Aa<|AQ rfl h (fun c2 h=>?_) (fun c2 h=>?_)
 refine Ac<|Ag rfl<|Aa<|Al rfl<|Bc hb0 Tryz.func228 rfl rfl ?_
 cases h
 exact hS0.gv
 refine Ac<|Ae rfl<|Ab (FV.lss (i:=57343) (j:=a0) rfl rfl)<|Ae rfl<|RG.ifd (s:=13) rfl h (fun c3 h=>?_) (fun c3 h=>?_)
 refine AY (Ai rfl)<|AY (FV.leq (i:=a0) (j:=1114111) rfl rfl)<|RG.pt rfl rfl<|Ag rfl<|Aa<|AQ rfl h (fun c4 h=>?_) (fun c4 h=>?_)
 refine Ac<|Ag rfl<|Aa<|Al rfl<|Bc hb0 Tryz.func228 rfl rfl ?_
 cases h
 exact hS0.gv
 refine Aq<|AC<|Ac<|Ag rfl<|Aa<|Al rfl<|Bc hb0 Tryz.func228 rfl rfl ?_
 cases h
 exact hS0.gv
 refine AR<|AR<|RG.pf rfl rfl<|Ag rfl<|Aa<|Bv rfl<|Aq<|AC<|Ac<|Ag rfl<|Aa<|Al rfl<|Bc hb0 Tryz.func228 rfl rfl ?_
 cases h
 exact hS0.gv
 refine AR<|AR<|RG.pf rfl rfl<|Ag rfl<|Aa<|Bv rfl<|Ac<|Ae rfl<|Ab (FV.lss (i:=57343) (j:=a0) rfl rfl)<|Ae rfl<|RG.ifd (s:=13) rfl h (fun c5 h=>?_) (fun c5 h=>?_)
 refine AY (Ai rfl)<|AY (FV.leq (i:=a0) (j:=1114111) rfl rfl)<|RG.pt rfl rfl<|Ag rfl<|Aa<|AQ rfl h (fun c6 h=>?_) (fun c6 h=>?_)
 refine Ac<|Ag rfl<|Aa<|Al rfl<|Bc hb0 Tryz.func228 rfl rfl ?_
 cases h
 exact hS0.gv
 refine Aq<|AC<|Ac<|Ag rfl<|Aa<|Al rfl<|Bc hb0 Tryz.func228 rfl rfl ?_
 cases h
 exact hS0.gv
 refine AR<|AR<|RG.pf rfl rfl<|Ag rfl<|Aa<|Bv rfl<|Aq<|AC<|Ac<|Ag rfl<|Aa<|Al rfl<|Bc hb0 Tryz.func228 rfl rfl ?_
 cases h
 exact hS0.gv
def internal_bytealg_Cutover_p (_n:Nat) (a0:Int):Option Int:=
  (chk (a0 + 16)).bind fun s1=>(quoI s1 8).bind fun s2=>some s2
theorem internal_bytealg_Cutover_c (n:Nat) (L:List Nat) (w:World) (_hL:∀ b ∈ L,b < w.heap.size) (a0:Int)  {r:Int} (h:internal_bytealg_Cutover_p n a0 = some r) :
    Calls Tryz.prog 229 #[vI a0] w (Gives w fun _ u=>u = vI r):=by
 unfold internal_bytealg_Cutover_p at h
 have hS0:=Ax w
 refine AA Tryz.func229 rfl rfl rfl (fun _ cs0 hb0=>?_)
 refine Ac<|Ag rfl<|Aa<|Ac<|Ae rfl ?_
 obtain ⟨s1,hs1,h⟩:=bi h
 refine Ab (BC (i:=a0) (j:=16) rfl rfl hs1) ?_
 obtain ⟨s2,hs2,h⟩:=bi h
 refine Ab (FV.quoc (i:=s1) (j:=8) rfl rfl hs2)<|Ag rfl<|Aa<|Al rfl<|Bc hb0 Tryz.func229 rfl rfl ?_
 cases h
 exact hS0.gv
def unicode_utf8_RuneStart_p (_n:Nat) (a0:UInt8):Option Bool:=
  some (!(decide (((a0 &&& (192:UInt8)).toNat) = 128)))
theorem unicode_utf8_RuneStart_c (n:Nat) (L:List Nat) (w:World) (_hL:∀ b ∈ L,b < w.heap.size) (a0:UInt8)  {r:Bool} (h:unicode_utf8_RuneStart_p n a0 = some r) :
    Calls Tryz.prog 225 #[.int .u8 (a0.toNat:Int)] w (Gives w fun _ u=>u = .bool r):=by
 unfold unicode_utf8_RuneStart_p at h
 have hS0:=Ax w
 refine AA Tryz.func225 rfl rfl rfl (fun _ cs0 hb0=>?_)
 refine Ac<|Ag rfl<|Aa<|Ac<|Ae rfl<|Ab (FV.and8 (a:=a0) (b:=(192:UInt8)) rfl rfl)<|Ab (FV.neqN (i:=(a0 &&& (192:UInt8)).toNat) (j:=128) rfl rfl)<|Ag rfl<|Aa<|Al rfl<|Bc hb0 Tryz.func225 rfl rfl ?_
 cases h
 exact hS0.gv
def tb179_4:List (Nat × Nat × Nat):=[(0,4194304,1),(0,8388608,2),(2,16777216,8388608),(5,33554432,20971520),(0,67108864,2),(16,134217728,67108864),(40,268435456,167772160),(127,16,268435456)]
theorem body202:bodyB Tryz.prog 202 = true:=by kernel_rfl
theorem body203:bodyB Tryz.prog 203 = true:=by kernel_rfl
theorem body204:bodyB Tryz.prog 204 = true:=by kernel_rfl
theorem body205:bodyB Tryz.prog 205 = true:=by kernel_rfl
theorem body206:bodyB Tryz.prog 206 = true:=by kernel_rfl
theorem body217:bodyB Tryz.prog 217 = true:=by kernel_rfl
def strings_Trim_l1 (_n:Nat) (g0:List Bool) (c0:ByteArray → Option ByteArray):ByteArray → Option ByteArray
  | b0=>(if 0 < b0.size then (b0.data[0]?).bind fun j0=>(g0[j0.toNat]?).bind fun k0=>(if k0 = true then (scut b0 1 (b0.size:Int)).bind fun d0=>c0 d0 else some b0) else some b0)
def strings_Trim_l2 (_n:Nat) (k0:List Bool) (c0:ByteArray → Option ByteArray):ByteArray → Option ByteArray
  | b0=>(if 0 < b0.size then (chk (((b0.size:Nat):Int) - 1)).bind fun d0=>(sidx b0 d0).bind fun p0=>(k0[p0.toNat]?).bind fun q0=>(if q0 = true then (chk (((b0.size:Nat):Int) - 1)).bind fun g0=>(scut b0 0 g0).bind fun j0=>c0 j0 else some b0) else some b0)
def strings_Trim_l3 (_n:Nat) (a1:ByteArray) (g0:Nat × (List Bool) → Option (ByteArray ⊕ (List Bool))):Nat × (List Bool) → Option (ByteArray ⊕ (List Bool))
  | (b0,c0)=>(if b0 < a1.size then (a1.data[b0]?).bind fun d0=>(if 128 ≤ d0.toNat then (none).map .inl else (c0[d0.toNat]?).bind fun j0=>g0 (b0 + 1,(c0.set d0.toNat true))) else some (.inr c0))
def strings_Trim_l4 (_n:Nat) (g0:List Bool) (c0:ByteArray → Option ByteArray):ByteArray → Option ByteArray
  | b0=>(if 0 < b0.size then (b0.data[0]?).bind fun j0=>(g0[j0.toNat]?).bind fun k0=>(if k0 = true then (scut b0 1 (b0.size:Int)).bind fun d0=>c0 d0 else some b0) else some b0)
def strings_Trim_l5 (_n:Nat) (k0:List Bool) (c0:ByteArray → Option ByteArray):ByteArray → Option ByteArray
  | b0=>(if 0 < b0.size then (chk (((b0.size:Nat):Int) - 1)).bind fun d0=>(sidx b0 d0).bind fun p0=>(k0[p0.toNat]?).bind fun q0=>(if q0 = true then (chk (((b0.size:Nat):Int) - 1)).bind fun g0=>(scut b0 0 g0).bind fun j0=>c0 j0 else some b0) else some b0)
def strings_Trim_l6 (_n:Nat) (a1:ByteArray) (g0:Int × (List Bool) → Option (ByteArray ⊕ (List Bool))):Int × (List Bool) → Option (ByteArray ⊕ (List Bool))
  | (c0,b0)=>(if c0 < ((a1.size:Nat):Int) then (sidx a1 c0).bind fun d0=>(if 128 ≤ d0.toNat then (none).map .inl else (b0[d0.toNat]?).bind fun k0=>(chk (c0 + 1)).bind fun j0=>g0 (j0,(b0.set d0.toNat true))) else some (.inr b0))
def strings_Trim_p (n:Nat) (a0:ByteArray) (a1:ByteArray):Option ByteArray:=
  (if a0 = ⟨#[]⟩ then some a0 else (if a1 = ⟨#[]⟩ then some a0 else (if a1.size = 1 then (a1.data[0]?).bind fun z4=>(if z4.toNat < 128 then (a1.data[0]?).bind fun z8=>(strings_trimRightByte_p n a0 z8).bind fun y9=>(a1.data[0]?).bind fun v0=>(strings_trimLeftByte_p n y9 v0).bind fun u0=>some u0 else thn (loopF (strings_Trim_l3 n a1) n (0,(List.replicate 256 false))) (fun c0=>jn (fun p0=>jn (fun q0=>some q0) (fun g0=>Option.bind (loopF (strings_Trim_l1 n c0) n p0) (g0))) (fun d0=>Option.bind (loopF (strings_Trim_l2 n c0) n a0) (d0)))) else thn (loopF (strings_Trim_l6 n a1) n (0,(List.replicate 256 false))) (fun b0=>jn (fun s0=>jn (fun t0=>some t0) (fun k0=>Option.bind (loopF (strings_Trim_l4 n b0) n s0) (k0))) (fun j0=>Option.bind (loopF (strings_Trim_l5 n b0) n a0) (j0))))))
theorem strings_Trim_c (n:Nat) (L:List Nat) (w:World) (hL:∀ b ∈ L,b < w.heap.size) (a0:ByteArray) (a1:ByteArray)  {r:ByteArray} (h:strings_Trim_p n a0 a1 = some r) :
    Calls Tryz.prog 179 #[.string a0,.string a1] w (Gives w fun _ u=>u = .string r):=by
 unfold strings_Trim_p at h
 have hS0:=Ax w
 refine AA Tryz.func179 rfl rfl rfl (fun _ cs0 hb0=>?_)
 refine Ac<|Ag rfl<|Aa<|Ak<|Ac<|Ae rfl<|Ab (FV.eqlS rfl rfl)<|Ae rfl<|RG.ifd (s:=9) rfl h (fun c1 h=>?_) (fun c1 h=>?_)
 refine AR<|AR<|RG.pt rfl rfl<|Aa<|Bp rfl<|Ac<|Ae rfl<|Ag rfl<|Aa<|Al rfl<|Bc hb0 Tryz.func179 rfl rfl ?_
 cases h
 exact hS0.gv
 refine AY (Ai rfl)<|AY (FV.eqlS rfl rfl)<|RG.pf rfl rfl<|Aa<|AQ rfl h (fun c2 h=>?_) (fun c2 h=>?_)
 refine Ac<|Ae rfl<|Ag rfl<|Aa<|Al rfl<|Bc hb0 Tryz.func179 rfl rfl ?_
 cases h
 exact hS0.gv
 refine Aq<|Ak<|Ac<|Ae rfl<|Ab (By Tryz.underlying9 rfl)<|Ab (FV.eqlN (i:=a1.size) (j:=1) rfl rfl)<|Ae rfl<|RG.ifd (s:=17) rfl h (fun c3 h=>?_) (fun c3 h=>?_)
 refine AY (Ai rfl) ?_
 obtain ⟨z4,hz4,h⟩:=bi h
 refine AY (FV.strAt (k:=0) Tryz.underlying9 rfl rfl rfl hz4)<|AY (Bn (i:=z4.toNat) (j:=128) rfl rfl)<|RG.pt rfl rfl<|Aa<|AQ rfl h (fun c5 h=>?_) (fun c5 h=>?_)
 refine Ak<|AF 8 tb179_4 (by kernel_rfl) (by kernel_rfl) (by kernel_rfl) (fun kt6 kp7=>?_)
 refine Ah 0 1 kt6 rfl kp7 (fun _=>Ai rfl) rfl<|Ah 1 3 kt6 rfl kp7 (fun _=>Ai rfl) rfl ?_
 obtain ⟨z8,hz8,h⟩:=bi h
 refine Ah 2 7 kt6 rfl kp7 (fun _=>FV.strAt (k:=0) Tryz.underlying9 rfl rfl rfl hz8) rfl ?_
 obtain ⟨y9,hy9,h⟩:=bi h
 refine BI 3 15 192 (.string y9) kt6 rfl kp7 body203 rfl (e2 rfl rfl) (fun w9 hw9=>strings_trimRightByte_c n _ w9 (hS0.hL0 hL hw9) a0 z8 hy9) rfl<|Ah 4 31 kt6 rfl kp7 (fun _=>Ai rfl) rfl ?_
 obtain ⟨Q4,u4,h⟩:=bi h
 refine Ah 5 63 kt6 rfl kp7 (fun _=>FV.strAt (k:=0) Tryz.underlying9 rfl rfl rfl u4) rfl ?_
 obtain ⟨P4,t4,h⟩:=bi h
 refine BI 6 127 128 (.string P4) kt6 rfl kp7 body202 rfl (e2 rfl rfl) (fun w9 hw9=>strings_trimLeftByte_c n _ w9 (hS0.hL0 hL hw9) y9 Q4 t4) rfl<|Ah 7 255 kt6 rfl kp7 (fun _=>AJ rfl) rfl<|AE (doneD_ok kt6 (by kernel_rfl))<|Al rfl<|Bc hb0 Tryz.func179 rfl rfl ?_
 cases h
 exact hS0.gv
 refine Aq<|Ak<|Ac<|Ae rfl<|Bw (fst:=[]) (cap:=[]) (vs:=[.string a1]) .plain body204 Tryz.func204 rfl rfl rfl rfl (e1 rfl) rfl (fun v5 H1 q6=>?_)
 refine Ac ?_
 have A3:(List.replicate 256 false).length = 256:=List.length_replicate
 refine Aj .plain rfl (Av ((List.replicate 256 false).map (fun z9:Bool=>(.bool z9:Value))) hS0) (fun K4 z0 F2 I5=>?_)
 refine Ag rfl<|Aa<|Ak<|Ac<|Ag rfl<|Aa<|Az ?_
 obtain ⟨G6,W3,R1⟩:=thn_in h
 refine Bj (α:=Nat × (List Bool)) (fun ⟨s0,c0⟩=>[(0,.string a1),(2,vP z0),(4,vI ((s0:Nat):Int))]) (fun ⟨s0,c0⟩ p1=>St w p1 [.cells z0 (c0.map (fun z9:Bool=>(.bool z9:Value))) 228]∧Tr K4 [.cells z0 ((List.replicate 256 false).map (fun z9:Bool=>(.bool z9:Value))) 228] p1 [.cells z0 (c0.map (fun z9:Bool=>(.bool z9:Value))) 228]∧c0.length = 256) (fun ⟨s0,c0⟩=>(s0,c0)) (0,(List.replicate 256 false)) W3 ⟨rfl,rfl,rfl,trivial⟩ ⟨F2,AP _ _,A3⟩ ?_
 rintro q5 ⟨s0,c0⟩ p1 D2 ⟨C0,d3,k0⟩ h
 unfold strings_Trim_l3 at h
 try dsimp only at h
 refine Ak<|Ac<|Ae rfl<|Ae rfl<|Ab (By Tryz.underlying9 rfl)<|Ab (Bn (i:=s0) (j:=a1.size) rfl rfl)<|Aa<|AQ rfl h (fun v2 h=>?_) (fun v2 h=>?_)
 refine Aq<|Ak<|Az<|Ac<|Ae rfl<|Ae rfl ?_
 obtain ⟨G0,C4,h⟩:=bi h
 refine Ab (FV.strAt (k:=s0) Tryz.underlying9 rfl rfl rfl C4)<|Ag rfl<|Aa<|Ak<|Ac<|Ae rfl<|Ab (FV.geqN (i:=G0.toNat) (j:=128) rfl rfl)<|Aa<|AQ rfl h (fun x2 h=>?_) (fun x2 h=>?_)
 refine Ac<|Ab (Bl (cs:=c0.map (fun z9:Bool=>(.bool z9:Value))) (by rw [List.length_map,k0]; kernel_rfl) rfl (C0.memA .hd))<|RG.now .plain (Acts.storeBig (fun z9:Bool=>(.bool z9:Value)) (m:=256) k0 k0 C0 .hd rfl rfl (by kernel_rfl) (fun _=>rfl)) (fun U6 D1 Y5=>?_)
 refine Ag rfl<|Aa ?_
 have h:=thn_map h R1
 refine Al rfl<|Ao (u:=.tuple #[.agg (c0.map (fun z9:Bool=>(.bool z9:Value))).toArray,.bool false]) H1 Tryz.func204 rfl (.cons (.many (cs:=c0.map (fun z9:Bool=>(.bool z9:Value))) (by rw [List.length_map,k0]; kernel_rfl) rfl (D1.memA .hd)) (.cons (.tmp rfl) .nil)) rfl<|Ae rfl<|Ab (Af rfl rfl)<|Ab (Af rfl rfl) ?_
 have F3:(List.replicate 256 false).length = 256:=List.length_replicate
 refine Aj .plain rfl (Av ((List.replicate 256 false).map (fun z9:Bool=>(.bool z9:Value))) D1) (fun V6 t5 V2 Z5=>?_)
 refine RG.now .plain (Acts.storeBig (fun z9:Bool=>(.bool z9:Value)) (m:=256) F3 k0 V2 .hd rfl rfl (by kernel_rfl) (fun _=>rfl)) (fun W6 G5 b6=>?_)
 refine Ag rfl<|Aa<|Ac<|Ae rfl<|Aa<|Bv rfl<|Aq<|Ac<|Ae rfl<|Ae rfl ?_
 cases h
 refine Aq<|Ar<|Ae rfl ?_
 obtain ⟨c7,X0,h⟩:=bi h
 have k6:=mem_elem1 (p:=⟨z0,0,none⟩) (cs:=c0.map (fun z9:Bool=>(.bool z9:Value))) (i:=G0.toNat) (C0.memA .hd) (arr_get0 (fun z9:Bool=>(.bool z9:Value)) X0)
 refine Ab (AZ (m:=1) (k:=G0.toNat) (len:=256) (by kernel_rfl) rfl rfl rfl (arr_lt X0 k0)) ?_
 have G3:(c0.set G0.toNat true).length = 256:=by rw [List.length_set]; exact k0
 refine RG.now .plain (Acts.setBig (fun z9:Bool=>(.bool z9:Value)) (i:=G0.toNat) (x:=true) (m:=256) k0 (arr_lt X0 k0) C0 .hd rfl (addr_at _ _ _) rfl (by kernel_rfl) (fun _=>⟨rfl,rfl⟩)) (fun X6 W2 g3=>?_)
 refine Aa<|AC<|Ar<|Ae rfl<|Ab (Br (i:=s0) (j:=1) rfl rfl (by omega))<|Ag rfl<|Aa ?_
 exact D2 (s0 + 1,(c0.set G0.toNat true)) _ _ ⟨rfl,rfl,rfl,trivial⟩ ⟨W2,(Tt d3 g3),G3⟩ h
 refine Be rfl ?_
 have h:=thn_inr h R1
 try dsimp only at h
 refine Ac<|Ab (Bl (cs:=c0.map (fun z9:Bool=>(.bool z9:Value))) (by rw [List.length_map,k0]; kernel_rfl) rfl (C0.memA .hd))<|RG.now .plain (Acts.storeBig (fun z9:Bool=>(.bool z9:Value)) (m:=256) k0 k0 C0 .hd rfl rfl (by kernel_rfl) (fun _=>rfl)) (fun Y6 E1 c6=>?_)
 refine Ag rfl<|Aa<|Al rfl<|Ao (u:=.tuple #[.agg (c0.map (fun z9:Bool=>(.bool z9:Value))).toArray,.bool true]) H1 Tryz.func204 rfl (.cons (.many (cs:=c0.map (fun z9:Bool=>(.bool z9:Value))) (by rw [List.length_map,k0]; kernel_rfl) rfl (E1.memA .hd)) (.cons (.tmp rfl) .nil)) rfl<|Ae rfl<|Ab (Af rfl rfl)<|Ab (Af rfl rfl) ?_
 have H3:(List.replicate 256 false).length = 256:=List.length_replicate
 refine Aj .plain rfl (Av ((List.replicate 256 false).map (fun z9:Bool=>(.bool z9:Value))) E1) (fun Z6 g0 X2 d6=>?_)
 refine RG.now .plain (Acts.storeBig (fun z9:Bool=>(.bool z9:Value)) (m:=256) H3 k0 X2 .hd rfl rfl (by kernel_rfl) (fun _=>rfl)) (fun Z1 Y2 g6=>?_)
 refine Ag rfl<|Aa<|Ac<|Ae rfl<|Aa<|Bp rfl<|Ac<|Ae rfl<|Bw (fst:=[]) (cap:=[]) (vs:=[.string a0,vP g0]) .plain body206 Tryz.func206 rfl rfl rfl rfl (e2 rfl rfl) rfl (fun u5 j3 p6=>?_)
 refine Ac<|Ag rfl<|Aa<|Ak<|Az<|MX.joinx (α:=ByteArray) (fun t0=>[(0,.string t0)]) (fun t0 H0=>St w H0 [.cells g0 (c0.map (fun z9:Bool=>(.bool z9:Value))) 228]∧Tr Z1 [.cells g0 (c0.map (fun z9:Bool=>(.bool z9:Value))) 228,.cells z0 (c0.map (fun z9:Bool=>(.bool z9:Value))) 228] H0 [.cells g0 (c0.map (fun z9:Bool=>(.bool z9:Value))) 228]) (fun t0=>t0) (id:=0) rfl h ?_ ?_
 rintro t0 H0 ⟨E2,H5⟩ h
 try dsimp only at h
 refine Ac<|Ae rfl<|Ag rfl<|Aa<|Al rfl<|Ao (u:=.string t0) j3 Tryz.func206 rfl (.cons (.tmp rfl) .nil) rfl<|Bw (fst:=[]) (cap:=[]) (vs:=[.string t0,vP g0]) .plain body205 Tryz.func205 rfl rfl rfl rfl (e2 rfl rfl) rfl (fun x5 k3 s6=>?_)
 refine Ac<|Ag rfl<|Aa<|Ak<|Az<|MX.joinx (α:=ByteArray) (fun D0=>[(0,.string D0)]) (fun D0 Y0=>St w Y0 [.cells g0 (c0.map (fun z9:Bool=>(.bool z9:Value))) 228]∧Tr H0 [.cells g0 (c0.map (fun z9:Bool=>(.bool z9:Value))) 228] Y0 [.cells g0 (c0.map (fun z9:Bool=>(.bool z9:Value))) 228]) (fun D0=>D0) (id:=0) rfl h ?_ ?_
 rintro D0 Y0 ⟨G2,J5⟩ h
 try dsimp only at h
 refine Ac<|Ae rfl<|Ag rfl<|Aa<|Al rfl<|Ao (u:=.string D0) k3 Tryz.func205 rfl (.cons (.tmp rfl) .nil) rfl<|Ag rfl<|Aa<|Al rfl<|Bc hb0 Tryz.func179 rfl rfl ?_
 cases h
 exact G2.gv
 intro Y4 y1 h
 try dsimp only at h
 obtain ⟨B6,P3,J1⟩:=bind_in2 h
 refine Bj (α:=ByteArray) (fun u0=>[(0,.string u0),(1,vP g0)]) (fun u0 Z0=>St w Z0 [.cells g0 (c0.map (fun z9:Bool=>(.bool z9:Value))) 228]∧Tr H0 [.cells g0 (c0.map (fun z9:Bool=>(.bool z9:Value))) 228] Z0 [.cells g0 (c0.map (fun z9:Bool=>(.bool z9:Value))) 228]) (fun u0=>u0) t0 P3 ⟨rfl,rfl,trivial⟩ ⟨E2,AP _ _⟩ ?_
 rintro Z4 u0 Z0 y2 ⟨J0,Q0⟩ h
 unfold strings_Trim_l1 at h
 try dsimp only at h
 refine Ak<|Ac<|Ae rfl<|Ab (By Tryz.underlying9 rfl)<|Ab (FV.gtrN (i:=u0.size) (j:=0) rfl rfl)<|Aa<|AQ rfl h (fun b2 h=>?_) (fun b2 h=>?_)
 refine Aq<|Az<|Ak<|Ac<|Ae rfl<|Ae rfl ?_
 obtain ⟨q1,v4,h⟩:=bi h
 refine Ab (FV.strAt (k:=0) Tryz.underlying9 rfl rfl rfl v4)<|Bw (fst:=[]) (cap:=[]) (vs:=[vP g0,.int .u8 (q1.toNat:Int)]) .plain body217 Tryz.func217 rfl rfl rfl rfl (e2 rfl rfl) rfl (fun y5 p3 t6=>?_)
 refine Ac<|Ag rfl<|Aa<|Ac<|Ae rfl<|Ae rfl<|Ab (FV.nilCheck rfl) ?_
 obtain ⟨R4,U1,h⟩:=bi h
 have I3:=mem_elem1 (p:=⟨g0,0,none⟩) (cs:=c0.map (fun z9:Bool=>(.bool z9:Value))) (i:=q1.toNat) (J0.memA .hd) (arr_get0 (fun z9:Bool=>(.bool z9:Value)) U1)
 refine Ab (AZ (m:=1) (k:=q1.toNat) (len:=256) (by kernel_rfl) rfl rfl rfl (arr_lt U1 k0))<|Bd rfl (I3 0 _ rfl)<|Ag rfl<|Aa<|Al rfl<|Ao (u:=.bool R4) p3 Tryz.func217 rfl (.cons (.tmp rfl) .nil) rfl<|Ab (Bz rfl)<|Aa<|MX.ifnb rfl h (fun d2 h=>?_) (fun d2 h=>?_)
 refine Aq<|Ar<|Ae rfl ?_
 obtain ⟨D4,X3,h⟩:=bi h
 refine Ab (FV.strCut X3 Tryz.underlying9 rfl ⟨_,rfl⟩ rfl)<|Ag rfl<|Aa<|AC ?_
 exact y2 D4 _ _ ⟨rfl,rfl,trivial⟩ ⟨J0,Q0⟩ h
 refine Be rfl ?_
 have h:=J1 _ h
 try dsimp only at h
 exact y1 u0 _ _ ⟨rfl,trivial⟩ ⟨J0,Q0⟩ h
 refine Be rfl ?_
 have h:=J1 _ h
 try dsimp only at h
 exact y1 u0 _ _ ⟨rfl,trivial⟩ ⟨J0,Q0⟩ h
 intro X4 x1 h
 try dsimp only at h
 obtain ⟨H2,F1⟩:=AH Y2 (.one .hd .done)
 obtain ⟨C6,Q3,K1⟩:=bind_in2 h
 refine Bj (α:=ByteArray) (fun p0=>[(0,.string p0),(1,vP g0)]) (fun p0 b1=>St w b1 [.cells g0 (c0.map (fun z9:Bool=>(.bool z9:Value))) 228]∧Tr Z1 [.cells g0 (c0.map (fun z9:Bool=>(.bool z9:Value))) 228] b1 [.cells g0 (c0.map (fun z9:Bool=>(.bool z9:Value))) 228]) (fun p0=>p0) a0 Q3 ⟨rfl,rfl,trivial⟩ ⟨H2,AP _ _⟩ ?_
 rintro b5 p0 b1 z2 ⟨K0,R0⟩ h
 unfold strings_Trim_l2 at h
 try dsimp only at h
 refine Ak<|Ac<|Ae rfl<|Ab (By Tryz.underlying9 rfl)<|Ab (FV.gtrN (i:=p0.size) (j:=0) rfl rfl)<|Aa<|AQ rfl h (fun g2 h=>?_) (fun g2 h=>?_)
 refine Aq<|Az<|Ak<|Ac<|Ae rfl<|Ae rfl<|Ae rfl<|Ab (By Tryz.underlying9 rfl) ?_
 obtain ⟨E4,Y3,h⟩:=bi h
 refine Ab (FV.subc (i:=((p0.size:Nat):Int)) (j:=1) rfl rfl Y3) ?_
 obtain ⟨s1,x4,h⟩:=bi h
 obtain ⟨x3,p4⟩:=sidx_in x4
 refine Ab (FV.strAt (k:=E4.toNat) Tryz.underlying9 rfl rfl x3 p4)<|Bw (fst:=[]) (cap:=[]) (vs:=[vP g0,.int .u8 (s1.toNat:Int)]) .plain body217 Tryz.func217 rfl rfl rfl rfl (e2 rfl rfl) rfl (fun z5 q3 u6=>?_)
 refine Ac<|Ag rfl<|Aa<|Ac<|Ae rfl<|Ae rfl<|Ab (FV.nilCheck rfl) ?_
 obtain ⟨U4,V1,h⟩:=bi h
 have J3:=mem_elem1 (p:=⟨g0,0,none⟩) (cs:=c0.map (fun z9:Bool=>(.bool z9:Value))) (i:=s1.toNat) (K0.memA .hd) (arr_get0 (fun z9:Bool=>(.bool z9:Value)) V1)
 refine Ab (AZ (m:=1) (k:=s1.toNat) (len:=256) (by kernel_rfl) rfl rfl rfl (arr_lt V1 k0))<|Bd rfl (J3 0 _ rfl)<|Ag rfl<|Aa<|Al rfl<|Ao (u:=.bool U4) q3 Tryz.func217 rfl (.cons (.tmp rfl) .nil) rfl<|Ab (Bz rfl)<|Aa<|MX.ifnb rfl h (fun j2 h=>?_) (fun j2 h=>?_)
 refine Aq<|Ar<|Ae rfl<|Ae rfl<|Ab (By Tryz.underlying9 rfl) ?_
 obtain ⟨H6,Z3,h⟩:=bi h
 refine Ab (FV.subc (i:=((p0.size:Nat):Int)) (j:=1) rfl rfl Z3) ?_
 obtain ⟨F4,b4,h⟩:=bi h
 refine Ab (FV.strCut b4 Tryz.underlying9 rfl rfl ⟨_,rfl⟩)<|Ag rfl<|Aa<|AC ?_
 exact z2 F4 _ _ ⟨rfl,rfl,trivial⟩ ⟨K0,R0⟩ h
 refine Be rfl ?_
 have h:=K1 _ h
 try dsimp only at h
 exact x1 p0 _ _ ⟨rfl,trivial⟩ ⟨K0,(Tt F1 R0)⟩ h
 refine Be rfl ?_
 have h:=K1 _ h
 try dsimp only at h
 exact x1 p0 _ _ ⟨rfl,trivial⟩ ⟨K0,(Tt F1 R0)⟩ h
 refine AR<|AR<|AR<|RG.pf rfl rfl<|Aa<|Bv rfl<|Aq<|Ak<|Ac<|Ae rfl<|Bw (fst:=[]) (cap:=[]) (vs:=[.string a1]) .plain body204 Tryz.func204 rfl rfl rfl rfl (e1 rfl) rfl (fun A5 I1 v6=>?_)
 refine Ac ?_
 have B3:(List.replicate 256 false).length = 256:=List.length_replicate
 refine Aj .plain rfl (Av ((List.replicate 256 false).map (fun z9:Bool=>(.bool z9:Value))) hS0) (fun M4 A0 I2 K5=>?_)
 refine Ag rfl<|Aa<|Ak<|Ac<|Ag rfl<|Aa<|Az ?_
 obtain ⟨D6,R3,M1⟩:=thn_in h
 refine Bj (α:=Int × (List Bool)) (fun ⟨y0,b0⟩=>[(0,.string a1),(2,vP A0),(4,vI y0)]) (fun ⟨y0,b0⟩ d1=>St w d1 [.cells A0 (b0.map (fun z9:Bool=>(.bool z9:Value))) 228]∧Tr M4 [.cells A0 ((List.replicate 256 false).map (fun z9:Bool=>(.bool z9:Value))) 228] d1 [.cells A0 (b0.map (fun z9:Bool=>(.bool z9:Value))) 228]∧b0.length = 256) (fun ⟨y0,b0⟩=>(y0,b0)) (0,(List.replicate 256 false)) R3 ⟨rfl,rfl,rfl,trivial⟩ ⟨I2,AP _ _,B3⟩ ?_
 rintro d5 ⟨y0,b0⟩ d1 A2 ⟨B0,Z2,j0⟩ h
 unfold strings_Trim_l6 at h
 try dsimp only at h
 refine Ak<|Ac<|Ae rfl<|Ae rfl<|Ab (By Tryz.underlying9 rfl)<|Ab (FV.lss (i:=y0) (j:=((a1.size:Nat):Int)) rfl rfl)<|Aa<|AQ rfl h (fun k2 h=>?_) (fun k2 h=>?_)
 refine Aq<|Ak<|Az<|Ac<|Ae rfl<|Ae rfl ?_
 obtain ⟨F0,y4,h⟩:=bi h
 obtain ⟨y3,q4⟩:=sidx_in y4
 refine Ab (FV.strAt (k:=y0.toNat) Tryz.underlying9 rfl rfl y3 q4)<|Ag rfl<|Aa<|Ak<|Ac<|Ae rfl<|Ab (FV.geqN (i:=F0.toNat) (j:=128) rfl rfl)<|Aa<|AQ rfl h (fun p2 h=>?_) (fun p2 h=>?_)
 refine Ac<|Ab (Bl (cs:=b0.map (fun z9:Bool=>(.bool z9:Value))) (by rw [List.length_map,j0]; kernel_rfl) rfl (B0.memA .hd))<|RG.now .plain (Acts.storeBig (fun z9:Bool=>(.bool z9:Value)) (m:=256) j0 j0 B0 .hd rfl rfl (by kernel_rfl) (fun _=>rfl)) (fun J6 B1 M5=>?_)
 refine Ag rfl<|Aa ?_
 have h:=thn_map h M1
 refine Al rfl<|Ao (u:=.tuple #[.agg (b0.map (fun z9:Bool=>(.bool z9:Value))).toArray,.bool false]) I1 Tryz.func204 rfl (.cons (.many (cs:=b0.map (fun z9:Bool=>(.bool z9:Value))) (by rw [List.length_map,j0]; kernel_rfl) rfl (B1.memA .hd)) (.cons (.tmp rfl) .nil)) rfl<|Ae rfl<|Ab (Af rfl rfl)<|Ab (Af rfl rfl) ?_
 have C3:(List.replicate 256 false).length = 256:=List.length_replicate
 refine Aj .plain rfl (Av ((List.replicate 256 false).map (fun z9:Bool=>(.bool z9:Value))) B1) (fun K6 s5 J2 P5=>?_)
 refine RG.now .plain (Acts.storeBig (fun z9:Bool=>(.bool z9:Value)) (m:=256) C3 j0 J2 .hd rfl rfl (by kernel_rfl) (fun _=>rfl)) (fun M6 F5 Q5=>?_)
 refine Ag rfl<|Aa<|Ac<|Ae rfl<|Aa<|Bv rfl<|Aq<|Ac<|Ae rfl<|Ae rfl ?_
 cases h
 refine Aq<|Ar<|Ae rfl ?_
 obtain ⟨b7,W0,h⟩:=bi h
 have j6:=mem_elem1 (p:=⟨A0,0,none⟩) (cs:=b0.map (fun z9:Bool=>(.bool z9:Value))) (i:=F0.toNat) (B0.memA .hd) (arr_get0 (fun z9:Bool=>(.bool z9:Value)) W0)
 refine Ab (AZ (m:=1) (k:=F0.toNat) (len:=256) (by kernel_rfl) rfl rfl rfl (arr_lt W0 j0)) ?_
 have D3:(b0.set F0.toNat true).length = 256:=by rw [List.length_set]; exact j0
 refine RG.now .plain (Acts.setBig (fun z9:Bool=>(.bool z9:Value)) (i:=F0.toNat) (x:=true) (m:=256) j0 (arr_lt W0 j0) B0 .hd rfl (addr_at _ _ _) rfl (by kernel_rfl) (fun _=>⟨rfl,rfl⟩)) (fun P6 K2 b3=>?_)
 refine Aa<|AC<|Ar<|Ae rfl ?_
 obtain ⟨G4,c4,h⟩:=bi h
 refine Ab (BC (i:=y0) (j:=1) rfl rfl c4)<|Ag rfl<|Aa ?_
 exact A2 (G4,(b0.set F0.toNat true)) _ _ ⟨rfl,rfl,rfl,trivial⟩ ⟨K2,(Tt Z2 b3),D3⟩ h
 refine Be rfl ?_
 have h:=thn_inr h M1
 try dsimp only at h
 refine Ac<|Ab (Bl (cs:=b0.map (fun z9:Bool=>(.bool z9:Value))) (by rw [List.length_map,j0]; kernel_rfl) rfl (B0.memA .hd))<|RG.now .plain (Acts.storeBig (fun z9:Bool=>(.bool z9:Value)) (m:=256) j0 j0 B0 .hd rfl rfl (by kernel_rfl) (fun _=>rfl)) (fun Q6 C1 R5=>?_)
 refine Ag rfl<|Aa<|Al rfl<|Ao (u:=.tuple #[.agg (b0.map (fun z9:Bool=>(.bool z9:Value))).toArray,.bool true]) I1 Tryz.func204 rfl (.cons (.many (cs:=b0.map (fun z9:Bool=>(.bool z9:Value))) (by rw [List.length_map,j0]; kernel_rfl) rfl (C1.memA .hd)) (.cons (.tmp rfl) .nil)) rfl<|Ae rfl<|Ab (Af rfl rfl)<|Ab (Af rfl rfl) ?_
 have E3:(List.replicate 256 false).length = 256:=List.length_replicate
 refine Aj .plain rfl (Av ((List.replicate 256 false).map (fun z9:Bool=>(.bool z9:Value))) C1) (fun R6 d0 M2 U5=>?_)
 refine RG.now .plain (Acts.storeBig (fun z9:Bool=>(.bool z9:Value)) (m:=256) E3 j0 M2 .hd rfl rfl (by kernel_rfl) (fun _=>rfl)) (fun Y1 P2 V5=>?_)
 refine Ag rfl<|Aa<|Ac<|Ae rfl<|Aa<|Bp rfl<|Ac<|Ae rfl<|Bw (fst:=[]) (cap:=[]) (vs:=[.string a0,vP d0]) .plain body206 Tryz.func206 rfl rfl rfl rfl (e2 rfl rfl) rfl (fun B5 s3 x6=>?_)
 refine Ac<|Ag rfl<|Aa<|Ak<|Az<|MX.joinx (α:=ByteArray) (fun v0=>[(0,.string v0)]) (fun v0 I0=>St w I0 [.cells d0 (b0.map (fun z9:Bool=>(.bool z9:Value))) 228]∧Tr Y1 [.cells d0 (b0.map (fun z9:Bool=>(.bool z9:Value))) 228,.cells A0 (b0.map (fun z9:Bool=>(.bool z9:Value))) 228] I0 [.cells d0 (b0.map (fun z9:Bool=>(.bool z9:Value))) 228]) (fun v0=>v0) (id:=0) rfl h ?_ ?_
 rintro v0 I0 ⟨Q2,W5⟩ h
 try dsimp only at h
 refine Ac<|Ae rfl<|Ag rfl<|Aa<|Al rfl<|Ao (u:=.string v0) s3 Tryz.func206 rfl (.cons (.tmp rfl) .nil) rfl<|Bw (fst:=[]) (cap:=[]) (vs:=[.string v0,vP d0]) .plain body205 Tryz.func205 rfl rfl rfl rfl (e2 rfl rfl) rfl (fun C5 t3 y6=>?_)
 refine Ac<|Ag rfl<|Aa<|Ak<|Az<|MX.joinx (α:=ByteArray) (fun E0=>[(0,.string E0)]) (fun E0 g1=>St w g1 [.cells d0 (b0.map (fun z9:Bool=>(.bool z9:Value))) 228]∧Tr I0 [.cells d0 (b0.map (fun z9:Bool=>(.bool z9:Value))) 228] g1 [.cells d0 (b0.map (fun z9:Bool=>(.bool z9:Value))) 228]) (fun E0=>E0) (id:=0) rfl h ?_ ?_
 rintro E0 g1 ⟨R2,X5⟩ h
 try dsimp only at h
 refine Ac<|Ae rfl<|Ag rfl<|Aa<|Al rfl<|Ao (u:=.string E0) t3 Tryz.func205 rfl (.cons (.tmp rfl) .nil) rfl<|Ag rfl<|Aa<|Al rfl<|Bc hb0 Tryz.func179 rfl rfl ?_
 cases h
 exact R2.gv
 intro j5 A1 h
 try dsimp only at h
 obtain ⟨E6,U3,P1⟩:=bind_in2 h
 refine Bj (α:=ByteArray) (fun x0=>[(0,.string x0),(1,vP d0)]) (fun x0 j1=>St w j1 [.cells d0 (b0.map (fun z9:Bool=>(.bool z9:Value))) 228]∧Tr I0 [.cells d0 (b0.map (fun z9:Bool=>(.bool z9:Value))) 228] j1 [.cells d0 (b0.map (fun z9:Bool=>(.bool z9:Value))) 228]) (fun x0=>x0) v0 U3 ⟨rfl,rfl,trivial⟩ ⟨Q2,AP _ _⟩ ?_
 rintro k5 x0 j1 B2 ⟨M0,U0⟩ h
 unfold strings_Trim_l4 at h
 try dsimp only at h
 refine Ak<|Ac<|Ae rfl<|Ab (By Tryz.underlying9 rfl)<|Ab (FV.gtrN (i:=x0.size) (j:=0) rfl rfl)<|Aa<|AQ rfl h (fun q2 h=>?_) (fun q2 h=>?_)
 refine Aq<|Az<|Ak<|Ac<|Ae rfl<|Ae rfl ?_
 obtain ⟨u1,A4,h⟩:=bi h
 refine Ab (FV.strAt (k:=0) Tryz.underlying9 rfl rfl rfl A4)<|Bw (fst:=[]) (cap:=[]) (vs:=[vP d0,.int .u8 (u1.toNat:Int)]) .plain body217 Tryz.func217 rfl rfl rfl rfl (e2 rfl rfl) rfl (fun D5 u3 z6=>?_)
 refine Ac<|Ag rfl<|Aa<|Ac<|Ae rfl<|Ae rfl<|Ab (FV.nilCheck rfl) ?_
 obtain ⟨V4,W1,h⟩:=bi h
 have K3:=mem_elem1 (p:=⟨d0,0,none⟩) (cs:=b0.map (fun z9:Bool=>(.bool z9:Value))) (i:=u1.toNat) (M0.memA .hd) (arr_get0 (fun z9:Bool=>(.bool z9:Value)) W1)
 refine Ab (AZ (m:=1) (k:=u1.toNat) (len:=256) (by kernel_rfl) rfl rfl rfl (arr_lt W1 j0))<|Bd rfl (K3 0 _ rfl)<|Ag rfl<|Aa<|Al rfl<|Ao (u:=.bool V4) u3 Tryz.func217 rfl (.cons (.tmp rfl) .nil) rfl<|Ab (Bz rfl)<|Aa<|MX.ifnb rfl h (fun s2 h=>?_) (fun s2 h=>?_)
 refine Aq<|Ar<|Ae rfl ?_
 obtain ⟨H4,d4,h⟩:=bi h
 refine Ab (FV.strCut d4 Tryz.underlying9 rfl ⟨_,rfl⟩ rfl)<|Ag rfl<|Aa<|AC ?_
 exact B2 H4 _ _ ⟨rfl,rfl,trivial⟩ ⟨M0,U0⟩ h
 refine Be rfl ?_
 have h:=P1 _ h
 try dsimp only at h
 exact A1 x0 _ _ ⟨rfl,trivial⟩ ⟨M0,U0⟩ h
 refine Be rfl ?_
 have h:=P1 _ h
 try dsimp only at h
 exact A1 x0 _ _ ⟨rfl,trivial⟩ ⟨M0,U0⟩ h
 intro g5 z1 h
 try dsimp only at h
 obtain ⟨U2,G1⟩:=AH P2 (.one .hd .done)
 obtain ⟨F6,V3,Q1⟩:=bind_in2 h
 refine Bj (α:=ByteArray) (fun q0=>[(0,.string q0),(1,vP d0)]) (fun q0 k1=>St w k1 [.cells d0 (b0.map (fun z9:Bool=>(.bool z9:Value))) 228]∧Tr Y1 [.cells d0 (b0.map (fun z9:Bool=>(.bool z9:Value))) 228] k1 [.cells d0 (b0.map (fun z9:Bool=>(.bool z9:Value))) 228]) (fun q0=>q0) a0 V3 ⟨rfl,rfl,trivial⟩ ⟨U2,AP _ _⟩ ?_
 rintro p5 q0 k1 C2 ⟨P0,V0⟩ h
 unfold strings_Trim_l5 at h
 try dsimp only at h
 refine Ak<|Ac<|Ae rfl<|Ab (By Tryz.underlying9 rfl)<|Ab (FV.gtrN (i:=q0.size) (j:=0) rfl rfl)<|Aa<|AQ rfl h (fun t2 h=>?_) (fun t2 h=>?_)
 refine Aq<|Az<|Ak<|Ac<|Ae rfl<|Ae rfl<|Ae rfl<|Ab (By Tryz.underlying9 rfl) ?_
 obtain ⟨I4,g4,h⟩:=bi h
 refine Ab (FV.subc (i:=((q0.size:Nat):Int)) (j:=1) rfl rfl g4) ?_
 obtain ⟨v1,B4,h⟩:=bi h
 obtain ⟨z3,s4⟩:=sidx_in B4
 refine Ab (FV.strAt (k:=I4.toNat) Tryz.underlying9 rfl rfl z3 s4)<|Bw (fst:=[]) (cap:=[]) (vs:=[vP d0,.int .u8 (v1.toNat:Int)]) .plain body217 Tryz.func217 rfl rfl rfl rfl (e2 rfl rfl) rfl (fun E5 v3 A6=>?_)
 refine Ac<|Ag rfl<|Aa<|Ac<|Ae rfl<|Ae rfl<|Ab (FV.nilCheck rfl) ?_
 obtain ⟨W4,X1,h⟩:=bi h
 have M3:=mem_elem1 (p:=⟨d0,0,none⟩) (cs:=b0.map (fun z9:Bool=>(.bool z9:Value))) (i:=v1.toNat) (P0.memA .hd) (arr_get0 (fun z9:Bool=>(.bool z9:Value)) X1)
 refine Ab (AZ (m:=1) (k:=v1.toNat) (len:=256) (by kernel_rfl) rfl rfl rfl (arr_lt X1 j0))<|Bd rfl (M3 0 _ rfl)<|Ag rfl<|Aa<|Al rfl<|Ao (u:=.bool W4) v3 Tryz.func217 rfl (.cons (.tmp rfl) .nil) rfl<|Ab (Bz rfl)<|Aa<|MX.ifnb rfl h (fun u2 h=>?_) (fun u2 h=>?_)
 refine Aq<|Ar<|Ae rfl<|Ae rfl<|Ab (By Tryz.underlying9 rfl) ?_
 obtain ⟨I6,j4,h⟩:=bi h
 refine Ab (FV.subc (i:=((q0.size:Nat):Int)) (j:=1) rfl rfl j4) ?_
 obtain ⟨J4,k4,h⟩:=bi h
 refine Ab (FV.strCut k4 Tryz.underlying9 rfl rfl ⟨_,rfl⟩)<|Ag rfl<|Aa<|AC ?_
 exact C2 J4 _ _ ⟨rfl,rfl,trivial⟩ ⟨P0,V0⟩ h
 refine Be rfl ?_
 have h:=Q1 _ h
 try dsimp only at h
 exact z1 q0 _ _ ⟨rfl,trivial⟩ ⟨P0,(Tt G1 V0)⟩ h
 refine Be rfl ?_
 have h:=Q1 _ h
 try dsimp only at h
 exact z1 q0 _ _ ⟨rfl,trivial⟩ ⟨P0,(Tt G1 V0)⟩ h
def units_within_1_p (_n:Nat) (a0:Int) (a1:Int):Option Bool:=
  (if a0 < 0 then some true else some (decide (a1 < a0)))
theorem units_within_1_c (n:Nat) (L:List Nat) (w:World) (_hL:∀ b ∈ L,b < w.heap.size) (a0:Int) (a1:Int) {p1:Nat} (m1:∀ j9 v9,([vI a1]:List Value)[j9]? = some v9 → w.cell? ((⟨p1,0,none⟩:Addr).add j9) = some v9)  {r:Bool} (h:units_within_1_p n a0 a1 = some r) :
    Calls Tryz.prog 210 #[vI a0,.pointer (some ⟨p1,0,none⟩)] w (Gives w fun _ u=>u = .bool r):=by
 unfold units_within_1_p at h
 have hS0:=Ax w
 refine AA Tryz.func210 rfl rfl rfl (fun _ cs0 hb0=>?_)
 refine Ac<|Ag rfl<|Aa<|Ac<|Ae rfl<|Ab (FV.lss (i:=a0) (j:=0) rfl rfl)<|Ae rfl<|RG.ifd (s:=6) rfl h (fun c1 h=>?_) (fun c1 h=>?_)
 refine AR<|AR<|AR<|RG.pt rfl rfl<|Ag rfl<|Aa<|Al rfl<|Bc hb0 Tryz.func210 rfl rfl ?_
 cases h
 exact hS0.gv
 refine AY (Ai rfl)<|AY (AK rfl ((fun j9 v9 h9=>hS0.ag.cell0 (m1 j9 v9 h9)) 0 _ rfl))<|AY (FV.gtr (i:=a0) (j:=a1) rfl rfl)<|RG.pf rfl rfl<|Ag rfl<|Aa<|Al rfl<|Bc hb0 Tryz.func210 rfl rfl ?_
 cases h
 exact hS0.gv
theorem body209:bodyB Tryz.prog 209 = true:=by kernel_rfl
theorem body210:bodyB Tryz.prog 210 = true:=by kernel_rfl
theorem body221:bodyB Tryz.prog 221 = true:=by kernel_rfl
def units_within_l1 (n:Nat) (a0:List Int) (a2:Int) (c0:Nat → Option (Bool ⊕ Unit)):Nat → Option (Bool ⊕ Unit)
  | b0=>(if b0 < a0.length then (a0[b0]?).bind fun d0=>(units_within_1_p n d0 a2).bind fun g0=>(if g0 = true then some (.inl (!(decide (0 ≤ b0)))) else c0 (b0 + 1)) else some (.inr ()))
def units_within_p (n:Nat) (a0:List Int) (a1:Int) (a2:Int):Option Bool:=
  (if ((a0.length:Nat):Int) = a1 then thn (loopF (units_within_l1 n a0 a2) n 0) (fun _=>some (!(decide (0 ≤ (-1))))) else some false)
theorem units_within_c (n:Nat) (L:List Nat) (w:World) (hL:∀ b ∈ L,b < w.heap.size) (a0:List Int) {v0_0:Value} (h0_0:Rep.R w L [v0_0] a0) (a1:Int) (a2:Int)  {r:Bool} (h:units_within_p n a0 a1 a2 = some r) :
    Calls Tryz.prog 180 #[v0_0,vI a1,vI a2] w (Gives w fun _ u=>u = .bool r):=by
 unfold units_within_p at h
 have hS0:=Ax w
 refine AA Tryz.func180 rfl rfl rfl (fun _ cs0 hb0=>?_)
 refine Ac<|Aj .plain rfl (Aw hS0 rfl rfl) (fun K0 c0 g0 W0=>?_)
 refine Ag rfl<|Aa<|Ac<|Ae rfl ?_
 have j0:=AM h0_0 g0
 have X0:a0.length ≤ 281474976710656:=AT j0
 refine Ab (Bb (xs:=a0) Tryz.underlying45 rfl j0)<|Ae rfl<|Ab (FV.eql (i:=((a0.length:Nat):Int)) (j:=a1) rfl rfl)<|Ae rfl<|RG.ifd (s:=11) rfl h (fun u0 h=>?_) (fun u0 h=>?_)
 refine AY (Ai rfl)<|AY (BG (vs:=[]) (us:=[vP c0]) evs_nil (e1 rfl))<|Bw (fst:=[]) (cap:=[]) (vs:=[v0_0,.func (.func 210) #[] #[vP c0]]) (.yes rfl rfl) body209 Tryz.func209 rfl rfl rfl rfl (e2 rfl rfl) rfl (fun U0 p0 Y0=>?_)
 refine Ac<|Ag rfl<|Aa<|Ac<|Ae rfl<|Ae rfl<|Bw (fst:=[]) (cap:=[]) (vs:=[v0_0,.func (.func 210) #[] #[vP c0]]) .plain body221 Tryz.func221 rfl rfl rfl rfl (e2 rfl rfl) rfl (fun V0 q0 Z0=>?_)
 refine Ac<|Ag rfl<|Aa<|Ak<|Ac<|Ae rfl<|Ab (Bb (xs:=a0) Tryz.underlying45 rfl j0)<|Ae rfl<|Aa<|Az ?_
 obtain ⟨b1,G0,s0⟩:=thn_in h
 refine Bj (α:=Nat) (fun b0=>[(0,v0_0),(1,.func (.func 210) #[] #[vP c0]),(7,vI ((a0.length:Nat):Int)),(8,vI ((b0:Nat):Int))]) (fun b0 k0=>St w k0 [.cells c0 [vI a2] 3]∧Tr K0 [.cells c0 [vI a2] 3] k0 [.cells c0 [vI a2] 3]) (fun b0=>b0) 0 G0 ⟨rfl,rfl,rfl,rfl,trivial⟩ ⟨g0,AP _ _⟩ ?_
 rintro Q0 b0 k0 z0 ⟨d0,A0⟩ h
 unfold units_within_l1 at h
 try dsimp only at h
 refine Ac<|Ab (Bn (i:=b0) (j:=a0.length) rfl rfl)<|Aa<|Ak<|AQ rfl h (fun v0 h=>?_) (fun v0 h=>?_)
 refine Aq<|Ak<|Az<|Ac<|Ae rfl<|Ag rfl<|Aa<|Ac<|Ae rfl<|Ae rfl<|Ae rfl ?_
 obtain ⟨t0,I0,h⟩:=bi h
 have F0:=AM h0_0 d0
 obtain ⟨P0,R0,B0,D0,y0,H0,E0⟩:=Bm F0 I0
 have C0:y0 = [vI t0]:=H0; subst C0
 refine Ab (Bo 1 b0 rfl B0 rfl rfl D0)<|Bd rfl (E0 0 _ rfl) ?_
 obtain ⟨M0,J0,h⟩:=bi h
 refine RG.callq' (v:=.bool M0) (fst:=[]) (cap:=[vP c0]) .plain body210 rfl (e1 rfl) (fun w9 hw9=>units_within_1_c n _ w9 (d0.hL0 hL hw9) t0 a2 (fun j9 v9 h9=>hw9.cell0 ((d0.memA .hd) j9 v9 h9)) J0) rfl<|Aa<|MX.ifb rfl h (fun x0 h=>?_) (fun x0 h=>?_)
 refine Ac<|Ae rfl<|Ag rfl<|Aa ?_
 have h:=thn_inl h s0
 refine Al rfl<|Ao (u:=vI ((b0:Nat):Int)) q0 Tryz.func221 rfl (.cons (.tmp rfl) .nil) rfl<|Ab (FV.geqN (i:=b0) (j:=0) rfl rfl)<|Ag rfl<|Aa<|Al rfl<|Ao (u:=.bool (decide (0 ≤ b0))) p0 Tryz.func209 rfl (.cons (.tmp rfl) .nil) rfl<|AY (Bz rfl)<|RG.pt rfl rfl<|Ag rfl<|Aa<|Al rfl<|Bc hb0 Tryz.func180 rfl rfl ?_
 cases h
 exact d0.gv
 refine Aq<|AC<|Ar<|Ab (Br (i:=b0) (j:=1) rfl rfl (by omega))<|Ae rfl<|Aa ?_
 exact z0 (b0 + 1) _ _ ⟨rfl,rfl,rfl,rfl,trivial⟩ ⟨d0,A0⟩ h
 refine Be rfl ?_
 have h:=thn_inr h s0
 try dsimp only at h
 refine Ac<|Ag rfl<|Aa<|Al rfl<|Ao (u:=vI (-1)) q0 Tryz.func221 rfl (.cons (.tmp rfl) .nil) rfl<|Ab (FV.geq (i:=(-1)) (j:=0) rfl rfl)<|Ag rfl<|Aa<|Al rfl<|Ao (u:=.bool (decide (0 ≤ (-1)))) p0 Tryz.func209 rfl (.cons (.tmp rfl) .nil) rfl<|AY (Bz rfl)<|RG.pt rfl rfl<|Ag rfl<|Aa<|Al rfl<|Bc hb0 Tryz.func180 rfl rfl ?_
 cases h
 exact d0.gv
 refine AR<|AR<|AR<|AR<|RG.pf rfl rfl<|Ag rfl<|Aa<|Al rfl<|Bc hb0 Tryz.func180 rfl rfl ?_
 cases h
 exact g0.gv
structure TUnit where
  fName:ByteArray
  fPeople:Int
  fGroups:List Int
  fVotes:List Int
  fParents:List Int
  fWater:Bool
  deriving DecidableEq
instance:Rep TUnit:=Rep.via (β:=ByteArray × Int × (List Int) × (List Int) × (List Int) × Bool) fun x=>(x.fName,x.fPeople,x.fGroups,x.fVotes,x.fParents,x.fWater)
structure TRoll where
  fGroups:Int
  fParties:Int
  fLevels:Int
  fUnits:List TUnit
  deriving DecidableEq
instance:Rep TRoll:=Rep.via (β:=Int × Int × Int × (List TUnit)) fun x=>(x.fGroups,x.fParties,x.fLevels,x.fUnits)
def tb142_4:List (Nat × Nat × Nat):=[(0,512,8),(1,1024,512),(2,2048,1024),(0,4096,8),(8,8192,4096),(16,16384,8192),(32,32768,16384),(0,65536,8),(128,131072,65536),(256,262144,131072),(512,524288,262144),(0,1048576,8),(2048,2097152,1048576),(4096,4194304,2097152),(0,8388608,8),(16384,16777216,8388608),(0,33554432,32),(98304,67108864,50331648),(0,134217728,8),(262144,268435456,134217728),(0,536870912,4),(1048576,1073741824,536870912),(0,2147483648,8),(4194304,4294967296,2147483648),(11010560,8589934592,5637144576),(0,17179869184,8),(33554432,34359738368,17179869184),(0,68719476736,4),(134217728,137438953472,68719476736),(0,274877906944,32),(889192448,549755813888,446676598784),(0,1099511627776,8),(2147483648,2199023255552,1099511627776),(0,4398046511104,4),(8589934592,8796093022208,4398046511104),(0,17592186044416,64),(56908316672,35184372088832,28587302322176),(69810136132,70368744177664,35742789699584),(206158430208,140737488355328,70368744177664),(549755813887,16,140737488355328)]
theorem el169:ElT Tryz.prog 169 4 (Rep.size Bool) 1 (.bool false) [.bool false]:=⟨Tryz.underlying169,by kernel_rfl,rfl,rfl,rfl,rfl⟩
theorem body141:bodyB Tryz.prog 141 = true:=by kernel_rfl
theorem body179:bodyB Tryz.prog 179 = true:=by kernel_rfl
theorem body180:bodyB Tryz.prog 180 = true:=by kernel_rfl
def units_right_p (n:Nat) (a0:TRoll) (a1:TUnit):Option Bool:=
  jn (fun (c0,d0)=>(strings_Trim_p n a1.fName ⟨#[65,66,67,68,69,70,71,72,73,74,75,76,77,78,79,80,81,82,83,84,85,86,87,88,89,90,97,98,99,100,101,102,103,104,105,106,107,108,109,110,111,112,113,114,115,116,117,118,119,120,121,122,48,49,50,51,52,53,54,55,56,57,45,95]⟩).bind fun g0=>(units_within_p n a1.fGroups a0.fGroups a1.fPeople).bind fun j0=>(units_within_p n a1.fVotes a0.fParties ((c0:Nat):Int)).bind fun k0=>(units_within_p n a1.fParents a0.fLevels ((d0:Nat):Int)).bind fun p0=>(units_every_p n ([(!(decide (a1.fName = ⟨#[]⟩))),(decide (a1.fName.size ≤ 12)),(decide (g0 = ⟨#[]⟩)),(decide (0 ≤ a1.fPeople)),(decide (a1.fPeople ≤ ((c0:Nat):Int))),j0,k0,p0]:List Bool)).bind fun q0=>some q0) (fun b0=>(if a1.fWater = true then b0 (0,0) else b0 (1000000000,63)))
theorem units_right_c (n:Nat) (L:List Nat) (w:World) (hL:∀ b ∈ L,b < w.heap.size) (a0:TRoll) {v0_3:Value} (h0_3:Rep.R w L [v0_3] a0.fUnits) (a1:TUnit) {v1_2:Value} (h1_2:Rep.R w L [v1_2] a1.fGroups) {v1_3:Value} (h1_3:Rep.R w L [v1_3] a1.fVotes) {v1_4:Value} (h1_4:Rep.R w L [v1_4] a1.fParents)  {r:Bool} (h:units_right_p n a0 a1 = some r) :
    Calls Tryz.prog 142 #[.agg #[vI a0.fGroups,vI a0.fParties,vI a0.fLevels,v0_3],.agg #[.string a1.fName,vI a1.fPeople,v1_2,v1_3,v1_4,.bool a1.fWater]] w (Gives w fun _ u=>u = .bool r):=by
 unfold units_right_p at h
 have hS0:=Ax w
 refine AA Tryz.func142 rfl rfl rfl (fun _ cs0 hb0=>?_)
 refine Ac<|Aj .plain rfl (Aw hS0 rfl rfl) (fun W0 u0 C0 Q0=>?_)
 refine Aj .plain rfl (Aw C0 rfl rfl) (fun J0 v0 y0 R0=>?_)
 refine Ag rfl<|Aa<|Ac<|Ag rfl<|Ag rfl<|Aa<|Ak<|Ac<|Bg 5 rfl<|Bd rfl ((y0.memA .hd) 5 _ rfl)<|Aa<|MX.join (α:=Nat × Nat) (fun ⟨g0,t0⟩=>[(2,vP u0),(3,vP v0),(5,vI ((g0:Nat):Int)),(6,vI ((t0:Nat):Int))]) (fun ⟨g0,t0⟩ z0=>St w z0 [.cells v0 [.string a1.fName,vI a1.fPeople,v1_2,v1_3,v1_4,.bool a1.fWater] 65,.cells u0 [vI a0.fGroups,vI a0.fParties,vI a0.fLevels,v0_3] 44]∧Tr J0 [.cells v0 [.string a1.fName,vI a1.fPeople,v1_2,v1_3,v1_4,.bool a1.fWater] 65,.cells u0 [vI a0.fGroups,vI a0.fParties,vI a0.fLevels,v0_3] 44] z0 [.cells v0 [.string a1.fName,vI a1.fPeople,v1_2,v1_3,v1_4,.bool a1.fWater] 65,.cells u0 [vI a0.fGroups,vI a0.fParties,vI a0.fLevels,v0_3] 44]) (fun ⟨g0,t0⟩=>(g0,t0)) h ?_ ?_
 rintro ⟨g0,t0⟩ z0 ⟨d0,U0⟩ h
 try dsimp only at h
 refine Ak<|AF 40 tb142_4 (by kernel_rfl) (by kernel_rfl) (by kernel_rfl) (fun b0 c0=>?_)
 refine Ah 0 1 b0 rfl c0 (fun _=>Bh 0 rfl) rfl<|AD 1 3 962072674308 b0 rfl c0 (AK rfl ((d0.memA .hd) 0 _ rfl)) rfl<|Ah 2 7 b0 rfl c0 (fun _=>FV.neqS rfl rfl) rfl<|Ah 3 15 b0 rfl c0 (fun _=>Bh 0 rfl) rfl<|AD 4 31 962072674400 b0 rfl c0 (AK rfl ((d0.memA .hd) 0 _ rfl)) rfl<|AD 5 63 962072674368 b0 rfl c0 (By Tryz.underlying9 rfl) rfl<|Ah 6 127 b0 rfl c0 (fun _=>FV.leqN (i:=a1.fName.size) (j:=12) rfl rfl) rfl<|Ah 7 255 b0 rfl c0 (fun _=>Bh 0 rfl) rfl<|AD 8 511 1031882671616 b0 rfl c0 (AK rfl ((d0.memA .hd) 0 _ rfl)) rfl ?_
 obtain ⟨s0,E0,h⟩:=bi h
 refine BI 9 1023 1031882671104 (.string s0) b0 rfl c0 body179 rfl (e2 rfl rfl) (fun w9 hw9=>strings_Trim_c n _ w9 (d0.hL0 hL hw9) a1.fName ⟨#[65,66,67,68,69,70,71,72,73,74,75,76,77,78,79,80,81,82,83,84,85,86,87,88,89,90,97,98,99,100,101,102,103,104,105,106,107,108,109,110,111,112,113,114,115,116,117,118,119,120,121,122,48,49,50,51,52,53,54,55,56,57,45,95]⟩ E0) rfl<|Ah 10 2047 b0 rfl c0 (fun _=>FV.eqlS rfl rfl) rfl<|Ah 11 4095 b0 rfl c0 (fun _=>Bh 1 rfl) rfl<|AD 12 8191 962072682496 b0 rfl c0 (AK rfl ((d0.memA .hd) 1 _ rfl)) rfl<|Ah 13 16383 b0 rfl c0 (fun _=>FV.geq (i:=a1.fPeople) (j:=0) rfl rfl) rfl<|Ah 14 32767 b0 rfl c0 (fun _=>Bh 1 rfl) rfl<|AD 15 65535 962072805376 b0 rfl c0 (AK rfl ((d0.memA .hd) 1 _ rfl)) rfl<|Ah 16 131071 b0 rfl c0 (fun _=>Ai rfl) rfl<|Ah 17 262143 b0 rfl c0 (fun _=>FV.leq (i:=a1.fPeople) (j:=((g0:Nat):Int)) rfl rfl) rfl<|Ah 18 524287 b0 rfl c0 (fun _=>Bh 2 rfl) rfl<|AD 19 1048575 1031882670080 b0 rfl c0 (AK rfl ((d0.memA .hd) 2 _ rfl)) rfl<|Ah 20 2097151 b0 rfl c0 (fun _=>Bh 0 rfl) rfl<|AD 21 4194303 1031882670080 b0 rfl c0 (AK rfl ((d0.memA (.tl .hd)) 0 _ rfl)) rfl<|Ah 22 8388607 b0 rfl c0 (fun _=>Bh 1 rfl) rfl<|AD 23 16777215 1031882670080 b0 rfl c0 (AK rfl ((d0.memA .hd) 1 _ rfl)) rfl ?_
 obtain ⟨q0,F0,h⟩:=bi h
 refine BI 24 33554431 1031865892864 (.bool q0) b0 rfl c0 body180 rfl (e3 rfl rfl rfl) (fun w9 hw9=>units_within_c n _ w9 (d0.hL0 hL hw9) a1.fGroups (d0.k0 h1_2 hw9) a0.fGroups a1.fPeople F0) rfl<|Ah 25 67108863 b0 rfl c0 (fun _=>Bh 3 rfl) rfl<|AD 26 134217727 1031865892864 b0 rfl c0 (AK rfl ((d0.memA .hd) 3 _ rfl)) rfl<|Ah 27 268435455 b0 rfl c0 (fun _=>Bh 1 rfl) rfl<|AD 28 536870911 1031865892864 b0 rfl c0 (AK rfl ((d0.memA (.tl .hd)) 1 _ rfl)) rfl<|Ah 29 1073741823 b0 rfl c0 (fun _=>Ai rfl) rfl ?_
 obtain ⟨p0,G0,h⟩:=bi h
 refine BI 30 2147483647 1030792151040 (.bool p0) b0 rfl c0 body180 rfl (e3 rfl rfl rfl) (fun w9 hw9=>units_within_c n _ w9 (d0.hL0 hL hw9) a1.fVotes (d0.k0 h1_3 hw9) a0.fParties ((g0:Nat):Int) G0) rfl<|Ah 31 4294967295 b0 rfl c0 (fun _=>Bh 4 rfl) rfl<|AD 32 8589934591 1030792151040 b0 rfl c0 (AK rfl ((d0.memA .hd) 4 _ rfl)) rfl<|Ah 33 17179869183 b0 rfl c0 (fun _=>Bh 2 rfl) rfl<|AD 34 34359738367 1030792151040 b0 rfl c0 (AK rfl ((d0.memA (.tl .hd)) 2 _ rfl)) rfl<|Ah 35 68719476735 b0 rfl c0 (fun _=>Ai rfl) rfl ?_
 obtain ⟨j0,H0,h⟩:=bi h
 refine BI 36 137438953471 962072674304 (.bool j0) b0 rfl c0 body180 rfl (e3 rfl rfl rfl) (fun w9 hw9=>units_within_c n _ w9 (d0.hL0 hL hw9) a1.fParents (d0.k0 h1_4 hw9) a0.fLevels ((t0:Nat):Int) H0) rfl<|RD.nu 37 274877906943 b0 rfl .plain rfl (AW (α:=Bool) (xs:=([(!(decide (a1.fName = ⟨#[]⟩))),(decide (a1.fName.size ≤ 12)),(decide (s0 = ⟨#[]⟩)),(decide (0 ≤ a1.fPeople)),(decide (a1.fPeople ≤ ((g0:Nat):Int))),q0,p0,j0]:List Bool)) (vs:=[.bool (!(decide (a1.fName = ⟨#[]⟩))),.bool (decide (a1.fName.size ≤ 12)),.bool (decide (s0 = ⟨#[]⟩)),.bool (decide (0 ≤ a1.fPeople)),.bool (decide (a1.fPeople ≤ ((g0:Nat):Int))),.bool q0,.bool p0,.bool j0]) (ds' :=[.bool (!(decide (a1.fName = ⟨#[]⟩))),.bool (decide (a1.fName.size ≤ 12)),.bool (decide (s0 = ⟨#[]⟩)),.bool (decide (0 ≤ a1.fPeople)),.bool (decide (a1.fPeople ≤ ((g0:Nat):Int))),.bool q0,.bool p0,.bool j0]) rfl d0 el169 rfl (e8 rfl rfl rfl rfl rfl rfl rfl rfl) (by kernel_rfl) rfl) (fun X0 P0 x0 V0=>?_)
 have D0:=AG (cs:=[.bool (!(decide (a1.fName = ⟨#[]⟩))),.bool (decide (a1.fName.size ≤ 12)),.bool (decide (s0 = ⟨#[]⟩)),.bool (decide (0 ≤ a1.fPeople)),.bool (decide (a1.fPeople ≤ ((g0:Nat):Int))),.bool q0,.bool p0,.bool j0]) (xs:=(([(!(decide (a1.fName = ⟨#[]⟩))),(decide (a1.fName.size ≤ 12)),(decide (s0 = ⟨#[]⟩)),(decide (0 ≤ a1.fPeople)),(decide (a1.fPeople ≤ ((g0:Nat):Int))),q0,p0,j0]:List Bool):List Bool)) x0 L (Au (cs:=[.bool (!(decide (a1.fName = ⟨#[]⟩)))]) (ds:=[.bool (decide (a1.fName.size ≤ 12)),.bool (decide (s0 = ⟨#[]⟩)),.bool (decide (0 ≤ a1.fPeople)),.bool (decide (a1.fPeople ≤ ((g0:Nat):Int))),.bool q0,.bool p0,.bool j0]) rfl (Au (cs:=[.bool (decide (a1.fName.size ≤ 12))]) (ds:=[.bool (decide (s0 = ⟨#[]⟩)),.bool (decide (0 ≤ a1.fPeople)),.bool (decide (a1.fPeople ≤ ((g0:Nat):Int))),.bool q0,.bool p0,.bool j0]) rfl (Au (cs:=[.bool (decide (s0 = ⟨#[]⟩))]) (ds:=[.bool (decide (0 ≤ a1.fPeople)),.bool (decide (a1.fPeople ≤ ((g0:Nat):Int))),.bool q0,.bool p0,.bool j0]) rfl (Au (cs:=[.bool (decide (0 ≤ a1.fPeople))]) (ds:=[.bool (decide (a1.fPeople ≤ ((g0:Nat):Int))),.bool q0,.bool p0,.bool j0]) rfl (Au (cs:=[.bool (decide (a1.fPeople ≤ ((g0:Nat):Int)))]) (ds:=[.bool q0,.bool p0,.bool j0]) rfl (Au (cs:=[.bool q0]) (ds:=[.bool p0,.bool j0]) rfl (Au (cs:=[.bool p0]) (ds:=[.bool j0]) rfl (Au (cs:=[.bool j0]) (ds:=[]) rfl (AO _ _)))))))))
 obtain ⟨K0,I0,h⟩:=bi h
 refine BI 38 549755813887 549755813888 (.bool K0) b0 rfl c0 body141 rfl (e1 rfl) (fun w9 hw9=>units_every_c n _ w9 (x0.hL0 hL hw9) ([(!(decide (a1.fName = ⟨#[]⟩))),(decide (a1.fName.size ≤ 12)),(decide (s0 = ⟨#[]⟩)),(decide (0 ≤ a1.fPeople)),(decide (a1.fPeople ≤ ((g0:Nat):Int))),q0,p0,j0]:List Bool) (Am (St.lend (α:=Bool) (L:=L) x0 .hd D0 hL) hw9) I0) rfl<|Ah 39 1099511627775 b0 rfl c0 (fun _=>AJ rfl) rfl<|AE (doneD_ok b0 (by kernel_rfl))<|Al rfl<|Bc hb0 Tryz.func142 rfl rfl ?_
 cases h
 exact x0.gv
 intro M0 A0 h
 try dsimp only at h
 refine MX.ifb rfl h (fun B0 h=>?_) (fun B0 h=>?_)
 refine Ar<|Ag rfl<|Ag rfl<|Aa ?_
 exact A0 (0,0) _ _ ⟨rfl,rfl,rfl,rfl,trivial⟩ ⟨y0,AP _ _⟩ h
 refine Aq ?_
 exact A0 (1000000000,63) _ _ ⟨rfl,rfl,rfl,rfl,trivial⟩ ⟨y0,AP _ _⟩ h
def tb101_9:List (Nat × Nat × Nat):=[(0,35184372088832,2),(0,70368744177664,128),(3,140737488355328,105553116266496),(0,281474976710656,16),(0,562949953421312,128),(16,1125899906842624,562949953421312),(40,2251799813685248,1407374883553280),(64,4503599627370496,2251799813685248),(0,9007199254740992,128),(256,18014398509481984,9007199254740992),(516,36028797018963968,18014398509481984),(1024,72057594037927936,36028797018964000),(3072,144115188075855872,108086391056891904),(5120,288230376151711744,180143985094819840),(0,576460752303423488,64),(16384,1152921504606846976,576460752303423488),(33792,2305843009213693952,1152921504606846976),(65536,4611686018427387904,2305843009213694080),(196608,9223372036854775808,6917529027641081856),(327680,18446744073709551616,11529215046068469760),(589824,36893488147419103232,20752587082923245568),(1056900,73786976294838206464,37186362860686540800),(2162688,147573952589676412928,73786976294838206464),(4194304,295147905179352825856,147573952589676412928)]
theorem op_TUnit {w:World} {L:List Nat} {cs:List Value} {x:TUnit} (h:Rep.R w L cs x):∃ v2 v3 v4:Value,cs = [.string x.fName,vI x.fPeople,v2,v3,v4,.bool x.fWater]∧Rep.R w L [v2] x.fGroups∧Rep.R w L [v3] x.fVotes∧Rep.R w L [v4] x.fParents:=by
  obtain ⟨c0,r0,rfl,h0,h⟩:=h
  have e0:c0 = [.string x.fName]:=h0; subst e0
  obtain ⟨c1,r1,rfl,h1,h⟩:=h
  have e1:c1 = [vI x.fPeople]:=h1; subst e1
  obtain ⟨c2,r2,rfl,h2,h⟩:=h
  obtain ⟨v2,rfl,kv2⟩:=lst_one (xs:=x.fGroups) h2
  obtain ⟨c3,r3,rfl,h3,h⟩:=h
  obtain ⟨v3,rfl,kv3⟩:=lst_one (xs:=x.fVotes) h3
  obtain ⟨c4,r4,rfl,h4,h⟩:=h
  obtain ⟨v4,rfl,kv4⟩:=lst_one (xs:=x.fParents) h4
  have e5:r4 = [.bool x.fWater]:=h; subst e5
  exact ⟨v2,v3,v4,rfl,kv2,kv3,kv4⟩
theorem mk_TUnit {w:World} {L:List Nat} (a0:ByteArray) (a1:Int) (a2:List Int) {u2:Value} (h2:Rep.R w L [u2] a2) (a3:List Int) {u3:Value} (h3:Rep.R w L [u3] a3) (a4:List Int) {u4:Value} (h4:Rep.R w L [u4] a4) (a5:Bool):Rep.R w L [.string a0,vI a1,u2,u3,u4,.bool a5] (⟨a0,a1,a2,a3,a4,a5⟩:TUnit):=⟨[.string a0],[vI a1,u2,u3,u4,.bool a5],rfl,rfl,⟨[vI a1],[u2,u3,u4,.bool a5],rfl,rfl,⟨[u2],[u3,u4,.bool a5],rfl,h2,⟨[u3],[u4,.bool a5],rfl,h3,⟨[u4],[.bool a5],rfl,h4,rfl⟩⟩⟩⟩⟩
theorem body142:bodyB Tryz.prog 142 = true:=by kernel_rfl
def units_CheckRoll_l1 (n:Nat) (a0:TRoll) (g0:Bool × Nat × (List (ByteArray × Bool)) → Option (Int ⊕ Unit)):Bool × Nat × (List (ByteArray × Bool)) → Option (Int ⊕ Unit)
  | (k0,d0,c0)=>(if d0 < a0.fUnits.length then (a0.fUnits[d0]?).bind fun b0=>(units_right_p n a0 b0).bind fun j0=>(if b0.fWater = true then (if 0 < d0 then (units_every_p n ([j0,(!(mgetD c0 b0.fName false)),true,true]:List Bool)).bind fun p0=>(if p0 = true then g0 (b0.fWater,d0 + 1,mset c0 b0.fName true) else some (.inl (161:Int))) else (units_every_p n ([j0,(!(mgetD c0 b0.fName false)),true,(!b0.fWater)]:List Bool)).bind fun q0=>(if q0 = true then g0 (b0.fWater,d0 + 1,mset c0 b0.fName true) else some (.inl (161:Int)))) else (if 0 < d0 then (units_every_p n ([j0,(!(mgetD c0 b0.fName false)),(!k0),true]:List Bool)).bind fun s0=>(if s0 = true then g0 (b0.fWater,d0 + 1,mset c0 b0.fName true) else some (.inl (161:Int))) else (units_every_p n ([j0,(!(mgetD c0 b0.fName false)),(!k0),(!b0.fWater)]:List Bool)).bind fun t0=>(if t0 = true then g0 (b0.fWater,d0 + 1,mset c0 b0.fName true) else some (.inl (161:Int))))) else some (.inr ()))
def units_CheckRoll_p (n:Nat) (a0:TRoll):Option Int:=
  (units_every_p n ([(decide (0 ≤ a0.fGroups)),(decide (a0.fGroups ≤ 6)),(decide (0 ≤ a0.fParties)),(decide (a0.fParties ≤ 12)),(decide (0 ≤ a0.fLevels)),(decide (a0.fLevels ≤ 3)),(decide (0 < a0.fUnits.length)),(decide (a0.fUnits.length ≤ 64))]:List Bool)).bind fun b0=>(if b0 = true then thn (loopF (units_CheckRoll_l1 n a0) n (false,0,([]:List (ByteArray × Bool)))) (fun _=>some (0:Int)) else some (161:Int))
theorem units_CheckRoll_c (n:Nat) (L:List Nat) (w:World) (hL:∀ b ∈ L,b < w.heap.size) (a0:TRoll) {v0_3:Value} (h0_3:Rep.R w L [v0_3] a0.fUnits)  {r:Int} (h:units_CheckRoll_p n a0 = some r) :
    Calls Tryz.prog 101 #[.agg #[vI a0.fGroups,vI a0.fParties,vI a0.fLevels,v0_3]] w (Gives w fun _ u=>u = vI r):=by
 unfold units_CheckRoll_p at h
 have hS0:=Ax w
 refine AA Tryz.func101 rfl rfl rfl (fun _ cs0 hb0=>?_)
 refine Ac<|Aj .plain rfl (Aw hS0 rfl rfl) (fun q3 D0 u0 c3=>?_)
 refine Ag rfl<|Aa<|Ac<|Bg 3 rfl<|Bd rfl ((u0.memA .hd) 3 _ rfl) ?_
 have R0:=AM h0_3 u0
 have k3:a0.fUnits.length ≤ 281474976710656:=AT R0
 refine Ab (Bb (xs:=a0.fUnits) Tryz.underlying42 rfl R0)<|Ag rfl<|Aa<|Ak<|Ac<|Bg 0 rfl<|Bd rfl ((u0.memA .hd) 0 _ rfl)<|Ab (FV.geq (i:=a0.fGroups) (j:=0) rfl rfl)<|Bg 0 rfl<|Bd rfl ((u0.memA .hd) 0 _ rfl)<|Ab (FV.leq (i:=a0.fGroups) (j:=6) rfl rfl)<|Bg 1 rfl<|Bd rfl ((u0.memA .hd) 1 _ rfl)<|Ab (FV.geq (i:=a0.fParties) (j:=0) rfl rfl)<|Bg 1 rfl<|Bd rfl ((u0.memA .hd) 1 _ rfl)<|Ab (FV.leq (i:=a0.fParties) (j:=12) rfl rfl)<|Bg 2 rfl<|Bd rfl ((u0.memA .hd) 2 _ rfl)<|Ab (FV.geq (i:=a0.fLevels) (j:=0) rfl rfl)<|Bg 2 rfl<|Bd rfl ((u0.memA .hd) 2 _ rfl)<|Ab (FV.leq (i:=a0.fLevels) (j:=3) rfl rfl)<|Ae rfl ?_
 refine Ab (FV.gtrN (i:=a0.fUnits.length) (j:=0) rfl rfl)<|Ae rfl<|Ab (FV.leqN (i:=a0.fUnits.length) (j:=64) rfl rfl)<|Aj .plain rfl (AW (α:=Bool) (xs:=([(decide (0 ≤ a0.fGroups)),(decide (a0.fGroups ≤ 6)),(decide (0 ≤ a0.fParties)),(decide (a0.fParties ≤ 12)),(decide (0 ≤ a0.fLevels)),(decide (a0.fLevels ≤ 3)),(decide (0 < a0.fUnits.length)),(decide (a0.fUnits.length ≤ 64))]:List Bool)) (vs:=[.bool (decide (0 ≤ a0.fGroups)),.bool (decide (a0.fGroups ≤ 6)),.bool (decide (0 ≤ a0.fParties)),.bool (decide (a0.fParties ≤ 12)),.bool (decide (0 ≤ a0.fLevels)),.bool (decide (a0.fLevels ≤ 3)),.bool (decide (0 < a0.fUnits.length)),.bool (decide (a0.fUnits.length ≤ 64))]) (ds' :=[.bool (decide (0 ≤ a0.fGroups)),.bool (decide (a0.fGroups ≤ 6)),.bool (decide (0 ≤ a0.fParties)),.bool (decide (a0.fParties ≤ 12)),.bool (decide (0 ≤ a0.fLevels)),.bool (decide (a0.fLevels ≤ 3)),.bool (decide (0 < a0.fUnits.length)),.bool (decide (a0.fUnits.length ≤ 64))]) rfl u0 el169 rfl (e8 rfl rfl rfl rfl rfl rfl rfl rfl) (by kernel_rfl) rfl) (fun s3 R2 B0 d3=>?_)
 have K1:=AG (cs:=[.bool (decide (0 ≤ a0.fGroups)),.bool (decide (a0.fGroups ≤ 6)),.bool (decide (0 ≤ a0.fParties)),.bool (decide (a0.fParties ≤ 12)),.bool (decide (0 ≤ a0.fLevels)),.bool (decide (a0.fLevels ≤ 3)),.bool (decide (0 < a0.fUnits.length)),.bool (decide (a0.fUnits.length ≤ 64))]) (xs:=(([(decide (0 ≤ a0.fGroups)),(decide (a0.fGroups ≤ 6)),(decide (0 ≤ a0.fParties)),(decide (a0.fParties ≤ 12)),(decide (0 ≤ a0.fLevels)),(decide (a0.fLevels ≤ 3)),(decide (0 < a0.fUnits.length)),(decide (a0.fUnits.length ≤ 64))]:List Bool):List Bool)) B0 L (Au (cs:=[.bool (decide (0 ≤ a0.fGroups))]) (ds:=[.bool (decide (a0.fGroups ≤ 6)),.bool (decide (0 ≤ a0.fParties)),.bool (decide (a0.fParties ≤ 12)),.bool (decide (0 ≤ a0.fLevels)),.bool (decide (a0.fLevels ≤ 3)),.bool (decide (0 < a0.fUnits.length)),.bool (decide (a0.fUnits.length ≤ 64))]) rfl (Au (cs:=[.bool (decide (a0.fGroups ≤ 6))]) (ds:=[.bool (decide (0 ≤ a0.fParties)),.bool (decide (a0.fParties ≤ 12)),.bool (decide (0 ≤ a0.fLevels)),.bool (decide (a0.fLevels ≤ 3)),.bool (decide (0 < a0.fUnits.length)),.bool (decide (a0.fUnits.length ≤ 64))]) rfl (Au (cs:=[.bool (decide (0 ≤ a0.fParties))]) (ds:=[.bool (decide (a0.fParties ≤ 12)),.bool (decide (0 ≤ a0.fLevels)),.bool (decide (a0.fLevels ≤ 3)),.bool (decide (0 < a0.fUnits.length)),.bool (decide (a0.fUnits.length ≤ 64))]) rfl (Au (cs:=[.bool (decide (a0.fParties ≤ 12))]) (ds:=[.bool (decide (0 ≤ a0.fLevels)),.bool (decide (a0.fLevels ≤ 3)),.bool (decide (0 < a0.fUnits.length)),.bool (decide (a0.fUnits.length ≤ 64))]) rfl (Au (cs:=[.bool (decide (0 ≤ a0.fLevels))]) (ds:=[.bool (decide (a0.fLevels ≤ 3)),.bool (decide (0 < a0.fUnits.length)),.bool (decide (a0.fUnits.length ≤ 64))]) rfl (Au (cs:=[.bool (decide (a0.fLevels ≤ 3))]) (ds:=[.bool (decide (0 < a0.fUnits.length)),.bool (decide (a0.fUnits.length ≤ 64))]) rfl (Au (cs:=[.bool (decide (0 < a0.fUnits.length))]) (ds:=[.bool (decide (a0.fUnits.length ≤ 64))]) rfl (Au (cs:=[.bool (decide (a0.fUnits.length ≤ 64))]) (ds:=[]) rfl (AO _ _)))))))))
 obtain ⟨H2,x2,h⟩:=bi h
 refine Bf (.bool H2) body141 rfl (e1 rfl) (fun w9 hw9=>units_every_c n _ w9 (B0.hL0 hL hw9) ([(decide (0 ≤ a0.fGroups)),(decide (a0.fGroups ≤ 6)),(decide (0 ≤ a0.fParties)),(decide (a0.fParties ≤ 12)),(decide (0 ≤ a0.fLevels)),(decide (a0.fLevels ≤ 3)),(decide (0 < a0.fUnits.length)),(decide (a0.fUnits.length ≤ 64))]:List Bool) (Am (St.lend (α:=Bool) (L:=L) B0 .hd K1 hL) hw9) x2) rfl<|Ab (Bz rfl)<|Aa<|MX.ifnb rfl h (fun Y0 h=>?_) (fun Y0 h=>?_)
 refine Aq<|Ac<|Aj .plain rfl (Does.makeMap (κ:=ByteArray) (ν:=Bool) B0) (fun G2 E0 I0 j3=>?_)
 refine Ag rfl<|Aa<|Ac<|Ag rfl<|Aa<|Ak<|Ac<|Bg 3 rfl<|Bd rfl ((I0.memA (.tl (.tl .hd))) 3 _ rfl) ?_
 have j2:=AM h0_3 I0
 refine Ab (Bb (xs:=a0.fUnits) Tryz.underlying42 rfl j2)<|Ae rfl<|Aa<|Az ?_
 obtain ⟨p1,g3⟩:=AH I0 (.one .hd (.one (.tl .hd) .done))
 obtain ⟨p3,k2,C0⟩:=thn_in h
 refine Bj (α:=Bool × Nat × (List (ByteArray × Bool))) (fun ⟨p0,q0,d0⟩=>[(1,vP D0),(4,.map (some E0)),(5,.bool p0),(38,v0_3),(39,vI ((a0.fUnits.length:Nat):Int)),(40,vI ((q0:Nat):Int))]) (fun ⟨p0,q0,d0⟩ J0=>St w J0 [.obj E0 (mapO (d0:List (ByteArray × Bool))),.cells D0 [vI a0.fGroups,vI a0.fParties,vI a0.fLevels,v0_3] 44]∧Tr G2 [.obj E0 (mapO ([]:List (ByteArray × Bool))),.cells D0 [vI a0.fGroups,vI a0.fParties,vI a0.fLevels,v0_3] 44] J0 [.obj E0 (mapO (d0:List (ByteArray × Bool))),.cells D0 [vI a0.fGroups,vI a0.fParties,vI a0.fLevels,v0_3] 44]) (fun ⟨p0,q0,d0⟩=>(p0,q0,d0)) (false,0,([]:List (ByteArray × Bool))) k2 ⟨rfl,rfl,rfl,rfl,rfl,rfl,trivial⟩ ⟨p1,AP _ _⟩ ?_
 rintro Q2 ⟨p0,q0,d0⟩ J0 F0 ⟨H0,G0⟩ h
 unfold units_CheckRoll_l1 at h
 try dsimp only at h
 refine Ac<|Ab (Bn (i:=q0) (j:=a0.fUnits.length) rfl rfl)<|Aa<|Ak<|AQ rfl h (fun X0 h=>?_) (fun X0 h=>?_)
 refine Aq<|Ak<|Az<|Ac<|Ae rfl ?_
 obtain ⟨b0,v2,h⟩:=bi h
 have X1:=AM h0_3 H0
 obtain ⟨P2,Z2,U1,V1,b3,u2,W1⟩:=Bm X1 v2
 obtain ⟨D2,E2,F2,rfl,U0,V0,W0⟩:=op_TUnit u2
 refine Ab (Bo 6 q0 rfl U1 rfl rfl V1)<|Ab (AB rfl W1)<|Aj .plain rfl (Av [.string ⟨#[]⟩,vI 0,vN,vN,vN,.bool false] H0) (fun t3 U2 q1 t0=>?_)
 refine Ag rfl ?_
 have Y1:=Ap U0 t0
 have Z1:=Ap V0 t0
 have b2:=Ap W0 t0
 refine AL [.string b0.fName,vI b0.fPeople,D2,E2,F2,.bool b0.fWater] q1 .hd (o6 rfl rfl (AI Y1) (AI Z1) (AI b2) rfl) (fun u3 s0 v0=>?_)
 refine Aa<|Ak<|Ak<|AF 24 tb101_9 (by kernel_rfl) (by kernel_rfl) (by kernel_rfl) (fun c0 g0=>?_)
 refine AD 0 1 16727044 c0 rfl g0 (AB rfl (s0.memA (.tl (.tl .hd)))) rfl<|AD 1 3 16727044 c0 rfl g0 (AB rfl (s0.memA .hd)) rfl ?_
 obtain ⟨j0,y2,h⟩:=bi h
 have c2:=Ap U0 (Tt t0 v0)
 have d2:=Ap V0 (Tt t0 v0)
 have g2:=Ap W0 (Tt t0 v0)
 refine BI 2 7 16727040 (.bool j0) c0 rfl g0 body142 rfl (e2 rfl rfl) (fun w9 hw9=>units_right_c n _ w9 (s0.hL0 hL hw9) a0 (s0.k0 h0_3 hw9) b0 (s0.kd c2 hw9) (s0.kd d2 hw9) (s0.kd g2 hw9) y2) rfl<|Ah 3 15 c0 rfl g0 (fun _=>Ai rfl) rfl<|Ah 4 31 c0 rfl g0 (fun _=>Bh 0 rfl) rfl<|AD 5 63 14680256 c0 rfl g0 (AK rfl ((s0.memA .hd) 0 _ rfl)) rfl<|AD 6 127 14680192 c0 rfl g0 (FV.lookup (kv:=b0.fName) (z:=false) s0 (.tl .hd) Tryz.underlying177 Tryz.underlying9 rfl (by kernel_rfl) rfl rfl) rfl<|Ah 7 255 c0 rfl g0 (fun _=>Bz rfl) rfl<|Ah 8 511 c0 rfl g0 (fun _=>Bh 5 rfl) rfl<|AD 9 1023 16727040 c0 rfl g0 (AK rfl ((s0.memA .hd) 5 _ rfl)) rfl<|Ah 10 2047 c0 rfl g0 (fun _=>Ai rfl) rfl<|RD.ifb (s:=55) rfl h (fun Z0 h=>?_) (fun Z0 h=>?_)
 refine Bk 8191 11 [(11,56),(12,57)] (F:=[(55,true)]) (U:=[]) c0 g0 (.cons rfl .nil) .nil ?_
 dsimp only [offS,List.map]
 refine Ah 13 16383 c0 rfl g0 (fun _=>BB rfl rfl) rfl<|Ah 14 32767 c0 rfl g0 (fun _=>Ai rfl) rfl<|Ah 15 65535 c0 rfl g0 (fun _=>FV.gtrN (i:=q0) (j:=0) rfl rfl) rfl<|Ah 16 131071 c0 rfl g0 (fun _=>Ai rfl) rfl<|RD.ifd (s:=61) rfl h (fun b1 h=>?_) (fun b1 h=>?_)
 refine Bk 1048575 4 [(17,62),(18,63),(19,64)] (F:=[(61,true)]) (U:=[]) c0 g0 (.cons rfl .nil) .nil ?_
 dsimp only [offS,List.map]
 refine Ah 20 2097151 c0 rfl g0 (fun _=>BB rfl rfl) rfl<|RD.nu 21 4194303 c0 rfl .plain rfl (AW (α:=Bool) (xs:=([j0,(!(mgetD d0 b0.fName false)),true,true]:List Bool)) (vs:=[.bool j0,.bool (!(mgetD d0 b0.fName false)),.bool true,.bool true]) (ds' :=[.bool j0,.bool (!(mgetD d0 b0.fName false)),.bool true,.bool true]) rfl s0 el169 rfl (e4 rfl rfl rfl rfl) (by kernel_rfl) rfl) (fun v3 V2 x0 y1=>?_)
 have M1:=AG (cs:=[.bool j0,.bool (!(mgetD d0 b0.fName false)),.bool true,.bool true]) (xs:=(([j0,(!(mgetD d0 b0.fName false)),true,true]:List Bool):List Bool)) x0 L (Au (cs:=[.bool j0]) (ds:=[.bool (!(mgetD d0 b0.fName false)),.bool true,.bool true]) rfl (Au (cs:=[.bool (!(mgetD d0 b0.fName false))]) (ds:=[.bool true,.bool true]) rfl (Au (cs:=[.bool true]) (ds:=[.bool true]) rfl (Au (cs:=[.bool true]) (ds:=[]) rfl (AO _ _)))))
 obtain ⟨I2,z2,h⟩:=bi h
 refine BI 22 8388607 8388608 (.bool I2) c0 rfl g0 body141 rfl (e1 rfl) (fun w9 hw9=>units_every_c n _ w9 (x0.hL0 hL hw9) ([j0,(!(mgetD d0 b0.fName false)),true,true]:List Bool) (Am (St.lend (α:=Bool) (L:=L) x0 .hd M1 hL) hw9) z2) rfl<|Ah 23 16777215 c0 rfl g0 (fun _=>Bz rfl) rfl<|AE (doneD_ok c0 (by kernel_rfl))<|MX.ifnb rfl h (fun c1 h=>?_) (fun c1 h=>?_)
 refine Aq<|Ac<|Ae rfl<|Bg 0 rfl<|Bd rfl ((x0.memA (.tl .hd)) 0 _ rfl)<|RG.now .plain (Acts.mapUpdate (kv:=b0.fName) (vv:=true) x0 (.tl (.tl .hd)) Tryz.underlying177 Tryz.underlying9 rfl rfl rfl rfl) (fun x3 K0 z1=>?_)
 refine Aa<|Ar<|Bg 5 rfl<|Bd rfl ((K0.memA (.tl .hd)) 5 _ rfl)<|Ag rfl<|Aa<|AC<|Ar<|Ab (Br (i:=q0) (j:=1) rfl rfl (by omega))<|Ae rfl<|Aa ?_
 obtain ⟨s1,A1⟩:=AH K0 (.one (.tl (.tl .hd)) (.one (.tl (.tl .hd)) .done))
 have p2:=Tt t0 (Tt v0 (Tt y1 (Tt z1 A1)))
 exact F0 (b0.fWater,q0 + 1,mset d0 b0.fName true) _ _ ⟨rfl,rfl,rfl,rfl,rfl,rfl,trivial⟩ ⟨s1,(Tt G0 p2)⟩ h
 refine Ac<|Ag rfl<|Aa ?_
 have h:=thn_inl h C0
 refine Al rfl<|Bc hb0 Tryz.func101 rfl rfl ?_
 cases h
 exact x0.gv
 refine BA 17 262143 c0 rfl g0 (.yes rfl rfl) (fun _=>Bh 5 rfl) rfl<|RD.val (i:=18) (m' :=524287) (W:=16252928) (takeC_ok c0 (by kernel_rfl)) rfl g0 (.yes rfl rfl) (AK rfl ((s0.memA .hd) 5 _ rfl)) rfl<|BA 19 1048575 c0 rfl g0 (.yes rfl rfl) (fun _=>Bz rfl) rfl<|Ah 20 2097151 c0 rfl g0 (fun _=>AV rfl rfl) rfl<|RD.nu 21 4194303 c0 rfl .plain rfl (AW (α:=Bool) (xs:=([j0,(!(mgetD d0 b0.fName false)),true,(!b0.fWater)]:List Bool)) (vs:=[.bool j0,.bool (!(mgetD d0 b0.fName false)),.bool true,.bool (!b0.fWater)]) (ds' :=[.bool j0,.bool (!(mgetD d0 b0.fName false)),.bool true,.bool (!b0.fWater)]) rfl s0 el169 rfl (e4 rfl rfl rfl rfl) (by kernel_rfl) rfl) (fun y3 W2 y0 B1=>?_)
 have P1:=AG (cs:=[.bool j0,.bool (!(mgetD d0 b0.fName false)),.bool true,.bool (!b0.fWater)]) (xs:=(([j0,(!(mgetD d0 b0.fName false)),true,(!b0.fWater)]:List Bool):List Bool)) y0 L (Au (cs:=[.bool j0]) (ds:=[.bool (!(mgetD d0 b0.fName false)),.bool true,.bool (!b0.fWater)]) rfl (Au (cs:=[.bool (!(mgetD d0 b0.fName false))]) (ds:=[.bool true,.bool (!b0.fWater)]) rfl (Au (cs:=[.bool true]) (ds:=[.bool (!b0.fWater)]) rfl (Au (cs:=[.bool (!b0.fWater)]) (ds:=[]) rfl (AO _ _)))))
 obtain ⟨J2,A2,h⟩:=bi h
 refine BI 22 8388607 8388608 (.bool J2) c0 rfl g0 body141 rfl (e1 rfl) (fun w9 hw9=>units_every_c n _ w9 (y0.hL0 hL hw9) ([j0,(!(mgetD d0 b0.fName false)),true,(!b0.fWater)]:List Bool) (Am (St.lend (α:=Bool) (L:=L) y0 .hd P1 hL) hw9) A2) rfl<|Ah 23 16777215 c0 rfl g0 (fun _=>Bz rfl) rfl<|AE (doneD_ok c0 (by kernel_rfl))<|MX.ifnb rfl h (fun d1 h=>?_) (fun d1 h=>?_)
 refine Aq<|Ac<|Ae rfl<|Bg 0 rfl<|Bd rfl ((y0.memA (.tl .hd)) 0 _ rfl)<|RG.now .plain (Acts.mapUpdate (kv:=b0.fName) (vv:=true) y0 (.tl (.tl .hd)) Tryz.underlying177 Tryz.underlying9 rfl rfl rfl rfl) (fun z3 M0 C1=>?_)
 refine Aa<|Ar<|Bg 5 rfl<|Bd rfl ((M0.memA (.tl .hd)) 5 _ rfl)<|Ag rfl<|Aa<|AC<|Ar<|Ab (Br (i:=q0) (j:=1) rfl rfl (by omega))<|Ae rfl<|Aa ?_
 obtain ⟨u1,D1⟩:=AH M0 (.one (.tl (.tl .hd)) (.one (.tl (.tl .hd)) .done))
 have q2:=Tt t0 (Tt v0 (Tt B1 (Tt C1 D1)))
 exact F0 (b0.fWater,q0 + 1,mset d0 b0.fName true) _ _ ⟨rfl,rfl,rfl,rfl,rfl,rfl,trivial⟩ ⟨u1,(Tt G0 q2)⟩ h
 refine Ac<|Ag rfl<|Aa ?_
 have h:=thn_inl h C0
 refine Al rfl<|Bc hb0 Tryz.func101 rfl rfl ?_
 cases h
 exact y0.gv
 refine BA 11 4095 c0 rfl g0 (.yes rfl rfl) (fun _=>Ai rfl) rfl<|BA 12 8191 c0 rfl g0 (.yes rfl rfl) (fun _=>Bz rfl) rfl<|Ah 13 16383 c0 rfl g0 (fun _=>AV rfl rfl) rfl<|Ah 14 32767 c0 rfl g0 (fun _=>Ai rfl) rfl<|Ah 15 65535 c0 rfl g0 (fun _=>FV.gtrN (i:=q0) (j:=0) rfl rfl) rfl<|Ah 16 131071 c0 rfl g0 (fun _=>Ai rfl) rfl<|RD.ifd (s:=61) rfl h (fun g1 h=>?_) (fun g1 h=>?_)
 refine Bk 1048575 4 [(17,62),(18,63),(19,64)] (F:=[(61,true)]) (U:=[]) c0 g0 (.cons rfl .nil) .nil ?_
 dsimp only [offS,List.map]
 refine Ah 20 2097151 c0 rfl g0 (fun _=>BB rfl rfl) rfl<|RD.nu 21 4194303 c0 rfl .plain rfl (AW (α:=Bool) (xs:=([j0,(!(mgetD d0 b0.fName false)),(!p0),true]:List Bool)) (vs:=[.bool j0,.bool (!(mgetD d0 b0.fName false)),.bool (!p0),.bool true]) (ds' :=[.bool j0,.bool (!(mgetD d0 b0.fName false)),.bool (!p0),.bool true]) rfl s0 el169 rfl (e4 rfl rfl rfl rfl) (by kernel_rfl) rfl) (fun A3 X2 z0 E1=>?_)
 have Q1:=AG (cs:=[.bool j0,.bool (!(mgetD d0 b0.fName false)),.bool (!p0),.bool true]) (xs:=(([j0,(!(mgetD d0 b0.fName false)),(!p0),true]:List Bool):List Bool)) z0 L (Au (cs:=[.bool j0]) (ds:=[.bool (!(mgetD d0 b0.fName false)),.bool (!p0),.bool true]) rfl (Au (cs:=[.bool (!(mgetD d0 b0.fName false))]) (ds:=[.bool (!p0),.bool true]) rfl (Au (cs:=[.bool (!p0)]) (ds:=[.bool true]) rfl (Au (cs:=[.bool true]) (ds:=[]) rfl (AO _ _)))))
 obtain ⟨K2,B2,h⟩:=bi h
 refine BI 22 8388607 8388608 (.bool K2) c0 rfl g0 body141 rfl (e1 rfl) (fun w9 hw9=>units_every_c n _ w9 (z0.hL0 hL hw9) ([j0,(!(mgetD d0 b0.fName false)),(!p0),true]:List Bool) (Am (St.lend (α:=Bool) (L:=L) z0 .hd Q1 hL) hw9) B2) rfl<|Ah 23 16777215 c0 rfl g0 (fun _=>Bz rfl) rfl<|AE (doneD_ok c0 (by kernel_rfl))<|MX.ifnb rfl h (fun j1 h=>?_) (fun j1 h=>?_)
 refine Aq<|Ac<|Ae rfl<|Bg 0 rfl<|Bd rfl ((z0.memA (.tl .hd)) 0 _ rfl)<|RG.now .plain (Acts.mapUpdate (kv:=b0.fName) (vv:=true) z0 (.tl (.tl .hd)) Tryz.underlying177 Tryz.underlying9 rfl rfl rfl rfl) (fun B3 P0 F1=>?_)
 refine Aa<|Ar<|Bg 5 rfl<|Bd rfl ((P0.memA (.tl .hd)) 5 _ rfl)<|Ag rfl<|Aa<|AC<|Ar<|Ab (Br (i:=q0) (j:=1) rfl rfl (by omega))<|Ae rfl<|Aa ?_
 obtain ⟨v1,G1⟩:=AH P0 (.one (.tl (.tl .hd)) (.one (.tl (.tl .hd)) .done))
 have s2:=Tt t0 (Tt v0 (Tt E1 (Tt F1 G1)))
 exact F0 (b0.fWater,q0 + 1,mset d0 b0.fName true) _ _ ⟨rfl,rfl,rfl,rfl,rfl,rfl,trivial⟩ ⟨v1,(Tt G0 s2)⟩ h
 refine Ac<|Ag rfl<|Aa ?_
 have h:=thn_inl h C0
 refine Al rfl<|Bc hb0 Tryz.func101 rfl rfl ?_
 cases h
 exact z0.gv
 refine BA 17 262143 c0 rfl g0 (.yes rfl rfl) (fun _=>Bh 5 rfl) rfl<|RD.val (i:=18) (m' :=524287) (W:=16252928) (takeC_ok c0 (by kernel_rfl)) rfl g0 (.yes rfl rfl) (AK rfl ((s0.memA .hd) 5 _ rfl)) rfl<|BA 19 1048575 c0 rfl g0 (.yes rfl rfl) (fun _=>Bz rfl) rfl<|Ah 20 2097151 c0 rfl g0 (fun _=>AV rfl rfl) rfl<|RD.nu 21 4194303 c0 rfl .plain rfl (AW (α:=Bool) (xs:=([j0,(!(mgetD d0 b0.fName false)),(!p0),(!b0.fWater)]:List Bool)) (vs:=[.bool j0,.bool (!(mgetD d0 b0.fName false)),.bool (!p0),.bool (!b0.fWater)]) (ds' :=[.bool j0,.bool (!(mgetD d0 b0.fName false)),.bool (!p0),.bool (!b0.fWater)]) rfl s0 el169 rfl (e4 rfl rfl rfl rfl) (by kernel_rfl) rfl) (fun C3 Y2 A0 H1=>?_)
 have R1:=AG (cs:=[.bool j0,.bool (!(mgetD d0 b0.fName false)),.bool (!p0),.bool (!b0.fWater)]) (xs:=(([j0,(!(mgetD d0 b0.fName false)),(!p0),(!b0.fWater)]:List Bool):List Bool)) A0 L (Au (cs:=[.bool j0]) (ds:=[.bool (!(mgetD d0 b0.fName false)),.bool (!p0),.bool (!b0.fWater)]) rfl (Au (cs:=[.bool (!(mgetD d0 b0.fName false))]) (ds:=[.bool (!p0),.bool (!b0.fWater)]) rfl (Au (cs:=[.bool (!p0)]) (ds:=[.bool (!b0.fWater)]) rfl (Au (cs:=[.bool (!b0.fWater)]) (ds:=[]) rfl (AO _ _)))))
 obtain ⟨M2,C2,h⟩:=bi h
 refine BI 22 8388607 8388608 (.bool M2) c0 rfl g0 body141 rfl (e1 rfl) (fun w9 hw9=>units_every_c n _ w9 (A0.hL0 hL hw9) ([j0,(!(mgetD d0 b0.fName false)),(!p0),(!b0.fWater)]:List Bool) (Am (St.lend (α:=Bool) (L:=L) A0 .hd R1 hL) hw9) C2) rfl<|Ah 23 16777215 c0 rfl g0 (fun _=>Bz rfl) rfl<|AE (doneD_ok c0 (by kernel_rfl))<|MX.ifnb rfl h (fun k1 h=>?_) (fun k1 h=>?_)
 refine Aq<|Ac<|Ae rfl<|Bg 0 rfl<|Bd rfl ((A0.memA (.tl .hd)) 0 _ rfl)<|RG.now .plain (Acts.mapUpdate (kv:=b0.fName) (vv:=true) A0 (.tl (.tl .hd)) Tryz.underlying177 Tryz.underlying9 rfl rfl rfl rfl) (fun D3 Q0 I1=>?_)
 refine Aa<|Ar<|Bg 5 rfl<|Bd rfl ((Q0.memA (.tl .hd)) 5 _ rfl)<|Ag rfl<|Aa<|AC<|Ar<|Ab (Br (i:=q0) (j:=1) rfl rfl (by omega))<|Ae rfl<|Aa ?_
 obtain ⟨x1,J1⟩:=AH Q0 (.one (.tl (.tl .hd)) (.one (.tl (.tl .hd)) .done))
 have t2:=Tt t0 (Tt v0 (Tt H1 (Tt I1 J1)))
 exact F0 (b0.fWater,q0 + 1,mset d0 b0.fName true) _ _ ⟨rfl,rfl,rfl,rfl,rfl,rfl,trivial⟩ ⟨x1,(Tt G0 t2)⟩ h
 refine Ac<|Ag rfl<|Aa ?_
 have h:=thn_inl h C0
 refine Al rfl<|Bc hb0 Tryz.func101 rfl rfl ?_
 cases h
 exact A0.gv
 refine Be rfl ?_
 have h:=thn_inr h C0
 try dsimp only at h
 refine Ac<|Ag rfl<|Aa<|Al rfl<|Bc hb0 Tryz.func101 rfl rfl ?_
 cases h
 exact H0.gv
 refine Ac<|Ag rfl<|Aa<|Al rfl<|Bc hb0 Tryz.func101 rfl rfl ?_
 cases h
 exact B0.gv
structure Tcount where
  fRoll:TRoll
  fk:Int
  deriving DecidableEq
instance:Rep Tcount:=Rep.via (β:=TRoll × Int) fun x=>(x.fRoll,x.fk)
theorem body75:bodyB Tryz.prog 75 = true:=by kernel_rfl
theorem body101:bodyB Tryz.prog 101 = true:=by kernel_rfl
def balance_counted_p (n:Nat) (a0:TRoll) (a1:Int):Option (Except Tbroken Tcount):=
  (units_CheckRoll_p n a0).bind fun g0=>(balance_need_p n g0).bind fun j0=>exc j0 (fun q0=>(if a1 < 1 then (balance_fail_p n true (2:Int)).bind fun k0=>exc k0 (fun s0=>some (.ok (⟨a0,a1⟩:Tcount))) (fun c0=>some (.error c0)) else (balance_fail_p n (decide (8 < a1)) (2:Int)).bind fun p0=>exc p0 (fun t0=>some (.ok (⟨a0,a1⟩:Tcount))) (fun d0=>some (.error d0)))) (fun b0=>some (.error b0))
theorem balance_counted_c (n:Nat) (L:List Nat) (w:World) (hL:∀ b ∈ L,b < w.heap.size) (a0:TRoll) {v0_3:Value} (h0_3:Rep.R w L [v0_3] a0.fUnits) (a1:Int)  {r:Except Tbroken Tcount} (h:balance_counted_p n a0 a1 = some r) :
    Calls Tryz.prog 50 #[.agg #[vI a0.fGroups,vI a0.fParties,vI a0.fLevels,v0_3],vI a1] w (PGives w (fun (y:Tcount) w' u=>∃ v0_3:Value,u = .agg #[vI y.fRoll.fGroups,vI y.fRoll.fParties,vI y.fRoll.fLevels,v0_3,vI y.fk]∧Rep.R w' L [v0_3] y.fRoll.fUnits) (fun e=>.iface 140 (.agg #[vI e.fErrno])) r):=by
 unfold balance_counted_p at h
 have hS0:=Ax w
 refine MX.startP Tryz.func50 rfl rfl rfl (fun _ cs0 hb0 hp0=>?_)
 refine Ac<|Aj .plain rfl (Aw hS0 rfl rfl) (fun j1 M0 v0 X0=>?_)
 refine Aj .plain rfl (Av [vI 0,vI 0,vI 0,vN,vI 0] v0) (fun k1 P0 b0 Y0=>?_)
 refine Aa<|Ac<|Ab (AB rfl (b0.memA (.tl .hd))) ?_
 obtain ⟨g0,F0,h⟩:=bi h
 refine Bf (vI g0) body101 rfl (e1 rfl) (fun w9 hw9=>units_CheckRoll_c n _ w9 (b0.hL0 hL hw9) a0 (b0.k0 h0_3 hw9) F0) rfl ?_
 obtain ⟨G0,q0,h⟩:=bi h
 rcases G0 with U0 | v1
 have h:=exc_e h
 try dsimp only at h
 refine Bu (fst:=[]) (cap:=[]) .plain body100 rfl (e1 rfl) (fun w9 hw9=>balance_need_c n _ w9 (b0.hL0 hL hw9) g0 q0) (fun p1 A0=>?_)
 obtain ⟨x0,Z0⟩:=b0.agr A0
 cases h
 exact Ba hp0 Tryz.func50 ⟨x0.ag,rfl⟩
 have h:=exc_o h
 try dsimp only at h
 refine Bf (.tuple #[]) body100 rfl (e1 rfl) (fun w9 hw9=>AU (balance_need_c n _ w9 (b0.hL0 hL hw9) g0 q0)) rfl<|Aa<|Ac<|Ae rfl<|Ab (FV.lss (i:=a1) (j:=1) rfl rfl)<|Ae rfl<|RG.ifd (s:=10) rfl h (fun u0 h=>?_) (fun u0 h=>?_)
 refine AR<|AR<|RG.pt rfl rfl ?_
 obtain ⟨H0,s0,h⟩:=bi h
 rcases H0 with V0 | x1
 have h:=exc_e h
 try dsimp only at h
 refine Bu (fst:=[]) (cap:=[]) .plain body75 rfl (e2 rfl rfl) (fun w9 hw9=>balance_fail_c n _ w9 (b0.hL0 hL hw9) true (2:Int) s0) (fun q1 B0=>?_)
 obtain ⟨y0,b1⟩:=b0.agr B0
 cases h
 exact Ba hp0 Tryz.func50 ⟨y0.ag,rfl⟩
 have h:=exc_o h
 try dsimp only at h
 refine Bf (.tuple #[]) body75 rfl (e2 rfl rfl) (fun w9 hw9=>AU (balance_fail_c n _ w9 (b0.hL0 hL hw9) true (2:Int) s0)) rfl<|Aa<|Ac<|Ab (AB rfl (b0.memA (.tl .hd)))<|Ae rfl ?_
 have j0:=AM h0_3 b0
 obtain ⟨J0,Q0,D0,_⟩:=Rep.sl j0
 refine Ab (AS (vs:=[.agg #[vI a0.fGroups,vI a0.fParties,vI a0.fLevels,v0_3],vI a1]) (u:=.agg #[vI a0.fGroups,vI a0.fParties,vI a0.fLevels,v0_3,vI a1]) (e2 rfl rfl) (fun w9=>by rw [D0]; try kernel_rfl))<|AL [vI a0.fGroups,vI a0.fParties,vI a0.fLevels,v0_3,vI a1] b0 .hd (o5 rfl rfl rfl (AI j0) rfl) (fun s1 c0 c1=>?_)
 refine Aa<|Al rfl<|Ao hb0 Tryz.func50 rfl (.cons (.many (cs:=[vI a0.fGroups,vI a0.fParties,vI a0.fLevels,v0_3,vI a1]) (by kernel_rfl) rfl (c0.memA .hd)) .nil) rfl ?_
 cases h
 exact ⟨c0.ag,fun w9 hw9=>okOf_in ⟨v0_3,rfl,c0.k0 h0_3 hw9⟩⟩
 refine AY (Ai rfl)<|AY (FV.gtr (i:=a1) (j:=8) rfl rfl)<|RG.pf rfl rfl ?_
 obtain ⟨I0,t0,h⟩:=bi h
 rcases I0 with W0 | y1
 have h:=exc_e h
 try dsimp only at h
 refine Bu (fst:=[]) (cap:=[]) .plain body75 rfl (e2 rfl rfl) (fun w9 hw9=>balance_fail_c n _ w9 (b0.hL0 hL hw9) (decide (8 < a1)) (2:Int) t0) (fun t1 C0=>?_)
 obtain ⟨z0,d1⟩:=b0.agr C0
 cases h
 exact Ba hp0 Tryz.func50 ⟨z0.ag,rfl⟩
 have h:=exc_o h
 try dsimp only at h
 refine Bf (.tuple #[]) body75 rfl (e2 rfl rfl) (fun w9 hw9=>AU (balance_fail_c n _ w9 (b0.hL0 hL hw9) (decide (8 < a1)) (2:Int) t0)) rfl<|Aa<|Ac<|Ab (AB rfl (b0.memA (.tl .hd)))<|Ae rfl ?_
 have p0:=AM h0_3 b0
 obtain ⟨K0,R0,E0,_⟩:=Rep.sl p0
 refine Ab (AS (vs:=[.agg #[vI a0.fGroups,vI a0.fParties,vI a0.fLevels,v0_3],vI a1]) (u:=.agg #[vI a0.fGroups,vI a0.fParties,vI a0.fLevels,v0_3,vI a1]) (e2 rfl rfl) (fun w9=>by rw [E0]; try kernel_rfl))<|AL [vI a0.fGroups,vI a0.fParties,vI a0.fLevels,v0_3,vI a1] b0 .hd (o5 rfl rfl rfl (AI p0) rfl) (fun u1 d0 g1=>?_)
 refine Aa<|Al rfl<|Ao hb0 Tryz.func50 rfl (.cons (.many (cs:=[vI a0.fGroups,vI a0.fParties,vI a0.fLevels,v0_3,vI a1]) (by kernel_rfl) rfl (d0.memA .hd)) .nil) rfl ?_
 cases h
 exact ⟨d0.ag,fun w9 hw9=>okOf_in ⟨v0_3,rfl,d0.k0 h0_3 hw9⟩⟩
def cs_A34 (x:UInt64 × UInt64 × UInt64 × UInt64 × UInt64 × UInt64 × UInt64 × UInt64):List Value:=[vU x.1,vU x.2.1,vU x.2.2.1,vU x.2.2.2.1,vU x.2.2.2.2.1,vU x.2.2.2.2.2.1,vU x.2.2.2.2.2.2.1,vU x.2.2.2.2.2.2.2]
def tb212_5:List (Nat × Nat × Nat):=[(0,4096,128),(0,8192,128),(2,16384,8196),(4,32768,16384),(0,65536,128),(16,131072,65544),(32,262144,131072),(0,524288,64),(200,1048576,819200),(256,2048,1048576),(512,2097152,2048),(512,4194304,2048),(2047,8388608,4100),(6143,0,10485760),(16383,64,4194304)]
def wide_Size_minus_p (_n:Nat) (a0:UInt64 × UInt64 × UInt64 × UInt64 × UInt64 × UInt64 × UInt64 × UInt64) (a1:UInt64 × UInt64 × UInt64 × UInt64 × UInt64 × UInt64 × UInt64 × UInt64):Option ((UInt64 × UInt64 × UInt64 × UInt64 × UInt64 × UInt64 × UInt64 × UInt64) × UInt64):=
  (sub64 a0.1 a1.1 (0:UInt64)).bind fun b0=>(sub64 a0.2.1 a1.2.1 b0.2).bind fun c0=>(sub64 a0.2.2.1 a1.2.2.1 c0.2).bind fun d0=>(sub64 a0.2.2.2.1 a1.2.2.2.1 d0.2).bind fun g0=>(sub64 a0.2.2.2.2.1 a1.2.2.2.2.1 g0.2).bind fun j0=>(sub64 a0.2.2.2.2.2.1 a1.2.2.2.2.2.1 j0.2).bind fun k0=>(sub64 a0.2.2.2.2.2.2.1 a1.2.2.2.2.2.2.1 k0.2).bind fun p0=>(sub64 a0.2.2.2.2.2.2.2 a1.2.2.2.2.2.2.2 p0.2).bind fun q0=>some ((b0.1,c0.1,d0.1,g0.1,j0.1,k0.1,p0.1,q0.1),q0.2)
theorem wide_Size_minus_c (n:Nat) (L:List Nat) (w:World) (_hL:∀ b ∈ L,b < w.heap.size) (a0:UInt64 × UInt64 × UInt64 × UInt64 × UInt64 × UInt64 × UInt64 × UInt64) (a1:UInt64 × UInt64 × UInt64 × UInt64 × UInt64 × UInt64 × UInt64 × UInt64)  {r:(UInt64 × UInt64 × UInt64 × UInt64 × UInt64 × UInt64 × UInt64 × UInt64) × UInt64} (h:wide_Size_minus_p n a0 a1 = some r) :
    Calls Tryz.prog 212 #[.agg ((cs_A34 a0)).toArray,.agg ((cs_A34 a1)).toArray] w (Gives w fun _ u=>u = .tuple #[.agg ((cs_A34 r.1)).toArray,vU r.2]):=by
 unfold wide_Size_minus_p at h
 have hS0:=Ax w
 refine AA Tryz.func212 rfl rfl rfl (fun _ cs0 hb0=>?_)
 refine Ac<|Aj .plain rfl (Aw hS0 rfl rfl) (fun I1 s1 Y0 v1=>?_)
 refine Aj .plain rfl (Aw Y0 rfl rfl) (fun J1 t1 Z0 x1=>?_)
 refine Aj .plain rfl (Av zP Z0) (fun K1 u1 J0 y1=>?_)
 refine Ag rfl<|Aa<|Ac<|Ag rfl<|Aa<|Ak<|Ac<|Ae rfl<|Aa<|Az<|MX.loop1<|Ac<|Ab (Bn (i:=0) (j:=8) rfl rfl)<|Aa<|Ak<|Bp rfl<|Aq<|Ak<|Az<|Ac<|Ae rfl<|Ag rfl<|Aa<|AF 13 tb212_5 (by kernel_rfl) (by kernel_rfl) (by kernel_rfl) (fun c0 v0=>?_)
 refine Ah 0 1 c0 rfl v0 (fun _=>Ai rfl) rfl<|Ah 1 3 c0 rfl v0 (fun _=>Ai rfl) rfl<|Ah 2 7 c0 rfl v0 (fun _=>AZ (m:=1) (k:=0) (len:=8) (by kernel_rfl) rfl rfl rfl (by omega)) rfl<|AD 3 15 32512 c0 rfl v0 (AK rfl ((J0.memA (.tl (.tl .hd))) 0 _ rfl)) rfl<|Ah 4 31 c0 rfl v0 (fun _=>Ai rfl) rfl<|Ah 5 63 c0 rfl v0 (fun _=>AZ (m:=1) (k:=0) (len:=8) (by kernel_rfl) rfl rfl rfl (by omega)) rfl<|AD 6 127 32512 c0 rfl v0 (AK rfl ((J0.memA (.tl .hd)) 0 _ rfl)) rfl<|Ah 7 255 c0 rfl v0 (fun _=>Ai rfl) rfl ?_
 obtain ⟨b0,b1,h⟩:=bi h
 refine Ah 8 511 c0 rfl v0 (fun _=>FV.sub64 (a:=a0.1) (b:=a1.1) (c:=(0:UInt64)) Tryz.func197 rfl (by kernel_rfl) (by kernel_rfl) (by kernel_rfl) rfl rfl rfl b1) rfl<|Ah 9 1023 c0 rfl v0 (fun _=>Ai rfl) rfl<|Ah 10 2047 c0 rfl v0 (fun _=>Af rfl rfl) rfl<|Ah 11 4095 c0 rfl v0 (fun _=>Af rfl rfl) rfl<|Ah 12 8191 c0 rfl v0 (fun _=>AZ (m:=1) (k:=0) (len:=8) (by kernel_rfl) rfl rfl rfl (by omega)) rfl<|Bt 13 16383 c0 rfl rfl .plain (BH (j:=0) (old:=(cs_A34 a0)) (news:=[vU b0.1]) (new' :=[vU b0.1,vU a0.2.1,vU a0.2.2.1,vU a0.2.2.2.1,vU a0.2.2.2.2.1,vU a0.2.2.2.2.2.1,vU a0.2.2.2.2.2.2.1,vU a0.2.2.2.2.2.2.2]) J0 (.tl (.tl .hd)) rfl rfl rfl rfl rfl rfl (o1 rfl) rfl) (fun M1 K0 z1=>?_)
 refine Bs (i:=14) (readyD_ok c0 (by kernel_rfl)) (RO.val (m' :=32767) (stepC_ok c0 (by kernel_rfl)) rfl .plain rfl (AJ rfl) ?_)
 refine AE (doneD_ok c0 (by kernel_rfl))<|AC<|Ar<|Ab (FV.add (i:=0) (j:=1) (r:=1) rfl rfl (by decide))<|Ae rfl<|Aa<|MX.again1<|Ac<|Ab (Bn (i:=1) (j:=8) rfl rfl)<|Aa<|Ak<|Bp rfl<|Aq<|Ak<|Az<|Ac<|Ae rfl<|Ag rfl<|Aa<|AF 13 tb212_5 (by kernel_rfl) (by kernel_rfl) (by kernel_rfl) (fun d0 x0=>?_)
 refine Ah 0 1 d0 rfl x0 (fun _=>Ai rfl) rfl<|Ah 1 3 d0 rfl x0 (fun _=>Ai rfl) rfl<|Ah 2 7 d0 rfl x0 (fun _=>AZ (m:=1) (k:=1) (len:=8) (by kernel_rfl) rfl rfl rfl (by omega)) rfl<|AD 3 15 32512 d0 rfl x0 (AK rfl ((K0.memA (.tl (.tl .hd))) 1 _ rfl)) rfl<|Ah 4 31 d0 rfl x0 (fun _=>Ai rfl) rfl<|Ah 5 63 d0 rfl x0 (fun _=>AZ (m:=1) (k:=1) (len:=8) (by kernel_rfl) rfl rfl rfl (by omega)) rfl<|AD 6 127 32512 d0 rfl x0 (AK rfl ((K0.memA (.tl .hd)) 1 _ rfl)) rfl<|Ah 7 255 d0 rfl x0 (fun _=>Ai rfl) rfl ?_
 obtain ⟨t0,c1,h⟩:=bi h
 refine Ah 8 511 d0 rfl x0 (fun _=>FV.sub64 (a:=a0.2.1) (b:=a1.2.1) (c:=b0.2) Tryz.func197 rfl (by kernel_rfl) (by kernel_rfl) (by kernel_rfl) rfl rfl rfl c1) rfl<|Ah 9 1023 d0 rfl x0 (fun _=>Ai rfl) rfl<|Ah 10 2047 d0 rfl x0 (fun _=>Af rfl rfl) rfl<|Ah 11 4095 d0 rfl x0 (fun _=>Af rfl rfl) rfl<|Ah 12 8191 d0 rfl x0 (fun _=>AZ (m:=1) (k:=1) (len:=8) (by kernel_rfl) rfl rfl rfl (by omega)) rfl<|Bt 13 16383 d0 rfl rfl .plain (BH (j:=1) (old:=[vU b0.1,vU a0.2.1,vU a0.2.2.1,vU a0.2.2.2.1,vU a0.2.2.2.2.1,vU a0.2.2.2.2.2.1,vU a0.2.2.2.2.2.2.1,vU a0.2.2.2.2.2.2.2]) (news:=[vU t0.1]) (new' :=[vU b0.1,vU t0.1,vU a0.2.2.1,vU a0.2.2.2.1,vU a0.2.2.2.2.1,vU a0.2.2.2.2.2.1,vU a0.2.2.2.2.2.2.1,vU a0.2.2.2.2.2.2.2]) K0 (.tl (.tl .hd)) rfl rfl rfl rfl rfl rfl (o1 rfl) rfl) (fun P1 M0 A1=>?_)
 refine Bs (i:=14) (readyD_ok d0 (by kernel_rfl)) (RO.val (m' :=32767) (stepC_ok d0 (by kernel_rfl)) rfl .plain rfl (AJ rfl) ?_)
 refine AE (doneD_ok d0 (by kernel_rfl))<|AC<|Ar<|Ab (FV.add (i:=1) (j:=1) (r:=2) rfl rfl (by decide))<|Ae rfl<|Aa<|MX.again1<|Ac<|Ab (Bn (i:=2) (j:=8) rfl rfl)<|Aa<|Ak<|Bp rfl<|Aq<|Ak<|Az<|Ac<|Ae rfl<|Ag rfl<|Aa<|AF 13 tb212_5 (by kernel_rfl) (by kernel_rfl) (by kernel_rfl) (fun g0 y0=>?_)
 refine Ah 0 1 g0 rfl y0 (fun _=>Ai rfl) rfl<|Ah 1 3 g0 rfl y0 (fun _=>Ai rfl) rfl<|Ah 2 7 g0 rfl y0 (fun _=>AZ (m:=1) (k:=2) (len:=8) (by kernel_rfl) rfl rfl rfl (by omega)) rfl<|AD 3 15 32512 g0 rfl y0 (AK rfl ((M0.memA (.tl (.tl .hd))) 2 _ rfl)) rfl<|Ah 4 31 g0 rfl y0 (fun _=>Ai rfl) rfl<|Ah 5 63 g0 rfl y0 (fun _=>AZ (m:=1) (k:=2) (len:=8) (by kernel_rfl) rfl rfl rfl (by omega)) rfl<|AD 6 127 32512 g0 rfl y0 (AK rfl ((M0.memA (.tl .hd)) 2 _ rfl)) rfl<|Ah 7 255 g0 rfl y0 (fun _=>Ai rfl) rfl ?_
 obtain ⟨u0,d1,h⟩:=bi h
 refine Ah 8 511 g0 rfl y0 (fun _=>FV.sub64 (a:=a0.2.2.1) (b:=a1.2.2.1) (c:=t0.2) Tryz.func197 rfl (by kernel_rfl) (by kernel_rfl) (by kernel_rfl) rfl rfl rfl d1) rfl<|Ah 9 1023 g0 rfl y0 (fun _=>Ai rfl) rfl<|Ah 10 2047 g0 rfl y0 (fun _=>Af rfl rfl) rfl<|Ah 11 4095 g0 rfl y0 (fun _=>Af rfl rfl) rfl<|Ah 12 8191 g0 rfl y0 (fun _=>AZ (m:=1) (k:=2) (len:=8) (by kernel_rfl) rfl rfl rfl (by omega)) rfl<|Bt 13 16383 g0 rfl rfl .plain (BH (j:=2) (old:=[vU b0.1,vU t0.1,vU a0.2.2.1,vU a0.2.2.2.1,vU a0.2.2.2.2.1,vU a0.2.2.2.2.2.1,vU a0.2.2.2.2.2.2.1,vU a0.2.2.2.2.2.2.2]) (news:=[vU u0.1]) (new' :=[vU b0.1,vU t0.1,vU u0.1,vU a0.2.2.2.1,vU a0.2.2.2.2.1,vU a0.2.2.2.2.2.1,vU a0.2.2.2.2.2.2.1,vU a0.2.2.2.2.2.2.2]) M0 (.tl (.tl .hd)) rfl rfl rfl rfl rfl rfl (o1 rfl) rfl) (fun Q1 P0 B1=>?_)
 refine Bs (i:=14) (readyD_ok g0 (by kernel_rfl)) (RO.val (m' :=32767) (stepC_ok g0 (by kernel_rfl)) rfl .plain rfl (AJ rfl) ?_)
 refine AE (doneD_ok g0 (by kernel_rfl))<|AC<|Ar<|Ab (FV.add (i:=2) (j:=1) (r:=3) rfl rfl (by decide))<|Ae rfl<|Aa<|MX.again1<|Ac<|Ab (Bn (i:=3) (j:=8) rfl rfl)<|Aa<|Ak<|Bp rfl<|Aq<|Ak<|Az<|Ac<|Ae rfl<|Ag rfl<|Aa<|AF 13 tb212_5 (by kernel_rfl) (by kernel_rfl) (by kernel_rfl) (fun j0 z0=>?_)
 refine Ah 0 1 j0 rfl z0 (fun _=>Ai rfl) rfl<|Ah 1 3 j0 rfl z0 (fun _=>Ai rfl) rfl<|Ah 2 7 j0 rfl z0 (fun _=>AZ (m:=1) (k:=3) (len:=8) (by kernel_rfl) rfl rfl rfl (by omega)) rfl<|AD 3 15 32512 j0 rfl z0 (AK rfl ((P0.memA (.tl (.tl .hd))) 3 _ rfl)) rfl<|Ah 4 31 j0 rfl z0 (fun _=>Ai rfl) rfl<|Ah 5 63 j0 rfl z0 (fun _=>AZ (m:=1) (k:=3) (len:=8) (by kernel_rfl) rfl rfl rfl (by omega)) rfl<|AD 6 127 32512 j0 rfl z0 (AK rfl ((P0.memA (.tl .hd)) 3 _ rfl)) rfl<|Ah 7 255 j0 rfl z0 (fun _=>Ai rfl) rfl ?_
 obtain ⟨E0,g1,h⟩:=bi h
 refine Ah 8 511 j0 rfl z0 (fun _=>FV.sub64 (a:=a0.2.2.2.1) (b:=a1.2.2.2.1) (c:=u0.2) Tryz.func197 rfl (by kernel_rfl) (by kernel_rfl) (by kernel_rfl) rfl rfl rfl g1) rfl<|Ah 9 1023 j0 rfl z0 (fun _=>Ai rfl) rfl<|Ah 10 2047 j0 rfl z0 (fun _=>Af rfl rfl) rfl<|Ah 11 4095 j0 rfl z0 (fun _=>Af rfl rfl) rfl<|Ah 12 8191 j0 rfl z0 (fun _=>AZ (m:=1) (k:=3) (len:=8) (by kernel_rfl) rfl rfl rfl (by omega)) rfl<|Bt 13 16383 j0 rfl rfl .plain (BH (j:=3) (old:=[vU b0.1,vU t0.1,vU u0.1,vU a0.2.2.2.1,vU a0.2.2.2.2.1,vU a0.2.2.2.2.2.1,vU a0.2.2.2.2.2.2.1,vU a0.2.2.2.2.2.2.2]) (news:=[vU E0.1]) (new' :=[vU b0.1,vU t0.1,vU u0.1,vU E0.1,vU a0.2.2.2.2.1,vU a0.2.2.2.2.2.1,vU a0.2.2.2.2.2.2.1,vU a0.2.2.2.2.2.2.2]) P0 (.tl (.tl .hd)) rfl rfl rfl rfl rfl rfl (o1 rfl) rfl) (fun R1 Q0 C1=>?_)
 refine Bs (i:=14) (readyD_ok j0 (by kernel_rfl)) (RO.val (m' :=32767) (stepC_ok j0 (by kernel_rfl)) rfl .plain rfl (AJ rfl) ?_)
 refine AE (doneD_ok j0 (by kernel_rfl))<|AC<|Ar<|Ab (FV.add (i:=3) (j:=1) (r:=4) rfl rfl (by decide))<|Ae rfl<|Aa<|MX.again1<|Ac<|Ab (Bn (i:=4) (j:=8) rfl rfl)<|Aa<|Ak<|Bp rfl<|Aq<|Ak<|Az<|Ac<|Ae rfl<|Ag rfl<|Aa<|AF 13 tb212_5 (by kernel_rfl) (by kernel_rfl) (by kernel_rfl) (fun k0 A0=>?_)
 refine Ah 0 1 k0 rfl A0 (fun _=>Ai rfl) rfl<|Ah 1 3 k0 rfl A0 (fun _=>Ai rfl) rfl<|Ah 2 7 k0 rfl A0 (fun _=>AZ (m:=1) (k:=4) (len:=8) (by kernel_rfl) rfl rfl rfl (by omega)) rfl<|AD 3 15 32512 k0 rfl A0 (AK rfl ((Q0.memA (.tl (.tl .hd))) 4 _ rfl)) rfl<|Ah 4 31 k0 rfl A0 (fun _=>Ai rfl) rfl<|Ah 5 63 k0 rfl A0 (fun _=>AZ (m:=1) (k:=4) (len:=8) (by kernel_rfl) rfl rfl rfl (by omega)) rfl<|AD 6 127 32512 k0 rfl A0 (AK rfl ((Q0.memA (.tl .hd)) 4 _ rfl)) rfl<|Ah 7 255 k0 rfl A0 (fun _=>Ai rfl) rfl ?_
 obtain ⟨F0,j1,h⟩:=bi h
 refine Ah 8 511 k0 rfl A0 (fun _=>FV.sub64 (a:=a0.2.2.2.2.1) (b:=a1.2.2.2.2.1) (c:=E0.2) Tryz.func197 rfl (by kernel_rfl) (by kernel_rfl) (by kernel_rfl) rfl rfl rfl j1) rfl<|Ah 9 1023 k0 rfl A0 (fun _=>Ai rfl) rfl<|Ah 10 2047 k0 rfl A0 (fun _=>Af rfl rfl) rfl<|Ah 11 4095 k0 rfl A0 (fun _=>Af rfl rfl) rfl<|Ah 12 8191 k0 rfl A0 (fun _=>AZ (m:=1) (k:=4) (len:=8) (by kernel_rfl) rfl rfl rfl (by omega)) rfl<|Bt 13 16383 k0 rfl rfl .plain (BH (j:=4) (old:=[vU b0.1,vU t0.1,vU u0.1,vU E0.1,vU a0.2.2.2.2.1,vU a0.2.2.2.2.2.1,vU a0.2.2.2.2.2.2.1,vU a0.2.2.2.2.2.2.2]) (news:=[vU F0.1]) (new' :=[vU b0.1,vU t0.1,vU u0.1,vU E0.1,vU F0.1,vU a0.2.2.2.2.2.1,vU a0.2.2.2.2.2.2.1,vU a0.2.2.2.2.2.2.2]) Q0 (.tl (.tl .hd)) rfl rfl rfl rfl rfl rfl (o1 rfl) rfl) (fun U1 R0 D1=>?_)
 refine Bs (i:=14) (readyD_ok k0 (by kernel_rfl)) (RO.val (m' :=32767) (stepC_ok k0 (by kernel_rfl)) rfl .plain rfl (AJ rfl) ?_)
 refine AE (doneD_ok k0 (by kernel_rfl))<|AC<|Ar<|Ab (FV.add (i:=4) (j:=1) (r:=5) rfl rfl (by decide))<|Ae rfl<|Aa<|MX.again1<|Ac<|Ab (Bn (i:=5) (j:=8) rfl rfl)<|Aa<|Ak<|Bp rfl<|Aq<|Ak<|Az<|Ac<|Ae rfl<|Ag rfl<|Aa<|AF 13 tb212_5 (by kernel_rfl) (by kernel_rfl) (by kernel_rfl) (fun p0 B0=>?_)
 refine Ah 0 1 p0 rfl B0 (fun _=>Ai rfl) rfl<|Ah 1 3 p0 rfl B0 (fun _=>Ai rfl) rfl<|Ah 2 7 p0 rfl B0 (fun _=>AZ (m:=1) (k:=5) (len:=8) (by kernel_rfl) rfl rfl rfl (by omega)) rfl<|AD 3 15 32512 p0 rfl B0 (AK rfl ((R0.memA (.tl (.tl .hd))) 5 _ rfl)) rfl<|Ah 4 31 p0 rfl B0 (fun _=>Ai rfl) rfl<|Ah 5 63 p0 rfl B0 (fun _=>AZ (m:=1) (k:=5) (len:=8) (by kernel_rfl) rfl rfl rfl (by omega)) rfl<|AD 6 127 32512 p0 rfl B0 (AK rfl ((R0.memA (.tl .hd)) 5 _ rfl)) rfl<|Ah 7 255 p0 rfl B0 (fun _=>Ai rfl) rfl ?_
 obtain ⟨G0,k1,h⟩:=bi h
 refine Ah 8 511 p0 rfl B0 (fun _=>FV.sub64 (a:=a0.2.2.2.2.2.1) (b:=a1.2.2.2.2.2.1) (c:=F0.2) Tryz.func197 rfl (by kernel_rfl) (by kernel_rfl) (by kernel_rfl) rfl rfl rfl k1) rfl<|Ah 9 1023 p0 rfl B0 (fun _=>Ai rfl) rfl<|Ah 10 2047 p0 rfl B0 (fun _=>Af rfl rfl) rfl<|Ah 11 4095 p0 rfl B0 (fun _=>Af rfl rfl) rfl<|Ah 12 8191 p0 rfl B0 (fun _=>AZ (m:=1) (k:=5) (len:=8) (by kernel_rfl) rfl rfl rfl (by omega)) rfl<|Bt 13 16383 p0 rfl rfl .plain (BH (j:=5) (old:=[vU b0.1,vU t0.1,vU u0.1,vU E0.1,vU F0.1,vU a0.2.2.2.2.2.1,vU a0.2.2.2.2.2.2.1,vU a0.2.2.2.2.2.2.2]) (news:=[vU G0.1]) (new' :=[vU b0.1,vU t0.1,vU u0.1,vU E0.1,vU F0.1,vU G0.1,vU a0.2.2.2.2.2.2.1,vU a0.2.2.2.2.2.2.2]) R0 (.tl (.tl .hd)) rfl rfl rfl rfl rfl rfl (o1 rfl) rfl) (fun V1 U0 E1=>?_)
 refine Bs (i:=14) (readyD_ok p0 (by kernel_rfl)) (RO.val (m' :=32767) (stepC_ok p0 (by kernel_rfl)) rfl .plain rfl (AJ rfl) ?_)
 refine AE (doneD_ok p0 (by kernel_rfl))<|AC<|Ar<|Ab (FV.add (i:=5) (j:=1) (r:=6) rfl rfl (by decide))<|Ae rfl<|Aa<|MX.again1<|Ac<|Ab (Bn (i:=6) (j:=8) rfl rfl)<|Aa<|Ak<|Bp rfl<|Aq<|Ak<|Az<|Ac<|Ae rfl<|Ag rfl<|Aa<|AF 13 tb212_5 (by kernel_rfl) (by kernel_rfl) (by kernel_rfl) (fun q0 C0=>?_)
 refine Ah 0 1 q0 rfl C0 (fun _=>Ai rfl) rfl<|Ah 1 3 q0 rfl C0 (fun _=>Ai rfl) rfl<|Ah 2 7 q0 rfl C0 (fun _=>AZ (m:=1) (k:=6) (len:=8) (by kernel_rfl) rfl rfl rfl (by omega)) rfl<|AD 3 15 32512 q0 rfl C0 (AK rfl ((U0.memA (.tl (.tl .hd))) 6 _ rfl)) rfl<|Ah 4 31 q0 rfl C0 (fun _=>Ai rfl) rfl<|Ah 5 63 q0 rfl C0 (fun _=>AZ (m:=1) (k:=6) (len:=8) (by kernel_rfl) rfl rfl rfl (by omega)) rfl<|AD 6 127 32512 q0 rfl C0 (AK rfl ((U0.memA (.tl .hd)) 6 _ rfl)) rfl<|Ah 7 255 q0 rfl C0 (fun _=>Ai rfl) rfl ?_
 obtain ⟨H0,p1,h⟩:=bi h
 refine Ah 8 511 q0 rfl C0 (fun _=>FV.sub64 (a:=a0.2.2.2.2.2.2.1) (b:=a1.2.2.2.2.2.2.1) (c:=G0.2) Tryz.func197 rfl (by kernel_rfl) (by kernel_rfl) (by kernel_rfl) rfl rfl rfl p1) rfl<|Ah 9 1023 q0 rfl C0 (fun _=>Ai rfl) rfl<|Ah 10 2047 q0 rfl C0 (fun _=>Af rfl rfl) rfl<|Ah 11 4095 q0 rfl C0 (fun _=>Af rfl rfl) rfl<|Ah 12 8191 q0 rfl C0 (fun _=>AZ (m:=1) (k:=6) (len:=8) (by kernel_rfl) rfl rfl rfl (by omega)) rfl<|Bt 13 16383 q0 rfl rfl .plain (BH (j:=6) (old:=[vU b0.1,vU t0.1,vU u0.1,vU E0.1,vU F0.1,vU G0.1,vU a0.2.2.2.2.2.2.1,vU a0.2.2.2.2.2.2.2]) (news:=[vU H0.1]) (new' :=[vU b0.1,vU t0.1,vU u0.1,vU E0.1,vU F0.1,vU G0.1,vU H0.1,vU a0.2.2.2.2.2.2.2]) U0 (.tl (.tl .hd)) rfl rfl rfl rfl rfl rfl (o1 rfl) rfl) (fun W1 V0 F1=>?_)
 refine Bs (i:=14) (readyD_ok q0 (by kernel_rfl)) (RO.val (m' :=32767) (stepC_ok q0 (by kernel_rfl)) rfl .plain rfl (AJ rfl) ?_)
 refine AE (doneD_ok q0 (by kernel_rfl))<|AC<|Ar<|Ab (FV.add (i:=6) (j:=1) (r:=7) rfl rfl (by decide))<|Ae rfl<|Aa<|MX.again1<|Ac<|Ab (Bn (i:=7) (j:=8) rfl rfl)<|Aa<|Ak<|Bp rfl<|Aq<|Ak<|Az<|Ac<|Ae rfl<|Ag rfl<|Aa<|AF 13 tb212_5 (by kernel_rfl) (by kernel_rfl) (by kernel_rfl) (fun s0 D0=>?_)
 refine Ah 0 1 s0 rfl D0 (fun _=>Ai rfl) rfl<|Ah 1 3 s0 rfl D0 (fun _=>Ai rfl) rfl<|Ah 2 7 s0 rfl D0 (fun _=>AZ (m:=1) (k:=7) (len:=8) (by kernel_rfl) rfl rfl rfl (by omega)) rfl<|AD 3 15 32512 s0 rfl D0 (AK rfl ((V0.memA (.tl (.tl .hd))) 7 _ rfl)) rfl<|Ah 4 31 s0 rfl D0 (fun _=>Ai rfl) rfl<|Ah 5 63 s0 rfl D0 (fun _=>AZ (m:=1) (k:=7) (len:=8) (by kernel_rfl) rfl rfl rfl (by omega)) rfl<|AD 6 127 32512 s0 rfl D0 (AK rfl ((V0.memA (.tl .hd)) 7 _ rfl)) rfl<|Ah 7 255 s0 rfl D0 (fun _=>Ai rfl) rfl ?_
 obtain ⟨I0,q1,h⟩:=bi h
 refine Ah 8 511 s0 rfl D0 (fun _=>FV.sub64 (a:=a0.2.2.2.2.2.2.2) (b:=a1.2.2.2.2.2.2.2) (c:=H0.2) Tryz.func197 rfl (by kernel_rfl) (by kernel_rfl) (by kernel_rfl) rfl rfl rfl q1) rfl<|Ah 9 1023 s0 rfl D0 (fun _=>Ai rfl) rfl<|Ah 10 2047 s0 rfl D0 (fun _=>Af rfl rfl) rfl<|Ah 11 4095 s0 rfl D0 (fun _=>Af rfl rfl) rfl<|Ah 12 8191 s0 rfl D0 (fun _=>AZ (m:=1) (k:=7) (len:=8) (by kernel_rfl) rfl rfl rfl (by omega)) rfl<|Bt 13 16383 s0 rfl rfl .plain (BH (j:=7) (old:=[vU b0.1,vU t0.1,vU u0.1,vU E0.1,vU F0.1,vU G0.1,vU H0.1,vU a0.2.2.2.2.2.2.2]) (news:=[vU I0.1]) (new' :=[vU b0.1,vU t0.1,vU u0.1,vU E0.1,vU F0.1,vU G0.1,vU H0.1,vU I0.1]) V0 (.tl (.tl .hd)) rfl rfl rfl rfl rfl rfl (o1 rfl) rfl) (fun X1 W0 G1=>?_)
 refine Bs (i:=14) (readyD_ok s0 (by kernel_rfl)) (RO.val (m' :=32767) (stepC_ok s0 (by kernel_rfl)) rfl .plain rfl (AJ rfl) ?_)
 refine AE (doneD_ok s0 (by kernel_rfl))<|AC<|Ar<|Ab (FV.add (i:=7) (j:=1) (r:=8) rfl rfl (by decide))<|Ae rfl<|Aa<|MX.again1<|Ac<|Ab (Bn (i:=8) (j:=8) rfl rfl)<|Aa<|Ak<|Bv rfl<|Be rfl<|Ac<|Ab (AB rfl (W0.memA (.tl (.tl .hd))))<|Ae rfl<|AL [vU b0.1,vU t0.1,vU u0.1,vU E0.1,vU F0.1,vU G0.1,vU H0.1,vU I0.1] W0 .hd (onesB rfl) (fun Y1 X0 H1=>?_)
 refine Ag rfl<|Aa<|Al rfl<|Ao hb0 Tryz.func212 rfl (.cons (.many (cs:=[vU b0.1,vU t0.1,vU u0.1,vU E0.1,vU F0.1,vU G0.1,vU H0.1,vU I0.1]) (by kernel_rfl) rfl (X0.memA .hd)) (.cons (.tmp rfl) .nil)) rfl ?_
 cases h
 exact X0.gv
def tb213_4:List (Nat × Nat × Nat):=[(0,1024,32),(1,2048,1028),(2,4096,2048),(0,8192,32),(8,16384,8200),(16,32768,16384),(36,65536,36864)]
def tb213_5:List (Nat × Nat × Nat):=[(0,131072,32),(1,262144,131076),(2,524288,262144),(0,1048576,32),(8,2097152,1048584),(16,4194304,2097152),(36,8388608,4718592)]
def wide_Size_order_l1 (_n:Nat) (a0:UInt64 × UInt64 × UInt64 × UInt64 × UInt64 × UInt64 × UInt64 × UInt64) (a1:UInt64 × UInt64 × UInt64 × UInt64 × UInt64 × UInt64 × UInt64 × UInt64) (g0:Int → Option (Int ⊕ Unit)):Int → Option (Int ⊕ Unit)
  | b0=>(if 0 ≤ b0 then (idx ([a0.1,a0.2.1,a0.2.2.1,a0.2.2.2.1,a0.2.2.2.2.1,a0.2.2.2.2.2.1,a0.2.2.2.2.2.2.1,a0.2.2.2.2.2.2.2]:List UInt64) b0).bind fun c0=>(idx ([a1.1,a1.2.1,a1.2.2.1,a1.2.2.2.1,a1.2.2.2.2.1,a1.2.2.2.2.2.1,a1.2.2.2.2.2.2.1,a1.2.2.2.2.2.2.2]:List UInt64) b0).bind fun d0=>(if c0 = d0 then (chk (b0 - 1)).bind fun j0=>g0 j0 else (if c0 < d0 then some (.inl (-1:Int)) else some (.inl (1:Int)))) else some (.inr ()))
def wide_Size_order_p (n:Nat) (a0:UInt64 × UInt64 × UInt64 × UInt64 × UInt64 × UInt64 × UInt64 × UInt64) (a1:UInt64 × UInt64 × UInt64 × UInt64 × UInt64 × UInt64 × UInt64 × UInt64):Option Int:=
  thn (loopF (wide_Size_order_l1 n a0 a1) n 7) (fun _=>some (0:Int))
theorem wide_Size_order_c (n:Nat) (L:List Nat) (w:World) (_hL:∀ b ∈ L,b < w.heap.size) (a0:UInt64 × UInt64 × UInt64 × UInt64 × UInt64 × UInt64 × UInt64 × UInt64) (a1:UInt64 × UInt64 × UInt64 × UInt64 × UInt64 × UInt64 × UInt64 × UInt64)  {r:Int} (h:wide_Size_order_p n a0 a1 = some r) :
    Calls Tryz.prog 213 #[.agg ((cs_A34 a0)).toArray,.agg ((cs_A34 a1)).toArray] w (Gives w fun _ u=>u = vI r):=by
 unfold wide_Size_order_p at h
 have hS0:=Ax w
 refine AA Tryz.func213 rfl rfl rfl (fun _ cs0 hb0=>?_)
 refine Ac<|Aj .plain rfl (Aw hS0 rfl rfl) (fun c1 p0 F0 Y0=>?_)
 refine Aj .plain rfl (Aw F0 rfl rfl) (fun W0 q0 G0 Z0=>?_)
 refine Ag rfl<|Aa<|Ak<|Ac<|Ag rfl<|Aa<|Az ?_
 obtain ⟨b1,P0,u0⟩:=thn_in h
 refine Bj (α:=Int) (fun b0=>[(2,vP p0),(3,vP q0),(5,vI b0)]) (fun b0 v0=>St w v0 [.cells q0 (cs_A34 a1) 215,.cells p0 (cs_A34 a0) 215]∧Tr W0 [.cells q0 (cs_A34 a1) 215,.cells p0 (cs_A34 a0) 215] v0 [.cells q0 (cs_A34 a1) 215,.cells p0 (cs_A34 a0) 215]) (fun b0=>b0) 7 P0 ⟨rfl,rfl,rfl,trivial⟩ ⟨G0,AP _ _⟩ ?_
 rintro X0 b0 v0 E0 ⟨c0,H0⟩ h
 unfold wide_Size_order_l1 at h
 try dsimp only at h
 refine Ak<|Ac<|Ae rfl<|Ab (FV.geq (i:=b0) (j:=0) rfl rfl)<|Aa<|AQ rfl h (fun B0 h=>?_) (fun B0 h=>?_)
 refine Aq<|Ak<|Az<|Ak<|AF 7 tb213_4 (by kernel_rfl) (by kernel_rfl) (by kernel_rfl) (fun d0 j0=>?_)
 refine Ah 0 1 d0 rfl j0 (fun _=>Ai rfl) rfl ?_
 obtain ⟨z0,R0,h⟩:=bi h
 obtain ⟨x0,s0⟩:=idx_in R0
 have I0:=mem_elem1 (p:=⟨p0,0,none⟩) (cs:=([a0.1,a0.2.1,a0.2.2.1,a0.2.2.2.1,a0.2.2.2.2.1,a0.2.2.2.2.2.1,a0.2.2.2.2.2.2.1,a0.2.2.2.2.2.2.2]:List UInt64).map (fun z9:UInt64=>(vU z9:Value)) ++ []) (i:=b0.toNat) (c0.memA (.tl .hd)) (arr_get (fun z9:UInt64=>(vU z9:Value)) s0)
 refine Ah 1 3 d0 rfl j0 (fun _=>AZ (m:=1) (k:=b0.toNat) (len:=8) (by kernel_rfl) rfl rfl x0 (arr_lt s0 rfl)) rfl<|AD 2 7 64 d0 rfl j0 (AK rfl (I0 0 _ rfl)) rfl<|Ah 3 15 d0 rfl j0 (fun _=>Ai rfl) rfl ?_
 obtain ⟨A0,U0,h⟩:=bi h
 obtain ⟨y0,t0⟩:=idx_in U0
 have J0:=mem_elem1 (p:=⟨q0,0,none⟩) (cs:=([a1.1,a1.2.1,a1.2.2.1,a1.2.2.2.1,a1.2.2.2.2.1,a1.2.2.2.2.2.1,a1.2.2.2.2.2.2.1,a1.2.2.2.2.2.2.2]:List UInt64).map (fun z9:UInt64=>(vU z9:Value)) ++ []) (i:=b0.toNat) (c0.memA .hd) (arr_get (fun z9:UInt64=>(vU z9:Value)) t0)
 refine Ah 4 31 d0 rfl j0 (fun _=>AZ (m:=1) (k:=b0.toNat) (len:=8) (by kernel_rfl) rfl rfl y0 (arr_lt t0 rfl)) rfl<|AD 5 63 64 d0 rfl j0 (AK rfl (J0 0 _ rfl)) rfl<|Ah 6 127 d0 rfl j0 (fun _=>FV.neqU (a:=z0) (b:=A0) rfl rfl) rfl<|AE (doneD_ok d0 (by kernel_rfl))<|MX.ifn rfl h (fun C0 h=>?_) (fun C0 h=>?_)
 refine Aq<|AC<|Ar<|Ae rfl ?_
 obtain ⟨V0,Q0,h⟩:=bi h
 refine Ab (FV.subc (i:=b0) (j:=1) rfl rfl Q0)<|Ag rfl<|Aa ?_
 exact E0 V0 _ _ ⟨rfl,rfl,rfl,trivial⟩ ⟨c0,H0⟩ h
 refine Ak<|Ak<|AF 7 tb213_5 (by kernel_rfl) (by kernel_rfl) (by kernel_rfl) (fun g0 k0=>?_)
 refine Ah 0 1 g0 rfl k0 (fun _=>Ai rfl) rfl ?_
 have K0:=mem_elem1 (p:=⟨p0,0,none⟩) (cs:=([a0.1,a0.2.1,a0.2.2.1,a0.2.2.2.1,a0.2.2.2.2.1,a0.2.2.2.2.2.1,a0.2.2.2.2.2.2.1,a0.2.2.2.2.2.2.2]:List UInt64).map (fun z9:UInt64=>(vU z9:Value)) ++ []) (i:=b0.toNat) (c0.memA (.tl .hd)) (arr_get (fun z9:UInt64=>(vU z9:Value)) s0)
 refine Ah 1 3 g0 rfl k0 (fun _=>AZ (m:=1) (k:=b0.toNat) (len:=8) (by kernel_rfl) rfl rfl x0 (arr_lt s0 rfl)) rfl<|AD 2 7 64 g0 rfl k0 (AK rfl (K0 0 _ rfl)) rfl<|Ah 3 15 g0 rfl k0 (fun _=>Ai rfl) rfl ?_
 have M0:=mem_elem1 (p:=⟨q0,0,none⟩) (cs:=([a1.1,a1.2.1,a1.2.2.1,a1.2.2.2.1,a1.2.2.2.2.1,a1.2.2.2.2.2.1,a1.2.2.2.2.2.2.1,a1.2.2.2.2.2.2.2]:List UInt64).map (fun z9:UInt64=>(vU z9:Value)) ++ []) (i:=b0.toNat) (c0.memA .hd) (arr_get (fun z9:UInt64=>(vU z9:Value)) t0)
 refine Ah 4 31 g0 rfl k0 (fun _=>AZ (m:=1) (k:=b0.toNat) (len:=8) (by kernel_rfl) rfl rfl y0 (arr_lt t0 rfl)) rfl<|AD 5 63 64 g0 rfl k0 (AK rfl (M0 0 _ rfl)) rfl<|Ah 6 127 g0 rfl k0 (fun _=>FV.lssU (a:=z0) (b:=A0) rfl rfl) rfl<|AE (doneD_ok g0 (by kernel_rfl))<|AQ rfl h (fun D0 h=>?_) (fun D0 h=>?_)
 refine Ac<|Ag rfl<|Aa ?_
 have h:=thn_inl h u0
 refine Al rfl<|Bc hb0 Tryz.func213 rfl rfl ?_
 cases h
 exact c0.gv
 refine Aq<|Ac<|Ag rfl<|Aa ?_
 have h:=thn_inl h u0
 refine Al rfl<|Bc hb0 Tryz.func213 rfl rfl ?_
 cases h
 exact c0.gv
 refine Be rfl ?_
 have h:=thn_inr h u0
 try dsimp only at h
 refine Ac<|Ag rfl<|Aa<|Al rfl<|Bc hb0 Tryz.func213 rfl rfl ?_
 cases h
 exact c0.gv
structure TNumber where
  fBelow:Bool
  fSize:UInt64 × UInt64 × UInt64 × UInt64 × UInt64 × UInt64 × UInt64 × UInt64
  deriving DecidableEq
instance:Rep TNumber:=Rep.via (β:=Bool × (UInt64 × UInt64 × UInt64 × UInt64 × UInt64 × UInt64 × UInt64 × UInt64)) fun x=>(x.fBelow,x.fSize)
def cs_TNumber (x:TNumber):List Value:=[.bool x.fBelow,vU x.fSize.1,vU x.fSize.2.1,vU x.fSize.2.2.1,vU x.fSize.2.2.2.1,vU x.fSize.2.2.2.2.1,vU x.fSize.2.2.2.2.2.1,vU x.fSize.2.2.2.2.2.2.1,vU x.fSize.2.2.2.2.2.2.2]
theorem body212:bodyB Tryz.prog 212 = true:=by kernel_rfl
theorem body213:bodyB Tryz.prog 213 = true:=by kernel_rfl
def wide_Number_Told_p (n:Nat) (a0:TNumber):Option ((UInt64 × UInt64 × UInt64 × UInt64 × UInt64 × UInt64 × UInt64 × UInt64) × Int):=
  (wide_Size_order_p n a0.fSize ((0:UInt64),(0:UInt64),(0:UInt64),(0:UInt64),(0:UInt64),(0:UInt64),(0:UInt64),(9223372036854775808:UInt64))).bind fun b0=>(if 0 < b0 then some (((0:UInt64),(0:UInt64),(0:UInt64),(0:UInt64),(0:UInt64),(0:UInt64),(0:UInt64),(0:UInt64)),(6:Int)) else (if b0 = 0 then (if a0.fBelow = true then (wide_Size_minus_p n ((0:UInt64),(0:UInt64),(0:UInt64),(0:UInt64),(0:UInt64),(0:UInt64),(0:UInt64),(0:UInt64)) a0.fSize).bind fun c0=>some (c0.1,(0:Int)) else some (((0:UInt64),(0:UInt64),(0:UInt64),(0:UInt64),(0:UInt64),(0:UInt64),(0:UInt64),(0:UInt64)),(6:Int))) else (if a0.fBelow = true then (wide_Size_minus_p n ((0:UInt64),(0:UInt64),(0:UInt64),(0:UInt64),(0:UInt64),(0:UInt64),(0:UInt64),(0:UInt64)) a0.fSize).bind fun d0=>some (d0.1,(0:Int)) else some (a0.fSize,(0:Int)))))
theorem wide_Number_Told_c (n:Nat) (L:List Nat) (w:World) (hL:∀ b ∈ L,b < w.heap.size) (a0:TNumber)  {r:(UInt64 × UInt64 × UInt64 × UInt64 × UInt64 × UInt64 × UInt64 × UInt64) × Int} (h:wide_Number_Told_p n a0 = some r) :
    Calls Tryz.prog 193 #[.agg ((cs_TNumber a0)).toArray] w (Gives w fun _ u=>u = .tuple #[.agg ((cs_A34 r.1)).toArray,vI r.2]):=by
 unfold wide_Number_Told_p at h
 have hS0:=Ax w
 refine AA Tryz.func193 rfl rfl rfl (fun _ cs0 hb0=>?_)
 refine Ac<|Aj .plain rfl (Aw hS0 rfl rfl) (fun Z0 G0 A0 J0=>?_)
 refine Aj .plain rfl (Av zP A0) (fun b1 H0 B0 K0=>?_)
 refine Ag rfl<|Aa<|Ac<|Ab (AS (vs:=[vW 9223372036854775808]) (u:=.agg #[vW 0,vW 0,vW 0,vW 0,vW 0,vW 0,vW 0,vW 9223372036854775808]) (e1 rfl) (fun w9=>by kernel_rfl))<|Aj .plain rfl (Av zP B0) (fun c1 I0 C0 M0=>?_)
 refine AL [vW 0,vW 0,vW 0,vW 0,vW 0,vW 0,vW 0,vW 9223372036854775808] C0 .hd (onesB rfl) (fun d1 b0 P0=>?_)
 refine Aa<|Ak<|Ac<|Bg 1 rfl<|Ab (Bl (cs:=(cs_A34 a0.fSize)) (by kernel_rfl) rfl (mem_part (b0.memA (.tl (.tl .hd))) 1 8))<|Ab (AB rfl (b0.memA .hd)) ?_
 obtain ⟨g0,D0,h⟩:=bi h
 refine Bf (vI g0) body213 rfl (e2 rfl rfl) (fun w9 hw9=>wide_Size_order_c n _ w9 (b0.hL0 hL hw9) a0.fSize ((0:UInt64),(0:UInt64),(0:UInt64),(0:UInt64),(0:UInt64),(0:UInt64),(0:UInt64),(9223372036854775808:UInt64)) D0) rfl<|Ag rfl<|Aa<|Ac<|Ae rfl<|Ab (FV.gtr (i:=g0) (j:=0) rfl rfl)<|Ae rfl<|RG.ifd (s:=13) rfl h (fun x0 h=>?_) (fun x0 h=>?_)
 refine AR<|AR<|AR<|RG.un<|RG.un<|RG.un<|AR<|RG.pt rfl rfl<|Aa<|Bp rfl<|Ac<|Ab (AS (vs:=[]) (u:=.agg zQ) evs_nil (fun w9=>by kernel_rfl))<|AL zP b0 (.tl .hd) (onesB rfl) (fun g1 k0 Q0=>?_)
 refine Ag rfl<|Aa<|Al rfl<|Ao hb0 Tryz.func193 rfl (.cons (.many (cs:=zP) (by kernel_rfl) rfl (k0.memA (.tl .hd))) (.cons (.tmp rfl) .nil)) rfl ?_
 cases h
 exact k0.gv
 refine AY (Ai rfl)<|AY (FV.eql (i:=g0) (j:=0) rfl rfl)<|AY (Ai rfl)<|RG.ifd (s:=16) rfl h (fun y0 h=>?_) (fun y0 h=>?_)
 refine RG.fg 0 rfl<|AY (AK rfl ((b0.memA (.tl (.tl .hd))) 0 _ rfl))<|AY (Bz rfl)<|AY (BB rfl rfl)<|RG.pf rfl rfl<|Aa<|MX.ifnb rfl h (fun j0 h=>?_) (fun j0 h=>?_)
 refine Aq<|Ak<|Ac<|Bg 0 rfl<|Bd rfl ((b0.memA (.tl (.tl .hd))) 0 _ rfl)<|Aa<|MX.cond_kt rfl j0<|Ar<|Ab (AS (vs:=[]) (u:=.agg zQ) evs_nil (fun w9=>by kernel_rfl))<|Bg 1 rfl<|Ab (Bl (cs:=(cs_A34 a0.fSize)) (by kernel_rfl) rfl (mem_part (b0.memA (.tl (.tl .hd))) 1 8)) ?_
 obtain ⟨c0,E0,h⟩:=bi h
 refine Bf (.tuple #[.agg ((cs_A34 c0.1)).toArray,vU c0.2]) body212 rfl (e2 rfl rfl) (fun w9 hw9=>wide_Size_minus_c n _ w9 (b0.hL0 hL hw9) ((0:UInt64),(0:UInt64),(0:UInt64),(0:UInt64),(0:UInt64),(0:UInt64),(0:UInt64),(0:UInt64)) a0.fSize E0) rfl<|Ae rfl<|Ab (Af rfl rfl)<|Ab (Af rfl rfl)<|Bg 1 rfl<|RG.now .plain (BH (j:=1) (old:=(cs_TNumber a0)) (news:=(cs_A34 c0.1)) (new' :=(([.bool a0.fBelow]:List Value) ++ cs_A34 c0.1)) b0 (.tl (.tl .hd)) rfl rfl rfl rfl rfl rfl (onesB rfl) rfl) (fun j1 p0 R0=>?_)
 refine Aa<|Ac<|Bg 1 rfl<|Ab (Bl (cs:=(cs_A34 c0.1)) (by kernel_rfl) rfl (mem_part (p0.memA (.tl (.tl .hd))) 1 8))<|AL (cs_A34 c0.1) p0 (.tl .hd) (onesB rfl) (fun k1 q0 U0=>?_)
 refine Ag rfl<|Aa<|Al rfl<|Ao hb0 Tryz.func193 rfl (.cons (.many (cs:=(cs_A34 c0.1)) (by kernel_rfl) rfl (q0.memA (.tl .hd))) (.cons (.tmp rfl) .nil)) rfl ?_
 cases h
 exact q0.gv
 refine Ac<|Ab (AS (vs:=[]) (u:=.agg zQ) evs_nil (fun w9=>by kernel_rfl))<|AL zP b0 (.tl .hd) (onesB rfl) (fun p1 s0 V0=>?_)
 refine Ag rfl<|Aa<|Al rfl<|Ao hb0 Tryz.func193 rfl (.cons (.many (cs:=zP) (by kernel_rfl) rfl (s0.memA (.tl .hd))) (.cons (.tmp rfl) .nil)) rfl ?_
 cases h
 exact s0.gv
 refine AR<|AR<|AR<|AY (AV rfl rfl)<|RG.pf rfl rfl<|Aa<|Bv rfl<|Aq<|Ak<|Ac<|Bg 0 rfl<|Bd rfl ((b0.memA (.tl (.tl .hd))) 0 _ rfl)<|Aa<|MX.ifb rfl h (fun z0 h=>?_) (fun z0 h=>?_)
 refine Ar<|Ab (AS (vs:=[]) (u:=.agg zQ) evs_nil (fun w9=>by kernel_rfl))<|Bg 1 rfl<|Ab (Bl (cs:=(cs_A34 a0.fSize)) (by kernel_rfl) rfl (mem_part (b0.memA (.tl (.tl .hd))) 1 8)) ?_
 obtain ⟨d0,F0,h⟩:=bi h
 refine Bf (.tuple #[.agg ((cs_A34 d0.1)).toArray,vU d0.2]) body212 rfl (e2 rfl rfl) (fun w9 hw9=>wide_Size_minus_c n _ w9 (b0.hL0 hL hw9) ((0:UInt64),(0:UInt64),(0:UInt64),(0:UInt64),(0:UInt64),(0:UInt64),(0:UInt64),(0:UInt64)) a0.fSize F0) rfl<|Ae rfl<|Ab (Af rfl rfl)<|Ab (Af rfl rfl)<|Bg 1 rfl<|RG.now .plain (BH (j:=1) (old:=(cs_TNumber a0)) (news:=(cs_A34 d0.1)) (new' :=(([.bool a0.fBelow]:List Value) ++ cs_A34 d0.1)) b0 (.tl (.tl .hd)) rfl rfl rfl rfl rfl rfl (onesB rfl) rfl) (fun q1 t0 W0=>?_)
 refine Aa<|Ac<|Bg 1 rfl<|Ab (Bl (cs:=(cs_A34 d0.1)) (by kernel_rfl) rfl (mem_part (t0.memA (.tl (.tl .hd))) 1 8))<|AL (cs_A34 d0.1) t0 (.tl .hd) (onesB rfl) (fun s1 u0 X0=>?_)
 refine Ag rfl<|Aa<|Al rfl<|Ao hb0 Tryz.func193 rfl (.cons (.many (cs:=(cs_A34 d0.1)) (by kernel_rfl) rfl (u0.memA (.tl .hd))) (.cons (.tmp rfl) .nil)) rfl ?_
 cases h
 exact u0.gv
 refine Aq<|Ac<|Bg 1 rfl<|Ab (Bl (cs:=(cs_A34 a0.fSize)) (by kernel_rfl) rfl (mem_part (b0.memA (.tl (.tl .hd))) 1 8))<|AL (cs_A34 a0.fSize) b0 (.tl .hd) (onesB rfl) (fun t1 v0 Y0=>?_)
 refine Ag rfl<|Aa<|Al rfl<|Ao hb0 Tryz.func193 rfl (.cons (.many (cs:=(cs_A34 a0.fSize)) (by kernel_rfl) rfl (v0.memA (.tl .hd))) (.cons (.tmp rfl) .nil)) rfl ?_
 cases h
 exact v0.gv
end Go.Proofs.YtmhgoecnjleagaaGreatDoor
