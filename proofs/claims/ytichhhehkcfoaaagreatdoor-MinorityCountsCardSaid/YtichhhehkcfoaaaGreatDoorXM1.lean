/- Functions of the program, and what they give: part 1. -/
import Derived.Test.YtichhhehkcfoaaaGreatDoorProg
import Derived.Test.YtichhhehkcfoaaaGreatDoorXMk
namespace Go.Proofs.YtichhhehkcfoaaaGreatDoor
open Go Go.RowKit
set_option maxRecDepth 4000
set_option maxHeartbeats 4000000

structure TShare where
  fN:UInt64 × UInt64 × UInt64 × UInt64 × UInt64 × UInt64 × UInt64 × UInt64
  fD:UInt64 × UInt64 × UInt64 × UInt64 × UInt64 × UInt64 × UInt64 × UInt64
  deriving DecidableEq
instance:Rep TShare:=Rep.via (β:=(UInt64 × UInt64 × UInt64 × UInt64 × UInt64 × UInt64 × UInt64 × UInt64) × (UInt64 × UInt64 × UInt64 × UInt64 × UInt64 × UInt64 × UInt64 × UInt64)) fun x=>(x.fN,x.fD)
structure Tbroken where
  fB:Int
  deriving DecidableEq
instance:Rep Tbroken:=Rep.via (β:=Int) fun x=>x.fB
def balance_need_p (_n:Nat) (a0:Int):Option (Except Tbroken Unit):=
  (if a0 = 0 then some (.ok ()) else some (.error (⟨a0⟩:Tbroken)))
theorem balance_need_c (n:Nat) (L:List Nat) (w:World) (_hL:∀ b ∈ L,b < w.heap.size) (a0:Int)  {r:Except Tbroken Unit} (h:balance_need_p n a0 = some r) :
    Calls Tryz.prog 79 #[vI a0] w (PGives w (fun (y:Unit) _ u=>u = .tuple #[]) (fun e=>.iface 131 (.agg #[vI e.fB])) r):=by
 unfold balance_need_p at h
 have hS0:=Ay w
 refine BE Tryz.func79 rfl rfl rfl (fun _ cs0 hb0 hp0=>?_)
 refine Ac<|Ae rfl<|Ab (FV.neq (i:=a0) (j:=0) rfl rfl)<|Aa<|MX.ifn rfl h (fun c1 h=>?_) (fun c1 h=>?_)
 refine Au<|MX.fin rfl<|Am hb0 Tryz.func79 rfl .nil rfl ?_
 cases h
 exact ⟨hS0.ag,fun w9 hw9=>okOf_in rfl⟩
 refine Ao<|Ae rfl<|Ab (AM (vs:=[vI a0]) (u:=.agg #[vI a0]) (e1 rfl) (fun w9=>by kernel_rfl))<|Ab (Bv (by kernel_rfl) rfl)<|RG.panic .plain rfl ?_
 cases h
 exact AP hp0 Tryz.func79 ⟨hS0.ag,rfl⟩
def slices_Index_bool_bool_l1 (_n:Nat) (a0:List Bool) (a1:Bool) (c0:Nat → Option (Int ⊕ Unit)):Nat → Option (Int ⊕ Unit)
  | b0=>(if b0 < a0.length then (a0[b0]?).bind fun d0=>(if (a1 == d0) = true then some (.inl ((b0:Nat):Int)) else c0 (b0 + 1)) else some (.inr ()))
def slices_Index_bool_bool_p (n:Nat) (a0:List Bool) (a1:Bool):Option Int:=
  thn (loopF (slices_Index_bool_bool_l1 n a0 a1) n 0) (fun _=>some (-1:Int))
theorem slices_Index_bool_bool_c (n:Nat) (L:List Nat) (w:World) (_hL:∀ b ∈ L,b < w.heap.size) (a0:List Bool) {v0_0:Value} (h0_0:Rep.R w L [v0_0] a0) (a1:Bool)  {r:Int} (h:slices_Index_bool_bool_p n a0 a1 = some r) :
    Calls Tryz.prog 147 #[v0_0,.bool a1] w (Gives w fun _ u=>u = vI r):=by
 unfold slices_Index_bool_bool_p at h
 have hS0:=Ay w
 refine AD Tryz.func147 rfl rfl rfl (fun _ cs0 hb0=>?_)
 refine Ac<|Af rfl<|Aa<|Aj<|Ac<|Ae rfl ?_
 have hl1:a0.length ≤ 281474976710656:=AU h0_0
 refine Ab (Bd (xs:=a0) Tryz.underlying184 rfl h0_0)<|Ae rfl<|Aa<|Az ?_
 obtain ⟨G0,A0,g0⟩:=thn_in h
 refine Bm (α:=Nat) (fun b0=>[(0,v0_0),(1,.bool a1),(7,vI ((a0.length:Nat):Int)),(8,vI ((b0:Nat):Int))]) (fun b0 d0=>St w d0 []∧Tr w [] d0 []) (fun b0=>b0) 0 A0 ⟨rfl,rfl,rfl,rfl,trivial⟩ ⟨hS0,AQ _ _⟩ ?_
 rintro E0 b0 d0 s0 ⟨c0,t0⟩ h
 unfold slices_Index_bool_bool_l1 at h
 try dsimp only at h
 refine Ac<|Ab (Br (i:=b0) (j:=a0.length) rfl rfl)<|Aa<|Aj<|AV rfl h (fun k0 h=>?_) (fun k0 h=>?_)
 refine Au<|Aj<|Az<|Ac<|Ae rfl<|Af rfl<|Aa<|Ac<|Ae rfl<|Ae rfl<|Ae rfl ?_
 obtain ⟨j0,C0,h⟩:=bi h
 have z0:=AO h0_0 c0
 obtain ⟨D0,F0,u0,x0,q0,B0,y0⟩:=Bk z0 C0
 have v0:q0 = [.bool j0]:=B0; subst v0
 refine Ab (Bp 1 b0 rfl u0 rfl rfl x0)<|AY rfl (y0 0 _ rfl)<|Ab (FV.eqlB (a:=a1) (b:=j0) Tryz.underlying4 rfl rfl)<|Aa<|MX.ifb rfl h (fun p0 h=>?_) (fun p0 h=>?_)
 refine Ac<|Ae rfl<|Af rfl<|Aa ?_
 have h:=thn_inl h g0
 refine Al rfl<|Bb hb0 Tryz.func147 rfl rfl ?_
 cases h
 exact c0.gv
 refine Au<|AB<|Ao<|Ab (Bl (i:=b0) (j:=1) rfl rfl (by omega))<|Ae rfl<|Aa ?_
 exact s0 (b0 + 1) _ _ ⟨rfl,rfl,rfl,rfl,trivial⟩ ⟨c0,t0⟩ h
 refine Be rfl ?_
 have h:=thn_inr h g0
 try dsimp only at h
 refine Ac<|Af rfl<|Aa<|Al rfl<|Bb hb0 Tryz.func147 rfl rfl ?_
 cases h
 exact c0.gv
theorem body147:bodyB Tryz.prog 147 = true:=by kernel_rfl
def slices_Contains_bool_bool_p (n:Nat) (a0:List Bool) (a1:Bool):Option Bool:=
  (slices_Index_bool_bool_p n a0 a1).bind fun y1=>some (decide (0 ≤ y1))
theorem slices_Contains_bool_bool_c (n:Nat) (L:List Nat) (w:World) (hL:∀ b ∈ L,b < w.heap.size) (a0:List Bool) {v0_0:Value} (h0_0:Rep.R w L [v0_0] a0) (a1:Bool)  {r:Bool} (h:slices_Contains_bool_bool_p n a0 a1 = some r) :
    Calls Tryz.prog 128 #[v0_0,.bool a1] w (Gives w fun _ u=>u = .bool r):=by
 unfold slices_Contains_bool_bool_p at h
 have hS0:=Ay w
 refine AD Tryz.func128 rfl rfl rfl (fun _ cs0 hb0=>?_)
 refine Ac<|Af rfl<|Aa<|Ac<|Ae rfl<|Ae rfl ?_
 obtain ⟨y1,hy1,h⟩:=bi h
 refine Bg (vI y1) body147 rfl (e2 rfl rfl) (fun w9 hw9=>slices_Index_bool_bool_c n _ w9 (hS0.hL0 hL hw9) a0 (hS0.kd h0_0 hw9) a1 hy1) rfl<|Ab (FV.geq (i:=y1) (j:=0) rfl rfl)<|Af rfl<|Aa<|Al rfl<|Bb hb0 Tryz.func128 rfl rfl ?_
 cases h
 exact hS0.gv
theorem body128:bodyB Tryz.prog 128 = true:=by kernel_rfl
def units_every_p (n:Nat) (a0:List Bool):Option Bool:=
  (slices_Contains_bool_bool_p n a0 false).bind fun y1=>some (!y1)
theorem units_every_c (n:Nat) (L:List Nat) (w:World) (hL:∀ b ∈ L,b < w.heap.size) (a0:List Bool) {v0_0:Value} (h0_0:Rep.R w L [v0_0] a0)  {r:Bool} (h:units_every_p n a0 = some r) :
    Calls Tryz.prog 110 #[v0_0] w (Gives w fun _ u=>u = .bool r):=by
 unfold units_every_p at h
 have hS0:=Ay w
 refine AD Tryz.func110 rfl rfl rfl (fun _ cs0 hb0=>?_)
 refine Ac<|Af rfl<|Aa<|Ac<|Ae rfl ?_
 obtain ⟨y1,hy1,h⟩:=bi h
 refine Bg (.bool y1) body128 rfl (e2 rfl rfl) (fun w9 hw9=>slices_Contains_bool_bool_c n _ w9 (hS0.hL0 hL hw9) a0 (hS0.kd h0_0 hw9) false hy1) rfl<|Ab (BG rfl)<|Af rfl<|Aa<|Al rfl<|Bb hb0 Tryz.func110 rfl rfl ?_
 cases h
 exact hS0.gv
def strings_trimLeftByte_l1 (_n:Nat) (a1:UInt8) (c0:ByteArray → Option ByteArray):ByteArray → Option ByteArray
  | b0=>(if 0 < b0.size then (b0.data[0]?).bind fun g0=>(if g0.toNat = a1.toNat then (scut b0 1 (b0.size:Int)).bind fun d0=>c0 d0 else some b0) else some b0)
def strings_trimLeftByte_p (n:Nat) (a0:ByteArray) (a1:UInt8):Option ByteArray:=
  jn (fun c0=>some c0) (fun b0=>Option.bind (loopF (strings_trimLeftByte_l1 n a1) n a0) (b0))
theorem strings_trimLeftByte_c (n:Nat) (L:List Nat) (w:World) (_hL:∀ b ∈ L,b < w.heap.size) (a0:ByteArray) (a1:UInt8)  {r:ByteArray} (h:strings_trimLeftByte_p n a0 a1 = some r) :
    Calls Tryz.prog 148 #[.string a0,.int .u8 (a1.toNat:Int)] w (Gives w fun _ u=>u = .string r):=by
 unfold strings_trimLeftByte_p at h
 have hS0:=Ay w
 refine AD Tryz.func148 rfl rfl rfl (fun _ cs0 hb0=>?_)
 refine Ac<|Af rfl<|Aa<|Aj<|Az<|MX.joinx (α:=ByteArray) (fun c0=>[(0,.string c0)]) (fun c0 j0=>St w j0 []∧Tr w [] j0 []) (fun c0=>c0) (id:=0) rfl h ?_ ?_
 rintro c0 j0 ⟨v0,E0⟩ h
 try dsimp only at h
 refine Ac<|Ae rfl<|Af rfl<|Aa<|Al rfl<|Bb hb0 Tryz.func148 rfl rfl ?_
 cases h
 exact v0.gv
 intro C0 p0 h
 try dsimp only at h
 obtain ⟨F0,x0,q0⟩:=bind_in2 h
 refine Bm (α:=ByteArray) (fun b0=>[(0,.string b0),(1,.int .u8 (a1.toNat:Int))]) (fun b0 k0=>St w k0 []∧Tr w [] k0 []) (fun b0=>b0) a0 x0 ⟨rfl,rfl,trivial⟩ ⟨hS0,AQ _ _⟩ ?_
 rintro D0 b0 k0 u0 ⟨d0,g0⟩ h
 unfold strings_trimLeftByte_l1 at h
 try dsimp only at h
 refine Aj<|Ac<|Ae rfl<|Ab (FV.len_string Tryz.underlying9 rfl)<|Ab (FV.gtrN (i:=b0.size) (j:=0) rfl rfl)<|Ae rfl<|RG.ifd (s:=8) rfl h (fun s0 h=>?_) (fun s0 h=>?_)
 refine AS (Ak rfl) ?_
 obtain ⟨B0,z0,h⟩:=bi h
 refine AS (FV.strAt (k:=0) Tryz.underlying9 rfl rfl rfl z0)<|AS (Ak rfl)<|AS (FV.eqlN (i:=B0.toNat) (j:=a1.toNat) rfl rfl)<|BI rfl rfl<|Aa<|AV rfl h (fun t0 h=>?_) (fun t0 h=>?_)
 refine Au<|Az<|Ao<|Ae rfl ?_
 obtain ⟨A0,y0,h⟩:=bi h
 refine Ab (FV.strCut y0 Tryz.underlying9 rfl ⟨_,rfl⟩ rfl)<|Af rfl<|Aa<|AB ?_
 exact u0 A0 _ _ ⟨rfl,rfl,trivial⟩ ⟨d0,g0⟩ h
 refine Be rfl ?_
 have h:=q0 _ h
 try dsimp only at h
 exact p0 b0 _ _ ⟨rfl,trivial⟩ ⟨d0,g0⟩ h
 refine AI<|AI<|AI<|AI<|RG.pf rfl rfl<|Aa<|BB rfl<|Be rfl ?_
 have h:=q0 _ h
 try dsimp only at h
 exact p0 b0 _ _ ⟨rfl,trivial⟩ ⟨d0,g0⟩ h
def strings_trimRightByte_l1 (_n:Nat) (a1:UInt8) (c0:ByteArray → Option ByteArray):ByteArray → Option ByteArray
  | b0=>(if 0 < b0.size then (chk (((b0.size:Nat):Int) - 1)).bind fun d0=>(sidx b0 d0).bind fun k0=>(if k0.toNat = a1.toNat then (chk (((b0.size:Nat):Int) - 1)).bind fun g0=>(scut b0 0 g0).bind fun j0=>c0 j0 else some b0) else some b0)
def strings_trimRightByte_p (n:Nat) (a0:ByteArray) (a1:UInt8):Option ByteArray:=
  jn (fun c0=>some c0) (fun b0=>Option.bind (loopF (strings_trimRightByte_l1 n a1) n a0) (b0))
theorem strings_trimRightByte_c (n:Nat) (L:List Nat) (w:World) (_hL:∀ b ∈ L,b < w.heap.size) (a0:ByteArray) (a1:UInt8)  {r:ByteArray} (h:strings_trimRightByte_p n a0 a1 = some r) :
    Calls Tryz.prog 149 #[.string a0,.int .u8 (a1.toNat:Int)] w (Gives w fun _ u=>u = .string r):=by
 unfold strings_trimRightByte_p at h
 have hS0:=Ay w
 refine AD Tryz.func149 rfl rfl rfl (fun _ cs0 hb0=>?_)
 refine Ac<|Af rfl<|Aa<|Aj<|Az<|MX.joinx (α:=ByteArray) (fun c0=>[(0,.string c0)]) (fun c0 j0=>St w j0 []∧Tr w [] j0 []) (fun c0=>c0) (id:=0) rfl h ?_ ?_
 rintro c0 j0 ⟨v0,J0⟩ h
 try dsimp only at h
 refine Ac<|Ae rfl<|Af rfl<|Aa<|Al rfl<|Bb hb0 Tryz.func149 rfl rfl ?_
 cases h
 exact v0.gv
 intro H0 p0 h
 try dsimp only at h
 obtain ⟨K0,y0,q0⟩:=bind_in2 h
 refine Bm (α:=ByteArray) (fun b0=>[(0,.string b0),(1,.int .u8 (a1.toNat:Int))]) (fun b0 k0=>St w k0 []∧Tr w [] k0 []) (fun b0=>b0) a0 y0 ⟨rfl,rfl,trivial⟩ ⟨hS0,AQ _ _⟩ ?_
 rintro I0 b0 k0 u0 ⟨d0,g0⟩ h
 unfold strings_trimRightByte_l1 at h
 try dsimp only at h
 refine Aj<|Ac<|Ae rfl<|Ab (FV.len_string Tryz.underlying9 rfl)<|Ab (FV.gtrN (i:=b0.size) (j:=0) rfl rfl)<|Ae rfl<|RG.ifd (s:=8) rfl h (fun s0 h=>?_) (fun s0 h=>?_)
 refine AS (Ak rfl)<|AS (Ak rfl)<|AS (FV.len_string Tryz.underlying9 rfl) ?_
 obtain ⟨E0,z0,h⟩:=bi h
 refine AS (FV.subc (i:=((b0.size:Nat):Int)) (j:=1) rfl rfl z0) ?_
 obtain ⟨G0,D0,h⟩:=bi h
 obtain ⟨x0,C0⟩:=sidx_in D0
 refine AS (FV.strAt (k:=E0.toNat) Tryz.underlying9 rfl rfl x0 C0)<|AS (Ak rfl)<|AS (FV.eqlN (i:=G0.toNat) (j:=a1.toNat) rfl rfl)<|BI rfl rfl<|Aa<|AV rfl h (fun t0 h=>?_) (fun t0 h=>?_)
 refine Au<|Az<|Ao<|Ae rfl<|Ae rfl<|Ab (FV.len_string Tryz.underlying9 rfl) ?_
 obtain ⟨M0,A0,h⟩:=bi h
 refine Ab (FV.subc (i:=((b0.size:Nat):Int)) (j:=1) rfl rfl A0) ?_
 obtain ⟨F0,B0,h⟩:=bi h
 refine Ab (FV.strCut B0 Tryz.underlying9 rfl rfl ⟨_,rfl⟩)<|Af rfl<|Aa<|AB ?_
 exact u0 F0 _ _ ⟨rfl,rfl,trivial⟩ ⟨d0,g0⟩ h
 refine Be rfl ?_
 have h:=q0 _ h
 try dsimp only at h
 exact p0 b0 _ _ ⟨rfl,trivial⟩ ⟨d0,g0⟩ h
 refine AI<|AI<|AI<|AI<|AI<|AI<|AI<|RG.pf rfl rfl<|Aa<|BB rfl<|Be rfl ?_
 have h:=q0 _ h
 try dsimp only at h
 exact p0 b0 _ _ ⟨rfl,trivial⟩ ⟨d0,g0⟩ h
def internal_stringslite_IndexByte_p (_n:Nat) (_a0:ByteArray) (_a1:UInt8):Option Int:=
  none
theorem internal_stringslite_IndexByte_c (n:Nat) (L:List Nat) (w:World) (_hL:∀ b ∈ L,b < w.heap.size) (a0:ByteArray) (a1:UInt8)  {r:Int} (h:internal_stringslite_IndexByte_p n a0 a1 = some r) :
    Calls Tryz.prog 189 #[.string a0,.int .u8 (a1.toNat:Int)] w (Gives w fun _ u=>u = vI r):=by
 unfold internal_stringslite_IndexByte_p at h
 have hS0:=Ay w
 refine AD Tryz.func189 rfl rfl rfl (fun _ cs0 hb0=>?_)
 refine Ac<|Af rfl<|Aa<|Ac<|Ae rfl<|Ae rfl ?_
 cases h
theorem body189:bodyB Tryz.prog 189 = true:=by kernel_rfl
def strings_IndexByte_p (n:Nat) (a0:ByteArray) (a1:UInt8):Option Int:=
  (internal_stringslite_IndexByte_p n a0 a1).bind fun y1=>some y1
theorem strings_IndexByte_c (n:Nat) (L:List Nat) (w:World) (hL:∀ b ∈ L,b < w.heap.size) (a0:ByteArray) (a1:UInt8)  {r:Int} (h:strings_IndexByte_p n a0 a1 = some r) :
    Calls Tryz.prog 185 #[.string a0,.int .u8 (a1.toNat:Int)] w (Gives w fun _ u=>u = vI r):=by
 unfold strings_IndexByte_p at h
 have hS0:=Ay w
 refine AD Tryz.func185 rfl rfl rfl (fun _ cs0 hb0=>?_)
 refine Ac<|Af rfl<|Aa<|Ac<|Ae rfl<|Ae rfl ?_
 obtain ⟨y1,hy1,h⟩:=bi h
 refine Bg (vI y1) body189 rfl (e2 rfl rfl) (fun w9 hw9=>internal_stringslite_IndexByte_c n _ w9 (hS0.hL0 hL hw9) a0 a1 hy1) rfl<|Af rfl<|Aa<|Al rfl<|Bb hb0 Tryz.func185 rfl rfl ?_
 cases h
 exact hS0.gv
def unicode_utf8_ValidRune_p (_n:Nat) (a0:Int):Option Bool:=
  (if 0 ≤ a0 then (if a0 < 55296 then some true else (if 57343 < a0 then (if a0 ≤ 1114111 then some true else some false) else some false)) else (if 57343 < a0 then (if a0 ≤ 1114111 then some true else some false) else some false))
theorem unicode_utf8_ValidRune_c (n:Nat) (L:List Nat) (w:World) (_hL:∀ b ∈ L,b < w.heap.size) (a0:Int)  {r:Bool} (h:unicode_utf8_ValidRune_p n a0 = some r) :
    Calls Tryz.prog 186 #[.int .i32 a0] w (Gives w fun _ u=>u = .bool r):=by
 unfold unicode_utf8_ValidRune_p at h
 have hS0:=Ay w
 refine AD Tryz.func186 rfl rfl rfl (fun _ cs0 hb0=>?_)
 refine Ac<|Af rfl<|Aa<|Aj<|Az<|Ac<|Ae rfl<|Ab (FV.leq (i:=0) (j:=a0) rfl rfl)<|Ae rfl<|RG.ifd (s:=6) rfl h (fun c1 h=>?_) (fun c1 h=>?_)
 refine AS (Ak rfl)<|AS (FV.lss (i:=a0) (j:=55296) rfl rfl)<|BI rfl rfl<|Af rfl<|Aa<|AV rfl h (fun c2 h=>?_) (fun c2 h=>?_)
 refine Ac<|Af rfl<|Aa<|Al rfl<|Bb hb0 Tryz.func186 rfl rfl ?_
 cases h
 exact hS0.gv
 refine Ac<|Ae rfl<|Ab (FV.lss (i:=57343) (j:=a0) rfl rfl)<|Ae rfl<|RG.ifd (s:=13) rfl h (fun c3 h=>?_) (fun c3 h=>?_)
 refine AS (Ak rfl)<|AS (FV.leq (i:=a0) (j:=1114111) rfl rfl)<|BI rfl rfl<|Af rfl<|Aa<|AV rfl h (fun c4 h=>?_) (fun c4 h=>?_)
 refine Ac<|Af rfl<|Aa<|Al rfl<|Bb hb0 Tryz.func186 rfl rfl ?_
 cases h
 exact hS0.gv
 refine Au<|AB<|Ac<|Af rfl<|Aa<|Al rfl<|Bb hb0 Tryz.func186 rfl rfl ?_
 cases h
 exact hS0.gv
 refine AI<|AI<|RG.pf rfl rfl<|Af rfl<|Aa<|BB rfl<|Au<|AB<|Ac<|Af rfl<|Aa<|Al rfl<|Bb hb0 Tryz.func186 rfl rfl ?_
 cases h
 exact hS0.gv
 refine AI<|AI<|RG.pf rfl rfl<|Af rfl<|Aa<|BB rfl<|Ac<|Ae rfl<|Ab (FV.lss (i:=57343) (j:=a0) rfl rfl)<|Ae rfl<|RG.ifd (s:=13) rfl h (fun c5 h=>?_) (fun c5 h=>?_)
 refine AS (Ak rfl)<|AS (FV.leq (i:=a0) (j:=1114111) rfl rfl)<|BI rfl rfl<|Af rfl<|Aa<|AV rfl h (fun c6 h=>?_) (fun c6 h=>?_)
 refine Ac<|Af rfl<|Aa<|Al rfl<|Bb hb0 Tryz.func186 rfl rfl ?_
 cases h
 exact hS0.gv
 refine Au<|AB<|Ac<|Af rfl<|Aa<|Al rfl<|Bb hb0 Tryz.func186 rfl rfl ?_
 cases h
 exact hS0.gv
 refine AI<|AI<|RG.pf rfl rfl<|Af rfl<|Aa<|BB rfl<|Au<|AB<|Ac<|Af rfl<|Aa<|Al rfl<|Bb hb0 Tryz.func186 rfl rfl ?_
 cases h
 exact hS0.gv
def internal_bytealg_Cutover_p (_n:Nat) (a0:Int):Option Int:=
  (chk (a0 + 16)).bind fun s1=>(quoI s1 8).bind fun s2=>some s2
theorem internal_bytealg_Cutover_c (n:Nat) (L:List Nat) (w:World) (_hL:∀ b ∈ L,b < w.heap.size) (a0:Int)  {r:Int} (h:internal_bytealg_Cutover_p n a0 = some r) :
    Calls Tryz.prog 187 #[vI a0] w (Gives w fun _ u=>u = vI r):=by
 unfold internal_bytealg_Cutover_p at h
 have hS0:=Ay w
 refine AD Tryz.func187 rfl rfl rfl (fun _ cs0 hb0=>?_)
 refine Ac<|Af rfl<|Aa<|Ac<|Ae rfl ?_
 obtain ⟨s1,hs1,h⟩:=bi h
 refine Ab (BD (i:=a0) (j:=16) rfl rfl hs1) ?_
 obtain ⟨s2,hs2,h⟩:=bi h
 refine Ab (FV.quoc (i:=s1) (j:=8) rfl rfl hs2)<|Af rfl<|Aa<|Al rfl<|Bb hb0 Tryz.func187 rfl rfl ?_
 cases h
 exact hS0.gv
def unicode_utf8_RuneStart_p (_n:Nat) (a0:UInt8):Option Bool:=
  some (!(decide (((a0 &&& (192:UInt8)).toNat) = 128)))
theorem unicode_utf8_RuneStart_c (n:Nat) (L:List Nat) (w:World) (_hL:∀ b ∈ L,b < w.heap.size) (a0:UInt8)  {r:Bool} (h:unicode_utf8_RuneStart_p n a0 = some r) :
    Calls Tryz.prog 182 #[.int .u8 (a0.toNat:Int)] w (Gives w fun _ u=>u = .bool r):=by
 unfold unicode_utf8_RuneStart_p at h
 have hS0:=Ay w
 refine AD Tryz.func182 rfl rfl rfl (fun _ cs0 hb0=>?_)
 refine Ac<|Af rfl<|Aa<|Ac<|Ae rfl<|Ab (FV.and8 (a:=a0) (b:=(192:UInt8)) rfl rfl)<|Ab (FV.neqN (i:=(a0 &&& (192:UInt8)).toNat) (j:=128) rfl rfl)<|Af rfl<|Aa<|Al rfl<|Bb hb0 Tryz.func182 rfl rfl ?_
 cases h
 exact hS0.gv
def tb129_4:List (Nat × Nat × Nat):=[(0,4194304,1),(0,8388608,2),(2,16777216,8388608),(5,33554432,20971520),(0,67108864,2),(16,134217728,67108864),(40,268435456,167772160),(127,16,268435456)]
theorem body148:bodyB Tryz.prog 148 = true:=by kernel_rfl
theorem body149:bodyB Tryz.prog 149 = true:=by kernel_rfl
theorem body150:bodyB Tryz.prog 150 = true:=by kernel_rfl
theorem body151:bodyB Tryz.prog 151 = true:=by kernel_rfl
theorem body152:bodyB Tryz.prog 152 = true:=by kernel_rfl
theorem body169:bodyB Tryz.prog 169 = true:=by kernel_rfl
def strings_Trim_l1 (_n:Nat) (g0:List Bool) (c0:ByteArray → Option ByteArray):ByteArray → Option ByteArray
  | b0=>(if 0 < b0.size then (b0.data[0]?).bind fun j0=>(g0[j0.toNat]?).bind fun k0=>(if k0 = true then (scut b0 1 (b0.size:Int)).bind fun d0=>c0 d0 else some b0) else some b0)
def strings_Trim_l2 (_n:Nat) (k0:List Bool) (c0:ByteArray → Option ByteArray):ByteArray → Option ByteArray
  | b0=>(if 0 < b0.size then (chk (((b0.size:Nat):Int) - 1)).bind fun d0=>(sidx b0 d0).bind fun p0=>(k0[p0.toNat]?).bind fun q0=>(if q0 = true then (chk (((b0.size:Nat):Int) - 1)).bind fun g0=>(scut b0 0 g0).bind fun j0=>c0 j0 else some b0) else some b0)
def strings_Trim_l3 (_n:Nat) (a1:ByteArray) (g0:Int × (List Bool) → Option (ByteArray ⊕ (List Bool))):Int × (List Bool) → Option (ByteArray ⊕ (List Bool))
  | (c0,b0)=>(if c0 < ((a1.size:Nat):Int) then (sidx a1 c0).bind fun d0=>(if 128 ≤ d0.toNat then (none).map .inl else (b0[d0.toNat]?).bind fun k0=>(chk (c0 + 1)).bind fun j0=>g0 (j0,(b0.set d0.toNat true))) else some (.inr b0))
def strings_Trim_p (n:Nat) (a0:ByteArray) (a1:ByteArray):Option ByteArray:=
  jn (fun q2=>(if q2 = true then some a0 else jn (fun j0=>(if j0 = true then (a1.data[0]?).bind fun t0=>(strings_trimRightByte_p n a0 t0).bind fun q0=>(a1.data[0]?).bind fun u0=>(strings_trimLeftByte_p n q0 u0).bind fun s0=>some s0 else thn (loopF (strings_Trim_l3 n a1) n (0,(List.replicate 256 false))) (fun c0=>jn (fun k0=>jn (fun p0=>some p0) (fun g0=>Option.bind (loopF (strings_Trim_l1 n c0) n k0) (g0))) (fun d0=>Option.bind (loopF (strings_Trim_l2 n c0) n a0) (d0))))) (fun b0=>(if a1.size = 1 then (a1.data[0]?).bind fun v0=>b0 (decide (v0.toNat < 128)) else b0 false)))) (fun J6=>(if a0 = ⟨#[]⟩ then J6 true else J6 (decide (a1 = ⟨#[]⟩))))
theorem strings_Trim_c (n:Nat) (L:List Nat) (w:World) (hL:∀ b ∈ L,b < w.heap.size) (a0:ByteArray) (a1:ByteArray)  {r:ByteArray} (h:strings_Trim_p n a0 a1 = some r) :
    Calls Tryz.prog 129 #[.string a0,.string a1] w (Gives w fun _ u=>u = .string r):=by
 unfold strings_Trim_p at h
 have hS0:=Ay w
 refine AD Tryz.func129 rfl rfl rfl (fun _ cs0 hb0=>?_)
 refine Ac<|Af rfl<|Aa<|Aj<|Aj<|MX.join (α:=Bool) (fun q2=>[(0,.string a0),(1,.string a1),(12,.bool q2)]) (fun q2 wx2=>St w wx2 []∧Tr w [] wx2 []) (fun q2=>q2) h ?_ ?_
 rintro q2 wx2 ⟨hS3,hT4⟩ h
 try dsimp only at h
 refine MX.ifb rfl h (fun c8 h=>?_) (fun c8 h=>?_)
 refine Ac<|Ae rfl<|Af rfl<|Aa<|Al rfl<|Bb hb0 Tryz.func129 rfl rfl ?_
 cases h
 exact hS3.gv
 refine Au<|Aj<|Aj<|MX.join (α:=Bool) (fun y0=>[(0,.string a0),(1,.string a1),(21,.bool y0)]) (fun y0 G0=>St w G0 []∧Tr wx2 [] G0 []) (fun y0=>y0) h ?_ ?_
 rintro y0 G0 ⟨A0,A3⟩ h
 try dsimp only at h
 refine MX.ifb rfl h (fun q1 h=>?_) (fun q1 h=>?_)
 refine Aj<|dt 8 tb129_4 (fun j0 k0=>?_)
 refine Ag 0 1 j0 rfl k0 (fun _=>Ak rfl) rfl<|Ag 1 3 j0 rfl k0 (fun _=>Ak rfl) rfl ?_
 obtain ⟨V2,E2,h⟩:=bi h
 refine Ag 2 7 j0 rfl k0 (fun _=>FV.strAt (k:=0) Tryz.underlying9 rfl rfl rfl E2) rfl ?_
 obtain ⟨k1,C2,h⟩:=bi h
 refine BA 3 15 192 (.string k1) j0 rfl k0 body149 rfl (e2 rfl rfl) (fun w9 hw9=>strings_trimRightByte_c n _ w9 (A0.hL0 hL hw9) a0 V2 C2) rfl<|Ag 4 31 j0 rfl k0 (fun _=>Ak rfl) rfl ?_
 obtain ⟨W2,F2,h⟩:=bi h
 refine Ag 5 63 j0 rfl k0 (fun _=>FV.strAt (k:=0) Tryz.underlying9 rfl rfl rfl F2) rfl ?_
 obtain ⟨U2,D2,h⟩:=bi h
 refine BA 6 127 128 (.string U2) j0 rfl k0 body148 rfl (e2 rfl rfl) (fun w9 hw9=>strings_trimLeftByte_c n _ w9 (A0.hL0 hL hw9) k1 W2 D2) rfl<|Ag 7 255 j0 rfl k0 (fun _=>Bi rfl) rfl<|AE (dk j0)<|Al rfl<|Bb hb0 Tryz.func129 rfl rfl ?_
 cases h
 exact A0.gv
 refine Au<|Aj<|Ac<|Ae rfl<|Bj (fst:=[]) (cap:=[]) (vs:=[.string a1]) .plain body150 Tryz.func150 rfl rfl rfl rfl (e1 rfl) rfl (fun s3 Y0 K3=>?_)
 refine Ac ?_
 have d2:(List.replicate 256 false).length = 256:=List.length_replicate
 refine Ai .plain rfl (Ar ((List.replicate 256 false).map (fun z9:Bool=>(.bool z9:Value))) A0) (fun R2 t0 M1 D3=>?_)
 refine Af rfl<|Aa<|Aj<|Ac<|Af rfl<|Aa<|Az ?_
 obtain ⟨U3,t2,c1⟩:=thn_in h
 refine Bm (α:=Int × (List Bool)) (fun ⟨s0,b0⟩=>[(0,.string a1),(2,vP t0),(4,vI s0)]) (fun ⟨s0,b0⟩ K0=>St w K0 [.cells t0 (b0.map (fun z9:Bool=>(.bool z9:Value))) 211]∧Tr R2 [.cells t0 ((List.replicate 256 false).map (fun z9:Bool=>(.bool z9:Value))) 211] K0 [.cells t0 (b0.map (fun z9:Bool=>(.bool z9:Value))) 211]∧b0.length = 256) (fun ⟨s0,b0⟩=>(s0,b0)) (0,(List.replicate 256 false)) t2 ⟨rfl,rfl,rfl,trivial⟩ ⟨M1,AQ _ _,d2⟩ ?_
 rintro j3 ⟨s0,b0⟩ K0 E1 ⟨u0,R1,d0⟩ h
 unfold strings_Trim_l3 at h
 try dsimp only at h
 refine Aj<|Ac<|Ae rfl<|Ae rfl<|Ab (FV.len_string Tryz.underlying9 rfl)<|Ab (FV.lss (i:=s0) (j:=((a1.size:Nat):Int)) rfl rfl)<|Aa<|AV rfl h (fun A1 h=>?_) (fun A1 h=>?_)
 refine Au<|Aj<|Az<|Ac<|Ae rfl<|Ae rfl ?_
 obtain ⟨x0,J2,h⟩:=bi h
 obtain ⟨Z1,B2⟩:=sidx_in J2
 refine Ab (FV.strAt (k:=s0.toNat) Tryz.underlying9 rfl rfl Z1 B2)<|Af rfl<|Aa<|Aj<|Ac<|Ae rfl<|Ab (FV.geqN (i:=x0.toNat) (j:=128) rfl rfl)<|Aa<|AV rfl h (fun B1 h=>?_) (fun B1 h=>?_)
 refine Ac<|Ab (Bc (cs:=b0.map (fun z9:Bool=>(.bool z9:Value))) (by rw [List.length_map,d0]; kernel_rfl) rfl (u0.memA .hd))<|BH .plain (Acts.storeBig (fun z9:Bool=>(.bool z9:Value)) (m:=256) d0 d0 u0 .hd rfl rfl (by kernel_rfl) (fun _=>rfl)) (fun Z3 W0 E3=>?_)
 refine Af rfl<|Aa ?_
 have h:=thn_map h c1
 refine Al rfl<|Am (u:=.tuple #[.agg (b0.map (fun z9:Bool=>(.bool z9:Value))).toArray,.bool false]) Y0 Tryz.func150 rfl (.cons (.many (cs:=b0.map (fun z9:Bool=>(.bool z9:Value))) (by rw [List.length_map,d0]; kernel_rfl) rfl (W0.memA .hd)) (.cons (.tmp rfl) .nil)) rfl<|Ae rfl<|Ab (Ah rfl rfl)<|Ab (Ah rfl rfl) ?_
 have g2:(List.replicate 256 false).length = 256:=List.length_replicate
 refine Ai .plain rfl (Ar ((List.replicate 256 false).map (fun z9:Bool=>(.bool z9:Value))) W0) (fun b4 k3 P1 F3=>?_)
 refine BH .plain (Acts.storeBig (fun z9:Bool=>(.bool z9:Value)) (m:=256) g2 d0 P1 .hd rfl rfl (by kernel_rfl) (fun _=>rfl)) (fun c4 v3 G3=>?_)
 refine Af rfl<|Aa<|Ac<|Ae rfl<|Aa<|BB rfl<|Au<|Ac<|Ae rfl<|Ae rfl ?_
 cases h
 refine Au<|Ao<|Ae rfl ?_
 obtain ⟨d4,F0,h⟩:=bi h
 have H3:=mem_elem1 (p:=⟨t0,0,none⟩) (cs:=b0.map (fun z9:Bool=>(.bool z9:Value))) (i:=x0.toNat) (u0.memA .hd) (arr_get0 (fun z9:Bool=>(.bool z9:Value)) F0)
 refine Ab (AW (m:=1) (k:=x0.toNat) (len:=256) (by kernel_rfl) rfl rfl rfl (arr_lt F0 d0)) ?_
 have b2:(b0.set x0.toNat true).length = 256:=by rw [List.length_set]; exact d0
 refine BH .plain (Acts.setBig (fun z9:Bool=>(.bool z9:Value)) (i:=x0.toNat) (x:=true) (m:=256) d0 (arr_lt F0 d0) u0 .hd rfl (addr_at _ _ _) rfl (by kernel_rfl) (fun _=>⟨rfl,rfl⟩)) (fun W3 F1 Q1=>?_)
 refine Aa<|AB<|Ao<|Ae rfl ?_
 obtain ⟨K2,u2,h⟩:=bi h
 refine Ab (BD (i:=s0) (j:=1) rfl rfl u2)<|Af rfl<|Aa ?_
 exact E1 (K2,(b0.set x0.toNat true)) _ _ ⟨rfl,rfl,rfl,trivial⟩ ⟨F1,(Tt R1 Q1),b2⟩ h
 refine Be rfl ?_
 have h:=thn_inr h c1
 try dsimp only at h
 refine Ac<|Ab (Bc (cs:=b0.map (fun z9:Bool=>(.bool z9:Value))) (by rw [List.length_map,d0]; kernel_rfl) rfl (u0.memA .hd))<|BH .plain (Acts.storeBig (fun z9:Bool=>(.bool z9:Value)) (m:=256) d0 d0 u0 .hd rfl rfl (by kernel_rfl) (fun _=>rfl)) (fun X3 V0 x3=>?_)
 refine Af rfl<|Aa<|Al rfl<|Am (u:=.tuple #[.agg (b0.map (fun z9:Bool=>(.bool z9:Value))).toArray,.bool true]) Y0 Tryz.func150 rfl (.cons (.many (cs:=b0.map (fun z9:Bool=>(.bool z9:Value))) (by rw [List.length_map,d0]; kernel_rfl) rfl (V0.memA .hd)) (.cons (.tmp rfl) .nil)) rfl<|Ae rfl<|Ab (Ah rfl rfl)<|Ab (Ah rfl rfl) ?_
 have c2:(List.replicate 256 false).length = 256:=List.length_replicate
 refine Ai .plain rfl (Ar ((List.replicate 256 false).map (fun z9:Bool=>(.bool z9:Value))) V0) (fun Y3 c0 G1 y3=>?_)
 refine BH .plain (Acts.storeBig (fun z9:Bool=>(.bool z9:Value)) (m:=256) c2 d0 G1 .hd rfl rfl (by kernel_rfl) (fun _=>rfl)) (fun j1 H1 z3=>?_)
 refine Af rfl<|Aa<|Ac<|Ae rfl<|Aa<|Bh rfl<|Ac<|Ae rfl<|Bj (fst:=[]) (cap:=[]) (vs:=[.string a0,vP c0]) .plain body152 Tryz.func152 rfl rfl rfl rfl (e2 rfl rfl) rfl (fun p3 U1 I3=>?_)
 refine Ac<|Af rfl<|Aa<|Aj<|Az<|MX.joinx (α:=ByteArray) (fun p0=>[(0,.string p0)]) (fun p0 z0=>St w z0 [.cells c0 (b0.map (fun z9:Bool=>(.bool z9:Value))) 211]∧Tr j1 [.cells c0 (b0.map (fun z9:Bool=>(.bool z9:Value))) 211,.cells t0 (b0.map (fun z9:Bool=>(.bool z9:Value))) 211] z0 [.cells c0 (b0.map (fun z9:Bool=>(.bool z9:Value))) 211]) (fun p0=>p0) (id:=0) rfl h ?_ ?_
 rintro p0 z0 ⟨I1,B3⟩ h
 try dsimp only at h
 refine Ac<|Ae rfl<|Af rfl<|Aa<|Al rfl<|Am (u:=.string p0) U1 Tryz.func152 rfl (.cons (.tmp rfl) .nil) rfl<|Bj (fst:=[]) (cap:=[]) (vs:=[.string p0,vP c0]) .plain body151 Tryz.func151 rfl rfl rfl rfl (e2 rfl rfl) rfl (fun q3 V1 J3=>?_)
 refine Ac<|Af rfl<|Aa<|Aj<|Az<|MX.joinx (α:=ByteArray) (fun v0=>[(0,.string v0)]) (fun v0 H0=>St w H0 [.cells c0 (b0.map (fun z9:Bool=>(.bool z9:Value))) 211]∧Tr z0 [.cells c0 (b0.map (fun z9:Bool=>(.bool z9:Value))) 211] H0 [.cells c0 (b0.map (fun z9:Bool=>(.bool z9:Value))) 211]) (fun v0=>v0) (id:=0) rfl h ?_ ?_
 rintro v0 H0 ⟨J1,C3⟩ h
 try dsimp only at h
 refine Ac<|Ae rfl<|Af rfl<|Aa<|Al rfl<|Am (u:=.string v0) V1 Tryz.func151 rfl (.cons (.tmp rfl) .nil) rfl<|Af rfl<|Aa<|Al rfl<|Bb hb0 Tryz.func129 rfl rfl ?_
 cases h
 exact J1.gv
 intro c3 U0 h
 try dsimp only at h
 obtain ⟨Q3,p2,Z0⟩:=bind_in2 h
 refine Bm (α:=ByteArray) (fun q0=>[(0,.string q0),(1,vP c0)]) (fun q0 I0=>St w I0 [.cells c0 (b0.map (fun z9:Bool=>(.bool z9:Value))) 211]∧Tr z0 [.cells c0 (b0.map (fun z9:Bool=>(.bool z9:Value))) 211] I0 [.cells c0 (b0.map (fun z9:Bool=>(.bool z9:Value))) 211]) (fun q0=>q0) p0 p2 ⟨rfl,rfl,trivial⟩ ⟨I1,AQ _ _⟩ ?_
 rintro d3 q0 I0 C1 ⟨B0,D0⟩ h
 unfold strings_Trim_l1 at h
 try dsimp only at h
 refine Aj<|Ac<|Ae rfl<|Ab (FV.len_string Tryz.underlying9 rfl)<|Ab (FV.gtrN (i:=q0.size) (j:=0) rfl rfl)<|Aa<|AV rfl h (fun s1 h=>?_) (fun s1 h=>?_)
 refine Au<|Az<|Aj<|Ac<|Ae rfl<|Ae rfl ?_
 obtain ⟨M0,G2,h⟩:=bi h
 refine Ab (FV.strAt (k:=0) Tryz.underlying9 rfl rfl rfl G2)<|Bj (fst:=[]) (cap:=[]) (vs:=[vP c0,.int .u8 (M0.toNat:Int)]) .plain body169 Tryz.func169 rfl rfl rfl rfl (e2 rfl rfl) rfl (fun t3 W1 M3=>?_)
 refine Ac<|Af rfl<|Aa<|Ac<|Ae rfl<|Ae rfl<|Ab (FV.nilCheck rfl) ?_
 obtain ⟨X2,d1,h⟩:=bi h
 have j2:=mem_elem1 (p:=⟨c0,0,none⟩) (cs:=b0.map (fun z9:Bool=>(.bool z9:Value))) (i:=M0.toNat) (B0.memA .hd) (arr_get0 (fun z9:Bool=>(.bool z9:Value)) d1)
 refine Ab (AW (m:=1) (k:=M0.toNat) (len:=256) (by kernel_rfl) rfl rfl rfl (arr_lt d1 d0))<|AY rfl (j2 0 _ rfl)<|Af rfl<|Aa<|Al rfl<|Am (u:=.bool X2) W1 Tryz.func169 rfl (.cons (.tmp rfl) .nil) rfl<|Ab (BG rfl)<|Aa<|MX.ifnb rfl h (fun u1 h=>?_) (fun u1 h=>?_)
 refine Au<|Ao<|Ae rfl ?_
 obtain ⟨M2,v2,h⟩:=bi h
 refine Ab (FV.strCut v2 Tryz.underlying9 rfl ⟨_,rfl⟩ rfl)<|Af rfl<|Aa<|AB ?_
 exact C1 M2 _ _ ⟨rfl,rfl,trivial⟩ ⟨B0,D0⟩ h
 refine Be rfl ?_
 have h:=Z0 _ h
 try dsimp only at h
 exact U0 q0 _ _ ⟨rfl,trivial⟩ ⟨B0,D0⟩ h
 refine Be rfl ?_
 have h:=Z0 _ h
 try dsimp only at h
 exact U0 q0 _ _ ⟨rfl,trivial⟩ ⟨B0,D0⟩ h
 intro b3 R0 h
 try dsimp only at h
 obtain ⟨K1,X0⟩:=AG H1 (.one .hd .done)
 obtain ⟨R3,s2,b1⟩:=bind_in2 h
 refine Bm (α:=ByteArray) (fun g0=>[(0,.string g0),(1,vP c0)]) (fun g0 J0=>St w J0 [.cells c0 (b0.map (fun z9:Bool=>(.bool z9:Value))) 211]∧Tr j1 [.cells c0 (b0.map (fun z9:Bool=>(.bool z9:Value))) 211] J0 [.cells c0 (b0.map (fun z9:Bool=>(.bool z9:Value))) 211]) (fun g0=>g0) a0 s2 ⟨rfl,rfl,trivial⟩ ⟨K1,AQ _ _⟩ ?_
 rintro g3 g0 J0 D1 ⟨C0,E0⟩ h
 unfold strings_Trim_l2 at h
 try dsimp only at h
 refine Aj<|Ac<|Ae rfl<|Ab (FV.len_string Tryz.underlying9 rfl)<|Ab (FV.gtrN (i:=g0.size) (j:=0) rfl rfl)<|Aa<|AV rfl h (fun v1 h=>?_) (fun v1 h=>?_)
 refine Au<|Az<|Aj<|Ac<|Ae rfl<|Ae rfl<|Ae rfl<|Ab (FV.len_string Tryz.underlying9 rfl) ?_
 obtain ⟨P2,x2,h⟩:=bi h
 refine Ab (FV.subc (i:=((g0.size:Nat):Int)) (j:=1) rfl rfl x2) ?_
 obtain ⟨P0,H2,h⟩:=bi h
 obtain ⟨Y1,A2⟩:=sidx_in H2
 refine Ab (FV.strAt (k:=P2.toNat) Tryz.underlying9 rfl rfl Y1 A2)<|Bj (fst:=[]) (cap:=[]) (vs:=[vP c0,.int .u8 (P0.toNat:Int)]) .plain body169 Tryz.func169 rfl rfl rfl rfl (e2 rfl rfl) rfl (fun u3 X1 P3=>?_)
 refine Ac<|Af rfl<|Aa<|Ac<|Ae rfl<|Ae rfl<|Ab (FV.nilCheck rfl) ?_
 obtain ⟨Y2,g1,h⟩:=bi h
 have k2:=mem_elem1 (p:=⟨c0,0,none⟩) (cs:=b0.map (fun z9:Bool=>(.bool z9:Value))) (i:=P0.toNat) (C0.memA .hd) (arr_get0 (fun z9:Bool=>(.bool z9:Value)) g1)
 refine Ab (AW (m:=1) (k:=P0.toNat) (len:=256) (by kernel_rfl) rfl rfl rfl (arr_lt g1 d0))<|AY rfl (k2 0 _ rfl)<|Af rfl<|Aa<|Al rfl<|Am (u:=.bool Y2) X1 Tryz.func169 rfl (.cons (.tmp rfl) .nil) rfl<|Ab (BG rfl)<|Aa<|MX.ifnb rfl h (fun x1 h=>?_) (fun x1 h=>?_)
 refine Au<|Ao<|Ae rfl<|Ae rfl<|Ab (FV.len_string Tryz.underlying9 rfl) ?_
 obtain ⟨V3,y2,h⟩:=bi h
 refine Ab (FV.subc (i:=((g0.size:Nat):Int)) (j:=1) rfl rfl y2) ?_
 obtain ⟨Q2,z2,h⟩:=bi h
 refine Ab (FV.strCut z2 Tryz.underlying9 rfl rfl ⟨_,rfl⟩)<|Af rfl<|Aa<|AB ?_
 exact D1 Q2 _ _ ⟨rfl,rfl,trivial⟩ ⟨C0,E0⟩ h
 refine Be rfl ?_
 have h:=b1 _ h
 try dsimp only at h
 exact R0 g0 _ _ ⟨rfl,trivial⟩ ⟨C0,(Tt X0 E0)⟩ h
 refine Be rfl ?_
 have h:=b1 _ h
 try dsimp only at h
 exact R0 g0 _ _ ⟨rfl,trivial⟩ ⟨C0,(Tt X0 E0)⟩ h
 intro Z2 Q0 h
 try dsimp only at h
 refine Ao<|Ae rfl<|Ab (FV.len_string Tryz.underlying9 rfl)<|Ab (FV.eqlN (i:=a1.size) (j:=1) rfl rfl)<|Ae rfl<|RG.ifd (s:=17) rfl h (fun y1 h=>?_) (fun y1 h=>?_)
 refine AS (Ak rfl) ?_
 obtain ⟨p1,I2,h⟩:=bi h
 refine AS (FV.strAt (k:=0) Tryz.underlying9 rfl rfl rfl I2)<|AS (Br (i:=p1.toNat) (j:=128) rfl rfl)<|BI rfl rfl<|Aa ?_
 exact Q0 (decide (p1.toNat < 128)) _ _ ⟨rfl,rfl,rfl,trivial⟩ ⟨hS3,AQ _ _⟩ h
 refine AI<|AI<|AI<|RG.pf rfl rfl<|Aa ?_
 exact Q0 false _ _ ⟨rfl,rfl,rfl,trivial⟩ ⟨hS3,AQ _ _⟩ h
 intro J6 hJ7 h
 try dsimp only at h
 refine Ao<|Ae rfl<|Ab (FV.eqlS rfl rfl)<|Ae rfl<|RG.ifd (s:=9) rfl h (fun z1 h=>?_) (fun z1 h=>?_)
 refine AI<|AI<|BI rfl rfl<|Aa ?_
 exact hJ7 true _ _ ⟨rfl,rfl,rfl,trivial⟩ ⟨hS0,AQ _ _⟩ h
 refine AS (Ak rfl)<|AS (FV.eqlS rfl rfl)<|RG.pf rfl rfl<|Aa ?_
 exact hJ7 (decide (a1 = ⟨#[]⟩)) _ _ ⟨rfl,rfl,rfl,trivial⟩ ⟨hS0,AQ _ _⟩ h
def units_within_1_p (_n:Nat) (a0:Int) (a1:Int):Option Bool:=
  (if a0 < 0 then some true else some (decide (a1 < a0)))
theorem units_within_1_c (n:Nat) (L:List Nat) (w:World) (_hL:∀ b ∈ L,b < w.heap.size) (a0:Int) (a1:Int) {p1:Nat} (m1:∀ j9 v9,([vI a1]:List Value)[j9]? = some v9 → w.cell? ((⟨p1,0,none⟩:Addr).add j9) = some v9)  {r:Bool} (h:units_within_1_p n a0 a1 = some r) :
    Calls Tryz.prog 156 #[vI a0,.pointer (some ⟨p1,0,none⟩)] w (Gives w fun _ u=>u = .bool r):=by
 unfold units_within_1_p at h
 have hS0:=Ay w
 refine AD Tryz.func156 rfl rfl rfl (fun _ cs0 hb0=>?_)
 refine Ac<|Af rfl<|Aa<|Ac<|Ae rfl<|Ab (FV.lss (i:=a0) (j:=0) rfl rfl)<|Ae rfl<|RG.ifd (s:=6) rfl h (fun c1 h=>?_) (fun c1 h=>?_)
 refine AI<|AI<|AI<|BI rfl rfl<|Af rfl<|Aa<|Al rfl<|Bb hb0 Tryz.func156 rfl rfl ?_
 cases h
 exact hS0.gv
 refine AS (Ak rfl)<|AS (AL rfl ((fun j9 v9 h9=>hS0.ag.cell0 (m1 j9 v9 h9)) 0 _ rfl))<|AS (FV.gtr (i:=a0) (j:=a1) rfl rfl)<|RG.pf rfl rfl<|Af rfl<|Aa<|Al rfl<|Bb hb0 Tryz.func156 rfl rfl ?_
 cases h
 exact hS0.gv
theorem body155:bodyB Tryz.prog 155 = true:=by kernel_rfl
theorem body156:bodyB Tryz.prog 156 = true:=by kernel_rfl
theorem body173:bodyB Tryz.prog 173 = true:=by kernel_rfl
def units_within_l1 (n:Nat) (a0:List Int) (a2:Int) (c0:Nat → Option (Bool ⊕ Unit)):Nat → Option (Bool ⊕ Unit)
  | b0=>(if b0 < a0.length then (a0[b0]?).bind fun d0=>(units_within_1_p n d0 a2).bind fun g0=>(if g0 = true then some (.inl (!(decide (0 ≤ b0)))) else c0 (b0 + 1)) else some (.inr ()))
def units_within_p (n:Nat) (a0:List Int) (a1:Int) (a2:Int):Option Bool:=
  (if ((a0.length:Nat):Int) = a1 then thn (loopF (units_within_l1 n a0 a2) n 0) (fun _=>some (!(decide (0 ≤ (-1))))) else some false)
theorem units_within_c (n:Nat) (L:List Nat) (w:World) (hL:∀ b ∈ L,b < w.heap.size) (a0:List Int) {v0_0:Value} (h0_0:Rep.R w L [v0_0] a0) (a1:Int) (a2:Int)  {r:Bool} (h:units_within_p n a0 a1 a2 = some r) :
    Calls Tryz.prog 130 #[v0_0,vI a1,vI a2] w (Gives w fun _ u=>u = .bool r):=by
 unfold units_within_p at h
 have hS0:=Ay w
 refine AD Tryz.func130 rfl rfl rfl (fun _ cs0 hb0=>?_)
 refine Ac<|Ai .plain rfl (Av hS0 rfl rfl) (fun K0 c0 g0 W0=>?_)
 refine Af rfl<|Aa<|Ac<|Ae rfl ?_
 have j0:=AO h0_0 g0
 have X0:a0.length ≤ 281474976710656:=AU j0
 refine Ab (Bd (xs:=a0) Tryz.underlying32 rfl j0)<|Ae rfl<|Ab (FV.eql (i:=((a0.length:Nat):Int)) (j:=a1) rfl rfl)<|Ae rfl<|RG.ifd (s:=11) rfl h (fun u0 h=>?_) (fun u0 h=>?_)
 refine AS (Ak rfl)<|AS (BF (vs:=[]) (us:=[vP c0]) evs_nil (e1 rfl))<|Bj (fst:=[]) (cap:=[]) (vs:=[v0_0,.func (.func 156) #[] #[vP c0]]) (.yes rfl rfl) body155 Tryz.func155 rfl rfl rfl rfl (e2 rfl rfl) rfl (fun U0 p0 Y0=>?_)
 refine Ac<|Af rfl<|Aa<|Ac<|Ae rfl<|Ae rfl<|Bj (fst:=[]) (cap:=[]) (vs:=[v0_0,.func (.func 156) #[] #[vP c0]]) .plain body173 Tryz.func173 rfl rfl rfl rfl (e2 rfl rfl) rfl (fun V0 q0 Z0=>?_)
 refine Ac<|Af rfl<|Aa<|Aj<|Ac<|Ae rfl<|Ab (Bd (xs:=a0) Tryz.underlying32 rfl j0)<|Ae rfl<|Aa<|Az ?_
 obtain ⟨b1,G0,s0⟩:=thn_in h
 refine Bm (α:=Nat) (fun b0=>[(0,v0_0),(1,.func (.func 156) #[] #[vP c0]),(7,vI ((a0.length:Nat):Int)),(8,vI ((b0:Nat):Int))]) (fun b0 k0=>St w k0 [.cells c0 [vI a2] 3]∧Tr K0 [.cells c0 [vI a2] 3] k0 [.cells c0 [vI a2] 3]) (fun b0=>b0) 0 G0 ⟨rfl,rfl,rfl,rfl,trivial⟩ ⟨g0,AQ _ _⟩ ?_
 rintro Q0 b0 k0 z0 ⟨d0,A0⟩ h
 unfold units_within_l1 at h
 try dsimp only at h
 refine Ac<|Ab (Br (i:=b0) (j:=a0.length) rfl rfl)<|Aa<|Aj<|AV rfl h (fun v0 h=>?_) (fun v0 h=>?_)
 refine Au<|Aj<|Az<|Ac<|Ae rfl<|Af rfl<|Aa<|Ac<|Ae rfl<|Ae rfl<|Ae rfl ?_
 obtain ⟨t0,I0,h⟩:=bi h
 have F0:=AO h0_0 d0
 obtain ⟨P0,R0,B0,D0,y0,H0,E0⟩:=Bk F0 I0
 have C0:y0 = [vI t0]:=H0; subst C0
 refine Ab (Bp 1 b0 rfl B0 rfl rfl D0)<|AY rfl (E0 0 _ rfl) ?_
 obtain ⟨M0,J0,h⟩:=bi h
 refine RG.callq' (v:=.bool M0) (fst:=[]) (cap:=[vP c0]) .plain body156 rfl (e1 rfl) (fun w9 hw9=>units_within_1_c n _ w9 (d0.hL0 hL hw9) t0 a2 (fun j9 v9 h9=>hw9.cell0 ((d0.memA .hd) j9 v9 h9)) J0) rfl<|Aa<|MX.ifb rfl h (fun x0 h=>?_) (fun x0 h=>?_)
 refine Ac<|Ae rfl<|Af rfl<|Aa ?_
 have h:=thn_inl h s0
 refine Al rfl<|Am (u:=vI ((b0:Nat):Int)) q0 Tryz.func173 rfl (.cons (.tmp rfl) .nil) rfl<|Ab (FV.geqN (i:=b0) (j:=0) rfl rfl)<|Af rfl<|Aa<|Al rfl<|Am (u:=.bool (decide (0 ≤ b0))) p0 Tryz.func155 rfl (.cons (.tmp rfl) .nil) rfl<|AS (BG rfl)<|BI rfl rfl<|Af rfl<|Aa<|Al rfl<|Bb hb0 Tryz.func130 rfl rfl ?_
 cases h
 exact d0.gv
 refine Au<|AB<|Ao<|Ab (Bl (i:=b0) (j:=1) rfl rfl (by omega))<|Ae rfl<|Aa ?_
 exact z0 (b0 + 1) _ _ ⟨rfl,rfl,rfl,rfl,trivial⟩ ⟨d0,A0⟩ h
 refine Be rfl ?_
 have h:=thn_inr h s0
 try dsimp only at h
 refine Ac<|Af rfl<|Aa<|Al rfl<|Am (u:=vI (-1)) q0 Tryz.func173 rfl (.cons (.tmp rfl) .nil) rfl<|Ab (FV.geq (i:=(-1)) (j:=0) rfl rfl)<|Af rfl<|Aa<|Al rfl<|Am (u:=.bool (decide (0 ≤ (-1)))) p0 Tryz.func155 rfl (.cons (.tmp rfl) .nil) rfl<|AS (BG rfl)<|BI rfl rfl<|Af rfl<|Aa<|Al rfl<|Bb hb0 Tryz.func130 rfl rfl ?_
 cases h
 exact d0.gv
 refine AI<|AI<|AI<|AI<|RG.pf rfl rfl<|Af rfl<|Aa<|Al rfl<|Bb hb0 Tryz.func130 rfl rfl ?_
 cases h
 exact g0.gv
structure TUnit where
  fC:ByteArray
  fA:Int
  fj:List Int
  fVotes:List Int
  fH:List Int
  fq:Bool
  deriving DecidableEq
instance:Rep TUnit:=Rep.via (β:=ByteArray × Int × (List Int) × (List Int) × (List Int) × Bool) fun x=>(x.fC,x.fA,x.fj,x.fVotes,x.fH,x.fq)
structure TRoll where
  fj:Int
  fh:Int
  fl:Int
  fu:List TUnit
  deriving DecidableEq
instance:Rep TRoll:=Rep.via (β:=Int × Int × Int × (List TUnit)) fun x=>(x.fj,x.fh,x.fl,x.fu)
def tb111_4:List (Nat × Nat × Nat):=[(0,512,8),(1,1024,512),(2,2048,1024),(0,4096,8),(8,8192,4096),(16,16384,8192),(32,32768,16384),(0,65536,8),(128,131072,65536),(256,262144,131072),(512,524288,262144),(0,1048576,8),(2048,2097152,1048576),(4096,4194304,2097152),(0,8388608,8),(16384,16777216,8388608),(0,33554432,32),(98304,67108864,50331648),(0,134217728,8),(262144,268435456,134217728),(0,536870912,4),(1048576,1073741824,536870912),(0,2147483648,8),(4194304,4294967296,2147483648),(11010560,8589934592,5637144576),(0,17179869184,8),(33554432,34359738368,17179869184),(0,68719476736,4),(134217728,137438953472,68719476736),(0,274877906944,32),(889192448,549755813888,446676598784),(0,1099511627776,8),(2147483648,2199023255552,1099511627776),(0,4398046511104,4),(8589934592,8796093022208,4398046511104),(0,17592186044416,64),(56908316672,35184372088832,28587302322176),(69810136132,70368744177664,35742789699584),(206158430208,140737488355328,70368744177664),(549755813887,16,140737488355328)]
theorem el184:ElT Tryz.prog 184 4 (Rep.size Bool) 1 (.bool false) [.bool false]:=⟨Tryz.underlying184,by kernel_rfl,rfl,rfl,rfl,rfl⟩
theorem body110:bodyB Tryz.prog 110 = true:=by kernel_rfl
theorem body129:bodyB Tryz.prog 129 = true:=by kernel_rfl
theorem body130:bodyB Tryz.prog 130 = true:=by kernel_rfl
def units_right_p (n:Nat) (a0:TRoll) (a1:TUnit):Option Bool:=
  jn (fun (c0,d0)=>(strings_Trim_p n a1.fC ⟨#[65,66,67,68,69,70,71,72,73,74,75,76,77,78,79,80,81,82,83,84,85,86,87,88,89,90,97,98,99,100,101,102,103,104,105,106,107,108,109,110,111,112,113,114,115,116,117,118,119,120,121,122,48,49,50,51,52,53,54,55,56,57,45,95]⟩).bind fun g0=>(units_within_p n a1.fj a0.fj a1.fA).bind fun j0=>(units_within_p n a1.fVotes a0.fh ((c0:Nat):Int)).bind fun k0=>(units_within_p n a1.fH a0.fl ((d0:Nat):Int)).bind fun p0=>(units_every_p n ([(!(decide (a1.fC = ⟨#[]⟩))),(decide (a1.fC.size ≤ 12)),(decide (g0 = ⟨#[]⟩)),(decide (0 ≤ a1.fA)),(decide (a1.fA ≤ ((c0:Nat):Int))),j0,k0,p0]:List Bool)).bind fun q0=>some q0) (fun b0=>(if a1.fq = true then b0 (0,0) else b0 (1000000000,63)))
theorem units_right_c (n:Nat) (L:List Nat) (w:World) (hL:∀ b ∈ L,b < w.heap.size) (a0:TRoll) {v0_3:Value} (h0_3:Rep.R w L [v0_3] a0.fu) (a1:TUnit) {v1_2:Value} (h1_2:Rep.R w L [v1_2] a1.fj) {v1_3:Value} (h1_3:Rep.R w L [v1_3] a1.fVotes) {v1_4:Value} (h1_4:Rep.R w L [v1_4] a1.fH)  {r:Bool} (h:units_right_p n a0 a1 = some r) :
    Calls Tryz.prog 111 #[.agg #[vI a0.fj,vI a0.fh,vI a0.fl,v0_3],.agg #[.string a1.fC,vI a1.fA,v1_2,v1_3,v1_4,.bool a1.fq]] w (Gives w fun _ u=>u = .bool r):=by
 unfold units_right_p at h
 have hS0:=Ay w
 refine AD Tryz.func111 rfl rfl rfl (fun _ cs0 hb0=>?_)
 refine Ac<|Ai .plain rfl (Av hS0 rfl rfl) (fun W0 u0 C0 Q0=>?_)
 refine Ai .plain rfl (Av C0 rfl rfl) (fun J0 v0 y0 R0=>?_)
 refine Af rfl<|Aa<|Ac<|Af rfl<|Af rfl<|Aa<|Aj<|Ac<|AZ 5 rfl<|AY rfl ((y0.memA .hd) 5 _ rfl)<|Aa<|MX.join (α:=Nat × Nat) (fun ⟨g0,t0⟩=>[(2,vP u0),(3,vP v0),(5,vI ((g0:Nat):Int)),(6,vI ((t0:Nat):Int))]) (fun ⟨g0,t0⟩ z0=>St w z0 [.cells v0 [.string a1.fC,vI a1.fA,v1_2,v1_3,v1_4,.bool a1.fq] 58,.cells u0 [vI a0.fj,vI a0.fh,vI a0.fl,v0_3] 38]∧Tr J0 [.cells v0 [.string a1.fC,vI a1.fA,v1_2,v1_3,v1_4,.bool a1.fq] 58,.cells u0 [vI a0.fj,vI a0.fh,vI a0.fl,v0_3] 38] z0 [.cells v0 [.string a1.fC,vI a1.fA,v1_2,v1_3,v1_4,.bool a1.fq] 58,.cells u0 [vI a0.fj,vI a0.fh,vI a0.fl,v0_3] 38]) (fun ⟨g0,t0⟩=>(g0,t0)) h ?_ ?_
 rintro ⟨g0,t0⟩ z0 ⟨d0,U0⟩ h
 try dsimp only at h
 refine Aj<|dt 40 tb111_4 (fun b0 c0=>?_)
 refine Ag 0 1 b0 rfl c0 (fun _=>AX 0 rfl) rfl<|AC 1 3 962072674308 b0 rfl c0 (AL rfl ((d0.memA .hd) 0 _ rfl)) rfl<|Ag 2 7 b0 rfl c0 (fun _=>FV.neqS rfl rfl) rfl<|Ag 3 15 b0 rfl c0 (fun _=>AX 0 rfl) rfl<|AC 4 31 962072674400 b0 rfl c0 (AL rfl ((d0.memA .hd) 0 _ rfl)) rfl<|AC 5 63 962072674368 b0 rfl c0 (FV.len_string Tryz.underlying9 rfl) rfl<|Ag 6 127 b0 rfl c0 (fun _=>FV.leqN (i:=a1.fC.size) (j:=12) rfl rfl) rfl<|Ag 7 255 b0 rfl c0 (fun _=>AX 0 rfl) rfl<|AC 8 511 1031882671616 b0 rfl c0 (AL rfl ((d0.memA .hd) 0 _ rfl)) rfl ?_
 obtain ⟨s0,E0,h⟩:=bi h
 refine BA 9 1023 1031882671104 (.string s0) b0 rfl c0 body129 rfl (e2 rfl rfl) (fun w9 hw9=>strings_Trim_c n _ w9 (d0.hL0 hL hw9) a1.fC ⟨#[65,66,67,68,69,70,71,72,73,74,75,76,77,78,79,80,81,82,83,84,85,86,87,88,89,90,97,98,99,100,101,102,103,104,105,106,107,108,109,110,111,112,113,114,115,116,117,118,119,120,121,122,48,49,50,51,52,53,54,55,56,57,45,95]⟩ E0) rfl<|Ag 10 2047 b0 rfl c0 (fun _=>FV.eqlS rfl rfl) rfl<|Ag 11 4095 b0 rfl c0 (fun _=>AX 1 rfl) rfl<|AC 12 8191 962072682496 b0 rfl c0 (AL rfl ((d0.memA .hd) 1 _ rfl)) rfl<|Ag 13 16383 b0 rfl c0 (fun _=>FV.geq (i:=a1.fA) (j:=0) rfl rfl) rfl<|Ag 14 32767 b0 rfl c0 (fun _=>AX 1 rfl) rfl<|AC 15 65535 962072805376 b0 rfl c0 (AL rfl ((d0.memA .hd) 1 _ rfl)) rfl<|Ag 16 131071 b0 rfl c0 (fun _=>Ak rfl) rfl<|Ag 17 262143 b0 rfl c0 (fun _=>FV.leq (i:=a1.fA) (j:=((g0:Nat):Int)) rfl rfl) rfl<|Ag 18 524287 b0 rfl c0 (fun _=>AX 2 rfl) rfl<|AC 19 1048575 1031882670080 b0 rfl c0 (AL rfl ((d0.memA .hd) 2 _ rfl)) rfl<|Ag 20 2097151 b0 rfl c0 (fun _=>AX 0 rfl) rfl<|AC 21 4194303 1031882670080 b0 rfl c0 (AL rfl ((d0.memA (.tl .hd)) 0 _ rfl)) rfl<|Ag 22 8388607 b0 rfl c0 (fun _=>AX 1 rfl) rfl<|AC 23 16777215 1031882670080 b0 rfl c0 (AL rfl ((d0.memA .hd) 1 _ rfl)) rfl ?_
 obtain ⟨q0,F0,h⟩:=bi h
 refine BA 24 33554431 1031865892864 (.bool q0) b0 rfl c0 body130 rfl (e3 rfl rfl rfl) (fun w9 hw9=>units_within_c n _ w9 (d0.hL0 hL hw9) a1.fj (d0.k0 h1_2 hw9) a0.fj a1.fA F0) rfl<|Ag 25 67108863 b0 rfl c0 (fun _=>AX 3 rfl) rfl<|AC 26 134217727 1031865892864 b0 rfl c0 (AL rfl ((d0.memA .hd) 3 _ rfl)) rfl<|Ag 27 268435455 b0 rfl c0 (fun _=>AX 1 rfl) rfl<|AC 28 536870911 1031865892864 b0 rfl c0 (AL rfl ((d0.memA (.tl .hd)) 1 _ rfl)) rfl<|Ag 29 1073741823 b0 rfl c0 (fun _=>Ak rfl) rfl ?_
 obtain ⟨p0,G0,h⟩:=bi h
 refine BA 30 2147483647 1030792151040 (.bool p0) b0 rfl c0 body130 rfl (e3 rfl rfl rfl) (fun w9 hw9=>units_within_c n _ w9 (d0.hL0 hL hw9) a1.fVotes (d0.k0 h1_3 hw9) a0.fh ((g0:Nat):Int) G0) rfl<|Ag 31 4294967295 b0 rfl c0 (fun _=>AX 4 rfl) rfl<|AC 32 8589934591 1030792151040 b0 rfl c0 (AL rfl ((d0.memA .hd) 4 _ rfl)) rfl<|Ag 33 17179869183 b0 rfl c0 (fun _=>AX 2 rfl) rfl<|AC 34 34359738367 1030792151040 b0 rfl c0 (AL rfl ((d0.memA (.tl .hd)) 2 _ rfl)) rfl<|Ag 35 68719476735 b0 rfl c0 (fun _=>Ak rfl) rfl ?_
 obtain ⟨j0,H0,h⟩:=bi h
 refine BA 36 137438953471 962072674304 (.bool j0) b0 rfl c0 body130 rfl (e3 rfl rfl rfl) (fun w9 hw9=>units_within_c n _ w9 (d0.hL0 hL hw9) a1.fH (d0.k0 h1_4 hw9) a0.fl ((t0:Nat):Int) H0) rfl<|RD.nu 37 274877906943 b0 rfl .plain rfl (Ba (α:=Bool) (xs:=([(!(decide (a1.fC = ⟨#[]⟩))),(decide (a1.fC.size ≤ 12)),(decide (s0 = ⟨#[]⟩)),(decide (0 ≤ a1.fA)),(decide (a1.fA ≤ ((g0:Nat):Int))),q0,p0,j0]:List Bool)) (vs:=[.bool (!(decide (a1.fC = ⟨#[]⟩))),.bool (decide (a1.fC.size ≤ 12)),.bool (decide (s0 = ⟨#[]⟩)),.bool (decide (0 ≤ a1.fA)),.bool (decide (a1.fA ≤ ((g0:Nat):Int))),.bool q0,.bool p0,.bool j0]) (ds' :=[.bool (!(decide (a1.fC = ⟨#[]⟩))),.bool (decide (a1.fC.size ≤ 12)),.bool (decide (s0 = ⟨#[]⟩)),.bool (decide (0 ≤ a1.fA)),.bool (decide (a1.fA ≤ ((g0:Nat):Int))),.bool q0,.bool p0,.bool j0]) rfl d0 el184 rfl (e8 rfl rfl rfl rfl rfl rfl rfl rfl) (by kernel_rfl) rfl) (fun X0 P0 x0 V0=>?_)
 have D0:=AH (cs:=[.bool (!(decide (a1.fC = ⟨#[]⟩))),.bool (decide (a1.fC.size ≤ 12)),.bool (decide (s0 = ⟨#[]⟩)),.bool (decide (0 ≤ a1.fA)),.bool (decide (a1.fA ≤ ((g0:Nat):Int))),.bool q0,.bool p0,.bool j0]) (xs:=(([(!(decide (a1.fC = ⟨#[]⟩))),(decide (a1.fC.size ≤ 12)),(decide (s0 = ⟨#[]⟩)),(decide (0 ≤ a1.fA)),(decide (a1.fA ≤ ((g0:Nat):Int))),q0,p0,j0]:List Bool):List Bool)) x0 L (Ax (cs:=[.bool (!(decide (a1.fC = ⟨#[]⟩)))]) (ds:=[.bool (decide (a1.fC.size ≤ 12)),.bool (decide (s0 = ⟨#[]⟩)),.bool (decide (0 ≤ a1.fA)),.bool (decide (a1.fA ≤ ((g0:Nat):Int))),.bool q0,.bool p0,.bool j0]) rfl (Ax (cs:=[.bool (decide (a1.fC.size ≤ 12))]) (ds:=[.bool (decide (s0 = ⟨#[]⟩)),.bool (decide (0 ≤ a1.fA)),.bool (decide (a1.fA ≤ ((g0:Nat):Int))),.bool q0,.bool p0,.bool j0]) rfl (Ax (cs:=[.bool (decide (s0 = ⟨#[]⟩))]) (ds:=[.bool (decide (0 ≤ a1.fA)),.bool (decide (a1.fA ≤ ((g0:Nat):Int))),.bool q0,.bool p0,.bool j0]) rfl (Ax (cs:=[.bool (decide (0 ≤ a1.fA))]) (ds:=[.bool (decide (a1.fA ≤ ((g0:Nat):Int))),.bool q0,.bool p0,.bool j0]) rfl (Ax (cs:=[.bool (decide (a1.fA ≤ ((g0:Nat):Int)))]) (ds:=[.bool q0,.bool p0,.bool j0]) rfl (Ax (cs:=[.bool q0]) (ds:=[.bool p0,.bool j0]) rfl (Ax (cs:=[.bool p0]) (ds:=[.bool j0]) rfl (Ax (cs:=[.bool j0]) (ds:=[]) rfl (AT _ _)))))))))
 obtain ⟨K0,I0,h⟩:=bi h
 refine BA 38 549755813887 549755813888 (.bool K0) b0 rfl c0 body110 rfl (e1 rfl) (fun w9 hw9=>units_every_c n _ w9 (x0.hL0 hL hw9) ([(!(decide (a1.fC = ⟨#[]⟩))),(decide (a1.fC.size ≤ 12)),(decide (s0 = ⟨#[]⟩)),(decide (0 ≤ a1.fA)),(decide (a1.fA ≤ ((g0:Nat):Int))),q0,p0,j0]:List Bool) (Ap (St.lend (α:=Bool) (L:=L) x0 .hd D0 hL) hw9) I0) rfl<|Ag 39 1099511627775 b0 rfl c0 (fun _=>Bi rfl) rfl<|AE (dk b0)<|Al rfl<|Bb hb0 Tryz.func111 rfl rfl ?_
 cases h
 exact x0.gv
 intro M0 A0 h
 try dsimp only at h
 refine MX.ifb rfl h (fun B0 h=>?_) (fun B0 h=>?_)
 refine Ao<|Af rfl<|Af rfl<|Aa ?_
 exact A0 (0,0) _ _ ⟨rfl,rfl,rfl,rfl,trivial⟩ ⟨y0,AQ _ _⟩ h
 refine Au ?_
 exact A0 (1000000000,63) _ _ ⟨rfl,rfl,rfl,rfl,trivial⟩ ⟨y0,AQ _ _⟩ h
def tb80_9:List (Nat × Nat × Nat):=[(0,35184372088832,2),(0,70368744177664,128),(3,140737488355328,105553116266496),(0,281474976710656,16),(0,562949953421312,128),(16,1125899906842624,562949953421312),(40,2251799813685248,1407374883553280),(64,4503599627370496,2251799813685248),(0,9007199254740992,128),(256,18014398509481984,9007199254740992),(516,36028797018963968,18014398509481984),(1024,72057594037927936,36028797018964000),(3072,144115188075855872,108086391056891904),(5120,288230376151711744,180143985094819840),(0,576460752303423488,64),(16384,1152921504606846976,576460752303423488),(33792,2305843009213693952,1152921504606846976),(65536,4611686018427387904,2305843009213694080),(196608,9223372036854775808,6917529027641081856),(327680,18446744073709551616,11529215046068469760),(589824,36893488147419103232,20752587082923245568),(1056900,73786976294838206464,37186362860686540800),(2162688,147573952589676412928,73786976294838206464),(4194304,295147905179352825856,147573952589676412928)]
theorem op_TUnit {w:World} {L:List Nat} {cs:List Value} {x:TUnit} (h:Rep.R w L cs x):∃ v2 v3 v4:Value,cs = [.string x.fC,vI x.fA,v2,v3,v4,.bool x.fq]∧Rep.R w L [v2] x.fj∧Rep.R w L [v3] x.fVotes∧Rep.R w L [v4] x.fH:=by
  obtain ⟨c0,r0,rfl,h0,h⟩:=h
  have e0:c0 = [.string x.fC]:=h0; subst e0
  obtain ⟨c1,r1,rfl,h1,h⟩:=h
  have e1:c1 = [vI x.fA]:=h1; subst e1
  obtain ⟨c2,r2,rfl,h2,h⟩:=h
  obtain ⟨v2,rfl,kv2⟩:=lst_one (xs:=x.fj) h2
  obtain ⟨c3,r3,rfl,h3,h⟩:=h
  obtain ⟨v3,rfl,kv3⟩:=lst_one (xs:=x.fVotes) h3
  obtain ⟨c4,r4,rfl,h4,h⟩:=h
  obtain ⟨v4,rfl,kv4⟩:=lst_one (xs:=x.fH) h4
  have e5:r4 = [.bool x.fq]:=h; subst e5
  exact ⟨v2,v3,v4,rfl,kv2,kv3,kv4⟩
theorem mk_TUnit {w:World} {L:List Nat} (a0:ByteArray) (a1:Int) (a2:List Int) {u2:Value} (h2:Rep.R w L [u2] a2) (a3:List Int) {u3:Value} (h3:Rep.R w L [u3] a3) (a4:List Int) {u4:Value} (h4:Rep.R w L [u4] a4) (a5:Bool):Rep.R w L [.string a0,vI a1,u2,u3,u4,.bool a5] (⟨a0,a1,a2,a3,a4,a5⟩:TUnit):=⟨[.string a0],[vI a1,u2,u3,u4,.bool a5],rfl,rfl,⟨[vI a1],[u2,u3,u4,.bool a5],rfl,rfl,⟨[u2],[u3,u4,.bool a5],rfl,h2,⟨[u3],[u4,.bool a5],rfl,h3,⟨[u4],[.bool a5],rfl,h4,rfl⟩⟩⟩⟩⟩
theorem body111:bodyB Tryz.prog 111 = true:=by kernel_rfl
def units_CheckRoll_l1 (n:Nat) (a0:TRoll) (g0:Bool × Nat × (List (ByteArray × Bool)) → Option (Int ⊕ Unit)):Bool × Nat × (List (ByteArray × Bool)) → Option (Int ⊕ Unit)
  | (k0,d0,c0)=>(if d0 < a0.fu.length then (a0.fu[d0]?).bind fun b0=>(units_right_p n a0 b0).bind fun j0=>(if b0.fq = true then (if 0 < d0 then (units_every_p n ([j0,(!(mgetD c0 b0.fC false)),true,true]:List Bool)).bind fun p0=>(if p0 = true then g0 (b0.fq,d0 + 1,mset c0 b0.fC true) else some (.inl (161:Int))) else (units_every_p n ([j0,(!(mgetD c0 b0.fC false)),true,(!b0.fq)]:List Bool)).bind fun q0=>(if q0 = true then g0 (b0.fq,d0 + 1,mset c0 b0.fC true) else some (.inl (161:Int)))) else (if 0 < d0 then (units_every_p n ([j0,(!(mgetD c0 b0.fC false)),(!k0),true]:List Bool)).bind fun s0=>(if s0 = true then g0 (b0.fq,d0 + 1,mset c0 b0.fC true) else some (.inl (161:Int))) else (units_every_p n ([j0,(!(mgetD c0 b0.fC false)),(!k0),(!b0.fq)]:List Bool)).bind fun t0=>(if t0 = true then g0 (b0.fq,d0 + 1,mset c0 b0.fC true) else some (.inl (161:Int))))) else some (.inr ()))
def units_CheckRoll_p (n:Nat) (a0:TRoll):Option Int:=
  (units_every_p n ([(decide (0 ≤ a0.fj)),(decide (a0.fj ≤ 6)),(decide (0 ≤ a0.fh)),(decide (a0.fh ≤ 12)),(decide (0 ≤ a0.fl)),(decide (a0.fl ≤ 3)),(decide (0 < a0.fu.length)),(decide (a0.fu.length ≤ 64))]:List Bool)).bind fun b0=>(if b0 = true then thn (loopF (units_CheckRoll_l1 n a0) n (false,0,([]:List (ByteArray × Bool)))) (fun _=>some (0:Int)) else some (161:Int))
theorem units_CheckRoll_c (n:Nat) (L:List Nat) (w:World) (hL:∀ b ∈ L,b < w.heap.size) (a0:TRoll) {v0_3:Value} (h0_3:Rep.R w L [v0_3] a0.fu)  {r:Int} (h:units_CheckRoll_p n a0 = some r) :
    Calls Tryz.prog 80 #[.agg #[vI a0.fj,vI a0.fh,vI a0.fl,v0_3]] w (Gives w fun _ u=>u = vI r):=by
 unfold units_CheckRoll_p at h
 have hS0:=Ay w
 refine AD Tryz.func80 rfl rfl rfl (fun _ cs0 hb0=>?_)
 refine Ac<|Ai .plain rfl (Av hS0 rfl rfl) (fun q3 D0 u0 c3=>?_)
 refine Af rfl<|Aa<|Ac<|AZ 3 rfl<|AY rfl ((u0.memA .hd) 3 _ rfl) ?_
 have R0:=AO h0_3 u0
 have k3:a0.fu.length ≤ 281474976710656:=AU R0
 refine Ab (Bd (xs:=a0.fu) Tryz.underlying36 rfl R0)<|Af rfl<|Aa<|Aj<|Ac<|AZ 0 rfl<|AY rfl ((u0.memA .hd) 0 _ rfl)<|Ab (FV.geq (i:=a0.fj) (j:=0) rfl rfl)<|AZ 0 rfl<|AY rfl ((u0.memA .hd) 0 _ rfl)<|Ab (FV.leq (i:=a0.fj) (j:=6) rfl rfl)<|AZ 1 rfl<|AY rfl ((u0.memA .hd) 1 _ rfl)<|Ab (FV.geq (i:=a0.fh) (j:=0) rfl rfl)<|AZ 1 rfl<|AY rfl ((u0.memA .hd) 1 _ rfl)<|Ab (FV.leq (i:=a0.fh) (j:=12) rfl rfl)<|AZ 2 rfl<|AY rfl ((u0.memA .hd) 2 _ rfl)<|Ab (FV.geq (i:=a0.fl) (j:=0) rfl rfl)<|AZ 2 rfl<|AY rfl ((u0.memA .hd) 2 _ rfl)<|Ab (FV.leq (i:=a0.fl) (j:=3) rfl rfl)<|Ae rfl ?_
 refine Ab (FV.gtrN (i:=a0.fu.length) (j:=0) rfl rfl)<|Ae rfl<|Ab (FV.leqN (i:=a0.fu.length) (j:=64) rfl rfl)<|Ai .plain rfl (Ba (α:=Bool) (xs:=([(decide (0 ≤ a0.fj)),(decide (a0.fj ≤ 6)),(decide (0 ≤ a0.fh)),(decide (a0.fh ≤ 12)),(decide (0 ≤ a0.fl)),(decide (a0.fl ≤ 3)),(decide (0 < a0.fu.length)),(decide (a0.fu.length ≤ 64))]:List Bool)) (vs:=[.bool (decide (0 ≤ a0.fj)),.bool (decide (a0.fj ≤ 6)),.bool (decide (0 ≤ a0.fh)),.bool (decide (a0.fh ≤ 12)),.bool (decide (0 ≤ a0.fl)),.bool (decide (a0.fl ≤ 3)),.bool (decide (0 < a0.fu.length)),.bool (decide (a0.fu.length ≤ 64))]) (ds' :=[.bool (decide (0 ≤ a0.fj)),.bool (decide (a0.fj ≤ 6)),.bool (decide (0 ≤ a0.fh)),.bool (decide (a0.fh ≤ 12)),.bool (decide (0 ≤ a0.fl)),.bool (decide (a0.fl ≤ 3)),.bool (decide (0 < a0.fu.length)),.bool (decide (a0.fu.length ≤ 64))]) rfl u0 el184 rfl (e8 rfl rfl rfl rfl rfl rfl rfl rfl) (by kernel_rfl) rfl) (fun s3 R2 B0 d3=>?_)
 have K1:=AH (cs:=[.bool (decide (0 ≤ a0.fj)),.bool (decide (a0.fj ≤ 6)),.bool (decide (0 ≤ a0.fh)),.bool (decide (a0.fh ≤ 12)),.bool (decide (0 ≤ a0.fl)),.bool (decide (a0.fl ≤ 3)),.bool (decide (0 < a0.fu.length)),.bool (decide (a0.fu.length ≤ 64))]) (xs:=(([(decide (0 ≤ a0.fj)),(decide (a0.fj ≤ 6)),(decide (0 ≤ a0.fh)),(decide (a0.fh ≤ 12)),(decide (0 ≤ a0.fl)),(decide (a0.fl ≤ 3)),(decide (0 < a0.fu.length)),(decide (a0.fu.length ≤ 64))]:List Bool):List Bool)) B0 L (Ax (cs:=[.bool (decide (0 ≤ a0.fj))]) (ds:=[.bool (decide (a0.fj ≤ 6)),.bool (decide (0 ≤ a0.fh)),.bool (decide (a0.fh ≤ 12)),.bool (decide (0 ≤ a0.fl)),.bool (decide (a0.fl ≤ 3)),.bool (decide (0 < a0.fu.length)),.bool (decide (a0.fu.length ≤ 64))]) rfl (Ax (cs:=[.bool (decide (a0.fj ≤ 6))]) (ds:=[.bool (decide (0 ≤ a0.fh)),.bool (decide (a0.fh ≤ 12)),.bool (decide (0 ≤ a0.fl)),.bool (decide (a0.fl ≤ 3)),.bool (decide (0 < a0.fu.length)),.bool (decide (a0.fu.length ≤ 64))]) rfl (Ax (cs:=[.bool (decide (0 ≤ a0.fh))]) (ds:=[.bool (decide (a0.fh ≤ 12)),.bool (decide (0 ≤ a0.fl)),.bool (decide (a0.fl ≤ 3)),.bool (decide (0 < a0.fu.length)),.bool (decide (a0.fu.length ≤ 64))]) rfl (Ax (cs:=[.bool (decide (a0.fh ≤ 12))]) (ds:=[.bool (decide (0 ≤ a0.fl)),.bool (decide (a0.fl ≤ 3)),.bool (decide (0 < a0.fu.length)),.bool (decide (a0.fu.length ≤ 64))]) rfl (Ax (cs:=[.bool (decide (0 ≤ a0.fl))]) (ds:=[.bool (decide (a0.fl ≤ 3)),.bool (decide (0 < a0.fu.length)),.bool (decide (a0.fu.length ≤ 64))]) rfl (Ax (cs:=[.bool (decide (a0.fl ≤ 3))]) (ds:=[.bool (decide (0 < a0.fu.length)),.bool (decide (a0.fu.length ≤ 64))]) rfl (Ax (cs:=[.bool (decide (0 < a0.fu.length))]) (ds:=[.bool (decide (a0.fu.length ≤ 64))]) rfl (Ax (cs:=[.bool (decide (a0.fu.length ≤ 64))]) (ds:=[]) rfl (AT _ _)))))))))
 obtain ⟨H2,x2,h⟩:=bi h
 refine Bg (.bool H2) body110 rfl (e1 rfl) (fun w9 hw9=>units_every_c n _ w9 (B0.hL0 hL hw9) ([(decide (0 ≤ a0.fj)),(decide (a0.fj ≤ 6)),(decide (0 ≤ a0.fh)),(decide (a0.fh ≤ 12)),(decide (0 ≤ a0.fl)),(decide (a0.fl ≤ 3)),(decide (0 < a0.fu.length)),(decide (a0.fu.length ≤ 64))]:List Bool) (Ap (St.lend (α:=Bool) (L:=L) B0 .hd K1 hL) hw9) x2) rfl<|Ab (BG rfl)<|Aa<|MX.ifnb rfl h (fun Y0 h=>?_) (fun Y0 h=>?_)
 refine Au<|Ac<|Ai .plain rfl (Does.makeMap (κ:=ByteArray) (ν:=Bool) B0) (fun G2 E0 I0 j3=>?_)
 refine Af rfl<|Aa<|Ac<|Af rfl<|Aa<|Aj<|Ac<|AZ 3 rfl<|AY rfl ((I0.memA (.tl (.tl .hd))) 3 _ rfl) ?_
 have j2:=AO h0_3 I0
 refine Ab (Bd (xs:=a0.fu) Tryz.underlying36 rfl j2)<|Ae rfl<|Aa<|Az ?_
 obtain ⟨p1,g3⟩:=AG I0 (.one .hd (.one (.tl .hd) .done))
 obtain ⟨p3,k2,C0⟩:=thn_in h
 refine Bm (α:=Bool × Nat × (List (ByteArray × Bool))) (fun ⟨p0,q0,d0⟩=>[(1,vP D0),(4,.map (some E0)),(5,.bool p0),(38,v0_3),(39,vI ((a0.fu.length:Nat):Int)),(40,vI ((q0:Nat):Int))]) (fun ⟨p0,q0,d0⟩ J0=>St w J0 [.obj E0 (mapO (d0:List (ByteArray × Bool))),.cells D0 [vI a0.fj,vI a0.fh,vI a0.fl,v0_3] 38]∧Tr G2 [.obj E0 (mapO ([]:List (ByteArray × Bool))),.cells D0 [vI a0.fj,vI a0.fh,vI a0.fl,v0_3] 38] J0 [.obj E0 (mapO (d0:List (ByteArray × Bool))),.cells D0 [vI a0.fj,vI a0.fh,vI a0.fl,v0_3] 38]) (fun ⟨p0,q0,d0⟩=>(p0,q0,d0)) (false,0,([]:List (ByteArray × Bool))) k2 ⟨rfl,rfl,rfl,rfl,rfl,rfl,trivial⟩ ⟨p1,AQ _ _⟩ ?_
 rintro Q2 ⟨p0,q0,d0⟩ J0 F0 ⟨H0,G0⟩ h
 unfold units_CheckRoll_l1 at h
 try dsimp only at h
 refine Ac<|Ab (Br (i:=q0) (j:=a0.fu.length) rfl rfl)<|Aa<|Aj<|AV rfl h (fun X0 h=>?_) (fun X0 h=>?_)
 refine Au<|Aj<|Az<|Ac<|Ae rfl ?_
 obtain ⟨b0,v2,h⟩:=bi h
 have X1:=AO h0_3 H0
 obtain ⟨P2,Z2,U1,V1,b3,u2,W1⟩:=Bk X1 v2
 obtain ⟨D2,E2,F2,rfl,U0,V0,W0⟩:=op_TUnit u2
 refine Ab (Bp 6 q0 rfl U1 rfl rfl V1)<|Ab (AA rfl W1)<|Ai .plain rfl (Ar [.string ⟨#[]⟩,vI 0,vN,vN,vN,.bool false] H0) (fun t3 U2 q1 t0=>?_)
 refine Af rfl ?_
 have Y1:=Aq U0 t0
 have Z1:=Aq V0 t0
 have b2:=Aq W0 t0
 refine AJ [.string b0.fC,vI b0.fA,D2,E2,F2,.bool b0.fq] q1 .hd (o6 rfl rfl (AN Y1) (AN Z1) (AN b2) rfl) (fun u3 s0 v0=>?_)
 refine Aa<|Aj<|Aj<|dt 24 tb80_9 (fun c0 g0=>?_)
 refine AC 0 1 16727044 c0 rfl g0 (AA rfl (s0.memA (.tl (.tl .hd)))) rfl<|AC 1 3 16727044 c0 rfl g0 (AA rfl (s0.memA .hd)) rfl ?_
 obtain ⟨j0,y2,h⟩:=bi h
 have c2:=Aq U0 (Tt t0 v0)
 have d2:=Aq V0 (Tt t0 v0)
 have g2:=Aq W0 (Tt t0 v0)
 refine BA 2 7 16727040 (.bool j0) c0 rfl g0 body111 rfl (e2 rfl rfl) (fun w9 hw9=>units_right_c n _ w9 (s0.hL0 hL hw9) a0 (s0.k0 h0_3 hw9) b0 (s0.kd c2 hw9) (s0.kd d2 hw9) (s0.kd g2 hw9) y2) rfl<|Ag 3 15 c0 rfl g0 (fun _=>Ak rfl) rfl<|Ag 4 31 c0 rfl g0 (fun _=>AX 0 rfl) rfl<|AC 5 63 14680256 c0 rfl g0 (AL rfl ((s0.memA .hd) 0 _ rfl)) rfl<|AC 6 127 14680192 c0 rfl g0 (FV.lookup (kv:=b0.fC) (z:=false) s0 (.tl .hd) Tryz.underlying166 Tryz.underlying9 rfl (by kernel_rfl) rfl rfl) rfl<|Ag 7 255 c0 rfl g0 (fun _=>BG rfl) rfl<|Ag 8 511 c0 rfl g0 (fun _=>AX 5 rfl) rfl<|AC 9 1023 16727040 c0 rfl g0 (AL rfl ((s0.memA .hd) 5 _ rfl)) rfl<|Ag 10 2047 c0 rfl g0 (fun _=>Ak rfl) rfl<|RD.ifb (s:=55) rfl h (fun Z0 h=>?_) (fun Z0 h=>?_)
 refine Bz 8191 11 [(11,56),(12,57)] (F:=[(55,true)]) (U:=[]) c0 g0 (.cons rfl .nil) .nil ?_
 dsimp only [offS,List.map]
 refine Ag 13 16383 c0 rfl g0 (fun _=>BL rfl rfl) rfl<|Ag 14 32767 c0 rfl g0 (fun _=>Ak rfl) rfl<|Ag 15 65535 c0 rfl g0 (fun _=>FV.gtrN (i:=q0) (j:=0) rfl rfl) rfl<|Ag 16 131071 c0 rfl g0 (fun _=>Ak rfl) rfl<|RD.ifd (s:=61) rfl h (fun b1 h=>?_) (fun b1 h=>?_)
 refine Bz 1048575 4 [(17,62),(18,63),(19,64)] (F:=[(61,true)]) (U:=[]) c0 g0 (.cons rfl .nil) .nil ?_
 dsimp only [offS,List.map]
 refine Ag 20 2097151 c0 rfl g0 (fun _=>BL rfl rfl) rfl<|RD.nu 21 4194303 c0 rfl .plain rfl (Ba (α:=Bool) (xs:=([j0,(!(mgetD d0 b0.fC false)),true,true]:List Bool)) (vs:=[.bool j0,.bool (!(mgetD d0 b0.fC false)),.bool true,.bool true]) (ds' :=[.bool j0,.bool (!(mgetD d0 b0.fC false)),.bool true,.bool true]) rfl s0 el184 rfl (e4 rfl rfl rfl rfl) (by kernel_rfl) rfl) (fun v3 V2 x0 y1=>?_)
 have M1:=AH (cs:=[.bool j0,.bool (!(mgetD d0 b0.fC false)),.bool true,.bool true]) (xs:=(([j0,(!(mgetD d0 b0.fC false)),true,true]:List Bool):List Bool)) x0 L (Ax (cs:=[.bool j0]) (ds:=[.bool (!(mgetD d0 b0.fC false)),.bool true,.bool true]) rfl (Ax (cs:=[.bool (!(mgetD d0 b0.fC false))]) (ds:=[.bool true,.bool true]) rfl (Ax (cs:=[.bool true]) (ds:=[.bool true]) rfl (Ax (cs:=[.bool true]) (ds:=[]) rfl (AT _ _)))))
 obtain ⟨I2,z2,h⟩:=bi h
 refine BA 22 8388607 8388608 (.bool I2) c0 rfl g0 body110 rfl (e1 rfl) (fun w9 hw9=>units_every_c n _ w9 (x0.hL0 hL hw9) ([j0,(!(mgetD d0 b0.fC false)),true,true]:List Bool) (Ap (St.lend (α:=Bool) (L:=L) x0 .hd M1 hL) hw9) z2) rfl<|Ag 23 16777215 c0 rfl g0 (fun _=>BG rfl) rfl<|AE (dk c0)<|MX.ifnb rfl h (fun c1 h=>?_) (fun c1 h=>?_)
 refine Au<|Ac<|Ae rfl<|AZ 0 rfl<|AY rfl ((x0.memA (.tl .hd)) 0 _ rfl)<|BH .plain (Acts.mapUpdate (kv:=b0.fC) (vv:=true) x0 (.tl (.tl .hd)) Tryz.underlying166 Tryz.underlying9 rfl rfl rfl rfl) (fun x3 K0 z1=>?_)
 refine Aa<|Ao<|AZ 5 rfl<|AY rfl ((K0.memA (.tl .hd)) 5 _ rfl)<|Af rfl<|Aa<|AB<|Ao<|Ab (Bl (i:=q0) (j:=1) rfl rfl (by omega))<|Ae rfl<|Aa ?_
 obtain ⟨s1,A1⟩:=AG K0 (.one (.tl (.tl .hd)) (.one (.tl (.tl .hd)) .done))
 have p2:=Tt t0 (Tt v0 (Tt y1 (Tt z1 A1)))
 exact F0 (b0.fq,q0 + 1,mset d0 b0.fC true) _ _ ⟨rfl,rfl,rfl,rfl,rfl,rfl,trivial⟩ ⟨s1,(Tt G0 p2)⟩ h
 refine Ac<|Af rfl<|Aa ?_
 have h:=thn_inl h C0
 refine Al rfl<|Bb hb0 Tryz.func80 rfl rfl ?_
 cases h
 exact x0.gv
 refine RD.vP 17 262143 c0 rfl g0 (.yes rfl rfl) (fun _=>AX 5 rfl) rfl<|RD.val (i:=18) (m' :=524287) (W:=16252928) (tk c0) rfl g0 (.yes rfl rfl) (AL rfl ((s0.memA .hd) 5 _ rfl)) rfl<|RD.vP 19 1048575 c0 rfl g0 (.yes rfl rfl) (fun _=>BG rfl) rfl<|Ag 20 2097151 c0 rfl g0 (fun _=>Bs rfl rfl) rfl<|RD.nu 21 4194303 c0 rfl .plain rfl (Ba (α:=Bool) (xs:=([j0,(!(mgetD d0 b0.fC false)),true,(!b0.fq)]:List Bool)) (vs:=[.bool j0,.bool (!(mgetD d0 b0.fC false)),.bool true,.bool (!b0.fq)]) (ds' :=[.bool j0,.bool (!(mgetD d0 b0.fC false)),.bool true,.bool (!b0.fq)]) rfl s0 el184 rfl (e4 rfl rfl rfl rfl) (by kernel_rfl) rfl) (fun y3 W2 y0 B1=>?_)
 have P1:=AH (cs:=[.bool j0,.bool (!(mgetD d0 b0.fC false)),.bool true,.bool (!b0.fq)]) (xs:=(([j0,(!(mgetD d0 b0.fC false)),true,(!b0.fq)]:List Bool):List Bool)) y0 L (Ax (cs:=[.bool j0]) (ds:=[.bool (!(mgetD d0 b0.fC false)),.bool true,.bool (!b0.fq)]) rfl (Ax (cs:=[.bool (!(mgetD d0 b0.fC false))]) (ds:=[.bool true,.bool (!b0.fq)]) rfl (Ax (cs:=[.bool true]) (ds:=[.bool (!b0.fq)]) rfl (Ax (cs:=[.bool (!b0.fq)]) (ds:=[]) rfl (AT _ _)))))
 obtain ⟨J2,A2,h⟩:=bi h
 refine BA 22 8388607 8388608 (.bool J2) c0 rfl g0 body110 rfl (e1 rfl) (fun w9 hw9=>units_every_c n _ w9 (y0.hL0 hL hw9) ([j0,(!(mgetD d0 b0.fC false)),true,(!b0.fq)]:List Bool) (Ap (St.lend (α:=Bool) (L:=L) y0 .hd P1 hL) hw9) A2) rfl<|Ag 23 16777215 c0 rfl g0 (fun _=>BG rfl) rfl<|AE (dk c0)<|MX.ifnb rfl h (fun d1 h=>?_) (fun d1 h=>?_)
 refine Au<|Ac<|Ae rfl<|AZ 0 rfl<|AY rfl ((y0.memA (.tl .hd)) 0 _ rfl)<|BH .plain (Acts.mapUpdate (kv:=b0.fC) (vv:=true) y0 (.tl (.tl .hd)) Tryz.underlying166 Tryz.underlying9 rfl rfl rfl rfl) (fun z3 M0 C1=>?_)
 refine Aa<|Ao<|AZ 5 rfl<|AY rfl ((M0.memA (.tl .hd)) 5 _ rfl)<|Af rfl<|Aa<|AB<|Ao<|Ab (Bl (i:=q0) (j:=1) rfl rfl (by omega))<|Ae rfl<|Aa ?_
 obtain ⟨u1,D1⟩:=AG M0 (.one (.tl (.tl .hd)) (.one (.tl (.tl .hd)) .done))
 have q2:=Tt t0 (Tt v0 (Tt B1 (Tt C1 D1)))
 exact F0 (b0.fq,q0 + 1,mset d0 b0.fC true) _ _ ⟨rfl,rfl,rfl,rfl,rfl,rfl,trivial⟩ ⟨u1,(Tt G0 q2)⟩ h
 refine Ac<|Af rfl<|Aa ?_
 have h:=thn_inl h C0
 refine Al rfl<|Bb hb0 Tryz.func80 rfl rfl ?_
 cases h
 exact y0.gv
 refine RD.vP 11 4095 c0 rfl g0 (.yes rfl rfl) (fun _=>Ak rfl) rfl<|RD.vP 12 8191 c0 rfl g0 (.yes rfl rfl) (fun _=>BG rfl) rfl<|Ag 13 16383 c0 rfl g0 (fun _=>Bs rfl rfl) rfl<|Ag 14 32767 c0 rfl g0 (fun _=>Ak rfl) rfl<|Ag 15 65535 c0 rfl g0 (fun _=>FV.gtrN (i:=q0) (j:=0) rfl rfl) rfl<|Ag 16 131071 c0 rfl g0 (fun _=>Ak rfl) rfl<|RD.ifd (s:=61) rfl h (fun g1 h=>?_) (fun g1 h=>?_)
 refine Bz 1048575 4 [(17,62),(18,63),(19,64)] (F:=[(61,true)]) (U:=[]) c0 g0 (.cons rfl .nil) .nil ?_
 dsimp only [offS,List.map]
 refine Ag 20 2097151 c0 rfl g0 (fun _=>BL rfl rfl) rfl<|RD.nu 21 4194303 c0 rfl .plain rfl (Ba (α:=Bool) (xs:=([j0,(!(mgetD d0 b0.fC false)),(!p0),true]:List Bool)) (vs:=[.bool j0,.bool (!(mgetD d0 b0.fC false)),.bool (!p0),.bool true]) (ds' :=[.bool j0,.bool (!(mgetD d0 b0.fC false)),.bool (!p0),.bool true]) rfl s0 el184 rfl (e4 rfl rfl rfl rfl) (by kernel_rfl) rfl) (fun A3 X2 z0 E1=>?_)
 have Q1:=AH (cs:=[.bool j0,.bool (!(mgetD d0 b0.fC false)),.bool (!p0),.bool true]) (xs:=(([j0,(!(mgetD d0 b0.fC false)),(!p0),true]:List Bool):List Bool)) z0 L (Ax (cs:=[.bool j0]) (ds:=[.bool (!(mgetD d0 b0.fC false)),.bool (!p0),.bool true]) rfl (Ax (cs:=[.bool (!(mgetD d0 b0.fC false))]) (ds:=[.bool (!p0),.bool true]) rfl (Ax (cs:=[.bool (!p0)]) (ds:=[.bool true]) rfl (Ax (cs:=[.bool true]) (ds:=[]) rfl (AT _ _)))))
 obtain ⟨K2,B2,h⟩:=bi h
 refine BA 22 8388607 8388608 (.bool K2) c0 rfl g0 body110 rfl (e1 rfl) (fun w9 hw9=>units_every_c n _ w9 (z0.hL0 hL hw9) ([j0,(!(mgetD d0 b0.fC false)),(!p0),true]:List Bool) (Ap (St.lend (α:=Bool) (L:=L) z0 .hd Q1 hL) hw9) B2) rfl<|Ag 23 16777215 c0 rfl g0 (fun _=>BG rfl) rfl<|AE (dk c0)<|MX.ifnb rfl h (fun j1 h=>?_) (fun j1 h=>?_)
 refine Au<|Ac<|Ae rfl<|AZ 0 rfl<|AY rfl ((z0.memA (.tl .hd)) 0 _ rfl)<|BH .plain (Acts.mapUpdate (kv:=b0.fC) (vv:=true) z0 (.tl (.tl .hd)) Tryz.underlying166 Tryz.underlying9 rfl rfl rfl rfl) (fun B3 P0 F1=>?_)
 refine Aa<|Ao<|AZ 5 rfl<|AY rfl ((P0.memA (.tl .hd)) 5 _ rfl)<|Af rfl<|Aa<|AB<|Ao<|Ab (Bl (i:=q0) (j:=1) rfl rfl (by omega))<|Ae rfl<|Aa ?_
 obtain ⟨v1,G1⟩:=AG P0 (.one (.tl (.tl .hd)) (.one (.tl (.tl .hd)) .done))
 have s2:=Tt t0 (Tt v0 (Tt E1 (Tt F1 G1)))
 exact F0 (b0.fq,q0 + 1,mset d0 b0.fC true) _ _ ⟨rfl,rfl,rfl,rfl,rfl,rfl,trivial⟩ ⟨v1,(Tt G0 s2)⟩ h
 refine Ac<|Af rfl<|Aa ?_
 have h:=thn_inl h C0
 refine Al rfl<|Bb hb0 Tryz.func80 rfl rfl ?_
 cases h
 exact z0.gv
 refine RD.vP 17 262143 c0 rfl g0 (.yes rfl rfl) (fun _=>AX 5 rfl) rfl<|RD.val (i:=18) (m' :=524287) (W:=16252928) (tk c0) rfl g0 (.yes rfl rfl) (AL rfl ((s0.memA .hd) 5 _ rfl)) rfl<|RD.vP 19 1048575 c0 rfl g0 (.yes rfl rfl) (fun _=>BG rfl) rfl<|Ag 20 2097151 c0 rfl g0 (fun _=>Bs rfl rfl) rfl<|RD.nu 21 4194303 c0 rfl .plain rfl (Ba (α:=Bool) (xs:=([j0,(!(mgetD d0 b0.fC false)),(!p0),(!b0.fq)]:List Bool)) (vs:=[.bool j0,.bool (!(mgetD d0 b0.fC false)),.bool (!p0),.bool (!b0.fq)]) (ds' :=[.bool j0,.bool (!(mgetD d0 b0.fC false)),.bool (!p0),.bool (!b0.fq)]) rfl s0 el184 rfl (e4 rfl rfl rfl rfl) (by kernel_rfl) rfl) (fun C3 Y2 A0 H1=>?_)
 have R1:=AH (cs:=[.bool j0,.bool (!(mgetD d0 b0.fC false)),.bool (!p0),.bool (!b0.fq)]) (xs:=(([j0,(!(mgetD d0 b0.fC false)),(!p0),(!b0.fq)]:List Bool):List Bool)) A0 L (Ax (cs:=[.bool j0]) (ds:=[.bool (!(mgetD d0 b0.fC false)),.bool (!p0),.bool (!b0.fq)]) rfl (Ax (cs:=[.bool (!(mgetD d0 b0.fC false))]) (ds:=[.bool (!p0),.bool (!b0.fq)]) rfl (Ax (cs:=[.bool (!p0)]) (ds:=[.bool (!b0.fq)]) rfl (Ax (cs:=[.bool (!b0.fq)]) (ds:=[]) rfl (AT _ _)))))
 obtain ⟨M2,C2,h⟩:=bi h
 refine BA 22 8388607 8388608 (.bool M2) c0 rfl g0 body110 rfl (e1 rfl) (fun w9 hw9=>units_every_c n _ w9 (A0.hL0 hL hw9) ([j0,(!(mgetD d0 b0.fC false)),(!p0),(!b0.fq)]:List Bool) (Ap (St.lend (α:=Bool) (L:=L) A0 .hd R1 hL) hw9) C2) rfl<|Ag 23 16777215 c0 rfl g0 (fun _=>BG rfl) rfl<|AE (dk c0)<|MX.ifnb rfl h (fun k1 h=>?_) (fun k1 h=>?_)
 refine Au<|Ac<|Ae rfl<|AZ 0 rfl<|AY rfl ((A0.memA (.tl .hd)) 0 _ rfl)<|BH .plain (Acts.mapUpdate (kv:=b0.fC) (vv:=true) A0 (.tl (.tl .hd)) Tryz.underlying166 Tryz.underlying9 rfl rfl rfl rfl) (fun D3 Q0 I1=>?_)
 refine Aa<|Ao<|AZ 5 rfl<|AY rfl ((Q0.memA (.tl .hd)) 5 _ rfl)<|Af rfl<|Aa<|AB<|Ao<|Ab (Bl (i:=q0) (j:=1) rfl rfl (by omega))<|Ae rfl<|Aa ?_
 obtain ⟨x1,J1⟩:=AG Q0 (.one (.tl (.tl .hd)) (.one (.tl (.tl .hd)) .done))
 have t2:=Tt t0 (Tt v0 (Tt H1 (Tt I1 J1)))
 exact F0 (b0.fq,q0 + 1,mset d0 b0.fC true) _ _ ⟨rfl,rfl,rfl,rfl,rfl,rfl,trivial⟩ ⟨x1,(Tt G0 t2)⟩ h
 refine Ac<|Af rfl<|Aa ?_
 have h:=thn_inl h C0
 refine Al rfl<|Bb hb0 Tryz.func80 rfl rfl ?_
 cases h
 exact A0.gv
 refine Be rfl ?_
 have h:=thn_inr h C0
 try dsimp only at h
 refine Ac<|Af rfl<|Aa<|Al rfl<|Bb hb0 Tryz.func80 rfl rfl ?_
 cases h
 exact H0.gv
 refine Ac<|Af rfl<|Aa<|Al rfl<|Bb hb0 Tryz.func80 rfl rfl ?_
 cases h
 exact B0.gv
theorem body79:bodyB Tryz.prog 79 = true:=by kernel_rfl
def balance_fail_p (n:Nat) (a0:Bool) (a1:Int):Option (Except Tbroken Unit):=
  (if a0 = true then (balance_need_p n a1).bind fun y2=>exc y2 (fun c0=>some (.ok ())) (fun b0=>some (.error b0)) else some (.ok ()))
theorem balance_fail_c (n:Nat) (L:List Nat) (w:World) (hL:∀ b ∈ L,b < w.heap.size) (a0:Bool) (a1:Int)  {r:Except Tbroken Unit} (h:balance_fail_p n a0 a1 = some r) :
    Calls Tryz.prog 81 #[.bool a0,vI a1] w (PGives w (fun (y:Unit) _ u=>u = .tuple #[]) (fun e=>.iface 131 (.agg #[vI e.fB])) r):=by
 unfold balance_fail_p at h
 have hS0:=Ay w
 refine BE Tryz.func81 rfl rfl rfl (fun _ cs0 hb0 hp0=>?_)
 refine Ac<|Ae rfl<|Aa<|MX.ifb rfl h (fun c1 h=>?_) (fun c1 h=>?_)
 refine Ao<|Ae rfl ?_
 obtain ⟨y2,hy2,h⟩:=bi h
 rcases y2 with d0 | k0
 have h:=exc_e h
 try dsimp only at h
 refine Bt (fst:=[]) (cap:=[]) .plain body79 rfl (e1 rfl) (fun w9 hw9=>balance_need_c n _ w9 (hS0.hL0 hL hw9) a1 hy2) (fun j0 c0=>?_)
 obtain ⟨b0,g0⟩:=hS0.agr c0
 cases h
 exact AP hp0 Tryz.func81 ⟨b0.ag,rfl⟩
 have h:=exc_o h
 try dsimp only at h
 refine Bg (.tuple #[]) body79 rfl (e1 rfl) (fun w9 hw9=>AK (balance_need_c n _ w9 (hS0.hL0 hL hw9) a1 hy2)) rfl<|Aa<|MX.fin rfl<|Am hb0 Tryz.func81 rfl .nil rfl ?_
 cases h
 exact ⟨hS0.ag,fun w9 hw9=>okOf_in rfl⟩
 refine Au<|MX.fin rfl<|Am hb0 Tryz.func81 rfl .nil rfl ?_
 cases h
 exact ⟨hS0.ag,fun w9 hw9=>okOf_in rfl⟩
structure Tcount where
  fv:TRoll
  fk:Int
  deriving DecidableEq
instance:Rep Tcount:=Rep.via (β:=TRoll × Int) fun x=>(x.fv,x.fk)
theorem body80:bodyB Tryz.prog 80 = true:=by kernel_rfl
theorem body81:bodyB Tryz.prog 81 = true:=by kernel_rfl
def balance_counted_p (n:Nat) (a0:TRoll) (a1:Int):Option (Except Tbroken Tcount):=
  (units_CheckRoll_p n a0).bind fun g0=>(balance_need_p n g0).bind fun j0=>exc j0 (fun q0=>(if a1 < 1 then (balance_fail_p n true (2:Int)).bind fun k0=>exc k0 (fun s0=>some (.ok (⟨a0,a1⟩:Tcount))) (fun c0=>some (.error c0)) else (balance_fail_p n (decide (8 < a1)) (2:Int)).bind fun p0=>exc p0 (fun t0=>some (.ok (⟨a0,a1⟩:Tcount))) (fun d0=>some (.error d0)))) (fun b0=>some (.error b0))
theorem balance_counted_c (n:Nat) (L:List Nat) (w:World) (hL:∀ b ∈ L,b < w.heap.size) (a0:TRoll) {v0_3:Value} (h0_3:Rep.R w L [v0_3] a0.fu) (a1:Int)  {r:Except Tbroken Tcount} (h:balance_counted_p n a0 a1 = some r) :
    Calls Tryz.prog 38 #[.agg #[vI a0.fj,vI a0.fh,vI a0.fl,v0_3],vI a1] w (PGives w (fun (y:Tcount) w' u=>∃ v0_3:Value,u = .agg #[vI y.fv.fj,vI y.fv.fh,vI y.fv.fl,v0_3,vI y.fk]∧Rep.R w' L [v0_3] y.fv.fu) (fun e=>.iface 131 (.agg #[vI e.fB])) r):=by
 unfold balance_counted_p at h
 have hS0:=Ay w
 refine BE Tryz.func38 rfl rfl rfl (fun _ cs0 hb0 hp0=>?_)
 refine Ac<|Ai .plain rfl (Av hS0 rfl rfl) (fun j1 M0 v0 X0=>?_)
 refine Ai .plain rfl (Ar [vI 0,vI 0,vI 0,vN,vI 0] v0) (fun k1 P0 b0 Y0=>?_)
 refine Aa<|Ac<|Ab (AA rfl (b0.memA (.tl .hd))) ?_
 obtain ⟨g0,F0,h⟩:=bi h
 refine Bg (vI g0) body80 rfl (e1 rfl) (fun w9 hw9=>units_CheckRoll_c n _ w9 (b0.hL0 hL hw9) a0 (b0.k0 h0_3 hw9) F0) rfl ?_
 obtain ⟨G0,q0,h⟩:=bi h
 rcases G0 with U0 | v1
 have h:=exc_e h
 try dsimp only at h
 refine Bt (fst:=[]) (cap:=[]) .plain body79 rfl (e1 rfl) (fun w9 hw9=>balance_need_c n _ w9 (b0.hL0 hL hw9) g0 q0) (fun p1 A0=>?_)
 obtain ⟨x0,Z0⟩:=b0.agr A0
 cases h
 exact AP hp0 Tryz.func38 ⟨x0.ag,rfl⟩
 have h:=exc_o h
 try dsimp only at h
 refine Bg (.tuple #[]) body79 rfl (e1 rfl) (fun w9 hw9=>AK (balance_need_c n _ w9 (b0.hL0 hL hw9) g0 q0)) rfl<|Aa<|Ac<|Ae rfl<|Ab (FV.lss (i:=a1) (j:=1) rfl rfl)<|Ae rfl<|RG.ifd (s:=10) rfl h (fun u0 h=>?_) (fun u0 h=>?_)
 refine AI<|AI<|BI rfl rfl ?_
 obtain ⟨H0,s0,h⟩:=bi h
 rcases H0 with V0 | x1
 have h:=exc_e h
 try dsimp only at h
 refine Bt (fst:=[]) (cap:=[]) .plain body81 rfl (e2 rfl rfl) (fun w9 hw9=>balance_fail_c n _ w9 (b0.hL0 hL hw9) true (2:Int) s0) (fun q1 B0=>?_)
 obtain ⟨y0,b1⟩:=b0.agr B0
 cases h
 exact AP hp0 Tryz.func38 ⟨y0.ag,rfl⟩
 have h:=exc_o h
 try dsimp only at h
 refine Bg (.tuple #[]) body81 rfl (e2 rfl rfl) (fun w9 hw9=>AK (balance_fail_c n _ w9 (b0.hL0 hL hw9) true (2:Int) s0)) rfl<|Aa<|Ac<|Ab (AA rfl (b0.memA (.tl .hd)))<|Ae rfl ?_
 have j0:=AO h0_3 b0
 obtain ⟨J0,Q0,D0,_⟩:=Rep.sl j0
 refine Ab (AM (vs:=[.agg #[vI a0.fj,vI a0.fh,vI a0.fl,v0_3],vI a1]) (u:=.agg #[vI a0.fj,vI a0.fh,vI a0.fl,v0_3,vI a1]) (e2 rfl rfl) (fun w9=>by rw [D0]; try kernel_rfl))<|AJ [vI a0.fj,vI a0.fh,vI a0.fl,v0_3,vI a1] b0 .hd (o5 rfl rfl rfl (AN j0) rfl) (fun s1 c0 c1=>?_)
 refine Aa<|Al rfl<|Am hb0 Tryz.func38 rfl (.cons (.many (cs:=[vI a0.fj,vI a0.fh,vI a0.fl,v0_3,vI a1]) (by kernel_rfl) rfl (c0.memA .hd)) .nil) rfl ?_
 cases h
 exact ⟨c0.ag,fun w9 hw9=>okOf_in ⟨v0_3,rfl,c0.k0 h0_3 hw9⟩⟩
 refine AS (Ak rfl)<|AS (FV.gtr (i:=a1) (j:=8) rfl rfl)<|RG.pf rfl rfl ?_
 obtain ⟨I0,t0,h⟩:=bi h
 rcases I0 with W0 | y1
 have h:=exc_e h
 try dsimp only at h
 refine Bt (fst:=[]) (cap:=[]) .plain body81 rfl (e2 rfl rfl) (fun w9 hw9=>balance_fail_c n _ w9 (b0.hL0 hL hw9) (decide (8 < a1)) (2:Int) t0) (fun t1 C0=>?_)
 obtain ⟨z0,d1⟩:=b0.agr C0
 cases h
 exact AP hp0 Tryz.func38 ⟨z0.ag,rfl⟩
 have h:=exc_o h
 try dsimp only at h
 refine Bg (.tuple #[]) body81 rfl (e2 rfl rfl) (fun w9 hw9=>AK (balance_fail_c n _ w9 (b0.hL0 hL hw9) (decide (8 < a1)) (2:Int) t0)) rfl<|Aa<|Ac<|Ab (AA rfl (b0.memA (.tl .hd)))<|Ae rfl ?_
 have p0:=AO h0_3 b0
 obtain ⟨K0,R0,E0,_⟩:=Rep.sl p0
 refine Ab (AM (vs:=[.agg #[vI a0.fj,vI a0.fh,vI a0.fl,v0_3],vI a1]) (u:=.agg #[vI a0.fj,vI a0.fh,vI a0.fl,v0_3,vI a1]) (e2 rfl rfl) (fun w9=>by rw [E0]; try kernel_rfl))<|AJ [vI a0.fj,vI a0.fh,vI a0.fl,v0_3,vI a1] b0 .hd (o5 rfl rfl rfl (AN p0) rfl) (fun u1 d0 g1=>?_)
 refine Aa<|Al rfl<|Am hb0 Tryz.func38 rfl (.cons (.many (cs:=[vI a0.fj,vI a0.fh,vI a0.fl,v0_3,vI a1]) (by kernel_rfl) rfl (d0.memA .hd)) .nil) rfl ?_
 cases h
 exact ⟨d0.ag,fun w9 hw9=>okOf_in ⟨v0_3,rfl,d0.k0 h0_3 hw9⟩⟩
theorem balance_count_land_c (n:Nat) (L:List Nat) (w:World) (_hL:∀ b ∈ L,b < w.heap.size) (a0:Tcount) {v0_3:Value} (h0_3:Rep.R w L [v0_3] a0.fv.fu)  :
    Calls Tryz.prog 83 #[.agg #[vI a0.fv.fj,vI a0.fv.fh,vI a0.fv.fl,v0_3,vI a0.fk]] w (Gives w fun w' u=>∃ b0:Nat,u = .func (.func 112) #[] #[vP b0]∧St w w' [.cells b0 [vI a0.fv.fj,vI a0.fv.fh,vI a0.fv.fl,v0_3,vI a0.fk] 92]):=by
 have hS0:=Ay w
 refine AD Tryz.func83 rfl rfl rfl (fun _ cs0 hb0=>?_)
 refine Ac<|Ai .plain rfl (Av hS0 rfl rfl) (fun g0 b0 c0 d0=>?_)
 refine Af rfl<|Aa<|Ac<|Ab (BF (vs:=[]) (us:=[vP b0]) evs_nil (e1 rfl))<|Af rfl<|Aa<|Al rfl<|Am (u:=.func (.func 112) #[] #[vP b0]) hb0 Tryz.func83 rfl (.cons (.tmp rfl) .nil) rfl ?_
 exact ⟨c0.ag,fun w9 hw9=>⟨b0,rfl,c0.agree hw9⟩⟩
theorem body83:bodyB Tryz.prog 83 = true:=by kernel_rfl
theorem body112:bodyB Tryz.prog 112 = true:=by kernel_rfl
def balance_count_check_l1 (n:Nat) (a1:List Int) (a0:Tcount) (g0:Nat × (List (Int × Bool)) → Option ((Except Tbroken Unit) ⊕ (List (Int × Bool)))):Nat × (List (Int × Bool)) → Option ((Except Tbroken Unit) ⊕ (List (Int × Bool)))
  | (b0,d0)=>(if b0 < a1.length then (a1[b0]?).bind fun c0=>(if c0 < 0 then (balance_fail_p n true (220:Int)).bind fun p0=>exc p0 (fun s0=>g0 (b0 + 1,mset d0 c0 true)) (fun j0=>some (.inl (.error j0))) else (balance_fail_p n (decide (a0.fk ≤ c0)) (220:Int)).bind fun q0=>exc q0 (fun t0=>g0 (b0 + 1,mset d0 c0 true)) (fun k0=>some (.inl (.error k0)))) else some (.inr d0))
def balance_count_check_l2 (n:Nat) (a1:List Int) (a0:Tcount) (g0:Nat × (List (Int × Bool)) → Option ((Except Tbroken Unit) ⊕ (List (Int × Bool)))):Nat × (List (Int × Bool)) → Option ((Except Tbroken Unit) ⊕ (List (Int × Bool)))
  | (b0,d0)=>(if b0 < a1.length then (a1[b0]?).bind fun c0=>(if c0 < 0 then (balance_fail_p n true (220:Int)).bind fun p0=>exc p0 (fun s0=>g0 (b0 + 1,mset d0 c0 true)) (fun j0=>some (.inl (.error j0))) else (balance_fail_p n (decide (a0.fk ≤ c0)) (220:Int)).bind fun q0=>exc q0 (fun t0=>g0 (b0 + 1,mset d0 c0 true)) (fun k0=>some (.inl (.error k0)))) else some (.inr d0))
def balance_count_check_l3 (n:Nat) (a0:Tcount) (a1:List Int) (g0:Nat × Int → Option ((Except Tbroken Unit) ⊕ Int)):Nat × Int → Option ((Except Tbroken Unit) ⊕ Int)
  | (b0,c0)=>(if b0 < a0.fv.fu.length then (a0.fv.fu[b0]?).bind fun q0=>(if q0.fq = true then ((balance_fail_p n (!(decide (((a1.length:Nat):Int) = c0))) (220:Int)).bind fun s0=>exc s0 (fun u0=>thn (loopF (balance_count_check_l1 n a1 a0) n (0,([]:List (Int × Bool)))) (fun d0=>(balance_fail_p n (!(decide (((d0.length:Nat):Int) = a0.fk))) (220:Int)).bind fun t0=>exc t0 (fun v0=>some (.ok ())) (fun k0=>some (.error k0)))) (fun j0=>some (.error j0))).map .inl else (chk (c0 + 1)).bind fun p0=>g0 (b0 + 1,p0)) else some (.inr c0))
def balance_count_check_p (n:Nat) (a0:Tcount) (a1:List Int):Option (Except Tbroken Unit):=
  thn (loopF (balance_count_check_l3 n a0 a1) n (0,0)) (fun k0=>(balance_fail_p n (!(decide (((a1.length:Nat):Int) = k0))) (220:Int)).bind fun g0=>exc g0 (fun p0=>thn (loopF (balance_count_check_l2 n a1 a0) n (0,([]:List (Int × Bool)))) (fun b0=>(balance_fail_p n (!(decide (((b0.length:Nat):Int) = a0.fk))) (220:Int)).bind fun j0=>exc j0 (fun q0=>some (.ok ())) (fun d0=>some (.error d0)))) (fun c0=>some (.error c0)))
theorem balance_count_check_c (n:Nat) (L:List Nat) (w:World) (hL:∀ b ∈ L,b < w.heap.size) (a0:Tcount) {v0_3:Value} (h0_3:Rep.R w L [v0_3] a0.fv.fu) (a1:List Int) {v1_0:Value} (h1_0:Rep.R w L [v1_0] a1)  {r:Except Tbroken Unit} (h:balance_count_check_p n a0 a1 = some r) :
    Calls Tryz.prog 82 #[.agg #[vI a0.fv.fj,vI a0.fv.fh,vI a0.fv.fl,v0_3,vI a0.fk],v1_0] w (PGives w (fun (y:Unit) _ u=>u = .tuple #[]) (fun e=>.iface 131 (.agg #[vI e.fB])) r):=by
 unfold balance_count_check_p at h
 have hS0:=Ay w
 refine BE Tryz.func82 rfl rfl rfl (fun _ cs0 hb0 hp0=>?_)
 refine Ac<|Ai .plain rfl (Av hS0 rfl rfl) (fun U6 k0 R1 A5=>?_)
 refine Aa<|Ac<|Ai .plain rfl (Ar [vI 0] R1) (fun V6 H0 V1 D5=>?_)
 refine AJ [vI 0] V1 .hd (o1 rfl) (fun E4 C0 I5=>?_)
 refine Aa<|Aj<|Ac<|Ab (AA rfl (C0.memA (.tl .hd)))<|Bf (fst:=[]) (cap:=[]) .plain body83 rfl (e1 rfl) (fun w9 hw9=>Calls.gives (balance_count_land_c n _ w9 (C0.hL hL hw9) a0 (C0.km h0_3 hw9)) fun (w8:World) (u8:Value) ⟨b0_,hu_,s_⟩=>(⟨b0_,hu_,s_.from hw9⟩:∃ x0:Nat,u8 = Value.func (.func 112) #[] #[vP x0]∧St E4 w8 [.cells x0 [vI a0.fv.fj,vI a0.fv.fh,vI a0.fv.fl,v0_3,vI a0.fk] 92])) rfl (fun c7 R6 F6 ⟨x0,y4,A1⟩=>?_)
 subst y4
 have j2:=mk_push1 C0 A1
 have R5:=mk_tr1 C0 A1
 refine Aa<|Az<|MX.rangeP (lb:=[vP x0]) rfl j2 rfl body112 Tryz.func112 rfl rfl rfl (fun F4 G0 t0 P0 p5 J0 c6 C4 d1 K6=>?_)
 refine Ac<|AZ 0 rfl<|AZ 3 rfl<|Ab (AL rfl ((mem_from (J0.memA (.tl (.tl .hd))) 0) 3 _ rfl)) ?_
 have p1:=AO h0_3 J0
 have I6:a0.fv.fu.length ≤ 281474976710656:=AU p1
 refine Ab (Bd (xs:=a0.fv.fu) Tryz.underlying36 rfl p1)<|Ae rfl<|Aa<|Az ?_
 obtain ⟨M6,d4,g1⟩:=thn_in h
 refine Bm (α:=Nat × Int) (fun ⟨s0,d0⟩=>[(0,.func (.yield G0) #[] #[]),(7,v0_3),(8,vI ((a0.fv.fu.length:Nat):Int)),(9,vI ((s0:Nat):Int))]) (fun ⟨s0,d0⟩ Q0=>St w Q0 [.obj G0 (lpO P0 .ready none),.obj t0 (.deferred (some [])),.cells x0 [vI a0.fv.fj,vI a0.fv.fh,vI a0.fv.fl,v0_3,vI a0.fk] 92,.cells H0 [vI d0] 3,.cells k0 [vI a0.fv.fj,vI a0.fv.fh,vI a0.fv.fl,v0_3,vI a0.fk] 92]∧Tr F4 [.obj G0 (lpO P0 .ready none),.obj t0 (.deferred (some [])),.cells x0 [vI a0.fv.fj,vI a0.fv.fh,vI a0.fv.fl,v0_3,vI a0.fk] 92,.cells H0 [vI 0] 3,.cells k0 [vI a0.fv.fj,vI a0.fv.fh,vI a0.fv.fl,v0_3,vI a0.fk] 92] Q0 [.obj G0 (lpO P0 .ready none),.obj t0 (.deferred (some [])),.cells x0 [vI a0.fv.fj,vI a0.fv.fh,vI a0.fv.fl,v0_3,vI a0.fk] 92,.cells H0 [vI d0] 3,.cells k0 [vI a0.fv.fj,vI a0.fv.fh,vI a0.fv.fl,v0_3,vI a0.fk] 92]) (fun ⟨s0,d0⟩=>(s0,d0)) (0,0) d4 ⟨rfl,rfl,rfl,rfl,trivial⟩ ⟨J0,AQ _ _⟩ ?_
 rintro X4 ⟨s0,d0⟩ Q0 Q1 ⟨I0,b3⟩ h
 unfold balance_count_check_l3 at h
 try dsimp only at h
 refine Ac<|Ab (Br (i:=s0) (j:=a0.fv.fu.length) rfl rfl)<|Aa<|Aj<|AV rfl h (fun F1 h=>?_) (fun F1 h=>?_)
 refine Au<|Aj<|Az<|Ac<|Ae rfl ?_
 obtain ⟨A0,z4,h⟩:=bi h
 have Q3:=AO h0_3 I0
 obtain ⟨U4,c5,E3,J3,j5,p4,P3⟩:=Bk Q3 z4
 obtain ⟨C1,D1,E1,rfl,q4,s4,t4⟩:=op_TUnit p4
 refine Ab (Bp 6 s0 rfl E3 rfl rfl J3)<|Ab (AA rfl P3)<|Ai .plain rfl (Ar [.string ⟨#[]⟩,vI 0,vN,vN,vN,.bool false] I0) (fun W6 b5 U1 F0=>?_)
 refine Af rfl ?_
 have R3:=Aq q4 F0
 have U3:=Aq s4 F0
 have V3:=Aq t4 F0
 refine AJ [.string A0.fC,vI A0.fA,C1,D1,E1,.bool A0.fq] U1 .hd (o6 rfl rfl (AN R3) (AN U3) (AN V3) rfl) (fun X6 B0 c3=>?_)
 refine Aa<|Ac<|AZ 5 rfl<|AY rfl ((B0.memA .hd) 5 _ rfl)<|Ae rfl<|RG.ifb (s:=16) rfl h (fun G1 h=>?_) (fun G1 h=>?_)
 refine AI<|AI<|AI<|AI<|AI<|BI rfl rfl<|Aa<|Bh rfl ?_
 have h:=thn_map h g1
 refine Al rfl<|Am (u:=.tuple #[]) d1 Tryz.func112 rfl .nil rfl<|MX.endRange0 B0 (.tl .hd) (by intro h9; cases h9) (fun Y6 W1 B5=>?_)
 obtain ⟨y0,C5⟩:=AG W1 (.one .hd (.one (.tl .hd) (.one (.tl .hd) (.one (.tl .hd) (.one (.tl .hd) .done)))))
 refine AB<|Ac<|Ae rfl ?_
 have j1:=AO h1_0 y0
 have G6:a1.length ≤ 281474976710656:=AU j1
 refine Ab (Bd (xs:=a1) Tryz.underlying33 rfl j1)<|Ab (AL rfl ((y0.memA (.tl (.tl (.tl .hd)))) 0 _ rfl))<|Ab (FV.neq (i:=((a1.length:Nat):Int)) (j:=d0) rfl rfl) ?_
 obtain ⟨H4,q1,h⟩:=bi h
 rcases H4 with q5 | M7
 have h:=exc_e h
 try dsimp only at h
 refine Bt (fst:=[]) (cap:=[]) .plain body81 rfl (e2 rfl rfl) (fun w9 hw9=>balance_fail_c n _ w9 (y0.hL0 hL hw9) (!(decide (((a1.length:Nat):Int) = d0))) (220:Int) q1) (fun Z6 u3=>?_)
 obtain ⟨X1,E5⟩:=y0.agr u3
 refine PN.take X1 (.tl .hd) (fun b7 Y1 F5=>?_)
 obtain ⟨Z1,G5⟩:=AG Y1 (.one .hd (.one (.tl .hd) (.one (.tl .hd) (.one (.tl .hd) .done))))
 cases h
 exact AP hp0 Tryz.func82 ⟨Z1.ag,rfl⟩
 have h:=exc_o h
 try dsimp only at h
 refine Bg (.tuple #[]) body81 rfl (e2 rfl rfl) (fun w9 hw9=>AK (balance_fail_c n _ w9 (y0.hL0 hL hw9) (!(decide (((a1.length:Nat):Int) = d0))) (220:Int) q1)) rfl<|Aa<|Ac<|Ai .plain rfl (Does.makeMap (κ:=Int) (ν:=Bool) y0) (fun D4 D0 X0 H5=>?_)
 refine Af rfl<|Aa<|Aj<|Ac<|Ae rfl ?_
 have W3:=AO h1_0 X0
 refine Ab (Bd (xs:=a1) Tryz.underlying33 rfl W3)<|Ae rfl<|Aa<|Az ?_
 obtain ⟨b2,J5⟩:=AG X0 (.one .hd (.one (.tl .hd) (.one (.tl (.tl (.tl .hd))) .done)))
 obtain ⟨P6,g4,K0⟩:=thn_in h
 refine Bm (α:=Nat × (List (Int × Bool))) (fun ⟨p0,g0⟩=>[(2,vP k0),(5,.map (some D0)),(20,v1_0),(21,vI ((a1.length:Nat):Int)),(22,vI ((p0:Nat):Int))]) (fun ⟨p0,g0⟩ R0=>St w R0 [.obj D0 (mapO (g0:List (Int × Bool))),.obj t0 (.deferred (some [])),.cells k0 [vI a0.fv.fj,vI a0.fv.fh,vI a0.fv.fl,v0_3,vI a0.fk] 92]∧Tr D4 [.obj D0 (mapO ([]:List (Int × Bool))),.obj t0 (.deferred (some [])),.cells k0 [vI a0.fv.fj,vI a0.fv.fh,vI a0.fv.fl,v0_3,vI a0.fk] 92] R0 [.obj D0 (mapO (g0:List (Int × Bool))),.obj t0 (.deferred (some [])),.cells k0 [vI a0.fv.fj,vI a0.fv.fh,vI a0.fv.fl,v0_3,vI a0.fk] 92]) (fun ⟨p0,g0⟩=>(p0,g0)) (0,([]:List (Int × Bool))) g4 ⟨rfl,rfl,rfl,rfl,rfl,trivial⟩ ⟨b2,AQ _ _⟩ ?_
 rintro Y4 ⟨p0,g0⟩ R0 V0 ⟨b0,b1⟩ h
 unfold balance_count_check_l1 at h
 try dsimp only at h
 refine Ac<|Ab (Br (i:=p0) (j:=a1.length) rfl rfl)<|Aa<|Aj<|AV rfl h (fun H1 h=>?_) (fun H1 h=>?_)
 refine Au<|Aj<|Az<|Ac ?_
 obtain ⟨u0,A4,h⟩:=bi h
 have Y3:=AO h1_0 b0
 obtain ⟨V4,d5,F3,K3,M1,u4,X3⟩:=Bk Y3 A4
 have G3:M1 = [vI u0]:=u4; subst G3
 refine Ab (Bp 1 p0 rfl F3 rfl rfl K3)<|AY rfl (X3 0 _ rfl)<|Af rfl<|Aa<|Ac<|Ae rfl<|Ab (FV.lss (i:=u0) (j:=0) rfl rfl)<|Ae rfl<|RG.ifd (s:=28) rfl h (fun I1 h=>?_) (fun I1 h=>?_)
 refine AI<|AI<|AI<|AI<|BI rfl rfl ?_
 obtain ⟨I4,s1,h⟩:=bi h
 rcases I4 with s5 | P7
 have h:=exc_e h
 try dsimp only at h
 have h:=thn_inl h K0
 refine Bt (fst:=[]) (cap:=[]) .plain body81 rfl (e2 rfl rfl) (fun w9 hw9=>balance_fail_c n _ w9 (b0.hL0 hL hw9) true (220:Int) s1) (fun d7 v3=>?_)
 obtain ⟨c2,K5⟩:=b0.agr v3
 refine PN.take c2 (.tl .hd) (fun g7 d2 M5=>?_)
 obtain ⟨g2,P5⟩:=AG d2 (.one .hd (.one (.tl .hd) .done))
 cases h
 exact AP hp0 Tryz.func82 ⟨g2.ag,rfl⟩
 have h:=exc_o h
 try dsimp only at h
 refine Bg (.tuple #[]) body81 rfl (e2 rfl rfl) (fun w9 hw9=>AK (balance_fail_c n _ w9 (b0.hL0 hL hw9) true (220:Int) s1)) rfl<|Aa<|Ao<|Ae rfl<|Ae rfl<|BH .plain (Acts.mapUpdate (kv:=u0) (vv:=true) b0 .hd Tryz.underlying168 Tryz.underlying3 rfl rfl rfl rfl) (fun j7 k2 d3=>?_)
 refine Aa<|AB<|Ao<|Ab (Bl (i:=p0) (j:=1) rfl rfl (by omega))<|Ae rfl<|Aa ?_
 exact V0 (p0 + 1,mset g0 u0 true) _ _ ⟨rfl,rfl,rfl,rfl,rfl,trivial⟩ ⟨k2,(Tt b1 d3)⟩ h
 refine AS (Ak rfl)<|RG.fg 4 rfl<|AS (AL rfl ((b0.memA (.tl (.tl .hd))) 4 _ rfl))<|AS (FV.geq (i:=u0) (j:=a0.fk) rfl rfl)<|RG.pf rfl rfl ?_
 obtain ⟨J4,t1,h⟩:=bi h
 rcases J4 with t5 | Q7
 have h:=exc_e h
 try dsimp only at h
 have h:=thn_inl h K0
 refine Bt (fst:=[]) (cap:=[]) .plain body81 rfl (e2 rfl rfl) (fun w9 hw9=>balance_fail_c n _ w9 (b0.hL0 hL hw9) (decide (a0.fk ≤ u0)) (220:Int) t1) (fun k7 x3=>?_)
 obtain ⟨p2,Q5⟩:=b0.agr x3
 refine PN.take p2 (.tl .hd) (fun p7 q2 U5=>?_)
 obtain ⟨s2,V5⟩:=AG q2 (.one .hd (.one (.tl .hd) .done))
 cases h
 exact AP hp0 Tryz.func82 ⟨s2.ag,rfl⟩
 have h:=exc_o h
 try dsimp only at h
 refine Bg (.tuple #[]) body81 rfl (e2 rfl rfl) (fun w9 hw9=>AK (balance_fail_c n _ w9 (b0.hL0 hL hw9) (decide (a0.fk ≤ u0)) (220:Int) t1)) rfl<|Aa<|Ao<|Ae rfl<|Ae rfl<|BH .plain (Acts.mapUpdate (kv:=u0) (vv:=true) b0 .hd Tryz.underlying168 Tryz.underlying3 rfl rfl rfl rfl) (fun q7 t2 g3=>?_)
 refine Aa<|AB<|Ao<|Ab (Bl (i:=p0) (j:=1) rfl rfl (by omega))<|Ae rfl<|Aa ?_
 exact V0 (p0 + 1,mset g0 u0 true) _ _ ⟨rfl,rfl,rfl,rfl,rfl,trivial⟩ ⟨t2,(Tt b1 g3)⟩ h
 refine Be rfl ?_
 have h:=thn_inr h K0
 try dsimp only at h
 refine Ao<|Ae rfl<|Ab (FV.len_map (D:=g0) b0 .hd Tryz.underlying168 rfl)<|AZ 4 rfl<|AY rfl ((b0.memA (.tl (.tl .hd))) 4 _ rfl)<|Ab (FV.neq (i:=((g0.length:Nat):Int)) (j:=a0.fk) rfl rfl) ?_
 obtain ⟨K4,u1,h⟩:=bi h
 rcases K4 with u5 | R7
 have h:=exc_e h
 try dsimp only at h
 refine Bt (fst:=[]) (cap:=[]) .plain body81 rfl (e2 rfl rfl) (fun w9 hw9=>balance_fail_c n _ w9 (b0.hL0 hL hw9) (!(decide (((g0.length:Nat):Int) = a0.fk))) (220:Int) u1) (fun s7 y3=>?_)
 obtain ⟨u2,W5⟩:=b0.agr y3
 refine PN.take u2 (.tl .hd) (fun t7 v2 X5=>?_)
 obtain ⟨x2,Y5⟩:=AG v2 (.one .hd (.one (.tl .hd) .done))
 cases h
 exact AP hp0 Tryz.func82 ⟨x2.ag,rfl⟩
 have h:=exc_o h
 try dsimp only at h
 refine Bg (.tuple #[]) body81 rfl (e2 rfl rfl) (fun w9 hw9=>AK (balance_fail_c n _ w9 (b0.hL0 hL hw9) (!(decide (((g0.length:Nat):Int) = a0.fk))) (220:Int) u1)) rfl<|Aa<|MX.fin rfl<|RT.take b0 (.tl .hd) (fun u7 y2 Z5=>?_)
 obtain ⟨z2,b6⟩:=AG y2 (.one .hd (.one (.tl .hd) .done))
 refine Am hb0 Tryz.func82 rfl .nil rfl ?_
 cases h
 exact ⟨z2.ag,fun w9 hw9=>okOf_in rfl⟩
 refine AS (Ak rfl)<|AS (Ak rfl)<|AS (AA rfl (B0.memA .hd))<|RG.yieldP (fd:=82) (vs:=[vI ((s0:Nat):Int),.agg #[.string A0.fC,vI A0.fA,C1,D1,E1,.bool A0.fq]]) (.yes rfl rfl) rfl (e2 rfl rfl) B0 (.tl .hd) C4 rfl rfl rfl (fun k5 D3 J6=>?_)
 refine Au<|MX.begin B0 (.tl .hd) (fun v7 Y0 j3=>?_)
 refine Az<|Ao<|Ab (AL rfl ((Y0.memA (.tl (.tl (.tl (.tl .hd))))) 0 _ rfl)) ?_
 obtain ⟨B1,x4,h⟩:=bi h
 refine Ab (BD (i:=d0) (j:=1) rfl rfl x4)<|AJ [vI B1] Y0 (.tl (.tl (.tl (.tl .hd)))) (o1 rfl) (fun x7 A2 k3=>?_)
 refine Aa<|AB<|MX.roundEnd D3 A2 (.tl .hd) (fun y7 B2 p3=>?_)
 refine AS (BG rfl)<|RG.pf rfl rfl<|Aa<|BB rfl<|Au<|AB<|Ao<|Ab (Bl (i:=s0) (j:=1) rfl rfl (by omega))<|Ae rfl<|Aa ?_
 obtain ⟨C2,q3⟩:=AG B2 (.one (.tl .hd) (.one (.tl .hd) (.one (.tl .hd) (.one (.tl .hd) (.one (.tl .hd) .done)))))
 have k4:=Tt F0 (Tt c3 (Tt j3 (Tt k3 (Tt p3 q3))))
 exact Q1 (s0 + 1,B1) _ _ ⟨rfl,rfl,rfl,rfl,trivial⟩ ⟨C2,(Tt b3 k4)⟩ h
 refine Be rfl ?_
 have h:=thn_inr h g1
 try dsimp only at h
 refine MX.fin rfl<|Am (u:=.tuple #[]) d1 Tryz.func112 rfl .nil rfl<|MX.endRange0 I0 .hd (by intro h9; cases h9) (fun z7 D2 d6=>?_)
 obtain ⟨z0,g6⟩:=AG D2 (.one (.tl .hd) (.one (.tl .hd) (.one (.tl .hd) (.one (.tl .hd) .done))))
 refine AB<|Ac<|Ae rfl ?_
 have k1:=AO h1_0 z0
 have H6:a1.length ≤ 281474976710656:=AU k1
 refine Ab (Bd (xs:=a1) Tryz.underlying33 rfl k1)<|AY rfl ((z0.memA (.tl (.tl .hd))) 0 _ rfl)<|Ab (FV.neq (i:=((a1.length:Nat):Int)) (j:=d0) rfl rfl) ?_
 obtain ⟨M4,v1,h⟩:=bi h
 rcases M4 with v5 | U7
 have h:=exc_e h
 try dsimp only at h
 refine Bt (fst:=[]) (cap:=[]) .plain body81 rfl (e2 rfl rfl) (fun w9 hw9=>balance_fail_c n _ w9 (z0.hL0 hL hw9) (!(decide (((a1.length:Nat):Int) = d0))) (220:Int) v1) (fun A7 z3=>?_)
 obtain ⟨E2,j6⟩:=z0.agr z3
 refine PN.take E2 .hd (fun B7 F2 k6=>?_)
 obtain ⟨G2,p6⟩:=AG F2 (.one (.tl .hd) (.one (.tl .hd) (.one (.tl .hd) .done)))
 cases h
 exact AP hp0 Tryz.func82 ⟨G2.ag,rfl⟩
 have h:=exc_o h
 try dsimp only at h
 refine Bg (.tuple #[]) body81 rfl (e2 rfl rfl) (fun w9 hw9=>AK (balance_fail_c n _ w9 (z0.hL0 hL hw9) (!(decide (((a1.length:Nat):Int) = d0))) (220:Int) v1)) rfl<|Aa<|Ac<|Ai .plain rfl (Does.makeMap (κ:=Int) (ν:=Bool) z0) (fun G4 E0 Z0 q6=>?_)
 refine Af rfl<|Aa<|Aj<|Ac<|Ae rfl ?_
 have Z3:=AO h1_0 Z0
 refine Ab (Bd (xs:=a1) Tryz.underlying33 rfl Z3)<|Ae rfl<|Aa<|Az ?_
 obtain ⟨H2,s6⟩:=AG Z0 (.one .hd (.one .hd (.one (.tl (.tl .hd)) .done)))
 obtain ⟨Q6,j4,M0⟩:=thn_in h
 refine Bm (α:=Nat × (List (Int × Bool))) (fun ⟨q0,j0⟩=>[(2,vP k0),(5,.map (some E0)),(20,v1_0),(21,vI ((a1.length:Nat):Int)),(22,vI ((q0:Nat):Int))]) (fun ⟨q0,j0⟩ U0=>St w U0 [.obj E0 (mapO (j0:List (Int × Bool))),.obj t0 (.deferred (some [])),.cells k0 [vI a0.fv.fj,vI a0.fv.fh,vI a0.fv.fl,v0_3,vI a0.fk] 92]∧Tr G4 [.obj E0 (mapO ([]:List (Int × Bool))),.obj t0 (.deferred (some [])),.cells k0 [vI a0.fv.fj,vI a0.fv.fh,vI a0.fv.fl,v0_3,vI a0.fk] 92] U0 [.obj E0 (mapO (j0:List (Int × Bool))),.obj t0 (.deferred (some [])),.cells k0 [vI a0.fv.fj,vI a0.fv.fh,vI a0.fv.fl,v0_3,vI a0.fk] 92]) (fun ⟨q0,j0⟩=>(q0,j0)) (0,([]:List (Int × Bool))) j4 ⟨rfl,rfl,rfl,rfl,rfl,trivial⟩ ⟨H2,AQ _ _⟩ ?_
 rintro Z4 ⟨q0,j0⟩ U0 W0 ⟨c0,c1⟩ h
 unfold balance_count_check_l2 at h
 try dsimp only at h
 refine Ac<|Ab (Br (i:=q0) (j:=a1.length) rfl rfl)<|Aa<|Aj<|AV rfl h (fun J1 h=>?_) (fun J1 h=>?_)
 refine Au<|Aj<|Az<|Ac ?_
 obtain ⟨v0,B4,h⟩:=bi h
 have c4:=AO h1_0 c0
 obtain ⟨W4,g5,H3,M3,P1,v4,b4⟩:=Bk c4 B4
 have I3:P1 = [vI v0]:=v4; subst I3
 refine Ab (Bp 1 q0 rfl H3 rfl rfl M3)<|AY rfl (b4 0 _ rfl)<|Af rfl<|Aa<|Ac<|Ae rfl<|Ab (FV.lss (i:=v0) (j:=0) rfl rfl)<|Ae rfl<|RG.ifd (s:=28) rfl h (fun K1 h=>?_) (fun K1 h=>?_)
 refine AI<|AI<|AI<|AI<|BI rfl rfl ?_
 obtain ⟨P4,x1,h⟩:=bi h
 rcases P4 with x5 | V7
 have h:=exc_e h
 try dsimp only at h
 have h:=thn_inl h M0
 refine Bt (fst:=[]) (cap:=[]) .plain body81 rfl (e2 rfl rfl) (fun w9 hw9=>balance_fail_c n _ w9 (c0.hL0 hL hw9) true (220:Int) x1) (fun C7 A3=>?_)
 obtain ⟨I2,t6⟩:=c0.agr A3
 refine PN.take I2 (.tl .hd) (fun D7 J2 u6=>?_)
 obtain ⟨K2,v6⟩:=AG J2 (.one .hd (.one (.tl .hd) .done))
 cases h
 exact AP hp0 Tryz.func82 ⟨K2.ag,rfl⟩
 have h:=exc_o h
 try dsimp only at h
 refine Bg (.tuple #[]) body81 rfl (e2 rfl rfl) (fun w9 hw9=>AK (balance_fail_c n _ w9 (c0.hL0 hL hw9) true (220:Int) x1)) rfl<|Aa<|Ao<|Ae rfl<|Ae rfl<|BH .plain (Acts.mapUpdate (kv:=v0) (vv:=true) c0 .hd Tryz.underlying168 Tryz.underlying3 rfl rfl rfl rfl) (fun E7 M2 s3=>?_)
 refine Aa<|AB<|Ao<|Ab (Bl (i:=q0) (j:=1) rfl rfl (by omega))<|Ae rfl<|Aa ?_
 exact W0 (q0 + 1,mset j0 v0 true) _ _ ⟨rfl,rfl,rfl,rfl,rfl,trivial⟩ ⟨M2,(Tt c1 s3)⟩ h
 refine AS (Ak rfl)<|RG.fg 4 rfl<|AS (AL rfl ((c0.memA (.tl (.tl .hd))) 4 _ rfl))<|AS (FV.geq (i:=v0) (j:=a0.fk) rfl rfl)<|RG.pf rfl rfl ?_
 obtain ⟨Q4,y1,h⟩:=bi h
 rcases Q4 with y5 | W7
 have h:=exc_e h
 try dsimp only at h
 have h:=thn_inl h M0
 refine Bt (fst:=[]) (cap:=[]) .plain body81 rfl (e2 rfl rfl) (fun w9 hw9=>balance_fail_c n _ w9 (c0.hL0 hL hw9) (decide (a0.fk ≤ v0)) (220:Int) y1) (fun F7 B3=>?_)
 obtain ⟨P2,x6⟩:=c0.agr B3
 refine PN.take P2 (.tl .hd) (fun G7 Q2 y6=>?_)
 obtain ⟨R2,z6⟩:=AG Q2 (.one .hd (.one (.tl .hd) .done))
 cases h
 exact AP hp0 Tryz.func82 ⟨R2.ag,rfl⟩
 have h:=exc_o h
 try dsimp only at h
 refine Bg (.tuple #[]) body81 rfl (e2 rfl rfl) (fun w9 hw9=>AK (balance_fail_c n _ w9 (c0.hL0 hL hw9) (decide (a0.fk ≤ v0)) (220:Int) y1)) rfl<|Aa<|Ao<|Ae rfl<|Ae rfl<|BH .plain (Acts.mapUpdate (kv:=v0) (vv:=true) c0 .hd Tryz.underlying168 Tryz.underlying3 rfl rfl rfl rfl) (fun H7 U2 t3=>?_)
 refine Aa<|AB<|Ao<|Ab (Bl (i:=q0) (j:=1) rfl rfl (by omega))<|Ae rfl<|Aa ?_
 exact W0 (q0 + 1,mset j0 v0 true) _ _ ⟨rfl,rfl,rfl,rfl,rfl,trivial⟩ ⟨U2,(Tt c1 t3)⟩ h
 refine Be rfl ?_
 have h:=thn_inr h M0
 try dsimp only at h
 refine Ao<|Ae rfl<|Ab (FV.len_map (D:=j0) c0 .hd Tryz.underlying168 rfl)<|AZ 4 rfl<|AY rfl ((c0.memA (.tl (.tl .hd))) 4 _ rfl)<|Ab (FV.neq (i:=((j0.length:Nat):Int)) (j:=a0.fk) rfl rfl) ?_
 obtain ⟨R4,z1,h⟩:=bi h
 rcases R4 with z5 | X7
 have h:=exc_e h
 try dsimp only at h
 refine Bt (fst:=[]) (cap:=[]) .plain body81 rfl (e2 rfl rfl) (fun w9 hw9=>balance_fail_c n _ w9 (c0.hL0 hL hw9) (!(decide (((j0.length:Nat):Int) = a0.fk))) (220:Int) z1) (fun I7 C3=>?_)
 obtain ⟨V2,A6⟩:=c0.agr C3
 refine PN.take V2 (.tl .hd) (fun J7 W2 B6=>?_)
 obtain ⟨X2,C6⟩:=AG W2 (.one .hd (.one (.tl .hd) .done))
 cases h
 exact AP hp0 Tryz.func82 ⟨X2.ag,rfl⟩
 have h:=exc_o h
 try dsimp only at h
 refine Bg (.tuple #[]) body81 rfl (e2 rfl rfl) (fun w9 hw9=>AK (balance_fail_c n _ w9 (c0.hL0 hL hw9) (!(decide (((j0.length:Nat):Int) = a0.fk))) (220:Int) z1)) rfl<|Aa<|MX.fin rfl<|RT.take c0 (.tl .hd) (fun K7 Y2 D6=>?_)
 obtain ⟨Z2,E6⟩:=AG Y2 (.one .hd (.one (.tl .hd) .done))
 refine Am hb0 Tryz.func82 rfl .nil rfl ?_
 cases h
 exact ⟨Z2.ag,fun w9 hw9=>okOf_in rfl⟩
def tb39_6:List (Nat × Nat × Nat):=[(0,262144,32),(0,524288,8),(0,1048576,64),(6,2097152,1572864),(8,4194304,2097152),(17,8388608,4456448),(32,16777216,8388608),(0,33554432,128),(128,67108864,33554432),(320,134217728,83886080),(1023,268435456,4456448),(2047,0,402653184)]
theorem el32:ElT Tryz.prog 32 3 (Rep.size Int) 8 (vI 0) [vI 0]:=⟨Tryz.underlying32,by kernel_rfl,rfl,rfl,rfl,rfl⟩
theorem body82:bodyB Tryz.prog 82 = true:=by kernel_rfl
def balance_count_totals_l1 (_n:Nat) (a0:Tcount) (a1:List Int) (j0:Nat × (List Int) → Option ((Except Tbroken (List Int)) ⊕ (List Int))):Nat × (List Int) → Option ((Except Tbroken (List Int)) ⊕ (List Int))
  | (b0,c0)=>(if b0 < a0.fv.fu.length then (a0.fv.fu[b0]?).bind fun d0=>(if d0.fq = true then some (.inl (.ok c0)) else (a1[b0]?).bind fun g0=>(idx c0 g0).bind fun p0=>(chk (p0 + d0.fA)).bind fun k0=>(put c0 ((g0.toNat:Nat):Int) k0).bind fun q0=>j0 (b0 + 1,q0)) else some (.inr c0))
def balance_count_totals_p (n:Nat) (a0:Tcount) (a1:List Int):Option (Except Tbroken (List Int)):=
  (balance_count_check_p n a0 a1).bind fun g0=>exc g0 (fun j0=>(mk a0.fk (0:Int)).bind fun d0=>thn (loopF (balance_count_totals_l1 n a0 a1) n (0,d0)) (fun c0=>some (.ok c0))) (fun b0=>some (.error b0))
theorem balance_count_totals_c (n:Nat) (L:List Nat) (w:World) (hL:∀ b ∈ L,b < w.heap.size) (a0:Tcount) {v0_3:Value} (h0_3:Rep.R w L [v0_3] a0.fv.fu) (a1:List Int) {v1_0:Value} (h1_0:Rep.R w L [v1_0] a1)  {r:Except Tbroken (List Int)} (h:balance_count_totals_p n a0 a1 = some r) :
    Calls Tryz.prog 39 #[.agg #[vI a0.fv.fj,vI a0.fv.fh,vI a0.fv.fl,v0_3,vI a0.fk],v1_0] w (PGives w (fun (y:List Int) w' u=>∃ v0_0:Value,u = v0_0∧Rep.R w' L [v0_0] y) (fun e=>.iface 131 (.agg #[vI e.fB])) r):=by
 unfold balance_count_totals_p at h
 have hS0:=Ay w
 refine BE Tryz.func39 rfl rfl rfl (fun _ cs0 hb0 hp0=>?_)
 refine Ac<|Ai .plain rfl (Av hS0 rfl rfl) (fun R4 B0 d1 B4=>?_)
 have Z2:=AO h1_0 d1
 refine Ai .plain rfl (Av d1 rfl (Rep.c1 Z2)) (fun U4 C0 d0 C4=>?_)
 refine Af rfl<|Aa<|Ac<|Ab (AA rfl (d0.memA (.tl .hd)))<|AY rfl ((d0.memA .hd) 0 _ rfl) ?_
 obtain ⟨d4,G1,h⟩:=bi h
 rcases d4 with A4 | u5
 have h:=exc_e h
 try dsimp only at h
 refine Bt (fst:=[]) (cap:=[]) .plain body82 rfl (e2 rfl rfl) (fun w9 hw9=>balance_count_check_c n _ w9 (d0.hL0 hL hw9) a0 (d0.k0 h0_3 hw9) a1 (d0.k0 h1_0 hw9) G1) (fun V4 K2=>?_)
 obtain ⟨W1,D4⟩:=d0.agr K2
 cases h
 exact AP hp0 Tryz.func39 ⟨W1.ag,rfl⟩
 have h:=exc_o h
 try dsimp only at h
 refine Bg (.tuple #[]) body82 rfl (e2 rfl rfl) (fun w9 hw9=>AK (balance_count_check_c n _ w9 (d0.hL0 hL hw9) a0 (d0.k0 h0_3 hw9) a1 (d0.k0 h1_0 hw9) G1)) rfl<|Aa<|Ac<|AZ 4 rfl<|AY rfl ((d0.memA (.tl .hd)) 4 _ rfl) ?_
 obtain ⟨b1,F1,h⟩:=bi h
 refine Ai .plain rfl (Does.mk (α:=Int) F1 d0 el32 rfl) (fun c5 c0 j1 F4=>?_)
 have P2:=AH (cs:=(List.replicate a0.fk.toNat [vI 0]).flatten) (xs:=b1) j1 L (Cells.mk F1 rfl)
 refine Ai .plain rfl (Ar [vN] j1) (fun q5 D0 R0 G2=>?_)
 refine BH .plain (Aw (news:=[(.slice (some ⟨c0,0,none⟩) a0.fk.toNat a0.fk.toNat)]) R0 .hd rfl rfl rfl (St.c1 (α:=Int) R0 (.tl .hd)) rfl rfl (o1 (St.o1 (α:=Int) R0 (.tl .hd)))) (fun Z3 x0 H2=>?_)
 refine Aa<|Aj<|Ac<|Ab (AA rfl (x0.memA (.tl (.tl (.tl .hd)))))<|Bf (fst:=[]) (cap:=[]) .plain body83 rfl (e1 rfl) (fun w9 hw9=>Calls.gives (balance_count_land_c n _ w9 (x0.hL hL hw9) a0 (x0.km h0_3 hw9)) fun (w8:World) (u8:Value) ⟨b0_,hu_,s_⟩=>(⟨b0_,hu_,s_.from hw9⟩:∃ s0:Nat,u8 = Value.func (.func 112) #[] #[vP s0]∧St Z3 w8 [.cells s0 [vI a0.fv.fj,vI a0.fv.fh,vI a0.fv.fl,v0_3,vI a0.fk] 92])) rfl (fun t5 Q4 H4 ⟨s0,Q3,H1⟩=>?_)
 subst Q3
 have q2:=mk_push1 x0 H1
 have I2:=mk_tr1 x0 H1
 refine Aa<|Az<|MX.rangeP (lb:=[vP s0]) rfl q2 rfl body112 Tryz.func112 rfl rfl rfl (fun b4 z0 A0 G0 z4 U0 J2 Y3 u1 K4=>?_)
 refine Ac<|AZ 0 rfl<|AZ 3 rfl<|Ab (AL rfl ((mem_from (U0.memA (.tl (.tl .hd))) 0) 3 _ rfl)) ?_
 have A1:=AO h0_3 U0
 have I4:a0.fv.fu.length ≤ 281474976710656:=AU A1
 refine Ab (Bd (xs:=a0.fv.fu) Tryz.underlying36 rfl A1)<|Ae rfl<|Aa<|Az ?_
 have B3:=Tt G2 (Tt H2 (Tt I2 J2))
 have b3:=AR P2 B3
 obtain ⟨M4,A3,x1⟩:=thn_in h
 refine Bm (α:=Nat × (List Int) × (List Value)) (fun ⟨g0,q0,t0⟩=>[(0,.func (.yield z0) #[] #[]),(7,v0_3),(8,vI ((a0.fv.fu.length:Nat):Int)),(9,vI ((g0:Nat):Int))]) (fun ⟨g0,q0,t0⟩ H0=>St w H0 [.obj z0 (lpO G0 .ready none),.obj A0 (.deferred (some [])),.cells s0 [vI a0.fv.fj,vI a0.fv.fh,vI a0.fv.fl,v0_3,vI a0.fk] 92,.cells D0 [(.slice (some ⟨c0,0,none⟩) a0.fk.toNat a0.fk.toNat)] 32,.row w.heap.size 3 (Rep.size Int) (.slice (some ⟨c0,0,none⟩) a0.fk.toNat a0.fk.toNat) q0.length t0,.cells C0 [v1_0] 33,.cells B0 [vI a0.fv.fj,vI a0.fv.fh,vI a0.fv.fl,v0_3,vI a0.fk] 92]∧Tr b4 [.obj z0 (lpO G0 .ready none),.obj A0 (.deferred (some [])),.cells s0 [vI a0.fv.fj,vI a0.fv.fh,vI a0.fv.fl,v0_3,vI a0.fk] 92,.cells D0 [(.slice (some ⟨c0,0,none⟩) a0.fk.toNat a0.fk.toNat)] 32,.row w.heap.size 3 (Rep.size Int) (.slice (some ⟨c0,0,none⟩) a0.fk.toNat a0.fk.toNat) b1.length ((List.replicate a0.fk.toNat [vI 0]).flatten),.cells C0 [v1_0] 33,.cells B0 [vI a0.fv.fj,vI a0.fv.fh,vI a0.fv.fl,v0_3,vI a0.fk] 92] H0 [.obj z0 (lpO G0 .ready none),.obj A0 (.deferred (some [])),.cells s0 [vI a0.fv.fj,vI a0.fv.fh,vI a0.fv.fl,v0_3,vI a0.fk] 92,.cells D0 [(.slice (some ⟨c0,0,none⟩) a0.fk.toNat a0.fk.toNat)] 32,.row w.heap.size 3 (Rep.size Int) (.slice (some ⟨c0,0,none⟩) a0.fk.toNat a0.fk.toNat) q0.length t0,.cells C0 [v1_0] 33,.cells B0 [vI a0.fv.fj,vI a0.fv.fh,vI a0.fv.fl,v0_3,vI a0.fk] 92]∧Cells H0 (bl [.obj z0 (lpO G0 .ready none),.obj A0 (.deferred (some [])),.cells s0 [vI a0.fv.fj,vI a0.fv.fh,vI a0.fv.fl,v0_3,vI a0.fk] 92,.cells D0 [(.slice (some ⟨c0,0,none⟩) a0.fk.toNat a0.fk.toNat)] 32,.row w.heap.size 3 (Rep.size Int) (.slice (some ⟨c0,0,none⟩) a0.fk.toNat a0.fk.toNat) q0.length t0,.cells C0 [v1_0] 33,.cells B0 [vI a0.fv.fj,vI a0.fv.fh,vI a0.fv.fl,v0_3,vI a0.fk] 92] ++ L) t0 q0) (fun ⟨g0,q0,t0⟩=>(g0,q0)) (0,b1,(List.replicate a0.fk.toNat [vI 0]).flatten) A3 ⟨rfl,rfl,rfl,rfl,trivial⟩ ⟨U0,AQ _ _,b3⟩ ?_
 rintro k4 ⟨g0,q0,t0⟩ H0 V1 ⟨J0,s2,V0⟩ h
 unfold balance_count_totals_l1 at h
 try dsimp only at h
 refine Ac<|Ab (Br (i:=g0) (j:=a0.fv.fu.length) rfl rfl)<|Aa<|Aj<|AV rfl h (fun M1 h=>?_) (fun M1 h=>?_)
 refine Au<|Aj<|Az<|Ac<|Ae rfl ?_
 obtain ⟨p0,R3,h⟩:=bi h
 have d3:=AO h0_3 J0
 obtain ⟨g4,s4,R2,X2,x4,F3,c3⟩:=Bk d3 R3
 obtain ⟨X0,Y0,Z0,rfl,C1,D1,E1⟩:=op_TUnit F3
 refine Ab (Bp 6 g0 rfl R2 rfl rfl X2)<|Ab (AA rfl c3)<|Ai .plain rfl (Ar [.string ⟨#[]⟩,vI 0,vN,vN,vN,.bool false] J0) (fun W4 p4 X1 y0=>?_)
 refine Af rfl ?_
 have g3:=Aq C1 y0
 have j3:=Aq D1 y0
 have k3:=Aq E1 y0
 refine AJ [.string p0.fC,vI p0.fA,X0,Y0,Z0,.bool p0.fq] X1 .hd (o6 rfl rfl (AN g3) (AN j3) (AN k3) rfl) (fun X4 v0 p1=>?_)
 refine Aa<|Ac<|AZ 5 rfl<|AY rfl ((v0.memA .hd) 5 _ rfl)<|Ae rfl<|RG.ifb (s:=16) rfl h (fun P1 h=>?_) (fun P1 h=>?_)
 refine AI<|AI<|AI<|AI<|AI<|BI rfl rfl<|Aa<|Bh rfl ?_
 have h:=thn_inl h x1
 refine Al rfl<|Am (u:=.tuple #[]) u1 Tryz.func112 rfl .nil rfl<|MX.endRange0 v0 (.tl .hd) (by intro h9; cases h9) (fun Y4 Y1 t2=>?_)
 obtain ⟨g1,u2⟩:=AG Y1 (.one .hd (.one (.tl .hd) (.one (.tl .hd) (.one (.tl .hd) (.one (.tl .hd) (.one (.tl .hd) (.one (.tl .hd) .done)))))))
 refine AB<|Ac<|Ab (AL rfl ((g1.memA (.tl (.tl (.tl .hd)))) 0 _ rfl))<|Af rfl<|Aa<|Al rfl<|RT.take g1 (.tl .hd) (fun Z4 Z1 v2=>?_)
 obtain ⟨K0,x2⟩:=AG Z1 (.one .hd (.one (.tl .hd) (.one (.tl .hd) (.one (.tl .hd) (.one (.tl .hd) (.one (.tl .hd) .done))))))
 have C3:=Tt y0 (Tt p1 (Tt t2 (Tt u2 (Tt v2 x2))))
 have p3:=AR V0 C3
 have G3:=Bn (α:=Int) K0 (.tl (.tl (.tl .hd))) p3 hL
 have M0:=Bw K0 (.tl (.tl (.tl .hd)))
 have E4:=Bx K0 (.tl (.tl (.tl .hd)))
 have H3:=By (α:=Int) (v:=(.slice (some ⟨c0,0,none⟩) a0.fk.toNat a0.fk.toNat)) (xs:=q0) M0 L G3
 refine Bb hb0 Tryz.func39 rfl rfl ?_
 cases h
 exact ⟨M0.ag,fun w9 hw9=>okOf_in ⟨(.slice (some ⟨c0,0,none⟩) a0.fk.toNat a0.fk.toNat),rfl,M0.kd H3 hw9⟩⟩
 refine AS (Ak rfl)<|AS (Ak rfl)<|AS (AA rfl (v0.memA .hd))<|RG.yieldP (fd:=39) (vs:=[vI ((g0:Nat):Int),.agg #[.string p0.fC,vI p0.fA,X0,Y0,Z0,.bool p0.fq]]) (.yes rfl rfl) rfl (e2 rfl rfl) v0 (.tl .hd) Y3 rfl rfl rfl (fun y4 M2 J4=>?_)
 refine Ac<|Af rfl<|Aa<|Ao<|Ai .plain rfl (Ar [.string ⟨#[]⟩,vI 0,vN,vN,vN,.bool false] v0) (fun b5 q4 b2 y2=>?_)
 have F0:=Tt y0 (Tt p1 y2)
 have q3:=Aq C1 F0
 have s3:=Aq D1 F0
 have t3:=Aq E1 F0
 refine AJ [.string p0.fC,vI p0.fA,X0,Y0,Z0,.bool p0.fq] b2 .hd (o6 rfl rfl (AN q3) (AN s3) (AN t3) rfl) (fun d5 c2 z2=>?_)
 refine Aa<|MX.begin c2 (.tl (.tl .hd)) (fun g5 u0 A2=>?_)
 refine Az<|dt 11 tb39_6 (fun b0 j0=>?_)
 refine AC 0 1 3680 b0 rfl j0 (AL rfl ((u0.memA (.tl (.tl (.tl (.tl (.tl .hd)))))) 0 _ rfl)) rfl<|AC 1 3 3704 b0 rfl j0 (AL rfl ((u0.memA (.tl (.tl (.tl (.tl (.tl (.tl (.tl .hd)))))))) 0 _ rfl)) rfl<|Ag 2 7 b0 rfl j0 (fun _=>Ak rfl) rfl ?_
 obtain ⟨I0,U3,h⟩:=bi h
 have v3:=AO h1_0 u0
 obtain ⟨j4,t4,U2,Y2,Q1,I3,u3⟩:=Bk v3 U3
 have V2:Q1 = [vI I0]:=I3; subst V2
 refine Ag 3 15 b0 rfl j0 (fun _=>Bp 1 g0 rfl U2 rfl rfl Y2) rfl<|AC 4 31 3680 b0 rfl j0 (AL rfl (u3 0 _ rfl)) rfl ?_
 obtain ⟨I1,V3,h⟩:=bi h
 obtain ⟨y1,W3⟩:=idx_in V3
 have B1:=Tt F0 (Tt z2 A2)
 have z1:=AR V0 B1
 obtain ⟨J1,u4,E0,W0,R1,J3,x3⟩:=St.nth (α:=Int) u0 (.tl (.tl (.tl (.tl (.tl (.tl .hd)))))) z1 W3
 obtain ⟨K1,v4,v1⟩:=St.nthOwn (α:=Int) u0 (.tl (.tl (.tl (.tl (.tl (.tl .hd)))))) W0
 obtain rfl:J1 = ⟨K1,0,none⟩:=by rw [v1] at E0; cases E0; rfl
 have W2:R1 = [vI I1]:=J3; subst W2
 refine Ag 5 63 b0 rfl j0 (fun _=>Bp 1 (I0.toNat) rfl E0 rfl y1 W0) rfl<|AC 6 127 3584 b0 rfl j0 (AL rfl (x3 0 _ rfl)) rfl<|Ag 7 255 b0 rfl j0 (fun _=>AX 1 rfl) rfl<|AC 8 511 3584 b0 rfl j0 (AL rfl ((u0.memA .hd) 1 _ rfl)) rfl ?_
 obtain ⟨P4,P3,h⟩:=bi h
 refine Ag 9 1023 b0 rfl j0 (fun _=>BD (i:=I1) (j:=p0.fA) rfl rfl P3) rfl<|Ag 10 2047 b0 rfl j0 (fun _=>Bp 1 (I0.toNat) rfl E0 rfl y1 W0) rfl ?_
 obtain ⟨c4,X3,h⟩:=bi h
 refine BC (i:=11) (rk b0) (RO.acts (m' :=4095) (sk b0) rfl rfl .plain (Acts.set (α:=Int) (i:=I0.toNat) X3 u0 v1 (fun _=>(.tl (.tl (.tl (.tl (.tl (.tl .hd))))))) z1 rfl rfl rfl rfl rfl (by kernel_rfl)) (fun j5 ⟨U1,d2,B2,Q2⟩=>?_))
 refine AE (dk b0)<|AB<|MX.roundEnd M2 d2 (.tl (.tl .hd)) (fun k5 g2 q1=>?_)
 refine AS (BG rfl)<|RG.pf rfl rfl<|Aa<|BB rfl<|Au<|AB<|Ao<|Ab (Bl (i:=g0) (j:=1) rfl rfl (by omega))<|Ae rfl<|Aa ?_
 obtain ⟨j2,s1⟩:=AG g2 (.one (.tl (.tl .hd)) (.one (.tl (.tl .hd)) (.one (.tl (.tl .hd)) (.one (.tl (.tl .hd)) (.one (.tl (.tl .hd)) (.one (.tl (.tl .hd)) (.one (.tl (.tl .hd)) .done)))))))
 have y3:=AR Q2 (Tt q1 s1)
 have D3:=Tt B1 (Tt B2 (Tt q1 s1))
 exact V1 (g0 + 1,c4,U1) _ _ ⟨rfl,rfl,rfl,rfl,trivial⟩ ⟨j2,(Tt s2 D3),y3⟩ h
 refine Be rfl ?_
 have h:=thn_inr h x1
 try dsimp only at h
 refine MX.fin rfl<|Am (u:=.tuple #[]) u1 Tryz.func112 rfl .nil rfl<|MX.endRange0 J0 .hd (by intro h9; cases h9) (fun p5 k2 C2=>?_)
 obtain ⟨k1,D2⟩:=AG k2 (.one (.tl .hd) (.one (.tl .hd) (.one (.tl .hd) (.one (.tl .hd) (.one (.tl .hd) (.one (.tl .hd) .done))))))
 refine AB<|Ac<|AY rfl ((k1.memA (.tl (.tl .hd))) 0 _ rfl)<|Af rfl<|Aa<|Al rfl<|RT.take k1 .hd (fun s5 p2 E2=>?_)
 obtain ⟨P0,F2⟩:=AG p2 (.one (.tl .hd) (.one (.tl .hd) (.one (.tl .hd) (.one (.tl .hd) (.one (.tl .hd) .done)))))
 have E3:=Tt C2 (Tt D2 (Tt E2 F2))
 have z3:=AR V0 E3
 have K3:=Bn (α:=Int) P0 (.tl (.tl .hd)) z3 hL
 have Q0:=Bw P0 (.tl (.tl .hd))
 have G4:=Bx P0 (.tl (.tl .hd))
 have M3:=By (α:=Int) (v:=(.slice (some ⟨c0,0,none⟩) a0.fk.toNat a0.fk.toNat)) (xs:=q0) Q0 L K3
 refine Bb hb0 Tryz.func39 rfl rfl ?_
 cases h
 exact ⟨Q0.ag,fun w9 hw9=>okOf_in ⟨(.slice (some ⟨c0,0,none⟩) a0.fk.toNat a0.fk.toNat),rfl,Q0.kd M3 hw9⟩⟩
def tb37_1:List (Nat × Nat × Nat):=[(0,16,1),(0,32,2),(3,64,48),(0,128,4),(12,256,192),(31,8,256)]
theorem body38:bodyB Tryz.prog 38 = true:=by kernel_rfl
theorem body39:bodyB Tryz.prog 39 = true:=by kernel_rfl
def balance_Totals_1_p (n:Nat) (a0:TRoll) (a1:Int) (a2:List Int):Option (Except Tbroken (List Int)):=
  (balance_counted_p n a0 a1).bind fun y3=>exc y3 (fun d0=>(balance_count_totals_p n d0 a2).bind fun g0=>exc g0 (fun j0=>some (.ok j0)) (fun c0=>some (.error c0))) (fun b0=>some (.error b0))
theorem balance_Totals_1_c (n:Nat) (L:List Nat) (w:World) (hL:∀ b ∈ L,b < w.heap.size) (a0:TRoll) {v0_3:Value} (h0_3:Rep.R w L [v0_3] a0.fu) {p0:Nat} (m0:∀ j9 v9,([vI a0.fj,vI a0.fh,vI a0.fl,v0_3]:List Value)[j9]? = some v9 → w.cell? ((⟨p0,0,none⟩:Addr).add j9) = some v9) (a1:Int) {p1:Nat} (m1:∀ j9 v9,([vI a1]:List Value)[j9]? = some v9 → w.cell? ((⟨p1,0,none⟩:Addr).add j9) = some v9) (a2:List Int) {v2_0:Value} (h2_0:Rep.R w L [v2_0] a2) {p2:Nat} (m2:∀ j9 v9,([v2_0]:List Value)[j9]? = some v9 → w.cell? ((⟨p2,0,none⟩:Addr).add j9) = some v9)  {r:Except Tbroken (List Int)} (h:balance_Totals_1_p n a0 a1 a2 = some r) :
    Calls Tryz.prog 37 #[.pointer (some ⟨p0,0,none⟩),.pointer (some ⟨p1,0,none⟩),.pointer (some ⟨p2,0,none⟩)] w (PGives w (fun (y:List Int) w' u=>∃ v0_0:Value,u = v0_0∧Rep.R w' L [v0_0] y) (fun e=>.iface 131 (.agg #[vI e.fB])) r):=by
 unfold balance_Totals_1_p at h
 have hS0:=Ay w
 refine BE Tryz.func37 rfl rfl rfl (fun _ cs0 hb0 hp0=>?_)
 refine Ac<|Af rfl<|Aa<|Aj<|dt 6 tb37_1 (fun kt1 kp2=>?_)
 refine AC 0 1 52 kt1 rfl kp2 (AA rfl (fun j9 v9 h9=>hS0.ag.cell0 (m0 j9 v9 h9))) rfl<|AC 1 3 52 kt1 rfl kp2 (AL rfl ((fun j9 v9 h9=>hS0.ag.cell0 (m1 j9 v9 h9)) 0 _ rfl)) rfl ?_
 obtain ⟨y3,hy3,h⟩:=bi h
 rcases y3 with A0 | j0
 have h:=exc_e h
 try dsimp only at h
 refine AC 3 11 48 kt1 rfl kp2 (AL rfl ((fun j9 v9 h9=>hS0.ag.cell0 (m2 j9 v9 h9)) 0 _ rfl)) rfl<|BC (i:=2) (rk kt1) (RO.callE (fst:=[]) (cap:=[]) rfl .plain body38 rfl (e2 rfl rfl) (fun w9 hw9=>balance_counted_c n _ w9 (hS0.hL hL hw9) a0 (Ap h0_3 hw9) a1 hy3) (fun J0 s0=>?_))
 obtain ⟨k0,C0⟩:=hS0.agr s0
 cases h
 exact AP hp0 Tryz.func37 ⟨k0.ag,rfl⟩
 have h:=exc_o h
 try dsimp only at h
 refine AC 3 11 48 kt1 rfl kp2 (AL rfl ((fun j9 v9 h9=>hS0.ag.cell0 (m2 j9 v9 h9)) 0 _ rfl)) rfl<|Bu 2 15 kt1 rfl .plain body38 rfl (e2 rfl rfl) (fun w9 hw9=>AK (balance_counted_c n _ w9 (hS0.hL hL hw9) a0 (Ap h0_3 hw9) a1 hy3)) rfl (fun K0 I0 t0 ⟨G0,hu_,d0⟩=>?_)
 subst hu_
 obtain ⟨b0,D0⟩:=hS0.agr t0
 obtain ⟨z0,g0,h⟩:=bi h
 rcases z0 with B0 | Q0
 have h:=exc_e h
 try dsimp only at h
 refine BC (i:=4) (rk kt1) (RO.callE (fst:=[]) (cap:=[]) rfl .plain body39 rfl (e2 rfl rfl) (fun w9 hw9=>balance_count_totals_c n _ w9 (b0.hL hL hw9) j0 (Ap d0 hw9) a2 (b0.km h2_0 hw9) g0) (fun M0 u0=>?_))
 obtain ⟨q0,E0⟩:=b0.agr u0
 cases h
 exact AP hp0 Tryz.func37 ⟨q0.ag,rfl⟩
 have h:=exc_o h
 try dsimp only at h
 refine Bu 4 31 kt1 rfl .plain body39 rfl (e2 rfl rfl) (fun w9 hw9=>AK (balance_count_totals_c n _ w9 (b0.hL hL hw9) j0 (Ap d0 hw9) a2 (b0.km h2_0 hw9) g0)) rfl (fun P0 y0 v0 ⟨H0,hu_,x0⟩=>?_)
 subst hu_
 obtain ⟨c0,F0⟩:=b0.agr v0
 refine Ag 5 63 kt1 rfl kp2 (fun _=>Bi rfl) rfl<|AE (dk kt1)<|Al rfl<|Bb hb0 Tryz.func37 rfl rfl ?_
 cases h
 exact ⟨c0.ag,fun w9 hw9=>okOf_in ⟨y0,rfl,c0.kd x0 hw9⟩⟩
def tb78_6:List (Nat × Nat × Nat):=[(0,131072,32),(0,262144,8),(2,524288,262144),(1,0,131073),(15,0,524290)]
theorem body36:bodyB Tryz.prog 36 = true:=by kernel_rfl
theorem body37:bodyB Tryz.prog 37 = true:=by kernel_rfl
theorem body78:bodyB Tryz.prog 78 = true:=by kernel_rfl
def balance_Totals_p (n:Nat) (a0:TRoll) (a1:List Int) (a2:Int):Option ((List Int) × Int):=
  (balance_Totals_1_p n a0 a2 a1).bind fun c0=>exc c0 (fun d0=>some (d0,(0:Int))) (fun b0=>some (([]:List Int),b0.fB))
theorem balance_Totals_c (n:Nat) (L:List Nat) (w:World) (hL:∀ b ∈ L,b < w.heap.size) (a0:TRoll) {v0_3:Value} (h0_3:Rep.R w L [v0_3] a0.fu) (a1:List Int) {v1_0:Value} (h1_0:Rep.R w L [v1_0] a1) (a2:Int)  {r:(List Int) × Int} (h:balance_Totals_p n a0 a1 a2 = some r) :
    Calls Tryz.prog 9 #[.agg #[vI a0.fj,vI a0.fh,vI a0.fl,v0_3],v1_0,vI a2] w (Gives w fun w' u=>∃ v0_0:Value,u = .tuple #[v0_0,vI r.2]∧Rep.R w' L [v0_0] r.1):=by
 unfold balance_Totals_p at h
 have hS0:=Ay w
 refine AD Tryz.func9 rfl rfl rfl (fun _ cs0 hb0=>?_)
 refine Ac<|Ai .plain rfl (Av hS0 rfl rfl) (fun R1 g0 D0 E1=>?_)
 have s1:=AO h1_0 D0
 refine Ai .plain rfl (Av D0 rfl (Rep.c1 s1)) (fun Y1 j0 Q0 F1=>?_)
 refine Ai .plain rfl (Av Q0 rfl rfl) (fun Z1 k0 R0 G1=>?_)
 refine Af rfl<|Af rfl<|Aa<|Ac<|Ab (BF (vs:=[]) (us:=[vP g0,vP k0,vP j0]) evs_nil (e3 rfl rfl rfl))<|Bj (fst:=[]) (cap:=[]) (vs:=[.func (.func 37) #[] #[vP g0,vP k0,vP j0]]) .plain body36 Tryz.func36 rfl rfl rfl rfl (e1 rfl) rfl (fun A1 E0 P1=>?_)
 refine Ac<|Ai .plain rfl (Ar [vN] R0) (fun b2 p0 U0 H1=>?_)
 refine Ai .plain rfl (Ar [vI 0] U0) (fun c2 d0 b0 I1=>?_)
 refine Aa<|Ac<|Ab (BF (vs:=[]) (us:=[vP p0,vP d0]) evs_nil (e2 rfl rfl))<|RG.defer (fst:=[]) (cap:=[vP p0,vP d0]) (vs:=[]) rfl .plain rfl evs_nil<|Aa<|Ac<|Ae rfl ?_
 obtain ⟨x1,G0,h⟩:=bi h
 rcases x1 with q0 | j2
 have h:=exc_e h
 try dsimp only at h
 refine Bt (fst:=[]) (cap:=[vP g0,vP k0,vP j0]) .plain body37 rfl evs_nil (fun w9 hw9=>balance_Totals_1_c n _ w9 (b0.hL hL hw9) a0 (b0.km h0_3 hw9) (fun j9 v9 h9=>hw9.cell0 ((b0.memA (.tl (.tl (.tl (.tl .hd))))) j9 v9 h9)) a2 (fun j9 v9 h9=>hw9.cell0 ((b0.memA (.tl (.tl .hd))) j9 v9 h9)) a1 (b0.km h1_0 hw9) (fun j9 v9 h9=>hw9.cell0 ((b0.memA (.tl (.tl (.tl .hd)))) j9 v9 h9)) G0) (fun d2 g1=>?_)
 obtain ⟨V0,J1⟩:=b0.agr g1
 refine PN.callD (vs:=[]) (cap:=[vP p0,vP d0]) body78 Tryz.func78 rfl rfl rfl (fun z1 j1 p1=>?_)
 refine Ac<|RG.recover1 .plain j1 rfl<|Af rfl<|Aa<|Ac<|Ae rfl<|Ab (FV.neqI Tryz.underlying20 rfl rfl)<|Aa<|Bh rfl<|Ac<|Ae rfl<|Ab (FV.assertT (by kernel_rfl) rfl)<|Ae rfl<|Ab (Ah rfl rfl)<|Ab (Ah rfl rfl)<|Ai .plain rfl (Ar [vI 0] V0) (fun g2 H0 W0 K1=>?_)
 refine AJ [vI q0.fB] W0 .hd (o1 rfl) (fun u1 v0 M1=>?_)
 refine Af rfl<|Aa<|Aj<|Ac<|Ae rfl<|Ab (BG rfl)<|Aa<|BB rfl<|Au<|Ac<|Af rfl<|Aa<|dt 3 tb78_6 (fun c0 z0=>?_)
 refine Ag 0 1 c0 rfl z0 (fun _=>Ak rfl) rfl<|Ag 1 3 c0 rfl z0 (fun _=>AX 0 rfl) rfl<|RD.meet (α:=Unit) (fun ()=>[(1,vP d0),(19,vI q0.fB)]) (fun () B0=>St w B0 [.cells d0 [vI 0] 41,.cells p0 [vN] 32,.cells k0 [vI a2] 3,.cells j0 [v1_0] 33,.cells g0 [vI a0.fj,vI a0.fh,vI a0.fl,v0_3] 38]∧Tr u1 [.cells H0 [vI q0.fB] 131,.cells d0 [vI 0] 41,.cells p0 [vN] 32,.cells k0 [vI a2] 3,.cells j0 [v1_0] 33,.cells g0 [vI a0.fj,vI a0.fh,vI a0.fl,v0_3] 38] B0 [.cells d0 [vI 0] 41,.cells p0 [vN] 32,.cells k0 [vI a2] 3,.cells j0 [v1_0] 33,.cells g0 [vI a0.fj,vI a0.fh,vI a0.fl,v0_3] 38]) 1 15 ?_ ?_
 rintro ⟨⟩ B0 ⟨I0,B1⟩
 try dsimp only
 refine Bq 4 31 c0 rfl rfl .plain (Aw (news:=[vI q0.fB]) I0 .hd rfl rfl rfl rfl rfl rfl (o1 rfl)) (fun U1 s0 C1=>?_)
 refine AE (dk c0)<|MX.fin rfl<|RT.leaveD1 p1 Tryz.func78 rfl .nil<|Am (u:=.tuple #[vN,vI q0.fB]) E0 Tryz.func36 rfl (.cons (.one (by kernel_rfl) rfl ((s0.memA (.tl .hd)) 0 _ rfl)) (.cons (.one (by kernel_rfl) rfl ((s0.memA .hd) 0 _ rfl)) .nil)) rfl<|Ab (Ah rfl rfl)<|Ab (Ah rfl rfl)<|Af rfl<|Af rfl<|Aa<|Al rfl ?_
 have t1:=Rep.nilAt (α:=Int) s0 L
 refine Am hb0 Tryz.func9 rfl (.cons (.tmp rfl) (.cons (.tmp rfl) .nil)) rfl ?_
 cases h
 exact ⟨s0.ag,fun w9 hw9=>⟨vN,rfl,s0.kd t1 hw9⟩⟩
 intro C0
 refine BJ [2,3] (rk c0) ⟨?_,?_,trivial⟩
 refine BK (m' :=7) (sk c0) rfl .plain rfl (AL rfl ((v0.memA .hd) 0 _ rfl))<|Bq 3 15 c0 rfl rfl .plain (Aw (news:=[vN]) v0 (.tl (.tl .hd)) rfl rfl rfl rfl rfl rfl (o1 rfl)) (fun v1 u0 x0=>?_)
 obtain ⟨J0,X0⟩:=AG u0 (.one (.tl .hd) (.one (.tl .hd) (.one (.tl .hd) (.one (.tl .hd) (.one (.tl .hd) .done)))))
 exact C0 () _ _ ⟨rfl,rfl,trivial⟩ ⟨J0,(Tt x0 X0)⟩
 refine RO.now (m' :=11) (sk c0) rfl rfl .plain (Aw (news:=[vN]) v0 (.tl (.tl .hd)) rfl rfl rfl rfl rfl rfl (o1 rfl)) (fun v1 u0 x0=>?_)
 refine AC 2 15 16 c0 rfl z0 (AL rfl ((u0.memA .hd) 0 _ rfl)) rfl ?_
 obtain ⟨K0,Y0⟩:=AG u0 (.one (.tl .hd) (.one (.tl .hd) (.one (.tl .hd) (.one (.tl .hd) (.one (.tl .hd) .done)))))
 exact C0 () _ _ ⟨rfl,rfl,trivial⟩ ⟨K0,(Tt x0 Y0)⟩
 have h:=exc_o h
 try dsimp only at h
 refine Bf (fst:=[]) (cap:=[vP g0,vP k0,vP j0]) .plain body37 rfl evs_nil (fun w9 hw9=>AK (balance_Totals_1_c n _ w9 (b0.hL hL hw9) a0 (b0.km h0_3 hw9) (fun j9 v9 h9=>hw9.cell0 ((b0.memA (.tl (.tl (.tl (.tl .hd))))) j9 v9 h9)) a2 (fun j9 v9 h9=>hw9.cell0 ((b0.memA (.tl (.tl .hd))) j9 v9 h9)) a1 (b0.km h1_0 hw9) (fun j9 v9 h9=>hw9.cell0 ((b0.memA (.tl (.tl (.tl .hd)))) j9 v9 h9)) G0)) rfl (fun V1 A0 d1 ⟨Q1,hu_,y0⟩=>?_)
 subst hu_
 obtain ⟨M0,D1⟩:=b0.agr d1
 refine BH .plain (Aw (news:=[A0]) M0 (.tl .hd) rfl rfl rfl (Rep.c1 y0) rfl rfl (o1 (AN y0))) (fun W1 P0 Z0=>?_)
 refine AJ [vI 0] P0 .hd (o1 rfl) (fun X1 t0 b1=>?_)
 refine Aa<|Al rfl<|RT.callD (vs:=[]) (cap:=[vP p0,vP d0]) body78 Tryz.func78 rfl rfl rfl (fun y1 F0 k1=>?_)
 refine Ac<|RG.recover0 .plain F0 rfl<|Af rfl<|Aa<|Ac<|Ae rfl<|Ab (FV.neqI0 Tryz.underlying20 rfl rfl)<|Aa<|BB rfl<|Au<|MX.fin rfl<|RT.leaveD0 F0 k1 Tryz.func78 rfl .nil<|Am (u:=.tuple #[A0,vI 0]) E0 Tryz.func36 rfl (.cons (.one (by kernel_rfl) rfl ((t0.memA (.tl .hd)) 0 _ rfl)) (.cons (.one (by kernel_rfl) rfl ((t0.memA .hd) 0 _ rfl)) .nil)) rfl<|Ab (Ah rfl rfl)<|Ab (Ah rfl rfl)<|Af rfl<|Af rfl<|Aa<|Al rfl<|Am hb0 Tryz.func9 rfl (.cons (.tmp rfl) (.cons (.tmp rfl) .nil)) rfl ?_
 cases h
 have q1:=Aq y0 (Tt Z0 b1)
 exact ⟨t0.ag,fun w9 hw9=>⟨A0,rfl,t0.kd q1 hw9⟩⟩
def minority_must_list_int_p (_n:Nat) (a0:List Int) (a1:Int):Option (Except Tbroken (List Int)):=
  (if a1 = 0 then some (.ok a0) else some (.error (⟨a1⟩:Tbroken)))
theorem minority_must_list_int_c (n:Nat) (L:List Nat) (w:World) (_hL:∀ b ∈ L,b < w.heap.size) (a0:List Int) {v0_0:Value} (h0_0:Rep.R w L [v0_0] a0) (a1:Int)  {r:Except Tbroken (List Int)} (h:minority_must_list_int_p n a0 a1 = some r) :
    Calls Tryz.prog 77 #[v0_0,vI a1] w (PGives w (fun (y:List Int) w' u=>∃ v0_0:Value,u = v0_0∧Rep.R w' L [v0_0] y) (fun e=>.iface 128 (.agg #[vI e.fB])) r):=by
 unfold minority_must_list_int_p at h
 have hS0:=Ay w
 refine BE Tryz.func77 rfl rfl rfl (fun _ cs0 hb0 hp0=>?_)
 refine Ac<|Af rfl<|Aa<|Aj<|Ac<|Ae rfl<|Ab (FV.neq (i:=a1) (j:=0) rfl rfl)<|Aa<|MX.ifn rfl h (fun c1 h=>?_) (fun c1 h=>?_)
 refine Au<|Ac<|Ae rfl<|Af rfl<|Aa<|Al rfl<|Bb hb0 Tryz.func77 rfl rfl ?_
 cases h
 exact ⟨hS0.ag,fun w9 hw9=>okOf_in ⟨v0_0,rfl,hS0.kd h0_0 hw9⟩⟩
 refine Ao<|Ae rfl<|Ab (AM (vs:=[vI a1]) (u:=.agg #[vI a1]) (e1 rfl) (fun w9=>by kernel_rfl))<|Ab (Bv (by kernel_rfl) rfl)<|RG.panic .plain rfl ?_
 cases h
 exact AP hp0 Tryz.func77 ⟨hS0.ag,rfl⟩
end Go.Proofs.YtichhhehkcfoaaaGreatDoor
