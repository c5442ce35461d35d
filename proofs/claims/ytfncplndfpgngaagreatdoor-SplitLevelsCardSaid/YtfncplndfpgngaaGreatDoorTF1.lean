/- Functions of the program, and what they give: part 1. -/
import Derived.Test.YtfncplndfpgngaaGreatDoorProg
import Derived.Test.YtfncplndfpgngaaGreatDoorTMo
namespace Go.Proofs.YtfncplndfpgngaaGreatDoor
open Go Go.RowKit
set_option maxRecDepth 4000
set_option maxHeartbeats 4000000

def slices_Index_bool_bool_l1 (_n:Nat) (a0:List Bool) (a1:Bool) (c0:Nat → Option (Int ⊕ Unit)):Nat → Option (Int ⊕ Unit)
  | b0=>(if b0 < a0.length then (a0[b0]?).bind fun d0=>(if (a1 == d0) = true then some (.inl ((b0:Nat):Int)) else c0 (b0 + 1)) else some (.inr ()))
def slices_Index_bool_bool_p (n:Nat) (a0:List Bool) (a1:Bool):Option Int:=
  thn (loopF (slices_Index_bool_bool_l1 n a0 a1) n 0) (fun _=>some (-1:Int))
theorem slices_Index_bool_bool_c (n:Nat) (L:List Nat) (w:World) (_hL:∀ b ∈ L,b < w.heap.size) (a0:List Bool) {v0_0:Value} (h0_0:Rep.R w L [v0_0] a0) (a1:Bool)  {r:Int} (h:slices_Index_bool_bool_p n a0 a1 = some r) :
    Calls Tryz.prog 112 #[v0_0,.bool a1] w (Gives w fun _ u=>u = vI r):=by
 unfold slices_Index_bool_bool_p at h
 have hS0:=AD w
 refine AI Tryz.func112 rfl rfl rfl (fun _ cs0 hb0=>?_)
 refine Ae<|Af rfl<|Aa<|Aj<|Ae<|Ab rfl ?_
 have hl1:a0.length ≤ 281474976710656:=AO h0_0
 refine Ac (AZ (xs:=a0) Tryz.underlying146 rfl h0_0)<|Ab rfl<|Aa<|Au ?_
 obtain ⟨G0,A0,g0⟩:=thn_in h
 refine AW (α:=Nat) (fun b0=>[(0,v0_0),(1,.bool a1),(7,vI ((a0.length:Nat):Int)),(8,vI ((b0:Nat):Int))]) (fun b0 d0=>St w d0 []∧Tr w [] d0 []) (fun b0=>b0) 0 A0 ⟨rfl,rfl,rfl,rfl,trivial⟩ ⟨hS0,AA _ _⟩ ?_
 rintro E0 b0 d0 s0 ⟨c0,t0⟩ h
 unfold slices_Index_bool_bool_l1 at h
 try dsimp only at h
 refine Ae<|Ac (Bg (i:=b0) (j:=a0.length) rfl rfl)<|Aa<|Aj<|AM rfl h (fun k0 h=>?_) (fun k0 h=>?_)
 refine Am<|Aj<|Au<|Ae<|Ab rfl<|Af rfl<|Aa<|Ae<|Ab rfl<|Ab rfl<|Ab rfl ?_
 obtain ⟨j0,C0,h⟩:=bi h
 have z0:=Bn h0_0 c0
 obtain ⟨D0,F0,u0,x0,q0,B0,y0⟩:=AS z0 C0
 have v0:q0 = [.bool j0]:=B0; subst v0
 refine Ac (AY 1 b0 rfl u0 rfl rfl x0)<|AN rfl (y0 0 _ rfl)<|Ac (FV.eqlB (a:=a1) (b:=j0) Tryz.underlying4 rfl rfl)<|Aa<|MX.ifb rfl h (fun p0 h=>?_) (fun p0 h=>?_)
 refine Ae<|Ab rfl<|Af rfl<|Aa ?_
 have h:=thn_inl h g0
 refine Ao rfl<|AL hb0 Tryz.func112 rfl rfl ?_
 cases h
 exact c0.gv
 refine Am<|Aq<|Al<|Ac (AT (i:=b0) (j:=1) rfl rfl (by omega))<|Ab rfl<|Aa ?_
 exact s0 (b0 + 1) _ _ ⟨rfl,rfl,rfl,rfl,trivial⟩ ⟨c0,t0⟩ h
 refine AR rfl ?_
 have h:=thn_inr h g0
 try dsimp only at h
 refine Ae<|Af rfl<|Aa<|Ao rfl<|AL hb0 Tryz.func112 rfl rfl ?_
 cases h
 exact c0.gv
theorem body112:bodyB Tryz.prog 112 = true:=by kernel_rfl
def slices_Contains_bool_bool_p (n:Nat) (a0:List Bool) (a1:Bool):Option Bool:=
  (slices_Index_bool_bool_p n a0 a1).bind fun y1=>some (decide (0 ≤ y1))
theorem slices_Contains_bool_bool_c (n:Nat) (L:List Nat) (w:World) (hL:∀ b ∈ L,b < w.heap.size) (a0:List Bool) {v0_0:Value} (h0_0:Rep.R w L [v0_0] a0) (a1:Bool)  {r:Bool} (h:slices_Contains_bool_bool_p n a0 a1 = some r) :
    Calls Tryz.prog 97 #[v0_0,.bool a1] w (Gives w fun _ u=>u = .bool r):=by
 unfold slices_Contains_bool_bool_p at h
 have hS0:=AD w
 refine AI Tryz.func97 rfl rfl rfl (fun _ cs0 hb0=>?_)
 refine Ae<|Af rfl<|Aa<|Ae<|Ab rfl<|Ab rfl ?_
 obtain ⟨y1,hy1,h⟩:=bi h
 refine Bp (vI y1) body112 rfl (e2 rfl rfl) (fun w9 hw9=>slices_Index_bool_bool_c n _ w9 (hS0.hL0 hL hw9) a0 (hS0.kd h0_0 hw9) a1 hy1) rfl<|Ac (FV.geq (i:=y1) (j:=0) rfl rfl)<|Af rfl<|Aa<|Ao rfl<|AL hb0 Tryz.func97 rfl rfl ?_
 cases h
 exact hS0.gv
theorem body97:bodyB Tryz.prog 97 = true:=by kernel_rfl
def units_every_p (n:Nat) (a0:List Bool):Option Bool:=
  (slices_Contains_bool_bool_p n a0 false).bind fun y1=>some (!y1)
theorem units_every_c (n:Nat) (L:List Nat) (w:World) (hL:∀ b ∈ L,b < w.heap.size) (a0:List Bool) {v0_0:Value} (h0_0:Rep.R w L [v0_0] a0)  {r:Bool} (h:units_every_p n a0 = some r) :
    Calls Tryz.prog 89 #[v0_0] w (Gives w fun _ u=>u = .bool r):=by
 unfold units_every_p at h
 have hS0:=AD w
 refine AI Tryz.func89 rfl rfl rfl (fun _ cs0 hb0=>?_)
 refine Ae<|Af rfl<|Aa<|Ae<|Ab rfl ?_
 obtain ⟨y1,hy1,h⟩:=bi h
 refine Bp (.bool y1) body97 rfl (e2 rfl rfl) (fun w9 hw9=>slices_Contains_bool_bool_c n _ w9 (hS0.hL0 hL hw9) a0 (hS0.kd h0_0 hw9) false hy1) rfl<|Ac (Be rfl)<|Af rfl<|Aa<|Ao rfl<|AL hb0 Tryz.func89 rfl rfl ?_
 cases h
 exact hS0.gv
def strings_trimLeftByte_l1 (_n:Nat) (a1:UInt8) (c0:ByteArray → Option ByteArray):ByteArray → Option ByteArray
  | b0=>(if 0 < b0.size then (b0.data[0]?).bind fun g0=>(if g0.toNat = a1.toNat then (scut b0 1 (b0.size:Int)).bind fun d0=>c0 d0 else some b0) else some b0)
def strings_trimLeftByte_p (n:Nat) (a0:ByteArray) (a1:UInt8):Option ByteArray:=
  jn (fun c0=>some c0) (fun b0=>Option.bind (loopF (strings_trimLeftByte_l1 n a1) n a0) (b0))
theorem strings_trimLeftByte_c (n:Nat) (L:List Nat) (w:World) (_hL:∀ b ∈ L,b < w.heap.size) (a0:ByteArray) (a1:UInt8)  {r:ByteArray} (h:strings_trimLeftByte_p n a0 a1 = some r) :
    Calls Tryz.prog 113 #[.string a0,.int .u8 (a1.toNat:Int)] w (Gives w fun _ u=>u = .string r):=by
 unfold strings_trimLeftByte_p at h
 have hS0:=AD w
 refine AI Tryz.func113 rfl rfl rfl (fun _ cs0 hb0=>?_)
 refine Ae<|Af rfl<|Aa<|Aj<|Au<|MX.joinx (α:=ByteArray) (fun c0=>[(0,.string c0)]) (fun c0 j0=>St w j0 []∧Tr w [] j0 []) (fun c0=>c0) (id:=0) rfl h ?_ ?_
 rintro c0 j0 ⟨v0,E0⟩ h
 try dsimp only at h
 refine Ae<|Ab rfl<|Af rfl<|Aa<|Ao rfl<|AL hb0 Tryz.func113 rfl rfl ?_
 cases h
 exact v0.gv
 intro C0 p0 h
 try dsimp only at h
 obtain ⟨F0,x0,q0⟩:=bind_in2 h
 refine AW (α:=ByteArray) (fun b0=>[(0,.string b0),(1,.int .u8 (a1.toNat:Int))]) (fun b0 k0=>St w k0 []∧Tr w [] k0 []) (fun b0=>b0) a0 x0 ⟨rfl,rfl,trivial⟩ ⟨hS0,AA _ _⟩ ?_
 rintro D0 b0 k0 u0 ⟨d0,g0⟩ h
 unfold strings_trimLeftByte_l1 at h
 try dsimp only at h
 refine Aj<|Ae<|Ab rfl<|Ac (BA Tryz.underlying9 rfl)<|Ac (FV.gtrN (i:=b0.size) (j:=0) rfl rfl)<|Ab rfl<|Bx (s:=8) rfl h (fun s0 h=>?_) (fun s0 h=>?_)
 refine Ar (Ah rfl) ?_
 obtain ⟨B0,z0,h⟩:=bi h
 refine Ar (FV.strAt (k:=0) Tryz.underlying9 rfl rfl rfl z0)<|Ar (Ah rfl)<|Ar (BG (i:=B0.toNat) (j:=a1.toNat) rfl rfl)<|AG rfl rfl<|Aa<|AM rfl h (fun t0 h=>?_) (fun t0 h=>?_)
 refine Am<|Au<|Al<|Ab rfl ?_
 obtain ⟨A0,y0,h⟩:=bi h
 refine Ac (FV.strCut y0 Tryz.underlying9 rfl ⟨_,rfl⟩ rfl)<|Af rfl<|Aa<|Aq ?_
 exact u0 A0 _ _ ⟨rfl,rfl,trivial⟩ ⟨d0,g0⟩ h
 refine AR rfl ?_
 have h:=q0 _ h
 try dsimp only at h
 exact p0 b0 _ _ ⟨rfl,trivial⟩ ⟨d0,g0⟩ h
 refine Ag<|Ag<|Ag<|Ag<|Bd rfl rfl<|Aa<|Bv rfl<|AR rfl ?_
 have h:=q0 _ h
 try dsimp only at h
 exact p0 b0 _ _ ⟨rfl,trivial⟩ ⟨d0,g0⟩ h
def strings_trimRightByte_l1 (_n:Nat) (a1:UInt8) (c0:ByteArray → Option ByteArray):ByteArray → Option ByteArray
  | b0=>(if 0 < b0.size then (chk (((b0.size:Nat):Int) - 1)).bind fun d0=>(sidx b0 d0).bind fun k0=>(if k0.toNat = a1.toNat then (chk (((b0.size:Nat):Int) - 1)).bind fun g0=>(scut b0 0 g0).bind fun j0=>c0 j0 else some b0) else some b0)
def strings_trimRightByte_p (n:Nat) (a0:ByteArray) (a1:UInt8):Option ByteArray:=
  jn (fun c0=>some c0) (fun b0=>Option.bind (loopF (strings_trimRightByte_l1 n a1) n a0) (b0))
theorem strings_trimRightByte_c (n:Nat) (L:List Nat) (w:World) (_hL:∀ b ∈ L,b < w.heap.size) (a0:ByteArray) (a1:UInt8)  {r:ByteArray} (h:strings_trimRightByte_p n a0 a1 = some r) :
    Calls Tryz.prog 114 #[.string a0,.int .u8 (a1.toNat:Int)] w (Gives w fun _ u=>u = .string r):=by
 unfold strings_trimRightByte_p at h
 have hS0:=AD w
 refine AI Tryz.func114 rfl rfl rfl (fun _ cs0 hb0=>?_)
 refine Ae<|Af rfl<|Aa<|Aj<|Au<|MX.joinx (α:=ByteArray) (fun c0=>[(0,.string c0)]) (fun c0 j0=>St w j0 []∧Tr w [] j0 []) (fun c0=>c0) (id:=0) rfl h ?_ ?_
 rintro c0 j0 ⟨v0,J0⟩ h
 try dsimp only at h
 refine Ae<|Ab rfl<|Af rfl<|Aa<|Ao rfl<|AL hb0 Tryz.func114 rfl rfl ?_
 cases h
 exact v0.gv
 intro H0 p0 h
 try dsimp only at h
 obtain ⟨K0,y0,q0⟩:=bind_in2 h
 refine AW (α:=ByteArray) (fun b0=>[(0,.string b0),(1,.int .u8 (a1.toNat:Int))]) (fun b0 k0=>St w k0 []∧Tr w [] k0 []) (fun b0=>b0) a0 y0 ⟨rfl,rfl,trivial⟩ ⟨hS0,AA _ _⟩ ?_
 rintro I0 b0 k0 u0 ⟨d0,g0⟩ h
 unfold strings_trimRightByte_l1 at h
 try dsimp only at h
 refine Aj<|Ae<|Ab rfl<|Ac (BA Tryz.underlying9 rfl)<|Ac (FV.gtrN (i:=b0.size) (j:=0) rfl rfl)<|Ab rfl<|Bx (s:=8) rfl h (fun s0 h=>?_) (fun s0 h=>?_)
 refine Ar (Ah rfl)<|Ar (Ah rfl)<|Ar (BA Tryz.underlying9 rfl) ?_
 obtain ⟨E0,z0,h⟩:=bi h
 refine Ar (FV.subc (i:=((b0.size:Nat):Int)) (j:=1) rfl rfl z0) ?_
 obtain ⟨G0,D0,h⟩:=bi h
 obtain ⟨x0,C0⟩:=sidx_in D0
 refine Ar (FV.strAt (k:=E0.toNat) Tryz.underlying9 rfl rfl x0 C0)<|Ar (Ah rfl)<|Ar (BG (i:=G0.toNat) (j:=a1.toNat) rfl rfl)<|AG rfl rfl<|Aa<|AM rfl h (fun t0 h=>?_) (fun t0 h=>?_)
 refine Am<|Au<|Al<|Ab rfl<|Ab rfl<|Ac (BA Tryz.underlying9 rfl) ?_
 obtain ⟨M0,A0,h⟩:=bi h
 refine Ac (FV.subc (i:=((b0.size:Nat):Int)) (j:=1) rfl rfl A0) ?_
 obtain ⟨F0,B0,h⟩:=bi h
 refine Ac (FV.strCut B0 Tryz.underlying9 rfl rfl ⟨_,rfl⟩)<|Af rfl<|Aa<|Aq ?_
 exact u0 F0 _ _ ⟨rfl,rfl,trivial⟩ ⟨d0,g0⟩ h
 refine AR rfl ?_
 have h:=q0 _ h
 try dsimp only at h
 exact p0 b0 _ _ ⟨rfl,trivial⟩ ⟨d0,g0⟩ h
 refine Ag<|Ag<|Ag<|Ag<|Ag<|Ag<|Ag<|Bd rfl rfl<|Aa<|Bv rfl<|AR rfl ?_
 have h:=q0 _ h
 try dsimp only at h
 exact p0 b0 _ _ ⟨rfl,trivial⟩ ⟨d0,g0⟩ h
def internal_stringslite_IndexByte_p (_n:Nat) (_a0:ByteArray) (_a1:UInt8):Option Int:=
  none
theorem internal_stringslite_IndexByte_c (n:Nat) (L:List Nat) (w:World) (_hL:∀ b ∈ L,b < w.heap.size) (a0:ByteArray) (a1:UInt8)  {r:Int} (h:internal_stringslite_IndexByte_p n a0 a1 = some r) :
    Calls Tryz.prog 140 #[.string a0,.int .u8 (a1.toNat:Int)] w (Gives w fun _ u=>u = vI r):=by
 unfold internal_stringslite_IndexByte_p at h
 have hS0:=AD w
 refine AI Tryz.func140 rfl rfl rfl (fun _ cs0 hb0=>?_)
 refine Ae<|Af rfl<|Aa<|Ae<|Ab rfl<|Ab rfl ?_
 cases h
theorem body140:bodyB Tryz.prog 140 = true:=by kernel_rfl
def strings_IndexByte_p (n:Nat) (a0:ByteArray) (a1:UInt8):Option Int:=
  (internal_stringslite_IndexByte_p n a0 a1).bind fun y1=>some y1
theorem strings_IndexByte_c (n:Nat) (L:List Nat) (w:World) (hL:∀ b ∈ L,b < w.heap.size) (a0:ByteArray) (a1:UInt8)  {r:Int} (h:strings_IndexByte_p n a0 a1 = some r) :
    Calls Tryz.prog 136 #[.string a0,.int .u8 (a1.toNat:Int)] w (Gives w fun _ u=>u = vI r):=by
 unfold strings_IndexByte_p at h
 have hS0:=AD w
 refine AI Tryz.func136 rfl rfl rfl (fun _ cs0 hb0=>?_)
 refine Ae<|Af rfl<|Aa<|Ae<|Ab rfl<|Ab rfl ?_
 obtain ⟨y1,hy1,h⟩:=bi h
 refine Bp (vI y1) body140 rfl (e2 rfl rfl) (fun w9 hw9=>internal_stringslite_IndexByte_c n _ w9 (hS0.hL0 hL hw9) a0 a1 hy1) rfl<|Af rfl<|Aa<|Ao rfl<|AL hb0 Tryz.func136 rfl rfl ?_
 cases h
 exact hS0.gv
def unicode_utf8_ValidRune_p (_n:Nat) (a0:Int):Option Bool:=
  (if 0 ≤ a0 then (if a0 < 55296 then some true else (if 57343 < a0 then (if a0 ≤ 1114111 then some true else some false) else some false)) else (if 57343 < a0 then (if a0 ≤ 1114111 then some true else some false) else some false))
theorem unicode_utf8_ValidRune_c (n:Nat) (L:List Nat) (w:World) (_hL:∀ b ∈ L,b < w.heap.size) (a0:Int)  {r:Bool} (h:unicode_utf8_ValidRune_p n a0 = some r) :
    Calls Tryz.prog 137 #[.int .i32 a0] w (Gives w fun _ u=>u = .bool r):=by
 unfold unicode_utf8_ValidRune_p at h
 have hS0:=AD w
 refine AI Tryz.func137 rfl rfl rfl (fun _ cs0 hb0=>?_)
 refine Ae<|Af rfl<|Aa<|Aj<|Au<|Ae<|Ab rfl<|Ac (FV.leq (i:=0) (j:=a0) rfl rfl)<|Ab rfl<|Bx (s:=6) rfl h (fun c1 h=>?_) (fun c1 h=>?_)
 refine Ar (Ah rfl)<|Ar (FV.lss (i:=a0) (j:=55296) rfl rfl)<|AG rfl rfl<|Af rfl<|Aa<|AM rfl h (fun c2 h=>?_) (fun c2 h=>?_)
 refine Ae<|Af rfl<|Aa<|Ao rfl<|AL hb0 Tryz.func137 rfl rfl ?_
 cases h
 exact hS0.gv
 refine Ae<|Ab rfl<|Ac (FV.lss (i:=57343) (j:=a0) rfl rfl)<|Ab rfl<|Bx (s:=13) rfl h (fun c3 h=>?_) (fun c3 h=>?_)
 refine Ar (Ah rfl)<|Ar (FV.leq (i:=a0) (j:=1114111) rfl rfl)<|AG rfl rfl<|Af rfl<|Aa<|AM rfl h (fun c4 h=>?_) (fun c4 h=>?_)
 refine Ae<|Af rfl<|Aa<|Ao rfl<|AL hb0 Tryz.func137 rfl rfl ?_
 cases h
 exact hS0.gv
 refine Am<|Aq<|Ae<|Af rfl<|Aa<|Ao rfl<|AL hb0 Tryz.func137 rfl rfl ?_
 cases h
 exact hS0.gv
 refine Ag<|Ag<|Bd rfl rfl<|Af rfl<|Aa<|Bv rfl<|Am<|Aq<|Ae<|Af rfl<|Aa<|Ao rfl<|AL hb0 Tryz.func137 rfl rfl ?_
 cases h
 exact hS0.gv
 refine Ag<|Ag<|Bd rfl rfl<|Af rfl<|Aa<|Bv rfl<|Ae<|Ab rfl<|Ac (FV.lss (i:=57343) (j:=a0) rfl rfl)<|Ab rfl<|Bx (s:=13) rfl h (fun c5 h=>?_) (fun c5 h=>?_)
 refine Ar (Ah rfl)<|Ar (FV.leq (i:=a0) (j:=1114111) rfl rfl)<|AG rfl rfl<|Af rfl<|Aa<|AM rfl h (fun c6 h=>?_) (fun c6 h=>?_)
 refine Ae<|Af rfl<|Aa<|Ao rfl<|AL hb0 Tryz.func137 rfl rfl ?_
 cases h
 exact hS0.gv
 refine Am<|Aq<|Ae<|Af rfl<|Aa<|Ao rfl<|AL hb0 Tryz.func137 rfl rfl ?_
 cases h
 exact hS0.gv
 refine Ag<|Ag<|Bd rfl rfl<|Af rfl<|Aa<|Bv rfl<|Am<|Aq<|Ae<|Af rfl<|Aa<|Ao rfl<|AL hb0 Tryz.func137 rfl rfl ?_
 cases h
 exact hS0.gv
def internal_bytealg_Cutover_p (_n:Nat) (a0:Int):Option Int:=
  (chk (a0 + 16)).bind fun s1=>(quoI s1 8).bind fun s2=>some s2
theorem internal_bytealg_Cutover_c (n:Nat) (L:List Nat) (w:World) (_hL:∀ b ∈ L,b < w.heap.size) (a0:Int)  {r:Int} (h:internal_bytealg_Cutover_p n a0 = some r) :
    Calls Tryz.prog 138 #[vI a0] w (Gives w fun _ u=>u = vI r):=by
 unfold internal_bytealg_Cutover_p at h
 have hS0:=AD w
 refine AI Tryz.func138 rfl rfl rfl (fun _ cs0 hb0=>?_)
 refine Ae<|Af rfl<|Aa<|Ae<|Ab rfl ?_
 obtain ⟨s1,hs1,h⟩:=bi h
 refine Ac (By (i:=a0) (j:=16) rfl rfl hs1) ?_
 obtain ⟨s2,hs2,h⟩:=bi h
 refine Ac (FV.quoc (i:=s1) (j:=8) rfl rfl hs2)<|Af rfl<|Aa<|Ao rfl<|AL hb0 Tryz.func138 rfl rfl ?_
 cases h
 exact hS0.gv
def unicode_utf8_RuneStart_p (_n:Nat) (a0:UInt8):Option Bool:=
  some (!(decide (((a0 &&& (192:UInt8)).toNat) = 128)))
theorem unicode_utf8_RuneStart_c (n:Nat) (L:List Nat) (w:World) (_hL:∀ b ∈ L,b < w.heap.size) (a0:UInt8)  {r:Bool} (h:unicode_utf8_RuneStart_p n a0 = some r) :
    Calls Tryz.prog 135 #[.int .u8 (a0.toNat:Int)] w (Gives w fun _ u=>u = .bool r):=by
 unfold unicode_utf8_RuneStart_p at h
 have hS0:=AD w
 refine AI Tryz.func135 rfl rfl rfl (fun _ cs0 hb0=>?_)
 refine Ae<|Af rfl<|Aa<|Ae<|Ab rfl<|Ac (FV.and8 (a:=a0) (b:=(192:UInt8)) rfl rfl)<|Ac (FV.neqN (i:=(a0 &&& (192:UInt8)).toNat) (j:=128) rfl rfl)<|Af rfl<|Aa<|Ao rfl<|AL hb0 Tryz.func135 rfl rfl ?_
 cases h
 exact hS0.gv
def tb98_4:List (Nat × Nat × Nat):=[(0,4194304,1),(0,8388608,2),(2,16777216,8388608),(5,33554432,20971520),(0,67108864,2),(16,134217728,67108864),(40,268435456,167772160),(127,16,268435456)]
theorem body113:bodyB Tryz.prog 113 = true:=by kernel_rfl
theorem body114:bodyB Tryz.prog 114 = true:=by kernel_rfl
theorem body115:bodyB Tryz.prog 115 = true:=by kernel_rfl
theorem body116:bodyB Tryz.prog 116 = true:=by kernel_rfl
theorem body117:bodyB Tryz.prog 117 = true:=by kernel_rfl
theorem body127:bodyB Tryz.prog 127 = true:=by kernel_rfl
def strings_Trim_l1 (_n:Nat) (g0:List Bool) (c0:ByteArray → Option ByteArray):ByteArray → Option ByteArray
  | b0=>(if 0 < b0.size then (b0.data[0]?).bind fun j0=>(g0[j0.toNat]?).bind fun k0=>(if k0 = true then (scut b0 1 (b0.size:Int)).bind fun d0=>c0 d0 else some b0) else some b0)
def strings_Trim_l2 (_n:Nat) (k0:List Bool) (c0:ByteArray → Option ByteArray):ByteArray → Option ByteArray
  | b0=>(if 0 < b0.size then (chk (((b0.size:Nat):Int) - 1)).bind fun d0=>(sidx b0 d0).bind fun p0=>(k0[p0.toNat]?).bind fun q0=>(if q0 = true then (chk (((b0.size:Nat):Int) - 1)).bind fun g0=>(scut b0 0 g0).bind fun j0=>c0 j0 else some b0) else some b0)
def strings_Trim_l3 (_n:Nat) (a1:ByteArray) (g0:Nat × (List Bool) → Option (ByteArray ⊕ (List Bool))):Nat × (List Bool) → Option (ByteArray ⊕ (List Bool))
  | (b0,c0)=>(if b0 < a1.size then (a1.data[b0]?).bind fun d0=>(if 128 ≤ d0.toNat then (none).map .inl else (c0[d0.toNat]?).bind fun _z82=>g0 (b0 + 1,(c0.set d0.toNat true))) else some (.inr c0))
def strings_Trim_l4 (_n:Nat) (g0:List Bool) (c0:ByteArray → Option ByteArray):ByteArray → Option ByteArray
  | b0=>(if 0 < b0.size then (b0.data[0]?).bind fun j0=>(g0[j0.toNat]?).bind fun k0=>(if k0 = true then (scut b0 1 (b0.size:Int)).bind fun d0=>c0 d0 else some b0) else some b0)
def strings_Trim_l5 (_n:Nat) (k0:List Bool) (c0:ByteArray → Option ByteArray):ByteArray → Option ByteArray
  | b0=>(if 0 < b0.size then (chk (((b0.size:Nat):Int) - 1)).bind fun d0=>(sidx b0 d0).bind fun p0=>(k0[p0.toNat]?).bind fun q0=>(if q0 = true then (chk (((b0.size:Nat):Int) - 1)).bind fun g0=>(scut b0 0 g0).bind fun j0=>c0 j0 else some b0) else some b0)
def strings_Trim_l6 (_n:Nat) (a1:ByteArray) (g0:Int × (List Bool) → Option (ByteArray ⊕ (List Bool))):Int × (List Bool) → Option (ByteArray ⊕ (List Bool))
  | (c0,b0)=>(if c0 < ((a1.size:Nat):Int) then (sidx a1 c0).bind fun d0=>(if 128 ≤ d0.toNat then (none).map .inl else (b0[d0.toNat]?).bind fun _z372=>(chk (c0 + 1)).bind fun j0=>g0 (j0,(b0.set d0.toNat true))) else some (.inr b0))
def strings_Trim_p (n:Nat) (a0:ByteArray) (a1:ByteArray):Option ByteArray:=
  (if a0 = ⟨#[]⟩ then some a0 else (if a1 = ⟨#[]⟩ then some a0 else (if a1.size = 1 then (a1.data[0]?).bind fun z4=>(if z4.toNat < 128 then (a1.data[0]?).bind fun z8=>(strings_trimRightByte_p n a0 z8).bind fun y9=>(a1.data[0]?).bind fun v0=>(strings_trimLeftByte_p n y9 v0).bind fun u0=>some u0 else thn (loopF (strings_Trim_l3 n a1) n (0,(List.replicate 256 false))) (fun c0=>jn (fun p0=>jn (fun q0=>some q0) (fun g0=>Option.bind (loopF (strings_Trim_l1 n c0) n p0) (g0))) (fun d0=>Option.bind (loopF (strings_Trim_l2 n c0) n a0) (d0)))) else thn (loopF (strings_Trim_l6 n a1) n (0,(List.replicate 256 false))) (fun b0=>jn (fun s0=>jn (fun t0=>some t0) (fun k0=>Option.bind (loopF (strings_Trim_l4 n b0) n s0) (k0))) (fun j0=>Option.bind (loopF (strings_Trim_l5 n b0) n a0) (j0))))))
theorem strings_Trim_c (n:Nat) (L:List Nat) (w:World) (hL:∀ b ∈ L,b < w.heap.size) (a0:ByteArray) (a1:ByteArray)  {r:ByteArray} (h:strings_Trim_p n a0 a1 = some r) :
    Calls Tryz.prog 98 #[.string a0,.string a1] w (Gives w fun _ u=>u = .string r):=by
 unfold strings_Trim_p at h
 have hS0:=AD w
 refine AI Tryz.func98 rfl rfl rfl (fun _ cs0 hb0=>?_)
 refine Ae<|Af rfl<|Aa<|Aj<|Ae<|Ab rfl<|Ac (FV.eqlS rfl rfl)<|Ab rfl<|Bx (s:=9) rfl h (fun c1 h=>?_) (fun c1 h=>?_)
 refine Ag<|Ag<|AG rfl rfl<|Aa<|Bq rfl<|Ae<|Ab rfl<|Af rfl<|Aa<|Ao rfl<|AL hb0 Tryz.func98 rfl rfl ?_
 cases h
 exact hS0.gv
 refine Ar (Ah rfl)<|Ar (FV.eqlS rfl rfl)<|Bd rfl rfl<|Aa<|AM rfl h (fun c2 h=>?_) (fun c2 h=>?_)
 refine Ae<|Ab rfl<|Af rfl<|Aa<|Ao rfl<|AL hb0 Tryz.func98 rfl rfl ?_
 cases h
 exact hS0.gv
 refine Am<|Aj<|Ae<|Ab rfl<|Ac (BA Tryz.underlying9 rfl)<|Ac (BG (i:=a1.size) (j:=1) rfl rfl)<|Ab rfl<|Bx (s:=17) rfl h (fun c3 h=>?_) (fun c3 h=>?_)
 refine Ar (Ah rfl) ?_
 obtain ⟨z4,hz4,h⟩:=bi h
 refine Ar (FV.strAt (k:=0) Tryz.underlying9 rfl rfl rfl hz4)<|Ar (Bg (i:=z4.toNat) (j:=128) rfl rfl)<|AG rfl rfl<|Aa<|AM rfl h (fun c5 h=>?_) (fun c5 h=>?_)
 refine Aj<|dt 8 tb98_4 (fun kt6 kp7=>?_)
 refine Ai 0 1 kt6 rfl kp7 (fun _=>Ah rfl) rfl<|Ai 1 3 kt6 rfl kp7 (fun _=>Ah rfl) rfl ?_
 obtain ⟨z8,hz8,h⟩:=bi h
 refine Ai 2 7 kt6 rfl kp7 (fun _=>FV.strAt (k:=0) Tryz.underlying9 rfl rfl rfl hz8) rfl ?_
 obtain ⟨y9,hy9,h⟩:=bi h
 refine RD.cq 3 15 192 (.string y9) kt6 rfl kp7 body114 rfl (e2 rfl rfl) (fun w9 hw9=>strings_trimRightByte_c n _ w9 (hS0.hL0 hL hw9) a0 z8 hy9) rfl<|Ai 4 31 kt6 rfl kp7 (fun _=>Ah rfl) rfl ?_
 obtain ⟨Q4,u4,h⟩:=bi h
 refine Ai 5 63 kt6 rfl kp7 (fun _=>FV.strAt (k:=0) Tryz.underlying9 rfl rfl rfl u4) rfl ?_
 obtain ⟨P4,t4,h⟩:=bi h
 refine RD.cq 6 127 128 (.string P4) kt6 rfl kp7 body113 rfl (e2 rfl rfl) (fun w9 hw9=>strings_trimLeftByte_c n _ w9 (hS0.hL0 hL hw9) y9 Q4 t4) rfl<|Ai 7 255 kt6 rfl kp7 (fun _=>Bw rfl) rfl<|AX (dk kt6)<|Ao rfl<|AL hb0 Tryz.func98 rfl rfl ?_
 cases h
 exact hS0.gv
 refine Am<|Aj<|Ae<|Ab rfl<|BE (fst:=[]) (cap:=[]) (vs:=[.string a1]) .plain body115 Tryz.func115 rfl rfl rfl rfl (e1 rfl) rfl (fun v5 H1 q6=>?_)
 refine Ae ?_
 have A3:(List.replicate 256 false).length = 256:=List.length_replicate
 refine Az .plain rfl (Ba ((List.replicate 256 false).map (fun z9:Bool=>(.bool z9:Value))) hS0) (fun K4 z0 F2 I5=>?_)
 refine Af rfl<|Aa<|Aj<|Ae<|Af rfl<|Aa<|Au ?_
 obtain ⟨G6,W3,R1⟩:=thn_in h
 refine AW (α:=Nat × (List Bool)) (fun ⟨s0,c0⟩=>[(0,.string a1),(2,vP z0),(4,vI ((s0:Nat):Int))]) (fun ⟨s0,c0⟩ p1=>St w p1 [.cells z0 (c0.map (fun z9:Bool=>(.bool z9:Value))) 165]∧Tr K4 [.cells z0 ((List.replicate 256 false).map (fun z9:Bool=>(.bool z9:Value))) 165] p1 [.cells z0 (c0.map (fun z9:Bool=>(.bool z9:Value))) 165]∧c0.length = 256) (fun ⟨s0,c0⟩=>(s0,c0)) (0,(List.replicate 256 false)) W3 ⟨rfl,rfl,rfl,trivial⟩ ⟨F2,AA _ _,A3⟩ ?_
 rintro q5 ⟨s0,c0⟩ p1 D2 ⟨C0,d3,k0⟩ h
 unfold strings_Trim_l3 at h
 try dsimp only at h
 refine Aj<|Ae<|Ab rfl<|Ab rfl<|Ac (BA Tryz.underlying9 rfl)<|Ac (Bg (i:=s0) (j:=a1.size) rfl rfl)<|Aa<|AM rfl h (fun v2 h=>?_) (fun v2 h=>?_)
 refine Am<|Aj<|Au<|Ae<|Ab rfl<|Ab rfl ?_
 obtain ⟨G0,C4,h⟩:=bi h
 refine Ac (FV.strAt (k:=s0) Tryz.underlying9 rfl rfl rfl C4)<|Af rfl<|Aa<|Aj<|Ae<|Ab rfl<|Ac (FV.geqN (i:=G0.toNat) (j:=128) rfl rfl)<|Aa<|AM rfl h (fun x2 h=>?_) (fun x2 h=>?_)
 refine Ae<|Ac (FV.loadN (cs:=c0.map (fun z9:Bool=>(.bool z9:Value))) (by rw [List.length_map,k0]; kernel_rfl) rfl (C0.memA .hd))<|RG.now .plain (Acts.storeBig (fun z9:Bool=>(.bool z9:Value)) (m:=256) k0 k0 C0 .hd rfl rfl (by kernel_rfl) (fun _=>rfl)) (fun U6 D1 Y5=>?_)
 refine Af rfl<|Aa ?_
 have h:=thn_map h R1
 refine Ao rfl<|AB (u:=.tuple #[.agg (c0.map (fun z9:Bool=>(.bool z9:Value))).toArray,.bool false]) H1 Tryz.func115 rfl (.cons (.many (cs:=c0.map (fun z9:Bool=>(.bool z9:Value))) (by rw [List.length_map,k0]; kernel_rfl) rfl (D1.memA .hd)) (.cons (.tmp rfl) .nil)) rfl<|Ab rfl<|Ac (Ak rfl rfl)<|Ac (Ak rfl rfl) ?_
 have F3:(List.replicate 256 false).length = 256:=List.length_replicate
 refine Az .plain rfl (Ba ((List.replicate 256 false).map (fun z9:Bool=>(.bool z9:Value))) D1) (fun V6 t5 V2 Z5=>?_)
 refine RG.now .plain (Acts.storeBig (fun z9:Bool=>(.bool z9:Value)) (m:=256) F3 k0 V2 .hd rfl rfl (by kernel_rfl) (fun _=>rfl)) (fun W6 G5 b6=>?_)
 refine Af rfl<|Aa<|Ae<|Ab rfl<|Aa<|Bv rfl<|Am<|Ae<|Ab rfl<|Ab rfl ?_
 cases h
 refine Am<|Al<|Ab rfl ?_
 obtain ⟨c7,X0,h⟩:=bi h
 have k6:=mem_elem1 (p:=⟨z0,0,none⟩) (cs:=c0.map (fun z9:Bool=>(.bool z9:Value))) (i:=G0.toNat) (C0.memA .hd) (arr_get0 (fun z9:Bool=>(.bool z9:Value)) X0)
 refine Ac (Bj (m:=1) (k:=G0.toNat) (len:=256) (by kernel_rfl) rfl rfl rfl (arr_lt X0 k0)) ?_
 have G3:(c0.set G0.toNat true).length = 256:=by rw [List.length_set]; exact k0
 refine RG.now .plain (Acts.setBig (fun z9:Bool=>(.bool z9:Value)) (i:=G0.toNat) (x:=true) (m:=256) k0 (arr_lt X0 k0) C0 .hd rfl (addr_at _ _ _) rfl (by kernel_rfl) (fun _=>⟨rfl,rfl⟩)) (fun X6 W2 g3=>?_)
 refine Aa<|Aq<|Al<|Ab rfl<|Ac (AT (i:=s0) (j:=1) rfl rfl (by omega))<|Af rfl<|Aa ?_
 exact D2 (s0 + 1,(c0.set G0.toNat true)) _ _ ⟨rfl,rfl,rfl,trivial⟩ ⟨W2,(Tt d3 g3),G3⟩ h
 refine AR rfl ?_
 have h:=thn_inr h R1
 try dsimp only at h
 refine Ae<|Ac (FV.loadN (cs:=c0.map (fun z9:Bool=>(.bool z9:Value))) (by rw [List.length_map,k0]; kernel_rfl) rfl (C0.memA .hd))<|RG.now .plain (Acts.storeBig (fun z9:Bool=>(.bool z9:Value)) (m:=256) k0 k0 C0 .hd rfl rfl (by kernel_rfl) (fun _=>rfl)) (fun Y6 E1 c6=>?_)
 refine Af rfl<|Aa<|Ao rfl<|AB (u:=.tuple #[.agg (c0.map (fun z9:Bool=>(.bool z9:Value))).toArray,.bool true]) H1 Tryz.func115 rfl (.cons (.many (cs:=c0.map (fun z9:Bool=>(.bool z9:Value))) (by rw [List.length_map,k0]; kernel_rfl) rfl (E1.memA .hd)) (.cons (.tmp rfl) .nil)) rfl<|Ab rfl<|Ac (Ak rfl rfl)<|Ac (Ak rfl rfl) ?_
 have H3:(List.replicate 256 false).length = 256:=List.length_replicate
 refine Az .plain rfl (Ba ((List.replicate 256 false).map (fun z9:Bool=>(.bool z9:Value))) E1) (fun Z6 g0 X2 d6=>?_)
 refine RG.now .plain (Acts.storeBig (fun z9:Bool=>(.bool z9:Value)) (m:=256) H3 k0 X2 .hd rfl rfl (by kernel_rfl) (fun _=>rfl)) (fun Z1 Y2 g6=>?_)
 refine Af rfl<|Aa<|Ae<|Ab rfl<|Aa<|Bq rfl<|Ae<|Ab rfl<|BE (fst:=[]) (cap:=[]) (vs:=[.string a0,vP g0]) .plain body117 Tryz.func117 rfl rfl rfl rfl (e2 rfl rfl) rfl (fun u5 j3 p6=>?_)
 refine Ae<|Af rfl<|Aa<|Aj<|Au<|MX.joinx (α:=ByteArray) (fun t0=>[(0,.string t0)]) (fun t0 H0=>St w H0 [.cells g0 (c0.map (fun z9:Bool=>(.bool z9:Value))) 165]∧Tr Z1 [.cells g0 (c0.map (fun z9:Bool=>(.bool z9:Value))) 165,.cells z0 (c0.map (fun z9:Bool=>(.bool z9:Value))) 165] H0 [.cells g0 (c0.map (fun z9:Bool=>(.bool z9:Value))) 165]) (fun t0=>t0) (id:=0) rfl h ?_ ?_
 rintro t0 H0 ⟨E2,H5⟩ h
 try dsimp only at h
 refine Ae<|Ab rfl<|Af rfl<|Aa<|Ao rfl<|AB (u:=.string t0) j3 Tryz.func117 rfl (.cons (.tmp rfl) .nil) rfl<|BE (fst:=[]) (cap:=[]) (vs:=[.string t0,vP g0]) .plain body116 Tryz.func116 rfl rfl rfl rfl (e2 rfl rfl) rfl (fun x5 k3 s6=>?_)
 refine Ae<|Af rfl<|Aa<|Aj<|Au<|MX.joinx (α:=ByteArray) (fun D0=>[(0,.string D0)]) (fun D0 Y0=>St w Y0 [.cells g0 (c0.map (fun z9:Bool=>(.bool z9:Value))) 165]∧Tr H0 [.cells g0 (c0.map (fun z9:Bool=>(.bool z9:Value))) 165] Y0 [.cells g0 (c0.map (fun z9:Bool=>(.bool z9:Value))) 165]) (fun D0=>D0) (id:=0) rfl h ?_ ?_
 rintro D0 Y0 ⟨G2,J5⟩ h
 try dsimp only at h
 refine Ae<|Ab rfl<|Af rfl<|Aa<|Ao rfl<|AB (u:=.string D0) k3 Tryz.func116 rfl (.cons (.tmp rfl) .nil) rfl<|Af rfl<|Aa<|Ao rfl<|AL hb0 Tryz.func98 rfl rfl ?_
 cases h
 exact G2.gv
 intro Y4 y1 h
 try dsimp only at h
 obtain ⟨B6,P3,J1⟩:=bind_in2 h
 refine AW (α:=ByteArray) (fun u0=>[(0,.string u0),(1,vP g0)]) (fun u0 Z0=>St w Z0 [.cells g0 (c0.map (fun z9:Bool=>(.bool z9:Value))) 165]∧Tr H0 [.cells g0 (c0.map (fun z9:Bool=>(.bool z9:Value))) 165] Z0 [.cells g0 (c0.map (fun z9:Bool=>(.bool z9:Value))) 165]) (fun u0=>u0) t0 P3 ⟨rfl,rfl,trivial⟩ ⟨E2,AA _ _⟩ ?_
 rintro Z4 u0 Z0 y2 ⟨J0,Q0⟩ h
 unfold strings_Trim_l1 at h
 try dsimp only at h
 refine Aj<|Ae<|Ab rfl<|Ac (BA Tryz.underlying9 rfl)<|Ac (FV.gtrN (i:=u0.size) (j:=0) rfl rfl)<|Aa<|AM rfl h (fun b2 h=>?_) (fun b2 h=>?_)
 refine Am<|Au<|Aj<|Ae<|Ab rfl<|Ab rfl ?_
 obtain ⟨q1,v4,h⟩:=bi h
 refine Ac (FV.strAt (k:=0) Tryz.underlying9 rfl rfl rfl v4)<|BE (fst:=[]) (cap:=[]) (vs:=[vP g0,.int .u8 (q1.toNat:Int)]) .plain body127 Tryz.func127 rfl rfl rfl rfl (e2 rfl rfl) rfl (fun y5 p3 t6=>?_)
 refine Ae<|Af rfl<|Aa<|Ae<|Ab rfl<|Ab rfl<|Ac (BB rfl) ?_
 obtain ⟨R4,U1,h⟩:=bi h
 have I3:=mem_elem1 (p:=⟨g0,0,none⟩) (cs:=c0.map (fun z9:Bool=>(.bool z9:Value))) (i:=q1.toNat) (J0.memA .hd) (arr_get0 (fun z9:Bool=>(.bool z9:Value)) U1)
 refine Ac (Bj (m:=1) (k:=q1.toNat) (len:=256) (by kernel_rfl) rfl rfl rfl (arr_lt U1 k0))<|AN rfl (I3 0 _ rfl)<|Af rfl<|Aa<|Ao rfl<|AB (u:=.bool R4) p3 Tryz.func127 rfl (.cons (.tmp rfl) .nil) rfl<|Ac (Be rfl)<|Aa<|MX.ifnb rfl h (fun d2 h=>?_) (fun d2 h=>?_)
 refine Am<|Al<|Ab rfl ?_
 obtain ⟨D4,X3,h⟩:=bi h
 refine Ac (FV.strCut X3 Tryz.underlying9 rfl ⟨_,rfl⟩ rfl)<|Af rfl<|Aa<|Aq ?_
 exact y2 D4 _ _ ⟨rfl,rfl,trivial⟩ ⟨J0,Q0⟩ h
 refine AR rfl ?_
 have h:=J1 _ h
 try dsimp only at h
 exact y1 u0 _ _ ⟨rfl,trivial⟩ ⟨J0,Q0⟩ h
 refine AR rfl ?_
 have h:=J1 _ h
 try dsimp only at h
 exact y1 u0 _ _ ⟨rfl,trivial⟩ ⟨J0,Q0⟩ h
 intro X4 x1 h
 try dsimp only at h
 obtain ⟨H2,F1⟩:=Ay Y2 (.one .hd .done)
 obtain ⟨C6,Q3,K1⟩:=bind_in2 h
 refine AW (α:=ByteArray) (fun p0=>[(0,.string p0),(1,vP g0)]) (fun p0 b1=>St w b1 [.cells g0 (c0.map (fun z9:Bool=>(.bool z9:Value))) 165]∧Tr Z1 [.cells g0 (c0.map (fun z9:Bool=>(.bool z9:Value))) 165] b1 [.cells g0 (c0.map (fun z9:Bool=>(.bool z9:Value))) 165]) (fun p0=>p0) a0 Q3 ⟨rfl,rfl,trivial⟩ ⟨H2,AA _ _⟩ ?_
 rintro b5 p0 b1 z2 ⟨K0,R0⟩ h
 unfold strings_Trim_l2 at h
 try dsimp only at h
 refine Aj<|Ae<|Ab rfl<|Ac (BA Tryz.underlying9 rfl)<|Ac (FV.gtrN (i:=p0.size) (j:=0) rfl rfl)<|Aa<|AM rfl h (fun g2 h=>?_) (fun g2 h=>?_)
 refine Am<|Au<|Aj<|Ae<|Ab rfl<|Ab rfl<|Ab rfl<|Ac (BA Tryz.underlying9 rfl) ?_
 obtain ⟨E4,Y3,h⟩:=bi h
 refine Ac (FV.subc (i:=((p0.size:Nat):Int)) (j:=1) rfl rfl Y3) ?_
 obtain ⟨s1,x4,h⟩:=bi h
 obtain ⟨x3,p4⟩:=sidx_in x4
 refine Ac (FV.strAt (k:=E4.toNat) Tryz.underlying9 rfl rfl x3 p4)<|BE (fst:=[]) (cap:=[]) (vs:=[vP g0,.int .u8 (s1.toNat:Int)]) .plain body127 Tryz.func127 rfl rfl rfl rfl (e2 rfl rfl) rfl (fun z5 q3 u6=>?_)
 refine Ae<|Af rfl<|Aa<|Ae<|Ab rfl<|Ab rfl<|Ac (BB rfl) ?_
 obtain ⟨U4,V1,h⟩:=bi h
 have J3:=mem_elem1 (p:=⟨g0,0,none⟩) (cs:=c0.map (fun z9:Bool=>(.bool z9:Value))) (i:=s1.toNat) (K0.memA .hd) (arr_get0 (fun z9:Bool=>(.bool z9:Value)) V1)
 refine Ac (Bj (m:=1) (k:=s1.toNat) (len:=256) (by kernel_rfl) rfl rfl rfl (arr_lt V1 k0))<|AN rfl (J3 0 _ rfl)<|Af rfl<|Aa<|Ao rfl<|AB (u:=.bool U4) q3 Tryz.func127 rfl (.cons (.tmp rfl) .nil) rfl<|Ac (Be rfl)<|Aa<|MX.ifnb rfl h (fun j2 h=>?_) (fun j2 h=>?_)
 refine Am<|Al<|Ab rfl<|Ab rfl<|Ac (BA Tryz.underlying9 rfl) ?_
 obtain ⟨H6,Z3,h⟩:=bi h
 refine Ac (FV.subc (i:=((p0.size:Nat):Int)) (j:=1) rfl rfl Z3) ?_
 obtain ⟨F4,b4,h⟩:=bi h
 refine Ac (FV.strCut b4 Tryz.underlying9 rfl rfl ⟨_,rfl⟩)<|Af rfl<|Aa<|Aq ?_
 exact z2 F4 _ _ ⟨rfl,rfl,trivial⟩ ⟨K0,R0⟩ h
 refine AR rfl ?_
 have h:=K1 _ h
 try dsimp only at h
 exact x1 p0 _ _ ⟨rfl,trivial⟩ ⟨K0,(Tt F1 R0)⟩ h
 refine AR rfl ?_
 have h:=K1 _ h
 try dsimp only at h
 exact x1 p0 _ _ ⟨rfl,trivial⟩ ⟨K0,(Tt F1 R0)⟩ h
 refine Ag<|Ag<|Ag<|Bd rfl rfl<|Aa<|Bv rfl<|Am<|Aj<|Ae<|Ab rfl<|BE (fst:=[]) (cap:=[]) (vs:=[.string a1]) .plain body115 Tryz.func115 rfl rfl rfl rfl (e1 rfl) rfl (fun A5 I1 v6=>?_)
 refine Ae ?_
 have B3:(List.replicate 256 false).length = 256:=List.length_replicate
 refine Az .plain rfl (Ba ((List.replicate 256 false).map (fun z9:Bool=>(.bool z9:Value))) hS0) (fun M4 A0 I2 K5=>?_)
 refine Af rfl<|Aa<|Aj<|Ae<|Af rfl<|Aa<|Au ?_
 obtain ⟨D6,R3,M1⟩:=thn_in h
 refine AW (α:=Int × (List Bool)) (fun ⟨y0,b0⟩=>[(0,.string a1),(2,vP A0),(4,vI y0)]) (fun ⟨y0,b0⟩ d1=>St w d1 [.cells A0 (b0.map (fun z9:Bool=>(.bool z9:Value))) 165]∧Tr M4 [.cells A0 ((List.replicate 256 false).map (fun z9:Bool=>(.bool z9:Value))) 165] d1 [.cells A0 (b0.map (fun z9:Bool=>(.bool z9:Value))) 165]∧b0.length = 256) (fun ⟨y0,b0⟩=>(y0,b0)) (0,(List.replicate 256 false)) R3 ⟨rfl,rfl,rfl,trivial⟩ ⟨I2,AA _ _,B3⟩ ?_
 rintro d5 ⟨y0,b0⟩ d1 A2 ⟨B0,Z2,j0⟩ h
 unfold strings_Trim_l6 at h
 try dsimp only at h
 refine Aj<|Ae<|Ab rfl<|Ab rfl<|Ac (BA Tryz.underlying9 rfl)<|Ac (FV.lss (i:=y0) (j:=((a1.size:Nat):Int)) rfl rfl)<|Aa<|AM rfl h (fun k2 h=>?_) (fun k2 h=>?_)
 refine Am<|Aj<|Au<|Ae<|Ab rfl<|Ab rfl ?_
 obtain ⟨F0,y4,h⟩:=bi h
 obtain ⟨y3,q4⟩:=sidx_in y4
 refine Ac (FV.strAt (k:=y0.toNat) Tryz.underlying9 rfl rfl y3 q4)<|Af rfl<|Aa<|Aj<|Ae<|Ab rfl<|Ac (FV.geqN (i:=F0.toNat) (j:=128) rfl rfl)<|Aa<|AM rfl h (fun p2 h=>?_) (fun p2 h=>?_)
 refine Ae<|Ac (FV.loadN (cs:=b0.map (fun z9:Bool=>(.bool z9:Value))) (by rw [List.length_map,j0]; kernel_rfl) rfl (B0.memA .hd))<|RG.now .plain (Acts.storeBig (fun z9:Bool=>(.bool z9:Value)) (m:=256) j0 j0 B0 .hd rfl rfl (by kernel_rfl) (fun _=>rfl)) (fun J6 B1 M5=>?_)
 refine Af rfl<|Aa ?_
 have h:=thn_map h M1
 refine Ao rfl<|AB (u:=.tuple #[.agg (b0.map (fun z9:Bool=>(.bool z9:Value))).toArray,.bool false]) I1 Tryz.func115 rfl (.cons (.many (cs:=b0.map (fun z9:Bool=>(.bool z9:Value))) (by rw [List.length_map,j0]; kernel_rfl) rfl (B1.memA .hd)) (.cons (.tmp rfl) .nil)) rfl<|Ab rfl<|Ac (Ak rfl rfl)<|Ac (Ak rfl rfl) ?_
 have C3:(List.replicate 256 false).length = 256:=List.length_replicate
 refine Az .plain rfl (Ba ((List.replicate 256 false).map (fun z9:Bool=>(.bool z9:Value))) B1) (fun K6 s5 J2 P5=>?_)
 refine RG.now .plain (Acts.storeBig (fun z9:Bool=>(.bool z9:Value)) (m:=256) C3 j0 J2 .hd rfl rfl (by kernel_rfl) (fun _=>rfl)) (fun M6 F5 Q5=>?_)
 refine Af rfl<|Aa<|Ae<|Ab rfl<|Aa<|Bv rfl<|Am<|Ae<|Ab rfl<|Ab rfl ?_
 cases h
 refine Am<|Al<|Ab rfl ?_
 obtain ⟨b7,W0,h⟩:=bi h
 have j6:=mem_elem1 (p:=⟨A0,0,none⟩) (cs:=b0.map (fun z9:Bool=>(.bool z9:Value))) (i:=F0.toNat) (B0.memA .hd) (arr_get0 (fun z9:Bool=>(.bool z9:Value)) W0)
 refine Ac (Bj (m:=1) (k:=F0.toNat) (len:=256) (by kernel_rfl) rfl rfl rfl (arr_lt W0 j0)) ?_
 have D3:(b0.set F0.toNat true).length = 256:=by rw [List.length_set]; exact j0
 refine RG.now .plain (Acts.setBig (fun z9:Bool=>(.bool z9:Value)) (i:=F0.toNat) (x:=true) (m:=256) j0 (arr_lt W0 j0) B0 .hd rfl (addr_at _ _ _) rfl (by kernel_rfl) (fun _=>⟨rfl,rfl⟩)) (fun P6 K2 b3=>?_)
 refine Aa<|Aq<|Al<|Ab rfl ?_
 obtain ⟨G4,c4,h⟩:=bi h
 refine Ac (By (i:=y0) (j:=1) rfl rfl c4)<|Af rfl<|Aa ?_
 exact A2 (G4,(b0.set F0.toNat true)) _ _ ⟨rfl,rfl,rfl,trivial⟩ ⟨K2,(Tt Z2 b3),D3⟩ h
 refine AR rfl ?_
 have h:=thn_inr h M1
 try dsimp only at h
 refine Ae<|Ac (FV.loadN (cs:=b0.map (fun z9:Bool=>(.bool z9:Value))) (by rw [List.length_map,j0]; kernel_rfl) rfl (B0.memA .hd))<|RG.now .plain (Acts.storeBig (fun z9:Bool=>(.bool z9:Value)) (m:=256) j0 j0 B0 .hd rfl rfl (by kernel_rfl) (fun _=>rfl)) (fun Q6 C1 R5=>?_)
 refine Af rfl<|Aa<|Ao rfl<|AB (u:=.tuple #[.agg (b0.map (fun z9:Bool=>(.bool z9:Value))).toArray,.bool true]) I1 Tryz.func115 rfl (.cons (.many (cs:=b0.map (fun z9:Bool=>(.bool z9:Value))) (by rw [List.length_map,j0]; kernel_rfl) rfl (C1.memA .hd)) (.cons (.tmp rfl) .nil)) rfl<|Ab rfl<|Ac (Ak rfl rfl)<|Ac (Ak rfl rfl) ?_
 have E3:(List.replicate 256 false).length = 256:=List.length_replicate
 refine Az .plain rfl (Ba ((List.replicate 256 false).map (fun z9:Bool=>(.bool z9:Value))) C1) (fun R6 d0 M2 U5=>?_)
 refine RG.now .plain (Acts.storeBig (fun z9:Bool=>(.bool z9:Value)) (m:=256) E3 j0 M2 .hd rfl rfl (by kernel_rfl) (fun _=>rfl)) (fun Y1 P2 V5=>?_)
 refine Af rfl<|Aa<|Ae<|Ab rfl<|Aa<|Bq rfl<|Ae<|Ab rfl<|BE (fst:=[]) (cap:=[]) (vs:=[.string a0,vP d0]) .plain body117 Tryz.func117 rfl rfl rfl rfl (e2 rfl rfl) rfl (fun B5 s3 x6=>?_)
 refine Ae<|Af rfl<|Aa<|Aj<|Au<|MX.joinx (α:=ByteArray) (fun v0=>[(0,.string v0)]) (fun v0 I0=>St w I0 [.cells d0 (b0.map (fun z9:Bool=>(.bool z9:Value))) 165]∧Tr Y1 [.cells d0 (b0.map (fun z9:Bool=>(.bool z9:Value))) 165,.cells A0 (b0.map (fun z9:Bool=>(.bool z9:Value))) 165] I0 [.cells d0 (b0.map (fun z9:Bool=>(.bool z9:Value))) 165]) (fun v0=>v0) (id:=0) rfl h ?_ ?_
 rintro v0 I0 ⟨Q2,W5⟩ h
 try dsimp only at h
 refine Ae<|Ab rfl<|Af rfl<|Aa<|Ao rfl<|AB (u:=.string v0) s3 Tryz.func117 rfl (.cons (.tmp rfl) .nil) rfl<|BE (fst:=[]) (cap:=[]) (vs:=[.string v0,vP d0]) .plain body116 Tryz.func116 rfl rfl rfl rfl (e2 rfl rfl) rfl (fun C5 t3 y6=>?_)
 refine Ae<|Af rfl<|Aa<|Aj<|Au<|MX.joinx (α:=ByteArray) (fun E0=>[(0,.string E0)]) (fun E0 g1=>St w g1 [.cells d0 (b0.map (fun z9:Bool=>(.bool z9:Value))) 165]∧Tr I0 [.cells d0 (b0.map (fun z9:Bool=>(.bool z9:Value))) 165] g1 [.cells d0 (b0.map (fun z9:Bool=>(.bool z9:Value))) 165]) (fun E0=>E0) (id:=0) rfl h ?_ ?_
 rintro E0 g1 ⟨R2,X5⟩ h
 try dsimp only at h
 refine Ae<|Ab rfl<|Af rfl<|Aa<|Ao rfl<|AB (u:=.string E0) t3 Tryz.func116 rfl (.cons (.tmp rfl) .nil) rfl<|Af rfl<|Aa<|Ao rfl<|AL hb0 Tryz.func98 rfl rfl ?_
 cases h
 exact R2.gv
 intro j5 A1 h
 try dsimp only at h
 obtain ⟨E6,U3,P1⟩:=bind_in2 h
 refine AW (α:=ByteArray) (fun x0=>[(0,.string x0),(1,vP d0)]) (fun x0 j1=>St w j1 [.cells d0 (b0.map (fun z9:Bool=>(.bool z9:Value))) 165]∧Tr I0 [.cells d0 (b0.map (fun z9:Bool=>(.bool z9:Value))) 165] j1 [.cells d0 (b0.map (fun z9:Bool=>(.bool z9:Value))) 165]) (fun x0=>x0) v0 U3 ⟨rfl,rfl,trivial⟩ ⟨Q2,AA _ _⟩ ?_
 rintro k5 x0 j1 B2 ⟨M0,U0⟩ h
 unfold strings_Trim_l4 at h
 try dsimp only at h
 refine Aj<|Ae<|Ab rfl<|Ac (BA Tryz.underlying9 rfl)<|Ac (FV.gtrN (i:=x0.size) (j:=0) rfl rfl)<|Aa<|AM rfl h (fun q2 h=>?_) (fun q2 h=>?_)
 refine Am<|Au<|Aj<|Ae<|Ab rfl<|Ab rfl ?_
 obtain ⟨u1,A4,h⟩:=bi h
 refine Ac (FV.strAt (k:=0) Tryz.underlying9 rfl rfl rfl A4)<|BE (fst:=[]) (cap:=[]) (vs:=[vP d0,.int .u8 (u1.toNat:Int)]) .plain body127 Tryz.func127 rfl rfl rfl rfl (e2 rfl rfl) rfl (fun D5 u3 z6=>?_)
 refine Ae<|Af rfl<|Aa<|Ae<|Ab rfl<|Ab rfl<|Ac (BB rfl) ?_
 obtain ⟨V4,W1,h⟩:=bi h
 have K3:=mem_elem1 (p:=⟨d0,0,none⟩) (cs:=b0.map (fun z9:Bool=>(.bool z9:Value))) (i:=u1.toNat) (M0.memA .hd) (arr_get0 (fun z9:Bool=>(.bool z9:Value)) W1)
 refine Ac (Bj (m:=1) (k:=u1.toNat) (len:=256) (by kernel_rfl) rfl rfl rfl (arr_lt W1 j0))<|AN rfl (K3 0 _ rfl)<|Af rfl<|Aa<|Ao rfl<|AB (u:=.bool V4) u3 Tryz.func127 rfl (.cons (.tmp rfl) .nil) rfl<|Ac (Be rfl)<|Aa<|MX.ifnb rfl h (fun s2 h=>?_) (fun s2 h=>?_)
 refine Am<|Al<|Ab rfl ?_
 obtain ⟨H4,d4,h⟩:=bi h
 refine Ac (FV.strCut d4 Tryz.underlying9 rfl ⟨_,rfl⟩ rfl)<|Af rfl<|Aa<|Aq ?_
 exact B2 H4 _ _ ⟨rfl,rfl,trivial⟩ ⟨M0,U0⟩ h
 refine AR rfl ?_
 have h:=P1 _ h
 try dsimp only at h
 exact A1 x0 _ _ ⟨rfl,trivial⟩ ⟨M0,U0⟩ h
 refine AR rfl ?_
 have h:=P1 _ h
 try dsimp only at h
 exact A1 x0 _ _ ⟨rfl,trivial⟩ ⟨M0,U0⟩ h
 intro g5 z1 h
 try dsimp only at h
 obtain ⟨U2,G1⟩:=Ay P2 (.one .hd .done)
 obtain ⟨F6,V3,Q1⟩:=bind_in2 h
 refine AW (α:=ByteArray) (fun q0=>[(0,.string q0),(1,vP d0)]) (fun q0 k1=>St w k1 [.cells d0 (b0.map (fun z9:Bool=>(.bool z9:Value))) 165]∧Tr Y1 [.cells d0 (b0.map (fun z9:Bool=>(.bool z9:Value))) 165] k1 [.cells d0 (b0.map (fun z9:Bool=>(.bool z9:Value))) 165]) (fun q0=>q0) a0 V3 ⟨rfl,rfl,trivial⟩ ⟨U2,AA _ _⟩ ?_
 rintro p5 q0 k1 C2 ⟨P0,V0⟩ h
 unfold strings_Trim_l5 at h
 try dsimp only at h
 refine Aj<|Ae<|Ab rfl<|Ac (BA Tryz.underlying9 rfl)<|Ac (FV.gtrN (i:=q0.size) (j:=0) rfl rfl)<|Aa<|AM rfl h (fun t2 h=>?_) (fun t2 h=>?_)
 refine Am<|Au<|Aj<|Ae<|Ab rfl<|Ab rfl<|Ab rfl<|Ac (BA Tryz.underlying9 rfl) ?_
 obtain ⟨I4,g4,h⟩:=bi h
 refine Ac (FV.subc (i:=((q0.size:Nat):Int)) (j:=1) rfl rfl g4) ?_
 obtain ⟨v1,B4,h⟩:=bi h
 obtain ⟨z3,s4⟩:=sidx_in B4
 refine Ac (FV.strAt (k:=I4.toNat) Tryz.underlying9 rfl rfl z3 s4)<|BE (fst:=[]) (cap:=[]) (vs:=[vP d0,.int .u8 (v1.toNat:Int)]) .plain body127 Tryz.func127 rfl rfl rfl rfl (e2 rfl rfl) rfl (fun E5 v3 A6=>?_)
 refine Ae<|Af rfl<|Aa<|Ae<|Ab rfl<|Ab rfl<|Ac (BB rfl) ?_
 obtain ⟨W4,X1,h⟩:=bi h
 have M3:=mem_elem1 (p:=⟨d0,0,none⟩) (cs:=b0.map (fun z9:Bool=>(.bool z9:Value))) (i:=v1.toNat) (P0.memA .hd) (arr_get0 (fun z9:Bool=>(.bool z9:Value)) X1)
 refine Ac (Bj (m:=1) (k:=v1.toNat) (len:=256) (by kernel_rfl) rfl rfl rfl (arr_lt X1 j0))<|AN rfl (M3 0 _ rfl)<|Af rfl<|Aa<|Ao rfl<|AB (u:=.bool W4) v3 Tryz.func127 rfl (.cons (.tmp rfl) .nil) rfl<|Ac (Be rfl)<|Aa<|MX.ifnb rfl h (fun u2 h=>?_) (fun u2 h=>?_)
 refine Am<|Al<|Ab rfl<|Ab rfl<|Ac (BA Tryz.underlying9 rfl) ?_
 obtain ⟨I6,j4,h⟩:=bi h
 refine Ac (FV.subc (i:=((q0.size:Nat):Int)) (j:=1) rfl rfl j4) ?_
 obtain ⟨J4,k4,h⟩:=bi h
 refine Ac (FV.strCut k4 Tryz.underlying9 rfl rfl ⟨_,rfl⟩)<|Af rfl<|Aa<|Aq ?_
 exact C2 J4 _ _ ⟨rfl,rfl,trivial⟩ ⟨P0,V0⟩ h
 refine AR rfl ?_
 have h:=Q1 _ h
 try dsimp only at h
 exact z1 q0 _ _ ⟨rfl,trivial⟩ ⟨P0,(Tt G1 V0)⟩ h
 refine AR rfl ?_
 have h:=Q1 _ h
 try dsimp only at h
 exact z1 q0 _ _ ⟨rfl,trivial⟩ ⟨P0,(Tt G1 V0)⟩ h
def units_within_1_p (_n:Nat) (a0:Int) (a1:Int):Option Bool:=
  (if a0 < 0 then some true else some (decide (a1 < a0)))
theorem units_within_1_c (n:Nat) (L:List Nat) (w:World) (_hL:∀ b ∈ L,b < w.heap.size) (a0:Int) (a1:Int) {p1:Nat} (m1:∀ j9 v9,([vI a1]:List Value)[j9]? = some v9 → w.cell? ((⟨p1,0,none⟩:Addr).add j9) = some v9)  {r:Bool} (h:units_within_1_p n a0 a1 = some r) :
    Calls Tryz.prog 121 #[vI a0,.pointer (some ⟨p1,0,none⟩)] w (Gives w fun _ u=>u = .bool r):=by
 unfold units_within_1_p at h
 have hS0:=AD w
 refine AI Tryz.func121 rfl rfl rfl (fun _ cs0 hb0=>?_)
 refine Ae<|Af rfl<|Aa<|Ae<|Ab rfl<|Ac (FV.lss (i:=a0) (j:=0) rfl rfl)<|Ab rfl<|Bx (s:=6) rfl h (fun c1 h=>?_) (fun c1 h=>?_)
 refine Ag<|Ag<|Ag<|AG rfl rfl<|Af rfl<|Aa<|Ao rfl<|AL hb0 Tryz.func121 rfl rfl ?_
 cases h
 exact hS0.gv
 refine Ar (Ah rfl)<|Ar (AJ rfl ((fun j9 v9 h9=>hS0.ag.cell0 (m1 j9 v9 h9)) 0 _ rfl))<|Ar (FV.gtr (i:=a0) (j:=a1) rfl rfl)<|Bd rfl rfl<|Af rfl<|Aa<|Ao rfl<|AL hb0 Tryz.func121 rfl rfl ?_
 cases h
 exact hS0.gv
theorem body120:bodyB Tryz.prog 120 = true:=by kernel_rfl
theorem body121:bodyB Tryz.prog 121 = true:=by kernel_rfl
theorem body131:bodyB Tryz.prog 131 = true:=by kernel_rfl
def units_within_l1 (n:Nat) (a0:List Int) (a2:Int) (c0:Nat → Option (Bool ⊕ Unit)):Nat → Option (Bool ⊕ Unit)
  | b0=>(if b0 < a0.length then (a0[b0]?).bind fun d0=>(units_within_1_p n d0 a2).bind fun g0=>(if g0 = true then some (.inl (!(decide (0 ≤ b0)))) else c0 (b0 + 1)) else some (.inr ()))
def units_within_p (n:Nat) (a0:List Int) (a1:Int) (a2:Int):Option Bool:=
  (if ((a0.length:Nat):Int) = a1 then thn (loopF (units_within_l1 n a0 a2) n 0) (fun _=>some (!(decide (0 ≤ (-1))))) else some false)
theorem units_within_c (n:Nat) (L:List Nat) (w:World) (hL:∀ b ∈ L,b < w.heap.size) (a0:List Int) {v0_0:Value} (h0_0:Rep.R w L [v0_0] a0) (a1:Int) (a2:Int)  {r:Bool} (h:units_within_p n a0 a1 a2 = some r) :
    Calls Tryz.prog 99 #[v0_0,vI a1,vI a2] w (Gives w fun _ u=>u = .bool r):=by
 unfold units_within_p at h
 have hS0:=AD w
 refine AI Tryz.func99 rfl rfl rfl (fun _ cs0 hb0=>?_)
 refine Ae<|Az .plain rfl (AK hS0 rfl rfl) (fun K0 c0 g0 W0=>?_)
 refine Af rfl<|Aa<|Ae<|Ab rfl ?_
 have j0:=Bn h0_0 g0
 have X0:a0.length ≤ 281474976710656:=AO j0
 refine Ac (AZ (xs:=a0) Tryz.underlying32 rfl j0)<|Ab rfl<|Ac (FV.eql (i:=((a0.length:Nat):Int)) (j:=a1) rfl rfl)<|Ab rfl<|Bx (s:=11) rfl h (fun u0 h=>?_) (fun u0 h=>?_)
 refine Ar (Ah rfl)<|Ar (FV.makeFunc (vs:=[]) (us:=[vP c0]) evs_nil (e1 rfl))<|BE (fst:=[]) (cap:=[]) (vs:=[v0_0,.func (.func 121) #[] #[vP c0]]) (.yes rfl rfl) body120 Tryz.func120 rfl rfl rfl rfl (e2 rfl rfl) rfl (fun U0 p0 Y0=>?_)
 refine Ae<|Af rfl<|Aa<|Ae<|Ab rfl<|Ab rfl<|BE (fst:=[]) (cap:=[]) (vs:=[v0_0,.func (.func 121) #[] #[vP c0]]) .plain body131 Tryz.func131 rfl rfl rfl rfl (e2 rfl rfl) rfl (fun V0 q0 Z0=>?_)
 refine Ae<|Af rfl<|Aa<|Aj<|Ae<|Ab rfl<|Ac (AZ (xs:=a0) Tryz.underlying32 rfl j0)<|Ab rfl<|Aa<|Au ?_
 obtain ⟨b1,G0,s0⟩:=thn_in h
 refine AW (α:=Nat) (fun b0=>[(0,v0_0),(1,.func (.func 121) #[] #[vP c0]),(7,vI ((a0.length:Nat):Int)),(8,vI ((b0:Nat):Int))]) (fun b0 k0=>St w k0 [.cells c0 [vI a2] 3]∧Tr K0 [.cells c0 [vI a2] 3] k0 [.cells c0 [vI a2] 3]) (fun b0=>b0) 0 G0 ⟨rfl,rfl,rfl,rfl,trivial⟩ ⟨g0,AA _ _⟩ ?_
 rintro Q0 b0 k0 z0 ⟨d0,A0⟩ h
 unfold units_within_l1 at h
 try dsimp only at h
 refine Ae<|Ac (Bg (i:=b0) (j:=a0.length) rfl rfl)<|Aa<|Aj<|AM rfl h (fun v0 h=>?_) (fun v0 h=>?_)
 refine Am<|Aj<|Au<|Ae<|Ab rfl<|Af rfl<|Aa<|Ae<|Ab rfl<|Ab rfl<|Ab rfl ?_
 obtain ⟨t0,I0,h⟩:=bi h
 have F0:=Bn h0_0 d0
 obtain ⟨P0,R0,B0,D0,y0,H0,E0⟩:=AS F0 I0
 have C0:y0 = [vI t0]:=H0; subst C0
 refine Ac (AY 1 b0 rfl B0 rfl rfl D0)<|AN rfl (E0 0 _ rfl) ?_
 obtain ⟨M0,J0,h⟩:=bi h
 refine RG.callq' (v:=.bool M0) (fst:=[]) (cap:=[vP c0]) .plain body121 rfl (e1 rfl) (fun w9 hw9=>units_within_1_c n _ w9 (d0.hL0 hL hw9) t0 a2 (fun j9 v9 h9=>hw9.cell0 ((d0.memA .hd) j9 v9 h9)) J0) rfl<|Aa<|MX.ifb rfl h (fun x0 h=>?_) (fun x0 h=>?_)
 refine Ae<|Ab rfl<|Af rfl<|Aa ?_
 have h:=thn_inl h s0
 refine Ao rfl<|AB (u:=vI ((b0:Nat):Int)) q0 Tryz.func131 rfl (.cons (.tmp rfl) .nil) rfl<|Ac (FV.geqN (i:=b0) (j:=0) rfl rfl)<|Af rfl<|Aa<|Ao rfl<|AB (u:=.bool (decide (0 ≤ b0))) p0 Tryz.func120 rfl (.cons (.tmp rfl) .nil) rfl<|Ar (Be rfl)<|AG rfl rfl<|Af rfl<|Aa<|Ao rfl<|AL hb0 Tryz.func99 rfl rfl ?_
 cases h
 exact d0.gv
 refine Am<|Aq<|Al<|Ac (AT (i:=b0) (j:=1) rfl rfl (by omega))<|Ab rfl<|Aa ?_
 exact z0 (b0 + 1) _ _ ⟨rfl,rfl,rfl,rfl,trivial⟩ ⟨d0,A0⟩ h
 refine AR rfl ?_
 have h:=thn_inr h s0
 try dsimp only at h
 refine Ae<|Af rfl<|Aa<|Ao rfl<|AB (u:=vI (-1)) q0 Tryz.func131 rfl (.cons (.tmp rfl) .nil) rfl<|Ac (FV.geq (i:=(-1)) (j:=0) rfl rfl)<|Af rfl<|Aa<|Ao rfl<|AB (u:=.bool (decide (0 ≤ (-1)))) p0 Tryz.func120 rfl (.cons (.tmp rfl) .nil) rfl<|Ar (Be rfl)<|AG rfl rfl<|Af rfl<|Aa<|Ao rfl<|AL hb0 Tryz.func99 rfl rfl ?_
 cases h
 exact d0.gv
 refine Ag<|Ag<|Ag<|Ag<|Bd rfl rfl<|Af rfl<|Aa<|Ao rfl<|AL hb0 Tryz.func99 rfl rfl ?_
 cases h
 exact g0.gv
structure TUnit where
  ft:ByteArray
  fp:Int
  fe:List Int
  fC:List Int
  fw:List Int
  fo:Bool
  deriving DecidableEq
instance:Rep TUnit:=Rep.via (β:=ByteArray × Int × (List Int) × (List Int) × (List Int) × Bool) fun x=>(x.ft,x.fp,x.fe,x.fC,x.fw,x.fo)
structure TRoll where
  fe:Int
  fc:Int
  fh:Int
  fm:List TUnit
  deriving DecidableEq
instance:Rep TRoll:=Rep.via (β:=Int × Int × Int × (List TUnit)) fun x=>(x.fe,x.fc,x.fh,x.fm)
def tb90_4:List (Nat × Nat × Nat):=[(0,512,8),(1,1024,512),(2,2048,1024),(0,4096,8),(8,8192,4096),(16,16384,8192),(32,32768,16384),(0,65536,8),(128,131072,65536),(256,262144,131072),(512,524288,262144),(0,1048576,8),(2048,2097152,1048576),(4096,4194304,2097152),(0,8388608,8),(16384,16777216,8388608),(0,33554432,32),(98304,67108864,50331648),(0,134217728,8),(262144,268435456,134217728),(0,536870912,4),(1048576,1073741824,536870912),(0,2147483648,8),(4194304,4294967296,2147483648),(11010560,8589934592,5637144576),(0,17179869184,8),(33554432,34359738368,17179869184),(0,68719476736,4),(134217728,137438953472,68719476736),(0,274877906944,32),(889192448,549755813888,446676598784),(0,1099511627776,8),(2147483648,2199023255552,1099511627776),(0,4398046511104,4),(8589934592,8796093022208,4398046511104),(0,17592186044416,64),(56908316672,35184372088832,28587302322176),(69810136132,70368744177664,35742789699584),(206158430208,140737488355328,70368744177664),(549755813887,16,140737488355328)]
theorem el146:ElT Tryz.prog 146 4 (Rep.size Bool) 1 (.bool false) [.bool false]:=⟨Tryz.underlying146,by kernel_rfl,rfl,rfl,rfl,rfl⟩
theorem body89:bodyB Tryz.prog 89 = true:=by kernel_rfl
theorem body98:bodyB Tryz.prog 98 = true:=by kernel_rfl
theorem body99:bodyB Tryz.prog 99 = true:=by kernel_rfl
def units_right_p (n:Nat) (a0:TRoll) (a1:TUnit):Option Bool:=
  jn (fun (c0,d0)=>(strings_Trim_p n a1.ft ⟨#[65,66,67,68,69,70,71,72,73,74,75,76,77,78,79,80,81,82,83,84,85,86,87,88,89,90,97,98,99,100,101,102,103,104,105,106,107,108,109,110,111,112,113,114,115,116,117,118,119,120,121,122,48,49,50,51,52,53,54,55,56,57,45,95]⟩).bind fun g0=>(units_within_p n a1.fe a0.fe a1.fp).bind fun j0=>(units_within_p n a1.fC a0.fc ((c0:Nat):Int)).bind fun k0=>(units_within_p n a1.fw a0.fh ((d0:Nat):Int)).bind fun p0=>(units_every_p n ([(!(decide (a1.ft = ⟨#[]⟩))),(decide (a1.ft.size ≤ 12)),(decide (g0 = ⟨#[]⟩)),(decide (0 ≤ a1.fp)),(decide (a1.fp ≤ ((c0:Nat):Int))),j0,k0,p0]:List Bool)).bind fun q0=>some q0) (fun b0=>(if a1.fo = true then b0 (0,0) else b0 (1000000000,63)))
theorem units_right_c (n:Nat) (L:List Nat) (w:World) (hL:∀ b ∈ L,b < w.heap.size) (a0:TRoll) {v0_3:Value} (_h0_3:Rep.R w L [v0_3] a0.fm) (a1:TUnit) {v1_2:Value} (h1_2:Rep.R w L [v1_2] a1.fe) {v1_3:Value} (h1_3:Rep.R w L [v1_3] a1.fC) {v1_4:Value} (h1_4:Rep.R w L [v1_4] a1.fw)  {r:Bool} (h:units_right_p n a0 a1 = some r) :
    Calls Tryz.prog 90 #[.agg #[vI a0.fe,vI a0.fc,vI a0.fh,v0_3],.agg #[.string a1.ft,vI a1.fp,v1_2,v1_3,v1_4,.bool a1.fo]] w (Gives w fun _ u=>u = .bool r):=by
 unfold units_right_p at h
 have hS0:=AD w
 refine AI Tryz.func90 rfl rfl rfl (fun _ cs0 hb0=>?_)
 refine Ae<|Az .plain rfl (AK hS0 rfl rfl) (fun W0 u0 C0 Q0=>?_)
 refine Az .plain rfl (AK C0 rfl rfl) (fun J0 v0 y0 R0=>?_)
 refine Af rfl<|Aa<|Ae<|Af rfl<|Af rfl<|Aa<|Aj<|Ae<|Bf 5 rfl<|AN rfl ((y0.memA .hd) 5 _ rfl)<|Aa<|MX.join (α:=Nat × Nat) (fun ⟨g0,t0⟩=>[(2,vP u0),(3,vP v0),(5,vI ((g0:Nat):Int)),(6,vI ((t0:Nat):Int))]) (fun ⟨g0,t0⟩ z0=>St w z0 [.cells v0 [.string a1.ft,vI a1.fp,v1_2,v1_3,v1_4,.bool a1.fo] 61,.cells u0 [vI a0.fe,vI a0.fc,vI a0.fh,v0_3] 38]∧Tr J0 [.cells v0 [.string a1.ft,vI a1.fp,v1_2,v1_3,v1_4,.bool a1.fo] 61,.cells u0 [vI a0.fe,vI a0.fc,vI a0.fh,v0_3] 38] z0 [.cells v0 [.string a1.ft,vI a1.fp,v1_2,v1_3,v1_4,.bool a1.fo] 61,.cells u0 [vI a0.fe,vI a0.fc,vI a0.fh,v0_3] 38]) (fun ⟨g0,t0⟩=>(g0,t0)) h ?_ ?_
 rintro ⟨g0,t0⟩ z0 ⟨d0,U0⟩ h
 try dsimp only at h
 refine Aj<|dt 40 tb90_4 (fun b0 c0=>?_)
 refine Ai 0 1 b0 rfl c0 (fun _=>Br 0 rfl) rfl<|AV 1 3 962072674308 b0 rfl c0 (AJ rfl ((d0.memA .hd) 0 _ rfl)) rfl<|Ai 2 7 b0 rfl c0 (fun _=>FV.neqS rfl rfl) rfl<|Ai 3 15 b0 rfl c0 (fun _=>Br 0 rfl) rfl<|AV 4 31 962072674400 b0 rfl c0 (AJ rfl ((d0.memA .hd) 0 _ rfl)) rfl<|AV 5 63 962072674368 b0 rfl c0 (BA Tryz.underlying9 rfl) rfl<|Ai 6 127 b0 rfl c0 (fun _=>FV.leqN (i:=a1.ft.size) (j:=12) rfl rfl) rfl<|Ai 7 255 b0 rfl c0 (fun _=>Br 0 rfl) rfl<|AV 8 511 1031882671616 b0 rfl c0 (AJ rfl ((d0.memA .hd) 0 _ rfl)) rfl ?_
 obtain ⟨s0,E0,h⟩:=bi h
 refine RD.cq 9 1023 1031882671104 (.string s0) b0 rfl c0 body98 rfl (e2 rfl rfl) (fun w9 hw9=>strings_Trim_c n _ w9 (d0.hL0 hL hw9) a1.ft ⟨#[65,66,67,68,69,70,71,72,73,74,75,76,77,78,79,80,81,82,83,84,85,86,87,88,89,90,97,98,99,100,101,102,103,104,105,106,107,108,109,110,111,112,113,114,115,116,117,118,119,120,121,122,48,49,50,51,52,53,54,55,56,57,45,95]⟩ E0) rfl<|Ai 10 2047 b0 rfl c0 (fun _=>FV.eqlS rfl rfl) rfl<|Ai 11 4095 b0 rfl c0 (fun _=>Br 1 rfl) rfl<|AV 12 8191 962072682496 b0 rfl c0 (AJ rfl ((d0.memA .hd) 1 _ rfl)) rfl<|Ai 13 16383 b0 rfl c0 (fun _=>FV.geq (i:=a1.fp) (j:=0) rfl rfl) rfl<|Ai 14 32767 b0 rfl c0 (fun _=>Br 1 rfl) rfl<|AV 15 65535 962072805376 b0 rfl c0 (AJ rfl ((d0.memA .hd) 1 _ rfl)) rfl<|Ai 16 131071 b0 rfl c0 (fun _=>Ah rfl) rfl<|Ai 17 262143 b0 rfl c0 (fun _=>FV.leq (i:=a1.fp) (j:=((g0:Nat):Int)) rfl rfl) rfl<|Ai 18 524287 b0 rfl c0 (fun _=>Br 2 rfl) rfl<|AV 19 1048575 1031882670080 b0 rfl c0 (AJ rfl ((d0.memA .hd) 2 _ rfl)) rfl<|Ai 20 2097151 b0 rfl c0 (fun _=>Br 0 rfl) rfl<|AV 21 4194303 1031882670080 b0 rfl c0 (AJ rfl ((d0.memA (.tl .hd)) 0 _ rfl)) rfl<|Ai 22 8388607 b0 rfl c0 (fun _=>Br 1 rfl) rfl<|AV 23 16777215 1031882670080 b0 rfl c0 (AJ rfl ((d0.memA .hd) 1 _ rfl)) rfl ?_
 obtain ⟨q0,F0,h⟩:=bi h
 refine RD.cq 24 33554431 1031865892864 (.bool q0) b0 rfl c0 body99 rfl (e3 rfl rfl rfl) (fun w9 hw9=>units_within_c n _ w9 (d0.hL0 hL hw9) a1.fe (d0.k0 h1_2 hw9) a0.fe a1.fp F0) rfl<|Ai 25 67108863 b0 rfl c0 (fun _=>Br 3 rfl) rfl<|AV 26 134217727 1031865892864 b0 rfl c0 (AJ rfl ((d0.memA .hd) 3 _ rfl)) rfl<|Ai 27 268435455 b0 rfl c0 (fun _=>Br 1 rfl) rfl<|AV 28 536870911 1031865892864 b0 rfl c0 (AJ rfl ((d0.memA (.tl .hd)) 1 _ rfl)) rfl<|Ai 29 1073741823 b0 rfl c0 (fun _=>Ah rfl) rfl ?_
 obtain ⟨p0,G0,h⟩:=bi h
 refine RD.cq 30 2147483647 1030792151040 (.bool p0) b0 rfl c0 body99 rfl (e3 rfl rfl rfl) (fun w9 hw9=>units_within_c n _ w9 (d0.hL0 hL hw9) a1.fC (d0.k0 h1_3 hw9) a0.fc ((g0:Nat):Int) G0) rfl<|Ai 31 4294967295 b0 rfl c0 (fun _=>Br 4 rfl) rfl<|AV 32 8589934591 1030792151040 b0 rfl c0 (AJ rfl ((d0.memA .hd) 4 _ rfl)) rfl<|Ai 33 17179869183 b0 rfl c0 (fun _=>Br 2 rfl) rfl<|AV 34 34359738367 1030792151040 b0 rfl c0 (AJ rfl ((d0.memA (.tl .hd)) 2 _ rfl)) rfl<|Ai 35 68719476735 b0 rfl c0 (fun _=>Ah rfl) rfl ?_
 obtain ⟨j0,H0,h⟩:=bi h
 refine RD.cq 36 137438953471 962072674304 (.bool j0) b0 rfl c0 body99 rfl (e3 rfl rfl rfl) (fun w9 hw9=>units_within_c n _ w9 (d0.hL0 hL hw9) a1.fw (d0.k0 h1_4 hw9) a0.fh ((t0:Nat):Int) H0) rfl<|RD.nu 37 274877906943 b0 rfl .plain rfl (AF (α:=Bool) (xs:=([(!(decide (a1.ft = ⟨#[]⟩))),(decide (a1.ft.size ≤ 12)),(decide (s0 = ⟨#[]⟩)),(decide (0 ≤ a1.fp)),(decide (a1.fp ≤ ((g0:Nat):Int))),q0,p0,j0]:List Bool)) (vs:=[.bool (!(decide (a1.ft = ⟨#[]⟩))),.bool (decide (a1.ft.size ≤ 12)),.bool (decide (s0 = ⟨#[]⟩)),.bool (decide (0 ≤ a1.fp)),.bool (decide (a1.fp ≤ ((g0:Nat):Int))),.bool q0,.bool p0,.bool j0]) (ds' :=[.bool (!(decide (a1.ft = ⟨#[]⟩))),.bool (decide (a1.ft.size ≤ 12)),.bool (decide (s0 = ⟨#[]⟩)),.bool (decide (0 ≤ a1.fp)),.bool (decide (a1.fp ≤ ((g0:Nat):Int))),.bool q0,.bool p0,.bool j0]) rfl d0 el146 rfl (e8 rfl rfl rfl rfl rfl rfl rfl rfl) (by kernel_rfl) rfl) (fun X0 P0 x0 V0=>?_)
 have D0:=Av (cs:=[.bool (!(decide (a1.ft = ⟨#[]⟩))),.bool (decide (a1.ft.size ≤ 12)),.bool (decide (s0 = ⟨#[]⟩)),.bool (decide (0 ≤ a1.fp)),.bool (decide (a1.fp ≤ ((g0:Nat):Int))),.bool q0,.bool p0,.bool j0]) (xs:=(([(!(decide (a1.ft = ⟨#[]⟩))),(decide (a1.ft.size ≤ 12)),(decide (s0 = ⟨#[]⟩)),(decide (0 ≤ a1.fp)),(decide (a1.fp ≤ ((g0:Nat):Int))),q0,p0,j0]:List Bool):List Bool)) x0 L (Ax (cs:=[.bool (!(decide (a1.ft = ⟨#[]⟩)))]) (ds:=[.bool (decide (a1.ft.size ≤ 12)),.bool (decide (s0 = ⟨#[]⟩)),.bool (decide (0 ≤ a1.fp)),.bool (decide (a1.fp ≤ ((g0:Nat):Int))),.bool q0,.bool p0,.bool j0]) rfl (Ax (cs:=[.bool (decide (a1.ft.size ≤ 12))]) (ds:=[.bool (decide (s0 = ⟨#[]⟩)),.bool (decide (0 ≤ a1.fp)),.bool (decide (a1.fp ≤ ((g0:Nat):Int))),.bool q0,.bool p0,.bool j0]) rfl (Ax (cs:=[.bool (decide (s0 = ⟨#[]⟩))]) (ds:=[.bool (decide (0 ≤ a1.fp)),.bool (decide (a1.fp ≤ ((g0:Nat):Int))),.bool q0,.bool p0,.bool j0]) rfl (Ax (cs:=[.bool (decide (0 ≤ a1.fp))]) (ds:=[.bool (decide (a1.fp ≤ ((g0:Nat):Int))),.bool q0,.bool p0,.bool j0]) rfl (Ax (cs:=[.bool (decide (a1.fp ≤ ((g0:Nat):Int)))]) (ds:=[.bool q0,.bool p0,.bool j0]) rfl (Ax (cs:=[.bool q0]) (ds:=[.bool p0,.bool j0]) rfl (Ax (cs:=[.bool p0]) (ds:=[.bool j0]) rfl (Ax (cs:=[.bool j0]) (ds:=[]) rfl (AC _ _)))))))))
 obtain ⟨K0,I0,h⟩:=bi h
 refine RD.cq 38 549755813887 549755813888 (.bool K0) b0 rfl c0 body89 rfl (e1 rfl) (fun w9 hw9=>units_every_c n _ w9 (x0.hL0 hL hw9) ([(!(decide (a1.ft = ⟨#[]⟩))),(decide (a1.ft.size ≤ 12)),(decide (s0 = ⟨#[]⟩)),(decide (0 ≤ a1.fp)),(decide (a1.fp ≤ ((g0:Nat):Int))),q0,p0,j0]:List Bool) (AH (St.lend (α:=Bool) (L:=L) x0 .hd D0 hL) hw9) I0) rfl<|Ai 39 1099511627775 b0 rfl c0 (fun _=>Bw rfl) rfl<|AX (dk b0)<|Ao rfl<|AL hb0 Tryz.func90 rfl rfl ?_
 cases h
 exact x0.gv
 intro M0 A0 h
 try dsimp only at h
 refine MX.ifb rfl h (fun B0 h=>?_) (fun B0 h=>?_)
 refine Al<|Af rfl<|Af rfl<|Aa ?_
 exact A0 (0,0) _ _ ⟨rfl,rfl,rfl,rfl,trivial⟩ ⟨y0,AA _ _⟩ h
 refine Am ?_
 exact A0 (1000000000,63) _ _ ⟨rfl,rfl,rfl,rfl,trivial⟩ ⟨y0,AA _ _⟩ h
def tb73_9:List (Nat × Nat × Nat):=[(0,35184372088832,2),(0,70368744177664,128),(3,140737488355328,105553116266496),(0,281474976710656,16),(0,562949953421312,128),(16,1125899906842624,562949953421312),(40,2251799813685248,1407374883553280),(64,4503599627370496,2251799813685248),(0,9007199254740992,128),(256,18014398509481984,9007199254740992),(516,36028797018963968,18014398509481984),(1024,72057594037927936,36028797018964000),(3072,144115188075855872,108086391056891904),(5120,288230376151711744,180143985094819840),(0,576460752303423488,64),(16384,1152921504606846976,576460752303423488),(33792,2305843009213693952,1152921504606846976),(65536,4611686018427387904,2305843009213694080),(196608,9223372036854775808,6917529027641081856),(327680,18446744073709551616,11529215046068469760),(589824,36893488147419103232,20752587082923245568),(1056900,73786976294838206464,37186362860686540800),(2162688,147573952589676412928,73786976294838206464),(4194304,295147905179352825856,147573952589676412928)]
theorem op_TUnit {w:World} {L:List Nat} {cs:List Value} {x:TUnit} (h:Rep.R w L cs x):∃ v2 v3 v4:Value,cs = [.string x.ft,vI x.fp,v2,v3,v4,.bool x.fo]∧Rep.R w L [v2] x.fe∧Rep.R w L [v3] x.fC∧Rep.R w L [v4] x.fw:=by
  obtain ⟨c0,r0,rfl,h0,h⟩:=h
  have e0:c0 = [.string x.ft]:=h0; subst e0
  obtain ⟨c1,r1,rfl,h1,h⟩:=h
  have e1:c1 = [vI x.fp]:=h1; subst e1
  obtain ⟨c2,r2,rfl,h2,h⟩:=h
  obtain ⟨v2,rfl,kv2⟩:=lst_one (xs:=x.fe) h2
  obtain ⟨c3,r3,rfl,h3,h⟩:=h
  obtain ⟨v3,rfl,kv3⟩:=lst_one (xs:=x.fC) h3
  obtain ⟨c4,r4,rfl,h4,h⟩:=h
  obtain ⟨v4,rfl,kv4⟩:=lst_one (xs:=x.fw) h4
  have e5:r4 = [.bool x.fo]:=h; subst e5
  exact ⟨v2,v3,v4,rfl,kv2,kv3,kv4⟩
theorem mk_TUnit {w:World} {L:List Nat} (a0:ByteArray) (a1:Int) (a2:List Int) {u2:Value} (h2:Rep.R w L [u2] a2) (a3:List Int) {u3:Value} (h3:Rep.R w L [u3] a3) (a4:List Int) {u4:Value} (h4:Rep.R w L [u4] a4) (a5:Bool):Rep.R w L [.string a0,vI a1,u2,u3,u4,.bool a5] (⟨a0,a1,a2,a3,a4,a5⟩:TUnit):=⟨[.string a0],[vI a1,u2,u3,u4,.bool a5],rfl,rfl,⟨[vI a1],[u2,u3,u4,.bool a5],rfl,rfl,⟨[u2],[u3,u4,.bool a5],rfl,h2,⟨[u3],[u4,.bool a5],rfl,h3,⟨[u4],[.bool a5],rfl,h4,rfl⟩⟩⟩⟩⟩
theorem body90:bodyB Tryz.prog 90 = true:=by kernel_rfl
def units_CheckRoll_l1 (n:Nat) (a0:TRoll) (g0:Bool × Nat × (List (ByteArray × Bool)) → Option (Int ⊕ Unit)):Bool × Nat × (List (ByteArray × Bool)) → Option (Int ⊕ Unit)
  | (k0,d0,c0)=>(if d0 < a0.fm.length then (a0.fm[d0]?).bind fun b0=>(units_right_p n a0 b0).bind fun j0=>(if b0.fo = true then (if 0 < d0 then (units_every_p n ([j0,(!(mgetD c0 b0.ft false)),true,true]:List Bool)).bind fun p0=>(if p0 = true then g0 (b0.fo,d0 + 1,mset c0 b0.ft true) else some (.inl (161:Int))) else (units_every_p n ([j0,(!(mgetD c0 b0.ft false)),true,(!b0.fo)]:List Bool)).bind fun q0=>(if q0 = true then g0 (b0.fo,d0 + 1,mset c0 b0.ft true) else some (.inl (161:Int)))) else (if 0 < d0 then (units_every_p n ([j0,(!(mgetD c0 b0.ft false)),(!k0),true]:List Bool)).bind fun s0=>(if s0 = true then g0 (b0.fo,d0 + 1,mset c0 b0.ft true) else some (.inl (161:Int))) else (units_every_p n ([j0,(!(mgetD c0 b0.ft false)),(!k0),(!b0.fo)]:List Bool)).bind fun t0=>(if t0 = true then g0 (b0.fo,d0 + 1,mset c0 b0.ft true) else some (.inl (161:Int))))) else some (.inr ()))
def units_CheckRoll_p (n:Nat) (a0:TRoll):Option Int:=
  (units_every_p n ([(decide (0 ≤ a0.fe)),(decide (a0.fe ≤ 6)),(decide (0 ≤ a0.fc)),(decide (a0.fc ≤ 12)),(decide (0 ≤ a0.fh)),(decide (a0.fh ≤ 3)),(decide (0 < a0.fm.length)),(decide (a0.fm.length ≤ 64))]:List Bool)).bind fun b0=>(if b0 = true then thn (loopF (units_CheckRoll_l1 n a0) n (false,0,([]:List (ByteArray × Bool)))) (fun _=>some (0:Int)) else some (161:Int))
theorem units_CheckRoll_c (n:Nat) (L:List Nat) (w:World) (hL:∀ b ∈ L,b < w.heap.size) (a0:TRoll) {v0_3:Value} (h0_3:Rep.R w L [v0_3] a0.fm)  {r:Int} (h:units_CheckRoll_p n a0 = some r) :
    Calls Tryz.prog 73 #[.agg #[vI a0.fe,vI a0.fc,vI a0.fh,v0_3]] w (Gives w fun _ u=>u = vI r):=by
 unfold units_CheckRoll_p at h
 have hS0:=AD w
 refine AI Tryz.func73 rfl rfl rfl (fun _ cs0 hb0=>?_)
 refine Ae<|Az .plain rfl (AK hS0 rfl rfl) (fun q3 D0 u0 c3=>?_)
 refine Af rfl<|Aa<|Ae<|Bf 3 rfl<|AN rfl ((u0.memA .hd) 3 _ rfl) ?_
 have R0:=Bn h0_3 u0
 have k3:a0.fm.length ≤ 281474976710656:=AO R0
 refine Ac (AZ (xs:=a0.fm) Tryz.underlying36 rfl R0)<|Af rfl<|Aa<|Aj<|Ae<|Bf 0 rfl<|AN rfl ((u0.memA .hd) 0 _ rfl)<|Ac (FV.geq (i:=a0.fe) (j:=0) rfl rfl)<|Bf 0 rfl<|AN rfl ((u0.memA .hd) 0 _ rfl)<|Ac (FV.leq (i:=a0.fe) (j:=6) rfl rfl)<|Bf 1 rfl<|AN rfl ((u0.memA .hd) 1 _ rfl)<|Ac (FV.geq (i:=a0.fc) (j:=0) rfl rfl)<|Bf 1 rfl<|AN rfl ((u0.memA .hd) 1 _ rfl)<|Ac (FV.leq (i:=a0.fc) (j:=12) rfl rfl)<|Bf 2 rfl<|AN rfl ((u0.memA .hd) 2 _ rfl)<|Ac (FV.geq (i:=a0.fh) (j:=0) rfl rfl)<|Bf 2 rfl<|AN rfl ((u0.memA .hd) 2 _ rfl)<|Ac (FV.leq (i:=a0.fh) (j:=3) rfl rfl)<|Ab rfl ?_
 refine Ac (FV.gtrN (i:=a0.fm.length) (j:=0) rfl rfl)<|Ab rfl<|Ac (FV.leqN (i:=a0.fm.length) (j:=64) rfl rfl)<|Az .plain rfl (AF (α:=Bool) (xs:=([(decide (0 ≤ a0.fe)),(decide (a0.fe ≤ 6)),(decide (0 ≤ a0.fc)),(decide (a0.fc ≤ 12)),(decide (0 ≤ a0.fh)),(decide (a0.fh ≤ 3)),(decide (0 < a0.fm.length)),(decide (a0.fm.length ≤ 64))]:List Bool)) (vs:=[.bool (decide (0 ≤ a0.fe)),.bool (decide (a0.fe ≤ 6)),.bool (decide (0 ≤ a0.fc)),.bool (decide (a0.fc ≤ 12)),.bool (decide (0 ≤ a0.fh)),.bool (decide (a0.fh ≤ 3)),.bool (decide (0 < a0.fm.length)),.bool (decide (a0.fm.length ≤ 64))]) (ds' :=[.bool (decide (0 ≤ a0.fe)),.bool (decide (a0.fe ≤ 6)),.bool (decide (0 ≤ a0.fc)),.bool (decide (a0.fc ≤ 12)),.bool (decide (0 ≤ a0.fh)),.bool (decide (a0.fh ≤ 3)),.bool (decide (0 < a0.fm.length)),.bool (decide (a0.fm.length ≤ 64))]) rfl u0 el146 rfl (e8 rfl rfl rfl rfl rfl rfl rfl rfl) (by kernel_rfl) rfl) (fun s3 R2 B0 d3=>?_)
 have K1:=Av (cs:=[.bool (decide (0 ≤ a0.fe)),.bool (decide (a0.fe ≤ 6)),.bool (decide (0 ≤ a0.fc)),.bool (decide (a0.fc ≤ 12)),.bool (decide (0 ≤ a0.fh)),.bool (decide (a0.fh ≤ 3)),.bool (decide (0 < a0.fm.length)),.bool (decide (a0.fm.length ≤ 64))]) (xs:=(([(decide (0 ≤ a0.fe)),(decide (a0.fe ≤ 6)),(decide (0 ≤ a0.fc)),(decide (a0.fc ≤ 12)),(decide (0 ≤ a0.fh)),(decide (a0.fh ≤ 3)),(decide (0 < a0.fm.length)),(decide (a0.fm.length ≤ 64))]:List Bool):List Bool)) B0 L (Ax (cs:=[.bool (decide (0 ≤ a0.fe))]) (ds:=[.bool (decide (a0.fe ≤ 6)),.bool (decide (0 ≤ a0.fc)),.bool (decide (a0.fc ≤ 12)),.bool (decide (0 ≤ a0.fh)),.bool (decide (a0.fh ≤ 3)),.bool (decide (0 < a0.fm.length)),.bool (decide (a0.fm.length ≤ 64))]) rfl (Ax (cs:=[.bool (decide (a0.fe ≤ 6))]) (ds:=[.bool (decide (0 ≤ a0.fc)),.bool (decide (a0.fc ≤ 12)),.bool (decide (0 ≤ a0.fh)),.bool (decide (a0.fh ≤ 3)),.bool (decide (0 < a0.fm.length)),.bool (decide (a0.fm.length ≤ 64))]) rfl (Ax (cs:=[.bool (decide (0 ≤ a0.fc))]) (ds:=[.bool (decide (a0.fc ≤ 12)),.bool (decide (0 ≤ a0.fh)),.bool (decide (a0.fh ≤ 3)),.bool (decide (0 < a0.fm.length)),.bool (decide (a0.fm.length ≤ 64))]) rfl (Ax (cs:=[.bool (decide (a0.fc ≤ 12))]) (ds:=[.bool (decide (0 ≤ a0.fh)),.bool (decide (a0.fh ≤ 3)),.bool (decide (0 < a0.fm.length)),.bool (decide (a0.fm.length ≤ 64))]) rfl (Ax (cs:=[.bool (decide (0 ≤ a0.fh))]) (ds:=[.bool (decide (a0.fh ≤ 3)),.bool (decide (0 < a0.fm.length)),.bool (decide (a0.fm.length ≤ 64))]) rfl (Ax (cs:=[.bool (decide (a0.fh ≤ 3))]) (ds:=[.bool (decide (0 < a0.fm.length)),.bool (decide (a0.fm.length ≤ 64))]) rfl (Ax (cs:=[.bool (decide (0 < a0.fm.length))]) (ds:=[.bool (decide (a0.fm.length ≤ 64))]) rfl (Ax (cs:=[.bool (decide (a0.fm.length ≤ 64))]) (ds:=[]) rfl (AC _ _)))))))))
 obtain ⟨H2,x2,h⟩:=bi h
 refine Bp (.bool H2) body89 rfl (e1 rfl) (fun w9 hw9=>units_every_c n _ w9 (B0.hL0 hL hw9) ([(decide (0 ≤ a0.fe)),(decide (a0.fe ≤ 6)),(decide (0 ≤ a0.fc)),(decide (a0.fc ≤ 12)),(decide (0 ≤ a0.fh)),(decide (a0.fh ≤ 3)),(decide (0 < a0.fm.length)),(decide (a0.fm.length ≤ 64))]:List Bool) (AH (St.lend (α:=Bool) (L:=L) B0 .hd K1 hL) hw9) x2) rfl<|Ac (Be rfl)<|Aa<|MX.ifnb rfl h (fun Y0 h=>?_) (fun Y0 h=>?_)
 refine Am<|Ae<|Az .plain rfl (Does.makeMap (κ:=ByteArray) (ν:=Bool) B0) (fun G2 E0 I0 j3=>?_)
 refine Af rfl<|Aa<|Ae<|Af rfl<|Aa<|Aj<|Ae<|Bf 3 rfl<|AN rfl ((I0.memA (.tl (.tl .hd))) 3 _ rfl) ?_
 have j2:=Bn h0_3 I0
 refine Ac (AZ (xs:=a0.fm) Tryz.underlying36 rfl j2)<|Ab rfl<|Aa<|Au ?_
 obtain ⟨p1,g3⟩:=Ay I0 (.one .hd (.one (.tl .hd) .done))
 obtain ⟨p3,k2,C0⟩:=thn_in h
 refine AW (α:=Bool × Nat × (List (ByteArray × Bool))) (fun ⟨p0,q0,d0⟩=>[(1,vP D0),(4,.map (some E0)),(5,.bool p0),(38,v0_3),(39,vI ((a0.fm.length:Nat):Int)),(40,vI ((q0:Nat):Int))]) (fun ⟨p0,q0,d0⟩ J0=>St w J0 [.obj E0 (mapO (d0:List (ByteArray × Bool))),.cells D0 [vI a0.fe,vI a0.fc,vI a0.fh,v0_3] 38]∧Tr G2 [.obj E0 (mapO ([]:List (ByteArray × Bool))),.cells D0 [vI a0.fe,vI a0.fc,vI a0.fh,v0_3] 38] J0 [.obj E0 (mapO (d0:List (ByteArray × Bool))),.cells D0 [vI a0.fe,vI a0.fc,vI a0.fh,v0_3] 38]) (fun ⟨p0,q0,d0⟩=>(p0,q0,d0)) (false,0,([]:List (ByteArray × Bool))) k2 ⟨rfl,rfl,rfl,rfl,rfl,rfl,trivial⟩ ⟨p1,AA _ _⟩ ?_
 rintro Q2 ⟨p0,q0,d0⟩ J0 F0 ⟨H0,G0⟩ h
 unfold units_CheckRoll_l1 at h
 try dsimp only at h
 refine Ae<|Ac (Bg (i:=q0) (j:=a0.fm.length) rfl rfl)<|Aa<|Aj<|AM rfl h (fun X0 h=>?_) (fun X0 h=>?_)
 refine Am<|Aj<|Au<|Ae<|Ab rfl ?_
 obtain ⟨b0,v2,h⟩:=bi h
 have X1:=Bn h0_3 H0
 obtain ⟨P2,Z2,U1,V1,b3,u2,W1⟩:=AS X1 v2
 obtain ⟨D2,E2,F2,rfl,U0,V0,W0⟩:=op_TUnit u2
 refine Ac (AY 6 q0 rfl U1 rfl rfl V1)<|Ac (AE rfl W1)<|Az .plain rfl (Ba [.string ⟨#[]⟩,vI 0,vN,vN,vN,.bool false] H0) (fun t3 U2 q1 t0=>?_)
 refine Af rfl ?_
 have Y1:=Aw U0 t0
 have Z1:=Aw V0 t0
 have b2:=Aw W0 t0
 refine Bu [.string b0.ft,vI b0.fp,D2,E2,F2,.bool b0.fo] q1 .hd (o6 rfl rfl (BI Y1) (BI Z1) (BI b2) rfl) (fun u3 s0 v0=>?_)
 refine Aa<|Aj<|Aj<|dt 24 tb73_9 (fun c0 g0=>?_)
 refine AV 0 1 16727044 c0 rfl g0 (AE rfl (s0.memA (.tl (.tl .hd)))) rfl<|AV 1 3 16727044 c0 rfl g0 (AE rfl (s0.memA .hd)) rfl ?_
 obtain ⟨j0,y2,h⟩:=bi h
 have c2:=Aw U0 (Tt t0 v0)
 have d2:=Aw V0 (Tt t0 v0)
 have g2:=Aw W0 (Tt t0 v0)
 refine RD.cq 2 7 16727040 (.bool j0) c0 rfl g0 body90 rfl (e2 rfl rfl) (fun w9 hw9=>units_right_c n _ w9 (s0.hL0 hL hw9) a0 (s0.k0 h0_3 hw9) b0 (s0.kd c2 hw9) (s0.kd d2 hw9) (s0.kd g2 hw9) y2) rfl<|Ai 3 15 c0 rfl g0 (fun _=>Ah rfl) rfl<|Ai 4 31 c0 rfl g0 (fun _=>Br 0 rfl) rfl<|AV 5 63 14680256 c0 rfl g0 (AJ rfl ((s0.memA .hd) 0 _ rfl)) rfl<|AV 6 127 14680192 c0 rfl g0 (FV.lookup (kv:=b0.ft) (z:=false) s0 (.tl .hd) Tryz.underlying139 Tryz.underlying9 rfl (by kernel_rfl) rfl rfl) rfl<|Ai 7 255 c0 rfl g0 (fun _=>Be rfl) rfl<|Ai 8 511 c0 rfl g0 (fun _=>Br 5 rfl) rfl<|AV 9 1023 16727040 c0 rfl g0 (AJ rfl ((s0.memA .hd) 5 _ rfl)) rfl<|Ai 10 2047 c0 rfl g0 (fun _=>Ah rfl) rfl<|RD.ifb (s:=55) rfl h (fun Z0 h=>?_) (fun Z0 h=>?_)
 refine Bo 8191 11 [(11,56),(12,57)] (F:=[(55,true)]) (U:=[]) c0 g0 (.cons rfl .nil) .nil ?_
 dsimp only [offS,List.map]
 refine Ai 13 16383 c0 rfl g0 (fun _=>Bz rfl rfl) rfl<|Ai 14 32767 c0 rfl g0 (fun _=>Ah rfl) rfl<|Ai 15 65535 c0 rfl g0 (fun _=>FV.gtrN (i:=q0) (j:=0) rfl rfl) rfl<|Ai 16 131071 c0 rfl g0 (fun _=>Ah rfl) rfl<|RD.ifd (s:=61) rfl h (fun b1 h=>?_) (fun b1 h=>?_)
 refine Bo 1048575 4 [(17,62),(18,63),(19,64)] (F:=[(61,true)]) (U:=[]) c0 g0 (.cons rfl .nil) .nil ?_
 dsimp only [offS,List.map]
 refine Ai 20 2097151 c0 rfl g0 (fun _=>Bz rfl rfl) rfl<|RD.nu 21 4194303 c0 rfl .plain rfl (AF (α:=Bool) (xs:=([j0,(!(mgetD d0 b0.ft false)),true,true]:List Bool)) (vs:=[.bool j0,.bool (!(mgetD d0 b0.ft false)),.bool true,.bool true]) (ds' :=[.bool j0,.bool (!(mgetD d0 b0.ft false)),.bool true,.bool true]) rfl s0 el146 rfl (e4 rfl rfl rfl rfl) (by kernel_rfl) rfl) (fun v3 V2 x0 y1=>?_)
 have M1:=Av (cs:=[.bool j0,.bool (!(mgetD d0 b0.ft false)),.bool true,.bool true]) (xs:=(([j0,(!(mgetD d0 b0.ft false)),true,true]:List Bool):List Bool)) x0 L (Ax (cs:=[.bool j0]) (ds:=[.bool (!(mgetD d0 b0.ft false)),.bool true,.bool true]) rfl (Ax (cs:=[.bool (!(mgetD d0 b0.ft false))]) (ds:=[.bool true,.bool true]) rfl (Ax (cs:=[.bool true]) (ds:=[.bool true]) rfl (Ax (cs:=[.bool true]) (ds:=[]) rfl (AC _ _)))))
 obtain ⟨I2,z2,h⟩:=bi h
 refine RD.cq 22 8388607 8388608 (.bool I2) c0 rfl g0 body89 rfl (e1 rfl) (fun w9 hw9=>units_every_c n _ w9 (x0.hL0 hL hw9) ([j0,(!(mgetD d0 b0.ft false)),true,true]:List Bool) (AH (St.lend (α:=Bool) (L:=L) x0 .hd M1 hL) hw9) z2) rfl<|Ai 23 16777215 c0 rfl g0 (fun _=>Be rfl) rfl<|AX (dk c0)<|MX.ifnb rfl h (fun c1 h=>?_) (fun c1 h=>?_)
 refine Am<|Ae<|Ab rfl<|Bf 0 rfl<|AN rfl ((x0.memA (.tl .hd)) 0 _ rfl)<|RG.now .plain (Acts.mapUpdate (kv:=b0.ft) (vv:=true) x0 (.tl (.tl .hd)) Tryz.underlying139 Tryz.underlying9 rfl rfl rfl rfl) (fun x3 K0 z1=>?_)
 refine Aa<|Al<|Bf 5 rfl<|AN rfl ((K0.memA (.tl .hd)) 5 _ rfl)<|Af rfl<|Aa<|Aq<|Al<|Ac (AT (i:=q0) (j:=1) rfl rfl (by omega))<|Ab rfl<|Aa ?_
 obtain ⟨s1,A1⟩:=Ay K0 (.one (.tl (.tl .hd)) (.one (.tl (.tl .hd)) .done))
 have p2:=Tt t0 (Tt v0 (Tt y1 (Tt z1 A1)))
 exact F0 (b0.fo,q0 + 1,mset d0 b0.ft true) _ _ ⟨rfl,rfl,rfl,rfl,rfl,rfl,trivial⟩ ⟨s1,(Tt G0 p2)⟩ h
 refine Ae<|Af rfl<|Aa ?_
 have h:=thn_inl h C0
 refine Ao rfl<|AL hb0 Tryz.func73 rfl rfl ?_
 cases h
 exact x0.gv
 refine Bb 17 262143 c0 rfl g0 (.yes rfl rfl) (fun _=>Br 5 rfl) rfl<|RD.val (i:=18) (m' :=524287) (W:=16252928) (tk c0) rfl g0 (.yes rfl rfl) (AJ rfl ((s0.memA .hd) 5 _ rfl)) rfl<|Bb 19 1048575 c0 rfl g0 (.yes rfl rfl) (fun _=>Be rfl) rfl<|Ai 20 2097151 c0 rfl g0 (fun _=>AP rfl rfl) rfl<|RD.nu 21 4194303 c0 rfl .plain rfl (AF (α:=Bool) (xs:=([j0,(!(mgetD d0 b0.ft false)),true,(!b0.fo)]:List Bool)) (vs:=[.bool j0,.bool (!(mgetD d0 b0.ft false)),.bool true,.bool (!b0.fo)]) (ds' :=[.bool j0,.bool (!(mgetD d0 b0.ft false)),.bool true,.bool (!b0.fo)]) rfl s0 el146 rfl (e4 rfl rfl rfl rfl) (by kernel_rfl) rfl) (fun y3 W2 y0 B1=>?_)
 have P1:=Av (cs:=[.bool j0,.bool (!(mgetD d0 b0.ft false)),.bool true,.bool (!b0.fo)]) (xs:=(([j0,(!(mgetD d0 b0.ft false)),true,(!b0.fo)]:List Bool):List Bool)) y0 L (Ax (cs:=[.bool j0]) (ds:=[.bool (!(mgetD d0 b0.ft false)),.bool true,.bool (!b0.fo)]) rfl (Ax (cs:=[.bool (!(mgetD d0 b0.ft false))]) (ds:=[.bool true,.bool (!b0.fo)]) rfl (Ax (cs:=[.bool true]) (ds:=[.bool (!b0.fo)]) rfl (Ax (cs:=[.bool (!b0.fo)]) (ds:=[]) rfl (AC _ _)))))
 obtain ⟨J2,A2,h⟩:=bi h
 refine RD.cq 22 8388607 8388608 (.bool J2) c0 rfl g0 body89 rfl (e1 rfl) (fun w9 hw9=>units_every_c n _ w9 (y0.hL0 hL hw9) ([j0,(!(mgetD d0 b0.ft false)),true,(!b0.fo)]:List Bool) (AH (St.lend (α:=Bool) (L:=L) y0 .hd P1 hL) hw9) A2) rfl<|Ai 23 16777215 c0 rfl g0 (fun _=>Be rfl) rfl<|AX (dk c0)<|MX.ifnb rfl h (fun d1 h=>?_) (fun d1 h=>?_)
 refine Am<|Ae<|Ab rfl<|Bf 0 rfl<|AN rfl ((y0.memA (.tl .hd)) 0 _ rfl)<|RG.now .plain (Acts.mapUpdate (kv:=b0.ft) (vv:=true) y0 (.tl (.tl .hd)) Tryz.underlying139 Tryz.underlying9 rfl rfl rfl rfl) (fun z3 M0 C1=>?_)
 refine Aa<|Al<|Bf 5 rfl<|AN rfl ((M0.memA (.tl .hd)) 5 _ rfl)<|Af rfl<|Aa<|Aq<|Al<|Ac (AT (i:=q0) (j:=1) rfl rfl (by omega))<|Ab rfl<|Aa ?_
 obtain ⟨u1,D1⟩:=Ay M0 (.one (.tl (.tl .hd)) (.one (.tl (.tl .hd)) .done))
 have q2:=Tt t0 (Tt v0 (Tt B1 (Tt C1 D1)))
 exact F0 (b0.fo,q0 + 1,mset d0 b0.ft true) _ _ ⟨rfl,rfl,rfl,rfl,rfl,rfl,trivial⟩ ⟨u1,(Tt G0 q2)⟩ h
 refine Ae<|Af rfl<|Aa ?_
 have h:=thn_inl h C0
 refine Ao rfl<|AL hb0 Tryz.func73 rfl rfl ?_
 cases h
 exact y0.gv
 refine Bb 11 4095 c0 rfl g0 (.yes rfl rfl) (fun _=>Ah rfl) rfl<|Bb 12 8191 c0 rfl g0 (.yes rfl rfl) (fun _=>Be rfl) rfl<|Ai 13 16383 c0 rfl g0 (fun _=>AP rfl rfl) rfl<|Ai 14 32767 c0 rfl g0 (fun _=>Ah rfl) rfl<|Ai 15 65535 c0 rfl g0 (fun _=>FV.gtrN (i:=q0) (j:=0) rfl rfl) rfl<|Ai 16 131071 c0 rfl g0 (fun _=>Ah rfl) rfl<|RD.ifd (s:=61) rfl h (fun g1 h=>?_) (fun g1 h=>?_)
 refine Bo 1048575 4 [(17,62),(18,63),(19,64)] (F:=[(61,true)]) (U:=[]) c0 g0 (.cons rfl .nil) .nil ?_
 dsimp only [offS,List.map]
 refine Ai 20 2097151 c0 rfl g0 (fun _=>Bz rfl rfl) rfl<|RD.nu 21 4194303 c0 rfl .plain rfl (AF (α:=Bool) (xs:=([j0,(!(mgetD d0 b0.ft false)),(!p0),true]:List Bool)) (vs:=[.bool j0,.bool (!(mgetD d0 b0.ft false)),.bool (!p0),.bool true]) (ds' :=[.bool j0,.bool (!(mgetD d0 b0.ft false)),.bool (!p0),.bool true]) rfl s0 el146 rfl (e4 rfl rfl rfl rfl) (by kernel_rfl) rfl) (fun A3 X2 z0 E1=>?_)
 have Q1:=Av (cs:=[.bool j0,.bool (!(mgetD d0 b0.ft false)),.bool (!p0),.bool true]) (xs:=(([j0,(!(mgetD d0 b0.ft false)),(!p0),true]:List Bool):List Bool)) z0 L (Ax (cs:=[.bool j0]) (ds:=[.bool (!(mgetD d0 b0.ft false)),.bool (!p0),.bool true]) rfl (Ax (cs:=[.bool (!(mgetD d0 b0.ft false))]) (ds:=[.bool (!p0),.bool true]) rfl (Ax (cs:=[.bool (!p0)]) (ds:=[.bool true]) rfl (Ax (cs:=[.bool true]) (ds:=[]) rfl (AC _ _)))))
 obtain ⟨K2,B2,h⟩:=bi h
 refine RD.cq 22 8388607 8388608 (.bool K2) c0 rfl g0 body89 rfl (e1 rfl) (fun w9 hw9=>units_every_c n _ w9 (z0.hL0 hL hw9) ([j0,(!(mgetD d0 b0.ft false)),(!p0),true]:List Bool) (AH (St.lend (α:=Bool) (L:=L) z0 .hd Q1 hL) hw9) B2) rfl<|Ai 23 16777215 c0 rfl g0 (fun _=>Be rfl) rfl<|AX (dk c0)<|MX.ifnb rfl h (fun j1 h=>?_) (fun j1 h=>?_)
 refine Am<|Ae<|Ab rfl<|Bf 0 rfl<|AN rfl ((z0.memA (.tl .hd)) 0 _ rfl)<|RG.now .plain (Acts.mapUpdate (kv:=b0.ft) (vv:=true) z0 (.tl (.tl .hd)) Tryz.underlying139 Tryz.underlying9 rfl rfl rfl rfl) (fun B3 P0 F1=>?_)
 refine Aa<|Al<|Bf 5 rfl<|AN rfl ((P0.memA (.tl .hd)) 5 _ rfl)<|Af rfl<|Aa<|Aq<|Al<|Ac (AT (i:=q0) (j:=1) rfl rfl (by omega))<|Ab rfl<|Aa ?_
 obtain ⟨v1,G1⟩:=Ay P0 (.one (.tl (.tl .hd)) (.one (.tl (.tl .hd)) .done))
 have s2:=Tt t0 (Tt v0 (Tt E1 (Tt F1 G1)))
 exact F0 (b0.fo,q0 + 1,mset d0 b0.ft true) _ _ ⟨rfl,rfl,rfl,rfl,rfl,rfl,trivial⟩ ⟨v1,(Tt G0 s2)⟩ h
 refine Ae<|Af rfl<|Aa ?_
 have h:=thn_inl h C0
 refine Ao rfl<|AL hb0 Tryz.func73 rfl rfl ?_
 cases h
 exact z0.gv
 refine Bb 17 262143 c0 rfl g0 (.yes rfl rfl) (fun _=>Br 5 rfl) rfl<|RD.val (i:=18) (m' :=524287) (W:=16252928) (tk c0) rfl g0 (.yes rfl rfl) (AJ rfl ((s0.memA .hd) 5 _ rfl)) rfl<|Bb 19 1048575 c0 rfl g0 (.yes rfl rfl) (fun _=>Be rfl) rfl<|Ai 20 2097151 c0 rfl g0 (fun _=>AP rfl rfl) rfl<|RD.nu 21 4194303 c0 rfl .plain rfl (AF (α:=Bool) (xs:=([j0,(!(mgetD d0 b0.ft false)),(!p0),(!b0.fo)]:List Bool)) (vs:=[.bool j0,.bool (!(mgetD d0 b0.ft false)),.bool (!p0),.bool (!b0.fo)]) (ds' :=[.bool j0,.bool (!(mgetD d0 b0.ft false)),.bool (!p0),.bool (!b0.fo)]) rfl s0 el146 rfl (e4 rfl rfl rfl rfl) (by kernel_rfl) rfl) (fun C3 Y2 A0 H1=>?_)
 have R1:=Av (cs:=[.bool j0,.bool (!(mgetD d0 b0.ft false)),.bool (!p0),.bool (!b0.fo)]) (xs:=(([j0,(!(mgetD d0 b0.ft false)),(!p0),(!b0.fo)]:List Bool):List Bool)) A0 L (Ax (cs:=[.bool j0]) (ds:=[.bool (!(mgetD d0 b0.ft false)),.bool (!p0),.bool (!b0.fo)]) rfl (Ax (cs:=[.bool (!(mgetD d0 b0.ft false))]) (ds:=[.bool (!p0),.bool (!b0.fo)]) rfl (Ax (cs:=[.bool (!p0)]) (ds:=[.bool (!b0.fo)]) rfl (Ax (cs:=[.bool (!b0.fo)]) (ds:=[]) rfl (AC _ _)))))
 obtain ⟨M2,C2,h⟩:=bi h
 refine RD.cq 22 8388607 8388608 (.bool M2) c0 rfl g0 body89 rfl (e1 rfl) (fun w9 hw9=>units_every_c n _ w9 (A0.hL0 hL hw9) ([j0,(!(mgetD d0 b0.ft false)),(!p0),(!b0.fo)]:List Bool) (AH (St.lend (α:=Bool) (L:=L) A0 .hd R1 hL) hw9) C2) rfl<|Ai 23 16777215 c0 rfl g0 (fun _=>Be rfl) rfl<|AX (dk c0)<|MX.ifnb rfl h (fun k1 h=>?_) (fun k1 h=>?_)
 refine Am<|Ae<|Ab rfl<|Bf 0 rfl<|AN rfl ((A0.memA (.tl .hd)) 0 _ rfl)<|RG.now .plain (Acts.mapUpdate (kv:=b0.ft) (vv:=true) A0 (.tl (.tl .hd)) Tryz.underlying139 Tryz.underlying9 rfl rfl rfl rfl) (fun D3 Q0 I1=>?_)
 refine Aa<|Al<|Bf 5 rfl<|AN rfl ((Q0.memA (.tl .hd)) 5 _ rfl)<|Af rfl<|Aa<|Aq<|Al<|Ac (AT (i:=q0) (j:=1) rfl rfl (by omega))<|Ab rfl<|Aa ?_
 obtain ⟨x1,J1⟩:=Ay Q0 (.one (.tl (.tl .hd)) (.one (.tl (.tl .hd)) .done))
 have t2:=Tt t0 (Tt v0 (Tt H1 (Tt I1 J1)))
 exact F0 (b0.fo,q0 + 1,mset d0 b0.ft true) _ _ ⟨rfl,rfl,rfl,rfl,rfl,rfl,trivial⟩ ⟨x1,(Tt G0 t2)⟩ h
 refine Ae<|Af rfl<|Aa ?_
 have h:=thn_inl h C0
 refine Ao rfl<|AL hb0 Tryz.func73 rfl rfl ?_
 cases h
 exact A0.gv
 refine AR rfl ?_
 have h:=thn_inr h C0
 try dsimp only at h
 refine Ae<|Af rfl<|Aa<|Ao rfl<|AL hb0 Tryz.func73 rfl rfl ?_
 cases h
 exact H0.gv
 refine Ae<|Af rfl<|Aa<|Ao rfl<|AL hb0 Tryz.func73 rfl rfl ?_
 cases h
 exact B0.gv
structure Tview where
  fj:TRoll
  fu:Int
  deriving DecidableEq
instance:Rep Tview:=Rep.via (β:=TRoll × Int) fun x=>(x.fj,x.fu)
theorem body73:bodyB Tryz.prog 73 = true:=by kernel_rfl
def split_seen_p (n:Nat) (a0:TRoll) (a1:Int):Option (Tview × Int):=
  (units_CheckRoll_p n a0).bind fun b0=>(if b0 = 0 then (if a1 < 0 then some ((⟨(⟨(0:Int),(0:Int),(0:Int),([]:List TUnit)⟩:TRoll),(0:Int)⟩:Tview),(2:Int)) else (if a0.fh ≤ a1 then some ((⟨(⟨(0:Int),(0:Int),(0:Int),([]:List TUnit)⟩:TRoll),(0:Int)⟩:Tview),(2:Int)) else some ((⟨a0,a1⟩:Tview),(0:Int)))) else some ((⟨(⟨(0:Int),(0:Int),(0:Int),([]:List TUnit)⟩:TRoll),(0:Int)⟩:Tview),b0))
theorem split_seen_c (n:Nat) (L:List Nat) (w:World) (hL:∀ b ∈ L,b < w.heap.size) (a0:TRoll) {v0_3:Value} (h0_3:Rep.R w L [v0_3] a0.fm) (a1:Int)  {r:Tview × Int} (h:split_seen_p n a0 a1 = some r) :
    Calls Tryz.prog 54 #[.agg #[vI a0.fe,vI a0.fc,vI a0.fh,v0_3],vI a1] w (Gives w fun w' u=>∃ v0_3:Value,u = .tuple #[.agg #[vI r.1.fj.fe,vI r.1.fj.fc,vI r.1.fj.fh,v0_3,vI r.1.fu],vI r.2]∧Rep.R w' L [v0_3] r.1.fj.fm):=by
 unfold split_seen_p at h
 have hS0:=AD w
 refine AI Tryz.func54 rfl rfl rfl (fun _ cs0 hb0=>?_)
 refine Ae<|Az .plain rfl (AK hS0 rfl rfl) (fun P0 D0 v0 G0=>?_)
 refine Az .plain rfl (Ba [vI 0,vI 0,vI 0,vN,vI 0] v0) (fun Q0 E0 b0 H0=>?_)
 refine Af rfl<|Aa<|Aj<|Ae<|Ac (AE rfl (b0.memA (.tl .hd))) ?_
 obtain ⟨q0,B0,h⟩:=bi h
 refine Bp (vI q0) body73 rfl (e1 rfl) (fun w9 hw9=>units_CheckRoll_c n _ w9 (b0.hL0 hL hw9) a0 (b0.k0 h0_3 hw9) B0) rfl<|Af rfl<|Aa<|Ae<|Ab rfl<|Ac (Bs (i:=q0) (j:=0) rfl rfl)<|Aa<|MX.ifn rfl h (fun s0 h=>?_) (fun s0 h=>?_)
 refine Am<|Aj<|Ae<|Ab rfl<|Ac (FV.lss (i:=a1) (j:=0) rfl rfl)<|Ab rfl<|Bx (s:=15) rfl h (fun t0 h=>?_) (fun t0 h=>?_)
 refine Ag<|Ag<|Ag<|Ag<|AG rfl rfl<|Aa<|Bq rfl<|Ae<|Ac (Bh (vs:=[]) (u:=.agg #[vI 0,vI 0,vI 0,vN,vI 0]) evs_nil (fun w9=>by kernel_rfl))<|Bu [vI 0,vI 0,vI 0,vN,vI 0] b0 .hd (onesB rfl) (fun R0 c0 I0=>?_)
 refine Af rfl<|Aa<|Ao rfl ?_
 have x0:=Bt (α:=TUnit) c0 L
 refine AB hb0 Tryz.func54 rfl (.cons (.many (cs:=[vI 0,vI 0,vI 0,vN,vI 0]) (by kernel_rfl) rfl (c0.memA .hd)) (.cons (.tmp rfl) .nil)) rfl ?_
 cases h
 exact ⟨c0.ag,fun w9 hw9=>⟨vN,rfl,c0.kd x0 hw9⟩⟩
 refine Ar (Ah rfl)<|RG.fg 2 rfl<|Ar (AJ rfl ((b0.memA (.tl .hd)) 2 _ rfl))<|Ar (FV.geq (i:=a1) (j:=a0.fh) rfl rfl)<|Bd rfl rfl<|Aa<|AM rfl h (fun u0 h=>?_) (fun u0 h=>?_)
 refine Ae<|Ac (Bh (vs:=[]) (u:=.agg #[vI 0,vI 0,vI 0,vN,vI 0]) evs_nil (fun w9=>by kernel_rfl))<|Bu [vI 0,vI 0,vI 0,vN,vI 0] b0 .hd (onesB rfl) (fun U0 d0 J0=>?_)
 refine Af rfl<|Aa<|Ao rfl ?_
 have y0:=Bt (α:=TUnit) d0 L
 refine AB hb0 Tryz.func54 rfl (.cons (.many (cs:=[vI 0,vI 0,vI 0,vN,vI 0]) (by kernel_rfl) rfl (d0.memA .hd)) (.cons (.tmp rfl) .nil)) rfl ?_
 cases h
 exact ⟨d0.ag,fun w9 hw9=>⟨vN,rfl,d0.kd y0 hw9⟩⟩
 refine Am<|Ae<|Ac (AE rfl (b0.memA (.tl .hd)))<|Ab rfl ?_
 have p0:=Bn h0_3 b0
 obtain ⟨C0,F0,A0,_⟩:=Rep.sl p0
 refine Ac (Bh (vs:=[.agg #[vI a0.fe,vI a0.fc,vI a0.fh,v0_3],vI a1]) (u:=.agg #[vI a0.fe,vI a0.fc,vI a0.fh,v0_3,vI a1]) (e2 rfl rfl) (fun w9=>by rw [A0]; try kernel_rfl))<|Bu [vI a0.fe,vI a0.fc,vI a0.fh,v0_3,vI a1] b0 .hd (o5 rfl rfl rfl (BI p0) rfl) (fun V0 j0 K0=>?_)
 refine Af rfl<|Aa<|Ao rfl<|AB hb0 Tryz.func54 rfl (.cons (.many (cs:=[vI a0.fe,vI a0.fc,vI a0.fh,v0_3,vI a1]) (by kernel_rfl) rfl (j0.memA .hd)) (.cons (.tmp rfl) .nil)) rfl ?_
 cases h
 exact ⟨j0.ag,fun w9 hw9=>⟨v0_3,rfl,j0.k0 h0_3 hw9⟩⟩
 refine Ae<|Ac (Bh (vs:=[]) (u:=.agg #[vI 0,vI 0,vI 0,vN,vI 0]) evs_nil (fun w9=>by kernel_rfl))<|Ab rfl<|Bu [vI 0,vI 0,vI 0,vN,vI 0] b0 .hd (onesB rfl) (fun W0 g0 M0=>?_)
 refine Af rfl<|Aa<|Ao rfl ?_
 have z0:=Bt (α:=TUnit) g0 L
 refine AB hb0 Tryz.func54 rfl (.cons (.many (cs:=[vI 0,vI 0,vI 0,vN,vI 0]) (by kernel_rfl) rfl (g0.memA .hd)) (.cons (.tmp rfl) .nil)) rfl ?_
 cases h
 exact ⟨g0.ag,fun w9 hw9=>⟨vN,rfl,g0.kd z0 hw9⟩⟩
theorem split_view_land_c (_n:Nat) (L:List Nat) (w:World) (_hL:∀ b ∈ L,b < w.heap.size) (a0:Tview) {v0_3:Value} (_h0_3:Rep.R w L [v0_3] a0.fj.fm)  :
    Calls Tryz.prog 62 #[.agg #[vI a0.fj.fe,vI a0.fj.fc,vI a0.fj.fh,v0_3,vI a0.fu]] w (Gives w fun w' u=>∃ b0:Nat,u = .func (.func 78) #[] #[vP b0]∧St w w' [.cells b0 [vI a0.fj.fe,vI a0.fj.fc,vI a0.fj.fh,v0_3,vI a0.fu] 97]):=by
 have hS0:=AD w
 refine AI Tryz.func62 rfl rfl rfl (fun _ cs0 hb0=>?_)
 refine Ae<|Az .plain rfl (AK hS0 rfl rfl) (fun g0 b0 c0 d0=>?_)
 refine Af rfl<|Aa<|Ae<|Ac (FV.makeFunc (vs:=[]) (us:=[vP b0]) evs_nil (e1 rfl))<|Af rfl<|Aa<|Ao rfl<|AB (u:=.func (.func 78) #[] #[vP b0]) hb0 Tryz.func62 rfl (.cons (.tmp rfl) .nil) rfl ?_
 exact ⟨c0.ag,fun w9 hw9=>⟨b0,rfl,c0.agree hw9⟩⟩
structure Tparent where
  fA:Int
  fy:Int
  fq:UInt8
  deriving DecidableEq
instance:Rep Tparent:=Rep.via (β:=Int × Int × UInt8) fun x=>(x.fA,x.fy,x.fq)
def stab0:List UInt8:=[0,1,2,2,3,3,3,3,4,4,4,4,4,4,4,4,5,5,5,5,5,5,5,5,5,5,5,5,5,5,5,5,6,6,6,6,6,6,6,6,6,6,6,6,6,6,6,6,6,6,6,6,6,6,6,6,6,6,6,6,6,6,6,6,7,7,7,7,7,7,7,7,7,7,7,7,7,7,7,7,7,7,7,7,7,7,7,7,7,7,7,7,7,7,7,7,7,7,7,7,7,7,7,7,7,7,7,7,7,7,7,7,7,7,7,7,7,7,7,7,7,7,7,7,7,7,7,7,8,8,8,8,8,8,8,8,8,8,8,8,8,8,8,8,8,8,8,8,8,8,8,8,8,8,8,8,8,8,8,8,8,8,8,8,8,8,8,8,8,8,8,8,8,8,8,8,8,8,8,8,8,8,8,8,8,8,8,8,8,8,8,8,8,8,8,8,8,8,8,8,8,8,8,8,8,8,8,8,8,8,8,8,8,8,8,8,8,8,8,8,8,8,8,8,8,8,8,8,8,8,8,8,8,8,8,8,8,8,8,8,8,8,8,8,8,8,8,8,8,8,8,8,8,8,8,8]
def math_bits_Len64_p (_n:Nat) (a0:UInt64):Option Int:=
  jn (fun (u2,i3)=>jn (fun (b0,g0)=>jn (fun (q0,s0)=>(stab0[(u8of q0).toNat]?).bind fun t0=>(chk (s0 + ((t0.toNat:Nat):Int))).bind fun j0=>some j0) (fun d0=>(if (256:UInt64) ≤ b0 then (chk (g0 + 8)).bind fun k0=>d0 (shrU b0 8,k0) else d0 (b0,g0)))) (fun c0=>(if (65536:UInt64) ≤ u2 then (chk (((i3:Nat):Int) + 16)).bind fun p0=>c0 (shrU u2 16,p0) else c0 (u2,((i3:Nat):Int))))) (fun J7=>(if (4294967296:UInt64) ≤ a0 then J7 (shrU a0 32,32) else J7 (a0,0)))
theorem math_bits_Len64_c (n:Nat) (L:List Nat) (w:World) (_hL:∀ b ∈ L,b < w.heap.size) (a0:UInt64)  {r:Int} (h:math_bits_Len64_p n a0 = some r) :
    Calls Tryz.prog 109 #[vU a0] w (Gives w fun _ u=>u = vI r):=by
 unfold math_bits_Len64_p at h
 have hS0:=AD w
 refine AI Tryz.func109 rfl rfl rfl (fun _ cs0 hb0=>?_)
 refine Ae<|Af rfl<|Aa<|Aj<|Ae<|Ab rfl<|Ac (FV.geqU (a:=a0) (b:=(4294967296:UInt64)) rfl rfl)<|Aa<|MX.join (α:=UInt64 × Nat) (fun ⟨u2,i3⟩=>[(0,vU u2),(2,vI ((i3:Nat):Int))]) (fun ⟨u2,i3⟩ wx3=>St w wx3 []∧Tr w [] wx3 []) (fun ⟨u2,i3⟩=>(u2,i3)) h ?_ ?_
 rintro ⟨u2,i3⟩ wx3 ⟨hS4,hT5⟩ h
 try dsimp only at h
 refine Aj<|Ae<|Ab rfl<|Ac (FV.geqU (a:=u2) (b:=(65536:UInt64)) rfl rfl)<|Aa<|MX.join (α:=UInt64 × Int) (fun ⟨b0,d0⟩=>[(0,vU b0),(2,vI d0)]) (fun ⟨b0,d0⟩ j0=>St w j0 []∧Tr wx3 [] j0 []) (fun ⟨b0,d0⟩=>(b0,d0)) h ?_ ?_
 rintro ⟨b0,d0⟩ j0 ⟨t0,H0⟩ h
 try dsimp only at h
 refine Aj<|Ae<|Ab rfl<|Ac (FV.geqU (a:=b0) (b:=(256:UInt64)) rfl rfl)<|Aa<|MX.join (α:=UInt64 × Int) (fun ⟨c0,g0⟩=>[(0,vU c0),(2,vI g0)]) (fun ⟨c0,g0⟩ k0=>St w k0 []∧Tr j0 [] k0 []) (fun ⟨c0,g0⟩=>(c0,g0)) h ?_ ?_
 rintro ⟨c0,g0⟩ k0 ⟨y0,I0⟩ h
 try dsimp only at h
 refine Ae<|Ab rfl<|Ab rfl<|Ac (FV.conv8 (a:=c0) Tryz.underlying160 Tryz.underlying5 rfl) ?_
 obtain ⟨p0,C0,h⟩:=bi h
 refine Ac (FV.strIdx (k:=(u8of c0).toNat) (tab:=stab0) Tryz.underlying9 rfl rfl rfl rfl C0) ?_
 have J0:=p0.toNat_lt
 refine Ac (FV.convN (i:=p0.toNat) Tryz.underlying5 Tryz.underlying3 rfl (by omega)) ?_
 obtain ⟨K0,z0,h⟩:=bi h
 refine Ac (By (i:=g0) (j:=((p0.toNat:Nat):Int)) rfl rfl z0)<|Af rfl<|Aa<|Ao rfl<|AL hb0 Tryz.func109 rfl rfl ?_
 cases h
 exact y0.gv
 intro G0 s0 h
 try dsimp only at h
 refine AM rfl h (fun u0 h=>?_) (fun u0 h=>?_)
 refine Ae<|Ab rfl<|Ac (FV.shrU (a:=b0) (j:=8) rfl rfl)<|Af rfl<|Aa<|Al<|Ab rfl ?_
 obtain ⟨D0,A0,h⟩:=bi h
 refine Ac (By (i:=d0) (j:=8) rfl rfl A0)<|Af rfl<|Aa ?_
 exact s0 (shrU b0 8,D0) _ _ ⟨rfl,rfl,trivial⟩ ⟨t0,AA _ _⟩ h
 refine Am ?_
 exact s0 (b0,d0) _ _ ⟨rfl,rfl,trivial⟩ ⟨t0,AA _ _⟩ h
 intro F0 q0 h
 try dsimp only at h
 refine AM rfl h (fun v0 h=>?_) (fun v0 h=>?_)
 refine Ae<|Ab rfl<|Ac (FV.shrU (a:=u2) (j:=16) rfl rfl)<|Af rfl<|Aa<|Al<|Ab rfl ?_
 obtain ⟨E0,B0,h⟩:=bi h
 refine Ac (By (i:=((i3:Nat):Int)) (j:=16) rfl rfl B0)<|Af rfl<|Aa ?_
 exact q0 (shrU u2 16,E0) _ _ ⟨rfl,rfl,trivial⟩ ⟨hS4,AA _ _⟩ h
 refine Am ?_
 exact q0 (u2,((i3:Nat):Int)) _ _ ⟨rfl,rfl,trivial⟩ ⟨hS4,AA _ _⟩ h
 intro J7 hJ8 h
 try dsimp only at h
 refine AM rfl h (fun x0 h=>?_) (fun x0 h=>?_)
 refine Ae<|Ab rfl<|Ac (FV.shrU (a:=a0) (j:=32) rfl rfl)<|Af rfl<|Aa<|Al<|Af rfl<|Aa ?_
 exact hJ8 (shrU a0 32,32) _ _ ⟨rfl,rfl,trivial⟩ ⟨hS0,AA _ _⟩ h
 refine Am ?_
 exact hJ8 (a0,0) _ _ ⟨rfl,rfl,trivial⟩ ⟨hS0,AA _ _⟩ h
theorem body109:bodyB Tryz.prog 109 = true:=by kernel_rfl
def math_bits_Len_p (n:Nat) (a0:UInt64):Option Int:=
  (math_bits_Len64_p n a0).bind fun y1=>some y1
theorem math_bits_Len_c (n:Nat) (L:List Nat) (w:World) (hL:∀ b ∈ L,b < w.heap.size) (a0:UInt64)  {r:Int} (h:math_bits_Len_p n a0 = some r) :
    Calls Tryz.prog 92 #[vU a0] w (Gives w fun _ u=>u = vI r):=by
 unfold math_bits_Len_p at h
 have hS0:=AD w
 refine AI Tryz.func92 rfl rfl rfl (fun _ cs0 hb0=>?_)
 refine Ae<|Af rfl<|Aa<|Aj<|Bv rfl<|Am<|Ae<|Ab rfl ?_
 obtain ⟨y1,hy1,h⟩:=bi h
 refine Bp (vI y1) body109 rfl (e1 rfl) (fun w9 hw9=>math_bits_Len64_c n _ w9 (hS0.hL0 hL hw9) a0 hy1) rfl<|Af rfl<|Aa<|Ao rfl<|AL hb0 Tryz.func92 rfl rfl ?_
 cases h
 exact hS0.gv
theorem body92:bodyB Tryz.prog 92 = true:=by kernel_rfl
def slices_nextPowerOfTwo_p (n:Nat) (a0:Int):Option UInt64:=
  (math_bits_Len_p n (u64of a0)).bind fun y1=>(natOf y1).bind fun k2=>some (shlU (1:UInt64) k2)
theorem slices_nextPowerOfTwo_c (n:Nat) (L:List Nat) (w:World) (hL:∀ b ∈ L,b < w.heap.size) (a0:Int)  {r:UInt64} (h:slices_nextPowerOfTwo_p n a0 = some r) :
    Calls Tryz.prog 123 #[vI a0] w (Gives w fun _ u=>u = vU r):=by
 unfold slices_nextPowerOfTwo_p at h
 have hS0:=AD w
 refine AI Tryz.func123 rfl rfl rfl (fun _ cs0 hb0=>?_)
 refine Ae<|Af rfl<|Aa<|Ae<|Ab rfl<|Ac (FV.convU (i:=a0) Tryz.underlying3 Tryz.underlying143 rfl) ?_
 obtain ⟨y1,hy1,h⟩:=bi h
 refine Bp (vI y1) body92 rfl (e1 rfl) (fun w9 hw9=>math_bits_Len_c n _ w9 (hS0.hL0 hL hw9) (u64of a0) hy1) rfl ?_
 obtain ⟨k2,hk2,h⟩:=bi h
 refine Ac (FV.shlI (a:=(1:UInt64)) (i:=y1) rfl rfl hk2)<|Af rfl<|Aa<|Ao rfl<|AL hb0 Tryz.func123 rfl rfl ?_
 cases h
 exact hS0.gv
def tb124_1:List (Nat × Nat × Nat):=[(0,8,1),(1,16,8),(2,32,16),(0,64,1),(8,128,64),(16,256,128),(32,512,256),(68,1024,544),(255,2048,8),(511,0,3072)]
def split_view_parents_1_p (_n:Nat) (a0:Tparent) (a1:Tparent):Option Int:=
  (chk (a0.fA - a1.fA)).bind fun b0=>some b0
theorem split_view_parents_1_c (n:Nat) (L:List Nat) (w:World) (_hL:∀ b ∈ L,b < w.heap.size) (a0:Tparent) (a1:Tparent)  {r:Int} (h:split_view_parents_1_p n a0 a1 = some r) :
    Calls Tryz.prog 76 #[.agg #[vI a0.fA,vI a0.fy,.int .u8 (a0.fq.toNat:Int)],.agg #[vI a1.fA,vI a1.fy,.int .u8 (a1.fq.toNat:Int)]] w (Gives w fun _ u=>u = vI r):=by
 unfold split_view_parents_1_p at h
 have hS0:=AD w
 refine AI Tryz.func76 rfl rfl rfl (fun _ cs0 hb0=>?_)
 refine Ae<|Az .plain rfl (AK hS0 rfl rfl) (fun s0 g0 c0 k0=>?_)
 refine Az .plain rfl (AK c0 rfl rfl) (fun t0 j0 b0 p0=>?_)
 refine Af rfl<|Aa<|Ae<|Bf 0 rfl<|AN rfl ((b0.memA (.tl .hd)) 0 _ rfl)<|Bf 0 rfl<|AN rfl ((b0.memA .hd) 0 _ rfl) ?_
 obtain ⟨q0,d0,h⟩:=bi h
 refine Ac (FV.subc (i:=a0.fA) (j:=a1.fA) rfl rfl d0)<|Af rfl<|Aa<|Ao rfl<|AL hb0 Tryz.func76 rfl rfl ?_
 cases h
 exact b0.gv
end Go.Proofs.YtfncplndfpgngaaGreatDoor
