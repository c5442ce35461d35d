/- Functions of the program, and what they give: part 3. -/
import Derived.Test.YtbgcdbblaadokaaGreatDoorRV2
namespace Go.Proofs.YtbgcdbblaadokaaGreatDoor
open Go Go.RowKit
set_option maxRecDepth 4000
set_option maxHeartbeats 4000000

def slices_Index_bool_bool_l1 (_n:Nat) (a0:List Bool) (a1:Bool) (c0:Nat → Option (Int ⊕ Unit)):Nat → Option (Int ⊕ Unit)
  | b0=>(if b0 < a0.length then (a0[b0]?).bind fun d0=>(if (a1 == d0) = true then some (.inl ((b0:Nat):Int)) else c0 (b0 + 1)) else some (.inr ()))
def slices_Index_bool_bool_p (n:Nat) (a0:List Bool) (a1:Bool):Option Int:=
  thn (loopF (slices_Index_bool_bool_l1 n a0 a1) n 0) (fun _=>some (-1:Int))
theorem slices_Index_bool_bool_c (n:Nat) (L:List Nat) (w:World) (_hL:∀ b ∈ L,b < w.heap.size) (a0:List Bool) {v0_0:Value} (h0_0:Rep.R w L [v0_0] a0) (a1:Bool)  {r:Int} (h:slices_Index_bool_bool_p n a0 a1 = some r) :
    Calls Tryz.prog 129 #[v0_0,.bool a1] w (Gives w fun _ u=>u = vI r):=by
 unfold slices_Index_bool_bool_p at h
 have hS0:=Ax w
 refine AE Tryz.func129 rfl rfl rfl (fun _ cs0 hb0=>?_)
 refine Ac<|Ah rfl<|Aa<|Ak<|Ac<|Ae rfl ?_
 have hl1:a0.length ≤ 281474976710656:=Bi h0_0
 refine Ab (Bk (xs:=a0) Tryz.underlying158 rfl h0_0)<|Ae rfl<|Aa<|AB ?_
 obtain ⟨G0,A0,g0⟩:=thn_in h
 refine Bw (α:=Nat) (fun b0=>[(0,v0_0),(1,.bool a1),(7,vI ((a0.length:Nat):Int)),(8,vI ((b0:Nat):Int))]) (fun b0 d0=>St w d0 []∧Tr w [] d0 []) (fun b0=>b0) 0 A0 ⟨rfl,rfl,rfl,rfl,trivial⟩ ⟨hS0,Bd _ _⟩ ?_
 rintro E0 b0 d0 s0 ⟨c0,t0⟩ h
 unfold slices_Index_bool_bool_l1 at h
 try dsimp only at h
 refine Ac<|Ab (Bm (i:=b0) (j:=a0.length) rfl rfl)<|Aa<|Ak<|AX rfl h (fun k0 h=>?_) (fun k0 h=>?_)
 refine Av<|Ak<|AB<|Ac<|Ae rfl<|Ah rfl<|Aa<|Ac<|Ae rfl<|Ae rfl<|Ae rfl ?_
 obtain ⟨j0,C0,h⟩:=bi h
 have z0:=AP h0_0 c0
 obtain ⟨D0,F0,u0,x0,q0,B0,y0⟩:=Bo z0 C0
 have v0:q0 = [.bool j0]:=B0; subst v0
 refine Ab (Bx 1 b0 rfl u0 rfl rfl x0)<|AZ rfl (y0 0 _ rfl)<|Ab (FV.eqlB (a:=a1) (b:=j0) Tryz.underlying4 rfl rfl)<|Aa<|MX.ifb rfl h (fun p0 h=>?_) (fun p0 h=>?_)
 refine Ac<|Ae rfl<|Ah rfl<|Aa ?_
 have h:=thn_inl h g0
 refine Am rfl<|Be hb0 Tryz.func129 rfl rfl ?_
 cases h
 exact c0.gv
 refine Av<|AC<|Ao<|Ab (Bl (i:=b0) (j:=1) rfl rfl (by omega))<|Ae rfl<|Aa ?_
 exact s0 (b0 + 1) _ _ ⟨rfl,rfl,rfl,rfl,trivial⟩ ⟨c0,t0⟩ h
 refine Bj rfl ?_
 have h:=thn_inr h g0
 try dsimp only at h
 refine Ac<|Ah rfl<|Aa<|Am rfl<|Be hb0 Tryz.func129 rfl rfl ?_
 cases h
 exact c0.gv
theorem body129:bodyB Tryz.prog 129 = true:=by kernel_rfl
def slices_Contains_bool_bool_p (n:Nat) (a0:List Bool) (a1:Bool):Option Bool:=
  (slices_Index_bool_bool_p n a0 a1).bind fun y1=>some (decide (0 ≤ y1))
theorem slices_Contains_bool_bool_c (n:Nat) (L:List Nat) (w:World) (hL:∀ b ∈ L,b < w.heap.size) (a0:List Bool) {v0_0:Value} (h0_0:Rep.R w L [v0_0] a0) (a1:Bool)  {r:Bool} (h:slices_Contains_bool_bool_p n a0 a1 = some r) :
    Calls Tryz.prog 108 #[v0_0,.bool a1] w (Gives w fun _ u=>u = .bool r):=by
 unfold slices_Contains_bool_bool_p at h
 have hS0:=Ax w
 refine AE Tryz.func108 rfl rfl rfl (fun _ cs0 hb0=>?_)
 refine Ac<|Ah rfl<|Aa<|Ac<|Ae rfl<|Ae rfl ?_
 obtain ⟨y1,hy1,h⟩:=bi h
 refine Ba (vI y1) body129 rfl (e2 rfl rfl) (fun w9 hw9=>slices_Index_bool_bool_c n _ w9 (hS0.hL0 hL hw9) a0 (hS0.kd h0_0 hw9) a1 hy1) rfl<|Ab (FV.geq (i:=y1) (j:=0) rfl rfl)<|Ah rfl<|Aa<|Am rfl<|Be hb0 Tryz.func108 rfl rfl ?_
 cases h
 exact hS0.gv
theorem body108:bodyB Tryz.prog 108 = true:=by kernel_rfl
def units_every_p (n:Nat) (a0:List Bool):Option Bool:=
  (slices_Contains_bool_bool_p n a0 false).bind fun y1=>some (!y1)
theorem units_every_c (n:Nat) (L:List Nat) (w:World) (hL:∀ b ∈ L,b < w.heap.size) (a0:List Bool) {v0_0:Value} (h0_0:Rep.R w L [v0_0] a0)  {r:Bool} (h:units_every_p n a0 = some r) :
    Calls Tryz.prog 90 #[v0_0] w (Gives w fun _ u=>u = .bool r):=by
 unfold units_every_p at h
 have hS0:=Ax w
 refine AE Tryz.func90 rfl rfl rfl (fun _ cs0 hb0=>?_)
 refine Ac<|Ah rfl<|Aa<|Ac<|Ae rfl ?_
 obtain ⟨y1,hy1,h⟩:=bi h
 refine Ba (.bool y1) body108 rfl (e2 rfl rfl) (fun w9 hw9=>slices_Contains_bool_bool_c n _ w9 (hS0.hL0 hL hw9) a0 (hS0.kd h0_0 hw9) false hy1) rfl<|Ab (FV.not rfl)<|Ah rfl<|Aa<|Am rfl<|Be hb0 Tryz.func90 rfl rfl ?_
 cases h
 exact hS0.gv
def strings_trimLeftByte_l1 (_n:Nat) (a1:UInt8) (c0:ByteArray → Option ByteArray):ByteArray → Option ByteArray
  | b0=>(if 0 < b0.size then (b0.data[0]?).bind fun g0=>(if g0.toNat = a1.toNat then (scut b0 1 (b0.size:Int)).bind fun d0=>c0 d0 else some b0) else some b0)
def strings_trimLeftByte_p (n:Nat) (a0:ByteArray) (a1:UInt8):Option ByteArray:=
  jn (fun c0=>some c0) (fun b0=>Option.bind (loopF (strings_trimLeftByte_l1 n a1) n a0) (b0))
theorem strings_trimLeftByte_c (n:Nat) (L:List Nat) (w:World) (_hL:∀ b ∈ L,b < w.heap.size) (a0:ByteArray) (a1:UInt8)  {r:ByteArray} (h:strings_trimLeftByte_p n a0 a1 = some r) :
    Calls Tryz.prog 130 #[.string a0,.int .u8 (a1.toNat:Int)] w (Gives w fun _ u=>u = .string r):=by
 unfold strings_trimLeftByte_p at h
 have hS0:=Ax w
 refine AE Tryz.func130 rfl rfl rfl (fun _ cs0 hb0=>?_)
 refine Ac<|Ah rfl<|Aa<|Ak<|AB<|MX.joinx (α:=ByteArray) (fun c0=>[(0,.string c0)]) (fun c0 j0=>St w j0 []∧Tr w [] j0 []) (fun c0=>c0) (id:=0) rfl h ?_ ?_
 rintro c0 j0 ⟨v0,E0⟩ h
 try dsimp only at h
 refine Ac<|Ae rfl<|Ah rfl<|Aa<|Am rfl<|Be hb0 Tryz.func130 rfl rfl ?_
 cases h
 exact v0.gv
 intro C0 p0 h
 try dsimp only at h
 obtain ⟨F0,x0,q0⟩:=bind_in2 h
 refine Bw (α:=ByteArray) (fun b0=>[(0,.string b0),(1,.int .u8 (a1.toNat:Int))]) (fun b0 k0=>St w k0 []∧Tr w [] k0 []) (fun b0=>b0) a0 x0 ⟨rfl,rfl,trivial⟩ ⟨hS0,Bd _ _⟩ ?_
 rintro D0 b0 k0 u0 ⟨d0,g0⟩ h
 unfold strings_trimLeftByte_l1 at h
 try dsimp only at h
 refine Ak<|Ac<|Ae rfl<|Ab (FV.len_string Tryz.underlying9 rfl)<|Ab (FV.gtrN (i:=b0.size) (j:=0) rfl rfl)<|Ae rfl<|RG.ifd (s:=8) rfl h (fun s0 h=>?_) (fun s0 h=>?_)
 refine AW (Aj rfl) ?_
 obtain ⟨B0,z0,h⟩:=bi h
 refine AW (FV.strAt (k:=0) Tryz.underlying9 rfl rfl rfl z0)<|AW (Aj rfl)<|AW (FV.eqlN (i:=B0.toNat) (j:=a1.toNat) rfl rfl)<|RG.pt rfl rfl<|Aa<|AX rfl h (fun t0 h=>?_) (fun t0 h=>?_)
 refine Av<|AB<|Ao<|Ae rfl ?_
 obtain ⟨A0,y0,h⟩:=bi h
 refine Ab (FV.strCut y0 Tryz.underlying9 rfl ⟨_,rfl⟩ rfl)<|Ah rfl<|Aa<|AC ?_
 exact u0 A0 _ _ ⟨rfl,rfl,trivial⟩ ⟨d0,g0⟩ h
 refine Bj rfl ?_
 have h:=q0 _ h
 try dsimp only at h
 exact p0 b0 _ _ ⟨rfl,trivial⟩ ⟨d0,g0⟩ h
 refine AO<|AO<|AO<|AO<|RG.pf rfl rfl<|Aa<|Bu rfl<|Bj rfl ?_
 have h:=q0 _ h
 try dsimp only at h
 exact p0 b0 _ _ ⟨rfl,trivial⟩ ⟨d0,g0⟩ h
def strings_trimRightByte_l1 (_n:Nat) (a1:UInt8) (c0:ByteArray → Option ByteArray):ByteArray → Option ByteArray
  | b0=>(if 0 < b0.size then (chk (((b0.size:Nat):Int) - 1)).bind fun d0=>(sidx b0 d0).bind fun k0=>(if k0.toNat = a1.toNat then (chk (((b0.size:Nat):Int) - 1)).bind fun g0=>(scut b0 0 g0).bind fun j0=>c0 j0 else some b0) else some b0)
def strings_trimRightByte_p (n:Nat) (a0:ByteArray) (a1:UInt8):Option ByteArray:=
  jn (fun c0=>some c0) (fun b0=>Option.bind (loopF (strings_trimRightByte_l1 n a1) n a0) (b0))
theorem strings_trimRightByte_c (n:Nat) (L:List Nat) (w:World) (_hL:∀ b ∈ L,b < w.heap.size) (a0:ByteArray) (a1:UInt8)  {r:ByteArray} (h:strings_trimRightByte_p n a0 a1 = some r) :
    Calls Tryz.prog 131 #[.string a0,.int .u8 (a1.toNat:Int)] w (Gives w fun _ u=>u = .string r):=by
 unfold strings_trimRightByte_p at h
 have hS0:=Ax w
 refine AE Tryz.func131 rfl rfl rfl (fun _ cs0 hb0=>?_)
 refine Ac<|Ah rfl<|Aa<|Ak<|AB<|MX.joinx (α:=ByteArray) (fun c0=>[(0,.string c0)]) (fun c0 j0=>St w j0 []∧Tr w [] j0 []) (fun c0=>c0) (id:=0) rfl h ?_ ?_
 rintro c0 j0 ⟨v0,J0⟩ h
 try dsimp only at h
 refine Ac<|Ae rfl<|Ah rfl<|Aa<|Am rfl<|Be hb0 Tryz.func131 rfl rfl ?_
 cases h
 exact v0.gv
 intro H0 p0 h
 try dsimp only at h
 obtain ⟨K0,y0,q0⟩:=bind_in2 h
 refine Bw (α:=ByteArray) (fun b0=>[(0,.string b0),(1,.int .u8 (a1.toNat:Int))]) (fun b0 k0=>St w k0 []∧Tr w [] k0 []) (fun b0=>b0) a0 y0 ⟨rfl,rfl,trivial⟩ ⟨hS0,Bd _ _⟩ ?_
 rintro I0 b0 k0 u0 ⟨d0,g0⟩ h
 unfold strings_trimRightByte_l1 at h
 try dsimp only at h
 refine Ak<|Ac<|Ae rfl<|Ab (FV.len_string Tryz.underlying9 rfl)<|Ab (FV.gtrN (i:=b0.size) (j:=0) rfl rfl)<|Ae rfl<|RG.ifd (s:=8) rfl h (fun s0 h=>?_) (fun s0 h=>?_)
 refine AW (Aj rfl)<|AW (Aj rfl)<|AW (FV.len_string Tryz.underlying9 rfl) ?_
 obtain ⟨E0,z0,h⟩:=bi h
 refine AW (FV.subc (i:=((b0.size:Nat):Int)) (j:=1) rfl rfl z0) ?_
 obtain ⟨G0,D0,h⟩:=bi h
 obtain ⟨x0,C0⟩:=sidx_in D0
 refine AW (FV.strAt (k:=E0.toNat) Tryz.underlying9 rfl rfl x0 C0)<|AW (Aj rfl)<|AW (FV.eqlN (i:=G0.toNat) (j:=a1.toNat) rfl rfl)<|RG.pt rfl rfl<|Aa<|AX rfl h (fun t0 h=>?_) (fun t0 h=>?_)
 refine Av<|AB<|Ao<|Ae rfl<|Ae rfl<|Ab (FV.len_string Tryz.underlying9 rfl) ?_
 obtain ⟨M0,A0,h⟩:=bi h
 refine Ab (FV.subc (i:=((b0.size:Nat):Int)) (j:=1) rfl rfl A0) ?_
 obtain ⟨F0,B0,h⟩:=bi h
 refine Ab (FV.strCut B0 Tryz.underlying9 rfl rfl ⟨_,rfl⟩)<|Ah rfl<|Aa<|AC ?_
 exact u0 F0 _ _ ⟨rfl,rfl,trivial⟩ ⟨d0,g0⟩ h
 refine Bj rfl ?_
 have h:=q0 _ h
 try dsimp only at h
 exact p0 b0 _ _ ⟨rfl,trivial⟩ ⟨d0,g0⟩ h
 refine AO<|AO<|AO<|AO<|AO<|AO<|AO<|RG.pf rfl rfl<|Aa<|Bu rfl<|Bj rfl ?_
 have h:=q0 _ h
 try dsimp only at h
 exact p0 b0 _ _ ⟨rfl,trivial⟩ ⟨d0,g0⟩ h
def internal_stringslite_IndexByte_p (_n:Nat) (_a0:ByteArray) (_a1:UInt8):Option Int:=
  none
theorem internal_stringslite_IndexByte_c (n:Nat) (L:List Nat) (w:World) (_hL:∀ b ∈ L,b < w.heap.size) (a0:ByteArray) (a1:UInt8)  {r:Int} (h:internal_stringslite_IndexByte_p n a0 a1 = some r) :
    Calls Tryz.prog 160 #[.string a0,.int .u8 (a1.toNat:Int)] w (Gives w fun _ u=>u = vI r):=by
 unfold internal_stringslite_IndexByte_p at h
 have hS0:=Ax w
 refine AE Tryz.func160 rfl rfl rfl (fun _ cs0 hb0=>?_)
 refine Ac<|Ah rfl<|Aa<|Ac<|Ae rfl<|Ae rfl ?_
 cases h
theorem body160:bodyB Tryz.prog 160 = true:=by kernel_rfl
def strings_IndexByte_p (n:Nat) (a0:ByteArray) (a1:UInt8):Option Int:=
  (internal_stringslite_IndexByte_p n a0 a1).bind fun y1=>some y1
theorem strings_IndexByte_c (n:Nat) (L:List Nat) (w:World) (hL:∀ b ∈ L,b < w.heap.size) (a0:ByteArray) (a1:UInt8)  {r:Int} (h:strings_IndexByte_p n a0 a1 = some r) :
    Calls Tryz.prog 156 #[.string a0,.int .u8 (a1.toNat:Int)] w (Gives w fun _ u=>u = vI r):=by
 unfold strings_IndexByte_p at h
 have hS0:=Ax w
 refine AE Tryz.func156 rfl rfl rfl (fun _ cs0 hb0=>?_)
 refine Ac<|Ah rfl<|Aa<|Ac<|Ae rfl<|Ae rfl ?_
 obtain ⟨y1,hy1,h⟩:=bi h
 refine Ba (vI y1) body160 rfl (e2 rfl rfl) (fun w9 hw9=>internal_stringslite_IndexByte_c n _ w9 (hS0.hL0 hL hw9) a0 a1 hy1) rfl<|Ah rfl<|Aa<|Am rfl<|Be hb0 Tryz.func156 rfl rfl ?_
 cases h
 exact hS0.gv
def unicode_utf8_ValidRune_p (_n:Nat) (a0:Int):Option Bool:=
  (if 0 ≤ a0 then (if a0 < 55296 then some true else (if 57343 < a0 then (if a0 ≤ 1114111 then some true else some false) else some false)) else (if 57343 < a0 then (if a0 ≤ 1114111 then some true else some false) else some false))
theorem unicode_utf8_ValidRune_c (n:Nat) (L:List Nat) (w:World) (_hL:∀ b ∈ L,b < w.heap.size) (a0:Int)  {r:Bool} (h:unicode_utf8_ValidRune_p n a0 = some r) :
    Calls Tryz.prog 157 #[.int .i32 a0] w (Gives w fun _ u=>u = .bool r):=by
 unfold unicode_utf8_ValidRune_p at h
 have hS0:=Ax w
 refine AE Tryz.func157 rfl rfl rfl (fun _ cs0 hb0=>?_)
 refine Ac<|Ah rfl<|Aa<|Ak<|AB<|Ac<|Ae rfl<|Ab (FV.leq (i:=0) (j:=a0) rfl rfl)<|Ae rfl<|RG.ifd (s:=6) rfl h (fun c1 h=>?_) (fun c1 h=>?_)
 refine AW (Aj rfl)<|AW (FV.lss (i:=a0) (j:=55296) rfl rfl)<|RG.pt rfl rfl<|Ah rfl<|Aa<|AX rfl h (fun c2 h=>?_) (fun c2 h=>?_)
 refine Ac<|Ah rfl<|Aa<|Am rfl<|Be hb0 Tryz.func157 rfl rfl ?_
 cases h
 exact hS0.gv
 refine Ac<|Ae rfl<|Ab (FV.lss (i:=57343) (j:=a0) rfl rfl)<|Ae rfl<|RG.ifd (s:=13) rfl h (fun c3 h=>?_) (fun c3 h=>?_)
 refine AW (Aj rfl)<|AW (FV.leq (i:=a0) (j:=1114111) rfl rfl)<|RG.pt rfl rfl<|Ah rfl<|Aa<|AX rfl h (fun c4 h=>?_) (fun c4 h=>?_)
 refine Ac<|Ah rfl<|Aa<|Am rfl<|Be hb0 Tryz.func157 rfl rfl ?_
 cases h
 exact hS0.gv
 refine Av<|AC<|Ac<|Ah rfl<|Aa<|Am rfl<|Be hb0 Tryz.func157 rfl rfl ?_
 cases h
 exact hS0.gv
 refine AO<|AO<|RG.pf rfl rfl<|Ah rfl<|Aa<|Bu rfl<|Av<|AC<|Ac<|Ah rfl<|Aa<|Am rfl<|Be hb0 Tryz.func157 rfl rfl ?_
 cases h
 exact hS0.gv
 refine AO<|AO<|RG.pf rfl rfl<|Ah rfl<|Aa<|Bu rfl<|Ac<|Ae rfl<|Ab (FV.lss (i:=57343) (j:=a0) rfl rfl)<|Ae rfl<|RG.ifd (s:=13) rfl h (fun c5 h=>?_) (fun c5 h=>?_)
 refine AW (Aj rfl)<|AW (FV.leq (i:=a0) (j:=1114111) rfl rfl)<|RG.pt rfl rfl<|Ah rfl<|Aa<|AX rfl h (fun c6 h=>?_) (fun c6 h=>?_)
 refine Ac<|Ah rfl<|Aa<|Am rfl<|Be hb0 Tryz.func157 rfl rfl ?_
 cases h
 exact hS0.gv
 refine Av<|AC<|Ac<|Ah rfl<|Aa<|Am rfl<|Be hb0 Tryz.func157 rfl rfl ?_
 cases h
 exact hS0.gv
 refine AO<|AO<|RG.pf rfl rfl<|Ah rfl<|Aa<|Bu rfl<|Av<|AC<|Ac<|Ah rfl<|Aa<|Am rfl<|Be hb0 Tryz.func157 rfl rfl ?_
 cases h
 exact hS0.gv
def internal_bytealg_Cutover_p (_n:Nat) (a0:Int):Option Int:=
  (chk (a0 + 16)).bind fun s1=>(quoI s1 8).bind fun s2=>some s2
theorem internal_bytealg_Cutover_c (n:Nat) (L:List Nat) (w:World) (_hL:∀ b ∈ L,b < w.heap.size) (a0:Int)  {r:Int} (h:internal_bytealg_Cutover_p n a0 = some r) :
    Calls Tryz.prog 158 #[vI a0] w (Gives w fun _ u=>u = vI r):=by
 unfold internal_bytealg_Cutover_p at h
 have hS0:=Ax w
 refine AE Tryz.func158 rfl rfl rfl (fun _ cs0 hb0=>?_)
 refine Ac<|Ah rfl<|Aa<|Ac<|Ae rfl ?_
 obtain ⟨s1,hs1,h⟩:=bi h
 refine Ab (FV.addc (i:=a0) (j:=16) rfl rfl hs1) ?_
 obtain ⟨s2,hs2,h⟩:=bi h
 refine Ab (FV.quoc (i:=s1) (j:=8) rfl rfl hs2)<|Ah rfl<|Aa<|Am rfl<|Be hb0 Tryz.func158 rfl rfl ?_
 cases h
 exact hS0.gv
def unicode_utf8_RuneStart_p (_n:Nat) (a0:UInt8):Option Bool:=
  some (!(decide (((a0 &&& (192:UInt8)).toNat) = 128)))
theorem unicode_utf8_RuneStart_c (n:Nat) (L:List Nat) (w:World) (_hL:∀ b ∈ L,b < w.heap.size) (a0:UInt8)  {r:Bool} (h:unicode_utf8_RuneStart_p n a0 = some r) :
    Calls Tryz.prog 155 #[.int .u8 (a0.toNat:Int)] w (Gives w fun _ u=>u = .bool r):=by
 unfold unicode_utf8_RuneStart_p at h
 have hS0:=Ax w
 refine AE Tryz.func155 rfl rfl rfl (fun _ cs0 hb0=>?_)
 refine Ac<|Ah rfl<|Aa<|Ac<|Ae rfl<|Ab (FV.and8 (a:=a0) (b:=(192:UInt8)) rfl rfl)<|Ab (FV.neqN (i:=(a0 &&& (192:UInt8)).toNat) (j:=128) rfl rfl)<|Ah rfl<|Aa<|Am rfl<|Be hb0 Tryz.func155 rfl rfl ?_
 cases h
 exact hS0.gv
def tb109_4:List (Nat × Nat × Nat):=[(0,4194304,1),(0,8388608,2),(2,16777216,8388608),(5,33554432,20971520),(0,67108864,2),(16,134217728,67108864),(40,268435456,167772160),(127,16,268435456)]
theorem body130:bodyB Tryz.prog 130 = true:=by kernel_rfl
theorem body131:bodyB Tryz.prog 131 = true:=by kernel_rfl
theorem body132:bodyB Tryz.prog 132 = true:=by kernel_rfl
theorem body133:bodyB Tryz.prog 133 = true:=by kernel_rfl
theorem body134:bodyB Tryz.prog 134 = true:=by kernel_rfl
theorem body146:bodyB Tryz.prog 146 = true:=by kernel_rfl
def strings_Trim_l1 (_n:Nat) (g0:List Bool) (c0:ByteArray → Option ByteArray):ByteArray → Option ByteArray
  | b0=>(if 0 < b0.size then (b0.data[0]?).bind fun j0=>(g0[j0.toNat]?).bind fun k0=>(if k0 = true then (scut b0 1 (b0.size:Int)).bind fun d0=>c0 d0 else some b0) else some b0)
def strings_Trim_l2 (_n:Nat) (k0:List Bool) (c0:ByteArray → Option ByteArray):ByteArray → Option ByteArray
  | b0=>(if 0 < b0.size then (chk (((b0.size:Nat):Int) - 1)).bind fun d0=>(sidx b0 d0).bind fun p0=>(k0[p0.toNat]?).bind fun q0=>(if q0 = true then (chk (((b0.size:Nat):Int) - 1)).bind fun g0=>(scut b0 0 g0).bind fun j0=>c0 j0 else some b0) else some b0)
def strings_Trim_l3 (_n:Nat) (a1:ByteArray) (g0:Int × (List Bool) → Option (ByteArray ⊕ (List Bool))):Int × (List Bool) → Option (ByteArray ⊕ (List Bool))
  | (c0,b0)=>(if c0 < ((a1.size:Nat):Int) then (sidx a1 c0).bind fun d0=>(if 128 ≤ d0.toNat then (none).map .inl else (b0[d0.toNat]?).bind fun k0=>(chk (c0 + 1)).bind fun j0=>g0 (j0,(b0.set d0.toNat true))) else some (.inr b0))
def strings_Trim_p (n:Nat) (a0:ByteArray) (a1:ByteArray):Option ByteArray:=
  jn (fun q2=>(if q2 = true then some a0 else jn (fun j0=>(if j0 = true then (a1.data[0]?).bind fun t0=>(strings_trimRightByte_p n a0 t0).bind fun q0=>(a1.data[0]?).bind fun u0=>(strings_trimLeftByte_p n q0 u0).bind fun s0=>some s0 else thn (loopF (strings_Trim_l3 n a1) n (0,(List.replicate 256 false))) (fun c0=>jn (fun k0=>jn (fun p0=>some p0) (fun g0=>Option.bind (loopF (strings_Trim_l1 n c0) n k0) (g0))) (fun d0=>Option.bind (loopF (strings_Trim_l2 n c0) n a0) (d0))))) (fun b0=>(if a1.size = 1 then (a1.data[0]?).bind fun v0=>b0 (decide (v0.toNat < 128)) else b0 false)))) (fun J6=>(if a0 = ⟨#[]⟩ then J6 true else J6 (decide (a1 = ⟨#[]⟩))))
theorem strings_Trim_c (n:Nat) (L:List Nat) (w:World) (hL:∀ b ∈ L,b < w.heap.size) (a0:ByteArray) (a1:ByteArray)  {r:ByteArray} (h:strings_Trim_p n a0 a1 = some r) :
    Calls Tryz.prog 109 #[.string a0,.string a1] w (Gives w fun _ u=>u = .string r):=by
 unfold strings_Trim_p at h
 have hS0:=Ax w
 refine AE Tryz.func109 rfl rfl rfl (fun _ cs0 hb0=>?_)
 refine Ac<|Ah rfl<|Aa<|Ak<|Ak<|MX.join (α:=Bool) (fun q2=>[(0,.string a0),(1,.string a1),(12,.bool q2)]) (fun q2 wx2=>St w wx2 []∧Tr w [] wx2 []) (fun q2=>q2) h ?_ ?_
 rintro q2 wx2 ⟨hS3,hT4⟩ h
 try dsimp only at h
 refine MX.ifb rfl h (fun c8 h=>?_) (fun c8 h=>?_)
 refine Ac<|Ae rfl<|Ah rfl<|Aa<|Am rfl<|Be hb0 Tryz.func109 rfl rfl ?_
 cases h
 exact hS3.gv
 refine Av<|Ak<|Ak<|MX.join (α:=Bool) (fun y0=>[(0,.string a0),(1,.string a1),(21,.bool y0)]) (fun y0 G0=>St w G0 []∧Tr wx2 [] G0 []) (fun y0=>y0) h ?_ ?_
 rintro y0 G0 ⟨A0,A3⟩ h
 try dsimp only at h
 refine MX.ifb rfl h (fun q1 h=>?_) (fun q1 h=>?_)
 refine Ak<|dt 8 tb109_4 (fun j0 k0=>?_)
 refine Af 0 1 j0 rfl k0 (fun _=>Aj rfl) rfl<|Af 1 3 j0 rfl k0 (fun _=>Aj rfl) rfl ?_
 obtain ⟨V2,E2,h⟩:=bi h
 refine Af 2 7 j0 rfl k0 (fun _=>FV.strAt (k:=0) Tryz.underlying9 rfl rfl rfl E2) rfl ?_
 obtain ⟨k1,C2,h⟩:=bi h
 refine BA 3 15 192 (.string k1) j0 rfl k0 body131 rfl (e2 rfl rfl) (fun w9 hw9=>strings_trimRightByte_c n _ w9 (A0.hL0 hL hw9) a0 V2 C2) rfl<|Af 4 31 j0 rfl k0 (fun _=>Aj rfl) rfl ?_
 obtain ⟨W2,F2,h⟩:=bi h
 refine Af 5 63 j0 rfl k0 (fun _=>FV.strAt (k:=0) Tryz.underlying9 rfl rfl rfl F2) rfl ?_
 obtain ⟨U2,D2,h⟩:=bi h
 refine BA 6 127 128 (.string U2) j0 rfl k0 body130 rfl (e2 rfl rfl) (fun w9 hw9=>strings_trimLeftByte_c n _ w9 (A0.hL0 hL hw9) k1 W2 D2) rfl<|Af 7 255 j0 rfl k0 (fun _=>AY rfl) rfl<|AH (dk j0)<|Am rfl<|Be hb0 Tryz.func109 rfl rfl ?_
 cases h
 exact A0.gv
 refine Av<|Ak<|Ac<|Ae rfl<|Bc (fst:=[]) (cap:=[]) (vs:=[.string a1]) .plain body132 Tryz.func132 rfl rfl rfl rfl (e1 rfl) rfl (fun s3 Y0 K3=>?_)
 refine Ac ?_
 have d2:(List.replicate 256 false).length = 256:=List.length_replicate
 refine Ai .plain rfl (Au ((List.replicate 256 false).map (fun z9:Bool=>(.bool z9:Value))) A0) (fun R2 t0 M1 D3=>?_)
 refine Ah rfl<|Aa<|Ak<|Ac<|Ah rfl<|Aa<|AB ?_
 obtain ⟨U3,t2,c1⟩:=thn_in h
 refine Bw (α:=Int × (List Bool)) (fun ⟨s0,b0⟩=>[(0,.string a1),(2,vP t0),(4,vI s0)]) (fun ⟨s0,b0⟩ K0=>St w K0 [.cells t0 (b0.map (fun z9:Bool=>(.bool z9:Value))) 187]∧Tr R2 [.cells t0 ((List.replicate 256 false).map (fun z9:Bool=>(.bool z9:Value))) 187] K0 [.cells t0 (b0.map (fun z9:Bool=>(.bool z9:Value))) 187]∧b0.length = 256) (fun ⟨s0,b0⟩=>(s0,b0)) (0,(List.replicate 256 false)) t2 ⟨rfl,rfl,rfl,trivial⟩ ⟨M1,Bd _ _,d2⟩ ?_
 rintro j3 ⟨s0,b0⟩ K0 E1 ⟨u0,R1,d0⟩ h
 unfold strings_Trim_l3 at h
 try dsimp only at h
 refine Ak<|Ac<|Ae rfl<|Ae rfl<|Ab (FV.len_string Tryz.underlying9 rfl)<|Ab (FV.lss (i:=s0) (j:=((a1.size:Nat):Int)) rfl rfl)<|Aa<|AX rfl h (fun A1 h=>?_) (fun A1 h=>?_)
 refine Av<|Ak<|AB<|Ac<|Ae rfl<|Ae rfl ?_
 obtain ⟨x0,J2,h⟩:=bi h
 obtain ⟨Z1,B2⟩:=sidx_in J2
 refine Ab (FV.strAt (k:=s0.toNat) Tryz.underlying9 rfl rfl Z1 B2)<|Ah rfl<|Aa<|Ak<|Ac<|Ae rfl<|Ab (FV.geqN (i:=x0.toNat) (j:=128) rfl rfl)<|Aa<|AX rfl h (fun B1 h=>?_) (fun B1 h=>?_)
 refine Ac<|Ab (AR (cs:=b0.map (fun z9:Bool=>(.bool z9:Value))) (by rw [List.length_map,d0]; kernel_rfl) rfl (u0.memA .hd))<|RG.now .plain (Acts.storeBig (fun z9:Bool=>(.bool z9:Value)) (m:=256) d0 d0 u0 .hd rfl rfl (by kernel_rfl) (fun _=>rfl)) (fun Z3 W0 E3=>?_)
 refine Ah rfl<|Aa ?_
 have h:=thn_map h c1
 refine Am rfl<|Al (u:=.tuple #[.agg (b0.map (fun z9:Bool=>(.bool z9:Value))).toArray,.bool false]) Y0 Tryz.func132 rfl (.cons (.many (cs:=b0.map (fun z9:Bool=>(.bool z9:Value))) (by rw [List.length_map,d0]; kernel_rfl) rfl (W0.memA .hd)) (.cons (.tmp rfl) .nil)) rfl<|Ae rfl<|Ab (Ag rfl rfl)<|Ab (Ag rfl rfl) ?_
 have g2:(List.replicate 256 false).length = 256:=List.length_replicate
 refine Ai .plain rfl (Au ((List.replicate 256 false).map (fun z9:Bool=>(.bool z9:Value))) W0) (fun b4 k3 P1 F3=>?_)
 refine RG.now .plain (Acts.storeBig (fun z9:Bool=>(.bool z9:Value)) (m:=256) g2 d0 P1 .hd rfl rfl (by kernel_rfl) (fun _=>rfl)) (fun c4 v3 G3=>?_)
 refine Ah rfl<|Aa<|Ac<|Ae rfl<|Aa<|Bu rfl<|Av<|Ac<|Ae rfl<|Ae rfl ?_
 cases h
 refine Av<|Ao<|Ae rfl ?_
 obtain ⟨d4,F0,h⟩:=bi h
 have H3:=mem_elem1 (p:=⟨t0,0,none⟩) (cs:=b0.map (fun z9:Bool=>(.bool z9:Value))) (i:=x0.toNat) (u0.memA .hd) (arr_get0 (fun z9:Bool=>(.bool z9:Value)) F0)
 refine Ab (AI (m:=1) (k:=x0.toNat) (len:=256) (by kernel_rfl) rfl rfl rfl (arr_lt F0 d0)) ?_
 have b2:(b0.set x0.toNat true).length = 256:=by rw [List.length_set]; exact d0
 refine RG.now .plain (Acts.setBig (fun z9:Bool=>(.bool z9:Value)) (i:=x0.toNat) (x:=true) (m:=256) d0 (arr_lt F0 d0) u0 .hd rfl (addr_at _ _ _) rfl (by kernel_rfl) (fun _=>⟨rfl,rfl⟩)) (fun W3 F1 Q1=>?_)
 refine Aa<|AC<|Ao<|Ae rfl ?_
 obtain ⟨K2,u2,h⟩:=bi h
 refine Ab (FV.addc (i:=s0) (j:=1) rfl rfl u2)<|Ah rfl<|Aa ?_
 exact E1 (K2,(b0.set x0.toNat true)) _ _ ⟨rfl,rfl,rfl,trivial⟩ ⟨F1,(Tt R1 Q1),b2⟩ h
 refine Bj rfl ?_
 have h:=thn_inr h c1
 try dsimp only at h
 refine Ac<|Ab (AR (cs:=b0.map (fun z9:Bool=>(.bool z9:Value))) (by rw [List.length_map,d0]; kernel_rfl) rfl (u0.memA .hd))<|RG.now .plain (Acts.storeBig (fun z9:Bool=>(.bool z9:Value)) (m:=256) d0 d0 u0 .hd rfl rfl (by kernel_rfl) (fun _=>rfl)) (fun X3 V0 x3=>?_)
 refine Ah rfl<|Aa<|Am rfl<|Al (u:=.tuple #[.agg (b0.map (fun z9:Bool=>(.bool z9:Value))).toArray,.bool true]) Y0 Tryz.func132 rfl (.cons (.many (cs:=b0.map (fun z9:Bool=>(.bool z9:Value))) (by rw [List.length_map,d0]; kernel_rfl) rfl (V0.memA .hd)) (.cons (.tmp rfl) .nil)) rfl<|Ae rfl<|Ab (Ag rfl rfl)<|Ab (Ag rfl rfl) ?_
 have c2:(List.replicate 256 false).length = 256:=List.length_replicate
 refine Ai .plain rfl (Au ((List.replicate 256 false).map (fun z9:Bool=>(.bool z9:Value))) V0) (fun Y3 c0 G1 y3=>?_)
 refine RG.now .plain (Acts.storeBig (fun z9:Bool=>(.bool z9:Value)) (m:=256) c2 d0 G1 .hd rfl rfl (by kernel_rfl) (fun _=>rfl)) (fun j1 H1 z3=>?_)
 refine Ah rfl<|Aa<|Ac<|Ae rfl<|Aa<|AV rfl<|Ac<|Ae rfl<|Bc (fst:=[]) (cap:=[]) (vs:=[.string a0,vP c0]) .plain body134 Tryz.func134 rfl rfl rfl rfl (e2 rfl rfl) rfl (fun p3 U1 I3=>?_)
 refine Ac<|Ah rfl<|Aa<|Ak<|AB<|MX.joinx (α:=ByteArray) (fun p0=>[(0,.string p0)]) (fun p0 z0=>St w z0 [.cells c0 (b0.map (fun z9:Bool=>(.bool z9:Value))) 187]∧Tr j1 [.cells c0 (b0.map (fun z9:Bool=>(.bool z9:Value))) 187,.cells t0 (b0.map (fun z9:Bool=>(.bool z9:Value))) 187] z0 [.cells c0 (b0.map (fun z9:Bool=>(.bool z9:Value))) 187]) (fun p0=>p0) (id:=0) rfl h ?_ ?_
 rintro p0 z0 ⟨I1,B3⟩ h
 try dsimp only at h
 refine Ac<|Ae rfl<|Ah rfl<|Aa<|Am rfl<|Al (u:=.string p0) U1 Tryz.func134 rfl (.cons (.tmp rfl) .nil) rfl<|Bc (fst:=[]) (cap:=[]) (vs:=[.string p0,vP c0]) .plain body133 Tryz.func133 rfl rfl rfl rfl (e2 rfl rfl) rfl (fun q3 V1 J3=>?_)
 refine Ac<|Ah rfl<|Aa<|Ak<|AB<|MX.joinx (α:=ByteArray) (fun v0=>[(0,.string v0)]) (fun v0 H0=>St w H0 [.cells c0 (b0.map (fun z9:Bool=>(.bool z9:Value))) 187]∧Tr z0 [.cells c0 (b0.map (fun z9:Bool=>(.bool z9:Value))) 187] H0 [.cells c0 (b0.map (fun z9:Bool=>(.bool z9:Value))) 187]) (fun v0=>v0) (id:=0) rfl h ?_ ?_
 rintro v0 H0 ⟨J1,C3⟩ h
 try dsimp only at h
 refine Ac<|Ae rfl<|Ah rfl<|Aa<|Am rfl<|Al (u:=.string v0) V1 Tryz.func133 rfl (.cons (.tmp rfl) .nil) rfl<|Ah rfl<|Aa<|Am rfl<|Be hb0 Tryz.func109 rfl rfl ?_
 cases h
 exact J1.gv
 intro c3 U0 h
 try dsimp only at h
 obtain ⟨Q3,p2,Z0⟩:=bind_in2 h
 refine Bw (α:=ByteArray) (fun q0=>[(0,.string q0),(1,vP c0)]) (fun q0 I0=>St w I0 [.cells c0 (b0.map (fun z9:Bool=>(.bool z9:Value))) 187]∧Tr z0 [.cells c0 (b0.map (fun z9:Bool=>(.bool z9:Value))) 187] I0 [.cells c0 (b0.map (fun z9:Bool=>(.bool z9:Value))) 187]) (fun q0=>q0) p0 p2 ⟨rfl,rfl,trivial⟩ ⟨I1,Bd _ _⟩ ?_
 rintro d3 q0 I0 C1 ⟨B0,D0⟩ h
 unfold strings_Trim_l1 at h
 try dsimp only at h
 refine Ak<|Ac<|Ae rfl<|Ab (FV.len_string Tryz.underlying9 rfl)<|Ab (FV.gtrN (i:=q0.size) (j:=0) rfl rfl)<|Aa<|AX rfl h (fun s1 h=>?_) (fun s1 h=>?_)
 refine Av<|AB<|Ak<|Ac<|Ae rfl<|Ae rfl ?_
 obtain ⟨M0,G2,h⟩:=bi h
 refine Ab (FV.strAt (k:=0) Tryz.underlying9 rfl rfl rfl G2)<|Bc (fst:=[]) (cap:=[]) (vs:=[vP c0,.int .u8 (M0.toNat:Int)]) .plain body146 Tryz.func146 rfl rfl rfl rfl (e2 rfl rfl) rfl (fun t3 W1 M3=>?_)
 refine Ac<|Ah rfl<|Aa<|Ac<|Ae rfl<|Ae rfl<|Ab (FV.nilCheck rfl) ?_
 obtain ⟨X2,d1,h⟩:=bi h
 have j2:=mem_elem1 (p:=⟨c0,0,none⟩) (cs:=b0.map (fun z9:Bool=>(.bool z9:Value))) (i:=M0.toNat) (B0.memA .hd) (arr_get0 (fun z9:Bool=>(.bool z9:Value)) d1)
 refine Ab (AI (m:=1) (k:=M0.toNat) (len:=256) (by kernel_rfl) rfl rfl rfl (arr_lt d1 d0))<|AZ rfl (j2 0 _ rfl)<|Ah rfl<|Aa<|Am rfl<|Al (u:=.bool X2) W1 Tryz.func146 rfl (.cons (.tmp rfl) .nil) rfl<|Ab (FV.not rfl)<|Aa<|MX.ifnb rfl h (fun u1 h=>?_) (fun u1 h=>?_)
 refine Av<|Ao<|Ae rfl ?_
 obtain ⟨M2,v2,h⟩:=bi h
 refine Ab (FV.strCut v2 Tryz.underlying9 rfl ⟨_,rfl⟩ rfl)<|Ah rfl<|Aa<|AC ?_
 exact C1 M2 _ _ ⟨rfl,rfl,trivial⟩ ⟨B0,D0⟩ h
 refine Bj rfl ?_
 have h:=Z0 _ h
 try dsimp only at h
 exact U0 q0 _ _ ⟨rfl,trivial⟩ ⟨B0,D0⟩ h
 refine Bj rfl ?_
 have h:=Z0 _ h
 try dsimp only at h
 exact U0 q0 _ _ ⟨rfl,trivial⟩ ⟨B0,D0⟩ h
 intro b3 R0 h
 try dsimp only at h
 obtain ⟨K1,X0⟩:=AN H1 (.one .hd .done)
 obtain ⟨R3,s2,b1⟩:=bind_in2 h
 refine Bw (α:=ByteArray) (fun g0=>[(0,.string g0),(1,vP c0)]) (fun g0 J0=>St w J0 [.cells c0 (b0.map (fun z9:Bool=>(.bool z9:Value))) 187]∧Tr j1 [.cells c0 (b0.map (fun z9:Bool=>(.bool z9:Value))) 187] J0 [.cells c0 (b0.map (fun z9:Bool=>(.bool z9:Value))) 187]) (fun g0=>g0) a0 s2 ⟨rfl,rfl,trivial⟩ ⟨K1,Bd _ _⟩ ?_
 rintro g3 g0 J0 D1 ⟨C0,E0⟩ h
 unfold strings_Trim_l2 at h
 try dsimp only at h
 refine Ak<|Ac<|Ae rfl<|Ab (FV.len_string Tryz.underlying9 rfl)<|Ab (FV.gtrN (i:=g0.size) (j:=0) rfl rfl)<|Aa<|AX rfl h (fun v1 h=>?_) (fun v1 h=>?_)
 refine Av<|AB<|Ak<|Ac<|Ae rfl<|Ae rfl<|Ae rfl<|Ab (FV.len_string Tryz.underlying9 rfl) ?_
 obtain ⟨P2,x2,h⟩:=bi h
 refine Ab (FV.subc (i:=((g0.size:Nat):Int)) (j:=1) rfl rfl x2) ?_
 obtain ⟨P0,H2,h⟩:=bi h
 obtain ⟨Y1,A2⟩:=sidx_in H2
 refine Ab (FV.strAt (k:=P2.toNat) Tryz.underlying9 rfl rfl Y1 A2)<|Bc (fst:=[]) (cap:=[]) (vs:=[vP c0,.int .u8 (P0.toNat:Int)]) .plain body146 Tryz.func146 rfl rfl rfl rfl (e2 rfl rfl) rfl (fun u3 X1 P3=>?_)
 refine Ac<|Ah rfl<|Aa<|Ac<|Ae rfl<|Ae rfl<|Ab (FV.nilCheck rfl) ?_
 obtain ⟨Y2,g1,h⟩:=bi h
 have k2:=mem_elem1 (p:=⟨c0,0,none⟩) (cs:=b0.map (fun z9:Bool=>(.bool z9:Value))) (i:=P0.toNat) (C0.memA .hd) (arr_get0 (fun z9:Bool=>(.bool z9:Value)) g1)
 refine Ab (AI (m:=1) (k:=P0.toNat) (len:=256) (by kernel_rfl) rfl rfl rfl (arr_lt g1 d0))<|AZ rfl (k2 0 _ rfl)<|Ah rfl<|Aa<|Am rfl<|Al (u:=.bool Y2) X1 Tryz.func146 rfl (.cons (.tmp rfl) .nil) rfl<|Ab (FV.not rfl)<|Aa<|MX.ifnb rfl h (fun x1 h=>?_) (fun x1 h=>?_)
 refine Av<|Ao<|Ae rfl<|Ae rfl<|Ab (FV.len_string Tryz.underlying9 rfl) ?_
 obtain ⟨V3,y2,h⟩:=bi h
 refine Ab (FV.subc (i:=((g0.size:Nat):Int)) (j:=1) rfl rfl y2) ?_
 obtain ⟨Q2,z2,h⟩:=bi h
 refine Ab (FV.strCut z2 Tryz.underlying9 rfl rfl ⟨_,rfl⟩)<|Ah rfl<|Aa<|AC ?_
 exact D1 Q2 _ _ ⟨rfl,rfl,trivial⟩ ⟨C0,E0⟩ h
 refine Bj rfl ?_
 have h:=b1 _ h
 try dsimp only at h
 exact R0 g0 _ _ ⟨rfl,trivial⟩ ⟨C0,(Tt X0 E0)⟩ h
 refine Bj rfl ?_
 have h:=b1 _ h
 try dsimp only at h
 exact R0 g0 _ _ ⟨rfl,trivial⟩ ⟨C0,(Tt X0 E0)⟩ h
 intro Z2 Q0 h
 try dsimp only at h
 refine Ao<|Ae rfl<|Ab (FV.len_string Tryz.underlying9 rfl)<|Ab (FV.eqlN (i:=a1.size) (j:=1) rfl rfl)<|Ae rfl<|RG.ifd (s:=17) rfl h (fun y1 h=>?_) (fun y1 h=>?_)
 refine AW (Aj rfl) ?_
 obtain ⟨p1,I2,h⟩:=bi h
 refine AW (FV.strAt (k:=0) Tryz.underlying9 rfl rfl rfl I2)<|AW (Bm (i:=p1.toNat) (j:=128) rfl rfl)<|RG.pt rfl rfl<|Aa ?_
 exact Q0 (decide (p1.toNat < 128)) _ _ ⟨rfl,rfl,rfl,trivial⟩ ⟨hS3,Bd _ _⟩ h
 refine AO<|AO<|AO<|RG.pf rfl rfl<|Aa ?_
 exact Q0 false _ _ ⟨rfl,rfl,rfl,trivial⟩ ⟨hS3,Bd _ _⟩ h
 intro J6 hJ7 h
 try dsimp only at h
 refine Ao<|Ae rfl<|Ab (FV.eqlS rfl rfl)<|Ae rfl<|RG.ifd (s:=9) rfl h (fun z1 h=>?_) (fun z1 h=>?_)
 refine AO<|AO<|RG.pt rfl rfl<|Aa ?_
 exact hJ7 true _ _ ⟨rfl,rfl,rfl,trivial⟩ ⟨hS0,Bd _ _⟩ h
 refine AW (Aj rfl)<|AW (FV.eqlS rfl rfl)<|RG.pf rfl rfl<|Aa ?_
 exact hJ7 (decide (a1 = ⟨#[]⟩)) _ _ ⟨rfl,rfl,rfl,trivial⟩ ⟨hS0,Bd _ _⟩ h
def units_within_1_p (_n:Nat) (a0:Int) (a1:Int):Option Bool:=
  (if a0 < 0 then some true else some (decide (a1 < a0)))
theorem units_within_1_c (n:Nat) (L:List Nat) (w:World) (_hL:∀ b ∈ L,b < w.heap.size) (a0:Int) (a1:Int) {p1:Nat} (m1:∀ j9 v9,([vI a1]:List Value)[j9]? = some v9 → w.cell? ((⟨p1,0,none⟩:Addr).add j9) = some v9)  {r:Bool} (h:units_within_1_p n a0 a1 = some r) :
    Calls Tryz.prog 138 #[vI a0,.pointer (some ⟨p1,0,none⟩)] w (Gives w fun _ u=>u = .bool r):=by
 unfold units_within_1_p at h
 have hS0:=Ax w
 refine AE Tryz.func138 rfl rfl rfl (fun _ cs0 hb0=>?_)
 refine Ac<|Ah rfl<|Aa<|Ac<|Ae rfl<|Ab (FV.lss (i:=a0) (j:=0) rfl rfl)<|Ae rfl<|RG.ifd (s:=6) rfl h (fun c1 h=>?_) (fun c1 h=>?_)
 refine AO<|AO<|AO<|RG.pt rfl rfl<|Ah rfl<|Aa<|Am rfl<|Be hb0 Tryz.func138 rfl rfl ?_
 cases h
 exact hS0.gv
 refine AW (Aj rfl)<|AW (AJ rfl ((fun j9 v9 h9=>hS0.ag.cell0 (m1 j9 v9 h9)) 0 _ rfl))<|AW (FV.gtr (i:=a0) (j:=a1) rfl rfl)<|RG.pf rfl rfl<|Ah rfl<|Aa<|Am rfl<|Be hb0 Tryz.func138 rfl rfl ?_
 cases h
 exact hS0.gv
theorem body137:bodyB Tryz.prog 137 = true:=by kernel_rfl
theorem body138:bodyB Tryz.prog 138 = true:=by kernel_rfl
theorem body150:bodyB Tryz.prog 150 = true:=by kernel_rfl
def units_within_l1 (n:Nat) (a0:List Int) (a2:Int) (c0:Nat → Option (Bool ⊕ Unit)):Nat → Option (Bool ⊕ Unit)
  | b0=>(if b0 < a0.length then (a0[b0]?).bind fun d0=>(units_within_1_p n d0 a2).bind fun g0=>(if g0 = true then some (.inl (!(decide (0 ≤ b0)))) else c0 (b0 + 1)) else some (.inr ()))
def units_within_p (n:Nat) (a0:List Int) (a1:Int) (a2:Int):Option Bool:=
  (if ((a0.length:Nat):Int) = a1 then thn (loopF (units_within_l1 n a0 a2) n 0) (fun _=>some (!(decide (0 ≤ (-1))))) else some false)
theorem units_within_c (n:Nat) (L:List Nat) (w:World) (hL:∀ b ∈ L,b < w.heap.size) (a0:List Int) {v0_0:Value} (h0_0:Rep.R w L [v0_0] a0) (a1:Int) (a2:Int)  {r:Bool} (h:units_within_p n a0 a1 a2 = some r) :
    Calls Tryz.prog 110 #[v0_0,vI a1,vI a2] w (Gives w fun _ u=>u = .bool r):=by
 unfold units_within_p at h
 have hS0:=Ax w
 refine AE Tryz.func110 rfl rfl rfl (fun _ cs0 hb0=>?_)
 refine Ac<|Ai .plain rfl (Ar hS0 rfl rfl) (fun K0 c0 g0 W0=>?_)
 refine Ah rfl<|Aa<|Ac<|Ae rfl ?_
 have j0:=AP h0_0 g0
 have X0:a0.length ≤ 281474976710656:=Bi j0
 refine Ab (Bk (xs:=a0) Tryz.underlying42 rfl j0)<|Ae rfl<|Ab (FV.eql (i:=((a0.length:Nat):Int)) (j:=a1) rfl rfl)<|Ae rfl<|RG.ifd (s:=11) rfl h (fun u0 h=>?_) (fun u0 h=>?_)
 refine AW (Aj rfl)<|AW (BB (vs:=[]) (us:=[vP c0]) evs_nil (e1 rfl))<|Bc (fst:=[]) (cap:=[]) (vs:=[v0_0,.func (.func 138) #[] #[vP c0]]) (.yes rfl rfl) body137 Tryz.func137 rfl rfl rfl rfl (e2 rfl rfl) rfl (fun U0 p0 Y0=>?_)
 refine Ac<|Ah rfl<|Aa<|Ac<|Ae rfl<|Ae rfl<|Bc (fst:=[]) (cap:=[]) (vs:=[v0_0,.func (.func 138) #[] #[vP c0]]) .plain body150 Tryz.func150 rfl rfl rfl rfl (e2 rfl rfl) rfl (fun V0 q0 Z0=>?_)
 refine Ac<|Ah rfl<|Aa<|Ak<|Ac<|Ae rfl<|Ab (Bk (xs:=a0) Tryz.underlying42 rfl j0)<|Ae rfl<|Aa<|AB ?_
 obtain ⟨b1,G0,s0⟩:=thn_in h
 refine Bw (α:=Nat) (fun b0=>[(0,v0_0),(1,.func (.func 138) #[] #[vP c0]),(7,vI ((a0.length:Nat):Int)),(8,vI ((b0:Nat):Int))]) (fun b0 k0=>St w k0 [.cells c0 [vI a2] 3]∧Tr K0 [.cells c0 [vI a2] 3] k0 [.cells c0 [vI a2] 3]) (fun b0=>b0) 0 G0 ⟨rfl,rfl,rfl,rfl,trivial⟩ ⟨g0,Bd _ _⟩ ?_
 rintro Q0 b0 k0 z0 ⟨d0,A0⟩ h
 unfold units_within_l1 at h
 try dsimp only at h
 refine Ac<|Ab (Bm (i:=b0) (j:=a0.length) rfl rfl)<|Aa<|Ak<|AX rfl h (fun v0 h=>?_) (fun v0 h=>?_)
 refine Av<|Ak<|AB<|Ac<|Ae rfl<|Ah rfl<|Aa<|Ac<|Ae rfl<|Ae rfl<|Ae rfl ?_
 obtain ⟨t0,I0,h⟩:=bi h
 have F0:=AP h0_0 d0
 obtain ⟨P0,R0,B0,D0,y0,H0,E0⟩:=Bo F0 I0
 have C0:y0 = [vI t0]:=H0; subst C0
 refine Ab (Bx 1 b0 rfl B0 rfl rfl D0)<|AZ rfl (E0 0 _ rfl) ?_
 obtain ⟨M0,J0,h⟩:=bi h
 refine RG.callq' (v:=.bool M0) (fst:=[]) (cap:=[vP c0]) .plain body138 rfl (e1 rfl) (fun w9 hw9=>units_within_1_c n _ w9 (d0.hL0 hL hw9) t0 a2 (fun j9 v9 h9=>hw9.cell0 ((d0.memA .hd) j9 v9 h9)) J0) rfl<|Aa<|MX.ifb rfl h (fun x0 h=>?_) (fun x0 h=>?_)
 refine Ac<|Ae rfl<|Ah rfl<|Aa ?_
 have h:=thn_inl h s0
 refine Am rfl<|Al (u:=vI ((b0:Nat):Int)) q0 Tryz.func150 rfl (.cons (.tmp rfl) .nil) rfl<|Ab (FV.geqN (i:=b0) (j:=0) rfl rfl)<|Ah rfl<|Aa<|Am rfl<|Al (u:=.bool (decide (0 ≤ b0))) p0 Tryz.func137 rfl (.cons (.tmp rfl) .nil) rfl<|AW (FV.not rfl)<|RG.pt rfl rfl<|Ah rfl<|Aa<|Am rfl<|Be hb0 Tryz.func110 rfl rfl ?_
 cases h
 exact d0.gv
 refine Av<|AC<|Ao<|Ab (Bl (i:=b0) (j:=1) rfl rfl (by omega))<|Ae rfl<|Aa ?_
 exact z0 (b0 + 1) _ _ ⟨rfl,rfl,rfl,rfl,trivial⟩ ⟨d0,A0⟩ h
 refine Bj rfl ?_
 have h:=thn_inr h s0
 try dsimp only at h
 refine Ac<|Ah rfl<|Aa<|Am rfl<|Al (u:=vI (-1)) q0 Tryz.func150 rfl (.cons (.tmp rfl) .nil) rfl<|Ab (FV.geq (i:=(-1)) (j:=0) rfl rfl)<|Ah rfl<|Aa<|Am rfl<|Al (u:=.bool (decide (0 ≤ (-1)))) p0 Tryz.func137 rfl (.cons (.tmp rfl) .nil) rfl<|AW (FV.not rfl)<|RG.pt rfl rfl<|Ah rfl<|Aa<|Am rfl<|Be hb0 Tryz.func110 rfl rfl ?_
 cases h
 exact d0.gv
 refine AO<|AO<|AO<|AO<|RG.pf rfl rfl<|Ah rfl<|Aa<|Am rfl<|Be hb0 Tryz.func110 rfl rfl ?_
 cases h
 exact g0.gv
structure TUnit where
  fI:ByteArray
  fG:Int
  fj:List Int
  fP:List Int
  fParents:List Int
  fJ:Bool
  deriving DecidableEq
instance:Rep TUnit:=Rep.via (β:=ByteArray × Int × (List Int) × (List Int) × (List Int) × Bool) fun x=>(x.fI,x.fG,x.fj,x.fP,x.fParents,x.fJ)
structure TRoll where
  fj:Int
  fh:Int
  fl:Int
  fE:List TUnit
  deriving DecidableEq
instance:Rep TRoll:=Rep.via (β:=Int × Int × Int × (List TUnit)) fun x=>(x.fj,x.fh,x.fl,x.fE)
def tb91_4:List (Nat × Nat × Nat):=[(0,512,8),(1,1024,512),(2,2048,1024),(0,4096,8),(8,8192,4096),(16,16384,8192),(32,32768,16384),(0,65536,8),(128,131072,65536),(256,262144,131072),(512,524288,262144),(0,1048576,8),(2048,2097152,1048576),(4096,4194304,2097152),(0,8388608,8),(16384,16777216,8388608),(0,33554432,32),(98304,67108864,50331648),(0,134217728,8),(262144,268435456,134217728),(0,536870912,4),(1048576,1073741824,536870912),(0,2147483648,8),(4194304,4294967296,2147483648),(11010560,8589934592,5637144576),(0,17179869184,8),(33554432,34359738368,17179869184),(0,68719476736,4),(134217728,137438953472,68719476736),(0,274877906944,32),(889192448,549755813888,446676598784),(0,1099511627776,8),(2147483648,2199023255552,1099511627776),(0,4398046511104,4),(8589934592,8796093022208,4398046511104),(0,17592186044416,64),(56908316672,35184372088832,28587302322176),(69810136132,70368744177664,35742789699584),(206158430208,140737488355328,70368744177664),(549755813887,16,140737488355328)]
theorem el158:ElT Tryz.prog 158 4 (Rep.size Bool) 1 (.bool false) [.bool false]:=⟨Tryz.underlying158,by kernel_rfl,rfl,rfl,rfl,rfl⟩
theorem body90:bodyB Tryz.prog 90 = true:=by kernel_rfl
theorem body109:bodyB Tryz.prog 109 = true:=by kernel_rfl
theorem body110:bodyB Tryz.prog 110 = true:=by kernel_rfl
def units_right_p (n:Nat) (a0:TRoll) (a1:TUnit):Option Bool:=
  jn (fun (c0,d0)=>(strings_Trim_p n a1.fI ⟨#[65,66,67,68,69,70,71,72,73,74,75,76,77,78,79,80,81,82,83,84,85,86,87,88,89,90,97,98,99,100,101,102,103,104,105,106,107,108,109,110,111,112,113,114,115,116,117,118,119,120,121,122,48,49,50,51,52,53,54,55,56,57,45,95]⟩).bind fun g0=>(units_within_p n a1.fj a0.fj a1.fG).bind fun j0=>(units_within_p n a1.fP a0.fh ((c0:Nat):Int)).bind fun k0=>(units_within_p n a1.fParents a0.fl ((d0:Nat):Int)).bind fun p0=>(units_every_p n ([(!(decide (a1.fI = ⟨#[]⟩))),(decide (a1.fI.size ≤ 12)),(decide (g0 = ⟨#[]⟩)),(decide (0 ≤ a1.fG)),(decide (a1.fG ≤ ((c0:Nat):Int))),j0,k0,p0]:List Bool)).bind fun q0=>some q0) (fun b0=>(if a1.fJ = true then b0 (0,0) else b0 (1000000000,63)))
theorem units_right_c (n:Nat) (L:List Nat) (w:World) (hL:∀ b ∈ L,b < w.heap.size) (a0:TRoll) {v0_3:Value} (h0_3:Rep.R w L [v0_3] a0.fE) (a1:TUnit) {v1_2:Value} (h1_2:Rep.R w L [v1_2] a1.fj) {v1_3:Value} (h1_3:Rep.R w L [v1_3] a1.fP) {v1_4:Value} (h1_4:Rep.R w L [v1_4] a1.fParents)  {r:Bool} (h:units_right_p n a0 a1 = some r) :
    Calls Tryz.prog 91 #[.agg #[vI a0.fj,vI a0.fh,vI a0.fl,v0_3],.agg #[.string a1.fI,vI a1.fG,v1_2,v1_3,v1_4,.bool a1.fJ]] w (Gives w fun _ u=>u = .bool r):=by
 unfold units_right_p at h
 have hS0:=Ax w
 refine AE Tryz.func91 rfl rfl rfl (fun _ cs0 hb0=>?_)
 refine Ac<|Ai .plain rfl (Ar hS0 rfl rfl) (fun W0 u0 C0 Q0=>?_)
 refine Ai .plain rfl (Ar C0 rfl rfl) (fun J0 v0 y0 R0=>?_)
 refine Ah rfl<|Aa<|Ac<|Ah rfl<|Ah rfl<|Aa<|Ak<|Ac<|Bf 5 rfl<|AZ rfl ((y0.memA .hd) 5 _ rfl)<|Aa<|MX.join (α:=Nat × Nat) (fun ⟨g0,t0⟩=>[(2,vP u0),(3,vP v0),(5,vI ((g0:Nat):Int)),(6,vI ((t0:Nat):Int))]) (fun ⟨g0,t0⟩ z0=>St w z0 [.cells v0 [.string a1.fI,vI a1.fG,v1_2,v1_3,v1_4,.bool a1.fJ] 44,.cells u0 [vI a0.fj,vI a0.fh,vI a0.fl,v0_3] 28]∧Tr J0 [.cells v0 [.string a1.fI,vI a1.fG,v1_2,v1_3,v1_4,.bool a1.fJ] 44,.cells u0 [vI a0.fj,vI a0.fh,vI a0.fl,v0_3] 28] z0 [.cells v0 [.string a1.fI,vI a1.fG,v1_2,v1_3,v1_4,.bool a1.fJ] 44,.cells u0 [vI a0.fj,vI a0.fh,vI a0.fl,v0_3] 28]) (fun ⟨g0,t0⟩=>(g0,t0)) h ?_ ?_
 rintro ⟨g0,t0⟩ z0 ⟨d0,U0⟩ h
 try dsimp only at h
 refine Ak<|dt 40 tb91_4 (fun b0 c0=>?_)
 refine Af 0 1 b0 rfl c0 (fun _=>AQ 0 rfl) rfl<|AA 1 3 962072674308 b0 rfl c0 (AJ rfl ((d0.memA .hd) 0 _ rfl)) rfl<|Af 2 7 b0 rfl c0 (fun _=>FV.neqS rfl rfl) rfl<|Af 3 15 b0 rfl c0 (fun _=>AQ 0 rfl) rfl<|AA 4 31 962072674400 b0 rfl c0 (AJ rfl ((d0.memA .hd) 0 _ rfl)) rfl<|AA 5 63 962072674368 b0 rfl c0 (FV.len_string Tryz.underlying9 rfl) rfl<|Af 6 127 b0 rfl c0 (fun _=>FV.leqN (i:=a1.fI.size) (j:=12) rfl rfl) rfl<|Af 7 255 b0 rfl c0 (fun _=>AQ 0 rfl) rfl<|AA 8 511 1031882671616 b0 rfl c0 (AJ rfl ((d0.memA .hd) 0 _ rfl)) rfl ?_
 obtain ⟨s0,E0,h⟩:=bi h
 refine BA 9 1023 1031882671104 (.string s0) b0 rfl c0 body109 rfl (e2 rfl rfl) (fun w9 hw9=>strings_Trim_c n _ w9 (d0.hL0 hL hw9) a1.fI ⟨#[65,66,67,68,69,70,71,72,73,74,75,76,77,78,79,80,81,82,83,84,85,86,87,88,89,90,97,98,99,100,101,102,103,104,105,106,107,108,109,110,111,112,113,114,115,116,117,118,119,120,121,122,48,49,50,51,52,53,54,55,56,57,45,95]⟩ E0) rfl<|Af 10 2047 b0 rfl c0 (fun _=>FV.eqlS rfl rfl) rfl<|Af 11 4095 b0 rfl c0 (fun _=>AQ 1 rfl) rfl<|AA 12 8191 962072682496 b0 rfl c0 (AJ rfl ((d0.memA .hd) 1 _ rfl)) rfl<|Af 13 16383 b0 rfl c0 (fun _=>FV.geq (i:=a1.fG) (j:=0) rfl rfl) rfl<|Af 14 32767 b0 rfl c0 (fun _=>AQ 1 rfl) rfl<|AA 15 65535 962072805376 b0 rfl c0 (AJ rfl ((d0.memA .hd) 1 _ rfl)) rfl<|Af 16 131071 b0 rfl c0 (fun _=>Aj rfl) rfl<|Af 17 262143 b0 rfl c0 (fun _=>FV.leq (i:=a1.fG) (j:=((g0:Nat):Int)) rfl rfl) rfl<|Af 18 524287 b0 rfl c0 (fun _=>AQ 2 rfl) rfl<|AA 19 1048575 1031882670080 b0 rfl c0 (AJ rfl ((d0.memA .hd) 2 _ rfl)) rfl<|Af 20 2097151 b0 rfl c0 (fun _=>AQ 0 rfl) rfl<|AA 21 4194303 1031882670080 b0 rfl c0 (AJ rfl ((d0.memA (.tl .hd)) 0 _ rfl)) rfl<|Af 22 8388607 b0 rfl c0 (fun _=>AQ 1 rfl) rfl<|AA 23 16777215 1031882670080 b0 rfl c0 (AJ rfl ((d0.memA .hd) 1 _ rfl)) rfl ?_
 obtain ⟨q0,F0,h⟩:=bi h
 refine BA 24 33554431 1031865892864 (.bool q0) b0 rfl c0 body110 rfl (e3 rfl rfl rfl) (fun w9 hw9=>units_within_c n _ w9 (d0.hL0 hL hw9) a1.fj (d0.k0 h1_2 hw9) a0.fj a1.fG F0) rfl<|Af 25 67108863 b0 rfl c0 (fun _=>AQ 3 rfl) rfl<|AA 26 134217727 1031865892864 b0 rfl c0 (AJ rfl ((d0.memA .hd) 3 _ rfl)) rfl<|Af 27 268435455 b0 rfl c0 (fun _=>AQ 1 rfl) rfl<|AA 28 536870911 1031865892864 b0 rfl c0 (AJ rfl ((d0.memA (.tl .hd)) 1 _ rfl)) rfl<|Af 29 1073741823 b0 rfl c0 (fun _=>Aj rfl) rfl ?_
 obtain ⟨p0,G0,h⟩:=bi h
 refine BA 30 2147483647 1030792151040 (.bool p0) b0 rfl c0 body110 rfl (e3 rfl rfl rfl) (fun w9 hw9=>units_within_c n _ w9 (d0.hL0 hL hw9) a1.fP (d0.k0 h1_3 hw9) a0.fh ((g0:Nat):Int) G0) rfl<|Af 31 4294967295 b0 rfl c0 (fun _=>AQ 4 rfl) rfl<|AA 32 8589934591 1030792151040 b0 rfl c0 (AJ rfl ((d0.memA .hd) 4 _ rfl)) rfl<|Af 33 17179869183 b0 rfl c0 (fun _=>AQ 2 rfl) rfl<|AA 34 34359738367 1030792151040 b0 rfl c0 (AJ rfl ((d0.memA (.tl .hd)) 2 _ rfl)) rfl<|Af 35 68719476735 b0 rfl c0 (fun _=>Aj rfl) rfl ?_
 obtain ⟨j0,H0,h⟩:=bi h
 refine BA 36 137438953471 962072674304 (.bool j0) b0 rfl c0 body110 rfl (e3 rfl rfl rfl) (fun w9 hw9=>units_within_c n _ w9 (d0.hL0 hL hw9) a1.fParents (d0.k0 h1_4 hw9) a0.fl ((t0:Nat):Int) H0) rfl<|RD.nu 37 274877906943 b0 rfl .plain rfl (AT (α:=Bool) (xs:=([(!(decide (a1.fI = ⟨#[]⟩))),(decide (a1.fI.size ≤ 12)),(decide (s0 = ⟨#[]⟩)),(decide (0 ≤ a1.fG)),(decide (a1.fG ≤ ((g0:Nat):Int))),q0,p0,j0]:List Bool)) (vs:=[.bool (!(decide (a1.fI = ⟨#[]⟩))),.bool (decide (a1.fI.size ≤ 12)),.bool (decide (s0 = ⟨#[]⟩)),.bool (decide (0 ≤ a1.fG)),.bool (decide (a1.fG ≤ ((g0:Nat):Int))),.bool q0,.bool p0,.bool j0]) (ds' :=[.bool (!(decide (a1.fI = ⟨#[]⟩))),.bool (decide (a1.fI.size ≤ 12)),.bool (decide (s0 = ⟨#[]⟩)),.bool (decide (0 ≤ a1.fG)),.bool (decide (a1.fG ≤ ((g0:Nat):Int))),.bool q0,.bool p0,.bool j0]) rfl d0 el158 rfl (e8 rfl rfl rfl rfl rfl rfl rfl rfl) (by kernel_rfl) rfl) (fun X0 P0 x0 V0=>?_)
 have D0:=AM (cs:=[.bool (!(decide (a1.fI = ⟨#[]⟩))),.bool (decide (a1.fI.size ≤ 12)),.bool (decide (s0 = ⟨#[]⟩)),.bool (decide (0 ≤ a1.fG)),.bool (decide (a1.fG ≤ ((g0:Nat):Int))),.bool q0,.bool p0,.bool j0]) (xs:=(([(!(decide (a1.fI = ⟨#[]⟩))),(decide (a1.fI.size ≤ 12)),(decide (s0 = ⟨#[]⟩)),(decide (0 ≤ a1.fG)),(decide (a1.fG ≤ ((g0:Nat):Int))),q0,p0,j0]:List Bool):List Bool)) x0 L (Ap (cs:=[.bool (!(decide (a1.fI = ⟨#[]⟩)))]) (ds:=[.bool (decide (a1.fI.size ≤ 12)),.bool (decide (s0 = ⟨#[]⟩)),.bool (decide (0 ≤ a1.fG)),.bool (decide (a1.fG ≤ ((g0:Nat):Int))),.bool q0,.bool p0,.bool j0]) rfl (Ap (cs:=[.bool (decide (a1.fI.size ≤ 12))]) (ds:=[.bool (decide (s0 = ⟨#[]⟩)),.bool (decide (0 ≤ a1.fG)),.bool (decide (a1.fG ≤ ((g0:Nat):Int))),.bool q0,.bool p0,.bool j0]) rfl (Ap (cs:=[.bool (decide (s0 = ⟨#[]⟩))]) (ds:=[.bool (decide (0 ≤ a1.fG)),.bool (decide (a1.fG ≤ ((g0:Nat):Int))),.bool q0,.bool p0,.bool j0]) rfl (Ap (cs:=[.bool (decide (0 ≤ a1.fG))]) (ds:=[.bool (decide (a1.fG ≤ ((g0:Nat):Int))),.bool q0,.bool p0,.bool j0]) rfl (Ap (cs:=[.bool (decide (a1.fG ≤ ((g0:Nat):Int)))]) (ds:=[.bool q0,.bool p0,.bool j0]) rfl (Ap (cs:=[.bool q0]) (ds:=[.bool p0,.bool j0]) rfl (Ap (cs:=[.bool p0]) (ds:=[.bool j0]) rfl (Ap (cs:=[.bool j0]) (ds:=[]) rfl (AS _ _)))))))))
 obtain ⟨K0,I0,h⟩:=bi h
 refine BA 38 549755813887 549755813888 (.bool K0) b0 rfl c0 body90 rfl (e1 rfl) (fun w9 hw9=>units_every_c n _ w9 (x0.hL0 hL hw9) ([(!(decide (a1.fI = ⟨#[]⟩))),(decide (a1.fI.size ≤ 12)),(decide (s0 = ⟨#[]⟩)),(decide (0 ≤ a1.fG)),(decide (a1.fG ≤ ((g0:Nat):Int))),q0,p0,j0]:List Bool) (Aq (St.lend (α:=Bool) (L:=L) x0 .hd D0 hL) hw9) I0) rfl<|Af 39 1099511627775 b0 rfl c0 (fun _=>AY rfl) rfl<|AH (dk b0)<|Am rfl<|Be hb0 Tryz.func91 rfl rfl ?_
 cases h
 exact x0.gv
 intro M0 A0 h
 try dsimp only at h
 refine MX.ifb rfl h (fun B0 h=>?_) (fun B0 h=>?_)
 refine Ao<|Ah rfl<|Ah rfl<|Aa ?_
 exact A0 (0,0) _ _ ⟨rfl,rfl,rfl,rfl,trivial⟩ ⟨y0,Bd _ _⟩ h
 refine Av ?_
 exact A0 (1000000000,63) _ _ ⟨rfl,rfl,rfl,rfl,trivial⟩ ⟨y0,Bd _ _⟩ h
def tb63_9:List (Nat × Nat × Nat):=[(0,35184372088832,2),(0,70368744177664,128),(3,140737488355328,105553116266496),(0,281474976710656,16),(0,562949953421312,128),(16,1125899906842624,562949953421312),(40,2251799813685248,1407374883553280),(64,4503599627370496,2251799813685248),(0,9007199254740992,128),(256,18014398509481984,9007199254740992),(516,36028797018963968,18014398509481984),(1024,72057594037927936,36028797018964000),(3072,144115188075855872,108086391056891904),(5120,288230376151711744,180143985094819840),(0,576460752303423488,64),(16384,1152921504606846976,576460752303423488),(33792,2305843009213693952,1152921504606846976),(65536,4611686018427387904,2305843009213694080),(196608,9223372036854775808,6917529027641081856),(327680,18446744073709551616,11529215046068469760),(589824,36893488147419103232,20752587082923245568),(1056900,73786976294838206464,37186362860686540800),(2162688,147573952589676412928,73786976294838206464),(4194304,295147905179352825856,147573952589676412928)]
theorem op_TUnit {w:World} {L:List Nat} {cs:List Value} {x:TUnit} (h:Rep.R w L cs x):∃ v2 v3 v4:Value,cs = [.string x.fI,vI x.fG,v2,v3,v4,.bool x.fJ]∧Rep.R w L [v2] x.fj∧Rep.R w L [v3] x.fP∧Rep.R w L [v4] x.fParents:=by
  obtain ⟨c0,r0,rfl,h0,h⟩:=h
  have e0:c0 = [.string x.fI]:=h0; subst e0
  obtain ⟨c1,r1,rfl,h1,h⟩:=h
  have e1:c1 = [vI x.fG]:=h1; subst e1
  obtain ⟨c2,r2,rfl,h2,h⟩:=h
  obtain ⟨v2,rfl,kv2⟩:=lst_one (xs:=x.fj) h2
  obtain ⟨c3,r3,rfl,h3,h⟩:=h
  obtain ⟨v3,rfl,kv3⟩:=lst_one (xs:=x.fP) h3
  obtain ⟨c4,r4,rfl,h4,h⟩:=h
  obtain ⟨v4,rfl,kv4⟩:=lst_one (xs:=x.fParents) h4
  have e5:r4 = [.bool x.fJ]:=h; subst e5
  exact ⟨v2,v3,v4,rfl,kv2,kv3,kv4⟩
theorem mk_TUnit {w:World} {L:List Nat} (a0:ByteArray) (a1:Int) (a2:List Int) {u2:Value} (h2:Rep.R w L [u2] a2) (a3:List Int) {u3:Value} (h3:Rep.R w L [u3] a3) (a4:List Int) {u4:Value} (h4:Rep.R w L [u4] a4) (a5:Bool):Rep.R w L [.string a0,vI a1,u2,u3,u4,.bool a5] (⟨a0,a1,a2,a3,a4,a5⟩:TUnit):=⟨[.string a0],[vI a1,u2,u3,u4,.bool a5],rfl,rfl,⟨[vI a1],[u2,u3,u4,.bool a5],rfl,rfl,⟨[u2],[u3,u4,.bool a5],rfl,h2,⟨[u3],[u4,.bool a5],rfl,h3,⟨[u4],[.bool a5],rfl,h4,rfl⟩⟩⟩⟩⟩
theorem body91:bodyB Tryz.prog 91 = true:=by kernel_rfl
def units_CheckRoll_l1 (n:Nat) (a0:TRoll) (g0:Bool × Nat × (List (ByteArray × Bool)) → Option (Int ⊕ Unit)):Bool × Nat × (List (ByteArray × Bool)) → Option (Int ⊕ Unit)
  | (k0,d0,c0)=>(if d0 < a0.fE.length then (a0.fE[d0]?).bind fun b0=>(units_right_p n a0 b0).bind fun j0=>(if b0.fJ = true then (if 0 < d0 then (units_every_p n ([j0,(!(mgetD c0 b0.fI false)),true,true]:List Bool)).bind fun p0=>(if p0 = true then g0 (b0.fJ,d0 + 1,mset c0 b0.fI true) else some (.inl (161:Int))) else (units_every_p n ([j0,(!(mgetD c0 b0.fI false)),true,(!b0.fJ)]:List Bool)).bind fun q0=>(if q0 = true then g0 (b0.fJ,d0 + 1,mset c0 b0.fI true) else some (.inl (161:Int)))) else (if 0 < d0 then (units_every_p n ([j0,(!(mgetD c0 b0.fI false)),(!k0),true]:List Bool)).bind fun s0=>(if s0 = true then g0 (b0.fJ,d0 + 1,mset c0 b0.fI true) else some (.inl (161:Int))) else (units_every_p n ([j0,(!(mgetD c0 b0.fI false)),(!k0),(!b0.fJ)]:List Bool)).bind fun t0=>(if t0 = true then g0 (b0.fJ,d0 + 1,mset c0 b0.fI true) else some (.inl (161:Int))))) else some (.inr ()))
def units_CheckRoll_p (n:Nat) (a0:TRoll):Option Int:=
  (units_every_p n ([(decide (0 ≤ a0.fj)),(decide (a0.fj ≤ 6)),(decide (0 ≤ a0.fh)),(decide (a0.fh ≤ 12)),(decide (0 ≤ a0.fl)),(decide (a0.fl ≤ 3)),(decide (0 < a0.fE.length)),(decide (a0.fE.length ≤ 64))]:List Bool)).bind fun b0=>(if b0 = true then thn (loopF (units_CheckRoll_l1 n a0) n (false,0,([]:List (ByteArray × Bool)))) (fun _=>some (0:Int)) else some (161:Int))
theorem units_CheckRoll_c (n:Nat) (L:List Nat) (w:World) (hL:∀ b ∈ L,b < w.heap.size) (a0:TRoll) {v0_3:Value} (h0_3:Rep.R w L [v0_3] a0.fE)  {r:Int} (h:units_CheckRoll_p n a0 = some r) :
    Calls Tryz.prog 63 #[.agg #[vI a0.fj,vI a0.fh,vI a0.fl,v0_3]] w (Gives w fun _ u=>u = vI r):=by
 unfold units_CheckRoll_p at h
 have hS0:=Ax w
 refine AE Tryz.func63 rfl rfl rfl (fun _ cs0 hb0=>?_)
 refine Ac<|Ai .plain rfl (Ar hS0 rfl rfl) (fun q3 D0 u0 c3=>?_)
 refine Ah rfl<|Aa<|Ac<|Bf 3 rfl<|AZ rfl ((u0.memA .hd) 3 _ rfl) ?_
 have R0:=AP h0_3 u0
 have k3:a0.fE.length ≤ 281474976710656:=Bi R0
 refine Ab (Bk (xs:=a0.fE) Tryz.underlying26 rfl R0)<|Ah rfl<|Aa<|Ak<|Ac<|Bf 0 rfl<|AZ rfl ((u0.memA .hd) 0 _ rfl)<|Ab (FV.geq (i:=a0.fj) (j:=0) rfl rfl)<|Bf 0 rfl<|AZ rfl ((u0.memA .hd) 0 _ rfl)<|Ab (FV.leq (i:=a0.fj) (j:=6) rfl rfl)<|Bf 1 rfl<|AZ rfl ((u0.memA .hd) 1 _ rfl)<|Ab (FV.geq (i:=a0.fh) (j:=0) rfl rfl)<|Bf 1 rfl<|AZ rfl ((u0.memA .hd) 1 _ rfl)<|Ab (FV.leq (i:=a0.fh) (j:=12) rfl rfl)<|Bf 2 rfl<|AZ rfl ((u0.memA .hd) 2 _ rfl)<|Ab (FV.geq (i:=a0.fl) (j:=0) rfl rfl)<|Bf 2 rfl<|AZ rfl ((u0.memA .hd) 2 _ rfl)<|Ab (FV.leq (i:=a0.fl) (j:=3) rfl rfl)<|Ae rfl ?_
 refine Ab (FV.gtrN (i:=a0.fE.length) (j:=0) rfl rfl)<|Ae rfl<|Ab (FV.leqN (i:=a0.fE.length) (j:=64) rfl rfl)<|Ai .plain rfl (AT (α:=Bool) (xs:=([(decide (0 ≤ a0.fj)),(decide (a0.fj ≤ 6)),(decide (0 ≤ a0.fh)),(decide (a0.fh ≤ 12)),(decide (0 ≤ a0.fl)),(decide (a0.fl ≤ 3)),(decide (0 < a0.fE.length)),(decide (a0.fE.length ≤ 64))]:List Bool)) (vs:=[.bool (decide (0 ≤ a0.fj)),.bool (decide (a0.fj ≤ 6)),.bool (decide (0 ≤ a0.fh)),.bool (decide (a0.fh ≤ 12)),.bool (decide (0 ≤ a0.fl)),.bool (decide (a0.fl ≤ 3)),.bool (decide (0 < a0.fE.length)),.bool (decide (a0.fE.length ≤ 64))]) (ds' :=[.bool (decide (0 ≤ a0.fj)),.bool (decide (a0.fj ≤ 6)),.bool (decide (0 ≤ a0.fh)),.bool (decide (a0.fh ≤ 12)),.bool (decide (0 ≤ a0.fl)),.bool (decide (a0.fl ≤ 3)),.bool (decide (0 < a0.fE.length)),.bool (decide (a0.fE.length ≤ 64))]) rfl u0 el158 rfl (e8 rfl rfl rfl rfl rfl rfl rfl rfl) (by kernel_rfl) rfl) (fun s3 R2 B0 d3=>?_)
 have K1:=AM (cs:=[.bool (decide (0 ≤ a0.fj)),.bool (decide (a0.fj ≤ 6)),.bool (decide (0 ≤ a0.fh)),.bool (decide (a0.fh ≤ 12)),.bool (decide (0 ≤ a0.fl)),.bool (decide (a0.fl ≤ 3)),.bool (decide (0 < a0.fE.length)),.bool (decide (a0.fE.length ≤ 64))]) (xs:=(([(decide (0 ≤ a0.fj)),(decide (a0.fj ≤ 6)),(decide (0 ≤ a0.fh)),(decide (a0.fh ≤ 12)),(decide (0 ≤ a0.fl)),(decide (a0.fl ≤ 3)),(decide (0 < a0.fE.length)),(decide (a0.fE.length ≤ 64))]:List Bool):List Bool)) B0 L (Ap (cs:=[.bool (decide (0 ≤ a0.fj))]) (ds:=[.bool (decide (a0.fj ≤ 6)),.bool (decide (0 ≤ a0.fh)),.bool (decide (a0.fh ≤ 12)),.bool (decide (0 ≤ a0.fl)),.bool (decide (a0.fl ≤ 3)),.bool (decide (0 < a0.fE.length)),.bool (decide (a0.fE.length ≤ 64))]) rfl (Ap (cs:=[.bool (decide (a0.fj ≤ 6))]) (ds:=[.bool (decide (0 ≤ a0.fh)),.bool (decide (a0.fh ≤ 12)),.bool (decide (0 ≤ a0.fl)),.bool (decide (a0.fl ≤ 3)),.bool (decide (0 < a0.fE.length)),.bool (decide (a0.fE.length ≤ 64))]) rfl (Ap (cs:=[.bool (decide (0 ≤ a0.fh))]) (ds:=[.bool (decide (a0.fh ≤ 12)),.bool (decide (0 ≤ a0.fl)),.bool (decide (a0.fl ≤ 3)),.bool (decide (0 < a0.fE.length)),.bool (decide (a0.fE.length ≤ 64))]) rfl (Ap (cs:=[.bool (decide (a0.fh ≤ 12))]) (ds:=[.bool (decide (0 ≤ a0.fl)),.bool (decide (a0.fl ≤ 3)),.bool (decide (0 < a0.fE.length)),.bool (decide (a0.fE.length ≤ 64))]) rfl (Ap (cs:=[.bool (decide (0 ≤ a0.fl))]) (ds:=[.bool (decide (a0.fl ≤ 3)),.bool (decide (0 < a0.fE.length)),.bool (decide (a0.fE.length ≤ 64))]) rfl (Ap (cs:=[.bool (decide (a0.fl ≤ 3))]) (ds:=[.bool (decide (0 < a0.fE.length)),.bool (decide (a0.fE.length ≤ 64))]) rfl (Ap (cs:=[.bool (decide (0 < a0.fE.length))]) (ds:=[.bool (decide (a0.fE.length ≤ 64))]) rfl (Ap (cs:=[.bool (decide (a0.fE.length ≤ 64))]) (ds:=[]) rfl (AS _ _)))))))))
 obtain ⟨H2,x2,h⟩:=bi h
 refine Ba (.bool H2) body90 rfl (e1 rfl) (fun w9 hw9=>units_every_c n _ w9 (B0.hL0 hL hw9) ([(decide (0 ≤ a0.fj)),(decide (a0.fj ≤ 6)),(decide (0 ≤ a0.fh)),(decide (a0.fh ≤ 12)),(decide (0 ≤ a0.fl)),(decide (a0.fl ≤ 3)),(decide (0 < a0.fE.length)),(decide (a0.fE.length ≤ 64))]:List Bool) (Aq (St.lend (α:=Bool) (L:=L) B0 .hd K1 hL) hw9) x2) rfl<|Ab (FV.not rfl)<|Aa<|MX.ifnb rfl h (fun Y0 h=>?_) (fun Y0 h=>?_)
 refine Av<|Ac<|Ai .plain rfl (Does.makeMap (κ:=ByteArray) (ν:=Bool) B0) (fun G2 E0 I0 j3=>?_)
 refine Ah rfl<|Aa<|Ac<|Ah rfl<|Aa<|Ak<|Ac<|Bf 3 rfl<|AZ rfl ((I0.memA (.tl (.tl .hd))) 3 _ rfl) ?_
 have j2:=AP h0_3 I0
 refine Ab (Bk (xs:=a0.fE) Tryz.underlying26 rfl j2)<|Ae rfl<|Aa<|AB ?_
 obtain ⟨p1,g3⟩:=AN I0 (.one .hd (.one (.tl .hd) .done))
 obtain ⟨p3,k2,C0⟩:=thn_in h
 refine Bw (α:=Bool × Nat × (List (ByteArray × Bool))) (fun ⟨p0,q0,d0⟩=>[(1,vP D0),(4,.map (some E0)),(5,.bool p0),(38,v0_3),(39,vI ((a0.fE.length:Nat):Int)),(40,vI ((q0:Nat):Int))]) (fun ⟨p0,q0,d0⟩ J0=>St w J0 [.obj E0 (mapO (d0:List (ByteArray × Bool))),.cells D0 [vI a0.fj,vI a0.fh,vI a0.fl,v0_3] 28]∧Tr G2 [.obj E0 (mapO ([]:List (ByteArray × Bool))),.cells D0 [vI a0.fj,vI a0.fh,vI a0.fl,v0_3] 28] J0 [.obj E0 (mapO (d0:List (ByteArray × Bool))),.cells D0 [vI a0.fj,vI a0.fh,vI a0.fl,v0_3] 28]) (fun ⟨p0,q0,d0⟩=>(p0,q0,d0)) (false,0,([]:List (ByteArray × Bool))) k2 ⟨rfl,rfl,rfl,rfl,rfl,rfl,trivial⟩ ⟨p1,Bd _ _⟩ ?_
 rintro Q2 ⟨p0,q0,d0⟩ J0 F0 ⟨H0,G0⟩ h
 unfold units_CheckRoll_l1 at h
 try dsimp only at h
 refine Ac<|Ab (Bm (i:=q0) (j:=a0.fE.length) rfl rfl)<|Aa<|Ak<|AX rfl h (fun X0 h=>?_) (fun X0 h=>?_)
 refine Av<|Ak<|AB<|Ac<|Ae rfl ?_
 obtain ⟨b0,v2,h⟩:=bi h
 have X1:=AP h0_3 H0
 obtain ⟨P2,Z2,U1,V1,b3,u2,W1⟩:=Bo X1 v2
 obtain ⟨D2,E2,F2,rfl,U0,V0,W0⟩:=op_TUnit u2
 refine Ab (Bx 6 q0 rfl U1 rfl rfl V1)<|Ab (Az rfl W1)<|Ai .plain rfl (Au [.string ⟨#[]⟩,vI 0,vN,vN,vN,.bool false] H0) (fun t3 U2 q1 t0=>?_)
 refine Ah rfl ?_
 have Y1:=Ay U0 t0
 have Z1:=Ay V0 t0
 have b2:=Ay W0 t0
 refine AL [.string b0.fI,vI b0.fG,D2,E2,F2,.bool b0.fJ] q1 .hd (o6 rfl rfl (AU Y1) (AU Z1) (AU b2) rfl) (fun u3 s0 v0=>?_)
 refine Aa<|Ak<|Ak<|dt 24 tb63_9 (fun c0 g0=>?_)
 refine AA 0 1 16727044 c0 rfl g0 (Az rfl (s0.memA (.tl (.tl .hd)))) rfl<|AA 1 3 16727044 c0 rfl g0 (Az rfl (s0.memA .hd)) rfl ?_
 obtain ⟨j0,y2,h⟩:=bi h
 have c2:=Ay U0 (Tt t0 v0)
 have d2:=Ay V0 (Tt t0 v0)
 have g2:=Ay W0 (Tt t0 v0)
 refine BA 2 7 16727040 (.bool j0) c0 rfl g0 body91 rfl (e2 rfl rfl) (fun w9 hw9=>units_right_c n _ w9 (s0.hL0 hL hw9) a0 (s0.k0 h0_3 hw9) b0 (s0.kd c2 hw9) (s0.kd d2 hw9) (s0.kd g2 hw9) y2) rfl<|Af 3 15 c0 rfl g0 (fun _=>Aj rfl) rfl<|Af 4 31 c0 rfl g0 (fun _=>AQ 0 rfl) rfl<|AA 5 63 14680256 c0 rfl g0 (AJ rfl ((s0.memA .hd) 0 _ rfl)) rfl<|AA 6 127 14680192 c0 rfl g0 (FV.lookup (kv:=b0.fI) (z:=false) s0 (.tl .hd) Tryz.underlying144 Tryz.underlying9 rfl (by kernel_rfl) rfl rfl) rfl<|Af 7 255 c0 rfl g0 (fun _=>FV.not rfl) rfl<|Af 8 511 c0 rfl g0 (fun _=>AQ 5 rfl) rfl<|AA 9 1023 16727040 c0 rfl g0 (AJ rfl ((s0.memA .hd) 5 _ rfl)) rfl<|Af 10 2047 c0 rfl g0 (fun _=>Aj rfl) rfl<|RD.ifb (s:=55) rfl h (fun Z0 h=>?_) (fun Z0 h=>?_)
 refine Bs 8191 11 [(11,56),(12,57)] (F:=[(55,true)]) (U:=[]) c0 g0 (.cons rfl .nil) .nil ?_
 dsimp only [offS,List.map]
 refine Af 13 16383 c0 rfl g0 (fun _=>FV.pick_t rfl rfl) rfl<|Af 14 32767 c0 rfl g0 (fun _=>Aj rfl) rfl<|Af 15 65535 c0 rfl g0 (fun _=>FV.gtrN (i:=q0) (j:=0) rfl rfl) rfl<|Af 16 131071 c0 rfl g0 (fun _=>Aj rfl) rfl<|RD.ifd (s:=61) rfl h (fun b1 h=>?_) (fun b1 h=>?_)
 refine Bs 1048575 4 [(17,62),(18,63),(19,64)] (F:=[(61,true)]) (U:=[]) c0 g0 (.cons rfl .nil) .nil ?_
 dsimp only [offS,List.map]
 refine Af 20 2097151 c0 rfl g0 (fun _=>FV.pick_t rfl rfl) rfl<|RD.nu 21 4194303 c0 rfl .plain rfl (AT (α:=Bool) (xs:=([j0,(!(mgetD d0 b0.fI false)),true,true]:List Bool)) (vs:=[.bool j0,.bool (!(mgetD d0 b0.fI false)),.bool true,.bool true]) (ds' :=[.bool j0,.bool (!(mgetD d0 b0.fI false)),.bool true,.bool true]) rfl s0 el158 rfl (e4 rfl rfl rfl rfl) (by kernel_rfl) rfl) (fun v3 V2 x0 y1=>?_)
 have M1:=AM (cs:=[.bool j0,.bool (!(mgetD d0 b0.fI false)),.bool true,.bool true]) (xs:=(([j0,(!(mgetD d0 b0.fI false)),true,true]:List Bool):List Bool)) x0 L (Ap (cs:=[.bool j0]) (ds:=[.bool (!(mgetD d0 b0.fI false)),.bool true,.bool true]) rfl (Ap (cs:=[.bool (!(mgetD d0 b0.fI false))]) (ds:=[.bool true,.bool true]) rfl (Ap (cs:=[.bool true]) (ds:=[.bool true]) rfl (Ap (cs:=[.bool true]) (ds:=[]) rfl (AS _ _)))))
 obtain ⟨I2,z2,h⟩:=bi h
 refine BA 22 8388607 8388608 (.bool I2) c0 rfl g0 body90 rfl (e1 rfl) (fun w9 hw9=>units_every_c n _ w9 (x0.hL0 hL hw9) ([j0,(!(mgetD d0 b0.fI false)),true,true]:List Bool) (Aq (St.lend (α:=Bool) (L:=L) x0 .hd M1 hL) hw9) z2) rfl<|Af 23 16777215 c0 rfl g0 (fun _=>FV.not rfl) rfl<|AH (dk c0)<|MX.ifnb rfl h (fun c1 h=>?_) (fun c1 h=>?_)
 refine Av<|Ac<|Ae rfl<|Bf 0 rfl<|AZ rfl ((x0.memA (.tl .hd)) 0 _ rfl)<|RG.now .plain (Acts.mapUpdate (kv:=b0.fI) (vv:=true) x0 (.tl (.tl .hd)) Tryz.underlying144 Tryz.underlying9 rfl rfl rfl rfl) (fun x3 K0 z1=>?_)
 refine Aa<|Ao<|Bf 5 rfl<|AZ rfl ((K0.memA (.tl .hd)) 5 _ rfl)<|Ah rfl<|Aa<|AC<|Ao<|Ab (Bl (i:=q0) (j:=1) rfl rfl (by omega))<|Ae rfl<|Aa ?_
 obtain ⟨s1,A1⟩:=AN K0 (.one (.tl (.tl .hd)) (.one (.tl (.tl .hd)) .done))
 have p2:=Tt t0 (Tt v0 (Tt y1 (Tt z1 A1)))
 exact F0 (b0.fJ,q0 + 1,mset d0 b0.fI true) _ _ ⟨rfl,rfl,rfl,rfl,rfl,rfl,trivial⟩ ⟨s1,(Tt G0 p2)⟩ h
 refine Ac<|Ah rfl<|Aa ?_
 have h:=thn_inl h C0
 refine Am rfl<|Be hb0 Tryz.func63 rfl rfl ?_
 cases h
 exact x0.gv
 refine RD.vP 17 262143 c0 rfl g0 (.yes rfl rfl) (fun _=>AQ 5 rfl) rfl<|RD.val (i:=18) (m' :=524287) (W:=16252928) (tk c0) rfl g0 (.yes rfl rfl) (AJ rfl ((s0.memA .hd) 5 _ rfl)) rfl<|RD.vP 19 1048575 c0 rfl g0 (.yes rfl rfl) (fun _=>FV.not rfl) rfl<|Af 20 2097151 c0 rfl g0 (fun _=>Bh rfl rfl) rfl<|RD.nu 21 4194303 c0 rfl .plain rfl (AT (α:=Bool) (xs:=([j0,(!(mgetD d0 b0.fI false)),true,(!b0.fJ)]:List Bool)) (vs:=[.bool j0,.bool (!(mgetD d0 b0.fI false)),.bool true,.bool (!b0.fJ)]) (ds' :=[.bool j0,.bool (!(mgetD d0 b0.fI false)),.bool true,.bool (!b0.fJ)]) rfl s0 el158 rfl (e4 rfl rfl rfl rfl) (by kernel_rfl) rfl) (fun y3 W2 y0 B1=>?_)
 have P1:=AM (cs:=[.bool j0,.bool (!(mgetD d0 b0.fI false)),.bool true,.bool (!b0.fJ)]) (xs:=(([j0,(!(mgetD d0 b0.fI false)),true,(!b0.fJ)]:List Bool):List Bool)) y0 L (Ap (cs:=[.bool j0]) (ds:=[.bool (!(mgetD d0 b0.fI false)),.bool true,.bool (!b0.fJ)]) rfl (Ap (cs:=[.bool (!(mgetD d0 b0.fI false))]) (ds:=[.bool true,.bool (!b0.fJ)]) rfl (Ap (cs:=[.bool true]) (ds:=[.bool (!b0.fJ)]) rfl (Ap (cs:=[.bool (!b0.fJ)]) (ds:=[]) rfl (AS _ _)))))
 obtain ⟨J2,A2,h⟩:=bi h
 refine BA 22 8388607 8388608 (.bool J2) c0 rfl g0 body90 rfl (e1 rfl) (fun w9 hw9=>units_every_c n _ w9 (y0.hL0 hL hw9) ([j0,(!(mgetD d0 b0.fI false)),true,(!b0.fJ)]:List Bool) (Aq (St.lend (α:=Bool) (L:=L) y0 .hd P1 hL) hw9) A2) rfl<|Af 23 16777215 c0 rfl g0 (fun _=>FV.not rfl) rfl<|AH (dk c0)<|MX.ifnb rfl h (fun d1 h=>?_) (fun d1 h=>?_)
 refine Av<|Ac<|Ae rfl<|Bf 0 rfl<|AZ rfl ((y0.memA (.tl .hd)) 0 _ rfl)<|RG.now .plain (Acts.mapUpdate (kv:=b0.fI) (vv:=true) y0 (.tl (.tl .hd)) Tryz.underlying144 Tryz.underlying9 rfl rfl rfl rfl) (fun z3 M0 C1=>?_)
 refine Aa<|Ao<|Bf 5 rfl<|AZ rfl ((M0.memA (.tl .hd)) 5 _ rfl)<|Ah rfl<|Aa<|AC<|Ao<|Ab (Bl (i:=q0) (j:=1) rfl rfl (by omega))<|Ae rfl<|Aa ?_
 obtain ⟨u1,D1⟩:=AN M0 (.one (.tl (.tl .hd)) (.one (.tl (.tl .hd)) .done))
 have q2:=Tt t0 (Tt v0 (Tt B1 (Tt C1 D1)))
 exact F0 (b0.fJ,q0 + 1,mset d0 b0.fI true) _ _ ⟨rfl,rfl,rfl,rfl,rfl,rfl,trivial⟩ ⟨u1,(Tt G0 q2)⟩ h
 refine Ac<|Ah rfl<|Aa ?_
 have h:=thn_inl h C0
 refine Am rfl<|Be hb0 Tryz.func63 rfl rfl ?_
 cases h
 exact y0.gv
 refine RD.vP 11 4095 c0 rfl g0 (.yes rfl rfl) (fun _=>Aj rfl) rfl<|RD.vP 12 8191 c0 rfl g0 (.yes rfl rfl) (fun _=>FV.not rfl) rfl<|Af 13 16383 c0 rfl g0 (fun _=>Bh rfl rfl) rfl<|Af 14 32767 c0 rfl g0 (fun _=>Aj rfl) rfl<|Af 15 65535 c0 rfl g0 (fun _=>FV.gtrN (i:=q0) (j:=0) rfl rfl) rfl<|Af 16 131071 c0 rfl g0 (fun _=>Aj rfl) rfl<|RD.ifd (s:=61) rfl h (fun g1 h=>?_) (fun g1 h=>?_)
 refine Bs 1048575 4 [(17,62),(18,63),(19,64)] (F:=[(61,true)]) (U:=[]) c0 g0 (.cons rfl .nil) .nil ?_
 dsimp only [offS,List.map]
 refine Af 20 2097151 c0 rfl g0 (fun _=>FV.pick_t rfl rfl) rfl<|RD.nu 21 4194303 c0 rfl .plain rfl (AT (α:=Bool) (xs:=([j0,(!(mgetD d0 b0.fI false)),(!p0),true]:List Bool)) (vs:=[.bool j0,.bool (!(mgetD d0 b0.fI false)),.bool (!p0),.bool true]) (ds' :=[.bool j0,.bool (!(mgetD d0 b0.fI false)),.bool (!p0),.bool true]) rfl s0 el158 rfl (e4 rfl rfl rfl rfl) (by kernel_rfl) rfl) (fun A3 X2 z0 E1=>?_)
 have Q1:=AM (cs:=[.bool j0,.bool (!(mgetD d0 b0.fI false)),.bool (!p0),.bool true]) (xs:=(([j0,(!(mgetD d0 b0.fI false)),(!p0),true]:List Bool):List Bool)) z0 L (Ap (cs:=[.bool j0]) (ds:=[.bool (!(mgetD d0 b0.fI false)),.bool (!p0),.bool true]) rfl (Ap (cs:=[.bool (!(mgetD d0 b0.fI false))]) (ds:=[.bool (!p0),.bool true]) rfl (Ap (cs:=[.bool (!p0)]) (ds:=[.bool true]) rfl (Ap (cs:=[.bool true]) (ds:=[]) rfl (AS _ _)))))
 obtain ⟨K2,B2,h⟩:=bi h
 refine BA 22 8388607 8388608 (.bool K2) c0 rfl g0 body90 rfl (e1 rfl) (fun w9 hw9=>units_every_c n _ w9 (z0.hL0 hL hw9) ([j0,(!(mgetD d0 b0.fI false)),(!p0),true]:List Bool) (Aq (St.lend (α:=Bool) (L:=L) z0 .hd Q1 hL) hw9) B2) rfl<|Af 23 16777215 c0 rfl g0 (fun _=>FV.not rfl) rfl<|AH (dk c0)<|MX.ifnb rfl h (fun j1 h=>?_) (fun j1 h=>?_)
 refine Av<|Ac<|Ae rfl<|Bf 0 rfl<|AZ rfl ((z0.memA (.tl .hd)) 0 _ rfl)<|RG.now .plain (Acts.mapUpdate (kv:=b0.fI) (vv:=true) z0 (.tl (.tl .hd)) Tryz.underlying144 Tryz.underlying9 rfl rfl rfl rfl) (fun B3 P0 F1=>?_)
 refine Aa<|Ao<|Bf 5 rfl<|AZ rfl ((P0.memA (.tl .hd)) 5 _ rfl)<|Ah rfl<|Aa<|AC<|Ao<|Ab (Bl (i:=q0) (j:=1) rfl rfl (by omega))<|Ae rfl<|Aa ?_
 obtain ⟨v1,G1⟩:=AN P0 (.one (.tl (.tl .hd)) (.one (.tl (.tl .hd)) .done))
 have s2:=Tt t0 (Tt v0 (Tt E1 (Tt F1 G1)))
 exact F0 (b0.fJ,q0 + 1,mset d0 b0.fI true) _ _ ⟨rfl,rfl,rfl,rfl,rfl,rfl,trivial⟩ ⟨v1,(Tt G0 s2)⟩ h
 refine Ac<|Ah rfl<|Aa ?_
 have h:=thn_inl h C0
 refine Am rfl<|Be hb0 Tryz.func63 rfl rfl ?_
 cases h
 exact z0.gv
 refine RD.vP 17 262143 c0 rfl g0 (.yes rfl rfl) (fun _=>AQ 5 rfl) rfl<|RD.val (i:=18) (m' :=524287) (W:=16252928) (tk c0) rfl g0 (.yes rfl rfl) (AJ rfl ((s0.memA .hd) 5 _ rfl)) rfl<|RD.vP 19 1048575 c0 rfl g0 (.yes rfl rfl) (fun _=>FV.not rfl) rfl<|Af 20 2097151 c0 rfl g0 (fun _=>Bh rfl rfl) rfl<|RD.nu 21 4194303 c0 rfl .plain rfl (AT (α:=Bool) (xs:=([j0,(!(mgetD d0 b0.fI false)),(!p0),(!b0.fJ)]:List Bool)) (vs:=[.bool j0,.bool (!(mgetD d0 b0.fI false)),.bool (!p0),.bool (!b0.fJ)]) (ds' :=[.bool j0,.bool (!(mgetD d0 b0.fI false)),.bool (!p0),.bool (!b0.fJ)]) rfl s0 el158 rfl (e4 rfl rfl rfl rfl) (by kernel_rfl) rfl) (fun C3 Y2 A0 H1=>?_)
 have R1:=AM (cs:=[.bool j0,.bool (!(mgetD d0 b0.fI false)),.bool (!p0),.bool (!b0.fJ)]) (xs:=(([j0,(!(mgetD d0 b0.fI false)),(!p0),(!b0.fJ)]:List Bool):List Bool)) A0 L (Ap (cs:=[.bool j0]) (ds:=[.bool (!(mgetD d0 b0.fI false)),.bool (!p0),.bool (!b0.fJ)]) rfl (Ap (cs:=[.bool (!(mgetD d0 b0.fI false))]) (ds:=[.bool (!p0),.bool (!b0.fJ)]) rfl (Ap (cs:=[.bool (!p0)]) (ds:=[.bool (!b0.fJ)]) rfl (Ap (cs:=[.bool (!b0.fJ)]) (ds:=[]) rfl (AS _ _)))))
 obtain ⟨M2,C2,h⟩:=bi h
 refine BA 22 8388607 8388608 (.bool M2) c0 rfl g0 body90 rfl (e1 rfl) (fun w9 hw9=>units_every_c n _ w9 (A0.hL0 hL hw9) ([j0,(!(mgetD d0 b0.fI false)),(!p0),(!b0.fJ)]:List Bool) (Aq (St.lend (α:=Bool) (L:=L) A0 .hd R1 hL) hw9) C2) rfl<|Af 23 16777215 c0 rfl g0 (fun _=>FV.not rfl) rfl<|AH (dk c0)<|MX.ifnb rfl h (fun k1 h=>?_) (fun k1 h=>?_)
 refine Av<|Ac<|Ae rfl<|Bf 0 rfl<|AZ rfl ((A0.memA (.tl .hd)) 0 _ rfl)<|RG.now .plain (Acts.mapUpdate (kv:=b0.fI) (vv:=true) A0 (.tl (.tl .hd)) Tryz.underlying144 Tryz.underlying9 rfl rfl rfl rfl) (fun D3 Q0 I1=>?_)
 refine Aa<|Ao<|Bf 5 rfl<|AZ rfl ((Q0.memA (.tl .hd)) 5 _ rfl)<|Ah rfl<|Aa<|AC<|Ao<|Ab (Bl (i:=q0) (j:=1) rfl rfl (by omega))<|Ae rfl<|Aa ?_
 obtain ⟨x1,J1⟩:=AN Q0 (.one (.tl (.tl .hd)) (.one (.tl (.tl .hd)) .done))
 have t2:=Tt t0 (Tt v0 (Tt H1 (Tt I1 J1)))
 exact F0 (b0.fJ,q0 + 1,mset d0 b0.fI true) _ _ ⟨rfl,rfl,rfl,rfl,rfl,rfl,trivial⟩ ⟨x1,(Tt G0 t2)⟩ h
 refine Ac<|Ah rfl<|Aa ?_
 have h:=thn_inl h C0
 refine Am rfl<|Be hb0 Tryz.func63 rfl rfl ?_
 cases h
 exact A0.gv
 refine Bj rfl ?_
 have h:=thn_inr h C0
 try dsimp only at h
 refine Ac<|Ah rfl<|Aa<|Am rfl<|Be hb0 Tryz.func63 rfl rfl ?_
 cases h
 exact H0.gv
 refine Ac<|Ah rfl<|Aa<|Am rfl<|Be hb0 Tryz.func63 rfl rfl ?_
 cases h
 exact B0.gv
structure Tpoll where
  fF:TRoll
  fL:Int
  fparty:Int
  deriving DecidableEq
instance:Rep Tpoll:=Rep.via (β:=TRoll × Int × Int) fun x=>(x.fF,x.fL,x.fparty)
theorem minority_poll_points_c (n:Nat) (L:List Nat) (w:World) (_hL:∀ b ∈ L,b < w.heap.size) (a0:Tpoll) {v0_3:Value} (h0_3:Rep.R w L [v0_3] a0.fF.fE)  :
    Calls Tryz.prog 64 #[.agg #[vI a0.fF.fj,vI a0.fF.fh,vI a0.fF.fl,v0_3,vI a0.fL,vI a0.fparty]] w (Gives w fun w' u=>∃ b0:Nat,u = .func (.func 92) #[] #[vP b0]∧St w w' [.cells b0 [vI a0.fF.fj,vI a0.fF.fh,vI a0.fF.fl,v0_3,vI a0.fL,vI a0.fparty] 115]):=by
 have hS0:=Ax w
 refine AE Tryz.func64 rfl rfl rfl (fun _ cs0 hb0=>?_)
 refine Ac<|Ai .plain rfl (Ar hS0 rfl rfl) (fun g0 b0 c0 d0=>?_)
 refine Ah rfl<|Aa<|Ac<|Ab (BB (vs:=[]) (us:=[vP b0]) evs_nil (e1 rfl))<|Ah rfl<|Aa<|Am rfl<|Al (u:=.func (.func 92) #[] #[vP b0]) hb0 Tryz.func64 rfl (.cons (.tmp rfl) .nil) rfl ?_
 exact ⟨c0.ag,fun w9 hw9=>⟨b0,rfl,c0.agree hw9⟩⟩
def tb74_1:List (Nat × Nat × Nat):=[(0,32,4),(1,64,32),(0,128,8),(4,256,128),(10,512,320),(0,1024,8),(32,2048,1024),(0,4096,4),(128,8192,4096),(336,16384,10240),(528,32768,16896),(0,65536,4),(2048,131072,65536),(0,262144,8),(8192,524288,262144),(21504,1048576,655360),(33792,2097152,1081344),(131071,0,2097168)]
def share_Ratio_Plus_p (n:Nat) (a0:TRatio) (a1:TRatio):Option TRatio:=
  (wide_Long_Times_p n a0.ft a1.fp).bind fun b0=>(wide_Long_Times_p n a1.ft a0.fp).bind fun c0=>(wide_Long_Plus_p n b0 c0).bind fun d0=>(wide_Long_Times_p n a0.fp a1.fp).bind fun g0=>(share_Lowest_p n d0 g0).bind fun j0=>some j0
theorem share_Ratio_Plus_c (n:Nat) (L:List Nat) (w:World) (hL:∀ b ∈ L,b < w.heap.size) (a0:TRatio) {v0_1:Value} (h0_1:Rep.R w L [v0_1] a0.ft.fo) {v0_3:Value} (h0_3:Rep.R w L [v0_3] a0.fp.fo) (a1:TRatio) {v1_1:Value} (h1_1:Rep.R w L [v1_1] a1.ft.fo) {v1_3:Value} (h1_3:Rep.R w L [v1_3] a1.fp.fo)  {r:TRatio} (h:share_Ratio_Plus_p n a0 a1 = some r) :
    Calls Tryz.prog 74 #[.agg #[.bool a0.ft.fe,v0_1,.bool a0.fp.fe,v0_3],.agg #[.bool a1.ft.fe,v1_1,.bool a1.fp.fe,v1_3]] w (Gives w fun w' u=>∃ v0_1 v0_3:Value,u = .agg #[.bool r.ft.fe,v0_1,.bool r.fp.fe,v0_3]∧Rep.R w' L [v0_1] r.ft.fo∧Rep.R w' L [v0_3] r.fp.fo):=by
 unfold share_Ratio_Plus_p at h
 have hS0:=Ax w
 refine AE Tryz.func74 rfl rfl rfl (fun _ cs0 hb0=>?_)
 refine Ac<|Ai .plain rfl (Ar hS0 rfl rfl) (fun I1 k1 z0 s1=>?_)
 refine Ai .plain rfl (Ar z0 rfl rfl) (fun J1 p1 A0 t1=>?_)
 refine Ai .plain rfl (Au [.bool false,vN,.bool false,vN] A0) (fun K1 q1 d0 u1=>?_)
 refine Aa<|Ak<|dt 17 tb74_1 (fun b0 c0=>?_)
 refine Af 0 1 b0 rfl c0 (fun _=>AQ 0 rfl) rfl<|AA 1 3 230928 b0 rfl c0 (AR (cs:=[.bool a0.ft.fe,v0_1]) (by kernel_rfl) rfl (mem_part (d0.memA (.tl (.tl .hd))) 0 2)) rfl<|Af 2 7 b0 rfl c0 (fun _=>AQ 2 rfl) rfl<|AA 3 15 230928 b0 rfl c0 (AR (cs:=[.bool a1.fp.fe,v1_3]) (by kernel_rfl) rfl (mem_part (d0.memA (.tl .hd)) 2 2)) rfl<|Af 5 47 b0 rfl c0 (fun _=>AQ 0 rfl) rfl<|AA 6 111 230912 b0 rfl c0 (AR (cs:=[.bool a1.ft.fe,v1_1]) (by kernel_rfl) rfl (mem_part (d0.memA (.tl .hd)) 0 2)) rfl<|Af 7 239 b0 rfl c0 (fun _=>AQ 2 rfl) rfl<|AA 8 495 230912 b0 rfl c0 (AR (cs:=[.bool a0.fp.fe,v0_3]) (by kernel_rfl) rfl (mem_part (d0.memA (.tl (.tl .hd))) 2 2)) rfl<|Af 11 2543 b0 rfl c0 (fun _=>AQ 2 rfl) rfl<|AA 12 6639 229376 b0 rfl c0 (AR (cs:=[.bool a0.fp.fe,v0_3]) (by kernel_rfl) rfl (mem_part (d0.memA (.tl (.tl .hd))) 2 2)) rfl<|Af 13 14831 b0 rfl c0 (fun _=>AQ 2 rfl) rfl<|AA 14 31215 229376 b0 rfl c0 (AR (cs:=[.bool a1.fp.fe,v1_3]) (by kernel_rfl) rfl (mem_part (d0.memA (.tl .hd)) 2 2)) rfl ?_
 obtain ⟨c1,W0,h⟩:=bi h
 refine Bp 4 31231 b0 rfl .plain body98 rfl (e2 rfl rfl) (fun w9 hw9=>wide_Long_Times_c n _ w9 (d0.hL hL hw9) a0.ft (d0.km h0_1 hw9) a1.fp (d0.km h1_3 hw9) W0) rfl (fun M1 D1 E0 ⟨z1,hu_,Q0⟩=>?_)
 subst hu_
 obtain ⟨g0,v1⟩:=d0.agr E0
 obtain ⟨d1,X0,h⟩:=bi h
 refine Bp 9 31743 b0 rfl .plain body98 rfl (e2 rfl rfl) (fun w9 hw9=>wide_Long_Times_c n _ w9 (g0.hL hL hw9) a1.ft (g0.km h1_1 hw9) a0.fp (g0.km h0_3 hw9) X0) rfl (fun P1 E1 F0 ⟨A1,hu_,R0⟩=>?_)
 subst hu_
 obtain ⟨t0,C0⟩:=g0.agr F0
 obtain ⟨g1,Y0,h⟩:=bi h
 have J0:=Ay Q0 C0
 refine Bp 10 32767 b0 rfl .plain body99 rfl (e2 rfl rfl) (fun w9 hw9=>wide_Long_Plus_c n _ w9 (t0.hL hL hw9) c1 (Aq J0 hw9) d1 (Aq R0 hw9) Y0) rfl (fun Q1 F1 G0 ⟨B1,hu_,U0⟩=>?_)
 subst hu_
 obtain ⟨j0,x1⟩:=t0.agr G0
 obtain ⟨j1,Z0,h⟩:=bi h
 refine Bp 15 65535 b0 rfl .plain body98 rfl (e2 rfl rfl) (fun w9 hw9=>wide_Long_Times_c n _ w9 (j0.hL hL hw9) a0.fp (j0.km h0_3 hw9) a1.fp (j0.km h1_3 hw9) Z0) rfl (fun R1 G1 H0 ⟨C1,hu_,V0⟩=>?_)
 subst hu_
 obtain ⟨u0,D0⟩:=j0.agr H0
 obtain ⟨p0,b1,h⟩:=bi h
 have K0:=Ay U0 D0
 refine Bp 16 131071 b0 rfl .plain body95 rfl (e2 rfl rfl) (fun w9 hw9=>share_Lowest_c n _ w9 (u0.hL hL hw9) g1 (Aq K0 hw9) j1 (Aq V0 hw9) b1) rfl (fun U1 H1 I0 ⟨q0,s0,hu_,x0,y0⟩=>?_)
 subst hu_
 obtain ⟨B0,y1⟩:=u0.agr I0
 refine Bq 17 262143 b0 rfl rfl .plain (Aw (news:=[.bool p0.ft.fe,q0,.bool p0.fp.fe,s0]) B0 .hd rfl rfl rfl rfl rfl rfl (o4 rfl (AU x0) rfl (AU y0))) (fun V1 k0 v0=>?_)
 refine AH (dk b0)<|Am rfl<|Al hb0 Tryz.func74 rfl (.cons (.many (cs:=[.bool p0.ft.fe,q0,.bool p0.fp.fe,s0]) (by kernel_rfl) rfl (k0.memA .hd)) .nil) rfl ?_
 cases h
 have M0:=Ay x0 v0
 have P0:=Ay y0 v0
 exact ⟨k0.ag,fun w9 hw9=>⟨q0,s0,rfl,k0.kd M0 hw9,k0.kd P0 hw9⟩⟩
theorem body74:bodyB Tryz.prog 74 = true:=by kernel_rfl
def share_Add_p (n:Nat) (a0:TShare) (a1:TShare):Option (TShare × Int):=
  (share_valid_p n ([a0,a1]:List TShare)).bind fun d0=>(if d0 = true then (share_Read_p n a0).bind fun g0=>(share_Read_p n a1).bind fun j0=>(share_Ratio_Plus_p n g0 j0).bind fun k0=>(share_told_p n k0 (0:Int)).bind fun c0=>some (c0.1,c0.2) else (share_told_p n (⟨(⟨false,([]:List UInt64)⟩:TLong),(⟨false,([]:List UInt64)⟩:TLong)⟩:TRatio) (20:Int)).bind fun b0=>some (b0.1,b0.2))
theorem share_Add_c (n:Nat) (L:List Nat) (w:World) (hL:∀ b ∈ L,b < w.heap.size) (a0:TShare) (a1:TShare)  {r:TShare × Int} (h:share_Add_p n a0 a1 = some r) :
    Calls Tryz.prog 36 #[.agg ((cs_TShare a0)).toArray,.agg ((cs_TShare a1)).toArray] w (Gives w fun _ u=>u = .tuple #[.agg ((cs_TShare r.1)).toArray,vI r.2]):=by
 unfold share_Add_p at h
 have hS0:=Ax w
 refine AE Tryz.func36 rfl rfl rfl (fun _ cs0 hb0=>?_)
 refine Ac<|Ai .plain rfl (Ar hS0 rfl rfl) (fun s2 y1 I0 J1=>?_)
 refine Ai .plain rfl (Ar I0 rfl rfl) (fun t2 z1 J0 K1=>?_)
 refine Ai .plain rfl (Au zL J0) (fun u2 A1 q0 M1=>?_)
 refine Ah rfl<|Aa<|Ac<|Ab (Az rfl (q0.memA (.tl (.tl .hd))))<|Ab (Az rfl (q0.memA (.tl .hd)))<|Bc (fst:=[]) (cap:=[]) (vs:=[.agg ((cs_TShare a0)).toArray,.agg ((cs_TShare a1)).toArray,.func (.func 74) #[] #[]]) .plain body71 Tryz.func71 rfl rfl rfl rfl (e3 rfl rfl rfl) rfl (fun G1 E0 Z1=>?_)
 refine Ac<|Ai .plain rfl (Ar q0 rfl rfl) (fun v2 B1 K0 P1=>?_)
 refine Ai .plain rfl (Ar K0 rfl rfl) (fun x2 C1 M0 Q1=>?_)
 refine Ai .plain rfl (Au [.bool false,vN,.bool false,vN] M0) (fun y2 D1 s0 R1=>?_)
 refine Ah rfl<|Aa<|Ak<|Ac<|Ab (Az rfl (s0.memA (.tl (.tl .hd))))<|Ab (Az rfl (s0.memA (.tl .hd)))<|Ai .plain rfl (AT (α:=TShare) (xs:=([a0,a1]:List TShare)) (vs:=[.agg ((cs_TShare a0)).toArray,.agg ((cs_TShare a1)).toArray]) (ds' :=(cs_TShare a0 ++ cs_TShare a1)) rfl s0 el60 rfl (e2 rfl rfl) (by kernel_rfl) rfl) (fun z2 E1 c0 U1=>?_)
 have V0:=AM (cs:=(cs_TShare a0 ++ cs_TShare a1)) (xs:=(([a0,a1]:List TShare):List TShare)) c0 L (Ap (cs:=(cs_TShare a0)) (ds:=(cs_TShare a1)) (mk_TShare a0.fN a0.fD) (Ap (cs:=(cs_TShare a1)) (ds:=[]) (mk_TShare a1.fN a1.fD) (AS _ _)))
 obtain ⟨u1,k1,h⟩:=bi h
 refine Ba (.bool u1) body93 rfl (e1 rfl) (fun w9 hw9=>share_valid_c n _ w9 (c0.hL0 hL hw9) ([a0,a1]:List TShare) (Aq (St.lend (α:=TShare) (L:=L) c0 .hd V0 hL) hw9) k1) rfl<|Ab (FV.not rfl)<|Aa<|MX.ifnb rfl h (fun H0 h=>?_) (fun H0 h=>?_)
 refine Av<|Ak<|dt 6 tb71_4 (fun b0 t0=>?_)
 refine Af 0 1 b0 rfl t0 (fun _=>Aj rfl) rfl<|AA 1 3 244 b0 rfl t0 (Az rfl (c0.memA (.tl (.tl (.tl .hd))))) rfl<|AA 3 11 240 b0 rfl t0 (Az rfl (c0.memA (.tl (.tl .hd)))) rfl ?_
 obtain ⟨v1,p1,h⟩:=bi h
 refine Bp 2 15 b0 rfl .plain body83 rfl (e1 rfl) (fun w9 hw9=>share_Read_c n _ w9 (c0.hL hL hw9) a0 p1) rfl (fun A2 j2 Q0 ⟨b2,c2,hu_,b1,c1⟩=>?_)
 subst hu_
 obtain ⟨y0,V1⟩:=c0.agr Q0
 obtain ⟨x1,q1,h⟩:=bi h
 refine Bp 4 31 b0 rfl .plain body83 rfl (e1 rfl) (fun w9 hw9=>share_Read_c n _ w9 (y0.hL hL hw9) a1 q1) rfl (fun B2 k2 R0 ⟨d2,g2,hu_,d1,g1⟩=>?_)
 subst hu_
 obtain ⟨z0,C0⟩:=y0.agr R0
 obtain ⟨d0,s1,h⟩:=bi h
 have W0:=Ay b1 C0
 have X0:=Ay c1 C0
 refine Bp 5 63 b0 rfl .plain body74 rfl (e2 rfl rfl) (fun w9 hw9=>share_Ratio_Plus_c n _ w9 (z0.hL hL hw9) v1 (Aq W0 hw9) (Aq X0 hw9) x1 (Aq d1 hw9) (Aq g1 hw9) s1) rfl (fun C2 p2 U0 ⟨u0,v0,hu_,F0,G0⟩=>?_)
 subst hu_
 obtain ⟨P0,W1⟩:=z0.agr U0
 refine Bq 6 127 b0 rfl rfl .plain (Aw (news:=[.bool d0.ft.fe,u0,.bool d0.fp.fe,v0]) P0 (.tl .hd) rfl rfl rfl rfl rfl rfl (o4 rfl (AU F0) rfl (AU G0))) (fun D2 g0 D0=>?_)
 refine BC (i:=7) (rk b0) (RO.val (m' :=255) (sk b0) rfl .plain rfl (AY rfl) ?_)
 refine AH (dk b0)<|Am rfl<|Al (u:=.tuple #[.agg #[.bool d0.ft.fe,u0,.bool d0.fp.fe,v0],vI 0]) E0 Tryz.func71 rfl (.cons (.many (cs:=[.bool d0.ft.fe,u0,.bool d0.fp.fe,v0]) (by kernel_rfl) rfl (g0.memA (.tl .hd))) (.cons (.tmp rfl) .nil)) rfl<|Ab (Ag rfl rfl)<|Ab (Ag rfl rfl) ?_
 obtain ⟨k0,t1,h⟩:=bi h
 have Y0:=Ay F0 D0
 have Z0:=Ay G0 D0
 refine Ba (.tuple #[.agg ((cs_TShare k0.1)).toArray,vI k0.2]) body70 rfl (e2 rfl rfl) (fun w9 hw9=>share_told_c n _ w9 (g0.hL0 hL hw9) d0 (g0.kd Y0 hw9) (g0.kd Z0 hw9) (0:Int) t1) rfl<|Ab (Ag rfl rfl)<|Ab (Ag rfl rfl)<|AL (cs_TShare k0.1) g0 (.tl (.tl (.tl (.tl .hd)))) (onesB rfl) (fun E2 A0 X1=>?_)
 refine Ah rfl<|Aa<|Am rfl<|Al hb0 Tryz.func36 rfl (.cons (.many (cs:=(cs_TShare k0.1)) (by kernel_rfl) rfl (A0.memA (.tl (.tl (.tl (.tl .hd)))))) (.cons (.tmp rfl) .nil)) rfl ?_
 cases h
 exact A0.gv
 refine Ac<|Ai .plain rfl (Au [.bool false,vN,.bool false,vN] c0) (fun F2 F1 B0 Y1=>?_)
 refine Aa<|Ac<|Ab (Az rfl (B0.memA .hd))<|AL [.bool false,vN,.bool false,vN] B0 (.tl (.tl .hd)) (onesB rfl) (fun G2 p0 H1=>?_)
 refine Ah rfl<|Aa<|Am rfl<|Al (u:=.tuple #[.agg #[.bool false,vN,.bool false,vN],vI 20]) E0 Tryz.func71 rfl (.cons (.many (cs:=[.bool false,vN,.bool false,vN]) (by kernel_rfl) rfl (p0.memA (.tl (.tl .hd)))) (.cons (.tmp rfl) .nil)) rfl<|Ab (Ag rfl rfl)<|Ab (Ag rfl rfl) ?_
 obtain ⟨j0,j1,h⟩:=bi h
 refine Ba (.tuple #[.agg ((cs_TShare j0.1)).toArray,vI j0.2]) body70 rfl (e2 rfl rfl) (fun w9 hw9=>share_told_c n _ w9 (p0.hL0 hL hw9) (⟨(⟨false,([]:List UInt64)⟩:TLong),(⟨false,([]:List UInt64)⟩:TLong)⟩:TRatio) (Aq (Rep.nilSlice _ _) hw9) (Aq (Rep.nilSlice _ _) hw9) (20:Int) j1) rfl<|Ab (Ag rfl rfl)<|Ab (Ag rfl rfl)<|AL (cs_TShare j0.1) p0 (.tl (.tl (.tl (.tl (.tl .hd))))) (onesB rfl) (fun q2 x0 I1=>?_)
 refine Ah rfl<|Aa<|Am rfl<|Al hb0 Tryz.func36 rfl (.cons (.many (cs:=(cs_TShare j0.1)) (by kernel_rfl) rfl (x0.memA (.tl (.tl (.tl (.tl (.tl .hd))))))) (.cons (.tmp rfl) .nil)) rfl ?_
 cases h
 exact x0.gv
theorem body36:bodyB Tryz.prog 36 = true:=by kernel_rfl
def minority_add_p (n:Nat) (a0:TShare) (a1:TShare):Option (Except Tbroken TShare):=
  (share_Add_p n a0 a1).bind fun b0=>(minority_must_api_Share_p n b0.1 b0.2).bind fun d0=>exc d0 (fun g0=>some (.ok g0)) (fun c0=>some (.error c0))
theorem minority_add_c (n:Nat) (L:List Nat) (w:World) (hL:∀ b ∈ L,b < w.heap.size) (a0:TShare) (a1:TShare)  {r:Except Tbroken TShare} (h:minority_add_p n a0 a1 = some r) :
    Calls Tryz.prog 65 #[.agg ((cs_TShare a0)).toArray,.agg ((cs_TShare a1)).toArray] w (PGives w (fun (y:TShare) _ u=>u = .agg ((cs_TShare y)).toArray) (fun e=>.iface 110 (.agg #[vI e.fH])) r):=by
 unfold minority_add_p at h
 have hS0:=Ax w
 refine Bz Tryz.func65 rfl rfl rfl (fun _ cs0 hb0 hp0=>?_)
 refine Ac<|Ai .plain rfl (Ar hS0 rfl rfl) (fun F0 v0 k0 A0=>?_)
 refine Ai .plain rfl (Ar k0 rfl rfl) (fun G0 x0 p0 B0=>?_)
 refine Ai .plain rfl (Au zL p0) (fun H0 y0 b0 C0=>?_)
 refine Aa<|Ac<|Ab (Az rfl (b0.memA (.tl (.tl .hd))))<|Ab (Az rfl (b0.memA (.tl .hd))) ?_
 obtain ⟨c0,t0,h⟩:=bi h
 refine Ba (.tuple #[.agg ((cs_TShare c0.1)).toArray,vI c0.2]) body36 rfl (e2 rfl rfl) (fun w9 hw9=>share_Add_c n _ w9 (b0.hL0 hL hw9) a0 a1 t0) rfl<|Ab (Ag rfl rfl)<|Ab (Ag rfl rfl) ?_
 obtain ⟨u0,j0,h⟩:=bi h
 rcases u0 with z0 | d0
 have h:=exc_e h
 try dsimp only at h
 refine Bg (fst:=[]) (cap:=[]) .plain body56 rfl (e2 rfl rfl) (fun w9 hw9=>minority_must_api_Share_c n _ w9 (b0.hL0 hL hw9) c0.1 c0.2 j0) (fun I0 s0=>?_)
 obtain ⟨q0,D0⟩:=b0.agr s0
 cases h
 exact AG hp0 Tryz.func65 ⟨q0.ag,rfl⟩
 have h:=exc_o h
 try dsimp only at h
 refine Ba (.agg ((cs_TShare d0)).toArray) body56 rfl (e2 rfl rfl) (fun w9 hw9=>AD (minority_must_api_Share_c n _ w9 (b0.hL0 hL hw9) c0.1 c0.2 j0)) rfl<|AL (cs_TShare d0) b0 .hd (onesB rfl) (fun J0 g0 E0=>?_)
 refine Aa<|Am rfl<|Al hb0 Tryz.func65 rfl (.cons (.many (cs:=(cs_TShare d0)) (by kernel_rfl) rfl (g0.memA .hd)) .nil) rfl ?_
 cases h
 exact ⟨g0.ag,fun w9 hw9=>okOf_in rfl⟩
def tb89_1:List (Nat × Nat × Nat):=[(0,8,2),(1,16,8),(2,32,16),(0,64,2),(8,128,64),(20,256,160),(63,0,260)]
def share_Ratio_Turned_p (n:Nat) (a0:TRatio):Option TRatio:=
  (wide_Long_Turned_p n a0.ft).bind fun b0=>some (⟨b0,a0.fp⟩:TRatio)
theorem share_Ratio_Turned_c (n:Nat) (L:List Nat) (w:World) (hL:∀ b ∈ L,b < w.heap.size) (a0:TRatio) {v0_1:Value} (h0_1:Rep.R w L [v0_1] a0.ft.fo) {v0_3:Value} (h0_3:Rep.R w L [v0_3] a0.fp.fo)  {r:TRatio} (h:share_Ratio_Turned_p n a0 = some r) :
    Calls Tryz.prog 89 #[.agg #[.bool a0.ft.fe,v0_1,.bool a0.fp.fe,v0_3]] w (Gives w fun w' u=>∃ v0_1 v0_3:Value,u = .agg #[.bool r.ft.fe,v0_1,.bool r.fp.fe,v0_3]∧Rep.R w' L [v0_1] r.ft.fo∧Rep.R w' L [v0_3] r.fp.fo):=by
 unfold share_Ratio_Turned_p at h
 have hS0:=Ax w
 refine AE Tryz.func89 rfl rfl rfl (fun _ cs0 hb0=>?_)
 refine Ac<|Ai .plain rfl (Ar hS0 rfl rfl) (fun P0 E0 u0 I0=>?_)
 refine Ai .plain rfl (Au [.bool false,vN,.bool false,vN] u0) (fun Q0 F0 c0 J0=>?_)
 refine Aa<|Ak<|dt 6 tb89_1 (fun b0 d0=>?_)
 refine Af 0 1 b0 rfl d0 (fun _=>AQ 0 rfl) rfl<|AA 1 3 100 b0 rfl d0 (AR (cs:=[.bool a0.ft.fe,v0_1]) (by kernel_rfl) rfl (mem_part (c0.memA (.tl .hd)) 0 2)) rfl<|Af 3 11 b0 rfl d0 (fun _=>AQ 2 rfl) rfl<|AA 4 27 96 b0 rfl d0 (AR (cs:=[.bool a0.fp.fe,v0_3]) (by kernel_rfl) rfl (mem_part (c0.memA (.tl .hd)) 2 2)) rfl ?_
 obtain ⟨p0,B0,h⟩:=bi h
 refine Bp 2 31 b0 rfl .plain body107 rfl (e1 rfl) (fun w9 hw9=>wide_Long_Turned_c n _ w9 (c0.hL hL hw9) a0.ft (c0.km h0_1 hw9) B0) rfl (fun R0 M0 x0 ⟨g0,hu_,q0⟩=>?_)
 subst hu_
 obtain ⟨s0,K0⟩:=c0.agr x0
 obtain ⟨C0,G0,z0,_⟩:=Rep.sl q0
 have t0:=AP h0_3 s0
 obtain ⟨D0,H0,A0,_⟩:=Rep.sl t0
 refine Af 5 63 b0 rfl d0 (fun _=>AK (vs:=[.agg #[.bool p0.fe,g0],.agg #[.bool a0.fp.fe,v0_3]]) (u:=.agg #[.bool p0.fe,g0,.bool a0.fp.fe,v0_3]) (e2 rfl rfl) (fun w9=>by rw [z0,A0]; try kernel_rfl)) rfl<|Bq 6 127 b0 rfl rfl .plain (Aw (news:=[.bool p0.fe,g0,.bool a0.fp.fe,v0_3]) s0 .hd rfl rfl rfl rfl rfl rfl (o4 rfl (AU q0) rfl (AU t0))) (fun U0 j0 v0=>?_)
 refine AH (dk b0)<|Am rfl<|Al hb0 Tryz.func89 rfl (.cons (.many (cs:=[.bool p0.fe,g0,.bool a0.fp.fe,v0_3]) (by kernel_rfl) rfl (j0.memA .hd)) .nil) rfl ?_
 cases h
 have y0:=Ay q0 v0
 exact ⟨j0.ag,fun w9 hw9=>⟨g0,v0_3,rfl,j0.kd y0 hw9,j0.k0 h0_3 hw9⟩⟩
def tb72_1:List (Nat × Nat × Nat):=[(0,32,4),(0,64,8),(2,128,64),(5,256,160),(15,0,272)]
theorem body89:bodyB Tryz.prog 89 = true:=by kernel_rfl
def share_Ratio_Minus_p (n:Nat) (a0:TRatio) (a1:TRatio):Option TRatio:=
  (share_Ratio_Turned_p n a1).bind fun b0=>(share_Ratio_Plus_p n a0 b0).bind fun c0=>some c0
theorem share_Ratio_Minus_c (n:Nat) (L:List Nat) (w:World) (hL:∀ b ∈ L,b < w.heap.size) (a0:TRatio) {v0_1:Value} (h0_1:Rep.R w L [v0_1] a0.ft.fo) {v0_3:Value} (h0_3:Rep.R w L [v0_3] a0.fp.fo) (a1:TRatio) {v1_1:Value} (h1_1:Rep.R w L [v1_1] a1.ft.fo) {v1_3:Value} (h1_3:Rep.R w L [v1_3] a1.fp.fo)  {r:TRatio} (h:share_Ratio_Minus_p n a0 a1 = some r) :
    Calls Tryz.prog 72 #[.agg #[.bool a0.ft.fe,v0_1,.bool a0.fp.fe,v0_3],.agg #[.bool a1.ft.fe,v1_1,.bool a1.fp.fe,v1_3]] w (Gives w fun w' u=>∃ v0_1 v0_3:Value,u = .agg #[.bool r.ft.fe,v0_1,.bool r.fp.fe,v0_3]∧Rep.R w' L [v0_1] r.ft.fo∧Rep.R w' L [v0_3] r.fp.fo):=by
 unfold share_Ratio_Minus_p at h
 have hS0:=Ax w
 refine AE Tryz.func72 rfl rfl rfl (fun _ cs0 hb0=>?_)
 refine Ac<|Ai .plain rfl (Ar hS0 rfl rfl) (fun Z0 I0 v0 M0=>?_)
 refine Ai .plain rfl (Ar v0 rfl rfl) (fun b1 J0 x0 P0=>?_)
 refine Ai .plain rfl (Au [.bool false,vN,.bool false,vN] x0) (fun c1 K0 b0 Q0=>?_)
 refine Aa<|Ak<|dt 4 tb72_1 (fun c0 u0=>?_)
 refine AA 0 1 24 c0 rfl u0 (Az rfl (b0.memA (.tl (.tl .hd)))) rfl<|AA 1 3 28 c0 rfl u0 (Az rfl (b0.memA (.tl .hd))) rfl ?_
 obtain ⟨H0,F0,h⟩:=bi h
 refine Bp 2 7 c0 rfl .plain body89 rfl (e1 rfl) (fun w9 hw9=>share_Ratio_Turned_c n _ w9 (b0.hL hL hw9) a1 (b0.km h1_1 hw9) (b0.km h1_3 hw9) F0) rfl (fun d1 X0 z0 ⟨V0,W0,hu_,D0,E0⟩=>?_)
 subst hu_
 obtain ⟨d0,R0⟩:=b0.agr z0
 obtain ⟨j0,G0,h⟩:=bi h
 refine Bp 3 15 c0 rfl .plain body74 rfl (e2 rfl rfl) (fun w9 hw9=>share_Ratio_Plus_c n _ w9 (d0.hL hL hw9) a0 (d0.km h0_1 hw9) (d0.km h0_3 hw9) H0 (Aq D0 hw9) (Aq E0 hw9) G0) rfl (fun g1 Y0 A0 ⟨k0,p0,hu_,s0,t0⟩=>?_)
 subst hu_
 obtain ⟨y0,U0⟩:=d0.agr A0
 refine Bq 4 31 c0 rfl rfl .plain (Aw (news:=[.bool j0.ft.fe,k0,.bool j0.fp.fe,p0]) y0 .hd rfl rfl rfl rfl rfl rfl (o4 rfl (AU s0) rfl (AU t0))) (fun j1 g0 q0=>?_)
 refine AH (dk c0)<|Am rfl<|Al hb0 Tryz.func72 rfl (.cons (.many (cs:=[.bool j0.ft.fe,k0,.bool j0.fp.fe,p0]) (by kernel_rfl) rfl (g0.memA .hd)) .nil) rfl ?_
 cases h
 have B0:=Ay s0 q0
 have C0:=Ay t0 q0
 exact ⟨g0.ag,fun w9 hw9=>⟨k0,p0,rfl,g0.kd B0 hw9,g0.kd C0 hw9⟩⟩
theorem body72:bodyB Tryz.prog 72 = true:=by kernel_rfl
def share_Sub_p (n:Nat) (a0:TShare) (a1:TShare):Option (TShare × Int):=
  (share_valid_p n ([a0,a1]:List TShare)).bind fun d0=>(if d0 = true then (share_Read_p n a0).bind fun g0=>(share_Read_p n a1).bind fun j0=>(share_Ratio_Minus_p n g0 j0).bind fun k0=>(share_told_p n k0 (0:Int)).bind fun c0=>some (c0.1,c0.2) else (share_told_p n (⟨(⟨false,([]:List UInt64)⟩:TLong),(⟨false,([]:List UInt64)⟩:TLong)⟩:TRatio) (20:Int)).bind fun b0=>some (b0.1,b0.2))
theorem share_Sub_c (n:Nat) (L:List Nat) (w:World) (hL:∀ b ∈ L,b < w.heap.size) (a0:TShare) (a1:TShare)  {r:TShare × Int} (h:share_Sub_p n a0 a1 = some r) :
    Calls Tryz.prog 34 #[.agg ((cs_TShare a0)).toArray,.agg ((cs_TShare a1)).toArray] w (Gives w fun _ u=>u = .tuple #[.agg ((cs_TShare r.1)).toArray,vI r.2]):=by
 unfold share_Sub_p at h
 have hS0:=Ax w
 refine AE Tryz.func34 rfl rfl rfl (fun _ cs0 hb0=>?_)
 refine Ac<|Ai .plain rfl (Ar hS0 rfl rfl) (fun s2 y1 I0 J1=>?_)
 refine Ai .plain rfl (Ar I0 rfl rfl) (fun t2 z1 J0 K1=>?_)
 refine Ai .plain rfl (Au zL J0) (fun u2 A1 q0 M1=>?_)
 refine Ah rfl<|Aa<|Ac<|Ab (Az rfl (q0.memA (.tl (.tl .hd))))<|Ab (Az rfl (q0.memA (.tl .hd)))<|Bc (fst:=[]) (cap:=[]) (vs:=[.agg ((cs_TShare a0)).toArray,.agg ((cs_TShare a1)).toArray,.func (.func 72) #[] #[]]) .plain body71 Tryz.func71 rfl rfl rfl rfl (e3 rfl rfl rfl) rfl (fun G1 E0 Z1=>?_)
 refine Ac<|Ai .plain rfl (Ar q0 rfl rfl) (fun v2 B1 K0 P1=>?_)
 refine Ai .plain rfl (Ar K0 rfl rfl) (fun x2 C1 M0 Q1=>?_)
 refine Ai .plain rfl (Au [.bool false,vN,.bool false,vN] M0) (fun y2 D1 s0 R1=>?_)
 refine Ah rfl<|Aa<|Ak<|Ac<|Ab (Az rfl (s0.memA (.tl (.tl .hd))))<|Ab (Az rfl (s0.memA (.tl .hd)))<|Ai .plain rfl (AT (α:=TShare) (xs:=([a0,a1]:List TShare)) (vs:=[.agg ((cs_TShare a0)).toArray,.agg ((cs_TShare a1)).toArray]) (ds' :=(cs_TShare a0 ++ cs_TShare a1)) rfl s0 el60 rfl (e2 rfl rfl) (by kernel_rfl) rfl) (fun z2 E1 c0 U1=>?_)
 have V0:=AM (cs:=(cs_TShare a0 ++ cs_TShare a1)) (xs:=(([a0,a1]:List TShare):List TShare)) c0 L (Ap (cs:=(cs_TShare a0)) (ds:=(cs_TShare a1)) (mk_TShare a0.fN a0.fD) (Ap (cs:=(cs_TShare a1)) (ds:=[]) (mk_TShare a1.fN a1.fD) (AS _ _)))
 obtain ⟨u1,k1,h⟩:=bi h
 refine Ba (.bool u1) body93 rfl (e1 rfl) (fun w9 hw9=>share_valid_c n _ w9 (c0.hL0 hL hw9) ([a0,a1]:List TShare) (Aq (St.lend (α:=TShare) (L:=L) c0 .hd V0 hL) hw9) k1) rfl<|Ab (FV.not rfl)<|Aa<|MX.ifnb rfl h (fun H0 h=>?_) (fun H0 h=>?_)
 refine Av<|Ak<|dt 6 tb71_4 (fun b0 t0=>?_)
 refine Af 0 1 b0 rfl t0 (fun _=>Aj rfl) rfl<|AA 1 3 244 b0 rfl t0 (Az rfl (c0.memA (.tl (.tl (.tl .hd))))) rfl<|AA 3 11 240 b0 rfl t0 (Az rfl (c0.memA (.tl (.tl .hd)))) rfl ?_
 obtain ⟨v1,p1,h⟩:=bi h
 refine Bp 2 15 b0 rfl .plain body83 rfl (e1 rfl) (fun w9 hw9=>share_Read_c n _ w9 (c0.hL hL hw9) a0 p1) rfl (fun A2 j2 Q0 ⟨b2,c2,hu_,b1,c1⟩=>?_)
 subst hu_
 obtain ⟨y0,V1⟩:=c0.agr Q0
 obtain ⟨x1,q1,h⟩:=bi h
 refine Bp 4 31 b0 rfl .plain body83 rfl (e1 rfl) (fun w9 hw9=>share_Read_c n _ w9 (y0.hL hL hw9) a1 q1) rfl (fun B2 k2 R0 ⟨d2,g2,hu_,d1,g1⟩=>?_)
 subst hu_
 obtain ⟨z0,C0⟩:=y0.agr R0
 obtain ⟨d0,s1,h⟩:=bi h
 have W0:=Ay b1 C0
 have X0:=Ay c1 C0
 refine Bp 5 63 b0 rfl .plain body72 rfl (e2 rfl rfl) (fun w9 hw9=>share_Ratio_Minus_c n _ w9 (z0.hL hL hw9) v1 (Aq W0 hw9) (Aq X0 hw9) x1 (Aq d1 hw9) (Aq g1 hw9) s1) rfl (fun C2 p2 U0 ⟨u0,v0,hu_,F0,G0⟩=>?_)
 subst hu_
 obtain ⟨P0,W1⟩:=z0.agr U0
 refine Bq 6 127 b0 rfl rfl .plain (Aw (news:=[.bool d0.ft.fe,u0,.bool d0.fp.fe,v0]) P0 (.tl .hd) rfl rfl rfl rfl rfl rfl (o4 rfl (AU F0) rfl (AU G0))) (fun D2 g0 D0=>?_)
 refine BC (i:=7) (rk b0) (RO.val (m' :=255) (sk b0) rfl .plain rfl (AY rfl) ?_)
 refine AH (dk b0)<|Am rfl<|Al (u:=.tuple #[.agg #[.bool d0.ft.fe,u0,.bool d0.fp.fe,v0],vI 0]) E0 Tryz.func71 rfl (.cons (.many (cs:=[.bool d0.ft.fe,u0,.bool d0.fp.fe,v0]) (by kernel_rfl) rfl (g0.memA (.tl .hd))) (.cons (.tmp rfl) .nil)) rfl<|Ab (Ag rfl rfl)<|Ab (Ag rfl rfl) ?_
 obtain ⟨k0,t1,h⟩:=bi h
 have Y0:=Ay F0 D0
 have Z0:=Ay G0 D0
 refine Ba (.tuple #[.agg ((cs_TShare k0.1)).toArray,vI k0.2]) body70 rfl (e2 rfl rfl) (fun w9 hw9=>share_told_c n _ w9 (g0.hL0 hL hw9) d0 (g0.kd Y0 hw9) (g0.kd Z0 hw9) (0:Int) t1) rfl<|Ab (Ag rfl rfl)<|Ab (Ag rfl rfl)<|AL (cs_TShare k0.1) g0 (.tl (.tl (.tl (.tl .hd)))) (onesB rfl) (fun E2 A0 X1=>?_)
 refine Ah rfl<|Aa<|Am rfl<|Al hb0 Tryz.func34 rfl (.cons (.many (cs:=(cs_TShare k0.1)) (by kernel_rfl) rfl (A0.memA (.tl (.tl (.tl (.tl .hd)))))) (.cons (.tmp rfl) .nil)) rfl ?_
 cases h
 exact A0.gv
 refine Ac<|Ai .plain rfl (Au [.bool false,vN,.bool false,vN] c0) (fun F2 F1 B0 Y1=>?_)
 refine Aa<|Ac<|Ab (Az rfl (B0.memA .hd))<|AL [.bool false,vN,.bool false,vN] B0 (.tl (.tl .hd)) (onesB rfl) (fun G2 p0 H1=>?_)
 refine Ah rfl<|Aa<|Am rfl<|Al (u:=.tuple #[.agg #[.bool false,vN,.bool false,vN],vI 20]) E0 Tryz.func71 rfl (.cons (.many (cs:=[.bool false,vN,.bool false,vN]) (by kernel_rfl) rfl (p0.memA (.tl (.tl .hd)))) (.cons (.tmp rfl) .nil)) rfl<|Ab (Ag rfl rfl)<|Ab (Ag rfl rfl) ?_
 obtain ⟨j0,j1,h⟩:=bi h
 refine Ba (.tuple #[.agg ((cs_TShare j0.1)).toArray,vI j0.2]) body70 rfl (e2 rfl rfl) (fun w9 hw9=>share_told_c n _ w9 (p0.hL0 hL hw9) (⟨(⟨false,([]:List UInt64)⟩:TLong),(⟨false,([]:List UInt64)⟩:TLong)⟩:TRatio) (Aq (Rep.nilSlice _ _) hw9) (Aq (Rep.nilSlice _ _) hw9) (20:Int) j1) rfl<|Ab (Ag rfl rfl)<|Ab (Ag rfl rfl)<|AL (cs_TShare j0.1) p0 (.tl (.tl (.tl (.tl (.tl .hd))))) (onesB rfl) (fun q2 x0 I1=>?_)
 refine Ah rfl<|Aa<|Am rfl<|Al hb0 Tryz.func34 rfl (.cons (.many (cs:=(cs_TShare j0.1)) (by kernel_rfl) rfl (x0.memA (.tl (.tl (.tl (.tl (.tl .hd))))))) (.cons (.tmp rfl) .nil)) rfl ?_
 cases h
 exact x0.gv
theorem body34:bodyB Tryz.prog 34 = true:=by kernel_rfl
def minority_sub_p (n:Nat) (a0:TShare) (a1:TShare):Option (Except Tbroken TShare):=
  (share_Sub_p n a0 a1).bind fun b0=>(minority_must_api_Share_p n b0.1 b0.2).bind fun d0=>exc d0 (fun g0=>some (.ok g0)) (fun c0=>some (.error c0))
theorem minority_sub_c (n:Nat) (L:List Nat) (w:World) (hL:∀ b ∈ L,b < w.heap.size) (a0:TShare) (a1:TShare)  {r:Except Tbroken TShare} (h:minority_sub_p n a0 a1 = some r) :
    Calls Tryz.prog 29 #[.agg ((cs_TShare a0)).toArray,.agg ((cs_TShare a1)).toArray] w (PGives w (fun (y:TShare) _ u=>u = .agg ((cs_TShare y)).toArray) (fun e=>.iface 110 (.agg #[vI e.fH])) r):=by
 unfold minority_sub_p at h
 have hS0:=Ax w
 refine Bz Tryz.func29 rfl rfl rfl (fun _ cs0 hb0 hp0=>?_)
 refine Ac<|Ai .plain rfl (Ar hS0 rfl rfl) (fun F0 v0 k0 A0=>?_)
 refine Ai .plain rfl (Ar k0 rfl rfl) (fun G0 x0 p0 B0=>?_)
 refine Ai .plain rfl (Au zL p0) (fun H0 y0 b0 C0=>?_)
 refine Aa<|Ac<|Ab (Az rfl (b0.memA (.tl (.tl .hd))))<|Ab (Az rfl (b0.memA (.tl .hd))) ?_
 obtain ⟨c0,t0,h⟩:=bi h
 refine Ba (.tuple #[.agg ((cs_TShare c0.1)).toArray,vI c0.2]) body34 rfl (e2 rfl rfl) (fun w9 hw9=>share_Sub_c n _ w9 (b0.hL0 hL hw9) a0 a1 t0) rfl<|Ab (Ag rfl rfl)<|Ab (Ag rfl rfl) ?_
 obtain ⟨u0,j0,h⟩:=bi h
 rcases u0 with z0 | d0
 have h:=exc_e h
 try dsimp only at h
 refine Bg (fst:=[]) (cap:=[]) .plain body56 rfl (e2 rfl rfl) (fun w9 hw9=>minority_must_api_Share_c n _ w9 (b0.hL0 hL hw9) c0.1 c0.2 j0) (fun I0 s0=>?_)
 obtain ⟨q0,D0⟩:=b0.agr s0
 cases h
 exact AG hp0 Tryz.func29 ⟨q0.ag,rfl⟩
 have h:=exc_o h
 try dsimp only at h
 refine Ba (.agg ((cs_TShare d0)).toArray) body56 rfl (e2 rfl rfl) (fun w9 hw9=>AD (minority_must_api_Share_c n _ w9 (b0.hL0 hL hw9) c0.1 c0.2 j0)) rfl<|AL (cs_TShare d0) b0 .hd (onesB rfl) (fun J0 g0 E0=>?_)
 refine Aa<|Am rfl<|Al hb0 Tryz.func29 rfl (.cons (.many (cs:=(cs_TShare d0)) (by kernel_rfl) rfl (g0.memA .hd)) .nil) rfl ?_
 cases h
 exact ⟨g0.ag,fun w9 hw9=>okOf_in rfl⟩
def tb66_2:List (Nat × Nat × Nat):=[(0,8192,512),(0,16384,64),(0,32768,128),(6,65536,49152),(9,131072,73728),(31,0,131328)]
theorem body29:bodyB Tryz.prog 29 = true:=by kernel_rfl
theorem body30:bodyB Tryz.prog 30 = true:=by kernel_rfl
def minority_fitted_1_p (n:Nat) (a0:TShare) (a1:TShare) (a2:TShare) (a3:TShare):Option (Except Tbroken TShare):=
  (minority_mul_p n a0 a1).bind fun c0=>exc c0 (fun d0=>(minority_mul_p n a2 a3).bind fun g0=>exc g0 (fun j0=>(minority_sub_p n d0 j0).bind fun k0=>exc k0 (fun p0=>some (.ok p0)) (fun s0=>none)) (fun q0=>none)) (fun b0=>some (.error b0))
theorem minority_fitted_1_c (n:Nat) (L:List Nat) (w:World) (hL:∀ b ∈ L,b < w.heap.size) (a0:TShare) (a1:TShare) (a2:TShare) (a3:TShare)  {r:Except Tbroken TShare} (h:minority_fitted_1_p n a0 a1 a2 a3 = some r) :
    Calls Tryz.prog 66 #[.agg ((cs_TShare a0)).toArray,.agg ((cs_TShare a1)).toArray,.agg ((cs_TShare a2)).toArray,.agg ((cs_TShare a3)).toArray] w (PGives w (fun (y:TShare) _ u=>u = .agg ((cs_TShare y)).toArray) (fun e=>.iface 110 (.agg #[vI e.fH])) r):=by
 unfold minority_fitted_1_p at h
 have hS0:=Ax w
 refine Bz Tryz.func66 rfl rfl rfl (fun _ cs0 hb0 hp0=>?_)
 refine Ac<|Ai .plain rfl (Ar hS0 rfl rfl) (fun g1 G0 t0 U0=>?_)
 refine Ai .plain rfl (Ar t0 rfl rfl) (fun j1 H0 u0 V0=>?_)
 refine Ai .plain rfl (Ar u0 rfl rfl) (fun k1 I0 v0 W0=>?_)
 refine Ai .plain rfl (Ar v0 rfl rfl) (fun p1 J0 x0 X0=>?_)
 refine Ai .plain rfl (Au zL x0) (fun q1 K0 c0 Y0=>?_)
 refine Aa<|Ac<|Ab (Az rfl (c0.memA (.tl (.tl (.tl (.tl .hd))))))<|Ab (Az rfl (c0.memA (.tl (.tl (.tl .hd))))) ?_
 obtain ⟨D0,q0,h⟩:=bi h
 rcases D0 with P0 | j0
 have h:=exc_e h
 try dsimp only at h
 refine Bg (fst:=[]) (cap:=[]) .plain body30 rfl (e2 rfl rfl) (fun w9 hw9=>minority_mul_c n _ w9 (c0.hL0 hL hw9) a0 a1 q0) (fun s1 A0=>?_)
 obtain ⟨y0,Z0⟩:=c0.agr A0
 cases h
 exact AG hp0 Tryz.func66 ⟨y0.ag,rfl⟩
 have h:=exc_o h
 try dsimp only at h
 refine Ba (.agg ((cs_TShare j0)).toArray) body30 rfl (e2 rfl rfl) (fun w9 hw9=>AD (minority_mul_c n _ w9 (c0.hL0 hL hw9) a0 a1 q0)) rfl<|Ai .plain rfl (Au zL c0) (fun t1 M0 z0 b1=>?_)
 refine AL (cs_TShare j0) z0 .hd (onesB rfl) (fun u1 d0 c1=>?_)
 refine Aa<|Ak<|dt 5 tb66_2 (fun b0 g0=>?_)
 refine AA 0 1 48 b0 rfl g0 (Az rfl (d0.memA .hd)) rfl<|AA 1 3 56 b0 rfl g0 (Az rfl (d0.memA (.tl (.tl (.tl .hd))))) rfl<|AA 2 7 56 b0 rfl g0 (Az rfl (d0.memA (.tl (.tl .hd)))) rfl ?_
 obtain ⟨E0,B0,h⟩:=bi h
 rcases E0 with Q0 | s0
 have h:=exc_e h
 try dsimp only at h
 cases h
 have h:=exc_o h
 try dsimp only at h
 refine BA 3 15 48 (.agg ((cs_TShare s0)).toArray) b0 rfl g0 body30 rfl (e2 rfl rfl) (fun w9 hw9=>AD (minority_mul_c n _ w9 (d0.hL0 hL hw9) a2 a3 B0)) rfl ?_
 obtain ⟨F0,C0,h⟩:=bi h
 rcases F0 with R0 | k0
 have h:=exc_e h
 try dsimp only at h
 cases h
 have h:=exc_o h
 try dsimp only at h
 refine BA 4 31 32 (.agg ((cs_TShare k0)).toArray) b0 rfl g0 body29 rfl (e2 rfl rfl) (fun w9 hw9=>AD (minority_sub_c n _ w9 (d0.hL0 hL hw9) j0 s0 C0)) rfl<|Bq 5 63 b0 rfl rfl .plain (Aw (news:=(cs_TShare k0)) d0 (.tl .hd) rfl rfl rfl rfl rfl rfl (onesB rfl)) (fun v1 p0 d1=>?_)
 refine AH (dk b0)<|Am rfl<|Al hb0 Tryz.func66 rfl (.cons (.many (cs:=(cs_TShare k0)) (by kernel_rfl) rfl (p0.memA (.tl .hd))) .nil) rfl ?_
 cases h
 exact ⟨p0.ag,fun w9 hw9=>okOf_in rfl⟩
end Go.Proofs.YtbgcdbblaadokaaGreatDoor
