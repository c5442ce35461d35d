import Derived.Test.YthffdckehlgmgaaGreatDoorProg
import Derived.Test.YthffdckehlgmgaaGreatDoorVMt
namespace Go.Proofs.YthffdckehlgmgaaGreatDoor
open Go Go.RowKit Tryz
set_option maxRecDepth 4000
set_option maxHeartbeats 4000000
abbrev Cl := Calls Tryz.prog
theorem bd (k:Nat) (h:bE Tryz.prog k = true:=by kernel_rfl):bE Tryz.prog k = true:=h

structure Ta where
  fN:U8
  fD:U8
  deriving DecidableEq
instance:Rep Ta:=Rep.via (β:=(U8) × (U8)) fun x=>(x.fN,x.fD)
structure Tg where
  fA:Int
  deriving DecidableEq
instance:Rep Tg:=Rep.via (β:=Int) fun x=>x.fA
def ab (x:Ta):List Vc:=[vU x.fN.1,vU x.fN.2.1,vU x.fN.2.2.1,vU x.fN.2.2.2.1,vU x.fN.2.2.2.2.1,vU x.fN.2.2.2.2.2.1,vU x.fN.2.2.2.2.2.2.1,vU x.fN.2.2.2.2.2.2.2,vU x.fD.1,vU x.fD.2.1,vU x.fD.2.2.1,vU x.fD.2.2.2.1,vU x.fD.2.2.2.2.1,vU x.fD.2.2.2.2.2.1,vU x.fD.2.2.2.2.2.2.1,vU x.fD.2.2.2.2.2.2.2]
def dm_p (_n:Nat) (a0:Int):Oa (Except Tg Unit):=
  (if a0 = 0 then some (.ok ()) else some (.error (⟨a0⟩:Tg)))
theorem dm_c (n:Nat) {L w} (_hL:hl L w) {a0:Int}  {r:Except Tg Unit} (h:dm_p n a0 = some r) :
 Cl 84 #[vI a0] w (aL w (fun (_y:Unit) _ u=>u = .tuple #[]) (fun e=>.iface 115 (.agg #[vI e.fA])) r):=by
 unfold dm_p at h
 have hS0:=AA w
 refine BZ func84 I I I fun _ cs0 hb0 hp0=>Af<|Ae I<|Ac (FV.neq (i:=a0) (j:=0) I I)<|Aa<|MX.ifn I h (fun c1 h=>?_) (fun c1 h=>?_)
 refine Ar<|MX.fin I<|Au hb0 func84 I .nil I ?_
 cases h
 exact ⟨hS0.ag,fun w9 hw9=>aE I⟩
 refine Ap<|Ae I<|Ac (AS (vs:=[vI a0]) (u:=.agg #[vI a0]) (e1 I) (fun w9=>by kernel_rfl))<|Ac (FV.makeInterface I I)<|RG.panic .plain I ?_
 cases h
 exact Bo hp0 func84 ⟨hS0.ag,I⟩
def de_p (_n:Nat) (a0:Int):Oa (Except Tg Unit):=
  (if a0 = 0 then some (.ok ()) else some (.error (⟨a0⟩:Tg)))
theorem de_c (n:Nat) {L w} (_hL:hl L w) {a0:Int}  {r:Except Tg Unit} (h:de_p n a0 = some r) :
 Cl 154 #[vI a0] w (aL w (fun (_y:Unit) _ u=>u = .tuple #[]) (fun e=>.iface 202 (.agg #[vI e.fA])) r):=by
 unfold de_p at h
 have hS0:=AA w
 refine BZ func154 I I I fun _ cs0 hb0 hp0=>Af<|Ae I<|Ac (FV.neq (i:=a0) (j:=0) I I)<|Aa<|MX.ifn I h (fun c1 h=>?_) (fun c1 h=>?_)
 refine Ar<|MX.fin I<|Au hb0 func154 I .nil I ?_
 cases h
 exact ⟨hS0.ag,fun w9 hw9=>aE I⟩
 refine Ap<|Ae I<|Ac (AS (vs:=[vI a0]) (u:=.agg #[vI a0]) (e1 I) (fun w9=>by kernel_rfl))<|Ac (FV.makeInterface I I)<|RG.panic .plain I ?_
 cases h
 exact Bo hp0 func154 ⟨hS0.ag,I⟩
def aG_l1 (_n:Nat) (a0:List Bool) (a1:Bool) (c0:Nat -> Oa (Int ⊕ Unit)):Nat -> Oa (Int ⊕ Unit)
  | b0=>(if b0 < a0.length then (a0[b0]?).bind fun d0=>(if (a1 == d0) = true then some (.inl ((b0:Nat):Int)) else c0 (b0 + 1)) else some (.inr ()))
def aG_p (n:Nat) (a0:List Bool) (a1:Bool):Oa Int:=
  thn (aj (aG_l1 n a0 a1) n 0) (fun _=>some (-1:Int))
theorem aG_c (n:Nat) {L w} (_hL:hl L w) {a0:List Bool} {v0_0:Vc} (h0_0:Rep.R w L [v0_0] a0) {a1:Bool}  {r:Int} (h:aG_p n a0 a1 = some r) :
 Cl 208 #[v0_0,.bool a1] w (ae w fun _ u=>u = vI r):=by
 unfold aG_p at h
 refine AF func208 I I I fun _ cs0 hb0=>Af<|Ag I<|Aa<|Aj<|Af<|Ae I ?_
 have hl1:=AU h0_0
 refine Ac (Ba (xs:=a0) underlying214 I h0_0)<|Ae I<|Aa<|Ax<|tn h fun E0 y0 d0=>MX.lo (α:=Nat) (fun b0=>[(0,v0_0),(1,.bool a1),(7,vn a0.length),(8,vn b0)]) (fun b0=>[]) (fun b0=>b0) 0 y0 (AA w) ?_
 rintro C0 b0 F0 q0 c0 s0 h
 unfold aG_l1 at h
 try dsimp only at h
 refine Af<|Ac (Bp (i:=b0) (j:=a0.length) I I)<|Aa<|Aj<|AQ I h (fun j0 h=>?_) (fun j0 h=>?_)
 refine Ar<|Aj<|Ax<|Af<|Ae I<|Ag I<|Aa<|Af<|Ae I<|Ae I<|Ae I<|bk h fun g0 A0 h=>?_
 obtain ⟨B0,D0,t0,v0,p0,z0,x0⟩:=Bh (AT h0_0 c0) A0
 have u0:p0 = [.bool g0]:=z0; subst u0
 refine Ac (Bb 1 b0 I t0 I I v0)<|AR I (x0 0 _ I)<|Ac (FV.eqlB (a:=a1) (b:=g0) underlying4 I I)<|Aa<|MX.ifb I h (fun k0 h=>?_) (fun k0 h=>?_)
 refine Af<|Ae I<|Ag I<|Aa ?_
 have h:=au h d0
 refine Am I<|AW hb0 func208 I I ?_
 cases h
 exact c0.gv
 refine Ar<|AC<|Ap<|Ac (Bl (i:=b0) (j:=1) I I (by omega))<|Ae I<|Aa<|q0 (b0 + 1) c0 s0 h
 refine AX I ?_
 have h:=aC h d0
 try dsimp only at h
 refine Af<|Ag I<|Aa<|Am I<|AW hb0 func208 I I ?_
 cases h
 exact c0.gv
def bF_p (n:Nat) (a0:List Bool) (a1:Bool):Oa Bool:=
  (aG_p n a0 a1).bind fun y1=>some (decide (0 <= y1))
theorem bF_c (n:Nat) {L w} (hL:hl L w) {a0:List Bool} {v0_0:Vc} (h0_0:Rep.R w L [v0_0] a0) {a1:Bool}  {r:Bool} (h:bF_p n a0 a1 = some r) :
 Cl 198 #[v0_0,.bool a1] w (ae w fun _ u=>u = .bool r):=by
 unfold bF_p at h
 have hS0:=AA w
 refine AF func198 I I I fun _ cs0 hb0=>Af<|Ag I<|Aa<|Af<|Ae I<|Ae I<|bk h fun y1 hy1 h=>Bj (vI y1) (bd 208) I (e2 I I) (fun w9 hw9=>aG_c n (hS0.hL0 hL hw9) (hS0.kd h0_0 hw9) hy1) I<|Ac (FV.geq (i:=y1) (j:=0) I I)<|Ag I<|Aa<|Am I<|AW hb0 func198 I I ?_
 cases h
 exact hS0.gv
def bA_p (n:Nat) (a0:List Bool):Oa Bool:=
  (bF_p n a0 false).bind fun y1=>some (!y1)
theorem bA_c (n:Nat) {L w} (hL:hl L w) {a0:List Bool} {v0_0:Vc} (h0_0:Rep.R w L [v0_0] a0)  {r:Bool} (h:bA_p n a0 = some r) :
 Cl 185 #[v0_0] w (ae w fun _ u=>u = .bool r):=by
 unfold bA_p at h
 have hS0:=AA w
 refine AF func185 I I I fun _ cs0 hb0=>Af<|Ag I<|Aa<|Af<|Ae I<|bk h fun y1 hy1 h=>Bj (.bool y1) (bd 198) I (e2 I I) (fun w9 hw9=>bF_c n (hS0.hL0 hL hw9) (hS0.kd h0_0 hw9) hy1) I<|Ac (Bu I)<|Ag I<|Aa<|Am I<|AW hb0 func185 I I ?_
 cases h
 exact hS0.gv
def bX_l1 (_n:Nat) (a1:UInt8) (c0:ByteArray -> Oa ByteArray):ByteArray -> Oa ByteArray
  | b0=>(if 0 < b0.size then (b0.data[0]?).bind fun g0=>(if g0.toNat = a1.toNat then (ki b0 1 (b0.size:Int)).bind fun d0=>c0 d0 else some b0) else some b0)
def bX_p (n:Nat) (a0:ByteArray) (a1:UInt8):Oa ByteArray:=
  jn (fun c0=>some c0) (fun b0=>Option.bind (aj (bX_l1 n a1) n a0) (b0))
theorem bX_c (n:Nat) {L w} (_hL:hl L w) {a0:ByteArray} (a1:UInt8)  {r:ByteArray} (h:bX_p n a0 a1 = some r) :
 Cl 209 #[.string a0,.int .u8 (a1.toNat:Int)] w (ae w fun _ u=>u = .string r):=by
 unfold bX_p at h
 have hS0:=AA w
 refine AF func209 I I I fun _ cs0 hb0=>Af<|Ag I<|Aa<|Aj<|Ax<|MX.xo (α:=ByteArray) 0 (fun c0=>[(0,.string c0)]) (fun c0=>[]) (fun c0=>c0) hS0 I h ?_ ?_
 rintro c0 E0 t0 C0 h
 try dsimp only at h
 refine Af<|Ae I<|Ag I<|Aa<|Am I<|AW hb0 func209 I I ?_
 cases h
 exact t0.gv
 intro A0 j0 h
 try dsimp only at h
 obtain ⟨D0,u0,k0⟩:=aq h
 refine MX.lo (α:=ByteArray) (fun b0=>[(0,.string b0),(1,.int .u8 (a1.toNat:Int))]) (fun b0=>[]) (fun b0=>b0) a0 u0 hS0 ?_
 rintro B0 b0 F0 s0 d0 g0 h
 unfold bX_l1 at h
 try dsimp only at h
 refine Aj<|Af<|Ae I<|Ac (BL underlying9 I)<|Ac (FV.gtrN (i:=b0.size) (j:=0) I I)<|Ae I<|BD (s:=8) I h (fun p0 h=>?_) (fun p0 h=>?_)
 refine AG (Ai I)<|bk h fun z0 x0 h=>AG (FV.strAt (k:=0) underlying9 I I I x0)<|AG (Ai I)<|AG (BP (i:=z0.toNat) (j:=a1.toNat) I I)<|Bn I I<|Aa<|AQ I h (fun q0 h=>?_) (fun q0 h=>?_)
 refine Ar<|Ax<|Ap<|Ae I<|bk h fun y0 v0 h=>Ac (FV.strCut v0 underlying9 I ⟨_,I⟩ I)<|Ag I<|Aa<|AC<|s0 y0 d0 g0 h
 refine AX I ?_
 have h:=k0 _ h
 try dsimp only at h
 exact j0 b0 d0 g0 h
 refine Aq<|Aq<|Aq<|Aq<|Bv I I<|Aa<|BF I<|AX I ?_
 have h:=k0 _ h
 try dsimp only at h
 exact j0 b0 d0 g0 h
def bN_l1 (_n:Nat) (a1:UInt8) (c0:ByteArray -> Oa ByteArray):ByteArray -> Oa ByteArray
  | b0=>(if 0 < b0.size then (chk (((b0.size:Nat):Int) - 1)).bind fun d0=>(kB b0 d0).bind fun k0=>(if k0.toNat = a1.toNat then (chk (((b0.size:Nat):Int) - 1)).bind fun g0=>(ki b0 0 g0).bind fun j0=>c0 j0 else some b0) else some b0)
def bN_p (n:Nat) (a0:ByteArray) (a1:UInt8):Oa ByteArray:=
  jn (fun c0=>some c0) (fun b0=>Option.bind (aj (bN_l1 n a1) n a0) (b0))
theorem bN_c (n:Nat) {L w} (_hL:hl L w) {a0:ByteArray} (a1:UInt8)  {r:ByteArray} (h:bN_p n a0 a1 = some r) :
 Cl 210 #[.string a0,.int .u8 (a1.toNat:Int)] w (ae w fun _ u=>u = .string r):=by
 unfold bN_p at h
 have hS0:=AA w
 refine AF func210 I I I fun _ cs0 hb0=>Af<|Ag I<|Aa<|Aj<|Ax<|MX.xo (α:=ByteArray) 0 (fun c0=>[(0,.string c0)]) (fun c0=>[]) (fun c0=>c0) hS0 I h ?_ ?_
 rintro c0 K0 t0 H0 h
 try dsimp only at h
 refine Af<|Ae I<|Ag I<|Aa<|Am I<|AW hb0 func210 I I ?_
 cases h
 exact t0.gv
 intro F0 j0 h
 try dsimp only at h
 obtain ⟨I0,v0,k0⟩:=aq h
 refine MX.lo (α:=ByteArray) (fun b0=>[(0,.string b0),(1,.int .u8 (a1.toNat:Int))]) (fun b0=>[]) (fun b0=>b0) a0 v0 hS0 ?_
 rintro G0 b0 M0 s0 d0 g0 h
 unfold bN_l1 at h
 try dsimp only at h
 refine Aj<|Af<|Ae I<|Ac (BL underlying9 I)<|Ac (FV.gtrN (i:=b0.size) (j:=0) I I)<|Ae I<|BD (s:=8) I h (fun p0 h=>?_) (fun p0 h=>?_)
 refine AG (Ai I)<|AG (Ai I)<|AG (BL underlying9 I)<|bk h fun C0 x0 h=>AG (BQ (i:=((b0.size:Nat):Int)) (j:=1) I I x0)<|bk h fun E0 B0 h=>?_
 obtain ⟨u0,A0⟩:=ep B0
 refine AG (FV.strAt (k:=C0.toNat) underlying9 I I u0 A0)<|AG (Ai I)<|AG (BP (i:=E0.toNat) (j:=a1.toNat) I I)<|Bn I I<|Aa<|AQ I h (fun q0 h=>?_) (fun q0 h=>?_)
 refine Ar<|Ax<|Ap<|Ae I<|Ae I<|Ac (BL underlying9 I)<|bk h fun J0 y0 h=>Ac (BQ (i:=((b0.size:Nat):Int)) (j:=1) I I y0)<|bk h fun D0 z0 h=>Ac (FV.strCut z0 underlying9 I I ⟨_,I⟩)<|Ag I<|Aa<|AC<|s0 D0 d0 g0 h
 refine AX I ?_
 have h:=k0 _ h
 try dsimp only at h
 exact j0 b0 d0 g0 h
 refine Aq<|Aq<|Aq<|Aq<|Aq<|Aq<|Aq<|Bv I I<|Aa<|BF I<|AX I ?_
 have h:=k0 _ h
 try dsimp only at h
 exact j0 b0 d0 g0 h
def aO_l1 (_n:Nat) (g0:List Bool) (c0:ByteArray -> Oa ByteArray):ByteArray -> Oa ByteArray
  | b0=>(if 0 < b0.size then (b0.data[0]?).bind fun j0=>(g0[j0.toNat]?).bind fun k0=>(if k0 = true then (ki b0 1 (b0.size:Int)).bind fun d0=>c0 d0 else some b0) else some b0)
def aO_l2 (_n:Nat) (k0:List Bool) (c0:ByteArray -> Oa ByteArray):ByteArray -> Oa ByteArray
  | b0=>(if 0 < b0.size then (chk (((b0.size:Nat):Int) - 1)).bind fun d0=>(kB b0 d0).bind fun p0=>(k0[p0.toNat]?).bind fun q0=>(if q0 = true then (chk (((b0.size:Nat):Int) - 1)).bind fun g0=>(ki b0 0 g0).bind fun j0=>c0 j0 else some b0) else some b0)
def aO_l3 (_n:Nat) (a1:ByteArray) (g0:Nat × (List Bool) -> Oa (ByteArray ⊕ (List Bool))):Nat × (List Bool) -> Oa (ByteArray ⊕ (List Bool))
  | (b0,c0)=>(if b0 < a1.size then (a1.data[b0]?).bind fun d0=>(if 128 <= d0.toNat then (none).map .inl else (c0[d0.toNat]?).bind fun _z82=>g0 (b0 + 1,(c0.set d0.toNat true))) else some (.inr c0))
def aO_l4 (_n:Nat) (g0:List Bool) (c0:ByteArray -> Oa ByteArray):ByteArray -> Oa ByteArray
  | b0=>(if 0 < b0.size then (b0.data[0]?).bind fun j0=>(g0[j0.toNat]?).bind fun k0=>(if k0 = true then (ki b0 1 (b0.size:Int)).bind fun d0=>c0 d0 else some b0) else some b0)
def aO_l5 (_n:Nat) (k0:List Bool) (c0:ByteArray -> Oa ByteArray):ByteArray -> Oa ByteArray
  | b0=>(if 0 < b0.size then (chk (((b0.size:Nat):Int) - 1)).bind fun d0=>(kB b0 d0).bind fun p0=>(k0[p0.toNat]?).bind fun q0=>(if q0 = true then (chk (((b0.size:Nat):Int) - 1)).bind fun g0=>(ki b0 0 g0).bind fun j0=>c0 j0 else some b0) else some b0)
def aO_l6 (_n:Nat) (a1:ByteArray) (g0:Int × (List Bool) -> Oa (ByteArray ⊕ (List Bool))):Int × (List Bool) -> Oa (ByteArray ⊕ (List Bool))
  | (c0,b0)=>(if c0 < ((a1.size:Nat):Int) then (kB a1 c0).bind fun d0=>(if 128 <= d0.toNat then (none).map .inl else (b0[d0.toNat]?).bind fun _z372=>(chk (c0 + 1)).bind fun j0=>g0 (j0,(b0.set d0.toNat true))) else some (.inr b0))
def aO_p (n:Nat) (a0:ByteArray) (a1:ByteArray):Oa ByteArray:=
  (if a0 = ⟨#[]⟩ then some a0 else (if a1 = ⟨#[]⟩ then some a0 else (if a1.size = 1 then (a1.data[0]?).bind fun z4=>(if z4.toNat < 128 then (a1.data[0]?).bind fun z8=>(bN_p n a0 z8).bind fun y9=>(a1.data[0]?).bind fun v0=>(bX_p n y9 v0).bind fun u0=>some u0 else thn (aj (aO_l3 n a1) n (0,(List.replicate 256 false))) (fun c0=>jn (fun p0=>jn (fun q0=>some q0) (fun g0=>Option.bind (aj (aO_l1 n c0) n p0) (g0))) (fun d0=>Option.bind (aj (aO_l2 n c0) n a0) (d0)))) else thn (aj (aO_l6 n a1) n (0,(List.replicate 256 false))) (fun b0=>jn (fun s0=>jn (fun t0=>some t0) (fun k0=>Option.bind (aj (aO_l4 n b0) n s0) (k0))) (fun j0=>Option.bind (aj (aO_l5 n b0) n a0) (j0))))))
theorem aO_c (n:Nat) {L w} (hL:hl L w) {a0:ByteArray} {a1:ByteArray}  {r:ByteArray} (h:aO_p n a0 a1 = some r) :
 Cl 199 #[.string a0,.string a1] w (ae w fun _ u=>u = .string r):=by
 unfold aO_p at h
 have hS0:=AA w
 refine AF func199 I I I fun _ cs0 hb0=>Af<|Ag I<|Aa<|Aj<|Af<|Ae I<|Ac (FV.eqlS I I)<|Ae I<|BD (s:=9) I h (fun c1 h=>?_) (fun c1 h=>?_)
 refine Aq<|Aq<|Bn I I<|Aa<|Bq I<|Af<|Ae I<|Ag I<|Aa<|Am I<|AW hb0 func199 I I ?_
 cases h
 exact hS0.gv
 refine AG (Ai I)<|AG (FV.eqlS I I)<|Bv I I<|Aa<|AQ I h (fun c2 h=>?_) (fun c2 h=>?_)
 refine Af<|Ae I<|Ag I<|Aa<|Am I<|AW hb0 func199 I I ?_
 cases h
 exact hS0.gv
 refine Ar<|Aj<|Af<|Ae I<|Ac (BL underlying9 I)<|Ac (BP (i:=a1.size) (j:=1) I I)<|Ae I<|BD (s:=17) I h (fun c3 h=>?_) (fun c3 h=>?_)
 refine AG (Ai I)<|bk h fun z4 hz4 h=>AG (FV.strAt (k:=0) underlying9 I I I hz4)<|AG (Bp (i:=z4.toNat) (j:=128) I I)<|Bn I I<|Aa<|AQ I h (fun c5 h=>?_) (fun c5 h=>?_)
 refine Aj<|du 8 fun kt6 kp7=>Rv 0 kt6 I kp7 (fun _=>Ai I)<|Rv 1 kt6 I kp7 (fun _=>Ai I)<|bk h fun z8 hz8 h=>Rv 2 kt6 I kp7 (fun _=>FV.strAt (k:=0) underlying9 I I I hz8)<|bk h fun y9 hy9 h=>BV 3 15 192 (.string y9) kt6 I kp7 (bd 210) I (e2 I I) (fun w9 hw9=>bN_c n (hS0.hL0 hL hw9) z8 hy9) I<|Rv 4 kt6 I kp7 (fun _=>Ai I)<|bk h fun v4 U3 h=>Rv 5 kt6 I kp7 (fun _=>FV.strAt (k:=0) underlying9 I I I U3)<|bk h fun u4 R3 h=>BV 6 127 128 (.string u4) kt6 I kp7 (bd 209) I (e2 I I) (fun w9 hw9=>bX_c n (hS0.hL0 hL hw9) v4 R3) I<|Rv 7 kt6 I kp7 (fun _=>Be I)<|AN (dk kt6)<|Am I<|AW hb0 func199 I I ?_
 cases h
 exact hS0.gv
 refine Ar<|Aj<|Af<|Ae I<|BK (fst:=[]) (cap:=[]) (vs:=[.string a1]) .plain (bd 211) func211 I I I I (e1 I) I fun U4 B1 P5=>Af ?_
 have g3:(List.replicate 256 false).length = 256:=List.length_replicate
 refine RG.nl ((List.replicate 256 false).map (fun z9:Bool=>(.bool z9:Vc))) hS0 fun s6 J0 v2 q5=>Ag I<|Aa<|Aj<|Af<|Ag I<|Aa<|Ax<|tn h fun k6 B3 I1=>MX.lf (α:=Nat × (List Bool)) (fun ⟨p0,c0⟩=>[(0,.string a1),(2,vP J0),(4,vn p0)]) (fun ⟨p0,c0⟩=>[.cells J0 (c0.map (fun z9:Bool=>(.bool z9:Vc))) 258]) (fun ⟨p0,c0⟩ t4=>c0.length = 256) (fun ⟨p0,c0⟩=>(p0,c0)) (0,(List.replicate 256 false)) B3 v2 g3 ?_
 rintro M4 ⟨p0,c0⟩ t4 u2 A0 K2 g0 h
 unfold aO_l3 at h
 try dsimp only at h
 refine Aj<|Af<|Ae I<|Ae I<|Ac (BL underlying9 I)<|Ac (Bp (i:=p0) (j:=a1.size) I I)<|Aa<|AQ I h (fun g2 h=>?_) (fun g2 h=>?_)
 refine Ar<|Aj<|Ax<|Af<|Ae I<|Ae I<|bk h fun E0 b4 h=>Ac (FV.strAt (k:=p0) underlying9 I I I b4)<|Ag I<|Aa<|Aj<|Af<|Ae I<|Ac (FV.geqN (i:=E0.toNat) (j:=128) I I)<|Aa<|AQ I h (fun j2 h=>?_) (fun j2 h=>?_)
 refine Af<|Ac (Bk (cs:=c0.map (fun z9:Bool=>(.bool z9:Vc))) (by rw [List.length_map,g0]; kernel_rfl) I (A0.memA .hd))<|RG.now .plain (Acts.storeBig (fun z9:Bool=>(.bool z9:Vc)) (m:=256) g0 g0 A0 .hd I I I (fun _=>rfl)) fun C6 v1 D5=>Ag I<|Aa ?_
 have h:=iX h I1
 refine Am I<|Au (u:=.tuple #[.agg (c0.map (fun z9:Bool=>(.bool z9:Vc))).toArray,.bool false]) B1 func211 I (.cons (.many (cs:=c0.map (fun z9:Bool=>(.bool z9:Vc))) (by rw [List.length_map,g0]; kernel_rfl) I (v1.memA .hd)) (.cons (.tmp I) .nil)) I<|Ae I<|Ac (Ak I I)<|Ac (Ak I I) ?_
 have s3:(List.replicate 256 false).length = 256:=List.length_replicate
 refine RG.nl ((List.replicate 256 false).map (fun z9:Bool=>(.bool z9:Vc))) v1 fun D6 Q4 F2 E5=>RG.now .plain (Acts.storeBig (fun z9:Bool=>(.bool z9:Vc)) (m:=256) s3 g0 F2 .hd I I I (fun _=>rfl)) fun E6 k5 F5=>Ag I<|Aa<|Af<|Ae I<|Aa<|BF I<|Ar<|Af<|Ae I<|Ae I ?_
 cases h
 refine Ar<|Ap<|Ae I<|bk h fun X6 V0 h=>?_
 have K5:=aK (p:=⟨J0,0,none⟩) (cs:=c0.map (fun z9:Bool=>(.bool z9:Vc))) (i:=E0.toNat) (A0.memA .hd) (cD (fun z9:Bool=>(.bool z9:Vc)) V0)
 refine Ac (AO (m:=1) (k:=E0.toNat) (len:=256) I I I I (aU V0 g0)) ?_
 have t3:(c0.set E0.toNat true).length = 256:=by rw [List.length_set]; exact g0
 refine RG.now .plain (Acts.setBig (fun z9:Bool=>(.bool z9:Vc)) (i:=E0.toNat) (x:=true) (m:=256) g0 (aU V0 g0) A0 .hd I (eO _ _ _) I I (fun _=>⟨I,I⟩)) fun F6 G2 M2=>Aa<|AC<|Ap<|Ae I<|Ac (Bl (i:=p0) (j:=1) I I (by omega))<|Ag I<|Aa<|u2 (p0 + 1,(c0.set E0.toNat true)) G2 (Tt K2 M2) t3 h
 refine AX I ?_
 have h:=aC h I1
 try dsimp only at h
 refine Af<|Ac (Bk (cs:=c0.map (fun z9:Bool=>(.bool z9:Vc))) (by rw [List.length_map,g0]; kernel_rfl) I (A0.memA .hd))<|RG.now .plain (Acts.storeBig (fun z9:Bool=>(.bool z9:Vc)) (m:=256) g0 g0 A0 .hd I I I (fun _=>rfl)) fun G6 x1 G5=>Ag I<|Aa<|Am I<|Au (u:=.tuple #[.agg (c0.map (fun z9:Bool=>(.bool z9:Vc))).toArray,.bool true]) B1 func211 I (.cons (.many (cs:=c0.map (fun z9:Bool=>(.bool z9:Vc))) (by rw [List.length_map,g0]; kernel_rfl) I (x1.memA .hd)) (.cons (.tmp I) .nil)) I<|Ae I<|Ac (Ak I I)<|Ac (Ak I I) ?_
 have u3:(List.replicate 256 false).length = 256:=List.length_replicate
 refine RG.nl ((List.replicate 256 false).map (fun z9:Bool=>(.bool z9:Vc))) x1 fun H6 k0 H2 H5=>RG.now .plain (Acts.storeBig (fun z9:Bool=>(.bool z9:Vc)) (m:=256) u3 g0 H2 .hd I I I (fun _=>rfl)) fun I6 y1 I5=>Ag I<|Aa<|Af<|Ae I<|Aa<|Bq I<|Af<|Ae I<|BK (fst:=[]) (cap:=[]) (vs:=[.string a0,vP k0]) .plain (bd 213) func213 I I I I (e2 I I) I fun R4 P2 M5=>Af<|Ag I<|Aa<|Aj<|Ax<|MX.xo (α:=ByteArray) 0 (fun u0=>[(0,.string u0)]) (fun u0=>[.cells k0 (c0.map (fun z9:Bool=>(.bool z9:Vc))) 258]) (fun u0=>u0) y1 I h ?_ ?_
 rintro u0 J6 k1 p5 h
 try dsimp only at h
 refine Af<|Ae I<|Ag I<|Aa<|Am I<|Au (u:=.string u0) P2 func213 I (.cons (.tmp I) .nil) I<|BK (fst:=[]) (cap:=[]) (vs:=[.string u0,vP k0]) .plain (bd 212) func212 I I I I (e2 I I) I fun V4 Q2 Q5=>Af<|Ag I<|Aa<|Aj<|Ax<|MX.xo (α:=ByteArray) 0 (fun B0=>[(0,.string B0)]) (fun B0=>[.cells k0 (c0.map (fun z9:Bool=>(.bool z9:Vc))) 258]) (fun B0=>B0) k1 I h ?_ ?_
 rintro B0 K6 x2 s5 h
 try dsimp only at h
 refine Af<|Ae I<|Ag I<|Aa<|Am I<|Au (u:=.string B0) Q2 func212 I (.cons (.tmp I) .nil) I<|Ag I<|Aa<|Am I<|AW hb0 func199 I I ?_
 cases h
 exact x2.gv
 intro D4 d1 h
 try dsimp only at h
 obtain ⟨b6,v3,D1⟩:=aq h
 refine MX.lo (α:=ByteArray) (fun v0=>[(0,.string v0),(1,vP k0)]) (fun v0=>[.cells k0 (c0.map (fun z9:Bool=>(.bool z9:Vc))) 258]) (fun v0=>v0) u0 v3 k1 ?_
 rintro E4 v0 M6 k2 F0 M0 h
 unfold aO_l1 at h
 try dsimp only at h
 refine Aj<|Af<|Ae I<|Ac (BL underlying9 I)<|Ac (FV.gtrN (i:=v0.size) (j:=0) I I)<|Aa<|AQ I h (fun Q1 h=>?_) (fun Q1 h=>?_)
 refine Ar<|Ax<|Aj<|Af<|Ae I<|Ae I<|bk h fun W0 V3 h=>Ac (FV.strAt (k:=0) underlying9 I I I V3)<|BK (fst:=[]) (cap:=[]) (vs:=[vP k0,.int .u8 (W0.toNat:Int)]) .plain (bd 219) func219 I I I I (e2 I I) I fun W4 R2 R5=>Af<|Ag I<|Aa<|Af<|Ae I<|Ae I<|Ac (FV.nilCheck I)<|bk h fun x4 J1 h=>Ac (AO (m:=1) (k:=W0.toNat) (len:=256) I I I I (aU J1 g0))<|AR I ((aK (p:=⟨k0,0,none⟩) (cs:=c0.map (fun z9:Bool=>(.bool z9:Vc))) (i:=W0.toNat) (F0.memA .hd) (cD (fun z9:Bool=>(.bool z9:Vc)) J1)) 0 _ I)<|Ag I<|Aa<|Am I<|Au (u:=.bool x4) R2 func219 I (.cons (.tmp I) .nil) I<|Ac (Bu I)<|Aa<|MX.ifnb I h (fun R1 h=>?_) (fun R1 h=>?_)
 refine Ar<|Ap<|Ae I<|bk h fun c4 C3 h=>Ac (FV.strCut C3 underlying9 I ⟨_,I⟩ I)<|Ag I<|Aa<|AC<|k2 c4 F0 M0 h
 refine AX I ?_
 have h:=D1 _ h
 try dsimp only at h
 exact d1 v0 F0 M0 h
 refine AX I ?_
 have h:=D1 _ h
 try dsimp only at h
 exact d1 v0 F0 M0 h
 intro C4 b1 h
 try dsimp only at h
 obtain ⟨y2,z1⟩:=AK y1 (.a0 .done)
 obtain ⟨c6,x3,E1⟩:=aq h
 refine MX.lo (α:=ByteArray) (fun q0=>[(0,.string q0),(1,vP k0)]) (fun q0=>[.cells k0 (c0.map (fun z9:Bool=>(.bool z9:Vc))) 258]) (fun q0=>q0) a0 x3 y2 ?_
 rintro F4 q0 P6 p2 G0 P0 h
 unfold aO_l2 at h
 try dsimp only at h
 refine Aj<|Af<|Ae I<|Ac (BL underlying9 I)<|Ac (FV.gtrN (i:=q0.size) (j:=0) I I)<|Aa<|AQ I h (fun U1 h=>?_) (fun U1 h=>?_)
 refine Ar<|Ax<|Aj<|Af<|Ae I<|Ae I<|Ae I<|Ac (BL underlying9 I)<|bk h fun d4 D3 h=>Ac (BQ (i:=((q0.size:Nat):Int)) (j:=1) I I D3)<|bk h fun X0 W3 h=>?_
 obtain ⟨Z2,M3⟩:=ep W3
 refine Ac (FV.strAt (k:=d4.toNat) underlying9 I I Z2 M3)<|BK (fst:=[]) (cap:=[]) (vs:=[vP k0,.int .u8 (X0.toNat:Int)]) .plain (bd 219) func219 I I I I (e2 I I) I fun X4 U2 U5=>Af<|Ag I<|Aa<|Af<|Ae I<|Ae I<|Ac (FV.nilCheck I)<|bk h fun y4 K1 h=>Ac (AO (m:=1) (k:=X0.toNat) (len:=256) I I I I (aU K1 g0))<|AR I ((aK (p:=⟨k0,0,none⟩) (cs:=c0.map (fun z9:Bool=>(.bool z9:Vc))) (i:=X0.toNat) (G0.memA .hd) (cD (fun z9:Bool=>(.bool z9:Vc)) K1)) 0 _ I)<|Ag I<|Aa<|Am I<|Au (u:=.bool y4) U2 func219 I (.cons (.tmp I) .nil) I<|Ac (Bu I)<|Aa<|MX.ifnb I h (fun V1 h=>?_) (fun V1 h=>?_)
 refine Ar<|Ap<|Ae I<|Ae I<|Ac (BL underlying9 I)<|bk h fun p6 E3 h=>Ac (BQ (i:=((q0.size:Nat):Int)) (j:=1) I I E3)<|bk h fun g4 F3 h=>Ac (FV.strCut F3 underlying9 I I ⟨_,I⟩)<|Ag I<|Aa<|AC<|p2 g4 G0 P0 h
 refine AX I ?_
 have h:=E1 _ h
 try dsimp only at h
 exact b1 q0 G0 (Tt z1 P0) h
 refine AX I ?_
 have h:=E1 _ h
 try dsimp only at h
 exact b1 q0 G0 (Tt z1 P0) h
 refine Aq<|Aq<|Aq<|Bv I I<|Aa<|BF I<|Ar<|Aj<|Af<|Ae I<|BK (fst:=[]) (cap:=[]) (vs:=[.string a1]) .plain (bd 211) func211 I I I I (e1 I) I fun Y4 C1 V5=>Af ?_
 have j3:(List.replicate 256 false).length = 256:=List.length_replicate
 refine RG.nl ((List.replicate 256 false).map (fun z9:Bool=>(.bool z9:Vc))) hS0 fun t6 K0 z2 t5=>Ag I<|Aa<|Aj<|Af<|Ag I<|Aa<|Ax<|tn h fun d6 y3 F1=>MX.lf (α:=Int × (List Bool)) (fun ⟨t0,b0⟩=>[(0,.string a1),(2,vP K0),(4,vI t0)]) (fun ⟨t0,b0⟩=>[.cells K0 (b0.map (fun z9:Bool=>(.bool z9:Vc))) 258]) (fun ⟨t0,b0⟩ s4=>b0.length = 256) (fun ⟨t0,b0⟩=>(t0,b0)) (0,(List.replicate 256 false)) y3 z2 j3 ?_
 rintro G4 ⟨t0,b0⟩ s4 q2 z0 I2 d0 h
 unfold aO_l6 at h
 try dsimp only at h
 refine Aj<|Af<|Ae I<|Ae I<|Ac (BL underlying9 I)<|Ac (BO (i:=t0) (j:=((a1.size:Nat):Int)) I I)<|Aa<|AQ I h (fun W1 h=>?_) (fun W1 h=>?_)
 refine Ar<|Aj<|Ax<|Af<|Ae I<|Ae I<|bk h fun D0 X3 h=>?_
 obtain ⟨b3,P3⟩:=ep X3
 refine Ac (FV.strAt (k:=t0.toNat) underlying9 I I b3 P3)<|Ag I<|Aa<|Aj<|Af<|Ae I<|Ac (FV.geqN (i:=D0.toNat) (j:=128) I I)<|Aa<|AQ I h (fun X1 h=>?_) (fun X1 h=>?_)
 refine Af<|Ac (Bk (cs:=b0.map (fun z9:Bool=>(.bool z9:Vc))) (by rw [List.length_map,d0]; kernel_rfl) I (z0.memA .hd))<|RG.now .plain (Acts.storeBig (fun z9:Bool=>(.bool z9:Vc)) (m:=256) d0 d0 z0 .hd I I I (fun _=>rfl)) fun u6 p1 u5=>Ag I<|Aa ?_
 have h:=iX h F1
 refine Am I<|Au (u:=.tuple #[.agg (b0.map (fun z9:Bool=>(.bool z9:Vc))).toArray,.bool false]) C1 func211 I (.cons (.many (cs:=b0.map (fun z9:Bool=>(.bool z9:Vc))) (by rw [List.length_map,d0]; kernel_rfl) I (p1.memA .hd)) (.cons (.tmp I) .nil)) I<|Ae I<|Ac (Ak I I)<|Ac (Ak I I) ?_
 have k3:(List.replicate 256 false).length = 256:=List.length_replicate
 refine RG.nl ((List.replicate 256 false).map (fun z9:Bool=>(.bool z9:Vc))) p1 fun v6 P4 A2 v5=>RG.now .plain (Acts.storeBig (fun z9:Bool=>(.bool z9:Vc)) (m:=256) k3 d0 A2 .hd I I I (fun _=>rfl)) fun x6 j5 x5=>Ag I<|Aa<|Af<|Ae I<|Aa<|BF I<|Ar<|Af<|Ae I<|Ae I ?_
 cases h
 refine Ar<|Ap<|Ae I<|bk h fun W6 U0 h=>?_
 have J5:=aK (p:=⟨K0,0,none⟩) (cs:=b0.map (fun z9:Bool=>(.bool z9:Vc))) (i:=D0.toNat) (z0.memA .hd) (cD (fun z9:Bool=>(.bool z9:Vc)) U0)
 refine Ac (AO (m:=1) (k:=D0.toNat) (len:=256) I I I I (aU U0 d0)) ?_
 have p3:(b0.set D0.toNat true).length = 256:=by rw [List.length_set]; exact d0
 refine RG.now .plain (Acts.setBig (fun z9:Bool=>(.bool z9:Vc)) (i:=D0.toNat) (x:=true) (m:=256) d0 (aU U0 d0) z0 .hd I (eO _ _ _) I I (fun _=>⟨I,I⟩)) fun y6 B2 J2=>Aa<|AC<|Ap<|Ae I<|bk h fun j4 G3 h=>Ac (Bw (i:=t0) (j:=1) I I G3)<|Ag I<|Aa<|q2 (j4,(b0.set D0.toNat true)) B2 (Tt I2 J2) p3 h
 refine AX I ?_
 have h:=aC h F1
 try dsimp only at h
 refine Af<|Ac (Bk (cs:=b0.map (fun z9:Bool=>(.bool z9:Vc))) (by rw [List.length_map,d0]; kernel_rfl) I (z0.memA .hd))<|RG.now .plain (Acts.storeBig (fun z9:Bool=>(.bool z9:Vc)) (m:=256) d0 d0 z0 .hd I I I (fun _=>rfl)) fun z6 q1 y5=>Ag I<|Aa<|Am I<|Au (u:=.tuple #[.agg (b0.map (fun z9:Bool=>(.bool z9:Vc))).toArray,.bool true]) C1 func211 I (.cons (.many (cs:=b0.map (fun z9:Bool=>(.bool z9:Vc))) (by rw [List.length_map,d0]; kernel_rfl) I (q1.memA .hd)) (.cons (.tmp I) .nil)) I<|Ae I<|Ac (Ak I I)<|Ac (Ak I I) ?_
 have q3:(List.replicate 256 false).length = 256:=List.length_replicate
 refine RG.nl ((List.replicate 256 false).map (fun z9:Bool=>(.bool z9:Vc))) q1 fun A6 j0 C2 z5=>RG.now .plain (Acts.storeBig (fun z9:Bool=>(.bool z9:Vc)) (m:=256) q3 d0 C2 .hd I I I (fun _=>rfl)) fun B6 s1 A5=>Ag I<|Aa<|Af<|Ae I<|Aa<|Bq I<|Af<|Ae I<|BK (fst:=[]) (cap:=[]) (vs:=[.string a0,vP j0]) .plain (bd 213) func213 I I I I (e2 I I) I fun Z4 V2 W5=>Af<|Ag I<|Aa<|Aj<|Ax<|MX.xo (α:=ByteArray) 0 (fun x0=>[(0,.string x0)]) (fun x0=>[.cells j0 (b0.map (fun z9:Bool=>(.bool z9:Vc))) 258]) (fun x0=>x0) s1 I h ?_ ?_
 rintro x0 Q6 u1 B5 h
 try dsimp only at h
 refine Af<|Ae I<|Ag I<|Aa<|Am I<|Au (u:=.string x0) V2 func213 I (.cons (.tmp I) .nil) I<|BK (fst:=[]) (cap:=[]) (vs:=[.string x0,vP j0]) .plain (bd 212) func212 I I I I (e2 I I) I fun b5 W2 X5=>Af<|Ag I<|Aa<|Aj<|Ax<|MX.xo (α:=ByteArray) 0 (fun C0=>[(0,.string C0)]) (fun C0=>[.cells j0 (b0.map (fun z9:Bool=>(.bool z9:Vc))) 258]) (fun C0=>C0) u1 I h ?_ ?_
 rintro C0 R6 D2 C5 h
 try dsimp only at h
 refine Af<|Ae I<|Ag I<|Aa<|Am I<|Au (u:=.string C0) W2 func212 I (.cons (.tmp I) .nil) I<|Ag I<|Aa<|Am I<|AW hb0 func199 I I ?_
 cases h
 exact D2.gv
 intro I4 j1 h
 try dsimp only at h
 obtain ⟨g6,z3,G1⟩:=aq h
 refine MX.lo (α:=ByteArray) (fun y0=>[(0,.string y0),(1,vP j0)]) (fun y0=>[.cells j0 (b0.map (fun z9:Bool=>(.bool z9:Vc))) 258]) (fun y0=>y0) x0 z3 u1 ?_
 rintro J4 y0 U6 s2 H0 Q0 h
 unfold aO_l4 at h
 try dsimp only at h
 refine Aj<|Af<|Ae I<|Ac (BL underlying9 I)<|Ac (FV.gtrN (i:=y0.size) (j:=0) I I)<|Aa<|AQ I h (fun Y1 h=>?_) (fun Y1 h=>?_)
 refine Ar<|Ax<|Aj<|Af<|Ae I<|Ae I<|bk h fun Y0 Y3 h=>Ac (FV.strAt (k:=0) underlying9 I I I Y3)<|BK (fst:=[]) (cap:=[]) (vs:=[vP j0,.int .u8 (Y0.toNat:Int)]) .plain (bd 219) func219 I I I I (e2 I I) I fun d5 X2 Y5=>Af<|Ag I<|Aa<|Af<|Ae I<|Ae I<|Ac (FV.nilCheck I)<|bk h fun A4 M1 h=>Ac (AO (m:=1) (k:=Y0.toNat) (len:=256) I I I I (aU M1 d0))<|AR I ((aK (p:=⟨j0,0,none⟩) (cs:=b0.map (fun z9:Bool=>(.bool z9:Vc))) (i:=Y0.toNat) (H0.memA .hd) (cD (fun z9:Bool=>(.bool z9:Vc)) M1)) 0 _ I)<|Ag I<|Aa<|Am I<|Au (u:=.bool A4) X2 func219 I (.cons (.tmp I) .nil) I<|Ac (Bu I)<|Aa<|MX.ifnb I h (fun Z1 h=>?_) (fun Z1 h=>?_)
 refine Ar<|Ap<|Ae I<|bk h fun k4 H3 h=>Ac (FV.strCut H3 underlying9 I ⟨_,I⟩ I)<|Ag I<|Aa<|AC<|s2 k4 H0 Q0 h
 refine AX I ?_
 have h:=G1 _ h
 try dsimp only at h
 exact j1 y0 H0 Q0 h
 refine AX I ?_
 have h:=G1 _ h
 try dsimp only at h
 exact j1 y0 H0 Q0 h
 intro H4 g1 h
 try dsimp only at h
 obtain ⟨E2,A1⟩:=AK s1 (.a0 .done)
 obtain ⟨j6,A3,H1⟩:=aq h
 refine MX.lo (α:=ByteArray) (fun s0=>[(0,.string s0),(1,vP j0)]) (fun s0=>[.cells j0 (b0.map (fun z9:Bool=>(.bool z9:Vc))) 258]) (fun s0=>s0) a0 A3 E2 ?_
 rintro K4 s0 V6 t2 I0 R0 h
 unfold aO_l5 at h
 try dsimp only at h
 refine Aj<|Af<|Ae I<|Ac (BL underlying9 I)<|Ac (FV.gtrN (i:=s0.size) (j:=0) I I)<|Aa<|AQ I h (fun b2 h=>?_) (fun b2 h=>?_)
 refine Ar<|Ax<|Aj<|Af<|Ae I<|Ae I<|Ae I<|Ac (BL underlying9 I)<|bk h fun p4 I3 h=>Ac (BQ (i:=((s0.size:Nat):Int)) (j:=1) I I I3)<|bk h fun Z0 Z3 h=>?_
 obtain ⟨d3,Q3⟩:=ep Z3
 refine Ac (FV.strAt (k:=p4.toNat) underlying9 I I d3 Q3)<|BK (fst:=[]) (cap:=[]) (vs:=[vP j0,.int .u8 (Z0.toNat:Int)]) .plain (bd 219) func219 I I I I (e2 I I) I fun g5 Y2 Z5=>Af<|Ag I<|Aa<|Af<|Ae I<|Ae I<|Ac (FV.nilCheck I)<|bk h fun B4 P1 h=>Ac (AO (m:=1) (k:=Z0.toNat) (len:=256) I I I I (aU P1 d0))<|AR I ((aK (p:=⟨j0,0,none⟩) (cs:=b0.map (fun z9:Bool=>(.bool z9:Vc))) (i:=Z0.toNat) (I0.memA .hd) (cD (fun z9:Bool=>(.bool z9:Vc)) P1)) 0 _ I)<|Ag I<|Aa<|Am I<|Au (u:=.bool B4) Y2 func219 I (.cons (.tmp I) .nil) I<|Ac (Bu I)<|Aa<|MX.ifnb I h (fun d2 h=>?_) (fun d2 h=>?_)
 refine Ar<|Ap<|Ae I<|Ae I<|Ac (BL underlying9 I)<|bk h fun q6 J3 h=>Ac (BQ (i:=((s0.size:Nat):Int)) (j:=1) I I J3)<|bk h fun q4 K3 h=>Ac (FV.strCut K3 underlying9 I I ⟨_,I⟩)<|Ag I<|Aa<|AC<|t2 q4 I0 R0 h
 refine AX I ?_
 have h:=H1 _ h
 try dsimp only at h
 exact g1 s0 I0 (Tt A1 R0) h
 refine AX I ?_
 have h:=H1 _ h
 try dsimp only at h
 exact g1 s0 I0 (Tt A1 R0) h
def dI_p (_n:Nat) (a0:Int) (a1:Int):Oa Bool:=
  (if a0 < 0 then some true else some (decide (a1 < a0)))
theorem dI_c (n:Nat) {L w} (_hL:hl L w) {a0:Int} {a1:Int} {p1:Nat} (m1:∀ j9 v9,([vI a1]:List Vc)[j9]? = some v9 -> w.cell? ((⟨p1,0,none⟩:Addr).add j9) = some v9)  {r:Bool} (h:dI_p n a0 a1 = some r) :
 Cl 217 #[vI a0,.pointer (some ⟨p1,0,none⟩)] w (ae w fun _ u=>u = .bool r):=by
 unfold dI_p at h
 have hS0:=AA w
 refine AF func217 I I I fun _ cs0 hb0=>Af<|Ag I<|Aa<|Af<|Ae I<|Ac (BO (i:=a0) (j:=0) I I)<|Ae I<|BD (s:=6) I h (fun c1 h=>?_) (fun c1 h=>?_)
 refine Aq<|Aq<|Aq<|Bn I I<|Ag I<|Aa<|Am I<|AW hb0 func217 I I ?_
 cases h
 exact hS0.gv
 refine AG (Ai I)<|AG (AP I ((fun j9 v9 h9=>hS0.ag.cell0 (m1 j9 v9 h9)) 0 _ I))<|AG (FV.gtr (i:=a0) (j:=a1) I I)<|Bv I I<|Ag I<|Aa<|Am I<|AW hb0 func217 I I ?_
 cases h
 exact hS0.gv
def bz_l1 (n:Nat) (a0:List Int) (a2:Int) (c0:Nat -> Oa (Bool ⊕ Unit)):Nat -> Oa (Bool ⊕ Unit)
  | b0=>(if b0 < a0.length then (a0[b0]?).bind fun d0=>(dI_p n d0 a2).bind fun g0=>(if g0 = true then some (.inl (!(decide (0 <= b0)))) else c0 (b0 + 1)) else some (.inr ()))
def bz_p (n:Nat) (a0:List Int) (a1:Int) (a2:Int):Oa Bool:=
  (if ((a0.length:Nat):Int) = a1 then thn (aj (bz_l1 n a0 a2) n 0) (fun _=>some (!(decide (0 <= (-1))))) else some false)
theorem bz_c (n:Nat) {L w} (hL:hl L w) {a0:List Int} {v0_0:Vc} (h0_0:Rep.R w L [v0_0] a0) {a1:Int} {a2:Int}  {r:Bool} (h:bz_p n a0 a1 a2 = some r) :
 Cl 200 #[v0_0,vI a1,vI a2] w (ae w fun _ u=>u = .bool r):=by
 unfold bz_p at h
 refine AF func200 I I I fun _ cs0 hb0=>Af<|RG.bx (AA w) I I fun Y0 c0 g0 R0=>Ag I<|Aa<|Af<|Ae I ?_
 have j0:=AT h0_0 g0
 have U0:=AU j0
 refine Ac (Ba (xs:=a0) underlying38 I j0)<|Ae I<|Ac (FV.eql (i:=((a0.length:Nat):Int)) (j:=a1) I I)<|Ae I<|BD (s:=11) I h (fun s0 h=>?_) (fun s0 h=>?_)
 refine AG (Ai I)<|AG (BX (vs:=[]) (us:=[vP c0]) ak (e1 I))<|BK (fst:=[]) (cap:=[]) (vs:=[v0_0,.func (.func 217) #[] #[vP c0]]) (.yes I I) (bd 216) func216 I I I I (e2 I I) I fun P0 k0 V0=>Af<|Ag I<|Aa<|Af<|Ae I<|Ae I<|BK (fst:=[]) (cap:=[]) (vs:=[v0_0,.func (.func 217) #[] #[vP c0]]) .plain (bd 223) func223 I I I I (e2 I I) I fun Q0 p0 W0=>Af<|Ag I<|Aa<|Aj<|Af<|Ae I<|Ac (Ba (xs:=a0) underlying38 I j0)<|Ae I<|Aa<|Ax<|tn h fun X0 D0 q0=>MX.lo (α:=Nat) (fun b0=>[(0,v0_0),(1,.func (.func 217) #[] #[vP c0]),(7,vn a0.length),(8,vn b0)]) (fun b0=>[.cells c0 [vI a2] 3]) (fun b0=>b0) 0 D0 g0 ?_
 rintro K0 b0 Z0 x0 d0 y0 h
 unfold bz_l1 at h
 try dsimp only at h
 refine Af<|Ac (Bp (i:=b0) (j:=a0.length) I I)<|Aa<|Aj<|AQ I h (fun t0 h=>?_) (fun t0 h=>?_)
 refine Ar<|Aj<|Ax<|Af<|Ae I<|Ag I<|Aa<|Af<|Ae I<|Ae I<|Ae I<|bk h fun H0 F0 h=>?_
 obtain ⟨J0,M0,z0,B0,v0,E0,C0⟩:=Bh (AT h0_0 d0) F0
 have A0:v0 = [vI H0]:=E0; subst A0
 refine Ac (Bb 1 b0 I z0 I I B0)<|AR I (C0 0 _ I)<|bk h fun I0 G0 h=>RG.callq' (v:=.bool I0) (fst:=[]) (cap:=[vP c0]) .plain (bd 217) I (e1 I) (fun w9 hw9=>dI_c n (d0.hL0 hL hw9) (am hw9 (d0.memA .hd)) G0) I<|Aa<|MX.ifb I h (fun u0 h=>?_) (fun u0 h=>?_)
 refine Af<|Ae I<|Ag I<|Aa ?_
 have h:=au h q0
 refine Am I<|Au (u:=vn b0) p0 func223 I (.cons (.tmp I) .nil) I<|Ac (FV.geqN (i:=b0) (j:=0) I I)<|Ag I<|Aa<|Am I<|Au (u:=.bool (decide (0 <= b0))) k0 func216 I (.cons (.tmp I) .nil) I<|AG (Bu I)<|Bn I I<|Ag I<|Aa<|Am I<|AW hb0 func200 I I ?_
 cases h
 exact d0.gv
 refine Ar<|AC<|Ap<|Ac (Bl (i:=b0) (j:=1) I I (by omega))<|Ae I<|Aa<|x0 (b0 + 1) d0 y0 h
 refine AX I ?_
 have h:=aC h q0
 try dsimp only at h
 refine Af<|Ag I<|Aa<|Am I<|Au (u:=vI (-1)) p0 func223 I (.cons (.tmp I) .nil) I<|Ac (FV.geq (i:=(-1)) (j:=0) I I)<|Ag I<|Aa<|Am I<|Au (u:=.bool (decide (0 <= (-1)))) k0 func216 I (.cons (.tmp I) .nil) I<|AG (Bu I)<|Bn I I<|Ag I<|Aa<|Am I<|AW hb0 func200 I I ?_
 cases h
 exact d0.gv
 refine Aq<|Aq<|Aq<|Aq<|Bv I I<|Ag I<|Aa<|Am I<|AW hb0 func200 I I ?_
 cases h
 exact g0.gv
structure Tc where
  fx:ByteArray
  fw:Int
  fh:List Int
  fE:List Int
  fC:List Int
  fu:Bool
  deriving DecidableEq
instance:Rep Tc:=Rep.via (β:=ByteArray × Int × (List Int) × (List Int) × (List Int) × Bool) fun x=>(x.fx,x.fw,x.fh,x.fE,x.fC,x.fu)
structure Te where
  fh:Int
  fc:Int
  fj:Int
  ft:List Tc
  deriving DecidableEq
instance:Rep Te:=Rep.via (β:=Int × Int × Int × (List Tc)) fun x=>(x.fh,x.fc,x.fj,x.ft)
theorem gz:ElT Tryz.prog 214 4 (Rep.size Bool) 1 (.bool false) [.bool false]:=⟨underlying214,by kernel_rfl,rfl,rfl,rfl,rfl⟩
def dM_p (n:Nat) (a0:Te) (a1:Tc):Oa Bool:=
  jn (fun (c0,d0)=>(aO_p n a1.fx ⟨#[65,66,67,68,69,70,71,72,73,74,75,76,77,78,79,80,81,82,83,84,85,86,87,88,89,90,97,98,99,100,101,102,103,104,105,106,107,108,109,110,111,112,113,114,115,116,117,118,119,120,121,122,48,49,50,51,52,53,54,55,56,57,45,95]⟩).bind fun g0=>(bz_p n a1.fh a0.fh a1.fw).bind fun j0=>(bz_p n a1.fE a0.fc ((c0:Nat):Int)).bind fun k0=>(bz_p n a1.fC a0.fj ((d0:Nat):Int)).bind fun p0=>(bA_p n ([(!(decide (a1.fx = ⟨#[]⟩))),(decide (a1.fx.size <= 12)),(decide (g0 = ⟨#[]⟩)),(decide (0 <= a1.fw)),(decide (a1.fw <= ((c0:Nat):Int))),j0,k0,p0]:List Bool)).bind fun q0=>some q0) (fun b0=>(if a1.fu = true then b0 (0,0) else b0 (1000000000,63)))
theorem dM_c (n:Nat) {L w} (hL:hl L w) (a0:Te) {v0_3:Vc} (_h0_3:Rep.R w L [v0_3] a0.ft) (a1:Tc) {v1_2:Vc} (h1_2:Rep.R w L [v1_2] a1.fh) {v1_3:Vc} (h1_3:Rep.R w L [v1_3] a1.fE) {v1_4:Vc} (h1_4:Rep.R w L [v1_4] a1.fC)  {r:Bool} (h:dM_p n a0 a1 = some r) :
 Cl 186 #[.agg #[vI a0.fh,vI a0.fc,vI a0.fj,v0_3],.agg #[.string a1.fx,vI a1.fw,v1_2,v1_3,v1_4,.bool a1.fu]] w (ae w fun _ u=>u = .bool r):=by
 unfold dM_p at h
 refine AF func186 I I I fun _ cs0 hb0=>Af<|RG.bx (AA w) I I fun R0 x0 B0 K0=>RG.bx B0 I I fun U0 y0 u0 M0=>Ag I<|Aa<|Af<|Ag I<|Ag I<|Aa<|Aj<|Af<|Bd 5 I<|AR I ((u0.memA .hd) 5 _ I)<|Aa<|MX.jo (α:=Nat × Nat) (fun ⟨g0,t0⟩=>[(2,vP x0),(3,vP y0),(5,vn g0),(6,vn t0)]) (fun ⟨g0,t0⟩=>[.cells y0 [.string a1.fx,vI a1.fw,v1_2,v1_3,v1_4,.bool a1.fu] 99,.cells x0 [vI a0.fh,vI a0.fc,vI a0.fj,v0_3] 37]) (fun ⟨g0,t0⟩=>(g0,t0)) u0 h ?_ ?_
 rintro ⟨g0,t0⟩ W0 d0 P0 h
 try dsimp only at h
 refine Aj<|du 40 fun b0 c0=>Rv 0 b0 I c0 (fun _=>Bi 0 I)<|Rx 1 962072674308 b0 I c0 (AP I ((d0.memA .hd) 0 _ I))<|Rv 2 b0 I c0 (fun _=>FV.neqS I I)<|Rv 3 b0 I c0 (fun _=>Bi 0 I)<|Rx 4 962072674400 b0 I c0 (AP I ((d0.memA .hd) 0 _ I))<|Rx 5 962072674368 b0 I c0 (BL underlying9 I)<|Rv 6 b0 I c0 (fun _=>FV.leqN (i:=a1.fx.size) (j:=12) I I)<|Rv 7 b0 I c0 (fun _=>Bi 0 I)<|Rx 8 1031882671616 b0 I c0 (AP I ((d0.memA .hd) 0 _ I))<|bk h fun s0 C0 h=>BV 9 1023 1031882671104 (.string s0) b0 I c0 (bd 199) I (e2 I I) (fun w9 hw9=>aO_c n (d0.hL0 hL hw9)  C0) I<|Rv 10 b0 I c0 (fun _=>FV.eqlS I I)<|Rv 11 b0 I c0 (fun _=>Bi 1 I)<|Rx 12 962072682496 b0 I c0 (AP I ((d0.memA .hd) 1 _ I))<|Rv 13 b0 I c0 (fun _=>FV.geq (i:=a1.fw) (j:=0) I I)<|Rv 14 b0 I c0 (fun _=>Bi 1 I)<|Rx 15 962072805376 b0 I c0 (AP I ((d0.memA .hd) 1 _ I))<|Rv 16 b0 I c0 (fun _=>Ai I)<|Rv 17 b0 I c0 (fun _=>FV.leq (i:=a1.fw) (j:=((g0:Nat):Int)) I I)<|Rv 18 b0 I c0 (fun _=>Bi 2 I)<|Rx 19 1031882670080 b0 I c0 (AP I ((d0.memA .hd) 2 _ I))<|Rv 20 b0 I c0 (fun _=>Bi 0 I)<|Rx 21 1031882670080 b0 I c0 (AP I ((d0.memA .t1) 0 _ I))<|Rv 22 b0 I c0 (fun _=>Bi 1 I)<|Rx 23 1031882670080 b0 I c0 (AP I ((d0.memA .hd) 1 _ I))<|bk h fun q0 D0 h=>BV 24 33554431 1031865892864 (.bool q0) b0 I c0 (bd 200) I (e3 I I I) (fun w9 hw9=>bz_c n (d0.hL0 hL hw9) (d0.k0 h1_2 hw9) D0) I<|Rv 25 b0 I c0 (fun _=>Bi 3 I)<|Rx 26 1031865892864 b0 I c0 (AP I ((d0.memA .hd) 3 _ I))<|Rv 27 b0 I c0 (fun _=>Bi 1 I)<|Rx 28 1031865892864 b0 I c0 (AP I ((d0.memA .t1) 1 _ I))<|Rv 29 b0 I c0 (fun _=>Ai I)<|bk h fun p0 E0 h=>BV 30 2147483647 1030792151040 (.bool p0) b0 I c0 (bd 200) I (e3 I I I) (fun w9 hw9=>bz_c n (d0.hL0 hL hw9) (d0.k0 h1_3 hw9) E0) I<|Rv 31 b0 I c0 (fun _=>Bi 4 I)<|Rx 32 1030792151040 b0 I c0 (AP I ((d0.memA .hd) 4 _ I))<|Rv 33 b0 I c0 (fun _=>Bi 2 I)<|Rx 34 1030792151040 b0 I c0 (AP I ((d0.memA .t1) 2 _ I))<|Rv 35 b0 I c0 (fun _=>Ai I)<|bk h fun j0 F0 h=>BV 36 137438953471 962072674304 (.bool j0) b0 I c0 (bd 200) I (e3 I I I) (fun w9 hw9=>bz_c n (d0.hL0 hL hw9) (d0.k0 h1_4 hw9) F0) I<|BS 37 274877906943 b0 I .plain I (AL (α:=Bool) (xs:=([(!(decide (a1.fx = ⟨#[]⟩))),(decide (a1.fx.size <= 12)),(decide (s0 = ⟨#[]⟩)),(decide (0 <= a1.fw)),(decide (a1.fw <= ((g0:Nat):Int))),q0,p0,j0]:List Bool)) (vs:=[.bool (!(decide (a1.fx = ⟨#[]⟩))),.bool (decide (a1.fx.size <= 12)),.bool (decide (s0 = ⟨#[]⟩)),.bool (decide (0 <= a1.fw)),.bool (decide (a1.fw <= ((g0:Nat):Int))),.bool q0,.bool p0,.bool j0]) (ds' :=[.bool (!(decide (a1.fx = ⟨#[]⟩))),.bool (decide (a1.fx.size <= 12)),.bool (decide (s0 = ⟨#[]⟩)),.bool (decide (0 <= a1.fw)),.bool (decide (a1.fw <= ((g0:Nat):Int))),.bool q0,.bool p0,.bool j0]) I d0 gz I (e8 I I I I I I I I) (by kernel_rfl) I) fun V0 J0 v0 Q0=>?_
 refine bk h fun H0 G0 h=>BV 38 549755813887 549755813888 (.bool H0) b0 I c0 (bd 185) I (e1 I) (fun w9 hw9=>bA_c n (v0.hL0 hL hw9) (Aw (St.lend (α:=Bool) (L:=L) v0 .hd (AD (cs:=[.bool (!(decide (a1.fx = ⟨#[]⟩))),.bool (decide (a1.fx.size <= 12)),.bool (decide (s0 = ⟨#[]⟩)),.bool (decide (0 <= a1.fw)),.bool (decide (a1.fw <= ((g0:Nat):Int))),.bool q0,.bool p0,.bool j0]) (xs:=(([(!(decide (a1.fx = ⟨#[]⟩))),(decide (a1.fx.size <= 12)),(decide (s0 = ⟨#[]⟩)),(decide (0 <= a1.fw)),(decide (a1.fw <= ((g0:Nat):Int))),q0,p0,j0]:List Bool):List Bool)) v0 L (Av (cs:=[.bool (!(decide (a1.fx = ⟨#[]⟩)))]) (ds:=[.bool (decide (a1.fx.size <= 12)),.bool (decide (s0 = ⟨#[]⟩)),.bool (decide (0 <= a1.fw)),.bool (decide (a1.fw <= ((g0:Nat):Int))),.bool q0,.bool p0,.bool j0]) I (Av (cs:=[.bool (decide (a1.fx.size <= 12))]) (ds:=[.bool (decide (s0 = ⟨#[]⟩)),.bool (decide (0 <= a1.fw)),.bool (decide (a1.fw <= ((g0:Nat):Int))),.bool q0,.bool p0,.bool j0]) I (Av (cs:=[.bool (decide (s0 = ⟨#[]⟩))]) (ds:=[.bool (decide (0 <= a1.fw)),.bool (decide (a1.fw <= ((g0:Nat):Int))),.bool q0,.bool p0,.bool j0]) I (Av (cs:=[.bool (decide (0 <= a1.fw))]) (ds:=[.bool (decide (a1.fw <= ((g0:Nat):Int))),.bool q0,.bool p0,.bool j0]) I (Av (cs:=[.bool (decide (a1.fw <= ((g0:Nat):Int)))]) (ds:=[.bool q0,.bool p0,.bool j0]) I (Av (cs:=[.bool q0]) (ds:=[.bool p0,.bool j0]) I (Av (cs:=[.bool p0]) (ds:=[.bool j0]) I (Av (cs:=[.bool j0]) (ds:=[]) I (AJ _ _)))))))))) hL) hw9) G0) I<|Rv 39 b0 I c0 (fun _=>Be I)<|AN (dk b0)<|Am I<|AW hb0 func186 I I ?_
 cases h
 exact v0.gv
 intro I0 z0 h
 try dsimp only at h
 refine MX.ifb I h (fun A0 h=>?_) (fun A0 h=>?_)
 refine Ap<|Ag I<|Ag I<|Aa<|z0 (0,0) u0 (Bx _ _) h
 refine Ar<|z0 (1000000000,63) u0 (Bx _ _) h
theorem bm {w:World} {L:List Nat} {cs:List Vc} {x:Tc} (h:Rep.R w L cs x):∃ v2 v3 v4:Vc,cs = [.string x.fx,vI x.fw,v2,v3,v4,.bool x.fu]/\Rep.R w L [v2] x.fh/\Rep.R w L [v3] x.fE/\Rep.R w L [v4] x.fC:=by
  obtain ⟨c0,r0,rfl,h0,h⟩:=h
  have e0:c0 = [.string x.fx]:=h0; subst e0
  obtain ⟨c1,r1,rfl,h1,h⟩:=h
  have e1:c1 = [vI x.fw]:=h1; subst e1
  obtain ⟨c2,r2,rfl,h2,h⟩:=h
  obtain ⟨v2,rfl,kv2⟩:=bB (xs:=x.fh) h2
  obtain ⟨c3,r3,rfl,h3,h⟩:=h
  obtain ⟨v3,rfl,kv3⟩:=bB (xs:=x.fE) h3
  obtain ⟨c4,r4,rfl,h4,h⟩:=h
  obtain ⟨v4,rfl,kv4⟩:=bB (xs:=x.fC) h4
  have e5:r4 = [.bool x.fu]:=h; subst e5
  exact ⟨v2,v3,v4,I,kv2,kv3,kv4⟩
theorem ea {w:World} {L:List Nat} (a0:ByteArray) (a1:Int) (a2:List Int) {u2:Vc} (h2:Rep.R w L [u2] a2) (a3:List Int) {u3:Vc} (h3:Rep.R w L [u3] a3) (a4:List Int) {u4:Vc} (h4:Rep.R w L [u4] a4) (a5:Bool):Rep.R w L [.string a0,vI a1,u2,u3,u4,.bool a5] (⟨a0,a1,a2,a3,a4,a5⟩:Tc):=⟨[.string a0],[vI a1,u2,u3,u4,.bool a5],rfl,rfl,⟨[vI a1],[u2,u3,u4,.bool a5],rfl,rfl,⟨[u2],[u3,u4,.bool a5],rfl,h2,⟨[u3],[u4,.bool a5],rfl,h3,⟨[u4],[.bool a5],rfl,h4,rfl⟩⟩⟩⟩⟩
def bP_l1 (n:Nat) (a0:Te) (g0:Bool × Nat × (List (ByteArray × Bool)) -> Oa (Int ⊕ Unit)):Bool × Nat × (List (ByteArray × Bool)) -> Oa (Int ⊕ Unit)
  | (k0,d0,c0)=>(if d0 < a0.ft.length then (a0.ft[d0]?).bind fun b0=>(dM_p n a0 b0).bind fun j0=>(if b0.fu = true then (if 0 < d0 then (bA_p n ([j0,(!(aH c0 b0.fx false)),true,true]:List Bool)).bind fun p0=>(if p0 = true then g0 (b0.fu,d0 + 1,bz c0 b0.fx true) else some (.inl (161:Int))) else (bA_p n ([j0,(!(aH c0 b0.fx false)),true,(!b0.fu)]:List Bool)).bind fun q0=>(if q0 = true then g0 (b0.fu,d0 + 1,bz c0 b0.fx true) else some (.inl (161:Int)))) else (if 0 < d0 then (bA_p n ([j0,(!(aH c0 b0.fx false)),(!k0),true]:List Bool)).bind fun s0=>(if s0 = true then g0 (b0.fu,d0 + 1,bz c0 b0.fx true) else some (.inl (161:Int))) else (bA_p n ([j0,(!(aH c0 b0.fx false)),(!k0),(!b0.fu)]:List Bool)).bind fun t0=>(if t0 = true then g0 (b0.fu,d0 + 1,bz c0 b0.fx true) else some (.inl (161:Int))))) else some (.inr ()))
def bP_p (n:Nat) (a0:Te):Oa Int:=
  (bA_p n ([(decide (0 <= a0.fh)),(decide (a0.fh <= 6)),(decide (0 <= a0.fc)),(decide (a0.fc <= 12)),(decide (0 <= a0.fj)),(decide (a0.fj <= 3)),(decide (0 < a0.ft.length)),(decide (a0.ft.length <= 64))]:List Bool)).bind fun b0=>(if b0 = true then thn (aj (bP_l1 n a0) n (false,0,([]:List (ByteArray × Bool)))) (fun _=>some (0:Int)) else some (161:Int))
theorem bP_c (n:Nat) {L w} (hL:hl L w) (a0:Te) {v0_3:Vc} (h0_3:Rep.R w L [v0_3] a0.ft)  {r:Int} (h:bP_p n a0 = some r) :
 Cl 155 #[.agg #[vI a0.fh,vI a0.fc,vI a0.fj,v0_3]] w (ae w fun _ u=>u = vI r):=by
 unfold bP_p at h
 refine AF func155 I I I fun _ cs0 hb0=>Af<|RG.bx (AA w) I I fun P2 H0 u0 G2=>Ag I<|Aa<|Af<|Bd 3 I<|AR I ((u0.memA .hd) 3 _ I) ?_
 have Q0:=AT h0_3 u0
 have K2:=AU Q0
 refine Ac (Ba (xs:=a0.ft) underlying35 I Q0)<|Ag I<|Aa<|Aj<|Af<|Bd 0 I<|AR I ((u0.memA .hd) 0 _ I)<|Ac (FV.geq (i:=a0.fh) (j:=0) I I)<|Bd 0 I<|AR I ((u0.memA .hd) 0 _ I)<|Ac (FV.leq (i:=a0.fh) (j:=6) I I)<|Bd 1 I<|AR I ((u0.memA .hd) 1 _ I)<|Ac (FV.geq (i:=a0.fc) (j:=0) I I)<|Bd 1 I<|AR I ((u0.memA .hd) 1 _ I)<|Ac (FV.leq (i:=a0.fc) (j:=12) I I)<|Bd 2 I<|AR I ((u0.memA .hd) 2 _ I)<|Ac (FV.geq (i:=a0.fj) (j:=0) I I)<|Bd 2 I<|AR I ((u0.memA .hd) 2 _ I)<|Ac (FV.leq (i:=a0.fj) (j:=3) I I)<|Ae I<|Ac (FV.gtrN (i:=a0.ft.length) (j:=0) I I)<|Ae I<|Ac (FV.leqN (i:=a0.ft.length) (j:=64) I I)<|Al .plain I (AL (α:=Bool) (xs:=([(decide (0 <= a0.fh)),(decide (a0.fh <= 6)),(decide (0 <= a0.fc)),(decide (a0.fc <= 12)),(decide (0 <= a0.fj)),(decide (a0.fj <= 3)),(decide (0 < a0.ft.length)),(decide (a0.ft.length <= 64))]:List Bool)) (vs:=[.bool (decide (0 <= a0.fh)),.bool (decide (a0.fh <= 6)),.bool (decide (0 <= a0.fc)),.bool (decide (a0.fc <= 12)),.bool (decide (0 <= a0.fj)),.bool (decide (a0.fj <= 3)),.bool (decide (0 < a0.ft.length)),.bool (decide (a0.ft.length <= 64))]) (ds' :=[.bool (decide (0 <= a0.fh)),.bool (decide (a0.fh <= 6)),.bool (decide (0 <= a0.fc)),.bool (decide (a0.fc <= 12)),.bool (decide (0 <= a0.fj)),.bool (decide (a0.fj <= 3)),.bool (decide (0 < a0.ft.length)),.bool (decide (a0.ft.length <= 64))]) I u0 gz I (e8 I I I I I I I I) (by kernel_rfl) I) fun Q2 y2 B0 H2=>bk h fun k2 V1 h=>Bj (.bool k2) (bd 185) I (e1 I) (fun w9 hw9=>bA_c n (B0.hL0 hL hw9) (Aw (St.lend (α:=Bool) (L:=L) B0 .hd (AD (cs:=[.bool (decide (0 <= a0.fh)),.bool (decide (a0.fh <= 6)),.bool (decide (0 <= a0.fc)),.bool (decide (a0.fc <= 12)),.bool (decide (0 <= a0.fj)),.bool (decide (a0.fj <= 3)),.bool (decide (0 < a0.ft.length)),.bool (decide (a0.ft.length <= 64))]) (xs:=(([(decide (0 <= a0.fh)),(decide (a0.fh <= 6)),(decide (0 <= a0.fc)),(decide (a0.fc <= 12)),(decide (0 <= a0.fj)),(decide (a0.fj <= 3)),(decide (0 < a0.ft.length)),(decide (a0.ft.length <= 64))]:List Bool):List Bool)) B0 L (Av (cs:=[.bool (decide (0 <= a0.fh))]) (ds:=[.bool (decide (a0.fh <= 6)),.bool (decide (0 <= a0.fc)),.bool (decide (a0.fc <= 12)),.bool (decide (0 <= a0.fj)),.bool (decide (a0.fj <= 3)),.bool (decide (0 < a0.ft.length)),.bool (decide (a0.ft.length <= 64))]) I (Av (cs:=[.bool (decide (a0.fh <= 6))]) (ds:=[.bool (decide (0 <= a0.fc)),.bool (decide (a0.fc <= 12)),.bool (decide (0 <= a0.fj)),.bool (decide (a0.fj <= 3)),.bool (decide (0 < a0.ft.length)),.bool (decide (a0.ft.length <= 64))]) I (Av (cs:=[.bool (decide (0 <= a0.fc))]) (ds:=[.bool (decide (a0.fc <= 12)),.bool (decide (0 <= a0.fj)),.bool (decide (a0.fj <= 3)),.bool (decide (0 < a0.ft.length)),.bool (decide (a0.ft.length <= 64))]) I (Av (cs:=[.bool (decide (a0.fc <= 12))]) (ds:=[.bool (decide (0 <= a0.fj)),.bool (decide (a0.fj <= 3)),.bool (decide (0 < a0.ft.length)),.bool (decide (a0.ft.length <= 64))]) I (Av (cs:=[.bool (decide (0 <= a0.fj))]) (ds:=[.bool (decide (a0.fj <= 3)),.bool (decide (0 < a0.ft.length)),.bool (decide (a0.ft.length <= 64))]) I (Av (cs:=[.bool (decide (a0.fj <= 3))]) (ds:=[.bool (decide (0 < a0.ft.length)),.bool (decide (a0.ft.length <= 64))]) I (Av (cs:=[.bool (decide (0 < a0.ft.length))]) (ds:=[.bool (decide (a0.ft.length <= 64))]) I (Av (cs:=[.bool (decide (a0.ft.length <= 64))]) (ds:=[]) I (AJ _ _)))))))))) hL) hw9) V1) I<|Ac (Bu I)<|Aa<|MX.ifnb I h (fun X0 h=>?_) (fun X0 h=>?_)
 refine Ar<|Af<|Al .plain I (Does.makeMap (κ:=ByteArray) (ν:=Bool) B0) fun X2 I0 G0 J2=>Ag I<|Aa<|Af<|Ag I<|Aa<|Aj<|Af<|Bd 3 I<|AR I ((G0.memA .t2) 3 _ I)<|Ac (Ba (xs:=a0.ft) underlying35 I (AT h0_3 G0))<|Ae I<|Aa<|Ax ?_
 obtain ⟨p1,I2⟩:=AK G0 (.a0 .d1)
 refine tn h fun M2 Q1 C0=>MX.lo (α:=Bool × Nat × (List (ByteArray × Bool))) (fun ⟨p0,q0,g0⟩=>[(1,vP H0),(4,.map (some I0)),(5,.bool p0),(38,v0_3),(39,vn a0.ft.length),(40,vn q0)]) (fun ⟨p0,q0,g0⟩=>[.obj I0 (cy (g0:List (ByteArray × Bool))),.cells H0 [vI a0.fh,vI a0.fc,vI a0.fj,v0_3] 37]) (fun ⟨p0,q0,g0⟩=>(p0,q0,g0)) (false,0,([]:List (ByteArray × Bool))) Q1 p1 ?_
 rintro x2 ⟨p0,q0,g0⟩ j3 D0 F0 E0 h
 unfold bP_l1 at h
 try dsimp only at h
 refine Af<|Ac (Bp (i:=q0) (j:=a0.ft.length) I I)<|Aa<|Aj<|AQ I h (fun W0 h=>?_) (fun W0 h=>?_)
 refine Ar<|Aj<|Ax<|Af<|Ae I<|bk h fun b0 U1 h=>?_
 obtain ⟨v2,E2,K1,M1,F2,R1,P1⟩:=Bh (AT h0_3 F0) U1
 obtain ⟨c2,g2,j2,rfl,R0,U0,V0⟩:=bm R1
 refine Ac (Bb 6 q0 I K1 I I M1)<|Ac (AH I P1)<|RG.nl [.string ⟨#[]⟩,vI 0,vN,vN,vN,.bool false] F0 fun R2 z2 q1 t0=>Ag I<|AV [.string b0.fx,vI b0.fw,c2,g2,j2,.bool b0.fu] q1 .hd (o6 I I (AY (Ao R0 t0)) (AY (Ao U0 t0)) (AY (Ao V0 t0)) I) fun U2 s0 v0=>Aa<|Aj<|Aj<|du 24 fun c0 d0=>Rx 0 16727044 c0 I d0 (AH I (s0.memA .t2))<|Rx 1 16727044 c0 I d0 (AH I (s0.memA .hd))<|bk h fun j0 W1 h=>BV 2 7 16727040 (.bool j0) c0 I d0 (bd 186) I (e2 I I) (fun w9 hw9=>dM_c n (s0.hL0 hL hw9) a0 (s0.k0 h0_3 hw9) b0 (s0.kd (Ao R0 (Tt t0 v0)) hw9) (s0.kd (Ao U0 (Tt t0 v0)) hw9) (s0.kd (Ao V0 (Tt t0 v0)) hw9) W1) I<|Rv 3 c0 I d0 (fun _=>Ai I)<|Rv 4 c0 I d0 (fun _=>Bi 0 I)<|Rx 5 14680256 c0 I d0 (AP I ((s0.memA .hd) 0 _ I))<|Rx 6 14680192 c0 I d0 (FV.lookup (kv:=b0.fx) (z:=false) s0 .t1 underlying237 underlying9 I I I I)<|Rv 7 c0 I d0 (fun _=>Bu I)<|Rv 8 c0 I d0 (fun _=>Bi 5 I)<|Rx 9 16727040 c0 I d0 (AP I ((s0.memA .hd) 5 _ I))<|Rv 10 c0 I d0 (fun _=>Ai I)<|RD.ifb (s:=55) I h (fun Y0 h=>?_) (fun Y0 h=>?_)
 refine Br 8191 11 [(11,56),(12,57)] (F:=[(55,true)]) (U:=[]) c0 d0 (.cons I .nil) .nil ?_
 dsimp only [aF,List.map]
 refine Rv 13 c0 I d0 (fun _=>BN I I)<|Rv 14 c0 I d0 (fun _=>Ai I)<|Rv 15 c0 I d0 (fun _=>FV.gtrN (i:=q0) (j:=0) I I)<|Rv 16 c0 I d0 (fun _=>Ai I)<|RD.ifd (s:=61) I h (fun Z0 h=>?_) (fun Z0 h=>?_)
 refine Br 1048575 4 [(17,62),(18,63),(19,64)] (F:=[(61,true)]) (U:=[]) c0 d0 (.cons I .nil) .nil ?_
 dsimp only [aF,List.map]
 refine Rv 20 c0 I d0 (fun _=>BN I I)<|BS 21 4194303 c0 I .plain I (AL (α:=Bool) (xs:=([j0,(!(aH g0 b0.fx false)),true,true]:List Bool)) (vs:=[.bool j0,.bool (!(aH g0 b0.fx false)),.bool true,.bool true]) (ds' :=[.bool j0,.bool (!(aH g0 b0.fx false)),.bool true,.bool true]) I s0 gz I (e4 I I I I) (by kernel_rfl) I) fun V2 A2 x0 y1=>bk h fun p2 X1 h=>BV 22 8388607 8388608 (.bool p2) c0 I d0 (bd 185) I (e1 I) (fun w9 hw9=>bA_c n (x0.hL0 hL hw9) (Aw (St.lend (α:=Bool) (L:=L) x0 .hd (AD (cs:=[.bool j0,.bool (!(aH g0 b0.fx false)),.bool true,.bool true]) (xs:=(([j0,(!(aH g0 b0.fx false)),true,true]:List Bool):List Bool)) x0 L (Av (cs:=[.bool j0]) (ds:=[.bool (!(aH g0 b0.fx false)),.bool true,.bool true]) I (Av (cs:=[.bool (!(aH g0 b0.fx false))]) (ds:=[.bool true,.bool true]) I (Av (cs:=[.bool true]) (ds:=[.bool true]) I (Av (cs:=[.bool true]) (ds:=[]) I (AJ _ _)))))) hL) hw9) X1) I<|Rv 23 c0 I d0 (fun _=>Bu I)<|AN (dk c0)<|MX.ifnb I h (fun b1 h=>?_) (fun b1 h=>?_)
 refine Ar<|Af<|Ae I<|Bd 0 I<|AR I ((x0.memA .t1) 0 _ I)<|RG.now .plain (Acts.mapUpdate (kv:=b0.fx) (vv:=true) x0 .t2 underlying237 underlying9 I I I I) fun W2 J0 z1=>Aa<|Ap<|Bd 5 I<|AR I ((J0.memA .t1) 5 _ I)<|Ag I<|Aa<|AC<|Ap<|Ac (Bl (i:=q0) (j:=1) I I (by omega))<|Ae I<|Aa ?_
 obtain ⟨s1,A1⟩:=AK J0 .d2
 exact D0 (b0.fu,q0 + 1,bz g0 b0.fx true) s1 (Tt E0 (Tt t0 (Tt v0 (Tt y1 (Tt z1 A1))))) h
 refine Af<|Ag I<|Aa ?_
 have h:=au h C0
 refine Am I<|AW hb0 func155 I I ?_
 cases h
 exact x0.gv
 refine BJ 17 262143 c0 I d0 (.yes I I) (fun _=>Bi 5 I) I<|RD.val (i:=18) (m' :=524287) (W:=16252928) (tk c0) I d0 (.yes I I) (AP I ((s0.memA .hd) 5 _ I)) I<|BJ 19 1048575 c0 I d0 (.yes I I) (fun _=>Bu I) I<|Rv 20 c0 I d0 (fun _=>AZ I I)<|BS 21 4194303 c0 I .plain I (AL (α:=Bool) (xs:=([j0,(!(aH g0 b0.fx false)),true,(!b0.fu)]:List Bool)) (vs:=[.bool j0,.bool (!(aH g0 b0.fx false)),.bool true,.bool (!b0.fu)]) (ds' :=[.bool j0,.bool (!(aH g0 b0.fx false)),.bool true,.bool (!b0.fu)]) I s0 gz I (e4 I I I I) (by kernel_rfl) I) fun Y2 B2 y0 B1=>bk h fun q2 Y1 h=>BV 22 8388607 8388608 (.bool q2) c0 I d0 (bd 185) I (e1 I) (fun w9 hw9=>bA_c n (y0.hL0 hL hw9) (Aw (St.lend (α:=Bool) (L:=L) y0 .hd (AD (cs:=[.bool j0,.bool (!(aH g0 b0.fx false)),.bool true,.bool (!b0.fu)]) (xs:=(([j0,(!(aH g0 b0.fx false)),true,(!b0.fu)]:List Bool):List Bool)) y0 L (Av (cs:=[.bool j0]) (ds:=[.bool (!(aH g0 b0.fx false)),.bool true,.bool (!b0.fu)]) I (Av (cs:=[.bool (!(aH g0 b0.fx false))]) (ds:=[.bool true,.bool (!b0.fu)]) I (Av (cs:=[.bool true]) (ds:=[.bool (!b0.fu)]) I (Av (cs:=[.bool (!b0.fu)]) (ds:=[]) I (AJ _ _)))))) hL) hw9) Y1) I<|Rv 23 c0 I d0 (fun _=>Bu I)<|AN (dk c0)<|MX.ifnb I h (fun c1 h=>?_) (fun c1 h=>?_)
 refine Ar<|Af<|Ae I<|Bd 0 I<|AR I ((y0.memA .t1) 0 _ I)<|RG.now .plain (Acts.mapUpdate (kv:=b0.fx) (vv:=true) y0 .t2 underlying237 underlying9 I I I I) fun Z2 K0 C1=>Aa<|Ap<|Bd 5 I<|AR I ((K0.memA .t1) 5 _ I)<|Ag I<|Aa<|AC<|Ap<|Ac (Bl (i:=q0) (j:=1) I I (by omega))<|Ae I<|Aa ?_
 obtain ⟨u1,D1⟩:=AK K0 .d2
 exact D0 (b0.fu,q0 + 1,bz g0 b0.fx true) u1 (Tt E0 (Tt t0 (Tt v0 (Tt B1 (Tt C1 D1))))) h
 refine Af<|Ag I<|Aa ?_
 have h:=au h C0
 refine Am I<|AW hb0 func155 I I ?_
 cases h
 exact y0.gv
 refine BJ 11 4095 c0 I d0 (.yes I I) (fun _=>Ai I) I<|BJ 12 8191 c0 I d0 (.yes I I) (fun _=>Bu I) I<|Rv 13 c0 I d0 (fun _=>AZ I I)<|Rv 14 c0 I d0 (fun _=>Ai I)<|Rv 15 c0 I d0 (fun _=>FV.gtrN (i:=q0) (j:=0) I I)<|Rv 16 c0 I d0 (fun _=>Ai I)<|RD.ifd (s:=61) I h (fun g1 h=>?_) (fun g1 h=>?_)
 refine Br 1048575 4 [(17,62),(18,63),(19,64)] (F:=[(61,true)]) (U:=[]) c0 d0 (.cons I .nil) .nil ?_
 dsimp only [aF,List.map]
 refine Rv 20 c0 I d0 (fun _=>BN I I)<|BS 21 4194303 c0 I .plain I (AL (α:=Bool) (xs:=([j0,(!(aH g0 b0.fx false)),(!p0),true]:List Bool)) (vs:=[.bool j0,.bool (!(aH g0 b0.fx false)),.bool (!p0),.bool true]) (ds' :=[.bool j0,.bool (!(aH g0 b0.fx false)),.bool (!p0),.bool true]) I s0 gz I (e4 I I I I) (by kernel_rfl) I) fun b3 C2 z0 E1=>bk h fun s2 Z1 h=>BV 22 8388607 8388608 (.bool s2) c0 I d0 (bd 185) I (e1 I) (fun w9 hw9=>bA_c n (z0.hL0 hL hw9) (Aw (St.lend (α:=Bool) (L:=L) z0 .hd (AD (cs:=[.bool j0,.bool (!(aH g0 b0.fx false)),.bool (!p0),.bool true]) (xs:=(([j0,(!(aH g0 b0.fx false)),(!p0),true]:List Bool):List Bool)) z0 L (Av (cs:=[.bool j0]) (ds:=[.bool (!(aH g0 b0.fx false)),.bool (!p0),.bool true]) I (Av (cs:=[.bool (!(aH g0 b0.fx false))]) (ds:=[.bool (!p0),.bool true]) I (Av (cs:=[.bool (!p0)]) (ds:=[.bool true]) I (Av (cs:=[.bool true]) (ds:=[]) I (AJ _ _)))))) hL) hw9) Z1) I<|Rv 23 c0 I d0 (fun _=>Bu I)<|AN (dk c0)<|MX.ifnb I h (fun j1 h=>?_) (fun j1 h=>?_)
 refine Ar<|Af<|Ae I<|Bd 0 I<|AR I ((z0.memA .t1) 0 _ I)<|RG.now .plain (Acts.mapUpdate (kv:=b0.fx) (vv:=true) z0 .t2 underlying237 underlying9 I I I I) fun c3 M0 F1=>Aa<|Ap<|Bd 5 I<|AR I ((M0.memA .t1) 5 _ I)<|Ag I<|Aa<|AC<|Ap<|Ac (Bl (i:=q0) (j:=1) I I (by omega))<|Ae I<|Aa ?_
 obtain ⟨v1,G1⟩:=AK M0 .d2
 exact D0 (b0.fu,q0 + 1,bz g0 b0.fx true) v1 (Tt E0 (Tt t0 (Tt v0 (Tt E1 (Tt F1 G1))))) h
 refine Af<|Ag I<|Aa ?_
 have h:=au h C0
 refine Am I<|AW hb0 func155 I I ?_
 cases h
 exact z0.gv
 refine BJ 17 262143 c0 I d0 (.yes I I) (fun _=>Bi 5 I) I<|RD.val (i:=18) (m' :=524287) (W:=16252928) (tk c0) I d0 (.yes I I) (AP I ((s0.memA .hd) 5 _ I)) I<|BJ 19 1048575 c0 I d0 (.yes I I) (fun _=>Bu I) I<|Rv 20 c0 I d0 (fun _=>AZ I I)<|BS 21 4194303 c0 I .plain I (AL (α:=Bool) (xs:=([j0,(!(aH g0 b0.fx false)),(!p0),(!b0.fu)]:List Bool)) (vs:=[.bool j0,.bool (!(aH g0 b0.fx false)),.bool (!p0),.bool (!b0.fu)]) (ds' :=[.bool j0,.bool (!(aH g0 b0.fx false)),.bool (!p0),.bool (!b0.fu)]) I s0 gz I (e4 I I I I) (by kernel_rfl) I) fun d3 D2 A0 H1=>bk h fun u2 b2 h=>BV 22 8388607 8388608 (.bool u2) c0 I d0 (bd 185) I (e1 I) (fun w9 hw9=>bA_c n (A0.hL0 hL hw9) (Aw (St.lend (α:=Bool) (L:=L) A0 .hd (AD (cs:=[.bool j0,.bool (!(aH g0 b0.fx false)),.bool (!p0),.bool (!b0.fu)]) (xs:=(([j0,(!(aH g0 b0.fx false)),(!p0),(!b0.fu)]:List Bool):List Bool)) A0 L (Av (cs:=[.bool j0]) (ds:=[.bool (!(aH g0 b0.fx false)),.bool (!p0),.bool (!b0.fu)]) I (Av (cs:=[.bool (!(aH g0 b0.fx false))]) (ds:=[.bool (!p0),.bool (!b0.fu)]) I (Av (cs:=[.bool (!p0)]) (ds:=[.bool (!b0.fu)]) I (Av (cs:=[.bool (!b0.fu)]) (ds:=[]) I (AJ _ _)))))) hL) hw9) b2) I<|Rv 23 c0 I d0 (fun _=>Bu I)<|AN (dk c0)<|MX.ifnb I h (fun k1 h=>?_) (fun k1 h=>?_)
 refine Ar<|Af<|Ae I<|Bd 0 I<|AR I ((A0.memA .t1) 0 _ I)<|RG.now .plain (Acts.mapUpdate (kv:=b0.fx) (vv:=true) A0 .t2 underlying237 underlying9 I I I I) fun g3 P0 I1=>Aa<|Ap<|Bd 5 I<|AR I ((P0.memA .t1) 5 _ I)<|Ag I<|Aa<|AC<|Ap<|Ac (Bl (i:=q0) (j:=1) I I (by omega))<|Ae I<|Aa ?_
 obtain ⟨x1,J1⟩:=AK P0 .d2
 exact D0 (b0.fu,q0 + 1,bz g0 b0.fx true) x1 (Tt E0 (Tt t0 (Tt v0 (Tt H1 (Tt I1 J1))))) h
 refine Af<|Ag I<|Aa ?_
 have h:=au h C0
 refine Am I<|AW hb0 func155 I I ?_
 cases h
 exact A0.gv
 refine AX I ?_
 have h:=aC h C0
 try dsimp only at h
 refine Af<|Ag I<|Aa<|Am I<|AW hb0 func155 I I ?_
 cases h
 exact F0.gv
 refine Af<|Ag I<|Aa<|Am I<|AW hb0 func155 I I ?_
 cases h
 exact B0.gv
def au_p (n:Nat) (a0:Bool) (a1:Int):Oa (Except Tg Unit):=
  (if a0 = true then (de_p n a1).bind fun y2=>exc y2 (fun _y11=>some (.ok ())) (fun b0=>some (.error b0)) else some (.ok ()))
theorem au_c (n:Nat) {L w} (hL:hl L w) {a0:Bool} {a1:Int}  {r:Except Tg Unit} (h:au_p n a0 a1 = some r) :
 Cl 156 #[.bool a0,vI a1] w (aL w (fun (_y:Unit) _ u=>u = .tuple #[]) (fun e=>.iface 202 (.agg #[vI e.fA])) r):=by
 unfold au_p at h
 have hS0:=AA w
 refine BZ func156 I I I fun _ cs0 hb0 hp0=>Af<|Ae I<|Aa<|MX.ifb I h (fun c1 h=>?_) (fun c1 h=>?_)
 refine Ap<|Ae I<|xk h (fun d0 hy2 h=>?_) (fun k0 hy2 h=>?_)
 refine BE (fst:=[]) (cap:=[]) .plain (bd 154) I (e1 I) (fun w9 hw9=>de_c n (hS0.hL0 hL hw9)  hy2) fun j0 c0=>?_
 obtain ⟨b0,g0⟩:=hS0.agr c0
 cases h
 exact Bo hp0 func156 ⟨b0.ag,I⟩
 refine Bj (.tuple #[]) (bd 154) I (e1 I) (fun w9 hw9=>Bm (de_c n (hS0.hL0 hL hw9)  hy2)) I<|Aa<|MX.fin I<|Au hb0 func156 I .nil I ?_
 cases h
 exact ⟨hS0.ag,fun w9 hw9=>aE I⟩
 refine Ar<|MX.fin I<|Au hb0 func156 I .nil I ?_
 cases h
 exact ⟨hS0.ag,fun w9 hw9=>aE I⟩
structure Tp where
  fl:Te
  fk:Int
  deriving DecidableEq
instance:Rep Tp:=Rep.via (β:=Te × Int) fun x=>(x.fl,x.fk)
def dn_p (n:Nat) (a0:Te) (a1:Int):Oa (Except Tg Tp):=
  (bP_p n a0).bind fun g0=>(de_p n g0).bind fun j0=>exc j0 (fun _y23=>(if a1 < 1 then (au_p n true (2:Int)).bind fun k0=>exc k0 (fun _y32=>some (.ok (⟨a0,a1⟩:Tp))) (fun c0=>some (.error c0)) else (au_p n (decide (8 < a1)) (2:Int)).bind fun p0=>exc p0 (fun _y47=>some (.ok (⟨a0,a1⟩:Tp))) (fun d0=>some (.error d0)))) (fun b0=>some (.error b0))
theorem dn_c (n:Nat) {L w} (hL:hl L w) (a0:Te) {v0_3:Vc} (h0_3:Rep.R w L [v0_3] a0.ft) {a1:Int}  {r:Except Tg Tp} (h:dn_p n a0 a1 = some r) :
 Cl 115 #[.agg #[vI a0.fh,vI a0.fc,vI a0.fj,v0_3],vI a1] w (aL w (fun (y:Tp) w' u=>∃ v0_3:Vc,u = .agg #[vI y.fl.fh,vI y.fl.fc,vI y.fl.fj,v0_3,vI y.fk]/\Rep.R w' L [v0_3] y.fl.ft) (fun e=>.iface 202 (.agg #[vI e.fA])) r):=by
 unfold dn_p at h
 refine BZ func115 I I I fun _ cs0 hb0 hp0=>Af<|RG.bx (AA w) I I fun c1 I0 u0 U0=>RG.nl [vI 0,vI 0,vI 0,vN,vI 0] u0 fun d1 J0 b0 V0=>Aa<|Af<|Ac (AH I (b0.memA .t1))<|bk h fun F0 E0 h=>Bj (vI F0) (bd 155) I (e1 I) (fun w9 hw9=>bP_c n (b0.hL0 hL hw9) a0 (b0.k0 h0_3 hw9) E0) I<|xk h (fun P0 g0 h=>?_) (fun s1 g0 h=>?_)
 refine BE (fst:=[]) (cap:=[]) .plain (bd 154) I (e1 I) (fun w9 hw9=>de_c n (b0.hL0 hL hw9)  g0) fun g1 z0=>?_
 obtain ⟨v0,W0⟩:=b0.agr z0
 cases h
 exact Bo hp0 func115 ⟨v0.ag,I⟩
 refine Bj (.tuple #[]) (bd 154) I (e1 I) (fun w9 hw9=>Bm (de_c n (b0.hL0 hL hw9)  g0)) I<|Aa<|Af<|Ae I<|Ac (BO (i:=a1) (j:=1) I I)<|Ae I<|BD (s:=10) I h (fun t0 h=>?_) (fun t0 h=>?_)
 refine Aq<|Aq<|Bn I I<|xk h (fun Q0 j0 h=>?_) (fun u1 j0 h=>?_)
 refine BE (fst:=[]) (cap:=[]) .plain (bd 156) I (e2 I I) (fun w9 hw9=>au_c n (b0.hL0 hL hw9)  j0) fun j1 A0=>?_
 obtain ⟨x0,X0⟩:=b0.agr A0
 cases h
 exact Bo hp0 func115 ⟨x0.ag,I⟩
 refine Bj (.tuple #[]) (bd 156) I (e2 I I) (fun w9 hw9=>Bm (au_c n (b0.hL0 hL hw9)  j0)) I<|Aa<|Af<|Ac (AH I (b0.memA .t1))<|Ae I ?_
 have q0:=AT h0_3 b0
 obtain ⟨G0,K0,C0,_⟩:=BR q0
 refine Ac (AS (vs:=[.agg #[vI a0.fh,vI a0.fc,vI a0.fj,v0_3],vI a1]) (u:=.agg #[vI a0.fh,vI a0.fc,vI a0.fj,v0_3,vI a1]) (e2 I I) (fun w9=>by rw [C0]; try kernel_rfl))<|AV [vI a0.fh,vI a0.fc,vI a0.fj,v0_3,vI a1] b0 .hd (o5 I I I (AY q0) I) fun k1 c0 Y0=>Aa<|Am I<|Au hb0 func115 I (.cons (.many (cs:=[vI a0.fh,vI a0.fc,vI a0.fj,v0_3,vI a1]) I I (c0.memA .hd)) .nil) I ?_
 cases h
 exact ⟨c0.ag,fun w9 hw9=>aE ⟨v0_3,I,c0.k0 h0_3 hw9⟩⟩
 refine AG (Ai I)<|AG (FV.gtr (i:=a1) (j:=8) I I)<|Bv I I<|xk h (fun R0 p0 h=>?_) (fun v1 p0 h=>?_)
 refine BE (fst:=[]) (cap:=[]) .plain (bd 156) I (e2 I I) (fun w9 hw9=>au_c n (b0.hL0 hL hw9)  p0) fun p1 B0=>?_
 obtain ⟨y0,Z0⟩:=b0.agr B0
 cases h
 exact Bo hp0 func115 ⟨y0.ag,I⟩
 refine Bj (.tuple #[]) (bd 156) I (e2 I I) (fun w9 hw9=>Bm (au_c n (b0.hL0 hL hw9)  p0)) I<|Aa<|Af<|Ac (AH I (b0.memA .t1))<|Ae I ?_
 have s0:=AT h0_3 b0
 obtain ⟨H0,M0,D0,_⟩:=BR s0
 refine Ac (AS (vs:=[.agg #[vI a0.fh,vI a0.fc,vI a0.fj,v0_3],vI a1]) (u:=.agg #[vI a0.fh,vI a0.fc,vI a0.fj,v0_3,vI a1]) (e2 I I) (fun w9=>by rw [D0]; try kernel_rfl))<|AV [vI a0.fh,vI a0.fc,vI a0.fj,v0_3,vI a1] b0 .hd (o5 I I I (AY s0) I) fun q1 d0 b1=>Aa<|Am I<|Au hb0 func115 I (.cons (.many (cs:=[vI a0.fh,vI a0.fc,vI a0.fj,v0_3,vI a1]) I I (d0.memA .hd)) .nil) I ?_
 cases h
 exact ⟨d0.ag,fun w9 hw9=>aE ⟨v0_3,I,d0.k0 h0_3 hw9⟩⟩
theorem dY_c (_n:Nat) {L w} (_hL:hl L w) (a0:Tp) {v0_3:Vc} (_h0_3:Rep.R w L [v0_3] a0.fl.ft)  :
 Cl 157 #[.agg #[vI a0.fl.fh,vI a0.fl.fc,vI a0.fl.fj,v0_3,vI a0.fk]] w (ae w fun w' u=>∃ b0:Nat,u = .func (.func 187) #[] #[vP b0]/\St w w' [.cells b0 [vI a0.fl.fh,vI a0.fl.fc,vI a0.fl.fj,v0_3,vI a0.fk] 167]):=by
 refine AF func157 I I I fun _ cs0 hb0=>Af<|RG.bx (AA w) I I fun g0 b0 c0 d0=>Ag I<|Aa<|Af<|Ac (BX (vs:=[]) (us:=[vP b0]) ak (e1 I))<|Ag I<|Aa<|Am I<|Au (u:=.func (.func 187) #[] #[vP b0]) hb0 func157 I (.cons (.tmp I) .nil) I<|⟨c0.ag,fun w9 hw9=>⟨b0,I,c0.agree hw9⟩⟩
def al_l1 (n:Nat) (a1:List Int) (a0:Tp) (g0:Nat × (List (Int × Bool)) -> Oa ((Except Tg Unit) ⊕ (List (Int × Bool)))):Nat × (List (Int × Bool)) -> Oa ((Except Tg Unit) ⊕ (List (Int × Bool)))
  | (b0,d0)=>(if b0 < a1.length then (a1[b0]?).bind fun c0=>(if c0 < 0 then (au_p n true (220:Int)).bind fun p0=>exc p0 (fun _y289=>g0 (b0 + 1,bz d0 c0 true)) (fun j0=>some (.inl (.error j0))) else (au_p n (decide (a0.fk <= c0)) (220:Int)).bind fun q0=>exc q0 (fun _y305=>g0 (b0 + 1,bz d0 c0 true)) (fun k0=>some (.inl (.error k0)))) else some (.inr d0))
def al_l2 (n:Nat) (a1:List Int) (a0:Tp) (g0:Nat × (List (Int × Bool)) -> Oa ((Except Tg Unit) ⊕ (List (Int × Bool)))):Nat × (List (Int × Bool)) -> Oa ((Except Tg Unit) ⊕ (List (Int × Bool)))
  | (b0,d0)=>(if b0 < a1.length then (a1[b0]?).bind fun c0=>(if c0 < 0 then (au_p n true (220:Int)).bind fun p0=>exc p0 (fun _y467=>g0 (b0 + 1,bz d0 c0 true)) (fun j0=>some (.inl (.error j0))) else (au_p n (decide (a0.fk <= c0)) (220:Int)).bind fun q0=>exc q0 (fun _y483=>g0 (b0 + 1,bz d0 c0 true)) (fun k0=>some (.inl (.error k0)))) else some (.inr d0))
def al_l3 (n:Nat) (a0:Tp) (a1:List Int) (g0:Nat × Int -> Oa ((Except Tg Unit) ⊕ Int)):Nat × Int -> Oa ((Except Tg Unit) ⊕ Int)
  | (b0,c0)=>(if b0 < a0.fl.ft.length then (a0.fl.ft[b0]?).bind fun q0=>(if q0.fu = true then ((au_p n (!(decide (((a1.length:Nat):Int) = c0))) (220:Int)).bind fun s0=>exc s0 (fun _y184=>thn (aj (al_l1 n a1 a0) n (0,([]:List (Int × Bool)))) (fun d0=>(au_p n (!(decide (((d0.length:Nat):Int) = a0.fk))) (220:Int)).bind fun t0=>exc t0 (fun _y321=>some (.ok ())) (fun k0=>some (.error k0)))) (fun j0=>some (.error j0))).map .inl else (chk (c0 + 1)).bind fun p0=>g0 (b0 + 1,p0)) else some (.inr c0))
def al_p (n:Nat) (a0:Tp) (a1:List Int):Oa (Except Tg Unit):=
  thn (aj (al_l3 n a0 a1) n (0,0)) (fun k0=>(au_p n (!(decide (((a1.length:Nat):Int) = k0))) (220:Int)).bind fun g0=>exc g0 (fun _y362=>thn (aj (al_l2 n a1 a0) n (0,([]:List (Int × Bool)))) (fun b0=>(au_p n (!(decide (((b0.length:Nat):Int) = a0.fk))) (220:Int)).bind fun j0=>exc j0 (fun _y499=>some (.ok ())) (fun d0=>some (.error d0)))) (fun c0=>some (.error c0)))
theorem al_c (n:Nat) {L w} (hL:hl L w) (a0:Tp) {v0_3:Vc} (h0_3:Rep.R w L [v0_3] a0.fl.ft) {a1:List Int} {v1_0:Vc} (h1_0:Rep.R w L [v1_0] a1)  {r:Except Tg Unit} (h:al_p n a0 a1 = some r) :
 Cl 116 #[.agg #[vI a0.fl.fh,vI a0.fl.fc,vI a0.fl.fj,v0_3,vI a0.fk],v1_0] w (aL w (fun (_y:Unit) _ u=>u = .tuple #[]) (fun e=>.iface 202 (.agg #[vI e.fA])) r):=by
 unfold al_p at h
 refine BZ func116 I I I fun _ cs0 hb0 hp0=>Af<|RG.bx (AA w) I I fun y6 y0 P1 Y4=>Aa<|Af<|RG.nl [vI 0] P1 fun z6 C1 R1 c5=>AV [vI 0] R1 .hd (o1 I) fun x4 B0 p5=>Aa<|Aj<|Af<|Ac (AH I (B0.memA .t1))<|jE (bd 157) I (e1 I) (fun w9 hw9=>Calls.gives (dY_c n (B0.hL hL hw9) a0 (B0.km h0_3 hw9)) fun (w8:World) (u8:Vc) ⟨b0_,hu_,s_⟩=>(⟨b0_,hu_,s_.from hw9⟩:∃ z0:Nat,u8 = Value.func (.func 187) #[] #[vP z0]/\St x4 w8 [.cells z0 [vI a0.fl.fh,vI a0.fl.fc,vI a0.fl.fj,v0_3,vI a0.fk] 167])) I fun G6 x6 g6 ⟨z0,k4,x1⟩=>?_
 subst k4
 have x5:=lj B0 x1
 refine Aa<|Ax<|MX.rangeP (lb:=[vP z0]) I (gr B0 x1) I (bd 187) func187 I I I fun w32 v1 D0 u4 K4 F0 F5 v4 k1 s6=>Af<|Bd 0 I<|Bd 3 I<|AR I ((cg (F0.memA .t2) 0) 3 _ I) ?_
 have u1:=AT h0_3 F0
 have p6:=AU u1
 refine Ac (Ba (xs:=a0.fl.ft) underlying35 I u1)<|Ae I<|Aa<|Ax<|tn h fun t6 V3 p1=>MX.lo (α:=Nat × Int) (fun ⟨j0,q0⟩=>[(0,.func (.yield v1) #[] #[]),(7,v0_3),(8,vn a0.fl.ft.length),(9,vn j0)]) (fun ⟨j0,q0⟩=>[.obj v1 (lpO u4 .ready none),.obj D0 (.deferred (some [])),.cells z0 [vI a0.fl.fh,vI a0.fl.fc,vI a0.fl.fj,v0_3,vI a0.fk] 167,.cells C1 [vI q0] 3,.cells y0 [vI a0.fl.fh,vI a0.fl.fc,vI a0.fl.fj,v0_3,vI a0.fk] 167]) (fun ⟨j0,q0⟩=>(j0,q0)) (0,0) V3 F0 ?_
 rintro B4 ⟨j0,q0⟩ v7 M1 E0 Z2 h
 unfold al_l3 at h
 try dsimp only at h
 refine Af<|Ac (Bp (i:=j0) (j:=a0.fl.ft.length) I I)<|Aa<|Aj<|AQ I h (fun D1 h=>?_) (fun D1 h=>?_)
 refine Ar<|Aj<|Ax<|Af<|Ae I<|bk h fun x0 p4 h=>?_
 obtain ⟨y4,F4,F3,K3,I4,Y3,Q3⟩:=Bh (AT h0_3 E0) p4
 obtain ⟨z1,A1,B1,rfl,Z3,b4,c4⟩:=bm Y3
 refine Ac (Bb 6 j0 I F3 I I K3)<|Ac (AH I Q3)<|RG.nl [.string ⟨#[]⟩,vI 0,vN,vN,vN,.bool false] E0 fun A6 E4 Q1 C0=>Ag I<|AV [.string x0.fx,vI x0.fw,z1,A1,B1,.bool x0.fu] Q1 .hd (o6 I I (AY (Ao Z3 C0)) (AY (Ao b4 C0)) (AY (Ao c4 C0)) I) fun B6 A0 b3=>Aa<|Af<|Bd 5 I<|AR I ((A0.memA .hd) 5 _ I)<|Ae I<|RG.ifb (s:=16) I h (fun E1 h=>?_) (fun E1 h=>?_)
 refine Aq<|Aq<|Aq<|Aq<|Aq<|Bn I I<|Aa<|Bq I ?_
 have h:=iX h p1
 refine Am rfl<|Au (u:=.tuple #[]) k1 func187 rfl .nil rfl<|MX.endRange0 A0 .t1 (by intro h9; cases h9) fun C6 U1 Z4=>?_
 obtain ⟨u0,b5⟩:=AK U1 (.a0 .d1)
 refine AC<|Af<|Ae I ?_
 have q1:=AT h1_0 u0
 have j6:=AU q1
 refine Ac (Ba (xs:=a1) underlying39 I q1)<|AR I ((u0.memA .t3) 0 _ I)<|Ac (FV.neq (i:=((a1.length:Nat):Int)) (j:=q0) I I)<|xk h (fun M4 I0 h=>?_) (fun z7 I0 h=>?_)
 refine BE (fst:=[]) (cap:=[]) .plain (bd 156) I (e2 I I) (fun w9 hw9=>au_c n (u0.hL0 hL hw9)  I0) fun D6 v3=>?_
 obtain ⟨V1,d5⟩:=u0.agr v3
 refine PN.take V1 .t1 fun E6 W1 g5=>?_
 obtain ⟨X1,j5⟩:=AK W1 (.a0 .d1)
 cases h
 exact Bo hp0 func116 ⟨X1.ag,I⟩
 refine Bj (.tuple #[]) (bd 156) I (e2 I I) (fun w9 hw9=>Bm (au_c n (u0.hL0 hL hw9)  I0)) I<|Aa<|Af<|Al .plain I (Does.makeMap (κ:=Int) (ν:=Bool) u0) fun F6 V0 Z0 k5=>Ag I<|Aa<|Aj<|Af<|Ae I<|Ac (Ba (xs:=a1) underlying39 I (AT h1_0 Z0))<|Ae I<|Aa<|Ax ?_
 obtain ⟨Y1,q5⟩:=AK Z0 (.a0 (.a1 .d3))
 refine tn h fun u6 W3 G0=>MX.lo (α:=Nat × (List (Int × Bool))) (fun ⟨d0,k0⟩=>[(2,vP y0),(5,.map (some V0)),(20,v1_0),(21,vn a1.length),(22,vn d0)]) (fun ⟨d0,k0⟩=>[.obj V0 (cy (k0:List (Int × Bool))),.obj D0 (.deferred (some [])),.cells y0 [vI a0.fl.fh,vI a0.fl.fc,vI a0.fl.fj,v0_3,vI a0.fk] 167]) (fun ⟨d0,k0⟩=>(d0,k0)) (0,([]:List (Int × Bool))) W3 Y1 ?_
 rintro C4 ⟨d0,k0⟩ x7 X0 b0 g1 h
 unfold al_l1 at h
 try dsimp only at h
 refine Af<|Ac (Bp (i:=d0) (j:=a1.length) I I)<|Aa<|Aj<|AQ I h (fun F1 h=>?_) (fun F1 h=>?_)
 refine Ar<|Aj<|Ax<|Af<|bk h fun s0 q4 h=>?_
 obtain ⟨z4,G4,G3,M3,J1,d4,R3⟩:=Bh (AT h1_0 b0) q4
 have H3:J1 = [vI s0]:=d4; subst H3
 refine Ac (Bb 1 d0 I G3 I I M3)<|AR I (R3 0 _ I)<|Ag I<|Aa<|Af<|Ae I<|Ac (BO (i:=s0) (j:=0) I I)<|Ae I<|BD (s:=28) I h (fun G1 h=>?_) (fun G1 h=>?_)
 refine Aq<|Aq<|Aq<|Aq<|Bn I I<|xk h (fun P4 J0 h=>?_) (fun A7 J0 h=>?_)
 have h:=au h G0
 refine BE (fst:=[]) (cap:=[]) .plain (bd 156) I (e2 I I) (fun w9 hw9=>au_c n (b0.hL0 hL hw9)  J0) fun H6 x3=>?_
 obtain ⟨Z1,s5⟩:=b0.agr x3
 refine PN.take Z1 .t1 fun I6 b2 t5=>?_
 obtain ⟨c2,u5⟩:=AK b2 (.a0 .d1)
 cases h
 exact Bo hp0 func116 ⟨c2.ag,I⟩
 refine Bj (.tuple #[]) (bd 156) I (e2 I I) (fun w9 hw9=>Bm (au_c n (b0.hL0 hL hw9)  J0)) I<|Aa<|Ap<|Ae I<|Ae I<|RG.now .plain (Acts.mapUpdate (kv:=s0) (vv:=true) b0 .hd underlying205 underlying3 I I I I) fun J6 g2 c3=>Aa<|AC<|Ap<|Ac (Bl (i:=d0) (j:=1) I I (by omega))<|Ae I<|Aa<|X0 (d0 + 1,bz k0 s0 true) g2 (Tt g1 c3) h
 refine AG (Ai I)<|RG.fg 4 I<|AG (AP I ((b0.memA .t2) 4 _ I))<|AG (FV.geq (i:=s0) (j:=a0.fk) I I)<|Bv I I<|xk h (fun Q4 K0 h=>?_) (fun B7 K0 h=>?_)
 have h:=au h G0
 refine BE (fst:=[]) (cap:=[]) .plain (bd 156) I (e2 I I) (fun w9 hw9=>au_c n (b0.hL0 hL hw9)  K0) fun K6 y3=>?_
 obtain ⟨j2,v5⟩:=b0.agr y3
 refine PN.take j2 .t1 fun M6 k2 y5=>?_
 obtain ⟨p2,z5⟩:=AK k2 (.a0 .d1)
 cases h
 exact Bo hp0 func116 ⟨p2.ag,I⟩
 refine Bj (.tuple #[]) (bd 156) I (e2 I I) (fun w9 hw9=>Bm (au_c n (b0.hL0 hL hw9)  K0)) I<|Aa<|Ap<|Ae I<|Ae I<|RG.now .plain (Acts.mapUpdate (kv:=s0) (vv:=true) b0 .hd underlying205 underlying3 I I I I) fun P6 q2 g3=>Aa<|AC<|Ap<|Ac (Bl (i:=d0) (j:=1) I I (by omega))<|Ae I<|Aa<|X0 (d0 + 1,bz k0 s0 true) q2 (Tt g1 g3) h
 refine AX I ?_
 have h:=aC h G0
 try dsimp only at h
 refine Ap<|Ae I<|Ac (FV.len_map (D:=k0) b0 .hd underlying205 I)<|Bd 4 I<|AR I ((b0.memA .t2) 4 _ I)<|Ac (FV.neq (i:=((k0.length:Nat):Int)) (j:=a0.fk) I I)<|xk h (fun R4 M0 h=>?_) (fun C7 M0 h=>?_)
 refine BE (fst:=[]) (cap:=[]) .plain (bd 156) I (e2 I I) (fun w9 hw9=>au_c n (b0.hL0 hL hw9)  M0) fun Q6 z3=>?_
 obtain ⟨s2,A5⟩:=b0.agr z3
 refine PN.take s2 .t1 fun R6 u2 B5=>?_
 obtain ⟨v2,C5⟩:=AK u2 (.a0 .d1)
 cases h
 exact Bo hp0 func116 ⟨v2.ag,I⟩
 refine Bj (.tuple #[]) (bd 156) I (e2 I I) (fun w9 hw9=>Bm (au_c n (b0.hL0 hL hw9)  M0)) I<|Aa<|MX.fin I<|RT.take b0 .t1 fun U6 x2 D5=>?_
 obtain ⟨y2,E5⟩:=AK x2 (.a0 .d1)
 refine Au hb0 func116 I .nil I ?_
 cases h
 exact ⟨y2.ag,fun w9 hw9=>aE I⟩
 refine AG (Ai I)<|AG (Ai I)<|AG (AH I (A0.memA .hd))<|RG.yieldP (fd:=116) (vs:=[vn j0,.agg #[.string x0.fx,vI x0.fw,z1,A1,B1,.bool x0.fu]]) (.yes I I) I (e2 I I) A0 .t1 v4 I I I fun J4 E3 q6=>Ar<|MX.begin A0 .t1 fun V6 b1 j3=>Ax<|Ap<|AR I ((b1.memA .t4) 0 _ I)<|bk h fun y1 j4 h=>Ac (Bw (i:=q0) (j:=1) I I j4)<|AV [vI y1] b1 .t4 (o1 I) fun W6 z2 k3=>Aa<|AC<|MX.roundEnd E3 z2 .t1 fun X6 A2 p3=>AG (Bu I)<|Bv I I<|Aa<|BF I<|Ar<|AC<|Ap<|Ac (Bl (i:=j0) (j:=1) I I (by omega))<|Ae I<|Aa ?_
 obtain ⟨B2,q3⟩:=AK A2 .d1
 exact M1 (j0 + 1,y1) B2 (Tt Z2 (Tt C0 (Tt b3 (Tt j3 (Tt k3 (Tt p3 q3)))))) h
 refine AX I ?_
 have h:=aC h p1
 try dsimp only at h
 refine MX.fin rfl<|Au (u:=.tuple #[]) k1 func187 rfl .nil rfl<|MX.endRange0 E0 .hd (by intro h9; cases h9) fun Y6 C2 G5=>?_
 obtain ⟨v0,H5⟩:=AK C2 .d1
 refine AC<|Af<|Ae I ?_
 have s1:=AT h1_0 v0
 have k6:=AU s1
 refine Ac (Ba (xs:=a1) underlying39 I s1)<|AR I ((v0.memA .t2) 0 _ I)<|Ac (FV.neq (i:=((a1.length:Nat):Int)) (j:=q0) I I)<|xk h (fun U4 P0 h=>?_) (fun D7 P0 h=>?_)
 refine BE (fst:=[]) (cap:=[]) .plain (bd 156) I (e2 I I) (fun w9 hw9=>au_c n (v0.hL0 hL hw9)  P0) fun Z6 A3=>?_
 obtain ⟨D2,I5⟩:=v0.agr A3
 refine PN.take D2 .hd fun b7 E2 J5=>?_
 obtain ⟨F2,K5⟩:=AK E2 .d1
 cases h
 exact Bo hp0 func116 ⟨F2.ag,I⟩
 refine Bj (.tuple #[]) (bd 156) I (e2 I I) (fun w9 hw9=>Bm (au_c n (v0.hL0 hL hw9)  P0)) I<|Aa<|Af<|Al .plain I (Does.makeMap (κ:=Int) (ν:=Bool) v0) fun c7 W0 c1 M5=>Ag I<|Aa<|Aj<|Af<|Ae I<|Ac (Ba (xs:=a1) underlying39 I (AT h1_0 c1))<|Ae I<|Aa<|Ax ?_
 obtain ⟨G2,P5⟩:=AK c1 (.a0 (.a0 .d2))
 refine tn h fun v6 X3 H0=>MX.lo (α:=Nat × (List (Int × Bool))) (fun ⟨g0,p0⟩=>[(2,vP y0),(5,.map (some W0)),(20,v1_0),(21,vn a1.length),(22,vn g0)]) (fun ⟨g0,p0⟩=>[.obj W0 (cy (p0:List (Int × Bool))),.obj D0 (.deferred (some [])),.cells y0 [vI a0.fl.fh,vI a0.fl.fc,vI a0.fl.fj,v0_3,vI a0.fk] 167]) (fun ⟨g0,p0⟩=>(g0,p0)) (0,([]:List (Int × Bool))) X3 G2 ?_
 rintro D4 ⟨g0,p0⟩ y7 Y0 c0 j1 h
 unfold al_l2 at h
 try dsimp only at h
 refine Af<|Ac (Bp (i:=g0) (j:=a1.length) I I)<|Aa<|Aj<|AQ I h (fun H1 h=>?_) (fun H1 h=>?_)
 refine Ar<|Aj<|Ax<|Af<|bk h fun t0 s4 h=>?_
 obtain ⟨A4,H4,I3,P3,K1,g4,U3⟩:=Bh (AT h1_0 c0) s4
 have J3:K1 = [vI t0]:=g4; subst J3
 refine Ac (Bb 1 g0 I I3 I I P3)<|AR I (U3 0 _ I)<|Ag I<|Aa<|Af<|Ae I<|Ac (BO (i:=t0) (j:=0) I I)<|Ae I<|BD (s:=28) I h (fun I1 h=>?_) (fun I1 h=>?_)
 refine Aq<|Aq<|Aq<|Aq<|Bn I I<|xk h (fun V4 Q0 h=>?_) (fun E7 Q0 h=>?_)
 have h:=au h H0
 refine BE (fst:=[]) (cap:=[]) .plain (bd 156) I (e2 I I) (fun w9 hw9=>au_c n (c0.hL0 hL hw9)  Q0) fun d7 B3=>?_
 obtain ⟨H2,Q5⟩:=c0.agr B3
 refine PN.take H2 .t1 fun g7 I2 R5=>?_
 obtain ⟨J2,U5⟩:=AK I2 (.a0 .d1)
 cases h
 exact Bo hp0 func116 ⟨J2.ag,I⟩
 refine Bj (.tuple #[]) (bd 156) I (e2 I I) (fun w9 hw9=>Bm (au_c n (c0.hL0 hL hw9)  Q0)) I<|Aa<|Ap<|Ae I<|Ae I<|RG.now .plain (Acts.mapUpdate (kv:=t0) (vv:=true) c0 .hd underlying205 underlying3 I I I I) fun j7 K2 s3=>Aa<|AC<|Ap<|Ac (Bl (i:=g0) (j:=1) I I (by omega))<|Ae I<|Aa<|Y0 (g0 + 1,bz p0 t0 true) K2 (Tt j1 s3) h
 refine AG (Ai I)<|RG.fg 4 I<|AG (AP I ((c0.memA .t2) 4 _ I))<|AG (FV.geq (i:=t0) (j:=a0.fk) I I)<|Bv I I<|xk h (fun W4 R0 h=>?_) (fun F7 R0 h=>?_)
 have h:=au h H0
 refine BE (fst:=[]) (cap:=[]) .plain (bd 156) I (e2 I I) (fun w9 hw9=>au_c n (c0.hL0 hL hw9)  R0) fun k7 C3=>?_
 obtain ⟨M2,V5⟩:=c0.agr C3
 refine PN.take M2 .t1 fun p7 P2 W5=>?_
 obtain ⟨Q2,X5⟩:=AK P2 (.a0 .d1)
 cases h
 exact Bo hp0 func116 ⟨Q2.ag,I⟩
 refine Bj (.tuple #[]) (bd 156) I (e2 I I) (fun w9 hw9=>Bm (au_c n (c0.hL0 hL hw9)  R0)) I<|Aa<|Ap<|Ae I<|Ae I<|RG.now .plain (Acts.mapUpdate (kv:=t0) (vv:=true) c0 .hd underlying205 underlying3 I I I I) fun q7 R2 u3=>Aa<|AC<|Ap<|Ac (Bl (i:=g0) (j:=1) I I (by omega))<|Ae I<|Aa<|Y0 (g0 + 1,bz p0 t0 true) R2 (Tt j1 u3) h
 refine AX I ?_
 have h:=aC h H0
 try dsimp only at h
 refine Ap<|Ae I<|Ac (FV.len_map (D:=p0) c0 .hd underlying205 I)<|Bd 4 I<|AR I ((c0.memA .t2) 4 _ I)<|Ac (FV.neq (i:=((p0.length:Nat):Int)) (j:=a0.fk) I I)<|xk h (fun X4 U0 h=>?_) (fun G7 U0 h=>?_)
 refine BE (fst:=[]) (cap:=[]) .plain (bd 156) I (e2 I I) (fun w9 hw9=>au_c n (c0.hL0 hL hw9)  U0) fun s7 D3=>?_
 obtain ⟨U2,Y5⟩:=c0.agr D3
 refine PN.take U2 .t1 fun t7 V2 Z5=>?_
 obtain ⟨W2,b6⟩:=AK V2 (.a0 .d1)
 cases h
 exact Bo hp0 func116 ⟨W2.ag,I⟩
 refine Bj (.tuple #[]) (bd 156) I (e2 I I) (fun w9 hw9=>Bm (au_c n (c0.hL0 hL hw9)  U0)) I<|Aa<|MX.fin I<|RT.take c0 .t1 fun u7 X2 c6=>?_
 obtain ⟨Y2,d6⟩:=AK X2 (.a0 .d1)
 refine Au hb0 func116 I .nil I ?_
 cases h
 exact ⟨Y2.ag,fun w9 hw9=>aE I⟩
def dp_p (n:Nat) (a0:Te) (a1:Int) (a2:List Int):Oa (Except Tg Bool):=
  (dn_p n a0 a1).bind fun y3=>exc y3 (fun d0=>(al_p n d0 a2).bind fun g0=>exc g0 (fun _y26=>some (.ok true)) (fun c0=>some (.error c0))) (fun b0=>some (.error b0))
theorem dp_c (n:Nat) {L w} (hL:hl L w) (a0:Te) {v0_3:Vc} (h0_3:Rep.R w L [v0_3] a0.ft) {p0:Nat} (m0:∀ j9 v9,([vI a0.fh,vI a0.fc,vI a0.fj,v0_3]:List Vc)[j9]? = some v9 -> w.cell? ((⟨p0,0,none⟩:Addr).add j9) = some v9) {a1:Int} {p1:Nat} (m1:∀ j9 v9,([vI a1]:List Vc)[j9]? = some v9 -> w.cell? ((⟨p1,0,none⟩:Addr).add j9) = some v9) {a2:List Int} {v2_0:Vc} (h2_0:Rep.R w L [v2_0] a2) {p2:Nat} (m2:∀ j9 v9,([v2_0]:List Vc)[j9]? = some v9 -> w.cell? ((⟨p2,0,none⟩:Addr).add j9) = some v9)  {r:Except Tg Bool} (h:dp_p n a0 a1 a2 = some r) :
 Cl 114 #[.pointer (some ⟨p0,0,none⟩),.pointer (some ⟨p1,0,none⟩),.pointer (some ⟨p2,0,none⟩)] w (aL w (fun (y:Bool) _ u=>u = .bool y) (fun e=>.iface 202 (.agg #[vI e.fA])) r):=by
 unfold dp_p at h
 have hS0:=AA w
 refine BZ func114 I I I fun _ cs0 hb0 hp0=>Af<|Ag I<|Aa<|Aj<|du 5 fun kt1 kp2=>Rx 0 20 kt1 I kp2 (AH I (fun j9 v9 h9=>hS0.ag.cell0 (m0 j9 v9 h9)))<|Rx 1 20 kt1 I kp2 (AP I ((fun j9 v9 h9=>hS0.ag.cell0 (m1 j9 v9 h9)) 0 _ I))<|xk h (fun v0 hy3 h=>?_) (fun g0 hy3 h=>?_)
 refine Rx 3 16 kt1 I kp2 (AP I ((fun j9 v9 h9=>hS0.ag.cell0 (m2 j9 v9 h9)) 0 _ I))<|BM (i:=2) (rk kt1) (RO.callE (fst:=[]) (cap:=[]) I .plain (bd 115) I (e2 I I) (fun w9 hw9=>dn_c n (hS0.hL hL hw9) a0 (Aw h0_3 hw9) hy3) (fun D0 s0=>?_))
 obtain ⟨j0,y0⟩:=hS0.agr s0
 cases h
 exact Bo hp0 func114 ⟨j0.ag,I⟩
 refine Rx 3 16 kt1 I kp2 (AP I ((fun j9 v9 h9=>hS0.ag.cell0 (m2 j9 v9 h9)) 0 _ I))<|Bs 2 15 kt1 I .plain (bd 115) I (e2 I I) (fun w9 hw9=>Bm (dn_c n (hS0.hL hL hw9) a0 (Aw h0_3 hw9) hy3)) I fun E0 C0 t0 ⟨B0,hu_,d0⟩=>?_
 subst hu_
 obtain ⟨b0,z0⟩:=hS0.agr t0
 refine xk h (fun x0 c0 h=>?_) (fun G0 c0 h=>?_)
 refine BM (i:=4) (rk kt1) (RO.callE (fst:=[]) (cap:=[]) I .plain (bd 116) I (e2 I I) (fun w9 hw9=>al_c n (b0.hL0 hL hw9) g0 (b0.kd d0 hw9) (b0.k0 h2_0 hw9) c0) (fun F0 u0=>?_))
 obtain ⟨q0,A0⟩:=b0.agr u0
 cases h
 exact Bo hp0 func114 ⟨q0.ag,I⟩
 refine BV 4 31 0 (.tuple #[]) kt1 I kp2 (bd 116) I (e2 I I) (fun w9 hw9=>Bm (al_c n (b0.hL0 hL hw9) g0 (b0.kd d0 hw9) (b0.k0 h2_0 hw9) c0)) I<|AN (dk kt1)<|Af<|Ag I<|Aa<|Am I<|AW hb0 func114 I I ?_
 cases h
 exact ⟨b0.ag,fun w9 hw9=>aE I⟩
def dw_p (n:Nat) (a0:Te) (a1:List Int) (a2:Int):Oa Int:=
  (dp_p n a0 a2 a1).bind fun c0=>exc c0 (fun _y41=>some (0:Int)) (fun b0=>some b0.fA)
theorem dw_c (n:Nat) {L w} (hL:hl L w) (a0:Te) {v0_3:Vc} (h0_3:Rep.R w L [v0_3] a0.ft) {a1:List Int} {v1_0:Vc} (h1_0:Rep.R w L [v1_0] a1) {a2:Int}  {r:Int} (h:dw_p n a0 a1 a2 = some r) :
 Cl 85 #[.agg #[vI a0.fh,vI a0.fc,vI a0.fj,v0_3],v1_0,vI a2] w (ae w fun _ u=>u = vI r):=by
 unfold dw_p at h
 refine AF func85 I I I fun _ cs0 hb0=>Af<|RG.bx (AA w) I I fun G1 g0 D0 x1=>RG.bx D0 I (Rep.c1 (AT h1_0 D0)) fun K1 j0 K0 y1=>RG.bx K0 I I fun M1 p0 M0 z1=>Ag I<|Aa<|Af<|Ac (BX (vs:=[]) (us:=[vP g0,vP p0,vP j0]) ak (e3 I I I))<|BK (fst:=[]) (cap:=[]) (vs:=[.func (.func 114) #[] #[vP g0,vP p0,vP j0]]) .plain (bd 113) func113 I I I I (e1 I) I fun p1 E0 F1=>Af<|RG.nl [.bool false] M0 fun P1 q0 P0 A1=>RG.nl [vI 0] P0 fun Q1 d0 b0 B1=>Aa<|Af<|Ac (BX (vs:=[]) (us:=[vP q0,vP d0]) ak (e2 I I))<|RG.defer (fst:=[]) (cap:=[vP q0,vP d0]) (vs:=[]) I .plain I ak<|Aa<|Af<|Ae I<|xk h (fun s0 z0 h=>?_) (fun B0 z0 h=>?_)
 refine BE (fst:=[]) (cap:=[vP g0,vP p0,vP j0]) .plain (bd 114) I ak (fun w9 hw9=>dp_c n (b0.hL0 hL hw9) a0 (b0.k0 h0_3 hw9) (am hw9 (b0.memA .t4)) (am hw9 (b0.memA .t2)) (b0.k0 h1_0 hw9) (am hw9 (b0.memA .t3)) z0) fun R1 W0=>?_
 obtain ⟨Q0,C1⟩:=b0.agr W0
 refine PN.callD (vs:=[]) (cap:=[vP q0,vP d0]) (bd 153) func153 I I I fun k1 X0 Z0=>Af<|RG.recover1 .plain X0 I<|Ag I<|Aa<|Af<|Ae I<|Ac (FV.neqI underlying20 I I)<|Aa<|Bq I<|Af<|Ae I<|Ac (FV.assertT I I)<|Ae I<|Ac (Ak I I)<|Ac (Ak I I)<|RG.nl [vI 0] Q0 fun U1 g1 R0 D1=>AV [vI s0.fA] R0 .hd (o1 I) fun V1 t0 E1=>Ag I<|Aa<|Aj<|Af<|Ae I<|Ac (Bu I)<|Aa<|BF I<|Ar<|Af<|Ag I<|Aa<|du 3 fun c0 A0=>Rv 0 c0 I A0 (fun _=>Ai I)<|Rv 1 c0 I A0 (fun _=>Bi 0 I)<|RD.mo (α:=Unit) (fun ()=>[(1,vP d0),(19,vI s0.fA)]) (fun ()=>[.cells d0 [vI 0] 49,.cells q0 [.bool false] 4,.cells p0 [vI a2] 3,.cells j0 [v1_0] 39,.cells g0 [vI a0.fh,vI a0.fc,vI a0.fj,v0_3] 37]) t0 1 15 ?_ ?_
 rintro ⟨⟩ W1 G0 q1
 try dsimp only
 refine BG 4 31 c0 I I .plain (AE (news:=[vI s0.fA]) G0 .hd I I I I I I (o1 I)) fun H1 v0 s1=>AN (dk c0)<|MX.fin I<|RT.leaveD1 Z0 func153 I .nil<|Au (u:=.tuple #[.bool false,vI s0.fA]) E0 func113 I (.cons (.one I I ((v0.memA .t1) 0 _ I)) (.cons (.one I I ((v0.memA .hd) 0 _ I)) .nil)) I<|Ae I<|Ac (Ak I I)<|Ac (Ak I I)<|Ag I<|Ag I<|Aa<|Af<|Ae I<|Ag I<|Aa<|Am I<|AW hb0 func85 I I ?_
 cases h
 exact v0.gv
 intro C0
 refine Bz [2,3] (rk c0) ⟨?_,?_,trivial⟩
 refine RO.val (m' :=7) (sk c0) I .plain I (AP I ((t0.memA .hd) 0 _ I))<|BG 3 15 c0 I I .plain (AE (news:=[.bool false]) t0 .t2 I I I I I I (o1 I)) fun b1 u0 y0=>?_
 obtain ⟨H0,U0⟩:=AK u0 .d1
 exact C0 () H0 (Tt y0 U0)
 refine RO.now (m' :=11) (sk c0) I I .plain (AE (news:=[.bool false]) t0 .t2 I I I I I I (o1 I)) fun b1 u0 y0=>Rx 2 16 c0 I A0 (AP I ((u0.memA .hd) 0 _ I)) ?_
 obtain ⟨I0,V0⟩:=AK u0 .d1
 exact C0 () I0 (Tt y0 V0)
 refine RG.callq' (v:=.bool B0) (fst:=[]) (cap:=[vP g0,vP p0,vP j0]) .plain (bd 114) I ak (fun w9 hw9=>Bm (dp_c n (b0.hL0 hL hw9) a0 (b0.k0 h0_3 hw9) (am hw9 (b0.memA .t4)) (am hw9 (b0.memA .t2)) (b0.k0 h1_0 hw9) (am hw9 (b0.memA .t3)) z0)) I<|AV [.bool B0] b0 .t1 (o1 I) fun I1 J0 u1=>AV [vI 0] J0 .hd (o1 I) fun J1 x0 v1=>Aa<|Am I<|RT.callD (vs:=[]) (cap:=[vP q0,vP d0]) (bd 153) func153 I I I fun j1 F0 Y0=>Af<|RG.recover0 .plain F0 I<|Ag I<|Aa<|Af<|Ae I<|Ac (FV.neqI0 underlying20 I I)<|Aa<|BF I<|Ar<|MX.fin I<|RT.leaveD0 F0 Y0 func153 I .nil<|Au (u:=.tuple #[.bool B0,vI 0]) E0 func113 I (.cons (.one I I ((x0.memA .t1) 0 _ I)) (.cons (.one I I ((x0.memA .hd) 0 _ I)) .nil)) I<|Ae I<|Ac (Ak I I)<|Ac (Ak I I)<|Ag I<|Ag I<|Aa<|Af<|Ae I<|Ag I<|Aa<|Am I<|AW hb0 func85 I I ?_
 cases h
 exact x0.gv
structure Tvote where
  fl:Te
  fplan:List Int
  fk:Int
  deriving DecidableEq
instance:Rep Tvote:=Rep.via (β:=Te × (List Int) × Int) fun x=>(x.fl,x.fplan,x.fk)
def cm_p (n:Nat) (a0:Te) (a1:List Int) (a2:Int):Oa (Except Tg Tvote):=
  (dw_p n a0 a1 a2).bind fun c0=>(dm_p n c0).bind fun d0=>exc d0 (fun _y23=>some (.ok (⟨a0,a1,a2⟩:Tvote))) (fun b0=>some (.error b0))
theorem cm_c (n:Nat) {L w} (hL:hl L w) (a0:Te) {v0_3:Vc} (h0_3:Rep.R w L [v0_3] a0.ft) {a1:List Int} {v1_0:Vc} (h1_0:Rep.R w L [v1_0] a1) {a2:Int}  {r:Except Tg Tvote} (h:cm_p n a0 a1 a2 = some r) :
 Cl 54 #[.agg #[vI a0.fh,vI a0.fc,vI a0.fj,v0_3],v1_0,vI a2] w (aL w (fun (y:Tvote) w' u=>∃ v0_3 v0_4:Vc,u = .agg #[vI y.fl.fh,vI y.fl.fc,vI y.fl.fj,v0_3,v0_4,vI y.fk]/\Rep.R w' L [v0_3] y.fl.ft/\Rep.R w' L [v0_4] y.fplan) (fun e=>.iface 115 (.agg #[vI e.fA])) r):=by
 unfold cm_p at h
 refine BZ func54 I I I fun _ cs0 hb0 hp0=>Af<|RG.bx (AA w) I I fun J0 A0 p0 F0=>RG.nl [vI 0,vI 0,vI 0,vN,vN,vI 0] p0 fun K0 B0 b0 G0=>Aa<|Af<|Ac (AH I (b0.memA .t1))<|Ae I<|Ae I<|bk h fun x0 v0 h=>Bj (vI x0) (bd 85) I (e3 I I I) (fun w9 hw9=>dw_c n (b0.hL0 hL hw9) a0 (b0.k0 h0_3 hw9) (b0.k0 h1_0 hw9) v0) I<|xk h (fun E0 d0 h=>?_) (fun Q0 d0 h=>?_)
 refine BE (fst:=[]) (cap:=[]) .plain (bd 84) I (e1 I) (fun w9 hw9=>dm_c n (b0.hL0 hL hw9)  d0) fun M0 s0=>?_
 obtain ⟨q0,H0⟩:=b0.agr s0
 cases h
 exact Bo hp0 func54 ⟨q0.ag,I⟩
 refine Bj (.tuple #[]) (bd 84) I (e1 I) (fun w9 hw9=>Bm (dm_c n (b0.hL0 hL hw9)  d0)) I<|Aa<|Af<|Ac (AH I (b0.memA .t1))<|Ae I<|Ae I ?_
 have g0:=AT h0_3 b0
 obtain ⟨y0,C0,t0,_⟩:=BR g0
 have j0:=AT h1_0 b0
 obtain ⟨z0,D0,u0,_⟩:=BR j0
 refine Ac (AS (vs:=[.agg #[vI a0.fh,vI a0.fc,vI a0.fj,v0_3],v1_0,vI a2]) (u:=.agg #[vI a0.fh,vI a0.fc,vI a0.fj,v0_3,v1_0,vI a2]) (e3 I I I) (fun w9=>by rw [t0,u0]; try kernel_rfl))<|AV [vI a0.fh,vI a0.fc,vI a0.fj,v0_3,v1_0,vI a2] b0 .hd (o6 I I I (AY g0) (AY j0) I) fun P0 c0 I0=>Aa<|Am I<|Au hb0 func54 I (.cons (.many (cs:=[vI a0.fh,vI a0.fc,vI a0.fj,v0_3,v1_0,vI a2]) I I (c0.memA .hd)) .nil) I ?_
 cases h
 exact ⟨c0.ag,fun w9 hw9=>aE ⟨v0_3,v1_0,I,c0.k0 h0_3 hw9,c0.k0 h1_0 hw9⟩⟩
theorem dZ_c (_n:Nat) {L w} (_hL:hl L w) (a0:Tvote) {v0_3:Vc} (_h0_3:Rep.R w L [v0_3] a0.fl.ft) {v0_4:Vc} (_h0_4:Rep.R w L [v0_4] a0.fplan)  :
 Cl 87 #[.agg #[vI a0.fl.fh,vI a0.fl.fc,vI a0.fl.fj,v0_3,v0_4,vI a0.fk]] w (ae w fun w' u=>∃ b0:Nat,u = .func (.func 117) #[] #[vP b0]/\St w w' [.cells b0 [vI a0.fl.fh,vI a0.fl.fc,vI a0.fl.fj,v0_3,v0_4,vI a0.fk] 103]):=by
 refine AF func87 I I I fun _ cs0 hb0=>Af<|RG.bx (AA w) I I fun g0 b0 c0 d0=>Ag I<|Aa<|Af<|Ac (BX (vs:=[]) (us:=[vP b0]) ak (e1 I))<|Ag I<|Aa<|Am I<|Au (u:=.func (.func 117) #[] #[vP b0]) hb0 func87 I (.cons (.tmp I) .nil) I<|⟨c0.ag,fun w9 hw9=>⟨b0,I,c0.agree hw9⟩⟩

theorem oD:ElT Tryz.prog 101 38 (Rep.size (List Int)) 24 vN [vN]:=⟨underlying101,by kernel_rfl,rfl,rfl,rfl,rfl⟩
theorem ay:ElT Tryz.prog 38 3 (Rep.size Int) 8 (vI 0) [vI 0]:=⟨underlying38,by kernel_rfl,rfl,rfl,rfl,rfl⟩
def aw_l1 (_n:Nat) (g0:Tc) (d0:Int) (k0:Nat × (List (List Int)) -> Oa (List (List Int))):Nat × (List (List Int)) -> Oa (List (List Int))
  | (b0,c0)=>(if b0 < g0.fE.length then (g0.fE[b0]?).bind fun q0=>(idx c0 d0).bind fun j0=>(j0[b0]?).bind fun s0=>(chk (s0 + q0)).bind fun p0=>(put j0 ((b0:Nat):Int) p0).bind fun t0=>k0 (b0 + 1,(c0.set d0.toNat t0)) else some c0)
def aw_l2 (n:Nat) (a0:Tvote) (d0:Nat × (List (List Int)) -> Oa (List (List Int))):Nat × (List (List Int)) -> Oa (List (List Int))
  | (b0,c0)=>(if b0 < a0.fplan.length then (a0.fplan[b0]?).bind fun g0=>(a0.fl.ft[b0]?).bind fun j0=>Option.bind (aj (aw_l1 n j0 g0) n (0,c0)) (fun k0=>d0 (b0 + 1,k0)) else some c0)
def aw_l3 (_n:Nat) (j0:List (List Int)) (a0:Tvote) (d0:Nat × (List (List Int)) -> Oa (List (List Int))):Nat × (List (List Int)) -> Oa (List (List Int))
  | (b0,c0)=>(if b0 < j0.length then (mk a0.fl.fc (0:Int)).bind fun g0=>(c0[b0]?).bind fun _x122=>d0 (b0 + 1,(c0.set b0 g0)) else some c0)
def aw_p (n:Nat) (a0:Tvote):Oa (List (List Int)):=
  (mk a0.fk ([]:List Int)).bind fun b0=>Option.bind (aj (aw_l3 n b0 a0) n (0,b0)) (fun c0=>Option.bind (aj (aw_l2 n a0) n (0,c0)) (fun d0=>some d0))
theorem aw_c (n:Nat) {L w} (hL:hl L w) (a0:Tvote) {v0_3:Vc} (h0_3:Rep.R w L [v0_3] a0.fl.ft) {v0_4:Vc} (h0_4:Rep.R w L [v0_4] a0.fplan)  {r:List (List Int)} (h:aw_p n a0 = some r) :
 Cl 55 #[.agg #[vI a0.fl.fh,vI a0.fl.fc,vI a0.fl.fj,v0_3,v0_4,vI a0.fk]] w (ae w fun w' u=>∃ v0_0:Vc,u = v0_0/\Rep.R w' L [v0_0] r):=by
 unfold aw_p at h
 refine AF func55 I I I fun _ cs0 hb0=>Af<|RG.bx (AA w) I I fun J6 g0 P1 V5=>Ag I<|Aa<|Af<|Bd 5 I<|AR I ((P1.memA .hd) 5 _ I)<|bk h fun X0 x1 h=>Al .plain I (Does.mk (α:=List Int) x1 P1 oD I) fun K1 b0 Q1 b6=>?_
 have v6:=AD (cs:=(List.replicate a0.fk.toNat [vN]).flatten) (xs:=X0) Q1 L (BY x1 (Rep.nilSlice _ _))
 obtain ⟨A4,B4⟩:=gMk (O:=[.cells g0 [vI a0.fl.fh,vI a0.fl.fc,vI a0.fl.fj,v0_3,v0_4,vI a0.fk] 103]) x1 3 Q1
 have W2:St _ K1 (rr w 38 (List Int) (.slice (some ⟨b0,0,none⟩) a0.fk.toNat a0.fk.toNat) X0.length (gC (gZ a0.fk)) :: .cells g0 [vI a0.fl.fh,vI a0.fl.fc,vI a0.fl.fj,v0_3,v0_4,vI a0.fk] 103 :: (gI w.heap.size 3 (gZ a0.fk) ++ [])):=A4
 have c6:Tr K1 [rr w 38 (List Int) (.slice (some ⟨b0,0,none⟩) a0.fk.toNat a0.fk.toNat) X0.length ((List.replicate a0.fk.toNat [vN]).flatten),.cells g0 [vI a0.fl.fh,vI a0.fl.fc,vI a0.fl.fj,v0_3,v0_4,vI a0.fk] 103] K1 (rr w 38 (List Int) (.slice (some ⟨b0,0,none⟩) a0.fk.toNat a0.fk.toNat) X0.length (gC (gZ a0.fk)) :: .cells g0 [vI a0.fl.fh,vI a0.fl.fc,vI a0.fl.fj,v0_3,v0_4,vI a0.fk] 103 :: (gI w.heap.size 3 (gZ a0.fk) ++ [])):=B4
 refine RG.nl [vN] W2 fun R6 c0 C1 d6=>RG.now .plain (AE (news:=[(.slice (some ⟨b0,0,none⟩) a0.fk.toNat a0.fk.toNat)]) C1 .hd I I I (St.c1 (α:=List Int) C1 .t1) I I (o1 (St.o1 (α:=List Int) C1 .t1))) fun U6 q1 g6=>Aa<|Aj<|Af<|AR I ((q1.memA .hd) 0 _ I) ?_
 have y6:X0.length <= 4294967296:=St.rowLe (α:=List Int) q1 .t1
 obtain ⟨u5,F5,I3⟩:=St.rowV (α:=List Int) q1 .t1
 refine Ac (FV.lenV underlying101 I I3)<|Ae I<|Aa<|Ax ?_
 obtain ⟨E6,u4,V3⟩:=aq h
 refine MX.lf (α:=Nat × (List (List Int)) × (List (Vc × List Int))) (fun ⟨y0,H0,V0⟩=>[(1,vP g0),(3,vP c0),(12,vn X0.length),(13,vn y0)]) (fun ⟨y0,H0,V0⟩=>(.cells c0 [(.slice (some ⟨b0,0,none⟩) a0.fk.toNat a0.fk.toNat)] 101 :: rr w 38 (List Int) (.slice (some ⟨b0,0,none⟩) a0.fk.toNat a0.fk.toNat) H0.length (gC V0) :: .cells g0 [vI a0.fl.fh,vI a0.fl.fc,vI a0.fl.fj,v0_3,v0_4,vI a0.fk] 103 :: (gI w.heap.size 3 V0 ++ []))) (fun ⟨y0,H0,V0⟩ q5=>H0 = gM V0) (fun ⟨y0,H0,V0⟩=>(y0,H0)) (0,X0,(gZ a0.fk)) u4 q1 (mk_gZ x1) ?_
 rintro z5 ⟨y0,H0,V0⟩ q5 M2 p1 j3 j1 h
 unfold aw_l3 at h
 try dsimp only at h
 refine Af<|Ac (Bp (i:=y0) (j:=X0.length) I I)<|Aa<|Aj<|AQ I h (fun E2 h=>?_) (fun E2 h=>?_)
 refine Ar<|Aj<|Ax<|Af<|Ae I<|Ag I<|Aa<|du 7 fun U0 b1=>Rx 0 192 U0 I b1 (AP I ((p1.memA .hd) 0 _ I))<|Rv 1 U0 I b1 (fun _=>Ai I)<|Rv 2 U0 I b1 (fun _=>Bi 0 I)<|Rv 3 U0 I b1 (fun _=>Bi 1 I)<|Rx 4 224 U0 I b1 (AP I ((cg (p1.memA .t2) 0) 1 _ I))<|bk h fun I0 u2 h=>BS 5 63 U0 I .plain I (Does.mk (α:=Int) u2 p1 ay I) fun K6 M0 g1 k3=>?_
 have G3:=AD (cs:=(List.replicate a0.fl.fc.toNat [vI 0]).flatten) (xs:=I0) g1 L (BY u2 I)
 refine bk h fun z1 X4 h=>?_
 obtain ⟨Q0,A1,R0,B3,g2,q2⟩:=kk j1 X4
 subst B3
 obtain ⟨C5,E5,c2,j2,A6⟩:=St.gNth' j1 g1 .t2 g2
 refine Rv 6 U0 I b1 (fun _=>Bb 1 y0 I c2 I I j2)<|BG 7 255 U0 I I .plain (Acts.gPut (i:=y0) (Z:=(Q0 ++ (A1,z1) :: R0)) (yv:=(.slice (some ⟨M0,0,none⟩) a0.fl.fc.toNat a0.fl.fc.toNat)) (g_len j1) j2 g1 c2 .t2 I I I (St.c1 (α:=Int) g1 .hd) (St.o1 (α:=Int) g1 .hd) I) fun J1 R2 Y1=>AN (dk U0)<|AC<|Ap<|Ac (Bl (i:=y0) (j:=1) I I (by omega))<|Ae I<|Aa ?_
 obtain ⟨y4,z4⟩:=St.gPut' (Q:=fun n9 D9=>[.cells c0 [(.slice (some ⟨b0,0,none⟩) a0.fk.toNat a0.fk.toNat)] 101,rr w 38 (List Int) (.slice (some ⟨b0,0,none⟩) a0.fk.toNat a0.fk.toNat) n9 D9,.cells g0 [vI a0.fl.fh,vI a0.fl.fc,vI a0.fl.fj,v0_3,v0_4,vI a0.fk] 103]) (Z1:=Q0) (Z2:=R0) (y:=A1) (xs:=z1) (T:=[]) j1 (q2 (.slice (some ⟨M0,0,none⟩) a0.fl.fc.toNat a0.fl.fc.toNat) I0) g2 (AB G3 Y1) R2
 have U2:St _ J1 (.cells c0 [(.slice (some ⟨b0,0,none⟩) a0.fk.toNat a0.fk.toNat)] 101 :: rr w 38 (List Int) (.slice (some ⟨b0,0,none⟩) a0.fk.toNat a0.fk.toNat) ((H0.set y0 I0).length) (gC (Q0 ++ ((.slice (some ⟨M0,0,none⟩) a0.fl.fc.toNat a0.fl.fc.toNat),I0) :: R0)) :: .cells g0 [vI a0.fl.fh,vI a0.fl.fc,vI a0.fl.fj,v0_3,v0_4,vI a0.fk] 103 :: (gI w.heap.size 3 (Q0 ++ ((.slice (some ⟨M0,0,none⟩) a0.fl.fc.toNat a0.fl.fc.toNat),I0) :: R0) ++ [])):=y4
 have p3:Tr J1 (rr w 3 Int (.slice (some ⟨M0,0,none⟩) a0.fl.fc.toNat a0.fl.fc.toNat) I0.length ((List.replicate a0.fl.fc.toNat [vI 0]).flatten) :: .cells c0 [(.slice (some ⟨b0,0,none⟩) a0.fk.toNat a0.fk.toNat)] 101 :: rr w 38 (List Int) (.slice (some ⟨b0,0,none⟩) a0.fk.toNat a0.fk.toNat) H0.length ((gC (Q0 ++ (A1,z1) :: R0)).set y0 (.slice (some ⟨M0,0,none⟩) a0.fl.fc.toNat a0.fl.fc.toNat)) :: .cells g0 [vI a0.fl.fh,vI a0.fl.fc,vI a0.fl.fj,v0_3,v0_4,vI a0.fk] 103 :: (gI w.heap.size 3 (Q0 ++ (A1,z1) :: R0) ++ [])) J1 (.cells c0 [(.slice (some ⟨b0,0,none⟩) a0.fk.toNat a0.fk.toNat)] 101 :: rr w 38 (List Int) (.slice (some ⟨b0,0,none⟩) a0.fk.toNat a0.fk.toNat) ((H0.set y0 I0).length) (gC (Q0 ++ ((.slice (some ⟨M0,0,none⟩) a0.fl.fc.toNat a0.fl.fc.toNat),I0) :: R0)) :: .cells g0 [vI a0.fl.fh,vI a0.fl.fc,vI a0.fl.fj,v0_3,v0_4,vI a0.fk] 103 :: (gI w.heap.size 3 (Q0 ++ ((.slice (some ⟨M0,0,none⟩) a0.fl.fc.toNat a0.fl.fc.toNat),I0) :: R0) ++ [])):=z4
 exact M2 (y0 + 1,(H0.set y0 I0),(Q0 ++ ((.slice (some ⟨M0,0,none⟩) a0.fl.fc.toNat a0.fl.fc.toNat),I0) :: R0)) U2 (Tt j3 (Tt k3 (Tt Y1 p3))) (q2 (.slice (some ⟨M0,0,none⟩) a0.fl.fc.toNat a0.fl.fc.toNat) I0) h
 refine AX I ?_
 have h:=V3 _ h
 try dsimp only at h
 refine Af<|Ac (BX (vs:=[]) (us:=[vP c0]) ak (e1 I))<|RG.nl [.nilFunc] p1 fun M6 k0 V2 W5=>AV [.func (.func 86) #[] #[vP c0]] V2 .hd (o1 I) fun p5 Y0 X5=>Aa<|Aj<|Af<|Ac (AH I (Y0.memA .t3))<|jE (bd 87) I (e1 I) (fun p q=>Calls.gives (dZ_c n (Y0.hL hL q) a0 (Y0.km h0_3 q) (Y0.km h0_4 q)) fun (w8:World) (u8:Vc) ⟨b0_,hu_,s_⟩=>(⟨b0_,hu_,s_.from q⟩:∃ j0:Nat,u8 = Value.func (.func 117) #[] #[vP j0]/\St p5 w8 [.cells j0 [vI a0.fl.fh,vI a0.fl.fc,vI a0.fl.fj,v0_3,v0_4,vI a0.fk] 103])) I fun P6 I6 u6 ⟨j0,W4,x2⟩=>?_
 subst W4
 have Y5:=lj Y0 x2
 refine Aa<|Ax<|MX.rangeP (lb:=[vP j0]) I (gr Y0 x2) I (bd 117) func117 I I I fun Q6 A0 x0 D0 P5 B1 Z5 k5 D3 B6=>Af<|Bd 4 I<|AR I ((B1.memA .t2) 4 _ I) ?_
 have k2:=AT h0_4 B1
 have x6:=AU k2
 refine Ac (Ba (xs:=a0.fplan) underlying39 I k2)<|Ae I<|Aa<|Ax ?_
 obtain ⟨F6,v4,W3⟩:=aq h
 refine MX.lf (α:=Nat × (List (List Int)) × (List (Vc × List Int))) (fun ⟨J0,z0,q0⟩=>[(0,.func (.yield A0) #[] #[]),(1,vP j0),(6,v0_4),(7,vn a0.fplan.length),(8,vn J0)]) (fun ⟨J0,z0,q0⟩=>(.obj A0 (lpO D0 .ready none) :: .obj x0 (.deferred (some [])) :: .cells j0 [vI a0.fl.fh,vI a0.fl.fc,vI a0.fl.fj,v0_3,v0_4,vI a0.fk] 103 :: .cells k0 [.func (.func 86) #[] #[vP c0]] 135 :: .cells c0 [(.slice (some ⟨b0,0,none⟩) a0.fk.toNat a0.fk.toNat)] 101 :: rr w 38 (List Int) (.slice (some ⟨b0,0,none⟩) a0.fk.toNat a0.fk.toNat) z0.length (gC q0) :: .cells g0 [vI a0.fl.fh,vI a0.fl.fc,vI a0.fl.fj,v0_3,v0_4,vI a0.fk] 103 :: (gI w.heap.size 3 q0 ++ []))) (fun ⟨J0,z0,q0⟩ s5=>z0 = gM q0) (fun ⟨J0,z0,q0⟩=>(J0,z0)) (0,H0,V0) v4 B1 j1 ?_
 rintro A5 ⟨J0,z0,q0⟩ s5 P2 Z0 q3 v2 h
 unfold aw_l2 at h
 try dsimp only at h
 refine Af<|Ac (Bp (i:=J0) (j:=a0.fplan.length) I I)<|Aa<|Aj<|AQ I h (fun F2 h=>?_) (fun F2 h=>?_)
 refine Ar<|Aj<|Ax<|Af<|Ae I<|bk h fun W0 Y4 h=>?_
 obtain ⟨v5,G5,J3,b4,H2,I4,j4⟩:=Bh (AT h0_4 Z0) Y4
 have K3:H2 = [vI W0]:=I4; subst K3
 refine Ac (Bb 1 J0 I J3 I I b4)<|AR I (j4 0 _ I)<|Ag I<|Ag I<|Aa<|Af<|Ae I<|Ae I<|Bd 0 I<|Bd 3 I<|AR I ((cg (Z0.memA .t2) 0) 3 _ I)<|Ae I<|bk h fun d0 Z4 h=>?_
 obtain ⟨x5,H5,M3,c4,Q5,J4,k4⟩:=Bh (AT h0_3 Z0) Z4
 obtain ⟨F0,B0,G0,rfl,K4,I1,M4⟩:=bm J4
 refine Ac (Bb 6 J0 I M3 I I c4)<|Ac (AH I k4)<|RG.yieldP (fd:=55) (vs:=[vI W0,.agg #[.string d0.fx,vI d0.fw,F0,B0,G0,.bool d0.fu]]) .plain I (e2 I I) Z0 .hd k5 I I I fun R5 E3 C6=>Af<|Ag I<|Aa<|Ap<|RG.nl [.string ⟨#[]⟩,vI 0,vN,vN,vN,.bool false] Z0 fun V6 P0 X2 u1=>AV [.string d0.fx,vI d0.fw,F0,B0,G0,.bool d0.fu] X2 .hd (o6 I I (AY (Ao K4 u1)) (AY (Ao I1 u1)) (AY (Ao M4 u1)) I) fun W6 Y2 s3=>Aa<|MX.begin Y2 .t1 fun X6 D1 u3=>Ax<|Ap<|AR I ((D1.memA .t4) 0 _ I)<|Ae I<|Bd 3 I<|AR I ((D1.memA .hd) 3 _ I)<|BK (fst:=[]) (cap:=[vP c0]) (vs:=[vI W0,B0]) .plain (bd 86) func86 I I I I (e2 I I) I fun U5 F3 D6=>Af<|Ae I ?_
 have H1:=Tt u1 (Tt s3 u3)
 have p2:=Ao I1 H1
 have z6:=AU p2
 refine Ac (Ba (xs:=d0.fE) underlying38 I p2)<|Ae I<|Aa<|Ax ?_
 obtain ⟨G6,x4,X3⟩:=aq h
 refine MX.lf (α:=Nat × (List (List Int)) × (List (Vc × List Int))) (fun ⟨C0,s0,E0⟩=>[(0,vI W0),(2,vP c0),(7,B0),(8,vn d0.fE.length),(9,vn C0)]) (fun ⟨C0,s0,E0⟩=>(.cells P0 [.string d0.fx,vI d0.fw,F0,B0,G0,.bool d0.fu] 99 :: .obj A0 (lpO D0 .busy none) :: .obj x0 (.deferred (some [])) :: .cells j0 [vI a0.fl.fh,vI a0.fl.fc,vI a0.fl.fj,v0_3,v0_4,vI a0.fk] 103 :: .cells k0 [.func (.func 86) #[] #[vP c0]] 135 :: .cells c0 [(.slice (some ⟨b0,0,none⟩) a0.fk.toNat a0.fk.toNat)] 101 :: rr w 38 (List Int) (.slice (some ⟨b0,0,none⟩) a0.fk.toNat a0.fk.toNat) s0.length (gC E0) :: .cells g0 [vI a0.fl.fh,vI a0.fl.fc,vI a0.fl.fj,v0_3,v0_4,vI a0.fk] 103 :: (gI w.heap.size 3 E0 ++ []))) (fun ⟨C0,s0,E0⟩ k1=>s0 = gM E0) (fun ⟨C0,s0,E0⟩=>(C0,s0)) (0,z0,q0) x4 D1 v2 ?_
 rintro B5 ⟨C0,s0,E0⟩ k1 Q2 s1 F1 y1 h
 unfold aw_l1 at h
 try dsimp only at h
 refine Af<|Ac (Bp (i:=C0) (j:=d0.fE.length) I I)<|Aa<|Aj<|AQ I h (fun G2 h=>?_) (fun G2 h=>?_)
 refine Ar<|Aj<|Ax<|Af<|Ae I<|bk h fun A2 b5 h=>?_
 obtain ⟨y5,I5,P3,d4,I2,P4,p4⟩:=Bh (Ao I1 (Tt H1 F1)) b5
 have Q3:I2 = [vI A2]:=P4; subst Q3
 refine Ac (Bb 1 C0 I P3 I I d4)<|AR I (p4 0 _ I)<|Ag I<|Ag I<|Aa<|Ap<|AR I ((s1.memA .t5) 0 _ I)<|Ae I<|bk h fun v0 c5 h=>?_
 obtain ⟨Y3,d5⟩:=aA c5
 obtain ⟨t0,p0,u0,C3,Z3,s2⟩:=kk y1 d5
 subst C3
 obtain ⟨D5,J5,R3,g4,q4⟩:=St.gNth' y1 s1 .t6 Z3
 refine Ac (Bb 1 (W0.toNat) I R3 I Y3 g4) ?_
 obtain ⟨C4,D4⟩:=St.gOpen (pre:=[.cells P0 [.string d0.fx,vI d0.fw,F0,B0,G0,.bool d0.fu] 99,.obj A0 (lpO D0 .busy none),.obj x0 (.deferred (some [])),.cells j0 [vI a0.fl.fh,vI a0.fl.fc,vI a0.fl.fj,v0_3,v0_4,vI a0.fk] 103,.cells k0 [.func (.func 86) #[] #[vP c0]] 135,.cells c0 [(.slice (some ⟨b0,0,none⟩) a0.fk.toNat a0.fk.toNat)] 101,rr w 38 (List Int) (.slice (some ⟨b0,0,none⟩) a0.fk.toNat a0.fk.toNat) s0.length (gC (t0 ++ (p0,v0) :: u0)),.cells g0 [vI a0.fl.fh,vI a0.fl.fc,vI a0.fl.fj,v0_3,v0_4,vI a0.fk] 103]) (T:=[]) (Z1:=t0) (Z2:=u0) (y:=p0) (xs:=v0) (base:=w.heap.size) (e:=3) s1
 have E1:St _ k1 (rr w 3 Int p0 v0.length (iC v0) :: .cells P0 [.string d0.fx,vI d0.fw,F0,B0,G0,.bool d0.fu] 99 :: .obj A0 (lpO D0 .busy none) :: .obj x0 (.deferred (some [])) :: .cells j0 [vI a0.fl.fh,vI a0.fl.fc,vI a0.fl.fj,v0_3,v0_4,vI a0.fk] 103 :: .cells k0 [.func (.func 86) #[] #[vP c0]] 135 :: .cells c0 [(.slice (some ⟨b0,0,none⟩) a0.fk.toNat a0.fk.toNat)] 101 :: rr w 38 (List Int) (.slice (some ⟨b0,0,none⟩) a0.fk.toNat a0.fk.toNat) s0.length (gC (t0 ++ (p0,v0) :: u0)) :: .cells g0 [vI a0.fl.fh,vI a0.fl.fc,vI a0.fl.fj,v0_3,v0_4,vI a0.fk] 103 :: (gI w.heap.size 3 (t0 ++ u0) ++ [])):=C4
 have v3:Tr k1 (.cells P0 [.string d0.fx,vI d0.fw,F0,B0,G0,.bool d0.fu] 99 :: .obj A0 (lpO D0 .busy none) :: .obj x0 (.deferred (some [])) :: .cells j0 [vI a0.fl.fh,vI a0.fl.fc,vI a0.fl.fj,v0_3,v0_4,vI a0.fk] 103 :: .cells k0 [.func (.func 86) #[] #[vP c0]] 135 :: .cells c0 [(.slice (some ⟨b0,0,none⟩) a0.fk.toNat a0.fk.toNat)] 101 :: rr w 38 (List Int) (.slice (some ⟨b0,0,none⟩) a0.fk.toNat a0.fk.toNat) s0.length (gC (t0 ++ (p0,v0) :: u0)) :: .cells g0 [vI a0.fl.fh,vI a0.fl.fc,vI a0.fl.fj,v0_3,v0_4,vI a0.fk] 103 :: (gI w.heap.size 3 (t0 ++ (p0,v0) :: u0) ++ [])) k1 (rr w 3 Int p0 v0.length (iC v0) :: .cells P0 [.string d0.fx,vI d0.fw,F0,B0,G0,.bool d0.fu] 99 :: .obj A0 (lpO D0 .busy none) :: .obj x0 (.deferred (some [])) :: .cells j0 [vI a0.fl.fh,vI a0.fl.fc,vI a0.fl.fj,v0_3,v0_4,vI a0.fk] 103 :: .cells k0 [.func (.func 86) #[] #[vP c0]] 135 :: .cells c0 [(.slice (some ⟨b0,0,none⟩) a0.fk.toNat a0.fk.toNat)] 101 :: rr w 38 (List Int) (.slice (some ⟨b0,0,none⟩) a0.fk.toNat a0.fk.toNat) s0.length (gC (t0 ++ (p0,v0) :: u0)) :: .cells g0 [vI a0.fl.fh,vI a0.fl.fc,vI a0.fl.fj,v0_3,v0_4,vI a0.fk] 103 :: (gI w.heap.size 3 (t0 ++ u0) ++ [])):=D4
 have b2:=Cells.int k1 (bl (rr w 3 Int p0 v0.length (iC v0) :: .cells P0 [.string d0.fx,vI d0.fw,F0,B0,G0,.bool d0.fu] 99 :: .obj A0 (lpO D0 .busy none) :: .obj x0 (.deferred (some [])) :: .cells j0 [vI a0.fl.fh,vI a0.fl.fc,vI a0.fl.fj,v0_3,v0_4,vI a0.fk] 103 :: .cells k0 [.func (.func 86) #[] #[vP c0]] 135 :: .cells c0 [(.slice (some ⟨b0,0,none⟩) a0.fk.toNat a0.fk.toNat)] 101 :: rr w 38 (List Int) (.slice (some ⟨b0,0,none⟩) a0.fk.toNat a0.fk.toNat) s0.length (gC (t0 ++ (p0,v0) :: u0)) :: .cells g0 [vI a0.fl.fh,vI a0.fl.fc,vI a0.fl.fj,v0_3,v0_4,vI a0.fk] 103 :: (gI w.heap.size 3 (t0 ++ u0) ++ [])) ++ L) v0
 refine AR I (q4 0 _ I)<|Ae I<|bk h fun B2 g5 h=>?_
 obtain ⟨C2,K5,v1,G1,J2,Q4,s4⟩:=BU (α:=Int) E1 .hd b2 g5
 obtain ⟨D2,M5,d2⟩:=By (α:=Int) E1 .hd G1
 obtain rfl:C2 = ⟨D2,0,none⟩:=by rw [d2] at v1; cases v1; rfl
 have U3:J2 = [vI B2]:=Q4; subst U3
 refine Ac (Bb 1 C0 I v1 I I G1)<|AR I (s4 0 _ I)<|Ae I<|bk h fun H6 V4 h=>Ac (Bw (i:=B2) (j:=A2) I I V4)<|Ac (Bb 1 C0 I v1 I I G1)<|bk h fun K0 j5 h=>RG.acts' .plain (Cb (α:=Int) (i:=C0) j5 E1 d2 (fun _=>.hd) b2 I I I I I I) fun M1 ⟨K2,b3,x3,H3⟩=>Aa<|AC<|Ap<|Ac (Bl (i:=C0) (j:=1) I I (by omega))<|Ae I<|Aa ?_
 obtain ⟨E4,F4⟩:=St.gShut' (Q:=fun n9 D9=>[.cells P0 [.string d0.fx,vI d0.fw,F0,B0,G0,.bool d0.fu] 99,.obj A0 (lpO D0 .busy none),.obj x0 (.deferred (some [])),.cells j0 [vI a0.fl.fh,vI a0.fl.fc,vI a0.fl.fj,v0_3,v0_4,vI a0.fk] 103,.cells k0 [.func (.func 86) #[] #[vP c0]] 135,.cells c0 [(.slice (some ⟨b0,0,none⟩) a0.fk.toNat a0.fk.toNat)] 101,rr w 38 (List Int) (.slice (some ⟨b0,0,none⟩) a0.fk.toNat a0.fk.toNat) n9 D9,.cells g0 [vI a0.fl.fh,vI a0.fl.fc,vI a0.fl.fj,v0_3,v0_4,vI a0.fk] 103]) (Z1:=t0) (Z2:=u0) (y:=p0) (xs:=v0) (T:=[]) y1 (s2 p0 K0) H3 b3
 have c3:St _ M1 (.cells P0 [.string d0.fx,vI d0.fw,F0,B0,G0,.bool d0.fu] 99 :: .obj A0 (lpO D0 .busy none) :: .obj x0 (.deferred (some [])) :: .cells j0 [vI a0.fl.fh,vI a0.fl.fc,vI a0.fl.fj,v0_3,v0_4,vI a0.fk] 103 :: .cells k0 [.func (.func 86) #[] #[vP c0]] 135 :: .cells c0 [(.slice (some ⟨b0,0,none⟩) a0.fk.toNat a0.fk.toNat)] 101 :: rr w 38 (List Int) (.slice (some ⟨b0,0,none⟩) a0.fk.toNat a0.fk.toNat) ((s0.set W0.toNat K0).length) (gC (t0 ++ (p0,K0) :: u0)) :: .cells g0 [vI a0.fl.fh,vI a0.fl.fc,vI a0.fl.fj,v0_3,v0_4,vI a0.fk] 103 :: (gI w.heap.size 3 (t0 ++ (p0,K0) :: u0) ++ [])):=E4
 have y3:Tr M1 (rr w 3 Int p0 K0.length K2 :: .cells P0 [.string d0.fx,vI d0.fw,F0,B0,G0,.bool d0.fu] 99 :: .obj A0 (lpO D0 .busy none) :: .obj x0 (.deferred (some [])) :: .cells j0 [vI a0.fl.fh,vI a0.fl.fc,vI a0.fl.fj,v0_3,v0_4,vI a0.fk] 103 :: .cells k0 [.func (.func 86) #[] #[vP c0]] 135 :: .cells c0 [(.slice (some ⟨b0,0,none⟩) a0.fk.toNat a0.fk.toNat)] 101 :: rr w 38 (List Int) (.slice (some ⟨b0,0,none⟩) a0.fk.toNat a0.fk.toNat) s0.length (gC (t0 ++ (p0,v0) :: u0)) :: .cells g0 [vI a0.fl.fh,vI a0.fl.fc,vI a0.fl.fj,v0_3,v0_4,vI a0.fk] 103 :: (gI w.heap.size 3 (t0 ++ u0) ++ [])) M1 (.cells P0 [.string d0.fx,vI d0.fw,F0,B0,G0,.bool d0.fu] 99 :: .obj A0 (lpO D0 .busy none) :: .obj x0 (.deferred (some [])) :: .cells j0 [vI a0.fl.fh,vI a0.fl.fc,vI a0.fl.fj,v0_3,v0_4,vI a0.fk] 103 :: .cells k0 [.func (.func 86) #[] #[vP c0]] 135 :: .cells c0 [(.slice (some ⟨b0,0,none⟩) a0.fk.toNat a0.fk.toNat)] 101 :: rr w 38 (List Int) (.slice (some ⟨b0,0,none⟩) a0.fk.toNat a0.fk.toNat) ((s0.set W0.toNat K0).length) (gC (t0 ++ (p0,K0) :: u0)) :: .cells g0 [vI a0.fl.fh,vI a0.fl.fc,vI a0.fl.fj,v0_3,v0_4,vI a0.fk] 103 :: (gI w.heap.size 3 (t0 ++ (p0,K0) :: u0) ++ [])):=F4
 exact Q2 (C0 + 1,(s0.set W0.toNat K0),(t0 ++ (p0,K0) :: u0)) c3 (Tt F1 (Tt v3 (Tt x3 y3))) (s2 p0 K0) h
 refine AX I ?_
 have h:=X3 _ h
 try dsimp only at h
 refine MX.fin I<|Au (u:=.tuple #[]) F3 func86 I .nil I<|Aa<|AC<|MX.roundEnd E3 s1 .t1 fun y2 R1 z3=>Ac (Bu I)<|Aa<|BF I<|Ar<|AC<|Ap<|Ac (Bl (i:=J0) (j:=1) I I (by omega))<|Ae I<|Aa ?_
 have d3:St _ _ (.obj A0 (lpO D0 .ready none) :: .obj x0 (.deferred (some [])) :: .cells j0 [vI a0.fl.fh,vI a0.fl.fc,vI a0.fl.fj,v0_3,v0_4,vI a0.fk] 103 :: .cells k0 [.func (.func 86) #[] #[vP c0]] 135 :: .cells c0 [(.slice (some ⟨b0,0,none⟩) a0.fk.toNat a0.fk.toNat)] 101 :: rr w 38 (List Int) (.slice (some ⟨b0,0,none⟩) a0.fk.toNat a0.fk.toNat) s0.length (gC E0) :: .cells g0 [vI a0.fl.fh,vI a0.fl.fc,vI a0.fl.fj,v0_3,v0_4,vI a0.fk] 103 :: (gI w.heap.size 3 E0 ++ [])):=R1.arr2 (.one .t1 (.one .t1 (.one .t1 (.one .t1 (.one .t1 (.one .t1 (.one .t1 (.drop .hd .rest))))))))
 have A3:Tr y2 _ y2 (.obj A0 (lpO D0 .ready none) :: .obj x0 (.deferred (some [])) :: .cells j0 [vI a0.fl.fh,vI a0.fl.fc,vI a0.fl.fj,v0_3,v0_4,vI a0.fk] 103 :: .cells k0 [.func (.func 86) #[] #[vP c0]] 135 :: .cells c0 [(.slice (some ⟨b0,0,none⟩) a0.fk.toNat a0.fk.toNat)] 101 :: rr w 38 (List Int) (.slice (some ⟨b0,0,none⟩) a0.fk.toNat a0.fk.toNat) s0.length (gC E0) :: .cells g0 [vI a0.fl.fh,vI a0.fl.fc,vI a0.fl.fj,v0_3,v0_4,vI a0.fk] 103 :: (gI w.heap.size 3 E0 ++ [])):=Tr.arr2 (St.arr2Of R1 (.one .t1 (.one .t1 (.one .t1 (.one .t1 (.one .t1 (.one .t1 (.one .t1 (.drop .hd .rest)))))))))
 exact P2 (J0 + 1,s0,E0) d3 (Tt q3 (Tt H1 (Tt F1 (Tt z3 A3)))) y1 h
 refine AX I ?_
 have h:=W3 _ h
 try dsimp only at h
 refine MX.fin rfl<|Au (u:=.tuple #[]) D3 func117 rfl .nil rfl<|MX.endRange0 Z0 .hd (by intro h9; cases h9) fun z2 U1 j6=>?_
 have V1:St _ _ (.obj x0 (.deferred (some [])) :: .cells j0 [vI a0.fl.fh,vI a0.fl.fc,vI a0.fl.fj,v0_3,v0_4,vI a0.fk] 103 :: .cells k0 [.func (.func 86) #[] #[vP c0]] 135 :: .cells c0 [(.slice (some ⟨b0,0,none⟩) a0.fk.toNat a0.fk.toNat)] 101 :: rr w 38 (List Int) (.slice (some ⟨b0,0,none⟩) a0.fk.toNat a0.fk.toNat) z0.length (gC q0) :: .cells g0 [vI a0.fl.fh,vI a0.fl.fc,vI a0.fl.fj,v0_3,v0_4,vI a0.fk] 103 :: (gI w.heap.size 3 q0 ++ [])):=U1.arr2 (.one .t1 (.one .t1 (.one .t1 (.one .t1 (.one .t1 (.one .t1 (.drop .hd .rest)))))))
 have k6:Tr z2 _ z2 (.obj x0 (.deferred (some [])) :: .cells j0 [vI a0.fl.fh,vI a0.fl.fc,vI a0.fl.fj,v0_3,v0_4,vI a0.fk] 103 :: .cells k0 [.func (.func 86) #[] #[vP c0]] 135 :: .cells c0 [(.slice (some ⟨b0,0,none⟩) a0.fk.toNat a0.fk.toNat)] 101 :: rr w 38 (List Int) (.slice (some ⟨b0,0,none⟩) a0.fk.toNat a0.fk.toNat) z0.length (gC q0) :: .cells g0 [vI a0.fl.fh,vI a0.fl.fc,vI a0.fl.fj,v0_3,v0_4,vI a0.fk] 103 :: (gI w.heap.size 3 q0 ++ [])):=Tr.arr2 (St.arr2Of U1 (.one .t1 (.one .t1 (.one .t1 (.one .t1 (.one .t1 (.one .t1 (.drop .hd .rest))))))))
 refine AC<|Af<|AR I ((V1.memA .t3) 0 _ I)<|Ag I<|Aa<|Am I<|RT.take V1 .hd fun d1 W1 p6=>?_
 have g3:St _ _ (.cells j0 [vI a0.fl.fh,vI a0.fl.fc,vI a0.fl.fj,v0_3,v0_4,vI a0.fk] 103 :: .cells k0 [.func (.func 86) #[] #[vP c0]] 135 :: .cells c0 [(.slice (some ⟨b0,0,none⟩) a0.fk.toNat a0.fk.toNat)] 101 :: rr w 38 (List Int) (.slice (some ⟨b0,0,none⟩) a0.fk.toNat a0.fk.toNat) z0.length (gC q0) :: .cells g0 [vI a0.fl.fh,vI a0.fl.fc,vI a0.fl.fj,v0_3,v0_4,vI a0.fk] 103 :: (gI w.heap.size 3 q0 ++ [])):=W1.arr2 (.one .t1 (.one .t1 (.one .t1 (.one .t1 (.one .t1 (.drop .hd .rest))))))
 have q6:Tr d1 _ d1 (.cells j0 [vI a0.fl.fh,vI a0.fl.fc,vI a0.fl.fj,v0_3,v0_4,vI a0.fk] 103 :: .cells k0 [.func (.func 86) #[] #[vP c0]] 135 :: .cells c0 [(.slice (some ⟨b0,0,none⟩) a0.fk.toNat a0.fk.toNat)] 101 :: rr w 38 (List Int) (.slice (some ⟨b0,0,none⟩) a0.fk.toNat a0.fk.toNat) z0.length (gC q0) :: .cells g0 [vI a0.fl.fh,vI a0.fl.fc,vI a0.fl.fj,v0_3,v0_4,vI a0.fk] 103 :: (gI w.heap.size 3 q0 ++ [])):=Tr.arr2 (St.arr2Of W1 (.one .t1 (.one .t1 (.one .t1 (.one .t1 (.one .t1 (.drop .hd .rest)))))))
 obtain ⟨R4,G4,H4⟩:=St.gFreeze' (pre:=[.cells j0 [vI a0.fl.fh,vI a0.fl.fc,vI a0.fl.fj,v0_3,v0_4,vI a0.fk] 103,.cells k0 [.func (.func 86) #[] #[vP c0]] 135,.cells c0 [(.slice (some ⟨b0,0,none⟩) a0.fk.toNat a0.fk.toNat)] 101,rr w 38 (List Int) (.slice (some ⟨b0,0,none⟩) a0.fk.toNat a0.fk.toNat) z0.length (gC q0),.cells g0 [vI a0.fl.fh,vI a0.fl.fc,vI a0.fl.fj,v0_3,v0_4,vI a0.fk] 103]) (T:=[]) v2 g3 .t3 hL
 have X1:St _ d1 [.cells j0 [vI a0.fl.fh,vI a0.fl.fc,vI a0.fl.fj,v0_3,v0_4,vI a0.fk] 103,.cells k0 [.func (.func 86) #[] #[vP c0]] 135,.cells c0 [(.slice (some ⟨b0,0,none⟩) a0.fk.toNat a0.fk.toNat)] 101,.cells g0 [vI a0.fl.fh,vI a0.fl.fc,vI a0.fl.fj,v0_3,v0_4,vI a0.fk] 103]:=G4
 have s6:Tr d1 (.cells j0 [vI a0.fl.fh,vI a0.fl.fc,vI a0.fl.fj,v0_3,v0_4,vI a0.fk] 103 :: .cells k0 [.func (.func 86) #[] #[vP c0]] 135 :: .cells c0 [(.slice (some ⟨b0,0,none⟩) a0.fk.toNat a0.fk.toNat)] 101 :: rr w 38 (List Int) (.slice (some ⟨b0,0,none⟩) a0.fk.toNat a0.fk.toNat) z0.length (gC q0) :: .cells g0 [vI a0.fl.fh,vI a0.fl.fc,vI a0.fl.fj,v0_3,v0_4,vI a0.fk] 103 :: (gI w.heap.size 3 q0 ++ [])) d1 [.cells j0 [vI a0.fl.fh,vI a0.fl.fc,vI a0.fl.fj,v0_3,v0_4,vI a0.fk] 103,.cells k0 [.func (.func 86) #[] #[vP c0]] 135,.cells c0 [(.slice (some ⟨b0,0,none⟩) a0.fk.toNat a0.fk.toNat)] 101,.cells g0 [vI a0.fl.fh,vI a0.fl.fc,vI a0.fl.fj,v0_3,v0_4,vI a0.fk] 103]:=H4
 have U4:Rep.R d1 (bl [.cells j0 [vI a0.fl.fh,vI a0.fl.fc,vI a0.fl.fj,v0_3,v0_4,vI a0.fk] 103,.cells k0 [.func (.func 86) #[] #[vP c0]] 135,.cells c0 [(.slice (some ⟨b0,0,none⟩) a0.fk.toNat a0.fk.toNat)] 101,.cells g0 [vI a0.fl.fh,vI a0.fl.fc,vI a0.fl.fj,v0_3,v0_4,vI a0.fk] 103] ++ L) [(.slice (some ⟨b0,0,none⟩) a0.fk.toNat a0.fk.toNat)] z0:=R4
 refine AW hb0 func55 I I ?_
 cases h
 exact ⟨X1.ag,fun p q=>⟨(.slice (some ⟨b0,0,none⟩) a0.fk.toNat a0.fk.toNat),I,X1.kd U4 q⟩⟩
def br_p (n:Nat) (a0:Bool) (a1:Int):Oa (Except Tg Unit):=
  (if a0 = true then (dm_p n a1).bind fun y2=>exc y2 (fun _y11=>some (.ok ())) (fun b0=>some (.error b0)) else some (.ok ()))
theorem br_c (n:Nat) {L w} (hL:hl L w) {a0:Bool} {a1:Int}  {r:Except Tg Unit} (h:br_p n a0 a1 = some r) :
 Cl 65 #[.bool a0,vI a1] w (aL w (fun (_y:Unit) _ u=>u = .tuple #[]) (fun e=>.iface 115 (.agg #[vI e.fA])) r):=by
 unfold br_p at h
 have hS0:=AA w
 refine BZ func65 I I I fun _ cs0 hb0 hp0=>Af<|Ae I<|Aa<|MX.ifb I h (fun c1 h=>?_) (fun c1 h=>?_)
 refine Ap<|Ae I<|xk h (fun d0 hy2 h=>?_) (fun k0 hy2 h=>?_)
 refine BE (fst:=[]) (cap:=[]) .plain (bd 84) I (e1 I) (fun p q=>dm_c n (hS0.hL0 hL q)  hy2) fun j0 c0=>?_
 obtain ⟨b0,g0⟩:=hS0.agr c0
 cases h
 exact Bo hp0 func65 ⟨b0.ag,I⟩
 refine Bj (.tuple #[]) (bd 84) I (e1 I) (fun p q=>Bm (dm_c n (hS0.hL0 hL q)  hy2)) I<|Aa<|MX.fin I<|Au hb0 func65 I .nil I ?_
 cases h
 exact ⟨hS0.ag,fun p q=>aE I⟩
 refine Ar<|MX.fin I<|Au hb0 func65 I .nil I ?_
 cases h
 exact ⟨hS0.ag,fun p q=>aE I⟩
theorem fO {w:World} {L:List Nat} {cs:List Vc} {x:Int × Int} (h:Rep.R w L cs x):cs = [vI x.1,vI x.2]:=by
  obtain ⟨c0,r0,rfl,h0,h⟩:=h
  have e0:c0 = [vI x.1]:=h0; subst e0
  have e1:r0 = [vI x.2]:=h; subst e1
  rfl
theorem cW {w:World} {L:List Nat} (a0:Int) (a1:Int):Rep.R w L [vI a0,vI a1] ((a0,a1):Int × Int):=⟨[vI a0],[vI a1],rfl,rfl,rfl⟩
theorem el76:ElT Tryz.prog 76 78 (Rep.size (Int × Int)) 16 (.agg #[vI 0,vI 0]) [vI 0,vI 0]:=⟨underlying76,by kernel_rfl,rfl,rfl,rfl,rfl⟩
theorem eqlI_78 (a0 a1 b0 b1:Int) (p:World):(do eqGuard .eql 78 (.tmp 0) (.tmp 0) (.agg #[vI a0,vI a1]) (.agg #[vI b0,vI b1]); binOp .eql 78 (.agg #[vI a0,vI a1]) (.agg #[vI b0,vI b1]):Sem Vc).run Tryz.prog p = .ok (.bool (decide (a0 = b0/\a1 = b1))) p:=eqArr2 underlying78 underlying3 rfl rfl rfl a0 a1 b0 b1 _ _ p
def ba_l1 (_n:Nat) (p0:List (List Int)) (a3:Int) (a4:Int) (q0:Nat × (List (Int × Int)) -> Oa (List (Int × Int))):Nat × (List (Int × Int)) -> Oa (List (Int × Int))
  | (b0,c0)=>(if b0 < p0.length then (p0[b0]?).bind fun g0=>(idx g0 a3).bind fun j0=>(idx g0 a4).bind fun k0=>jn (fun s0=>q0 (b0 + 1,s0)) (fun d0=>(if j0 = 0/\k0 = 0 then d0 c0 else (app c0 ([(j0,k0)]:List (Int × Int))).bind fun t0=>d0 t0)) else some c0)
def ba_p (n:Nat) (a0:Te) (a1:List Int) (a2:Int) (a3:Int) (a4:Int):Oa (Except Tg (List (Int × Int))):=
  (cm_p n a0 a1 a2).bind fun u0=>exc u0 (fun c0=>jn (fun (_:Unit)=>(aw_p n c0).bind fun C0=>Option.bind (aj (ba_l1 n C0 a3 a4) n (0,([]:List (Int × Int)))) (fun d0=>(br_p n (decide (d0.length = 0)) (7:Int)).bind fun v0=>exc v0 (fun _y429=>some (.ok d0)) (fun j0=>some (.error j0)))) (fun b0=>(if a3 < 0 then (br_p n true (2:Int)).bind fun x0=>exc x0 (fun _y442=>b0 ()) (fun k0=>some (.error k0)) else (if c0.fl.fc <= a3 then (br_p n true (2:Int)).bind fun y0=>exc y0 (fun _y453=>b0 ()) (fun p0=>some (.error p0)) else (if a4 < 0 then (br_p n true (2:Int)).bind fun z0=>exc z0 (fun _y464=>b0 ()) (fun q0=>some (.error q0)) else (if c0.fl.fc <= a4 then (br_p n true (2:Int)).bind fun A0=>exc A0 (fun _y475=>b0 ()) (fun s0=>some (.error s0)) else (br_p n (decide (a3 = a4)) (2:Int)).bind fun B0=>exc B0 (fun _y485=>b0 ()) (fun t0=>some (.error t0)))))))) (fun g0=>some (.error g0))
theorem ba_c (n:Nat) {L w} (hL:hl L w) (a0:Te) {v0_3:Vc} (h0_3:Rep.R w L [v0_3] a0.ft) {a1:List Int} {v1_0:Vc} (h1_0:Rep.R w L [v1_0] a1) {a2:Int} {a3:Int} {a4:Int}  {r:Except Tg (List (Int × Int))} (h:ba_p n a0 a1 a2 a3 a4 = some r) :
 Cl 29 #[.agg #[vI a0.fh,vI a0.fc,vI a0.fj,v0_3],v1_0,vI a2,vI a3,vI a4] w (aL w (fun (y:List (Int × Int)) w' u=>∃ v0_0:Vc,u = v0_0/\Rep.R w' L [v0_0] y) (fun e=>.iface 115 (.agg #[vI e.fA])) r):=by
 unfold ba_p at h
 refine BZ func29 I I I fun _ cs0 hb0 hp0=>Af<|RG.bx (AA w) I I fun R4 X3 s0 x4=>Ag I<|Aa<|Af<|Ac (AH I (s0.memA .hd))<|Ae I<|Ae I<|xk h (fun k4 M0 h=>?_) (fun p0 M0 h=>?_)
 refine BE (fst:=[]) (cap:=[]) .plain (bd 54) I (e3 I I I) (fun p q=>cm_c n (s0.hL hL q) a0 (s0.km h0_3 q) (s0.km h1_0 q) M0) fun U4 H2=>?_
 obtain ⟨P1,y4⟩:=s0.agr H2
 cases h
 exact Bo hp0 func29 ⟨P1.ag,I⟩
 refine jE (bd 54) I (e3 I I I) (fun p q=>Bm (cm_c n (s0.hL hL q) a0 (s0.km h0_3 q) (s0.km h1_0 q) M0)) I fun V4 Q4 I2 ⟨x1,y1,hu_,s1,u1⟩=>?_
 subst hu_
 obtain ⟨Q1,z4⟩:=s0.agr I2
 refine RG.nl [vI 0,vI 0,vI 0,vN,vN,vI 0] Q1 fun W4 X0 U1 G0=>AV [vI p0.fl.fh,vI p0.fl.fc,vI p0.fl.fj,x1,y1,vI p0.fk] U1 .hd (o6 I I I (AY (Ao s1 G0)) (AY (Ao u1 G0)) I) fun Z4 b0 z2=>Aa<|Aj<|MX.jo (α:=Unit) (fun ()=>[(3,vI a3),(4,vI a4),(10,vN),(11,vP X0)]) (fun ()=>[.cells X0 [vI p0.fl.fh,vI p0.fl.fc,vI p0.fl.fj,x1,y1,vI p0.fk] 103]) (fun ()=>()) b0 h ?_ ?_
 rintro ⟨⟩ t5 F0 G2 h
 try dsimp only at h
 refine Aj<|Af<|Ac (AH I (F0.memA .hd))<|bk h fun C0 I3 h=>?_
 have q1:=Tt G0 (Tt z2 G2)
 refine jE (bd 55) I (e1 I) (fun p q=>aw_c n (F0.hL hL q) p0 (Aw (Ao s1 q1) q) (Aw (Ao u1 q1) q) I3) I fun s5 z1 U2 ⟨M4,hu_,K0⟩=>?_
 subst hu_
 obtain ⟨b1,H4⟩:=F0.agr U2
 have I4:=AU K0
 refine Ac (Ba (xs:=C0) underlying101 I K0)<|Ae I<|Aa<|Ax ?_
 have Z0:=b1.nilRow 78 (Rep.size (Int × Int))
 obtain ⟨R1,c1⟩:=AK Z0 (.a0 .done)
 obtain ⟨K4,x3,g3⟩:=aq h
 refine MX.lf (α:=Nat × (List (Int × Int)) × Vc × (List Vc)) (fun ⟨k0,j0,q0,x0⟩=>[(3,vI a3),(4,vI a4),(10,q0),(46,z1),(47,vn C0.length),(48,vn k0)]) (fun ⟨k0,j0,q0,x0⟩=>[rr w 78 (Int × Int) q0 j0.length x0]) (fun ⟨k0,j0,q0,x0⟩ A1=>Cells A1 (bl [rr w 78 (Int × Int) q0 j0.length x0] ++ L) x0 j0) (fun ⟨k0,j0,q0,x0⟩=>(k0,j0)) (0,([]:List (Int × Int)),vN,[]) x3 R1 (AB (AD (cs:=[]) (xs:=([]:List (Int × Int))) Z0 L (AJ _ _)) c1) ?_
 rintro U3 ⟨k0,j0,q0,x0⟩ A1 M1 t0 g1 J0 h
 unfold ba_l1 at h
 try dsimp only at h
 refine Af<|Ac (Bp (i:=k0) (j:=C0.length) I I)<|Aa<|Aj<|AQ I h (fun C1 h=>?_) (fun C1 h=>?_)
 refine Ar<|Aj<|Ax<|Af<|bk h fun u5 C3 h=>?_
 obtain ⟨M3,b4,X2,p3,j4,y3,t3⟩:=Bh (Ao K0 (Tt (BW b1 78 (Rep.size (Int × Int))) (Tt c1 g1))) C3
 obtain ⟨P4,rfl,v1⟩:=bB y3
 refine Ac (Bb 1 k0 I X2 I I p3)<|AR I (t3 0 _ I)<|Ag I<|Aa<|Aj<|du 10 fun g0 u0=>Rv 0 g0 I u0 (fun _=>Ai I)<|Rv 1 g0 I u0 (fun _=>Ai I)<|bk h fun c0 D3 h=>?_
 obtain ⟨j3,E3⟩:=aA D3
 obtain ⟨P3,c4,Y2,q3,I1,z3,u3⟩:=Bh v1 E3
 have Z2:I1 = [vI c0]:=z3; subst Z2
 refine Rv 2 g0 I u0 (fun _=>Bb 1 (a3.toNat) I Y2 I j3 q3)<|Rx 3 1280 g0 I u0 (AP I (u3 0 _ I))<|Rv 4 g0 I u0 (fun _=>Ai I)<|Rv 5 g0 I u0 (fun _=>Ai I)<|bk h fun d0 F3 h=>?_
 obtain ⟨k3,G3⟩:=aA F3
 obtain ⟨Q3,d4,b3,s3,J1,A3,v3⟩:=Bh v1 G3
 have c3:J1 = [vI d0]:=A3; subst c3
 refine Rv 6 g0 I u0 (fun _=>Bb 1 (a4.toNat) I b3 I k3 s3)<|Rx 7 1280 g0 I u0 (AP I (v3 0 _ I))<|Rv 8 g0 I u0 (fun _=>AS (vs:=[vI c0,vI d0]) (u:=.agg #[vI c0,vI d0]) (e2 I I) (fun p=>by kernel_rfl))<|BS 9 1023 g0 I .plain I (Az [vI 0,vI 0] t0) fun X4 Y3 V1 H0=>BG 10 2047 g0 I I .plain (AE (news:=[vI c0,vI d0]) V1 .hd I I I I I I (ai I)) fun Y4 B0 I0=>AN (dk g0)<|Af<|Ac (AH I (B0.memA .hd))<|Ac (AS (vs:=[]) (u:=.agg #[vI 0,vI 0]) ak (fun p=>by kernel_rfl))<|Ac (FV.neqV (xs:=([vI c0,vI d0]).toArray) (ys:=([vI 0,vI 0]).toArray) I I (by kernel_rfl) (eqlI_78 c0 d0 0 0))<|Aa<|MX.jf (α:=(List (Int × Int)) × Vc × (List Vc)) (fun ⟨v0,z0,y0⟩=>[(3,vI a3),(4,vI a4),(10,z0),(46,z1),(47,vn C0.length),(48,vn k0)]) (fun ⟨v0,z0,y0⟩=>[rr w 78 (Int × Int) z0 v0.length y0]) (fun ⟨v0,z0,y0⟩ B1=>Cells B1 (bl [rr w 78 (Int × Int) z0 v0.length y0] ++ L) y0 v0) (fun ⟨v0,z0,y0⟩=>v0) B0 h ?_ ?_
 rintro ⟨v0,z0,y0⟩ B1 W1 y2 V2 h
 try dsimp only at h
 refine AC<|Ap<|Ac (Bl (i:=k0) (j:=1) I I (by omega))<|Ae I<|Aa<|M1 (k0 + 1,v0,z0,y0) W1 (Tt g1 (Tt H0 (Tt I0 y2))) V2 h
 intro V3 Y0 h
 try dsimp only at h
 refine MX.ifn I h (fun D1 h=>?_) (fun D1 h=>?_)
 refine Ar ?_
 obtain ⟨X1,j1⟩:=AK B0 .d1
 exact Y0 (j0,q0,x0) X1 j1 (AB J0 (Tt H0 (Tt I0 j1))) h
 refine Ap<|Ae I<|Ac (AH I (B0.memA .hd))<|Al .plain I (AL (α:=Int × Int) (xs:=([(c0,d0)]:List (Int × Int))) (vs:=[.agg #[vI c0,vI d0]]) (ds' :=[vI c0,vI d0]) I B0 el76 I (e1 I) (by kernel_rfl) I) fun b5 Z3 D0 k1=>bk h fun K3 H3 h=>RG.doesL .plain I (Bf (α:=Int × Int) (ys:=([(c0,d0)]:List (Int × Int))) H3 D0 (fun _ _=>.t2) el76 I I (AB J0 (Tt H0 (Tt I0 k1))) (Src.row (α:=Int × Int) D0 .hd (AD (cs:=[vI c0,vI d0]) (xs:=(([(c0,d0)]:List (Int × Int)):List (Int × Int))) D0 L (Av (cs:=[vI c0,vI d0]) (ds:=[]) (cW c0 d0) (AJ _ _))))) fun J3 c5 ⟨K1,Y1,A2,W2⟩=>Ag I<|Aa ?_
 obtain ⟨Z1,p1⟩:=AK Y1 .d2
 exact Y0 (K3,J3,K1) Z1 (Tt k1 (Tt A2 p1)) (AB W2 p1) h
 refine AX I ?_
 have h:=g3 _ h
 try dsimp only at h
 refine Af<|Ae I ?_
 have J4:j0.length <= 4294967296:=St.rowLe (α:=Int × Int) t0 .hd
 obtain ⟨R3,g4,d3⟩:=St.rowV (α:=Int × Int) t0 .hd
 refine Ac (FV.lenV underlying76 I d3)<|Ac (BP (i:=j0.length) (j:=0) I I)<|xk h (fun p4 P0 h=>?_) (fun v5 P0 h=>?_)
 refine BE (fst:=[]) (cap:=[]) .plain (bd 65) I (e2 I I) (fun p q=>br_c n (t0.hL0 hL q)  P0) fun d5 J2=>?_
 obtain ⟨b2,A4⟩:=t0.agr J2
 cases h
 exact Bo hp0 func29 ⟨b2.ag,I⟩
 refine Bj (.tuple #[]) (bd 65) I (e2 I I) (fun p q=>Bm (br_c n (t0.hL0 hL q)  P0)) I<|Aa<|Af<|Ae I<|Ag I<|Aa<|Am I ?_
 have E0:=BA t0 .hd
 have B4:=BB t0 .hd
 have B3:=BC (α:=Int × Int) (v:=q0) (xs:=j0) E0 L (Bg (α:=Int × Int) t0 .hd J0 hL)
 refine AW hb0 func29 I I ?_
 cases h
 exact ⟨E0.ag,fun p q=>aE ⟨q0,I,E0.kd B3 q⟩⟩
 intro W3 A0 h
 try dsimp only at h
 refine Ap<|Ae I<|Ac (BO (i:=a3) (j:=0) I I)<|Ae I<|BD (s:=21) I h (fun E1 h=>?_) (fun E1 h=>?_)
 refine Aq<|Aq<|Aq<|Aq<|Aq<|Bn I I<|Ae I<|Aq<|Aq<|Bn I I<|Ae I<|Aq<|Aq<|Aq<|Aq<|Aq<|Bn I I<|Ae I<|Aq<|Aq<|Aq<|Bn I I<|xk h (fun q4 Q0 h=>?_) (fun x5 Q0 h=>?_)
 refine BE (fst:=[]) (cap:=[]) .plain (bd 65) I (e2 I I) (fun p q=>br_c n (b0.hL0 hL q)  Q0) fun g5 K2=>?_
 obtain ⟨c2,C4⟩:=b0.agr K2
 cases h
 exact Bo hp0 func29 ⟨c2.ag,I⟩
 refine Bj (.tuple #[]) (bd 65) I (e2 I I) (fun p q=>Bm (br_c n (b0.hL0 hL q)  Q0)) I<|Aa ?_
 obtain ⟨g2,B2⟩:=AK b0 (.a0 .done)
 exact A0 () g2 B2 h
 refine AG (Ai I)<|RG.fg 0 I<|RG.fg 1 I<|AG (AP I ((cg (b0.memA .hd) 0) 1 _ I))<|AG (FV.geq (i:=a3) (j:=p0.fl.fc) I I)<|Bv I I<|Ae I<|BD (s:=28) I h (fun F1 h=>?_) (fun F1 h=>?_)
 refine Aq<|Aq<|Bn I I<|Ae I<|Aq<|Aq<|Aq<|Aq<|Aq<|Bn I I<|Ae I<|Aq<|Aq<|Aq<|Bn I I<|xk h (fun s4 R0 h=>?_) (fun y5 R0 h=>?_)
 refine BE (fst:=[]) (cap:=[]) .plain (bd 65) I (e2 I I) (fun p q=>br_c n (b0.hL0 hL q)  R0) fun j5 M2=>?_
 obtain ⟨j2,D4⟩:=b0.agr M2
 cases h
 exact Bo hp0 func29 ⟨j2.ag,I⟩
 refine Bj (.tuple #[]) (bd 65) I (e2 I I) (fun p q=>Bm (br_c n (b0.hL0 hL q)  R0)) I<|Aa ?_
 obtain ⟨k2,C2⟩:=AK b0 (.a0 .done)
 exact A0 () k2 C2 h
 refine AG (Ai I)<|AG (BO (i:=a4) (j:=0) I I)<|Bv I I<|Ae I<|BD (s:=32) I h (fun G1 h=>?_) (fun G1 h=>?_)
 refine Aq<|Aq<|Aq<|Aq<|Aq<|Bn I I<|Ae I<|Aq<|Aq<|Aq<|Bn I I<|xk h (fun t4 U0 h=>?_) (fun z5 U0 h=>?_)
 refine BE (fst:=[]) (cap:=[]) .plain (bd 65) I (e2 I I) (fun p q=>br_c n (b0.hL0 hL q)  U0) fun k5 P2=>?_
 obtain ⟨p2,E4⟩:=b0.agr P2
 cases h
 exact Bo hp0 func29 ⟨p2.ag,I⟩
 refine Bj (.tuple #[]) (bd 65) I (e2 I I) (fun p q=>Bm (br_c n (b0.hL0 hL q)  U0)) I<|Aa ?_
 obtain ⟨q2,D2⟩:=AK b0 (.a0 .done)
 exact A0 () q2 D2 h
 refine AG (Ai I)<|RG.fg 0 I<|RG.fg 1 I<|AG (AP I ((cg (b0.memA .hd) 0) 1 _ I))<|AG (FV.geq (i:=a4) (j:=p0.fl.fc) I I)<|Bv I I<|Ae I<|BD (s:=39) I h (fun H1 h=>?_) (fun H1 h=>?_)
 refine Aq<|Aq<|Aq<|Bn I I<|xk h (fun u4 V0 h=>?_) (fun A5 V0 h=>?_)
 refine BE (fst:=[]) (cap:=[]) .plain (bd 65) I (e2 I I) (fun p q=>br_c n (b0.hL0 hL q)  V0) fun p5 Q2=>?_
 obtain ⟨s2,F4⟩:=b0.agr Q2
 cases h
 exact Bo hp0 func29 ⟨s2.ag,I⟩
 refine Bj (.tuple #[]) (bd 65) I (e2 I I) (fun p q=>Bm (br_c n (b0.hL0 hL q)  V0)) I<|Aa ?_
 obtain ⟨u2,E2⟩:=AK b0 (.a0 .done)
 exact A0 () u2 E2 h
 refine AG (Ai I)<|AG (Ai I)<|AG (FV.eql (i:=a3) (j:=a4) I I)<|Bv I I<|xk h (fun v4 W0 h=>?_) (fun B5 W0 h=>?_)
 refine BE (fst:=[]) (cap:=[]) .plain (bd 65) I (e2 I I) (fun p q=>br_c n (b0.hL0 hL q)  W0) fun q5 R2=>?_
 obtain ⟨v2,G4⟩:=b0.agr R2
 cases h
 exact Bo hp0 func29 ⟨v2.ag,I⟩
 refine Bj (.tuple #[]) (bd 65) I (e2 I I) (fun p q=>Bm (br_c n (b0.hL0 hL q)  W0)) I<|Aa ?_
 obtain ⟨x2,F2⟩:=AK b0 (.a0 .done)
 exact A0 () x2 F2 h
def bQ_p (_n:Nat) (a0:Int × Int):Oa Int:=
  (chk (a0.1 + a0.2)).bind fun b0=>some b0
theorem bQ_c (n:Nat) {L w} (_hL:hl L w) (a0:Int × Int)  {r:Int} (h:bQ_p n a0 = some r) :
 Cl 30 #[.agg #[vI a0.1,vI a0.2]] w (ae w fun _ u=>u = vI r):=by
 unfold bQ_p at h
 refine AF func30 I I I fun _ cs0 hb0=>Af<|RG.bx (AA w) I I fun k0 d0 b0 g0=>Ag I<|Aa<|Af<|Ac (AO (m:=1) (k:=0) (len:=2) I I I I (by omega))<|AR I ((b0.memA .hd) 0 _ I)<|Ac (AO (m:=1) (k:=1) (len:=2) I I I I (by omega))<|AR I ((b0.memA .hd) 1 _ I)<|bk h fun j0 c0 h=>Ac (Bw (i:=a0.1) (j:=a0.2) I I c0)<|Ag I<|Aa<|Am I<|AW hb0 func30 I I ?_
 cases h
 exact b0.gv
structure Ti where
  fe:Bool
  fo:List Ua
  deriving DecidableEq
instance:Rep Ti:=Rep.via (β:=Bool × (List UInt64)) fun x=>(x.fe,x.fo)
def ay_l1 (_n:Nat) (a1:List Ua) (c0:Int -> Oa Int):Int -> Oa Int
  | b0=>(if 0 < b0 then (chk (b0 - 1)).bind fun d0=>(idx a1 d0).bind fun j0=>(if j0 = (0:Ua) then (chk (b0 - 1)).bind fun g0=>c0 g0 else some b0) else some b0)
def ay_p (n:Nat) (a0:Bool) (a1:List Ua):Oa Ti:=
  jn (fun b0=>(if a0 = true then (cut a1 0 b0).bind fun d0=>some (⟨(decide (0 < b0)),d0⟩:Ti) else (cut a1 0 b0).bind fun g0=>some (⟨false,g0⟩:Ti))) (fun c0=>Option.bind (aj (ay_l1 n a1) n ((a1.length:Nat):Int)) (c0))
theorem ay_c (n:Nat) {L w} (_hL:hl L w) {a0:Bool} {a1:List Ua} {v1_0:Vc} (h1_0:Rep.R w L [v1_0] a1)  {r:Ti} (h:ay_p n a0 a1 = some r) :
 Cl 148 #[.bool a0,v1_0] w (ae w fun w' u=>∃ v0_1:Vc,u = .agg #[.bool r.fe,v0_1]/\Rep.R w' L [v0_1] r.fo):=by
 unfold ay_p at h
 refine AF func148 I I I fun _ cs0 hb0=>Af<|RG.nl [.bool false,vN] (AA w) fun C1 j0 q0 z1=>Aa<|Af<|Ae I ?_
 have A0:=AT h1_0 q0
 have A1:=AU A0
 refine Ac (Ba (xs:=a1) underlying128 I A0)<|Ag I<|Aa<|Aj<|Ax<|MX.xo (α:=Int) 0 (fun b0=>[(0,.bool a0),(1,v1_0),(4,vP j0),(5,vI b0)]) (fun b0=>[.cells j0 [.bool false,vN] 130]) (fun b0=>b0) q0 I h ?_ ?_
 rintro b0 F1 k0 y1 h
 try dsimp only at h
 refine Af<|Ae I<|Ae I<|RG.ifb (s:=21) I h (fun C0 h=>?_) (fun C0 h=>?_)
 refine AG (Ai I)<|AG (FV.gtr (i:=b0) (j:=0) I I)<|Bn I I<|Ae I<|Ae I<|bk h fun H1 c1 h=>RG.valE .plain I (FV.cutL (α:=Ua) c1 I I (AT h1_0 k0) I ⟨_,I⟩) fun d0 v0=>?_
 obtain ⟨k1,u1,X0,_⟩:=BR v0
 refine Ac (AS (vs:=[.bool (decide (0 < b0)),d0]) (u:=.agg #[.bool (decide (0 < b0)),d0]) (e2 I I) (fun p=>by rw [X0]; try kernel_rfl))<|AV [.bool (decide (0 < b0)),d0] k0 .hd (o2 I (AY v0)) fun D1 s0 H0=>Aa<|Am I<|Au hb0 func148 I (.cons (.many (cs:=[.bool (decide (0 < b0)),d0]) I I (s0.memA .hd)) .nil) I ?_
 cases h
 exact ⟨s0.ag,fun p q=>⟨d0,I,s0.kd (Ao v0 H0) q⟩⟩
 refine Aq<|Aq<|Bv I I<|Ae I<|Ae I<|bk h fun I1 d1 h=>RG.valE .plain I (FV.cutL (α:=Ua) d1 I I (AT h1_0 k0) I ⟨_,I⟩) fun g0 x0=>?_
 obtain ⟨p1,v1,Y0,_⟩:=BR x0
 refine Ac (AS (vs:=[.bool false,g0]) (u:=.agg #[.bool false,g0]) (e2 I I) (fun p=>by rw [Y0]; try kernel_rfl))<|AV [.bool false,g0] k0 .hd (o2 I (AY x0)) fun E1 t0 I0=>Aa<|Am I<|Au hb0 func148 I (.cons (.many (cs:=[.bool false,g0]) I I (t0.memA .hd)) .nil) I ?_
 cases h
 exact ⟨t0.ag,fun p q=>⟨g0,I,t0.kd (Ao x0 I0) q⟩⟩
 intro s1 y0 h
 try dsimp only at h
 obtain ⟨B1,R0,z0⟩:=aq h
 refine MX.lo (α:=Int) (fun c0=>[(0,.bool a0),(1,v1_0),(4,vP j0),(5,vI c0)]) (fun c0=>[.cells j0 [.bool false,vN] 130]) (fun c0=>c0) ((a1.length:Nat):Int) R0 q0 ?_
 rintro t1 c0 G1 G0 p0 u0 h
 unfold ay_l1 at h
 try dsimp only at h
 refine Aj<|Af<|Ae I<|Ac (FV.gtr (i:=c0) (j:=0) I I)<|Ae I<|BD (s:=10) I h (fun D0 h=>?_) (fun D0 h=>?_)
 refine AG (Ai I)<|AG (Ai I)<|bk h fun g1 V0 h=>AG (BQ (i:=c0) (j:=1) I I V0)<|bk h fun B0 Z0 h=>?_
 obtain ⟨M0,b1⟩:=aA Z0
 obtain ⟨q1,x1,J0,P0,F0,U0,Q0⟩:=Bh (AT h1_0 p0) b1
 have K0:F0 = [vU B0]:=U0; subst K0
 refine AG (Bb 1 (g1.toNat) I J0 I M0 P0)<|AG (AP I (Q0 0 _ I))<|AG (FV.eqlU (a:=B0) (b:=(0:Ua)) I I)<|Bn I I<|Aa<|AQ I h (fun E0 h=>?_) (fun E0 h=>?_)
 refine Ar<|Ax<|Ap<|Ae I<|bk h fun j1 W0 h=>Ac (BQ (i:=c0) (j:=1) I I W0)<|Ag I<|Aa<|AC<|G0 j1 p0 u0 h
 refine AX I ?_
 have h:=z0 _ h
 try dsimp only at h
 exact y0 c0 p0 u0 h
 refine Aq<|Aq<|Aq<|Aq<|Aq<|Aq<|Bv I I<|Aa<|BF I<|AX I ?_
 have h:=z0 _ h
 try dsimp only at h
 exact y0 c0 p0 u0 h
def bW_l1 (_n:Nat) (a0:List Ua) (a1:List Ua) (g0:Int -> Oa (Int ⊕ Unit)):Int -> Oa (Int ⊕ Unit)
  | b0=>(if 0 <= b0 then (idx a0 b0).bind fun c0=>(idx a1 b0).bind fun d0=>(if c0 < d0 then some (.inl (-1:Int)) else (if d0 < c0 then some (.inl (1:Int)) else (chk (b0 - 1)).bind fun j0=>g0 j0)) else some (.inr ()))
def bW_p (n:Nat) (a0:List Ua) (a1:List Ua):Oa Int:=
  (if a0.length = a1.length then thn (aj (bW_l1 n a0 a1) n (((a0.length:Nat):Int) - 1)) (fun _=>some (0:Int)) else some (((a0.length:Nat):Int) - ((a1.length:Nat):Int)))
theorem bW_c (n:Nat) {L w} (_hL:hl L w) {a0:List Ua} {v0_0:Vc} (h0_0:Rep.R w L [v0_0] a0) {a1:List Ua} {v1_0:Vc} (h1_0:Rep.R w L [v1_0] a1)  {r:Int} (h:bW_p n a0 a1 = some r) :
 Cl 195 #[v0_0,v1_0] w (ae w fun _ u=>u = vI r):=by
 unfold bW_p at h
 have hS0:=AA w
 refine AF func195 I I I fun _ cs0 hb0=>Af<|Ag I<|Aa<|Aj<|Af<|Ae I ?_
 have hl1:=AU h0_0
 refine Ac (Ba (xs:=a0) underlying128 I h0_0)<|Ae I ?_
 have hl2:=AU h1_0
 refine Ac (Ba (xs:=a1) underlying128 I h1_0)<|Ac (FV.neqN (i:=a0.length) (j:=a1.length) I I)<|Aa<|MX.ifn I h (fun c3 h=>?_) (fun c3 h=>?_)
 refine Ar<|Aj<|Af<|Ae I<|Ac (Ba (xs:=a0) underlying128 I h0_0)<|Ac (FV.subI (i:=((a0.length:Nat):Int)) (j:=1) I I (by omega))<|Ag I<|Aa<|Ax<|tn h fun j1 M0 p0=>MX.lo (α:=Int) (fun d0=>[(0,v0_0),(1,v1_0),(5,vI d0)]) (fun d0=>[]) (fun d0=>d0) (((a0.length:Nat):Int) - 1) M0 hS0 ?_
 rintro c1 d0 k1 H0 k0 I0 h
 unfold bW_l1 at h
 try dsimp only at h
 refine Aj<|Af<|Ae I<|Ac (FV.geq (i:=d0) (j:=0) I I)<|Aa<|AQ I h (fun C0 h=>?_) (fun C0 h=>?_)
 refine Ar<|Aj<|Ax<|Ax<|Aj<|du 10 fun b0 g0=>Rv 0 b0 I g0 (fun _=>Ai I)<|Rv 1 b0 I g0 (fun _=>Ai I)<|bk h fun q0 U0 h=>?_
 obtain ⟨v0,V0⟩:=aA U0
 obtain ⟨Z0,d1,t0,y0,F0,P0,A0⟩:=Bh (AT h0_0 k0) V0
 have J0:F0 = [vU q0]:=P0; subst J0
 refine Rv 2 b0 I g0 (fun _=>Bb 1 (d0.toNat) I t0 I v0 y0)<|Rx 3 768 b0 I g0 (AP I (A0 0 _ I))<|Rv 4 b0 I g0 (fun _=>Ai I)<|Rv 5 b0 I g0 (fun _=>Ai I)<|bk h fun s0 W0 h=>?_
 obtain ⟨x0,X0⟩:=aA W0
 obtain ⟨b1,g1,u0,z0,G0,Q0,B0⟩:=Bh (AT h1_0 k0) X0
 have K0:G0 = [vU s0]:=Q0; subst K0
 refine Rv 6 b0 I g0 (fun _=>Bb 1 (d0.toNat) I u0 I x0 z0)<|Rx 7 768 b0 I g0 (AP I (B0 0 _ I))<|Rv 8 b0 I g0 (fun _=>FV.lssU (a:=q0) (b:=s0) I I)<|Rv 9 b0 I g0 (fun _=>Be I)<|AN (dk b0)<|AQ I h (fun D0 h=>?_) (fun D0 h=>?_)
 refine Af<|Ag I<|Aa ?_
 have h:=au h p0
 refine Am I<|AW hb0 func195 I I ?_
 cases h
 exact k0.gv
 refine Aj<|du 10 fun c0 j0=>Rv 0 c0 I j0 (fun _=>Ai I)<|Rv 1 c0 I j0 (fun _=>Ai I)<|Rv 2 c0 I j0 (fun _=>Bb 1 (d0.toNat) I t0 I v0 y0)<|Rx 3 768 c0 I j0 (AP I (A0 0 _ I))<|Rv 4 c0 I j0 (fun _=>Ai I)<|Rv 5 c0 I j0 (fun _=>Ai I)<|Rv 6 c0 I j0 (fun _=>Bb 1 (d0.toNat) I u0 I x0 z0)<|Rx 7 768 c0 I j0 (AP I (B0 0 _ I))<|Rv 8 c0 I j0 (fun _=>FV.gtrU (a:=q0) (b:=s0) I I)<|Rv 9 c0 I j0 (fun _=>Be I)<|AN (dk c0)<|AQ I h (fun E0 h=>?_) (fun E0 h=>?_)
 refine Af<|Ag I<|Aa ?_
 have h:=au h p0
 refine Am I<|AW hb0 func195 I I ?_
 cases h
 exact k0.gv
 refine Ar<|AC<|AC<|Ap<|Ae I<|bk h fun Y0 R0 h=>Ac (BQ (i:=d0) (j:=1) I I R0)<|Ag I<|Aa<|H0 Y0 k0 I0 h
 refine AX I ?_
 have h:=aC h p0
 try dsimp only at h
 refine Af<|Ag I<|Aa<|Am I<|AW hb0 func195 I I ?_
 cases h
 exact k0.gv
 refine Af<|Ae I<|Ac (Ba (xs:=a0) underlying128 I h0_0)<|Ae I<|Ac (Ba (xs:=a1) underlying128 I h1_0)<|Ac (FV.subI (i:=((a0.length:Nat):Int)) (j:=((a1.length:Nat):Int)) I I (by omega))<|Ag I<|Aa<|Am I<|AW hb0 func195 I I ?_
 cases h
 exact hS0.gv
theorem cN:ElT Tryz.prog 128 44 (Rep.size Ua) 8 (vW 0) [vW 0]:=⟨underlying128,by kernel_rfl,rfl,rfl,rfl,rfl⟩
def cp_l1 (_n:Nat) (a0:List Ua) (a1:List Ua) (j0:Ua × Nat × (List Ua) -> Oa (List Ua)):Ua × Nat × (List Ua) -> Oa (List Ua)
  | (k0,b0,c0)=>(if b0 < a0.length then (a0[b0]?).bind fun q0=>jn (fun p0=>(sub64 q0 p0 k0).bind fun g0=>(c0[b0]?).bind fun _x193=>(put c0 ((b0:Nat):Int) g0.1).bind fun t0=>j0 (g0.2,b0 + 1,t0)) (fun d0=>(if b0 < a1.length then (a1[b0]?).bind fun s0=>d0 s0 else d0 (0:Ua))) else some c0)
def cp_p (n:Nat) (a0:List Ua) (a1:List Ua):Oa (List Ua):=
  (mk ((a0.length:Nat):Int) (0:Ua)).bind fun b0=>Option.bind (aj (cp_l1 n a0 a1) n (0,0,b0)) (fun c0=>some c0)
theorem cp_c (n:Nat) {L w} (hL:hl L w) {a0:List Ua} {v0_0:Vc} (h0_0:Rep.R w L [v0_0] a0) {a1:List Ua} {v1_0:Vc} (h1_0:Rep.R w L [v1_0] a1)  {r:List Ua} (h:cp_p n a0 a1 = some r) :
 Cl 196 #[v0_0,v1_0] w (ae w fun w' u=>∃ v0_0:Vc,u = v0_0/\Rep.R w' L [v0_0] r):=by
 unfold cp_p at h
 refine AF func196 I I I fun _ cs0 hb0=>Af<|Ag I<|Aa<|Af<|Ae I ?_
 have hl1:=AU h0_0
 refine Ac (Ba (xs:=a0) underlying128 I h0_0)<|bk h fun H0 E0 h=>Al .plain I (Does.mk (α:=Ua) E0 (AA w) cN I) fun c2 k0 q0 W1=>Ag I<|Aa<|Af<|Ag I<|Aa<|Aj<|Af<|Ae I<|Ac (Ba (xs:=a0) underlying128 I (AT h0_0 q0))<|Ae I<|Aa<|Ax ?_
 obtain ⟨b2,v1,k1⟩:=aq h
 refine MX.lf (α:=Ua × Nat × (List Ua) × (List Vc)) (fun ⟨j0,b0,c0,d0⟩=>[(1,v1_0),(5,(.slice (some ⟨k0,0,none⟩) ((a0.length:Nat):Int).toNat ((a0.length:Nat):Int).toNat)),(6,vU j0),(13,v0_0),(14,vn a0.length),(15,vn b0)]) (fun ⟨j0,b0,c0,d0⟩=>[rr w 44 Ua (.slice (some ⟨k0,0,none⟩) ((a0.length:Nat):Int).toNat ((a0.length:Nat):Int).toNat) c0.length d0]) (fun ⟨j0,b0,c0,d0⟩ F0=>Cells F0 (bl [rr w 44 Ua (.slice (some ⟨k0,0,none⟩) ((a0.length:Nat):Int).toNat ((a0.length:Nat):Int).toNat) c0.length d0] ++ L) d0 c0) (fun ⟨j0,b0,c0,d0⟩=>(j0,b0,c0)) (0,0,H0,(List.replicate ((a0.length:Nat):Int).toNat [vW 0]).flatten) v1 q0 (AD (cs:=(List.replicate ((a0.length:Nat):Int).toNat [vW 0]).flatten) (xs:=H0) q0 L (BY E0 I)) ?_
 rintro M1 ⟨j0,b0,c0,d0⟩ F0 V0 g0 X0 A0 h
 unfold cp_l1 at h
 try dsimp only at h
 refine Af<|Ac (Bp (i:=b0) (j:=a0.length) I I)<|Aa<|Aj<|AQ I h (fun K0 h=>?_) (fun K0 h=>?_)
 refine Ar<|Aj<|Ax<|Af<|Ae I<|bk h fun x0 B1 h=>?_
 obtain ⟨J1,Q1,b1,p1,P0,x1,s1⟩:=Bh (AT h0_0 g0) B1
 have c1:P0 = [vU x0]:=x1; subst c1
 refine Ac (Bb 1 b0 I b1 I I p1)<|AR I (s1 0 _ I)<|Ag I<|Ag I<|Aa<|Af<|Ag I<|Aa<|Aj<|Af<|Ae I<|Ae I ?_
 have v0:=AT h1_0 g0
 have Y1:=AU v0
 refine Ac (Ba (xs:=a1) underlying128 I v0)<|Ac (Bp (i:=b0) (j:=a1.length) I I)<|Aa<|MX.jo (α:=Ua) (fun p0=>[(1,v1_0),(5,(.slice (some ⟨k0,0,none⟩) ((a0.length:Nat):Int).toNat ((a0.length:Nat):Int).toNat)),(6,vU j0),(13,v0_0),(14,vn a0.length),(15,vn b0),(7,vn b0),(8,vU x0),(9,vU p0)]) (fun p0=>[rr w 44 Ua (.slice (some ⟨k0,0,none⟩) ((a0.length:Nat):Int).toNat ((a0.length:Nat):Int).toNat) c0.length d0]) (fun p0=>p0) g0 h ?_ ?_
 rintro p0 g2 s0 z0 h
 try dsimp only at h
 refine Ap<|Ae I<|Ae I<|Ae I<|Ae I<|Ae I<|bk h fun I1 F1 h=>Ac (FV.sub64 (a:=x0) (b:=p0) (c:=j0) func204 I I I I I I I F1)<|Ae I<|Ac (Ak I I)<|Ac (Ak I I)<|bk h fun G1 C1 h=>?_
 have D0:=AB A0 z0
 obtain ⟨I0,R1,u0,C0,Q0,y1,Z1⟩:=BU (α:=Ua) s0 .hd D0 C1
 obtain ⟨J0,U1,B0⟩:=By (α:=Ua) s0 .hd C0
 obtain rfl:I0 = ⟨J0,0,none⟩:=by rw [B0] at u0; cases u0; rfl
 have d1:Q0 = [vU G1]:=y1; subst d1
 refine Ac (Bb 1 b0 I u0 I I C0)<|bk h fun H1 E1 h=>RG.acts' .plain (Cb (α:=Ua) (i:=b0) E1 s0 B0 (fun _=>.hd) D0 I I I I I I) fun d2 ⟨R0,W0,Y0,Z0⟩=>Ag I<|Aa<|AC<|Ap<|Ac (Bl (i:=b0) (j:=1) I I (by omega))<|Ae I<|Aa<|V0 (I1.2,b0 + 1,H1,R0) W0 (Tt X0 (Tt z0 Y0)) Z0 h
 intro P1 y0 h
 try dsimp only at h
 refine AQ I h (fun M0 h=>?_) (fun M0 h=>?_)
 refine Ap<|Ae I<|Ae I<|bk h fun G0 D1 h=>?_
 obtain ⟨K1,V1,g1,q1,U0,z1,u1⟩:=Bh v0 D1
 have j1:U0 = [vU G0]:=z1; subst j1
 refine Ac (Bb 1 b0 I g1 I I q1)<|AR I (u1 0 _ I)<|Ag I<|Aa<|y0 G0 g0 (Bx _ _) h
 refine Ar<|y0 (0:Ua) g0 (Bx _ _) h
 refine AX I ?_
 have h:=k1 _ h
 try dsimp only at h
 refine Af<|Ae I<|Ag I<|Aa<|Am I ?_
 have t0:=BA g0 .hd
 have X1:=BB g0 .hd
 have A1:=BC (α:=Ua) (v:=(.slice (some ⟨k0,0,none⟩) ((a0.length:Nat):Int).toNat ((a0.length:Nat):Int).toNat)) (xs:=c0) t0 L (Bg (α:=Ua) g0 .hd A0 hL)
 refine AW hb0 func196 I I ?_
 cases h
 exact ⟨t0.ag,fun p q=>⟨(.slice (some ⟨k0,0,none⟩) ((a0.length:Nat):Int).toNat ((a0.length:Nat):Int).toNat),I,t0.kd A1 q⟩⟩
def cZ:List UInt8:=[0,1,2,2,3,3,3,3,4,4,4,4,4,4,4,4,5,5,5,5,5,5,5,5,5,5,5,5,5,5,5,5,6,6,6,6,6,6,6,6,6,6,6,6,6,6,6,6,6,6,6,6,6,6,6,6,6,6,6,6,6,6,6,6,7,7,7,7,7,7,7,7,7,7,7,7,7,7,7,7,7,7,7,7,7,7,7,7,7,7,7,7,7,7,7,7,7,7,7,7,7,7,7,7,7,7,7,7,7,7,7,7,7,7,7,7,7,7,7,7,7,7,7,7,7,7,7,7,8,8,8,8,8,8,8,8,8,8,8,8,8,8,8,8,8,8,8,8,8,8,8,8,8,8,8,8,8,8,8,8,8,8,8,8,8,8,8,8,8,8,8,8,8,8,8,8,8,8,8,8,8,8,8,8,8,8,8,8,8,8,8,8,8,8,8,8,8,8,8,8,8,8,8,8,8,8,8,8,8,8,8,8,8,8,8,8,8,8,8,8,8,8,8,8,8,8,8,8,8,8,8,8,8,8,8,8,8,8,8,8,8,8,8,8,8,8,8,8,8,8,8,8,8,8,8,8]
def cB_p (_n:Nat) (a0:Ua):Oa Int:=
  jn (fun (u2,i3)=>jn (fun (b0,g0)=>jn (fun (q0,s0)=>(cZ[(eX q0).toNat]?).bind fun t0=>(chk (s0 + ((t0.toNat:Nat):Int))).bind fun j0=>some j0) (fun d0=>(if (256:Ua) <= b0 then (chk (g0 + 8)).bind fun k0=>d0 (shrU b0 8,k0) else d0 (b0,g0)))) (fun c0=>(if (65536:Ua) <= u2 then (chk (((i3:Nat):Int) + 16)).bind fun p0=>c0 (shrU u2 16,p0) else c0 (u2,((i3:Nat):Int))))) (fun J7=>(if (4294967296:Ua) <= a0 then J7 (shrU a0 32,32) else J7 (a0,0)))
theorem cB_c (n:Nat) {L w} (_hL:hl L w) (a0:Ua)  {r:Int} (h:cB_p n a0 = some r) :
 Cl 136 #[vU a0] w (ae w fun _ u=>u = vI r):=by
 unfold cB_p at h
 have hS0:=AA w
 refine AF func136 I I I fun _ cs0 hb0=>Af<|Ag I<|Aa<|Aj<|Af<|Ae I<|Ac (FV.geqU (a:=a0) (b:=(4294967296:Ua)) I I)<|Aa<|MX.jo (α:=Ua × Nat) (fun ⟨u2,i3⟩=>[(0,vU u2),(2,vn i3)]) (fun ⟨u2,i3⟩=>[]) (fun ⟨u2,i3⟩=>(u2,i3)) hS0 h ?_ ?_
 rintro ⟨u2,i3⟩ wx3 hS4 hT5 h
 try dsimp only at h
 refine Aj<|Af<|Ae I<|Ac (FV.geqU (a:=u2) (b:=(65536:Ua)) I I)<|Aa<|MX.jo (α:=Ua × Int) (fun ⟨b0,d0⟩=>[(0,vU b0),(2,vI d0)]) (fun ⟨b0,d0⟩=>[]) (fun ⟨b0,d0⟩=>(b0,d0)) hS4 h ?_ ?_
 rintro ⟨b0,d0⟩ J0 j0 F0 h
 try dsimp only at h
 refine Aj<|Af<|Ae I<|Ac (FV.geqU (a:=b0) (b:=(256:Ua)) I I)<|Aa<|MX.jo (α:=Ua × Int) (fun ⟨c0,g0⟩=>[(0,vU c0),(2,vI g0)]) (fun ⟨c0,g0⟩=>[]) (fun ⟨c0,g0⟩=>(c0,g0)) j0 h ?_ ?_
 rintro ⟨c0,g0⟩ K0 v0 G0 h
 try dsimp only at h
 refine Af<|Ae I<|Ae I<|Ac (FV.conv8 (a:=c0) underlying44 underlying5 I)<|bk h fun k0 A0 h=>Ac (FV.strIdx (k:=(eX c0).toNat) (tab:=cZ) underlying9 I I I I A0) ?_
 have H0:=k0.toNat_lt
 refine Ac (FV.convN (i:=k0.toNat) underlying5 underlying3 I (by omega))<|bk h fun I0 x0 h=>Ac (Bw (i:=g0) (j:=((k0.toNat:Nat):Int)) I I x0)<|Ag I<|Aa<|Am I<|AW hb0 func136 I I ?_
 cases h
 exact v0.gv
 intro E0 q0 h
 try dsimp only at h
 refine AQ I h (fun s0 h=>?_) (fun s0 h=>?_)
 refine Af<|Ae I<|Ac (FV.shrU (a:=b0) (j:=8) I I)<|Ag I<|Aa<|Ap<|Ae I<|bk h fun B0 y0 h=>Ac (Bw (i:=d0) (j:=8) I I y0)<|Ag I<|Aa<|q0 (shrU b0 8,B0) j0 (Bx _ _) h
 refine Ar<|q0 (b0,d0) j0 (Bx _ _) h
 intro D0 p0 h
 try dsimp only at h
 refine AQ I h (fun t0 h=>?_) (fun t0 h=>?_)
 refine Af<|Ae I<|Ac (FV.shrU (a:=u2) (j:=16) I I)<|Ag I<|Aa<|Ap<|Ae I<|bk h fun C0 z0 h=>Ac (Bw (i:=((i3:Nat):Int)) (j:=16) I I z0)<|Ag I<|Aa<|p0 (shrU u2 16,C0) hS4 (Bx _ _) h
 refine Ar<|p0 (u2,((i3:Nat):Int)) hS4 (Bx _ _) h
 intro J7 hJ8 h
 try dsimp only at h
 refine AQ I h (fun u0 h=>?_) (fun u0 h=>?_)
 refine Af<|Ae I<|Ac (FV.shrU (a:=a0) (j:=32) I I)<|Ag I<|Aa<|Ap<|Ag I<|Aa<|hJ8 (shrU a0 32,32) hS0 (Bx _ _) h
 refine Ar<|hJ8 (a0,0) hS0 (Bx _ _) h
def bm_p (n:Nat) (a0:Ua):Oa Int:=
  (cB_p n a0).bind fun y1=>(chk (64 - y1)).bind fun s2=>some s2
theorem bm_c (n:Nat) {L w} (hL:hl L w) (a0:Ua)  {r:Int} (h:bm_p n a0 = some r) :
 Cl 218 #[vU a0] w (ae w fun _ u=>u = vI r):=by
 unfold bm_p at h
 have hS0:=AA w
 refine AF func218 I I I fun _ cs0 hb0=>Af<|Ag I<|Aa<|Af<|Ae I<|bk h fun y1 hy1 h=>Bj (vI y1) (bd 136) I (e1 I) (fun p q=>cB_c n (hS0.hL0 hL q) a0 hy1) I<|bk h fun s2 hs2 h=>Ac (BQ (i:=64) (j:=y1) I I hs2)<|Ag I<|Aa<|Am I<|AW hb0 func218 I I ?_
 cases h
 exact hS0.gv
def aN_l1 (_n:Nat) (a2:Ua) (y8:Int) (a1:Ua) (d0:Ua × Ua -> Oa Ua):Ua × Ua -> Oa Ua
  | (b0,c0)=>(if (4294967296:Ua) <= b0 then (if (4294967296:Ua) <= (c0 + (shrU (shlU a2 (ac y8).toNat) 32)) then some (b0 - (1:Ua)) else d0 (b0 - (1:Ua),c0 + (shrU (shlU a2 (ac y8).toNat) 32))) else (if (((4294967296:Ua) * c0) + ((shlU a1 (ac y8).toNat) &&& (4294967295:Ua))) < (b0 * ((shlU a2 (ac y8).toNat) &&& (4294967295:Ua))) then (if (4294967296:Ua) <= (c0 + (shrU (shlU a2 (ac y8).toNat) 32)) then some (b0 - (1:Ua)) else d0 (b0 - (1:Ua),c0 + (shrU (shlU a2 (ac y8).toNat) 32))) else some b0))
def aN_l2 (_n:Nat) (a2:Ua) (y8:Int) (a1:Ua) (d0:Ua × Ua -> Oa Ua):Ua × Ua -> Oa Ua
  | (b0,c0)=>(if (4294967296:Ua) <= b0 then (if (4294967296:Ua) <= (c0 + (shrU (shlU a2 (ac y8).toNat) 32)) then some (b0 - (1:Ua)) else d0 (b0 - (1:Ua),c0 + (shrU (shlU a2 (ac y8).toNat) 32))) else (if (((4294967296:Ua) * c0) + (shrU (shlU a1 (ac y8).toNat) 32)) < (b0 * ((shlU a2 (ac y8).toNat) &&& (4294967295:Ua))) then (if (4294967296:Ua) <= (c0 + (shrU (shlU a2 (ac y8).toNat) 32)) then some (b0 - (1:Ua)) else d0 (b0 - (1:Ua),c0 + (shrU (shlU a2 (ac y8).toNat) 32))) else some b0))
def aN_p (n:Nat) (a0:Ua) (a1:Ua) (a2:Ua):Oa (Ua × Ua):=
  (if a2 = (0:Ua) then none else (if a2 <= a0 then none else (if a0 = (0:Ua) then (jr a1 a2).bind fun s6=>(mT a1 a2).bind fun s7=>some (s6,s7) else (bm_p n a2).bind fun y8=>(jr ((shlU a0 (ac y8).toNat) ||| (shrU a1 ((64:Ua) - (ac y8)).toNat)) (shrU (shlU a2 (ac y8).toNat) 32)).bind fun s9=>(some (((shlU a0 (ac y8).toNat) ||| (shrU a1 ((64:Ua) - (ac y8)).toNat)) - (s9 * (shrU (shlU a2 (ac y8).toNat) 32)))).bind fun p0=>jn (fun b0=>(some (((shlU a0 (ac y8).toNat) ||| (shrU a1 ((64:Ua) - (ac y8)).toNat)) * (4294967296:Ua))).bind fun c0=>(jr ((c0 + (shrU (shlU a1 (ac y8).toNat) 32)) - (b0 * (shlU a2 (ac y8).toNat))) (shrU (shlU a2 (ac y8).toNat) 32)).bind fun d0=>(some (((c0 + (shrU (shlU a1 (ac y8).toNat) 32)) - (b0 * (shlU a2 (ac y8).toNat))) - (d0 * (shrU (shlU a2 (ac y8).toNat) 32)))).bind fun q0=>jn (fun g0=>(some (((c0 + (shrU (shlU a1 (ac y8).toNat) 32)) - (b0 * (shlU a2 (ac y8).toNat))) * (4294967296:Ua))).bind fun s0=>(some ((s0 + ((shlU a1 (ac y8).toNat) &&& (4294967295:Ua))) - (g0 * (shlU a2 (ac y8).toNat)))).bind fun t0=>some ((b0 * (4294967296:Ua)) + g0,shrU t0 (ac y8).toNat)) (fun k0=>Option.bind (aj (aN_l1 n a2 y8 a1) n (d0,q0)) (k0))) (fun j0=>Option.bind (aj (aN_l2 n a2 y8 a1) n (s9,p0)) (j0)))))
theorem aN_c (n:Nat) {L w} (hL:hl L w) (a0:Ua) (a1:Ua) (a2:Ua)  {r:Ua × Ua} (h:aN_p n a0 a1 a2 = some r) :
 Cl 201 #[vU a0,vU a1,vU a2] w (ae w fun _ u=>u = .tuple #[vU r.1,vU r.2]):=by
 unfold aN_p at h
 have hS0:=AA w
 refine AF func201 I I I fun _ cs0 hb0=>Af<|Ag I<|Ag I<|Aa<|Aj<|Af<|Ae I<|Ac (FV.eqlU (a:=a2) (b:=(0:Ua)) I I)<|Aa<|AQ I h (fun c1 h=>?_) (fun c1 h=>?_)
 refine Ap ?_
 cases h
 refine Ar<|Aj<|Af<|Ae I<|Ae I<|Ac (FV.leqU (a:=a2) (b:=a0) I I)<|Aa<|AQ I h (fun c2 h=>?_) (fun c2 h=>?_)
 refine Ap ?_
 cases h
 refine Ar<|Aj<|Af<|Ae I<|Ac (FV.eqlU (a:=a0) (b:=(0:Ua)) I I)<|Aa<|AQ I h (fun c3 h=>?_) (fun c3 h=>?_)
 refine Aj<|du 8 fun kt4 kp5=>Rv 0 kt4 I kp5 (fun _=>Ai I)<|Rv 1 kt4 I kp5 (fun _=>Ai I)<|bk h fun s6 hs6 h=>Rv 2 kt4 I kp5 (fun _=>FV.quoV (a:=a1) (b:=a2) I I hs6)<|Rv 3 kt4 I kp5 (fun _=>Ai I)<|Rv 4 kt4 I kp5 (fun _=>Ai I)<|bk h fun s7 hs7 h=>Rv 5 kt4 I kp5 (fun _=>FV.remV (a:=a1) (b:=a2) I I hs7)<|Rv 6 kt4 I kp5 (fun _=>Be I)<|Rv 7 kt4 I kp5 (fun _=>Be I)<|AN (dk kt4)<|Am I<|Au hb0 func201 I (.cons (.tmp I) (.cons (.tmp I) .nil)) I ?_
 cases h
 exact hS0.gv
 refine Ar<|Af<|Ae I<|bk h fun y8 hy8 h=>Bj (vI y8) (bd 218) I (e1 I) (fun p q=>bm_c n (hS0.hL0 hL q) a2 hy8) I<|Ac (FV.convU (i:=y8) underlying3 underlying149 I)<|Ag I<|Aa<|Af<|Ae I<|Ae I<|Ac (FV.shlU (a:=a2) (j:=(ac y8).toNat) I I)<|Ag I<|Aa<|Af<|Ae I<|Ac (FV.shrU (a:=shlU a2 (ac y8).toNat) (j:=32) I I)<|Ag I<|Aa<|Af<|Ae I<|Ac (FV.andU (a:=shlU a2 (ac y8).toNat) (b:=(4294967295:Ua)) I I)<|Ag I<|Aa<|Af<|Ae I<|Ae I<|Ac (FV.shlU (a:=a0) (j:=(ac y8).toNat) I I)<|Ae I<|Ae I<|Ac (FV.subU (a:=(64:Ua)) (b:=ac y8) I I)<|Ac (FV.shrU (a:=a1) (j:=((64:Ua) - (ac y8)).toNat) I I)<|Ac (FV.orU (a:=shlU a0 (ac y8).toNat) (b:=shrU a1 ((64:Ua) - (ac y8)).toNat) I I)<|Ag I<|Aa<|Af<|Ae I<|Ae I<|Ac (FV.shlU (a:=a1) (j:=(ac y8).toNat) I I)<|Ag I<|Aa<|Af<|Ae I<|Ac (FV.shrU (a:=shlU a1 (ac y8).toNat) (j:=32) I I)<|Ag I<|Aa<|Af<|Ae I<|Ac (FV.andU (a:=shlU a1 (ac y8).toNat) (b:=(4294967295:Ua)) I I)<|Ag I<|Aa<|Af<|Ae I<|Ae I<|bk h fun s9 hs9 h=>Ac (FV.quoV (a:=(shlU a0 (ac y8).toNat) ||| (shrU a1 ((64:Ua) - (ac y8)).toNat)) (b:=shrU (shlU a2 (ac y8).toNat) 32) I I hs9)<|Ag I<|Aa<|Af<|Ae I ?_
 refine Ae I<|Ae I<|Ac (FV.mulU (a:=s9) (b:=shrU (shlU a2 (ac y8).toNat) 32) I I)<|bk h fun d1 W0 h=>Ac (FV.as (FV.subU (a:=(shlU a0 (ac y8).toNat) ||| (shrU a1 ((64:Ua) - (ac y8)).toNat)) (b:=s9 * (shrU (shlU a2 (ac y8).toNat) 32)) I I) (congrArg (fun z:Ua=>Value.int .u64 (z.toNat:Int)) (Option.some.inj W0)))<|Ag I<|Aa<|Aj<|Ax<|MX.xo (α:=Ua) 0 (fun b0=>[(2,vW ((shlU a2 (ac y8).toNat).toNat:Int)),(8,vW ((ac y8).toNat:Int)),(9,vW ((shrU (shlU a2 (ac y8).toNat) 32).toNat:Int)),(10,vW (((shlU a2 (ac y8).toNat) &&& (4294967295:Ua)).toNat:Int)),(11,vW (((shlU a0 (ac y8).toNat) ||| (shrU a1 ((64:Ua) - (ac y8)).toNat)).toNat:Int)),(13,vW ((shrU (shlU a1 (ac y8).toNat) 32).toNat:Int)),(14,vW (((shlU a1 (ac y8).toNat) &&& (4294967295:Ua)).toNat:Int)),(15,vU b0)]) (fun b0=>[]) (fun b0=>b0) hS0 I h ?_ ?_
 rintro b0 A1 D0 t1 h
 try dsimp only at h
 refine Af<|Ae I<|bk h fun p0 X0 h=>Ac (FV.as (FV.mulU (a:=(shlU a0 (ac y8).toNat) ||| (shrU a1 ((64:Ua) - (ac y8)).toNat)) (b:=(4294967296:Ua)) I I) (congrArg (fun z:Ua=>Value.int .u64 (z.toNat:Int)) (Option.some.inj X0)))<|Ae I<|Ac (FV.addU (a:=p0) (b:=shrU (shlU a1 (ac y8).toNat) 32) I I)<|Ae I<|Ae I<|Ac (FV.mulU (a:=b0) (b:=shlU a2 (ac y8).toNat) I I)<|Ac (FV.subU (a:=p0 + (shrU (shlU a1 (ac y8).toNat) 32)) (b:=b0 * (shlU a2 (ac y8).toNat)) I I)<|Ag I<|Aa<|Af<|Ae I<|Ae I<|bk h fun A0 V0 h=>Ac (FV.quoV (a:=(p0 + (shrU (shlU a1 (ac y8).toNat) 32)) - (b0 * (shlU a2 (ac y8).toNat))) (b:=shrU (shlU a2 (ac y8).toNat) 32) I I V0)<|Ag I<|Aa<|Af<|Ae I<|Ae I<|Ae I<|Ac (FV.mulU (a:=A0) (b:=shrU (shlU a2 (ac y8).toNat) 32) I I)<|bk h fun g1 Y0 h=>Ac (FV.as (FV.subU (a:=(p0 + (shrU (shlU a1 (ac y8).toNat) 32)) - (b0 * (shlU a2 (ac y8).toNat))) (b:=A0 * (shrU (shlU a2 (ac y8).toNat) 32)) I I) (congrArg (fun z:Ua=>Value.int .u64 (z.toNat:Int)) (Option.some.inj Y0)))<|Ag I<|Aa<|Aj<|Ax<|MX.xo (α:=Ua) 2 (fun k0=>[(2,vW ((shlU a2 (ac y8).toNat).toNat:Int)),(8,vW ((ac y8).toNat:Int)),(14,vW (((shlU a1 (ac y8).toNat) &&& (4294967295:Ua)).toNat:Int)),(15,vU b0),(17,vW (((p0 + (shrU (shlU a1 (ac y8).toNat) 32)) - (b0 * (shlU a2 (ac y8).toNat))).toNat:Int)),(18,vU k0)]) (fun k0=>[]) (fun k0=>k0) D0 I h ?_ ?_
 rintro k0 B1 Q0 u1 h
 try dsimp only at h
 refine Af<|Ae I<|Ac (FV.mulU (a:=b0) (b:=(4294967296:Ua)) I I)<|Ae I<|Ac (FV.addU (a:=b0 * (4294967296:Ua)) (b:=k0) I I)<|Ae I<|bk h fun E0 Z0 h=>Ac (FV.as (FV.mulU (a:=(p0 + (shrU (shlU a1 (ac y8).toNat) 32)) - (b0 * (shlU a2 (ac y8).toNat))) (b:=(4294967296:Ua)) I I) (congrArg (fun z:Ua=>Value.int .u64 (z.toNat:Int)) (Option.some.inj Z0)))<|Ae I<|Ac (FV.addU (a:=E0) (b:=(shlU a1 (ac y8).toNat) &&& (4294967295:Ua)) I I)<|Ae I<|Ae I<|Ac (FV.mulU (a:=k0) (b:=shlU a2 (ac y8).toNat) I I)<|bk h fun j1 b1 h=>Ac (FV.as (FV.subU (a:=E0 + ((shlU a1 (ac y8).toNat) &&& (4294967295:Ua))) (b:=k0 * (shlU a2 (ac y8).toNat)) I I) (congrArg (fun z:Ua=>Value.int .u64 (z.toNat:Int)) (Option.some.inj b1)))<|Ae I<|Ac (FV.shrU (a:=j1) (j:=(ac y8).toNat) I I)<|Ag I<|Ag I<|Aa<|Am I<|Au hb0 func201 I (.cons (.tmp I) (.cons (.tmp I) .nil)) I ?_
 cases h
 exact Q0.gv
 intro s1 x0 h
 try dsimp only at h
 obtain ⟨v1,R0,y0⟩:=aq h
 refine MX.lo (α:=Ua × Ua) (fun ⟨c0,g0⟩=>[(2,vW ((shlU a2 (ac y8).toNat).toNat:Int)),(8,vW ((ac y8).toNat:Int)),(9,vW ((shrU (shlU a2 (ac y8).toNat) 32).toNat:Int)),(10,vW (((shlU a2 (ac y8).toNat) &&& (4294967295:Ua)).toNat:Int)),(14,vW (((shlU a1 (ac y8).toNat) &&& (4294967295:Ua)).toNat:Int)),(15,vU b0),(17,vW (((p0 + (shrU (shlU a1 (ac y8).toNat) 32)) - (b0 * (shlU a2 (ac y8).toNat))).toNat:Int)),(18,vU c0),(16,vU g0)]) (fun ⟨c0,g0⟩=>[]) (fun ⟨c0,g0⟩=>(c0,g0)) (A0,g1) R0 D0 ?_
 rintro k1 ⟨c0,g0⟩ y1 B0 q0 t0 h
 unfold aN_l1 at h
 try dsimp only at h
 refine Aj<|Af<|Ae I<|Ac (FV.geqU (a:=c0) (b:=(4294967296:Ua)) I I)<|Ae I<|BD (s:=104) I h (fun F0 h=>?_) (fun F0 h=>?_)
 refine Aq<|Aq<|Aq<|Aq<|Aq<|Aq<|Aq<|Aq<|Bn I I<|Aa<|Bq I<|Ar<|Ax<|Af<|Ae I<|Ac (FV.subU (a:=c0) (b:=(1:Ua)) I I)<|Ag I<|Aa<|Af<|Ae I<|Ae I<|Ac (FV.addU (a:=g0) (b:=shrU (shlU a2 (ac y8).toNat) 32) I I)<|Ag I<|Aa<|Af<|Ae I<|Ac (FV.geqU (a:=g0 + (shrU (shlU a2 (ac y8).toNat) 32)) (b:=(4294967296:Ua)) I I)<|Aa<|AQ I h (fun G0 h=>?_) (fun G0 h=>?_)
 refine AX I ?_
 have h:=y0 _ h
 try dsimp only at h
 exact x0 (c0 - (1:Ua)) q0 t0 h
 refine Ar<|AC<|B0 (c0 - (1:Ua),g0 + (shrU (shlU a2 (ac y8).toNat) 32)) q0 t0 h
 refine AG (Ai I)<|AG (Ai I)<|AG (FV.mulU (a:=c0) (b:=(shlU a2 (ac y8).toNat) &&& (4294967295:Ua)) I I)<|AG (Ai I)<|AG (FV.mulU (a:=(4294967296:Ua)) (b:=g0) I I)<|AG (Ai I)<|AG (FV.addU (a:=(4294967296:Ua) * g0) (b:=(shlU a1 (ac y8).toNat) &&& (4294967295:Ua)) I I)<|AG (FV.gtrU (a:=c0 * ((shlU a2 (ac y8).toNat) &&& (4294967295:Ua))) (b:=((4294967296:Ua) * g0) + ((shlU a1 (ac y8).toNat) &&& (4294967295:Ua))) I I)<|Bv I I<|Aa<|AQ I h (fun H0 h=>?_) (fun H0 h=>?_)
 refine Ar<|Ax<|Af<|Ae I<|Ac (FV.subU (a:=c0) (b:=(1:Ua)) I I)<|Ag I<|Aa<|Af<|Ae I<|Ae I<|Ac (FV.addU (a:=g0) (b:=shrU (shlU a2 (ac y8).toNat) 32) I I)<|Ag I<|Aa<|Af<|Ae I<|Ac (FV.geqU (a:=g0 + (shrU (shlU a2 (ac y8).toNat) 32)) (b:=(4294967296:Ua)) I I)<|Aa<|AQ I h (fun I0 h=>?_) (fun I0 h=>?_)
 refine AX I ?_
 have h:=y0 _ h
 try dsimp only at h
 exact x0 (c0 - (1:Ua)) q0 t0 h
 refine Ar<|AC<|B0 (c0 - (1:Ua),g0 + (shrU (shlU a2 (ac y8).toNat) 32)) q0 t0 h
 refine AX I ?_
 have h:=y0 _ h
 try dsimp only at h
 exact x0 c0 q0 t0 h
 intro q1 v0 h
 try dsimp only at h
 obtain ⟨x1,U0,z0⟩:=aq h
 refine MX.lo (α:=Ua × Ua) (fun ⟨d0,j0⟩=>[(2,vW ((shlU a2 (ac y8).toNat).toNat:Int)),(8,vW ((ac y8).toNat:Int)),(9,vW ((shrU (shlU a2 (ac y8).toNat) 32).toNat:Int)),(10,vW (((shlU a2 (ac y8).toNat) &&& (4294967295:Ua)).toNat:Int)),(11,vW (((shlU a0 (ac y8).toNat) ||| (shrU a1 ((64:Ua) - (ac y8)).toNat)).toNat:Int)),(13,vW ((shrU (shlU a1 (ac y8).toNat) 32).toNat:Int)),(14,vW (((shlU a1 (ac y8).toNat) &&& (4294967295:Ua)).toNat:Int)),(15,vU d0),(16,vU j0)]) (fun ⟨d0,j0⟩=>[]) (fun ⟨d0,j0⟩=>(d0,j0)) (s9,d1) U0 hS0 ?_
 rintro p1 ⟨d0,j0⟩ z1 C0 s0 u0 h
 unfold aN_l2 at h
 try dsimp only at h
 refine Aj<|Af<|Ae I<|Ac (FV.geqU (a:=d0) (b:=(4294967296:Ua)) I I)<|Ae I<|BD (s:=69) I h (fun J0 h=>?_) (fun J0 h=>?_)
 refine Aq<|Aq<|Aq<|Aq<|Aq<|Aq<|Aq<|Aq<|Bn I I<|Aa<|Bq I<|Ar<|Ax<|Af<|Ae I<|Ac (FV.subU (a:=d0) (b:=(1:Ua)) I I)<|Ag I<|Aa<|Af<|Ae I<|Ae I<|Ac (FV.addU (a:=j0) (b:=shrU (shlU a2 (ac y8).toNat) 32) I I)<|Ag I<|Aa<|Af<|Ae I<|Ac (FV.geqU (a:=j0 + (shrU (shlU a2 (ac y8).toNat) 32)) (b:=(4294967296:Ua)) I I)<|Aa<|AQ I h (fun K0 h=>?_) (fun K0 h=>?_)
 refine AX I ?_
 have h:=z0 _ h
 try dsimp only at h
 exact v0 (d0 - (1:Ua)) s0 u0 h
 refine Ar<|AC<|C0 (d0 - (1:Ua),j0 + (shrU (shlU a2 (ac y8).toNat) 32)) s0 u0 h
 refine AG (Ai I)<|AG (Ai I)<|AG (FV.mulU (a:=d0) (b:=(shlU a2 (ac y8).toNat) &&& (4294967295:Ua)) I I)<|AG (Ai I)<|AG (FV.mulU (a:=(4294967296:Ua)) (b:=j0) I I)<|AG (Ai I)<|AG (FV.addU (a:=(4294967296:Ua) * j0) (b:=shrU (shlU a1 (ac y8).toNat) 32) I I)<|AG (FV.gtrU (a:=d0 * ((shlU a2 (ac y8).toNat) &&& (4294967295:Ua))) (b:=((4294967296:Ua) * j0) + (shrU (shlU a1 (ac y8).toNat) 32)) I I)<|Bv I I<|Aa<|AQ I h (fun M0 h=>?_) (fun M0 h=>?_)
 refine Ar<|Ax<|Af<|Ae I<|Ac (FV.subU (a:=d0) (b:=(1:Ua)) I I)<|Ag I<|Aa<|Af<|Ae I<|Ae I<|Ac (FV.addU (a:=j0) (b:=shrU (shlU a2 (ac y8).toNat) 32) I I)<|Ag I<|Aa<|Af<|Ae I<|Ac (FV.geqU (a:=j0 + (shrU (shlU a2 (ac y8).toNat) 32)) (b:=(4294967296:Ua)) I I)<|Aa<|AQ I h (fun P0 h=>?_) (fun P0 h=>?_)
 refine AX I ?_
 have h:=z0 _ h
 try dsimp only at h
 exact v0 (d0 - (1:Ua)) s0 u0 h
 refine Ar<|AC<|C0 (d0 - (1:Ua),j0 + (shrU (shlU a2 (ac y8).toNat) 32)) s0 u0 h
 refine AX I ?_
 have h:=z0 _ h
 try dsimp only at h
 exact v0 d0 s0 u0 h
def dD_p (n:Nat) (a0:List Ua):Oa Int:=
  (if a0.length = 0 then some (0:Int) else (chk (64 * ((a0.length:Nat):Int))).bind fun s3=>(idx a0 (((a0.length:Nat):Int) - 1)).bind fun x4=>(bm_p n x4).bind fun c0=>(chk (s3 - c0)).bind fun b0=>some b0)
theorem dD_c (n:Nat) {L w} (hL:hl L w) {a0:List Ua} {v0_0:Vc} (h0_0:Rep.R w L [v0_0] a0)  {r:Int} (h:dD_p n a0 = some r) :
 Cl 202 #[v0_0] w (ae w fun _ u=>u = vI r):=by
 unfold dD_p at h
 have hS0:=AA w
 refine AF func202 I I I fun _ cs0 hb0=>Af<|Ag I<|Aa<|Aj<|Af<|Ae I ?_
 have hl1:=AU h0_0
 refine Ac (Ba (xs:=a0) underlying128 I h0_0)<|Ac (BP (i:=a0.length) (j:=0) I I)<|Aa<|AQ I h (fun c2 h=>?_) (fun c2 h=>?_)
 refine Af<|Ag I<|Aa<|Am I<|AW hb0 func202 I I ?_
 cases h
 exact hS0.gv
 refine Ar<|Af<|Ae I<|Ac (Ba (xs:=a0) underlying128 I h0_0)<|bk h fun s3 hs3 h=>Ac (FV.mulc (i:=64) (j:=((a0.length:Nat):Int)) I I hs3)<|Ae I<|Ae I<|Ac (Ba (xs:=a0) underlying128 I h0_0)<|Ac (FV.subI (i:=((a0.length:Nat):Int)) (j:=1) I I (by omega))<|bk h fun x4 hx4 h=>?_
 obtain ⟨hi5,hx6⟩:=aA hx4
 obtain ⟨A7,c8,he9,g0,c0,k0,j0⟩:=Bh h0_0 hx6
 have d0:c0 = [vU x4]:=k0; subst d0
 refine Ac (FV.idxAddr (m:=1) (i:=(((a0.length:Nat):Int) - 1).toNat) I I he9 I hi5 g0)<|AR I (j0 0 _ I)<|bk h fun b0 q0 h=>Bj (vI b0) (bd 218) I (e1 I) (fun p q=>bm_c n (hS0.hL0 hL q) x4 q0) I<|bk h fun s0 p0 h=>Ac (BQ (i:=s3) (j:=b0) I I p0)<|Ag I<|Aa<|Am I<|AW hb0 func202 I I ?_
 cases h
 exact hS0.gv
def dq_l1 (_n:Nat) (a0:List Ua) (a1:Int) (g0:Nat × (List Ua) -> Oa (List Ua)):Nat × (List Ua) -> Oa (List Ua)
  | (b0,c0)=>(if b0 < a0.length then (a0[b0]?).bind fun p0=>(cj a1 64).bind fun t0=>(chk (((b0:Nat):Int) + t0)).bind fun j0=>(idx c0 j0).bind fun B0=>(ca a1 64).bind fun u0=>(bG u0).bind fun q0=>(put c0 ((j0.toNat:Nat):Int) (B0 ||| (shlU p0 q0))).bind fun d0=>(ca a1 64).bind fun v0=>(if 0 < v0 then (cj a1 64).bind fun x0=>(chk (((b0:Nat):Int) + x0)).bind fun y0=>(chk (y0 + 1)).bind fun k0=>(ca a1 64).bind fun z0=>(chk (64 - z0)).bind fun A0=>(bG A0).bind fun s0=>(idx d0 k0).bind fun _x218=>(put d0 ((k0.toNat:Nat):Int) (shrU p0 s0)).bind fun C0=>g0 (b0 + 1,C0) else g0 (b0 + 1,d0)) else some c0)
def dq_p (n:Nat) (a0:List Ua) (a1:Int):Oa (List Ua):=
  (cj a1 64).bind fun s2=>(chk (((a0.length:Nat):Int) + s2)).bind fun s3=>(chk (s3 + 1)).bind fun s4=>(mk s4 (0:Ua)).bind fun b0=>Option.bind (aj (dq_l1 n a0 a1) n (0,b0)) (fun c0=>(ay_p n false c0).bind fun d0=>some d0.fo)
theorem dq_c (n:Nat) {L w} (hL:hl L w) {a0:List Ua} {v0_0:Vc} (h0_0:Rep.R w L [v0_0] a0) {a1:Int}  {r:List Ua} (h:dq_p n a0 a1 = some r) :
 Cl 203 #[v0_0,vI a1] w (ae w fun w' u=>∃ v0_0:Vc,u = v0_0/\Rep.R w' L [v0_0] r):=by
 unfold dq_p at h
 refine AF func203 I I I fun _ cs0 hb0=>Af<|Ag I<|Aa<|Af<|Ae I ?_
 have hl1:=AU h0_0
 refine Ac (Ba (xs:=a0) underlying128 I h0_0)<|Ae I<|bk h fun s2 hs2 h=>Ac (FV.quoc (i:=a1) (j:=64) I I hs2)<|bk h fun s3 hs3 h=>Ac (Bw (i:=((a0.length:Nat):Int)) (j:=s2) I I hs3)<|bk h fun s4 hs4 h=>Ac (Bw (i:=s3) (j:=1) I I hs4)<|bk h fun U0 K0 h=>Al .plain I (Does.mk (α:=Ua) K0 (AA w) cN I) fun Z2 p0 u0 Q2=>Ag I<|Aa<|Aj<|Af<|Ae I<|Ac (Ba (xs:=a0) underlying128 I (AT h0_0 u0))<|Ae I<|Aa<|Ax ?_
 obtain ⟨X2,H1,A1⟩:=aq h
 refine MX.lf (α:=Nat × (List Ua) × (List Vc)) (fun ⟨c0,g0,j0⟩=>[(1,vI a1),(5,(.slice (some ⟨p0,0,none⟩) s4.toNat s4.toNat)),(15,v0_0),(16,vn a0.length),(17,vn c0)]) (fun ⟨c0,g0,j0⟩=>[rr w 44 Ua (.slice (some ⟨p0,0,none⟩) s4.toNat s4.toNat) g0.length j0]) (fun ⟨c0,g0,j0⟩ Q0=>Cells Q0 (bl [rr w 44 Ua (.slice (some ⟨p0,0,none⟩) s4.toNat s4.toNat) g0.length j0] ++ L) j0 g0) (fun ⟨c0,g0,j0⟩=>(c0,g0)) (0,U0,(List.replicate s4.toNat [vW 0]).flatten) H1 u0 (AD (cs:=(List.replicate s4.toNat [vW 0]).flatten) (xs:=U0) u0 L (BY K0 I)) ?_
 rintro H2 ⟨c0,g0,j0⟩ Q0 C0 k0 E0 x0 h
 unfold dq_l1 at h
 try dsimp only at h
 refine Af<|Ac (Bp (i:=c0) (j:=a0.length) I I)<|Aa<|Aj<|AQ I h (fun Z0 h=>?_) (fun Z0 h=>?_)
 refine Ar<|Aj<|Ax<|Af<|Ae I<|bk h fun t0 b2 h=>?_
 obtain ⟨G2,I2,v1,C1,c1,I1,F1⟩:=Bh (AT h0_0 k0) b2
 have x1:c1 = [vU t0]:=I1; subst x1
 refine Ac (Bb 1 c0 I v1 I I C1)<|AR I (F1 0 _ I)<|Ag I<|Ag I<|Aa<|Aj<|du 13 fun b0 d0=>Rv 0 b0 I d0 (fun _=>Ai I)<|Rv 1 b0 I d0 (fun _=>Ai I)<|Rv 2 b0 I d0 (fun _=>Ai I)<|bk h fun u2 P1 h=>Rv 3 b0 I d0 (fun _=>FV.quoc (i:=a1) (j:=64) I I P1)<|bk h fun B0 Q1 h=>Rv 4 b0 I d0 (fun _=>Bw (i:=((c0:Nat):Int)) (j:=u2) I I Q1)<|bk h fun R0 c2 h=>?_
 obtain ⟨I0,d2⟩:=aA c2
 obtain ⟨V0,J2,s0,A0,d1,J1,G1⟩:=BU (α:=Ua) k0 .hd x0 d2
 obtain ⟨X0,K2,G0⟩:=By (α:=Ua) k0 .hd A0
 obtain rfl:V0 = ⟨X0,0,none⟩:=by rw [G0] at s0; cases s0; rfl
 have y1:d1 = [vU R0]:=J1; subst y1
 refine Rv 5 b0 I d0 (fun _=>Bb 1 (B0.toNat) I s0 I I0 A0)<|Rx 6 14336 b0 I d0 (AP I (G1 0 _ I))<|Rv 7 b0 I d0 (fun _=>Ai I)<|Rv 8 b0 I d0 (fun _=>Ai I)<|bk h fun v2 R1 h=>Rv 9 b0 I d0 (fun _=>FV.remc (i:=a1) (j:=64) I I R1)<|bk h fun t2 D1 h=>Rv 10 b0 I d0 (fun _=>FV.shlI (a:=t0) (i:=v2) I I D1)<|Rv 11 b0 I d0 (fun _=>FV.orU (a:=R0) (b:=shlU t0 t2) I I)<|Rv 12 b0 I d0 (fun _=>Bb 1 (B0.toNat) I s0 I I0 A0)<|bk h fun D2 k2 h=>BM (i:=13) (rk b0) (RO.acts (m' :=16383) (sk b0) I I .plain (Cb (α:=Ua) (i:=B0.toNat) k2 k0 G0 (fun _=>.hd) x0 I I I I I I) (fun b3 ⟨g1,q0,F0,y0⟩=>?_))
 refine AN (dk b0)<|Af<|Ae I<|bk h fun x2 U1 h=>Ac (FV.remc (i:=a1) (j:=64) I I U1)<|Ac (FV.gtr (i:=x2) (j:=0) I I)<|Aa<|AQ I h (fun b1 h=>?_) (fun b1 h=>?_)
 refine Ap<|Ae I<|Ae I<|Ae I<|bk h fun y2 V1 h=>Ac (FV.quoc (i:=a1) (j:=64) I I V1)<|bk h fun z2 W1 h=>Ac (Bw (i:=((c0:Nat):Int)) (j:=y2) I I W1)<|bk h fun M0 X1 h=>Ac (Bw (i:=z2) (j:=1) I I X1)<|Ae I<|Ae I<|bk h fun A2 Y1 h=>Ac (FV.remc (i:=a1) (j:=64) I I Y1)<|bk h fun B2 Z1 h=>Ac (BQ (i:=64) (j:=A2) I I Z1)<|bk h fun W2 E1 h=>Ac (FV.shrI (a:=t0) (i:=B2) I I E1)<|bk h fun C2 g2 h=>?_
 obtain ⟨B1,j2⟩:=aA g2
 obtain ⟨W0,M2,z0,J0,j1,K1,V2⟩:=BU (α:=Ua) q0 .hd y0 j2
 obtain ⟨Y0,P2,H0⟩:=By (α:=Ua) q0 .hd J0
 obtain rfl:W0 = ⟨Y0,0,none⟩:=by rw [H0] at z0; cases z0; rfl
 have z1:j1 = [vU C2]:=K1; subst z1
 refine Ac (Bb 1 (M0.toNat) I z0 I B1 J0)<|bk h fun E2 p2 h=>RG.acts' .plain (Cb (α:=Ua) (i:=M0.toNat) p2 q0 H0 (fun _=>.hd) y0 I I I I I I) fun c3 ⟨k1,p1,q1,u1⟩=>Aa<|AC<|Ap<|Ac (Bl (i:=c0) (j:=1) I I (by omega))<|Ae I<|Aa<|C0 (c0 + 1,E2,k1) p1 (Tt E0 (Tt F0 q1)) u1 h
 refine Ar<|AC<|Ap<|Ac (Bl (i:=c0) (j:=1) I I (by omega))<|Ae I<|Aa<|C0 (c0 + 1,D2,g1) q0 (Tt E0 F0) y0 h
 refine AX I ?_
 have h:=A1 _ h
 try dsimp only at h
 refine Af<|Ae I ?_
 have v0:=BA k0 .hd
 have R2:=BB k0 .hd
 refine bk h fun F2 q2 h=>jE (bd 148) I (e2 I I) (fun p q=>ay_c n (v0.hL hL q) (Aw (BC (α:=Ua) (v:=(.slice (some ⟨p0,0,none⟩) s4.toNat s4.toNat)) (xs:=g0) v0 L (Bg (α:=Ua) k0 .hd x0 hL)) q) q2) I fun d3 Y2 s1 ⟨P0,hu_,M1⟩=>?_
 subst hu_
 obtain ⟨D0,U2⟩:=v0.agr s1
 refine Ac (FV.field1 (cs:=[.bool F2.fe,P0]) (off:=1) (m:=1) I I I I)<|Ag I<|Aa<|Am I<|AW hb0 func203 I I ?_
 cases h
 exact ⟨D0.ag,fun p q=>⟨P0,I,D0.kd M1 q⟩⟩
def aP_l1 (n:Nat) (a0:List Ua) (a1:List Ua) (j0:Ua × Int × (List Ua) -> Oa (Ua × (List Ua))):Ua × Int × (List Ua) -> Oa (Ua × (List Ua))
  | (d0,b0,c0)=>(if 0 <= b0 then (idx a0 b0).bind fun p0=>(a1[0]?).bind fun q0=>(aN_p n d0 p0 q0).bind fun g0=>(idx c0 b0).bind fun _x169=>(put c0 ((b0.toNat:Nat):Int) g0.1).bind fun s0=>(chk (b0 - 1)).bind fun k0=>j0 (g0.2,k0,s0) else some (d0,c0))
def aP_l2 (n:Nat) (a1:List Ua) (p0:(List Ua) × Int × (List Ua) -> Oa ((List Ua) × (List Ua))):(List Ua) × Int × (List Ua) -> Oa ((List Ua) × (List Ua))
  | (c0,b0,d0)=>(if 0 <= b0 then (dq_p n a1 b0).bind fun k0=>(bW_p n c0 k0).bind fun z0=>jn (fun (v0,x0)=>(chk (b0 - 1)).bind fun s0=>p0 (v0,s0,x0)) (fun g0=>(if 0 <= z0 then (cp_p n c0 k0).bind fun A0=>(ay_p n false A0).bind fun B0=>(cj b0 64).bind fun j0=>(idx d0 j0).bind fun u0=>(ca b0 64).bind fun t0=>(bG t0).bind fun q0=>(put d0 ((j0.toNat:Nat):Int) (u0 ||| (shlU (1:Ua) q0))).bind fun y0=>g0 (B0.fo,y0) else g0 (c0,d0))) else some (d0,c0))
def aP_p (n:Nat) (a0:List Ua) (a1:List Ua):Oa ((List Ua) × (List Ua)):=
  (mk ((a0.length:Nat):Int) (0:Ua)).bind fun b0=>(if a1.length = 1 then Option.bind (aj (aP_l1 n a0 a1) n (0,((a0.length:Nat):Int) - 1,b0)) (fun (d0,g0)=>(ay_p n false ([d0]:List Ua)).bind fun p0=>some (g0,p0.fo)) else (dD_p n a0).bind fun q0=>(dD_p n a1).bind fun s0=>(chk (q0 - s0)).bind fun c0=>Option.bind (aj (aP_l2 n a1) n (a0,c0,b0)) (fun (k0,j0)=>some (k0,j0)))
theorem aP_c (n:Nat) {L w} (hL:hl L w) {a0:List Ua} {v0_0:Vc} (h0_0:Rep.R w L [v0_0] a0) {a1:List Ua} {v1_0:Vc} (h1_0:Rep.R w L [v1_0] a1)  {r:(List Ua) × (List Ua)} (h:aP_p n a0 a1 = some r) :
 Cl 188 #[v0_0,v1_0] w (ae w fun w' u=>∃ v0_0 v1_0:Vc,u = .tuple #[v0_0,v1_0]/\Rep.R w' L [v0_0] r.1/\Rep.R w' L [v1_0] r.2):=by
 unfold aP_p at h
 refine AF func188 I I I fun _ cs0 hb0=>Af<|Ag I<|Ag I<|Aa<|Af<|Ae I ?_
 have hl1:=AU h0_0
 refine Ac (Ba (xs:=a0) underlying128 I h0_0)<|bk h fun g1 E1 h=>Al .plain I (Does.mk (α:=Ua) E1 (AA w) cN I) fun g5 d0 t0 Q4=>?_
 have u1:=AD (cs:=(List.replicate ((a0.length:Nat):Int).toNat [vW 0]).flatten) (xs:=g1) t0 L (BY E1 I)
 refine Ag I<|Aa<|Aj<|Af<|Ae I ?_
 have A1:=AT h1_0 t0
 have R4:=AU A1
 refine Ac (Ba (xs:=a1) underlying128 I A1)<|Ac (BP (i:=a1.length) (j:=1) I I)<|Aa<|AQ I h (fun b2 h=>?_) (fun b2 h=>?_)
 refine Af<|Ag I<|Aa<|Aj<|Af<|Ae I<|Ac (Ba (xs:=a0) underlying128 I (AT h0_0 t0))<|Ac (FV.subI (i:=((a0.length:Nat):Int)) (j:=1) I I (by omega))<|Ag I<|Aa<|Ax ?_
 obtain ⟨V4,u3,b3⟩:=aq h
 refine MX.lf (α:=Ua × Int × (List Ua) × (List Vc)) (fun ⟨g0,q0,z0,B0⟩=>[(0,v0_0),(1,v1_0),(4,(.slice (some ⟨d0,0,none⟩) ((a0.length:Nat):Int).toNat ((a0.length:Nat):Int).toNat)),(6,vU g0),(7,vI q0)]) (fun ⟨g0,q0,z0,B0⟩=>[rr w 44 Ua (.slice (some ⟨d0,0,none⟩) ((a0.length:Nat):Int).toNat ((a0.length:Nat):Int).toNat) z0.length B0]) (fun ⟨g0,q0,z0,B0⟩ H1=>Cells H1 (bl [rr w 44 Ua (.slice (some ⟨d0,0,none⟩) ((a0.length:Nat):Int).toNat ((a0.length:Nat):Int).toNat) z0.length B0] ++ L) B0 z0) (fun ⟨g0,q0,z0,B0⟩=>(g0,q0,z0)) (0,((a0.length:Nat):Int) - 1,g1,(List.replicate ((a0.length:Nat):Int).toNat [vW 0]).flatten) u3 t0 u1 ?_
 rintro E4 ⟨g0,q0,z0,B0⟩ H1 t2 C0 z2 V0 h
 unfold aP_l1 at h
 try dsimp only at h
 refine Aj<|Af<|Ae I<|Ac (FV.geq (i:=q0) (j:=0) I I)<|Aa<|AQ I h (fun Z1 h=>?_) (fun Z1 h=>?_)
 refine Ar<|Aj<|Ax<|du 15 fun b0 c0=>Rv 0 b0 I c0 (fun _=>Ai I)<|Rv 1 b0 I c0 (fun _=>Ai I)<|Rv 2 b0 I c0 (fun _=>Ai I)<|Rv 3 b0 I c0 (fun _=>Ai I)<|Rv 4 b0 I c0 (fun _=>Ai I)<|bk h fun I1 P3 h=>?_
 obtain ⟨d3,Q3⟩:=aA P3
 obtain ⟨C4,H4,U2,j3,g2,x3,q3⟩:=Bh (AT h0_0 C0) Q3
 have V2:g2 = [vU I1]:=x3; subst V2
 refine Rv 5 b0 I c0 (fun _=>Bb 1 (q0.toNat) I U2 I d3 j3)<|Rx 6 130048 b0 I c0 (AP I (q3 0 _ I))<|Rv 7 b0 I c0 (fun _=>Ai I)<|bk h fun J1 R3 h=>?_
 obtain ⟨D4,I4,W2,k3,j2,y3,s3⟩:=Bh (AT h1_0 C0) R3
 have X2:j2 = [vU J1]:=y3; subst X2
 refine Rv 8 b0 I c0 (fun _=>Bb 1 0 I W2 I I k3)<|Rx 9 130048 b0 I c0 (AP I (s3 0 _ I))<|bk h fun j1 b4 h=>BV 10 2047 129024 (.tuple #[vU j1.1,vU j1.2]) b0 I c0 (bd 201) I (e3 I I I) (fun p q=>aN_c n (C0.hL0 hL q) g0 I1 J1 b4) I<|Rv 11 b0 I c0 (fun _=>Ai I)<|Rv 12 b0 I c0 (fun _=>Ak I I)<|Rv 13 b0 I c0 (fun _=>Ak I I)<|bk h fun y4 U3 h=>?_
 obtain ⟨g3,V3⟩:=aA U3
 obtain ⟨U1,J4,X0,z1,k2,z3,U4⟩:=BU (α:=Ua) C0 .hd V0 V3
 obtain ⟨W1,K4,v1⟩:=By (α:=Ua) C0 .hd z1
 obtain rfl:U1 = ⟨W1,0,none⟩:=by rw [v1] at X0; cases X0; rfl
 have Y2:k2 = [vU y4]:=z3; subst Y2
 refine Rv 14 b0 I c0 (fun _=>Bb 1 (q0.toNat) I X0 I g3 z1)<|bk h fun z4 Y3 h=>BM (i:=15) (rk b0) (RO.acts (m' :=65535) (sk b0) I I .plain (Cb (α:=Ua) (i:=q0.toNat) Y3 C0 v1 (fun _=>.hd) V0 I I I I I I) (fun j5 ⟨p2,v2,A2,P2⟩=>?_))
 refine Rv 16 b0 I c0 (fun _=>Be I)<|AN (dk b0)<|AC<|Ap<|Ae I<|bk h fun t4 H3 h=>Ac (BQ (i:=q0) (j:=1) I I H3)<|Ag I<|Aa<|t2 (j1.2,t4,z4,p2) v2 (Tt z2 A2) P2 h
 refine AX I ?_
 have h:=b3 _ h
 try dsimp only at h
 refine Af<|Ae I<|Ae I<|Al .plain I (jA g0 (vU g0) C0 cN (e1 I)) fun k5 X1 I0 B2=>?_
 have Q0:=BA I0 .hd
 have C2:=BB I0 .hd
 refine bk h fun B4 c4 h=>jE (bd 148) I (e2 I I) (fun p q=>ay_c n (Q0.hL hL q) (Aw (BC (α:=Ua) (v:=(vS X1 1)) (xs:=([g0]:List Ua)) Q0 L (Bg (α:=Ua) I0 .hd (jC g0 (vU g0) I0 L I) hL)) q) c4) I fun p5 Z4 I2 ⟨F1,hu_,A3⟩=>?_
 subst hu_
 obtain ⟨R0,D2⟩:=Q0.agr I2
 refine Ac (FV.field1 (cs:=[.bool B4.fe,F1]) (off:=1) (m:=1) I I I I)<|Ag I<|Ag I<|Aa<|Am I ?_
 have J0:=BA R0 .hd
 have E2:=BB R0 .hd
 have B3:=BC (α:=Ua) (v:=(.slice (some ⟨d0,0,none⟩) ((a0.length:Nat):Int).toNat ((a0.length:Nat):Int).toNat)) (xs:=z0) J0 L (Bg (α:=Ua) R0 .hd (AB V0 (Tt B2 (Tt C2 D2))) hL)
 refine Au hb0 func188 I (.cons (.tmp I) (.cons (.tmp I) .nil)) I ?_
 cases h
 exact ⟨J0.ag,fun p q=>⟨(.slice (some ⟨d0,0,none⟩) ((a0.length:Nat):Int).toNat ((a0.length:Nat):Int).toNat),F1,I,J0.kd B3 q,J0.kd (Ao A3 E2) q⟩⟩
 refine Ar<|Af<|Ae I<|Ag I<|Aa<|Aj<|Af<|Ae I<|bk h fun M1 d4 h=>Bj (vI M1) (bd 202) I (e1 I) (fun p q=>dD_c n (t0.hL0 hL q) (t0.k0 h0_0 q) d4) I<|Ae I<|bk h fun P1 g4 h=>Bj (vI P1) (bd 202) I (e1 I) (fun p q=>dD_c n (t0.hL0 hL q) (t0.k0 h1_0 q) g4) I<|bk h fun u4 I3 h=>Ac (BQ (i:=M1) (j:=P1) I I I3)<|Ag I<|Aa<|Ax ?_
 obtain ⟨W4,v3,c3⟩:=aq h
 refine MX.lf (α:=(List Ua) × Int × (List Ua) × Vc × (List Vc)) (fun ⟨F0,s0,p0,A0,x0⟩=>[(1,v1_0),(4,(.slice (some ⟨d0,0,none⟩) ((a0.length:Nat):Int).toNat ((a0.length:Nat):Int).toNat)),(5,A0),(8,vI s0)]) (fun ⟨F0,s0,p0,A0,x0⟩=>[rr w 44 Ua (.slice (some ⟨d0,0,none⟩) ((a0.length:Nat):Int).toNat ((a0.length:Nat):Int).toNat) p0.length x0]) (fun ⟨F0,s0,p0,A0,x0⟩ c1=>Rep.R c1 (bl [rr w 44 Ua (.slice (some ⟨d0,0,none⟩) ((a0.length:Nat):Int).toNat ((a0.length:Nat):Int).toNat) p0.length x0] ++ L) [A0] F0/\Cells c1 (bl [rr w 44 Ua (.slice (some ⟨d0,0,none⟩) ((a0.length:Nat):Int).toNat ((a0.length:Nat):Int).toNat) p0.length x0] ++ L) x0 p0) (fun ⟨F0,s0,p0,A0,x0⟩=>(F0,s0,p0)) (a0,u4,g1,v0_0,(List.replicate ((a0.length:Nat):Int).toNat [vW 0]).flatten) v3 t0 ⟨(AT h0_0 t0),u1⟩ ?_
 rintro F4 ⟨F0,s0,p0,A0,x0⟩ c1 u2 H0 F2 ⟨C1,W0⟩ h
 unfold aP_l2 at h
 try dsimp only at h
 refine Aj<|Af<|Ae I<|Ac (FV.geq (i:=s0) (j:=0) I I)<|Aa<|AQ I h (fun c2 h=>?_) (fun c2 h=>?_)
 refine Ar<|Aj<|Ax<|Af<|Ae I<|Ae I<|bk h fun v5 j4 h=>jE (bd 203) I (e2 I I) (fun p q=>dq_c n (H0.hL hL q) (H0.km h1_0 q) j4) I fun q5 b5 J2 ⟨X4,hu_,D1⟩=>?_
 subst hu_
 obtain ⟨D0,M0⟩:=H0.agr J2
 refine Ag I<|Aa<|Af<|Ae I<|Ae I<|bk h fun Q1 k4 h=>?_
 have Z0:=Ao C1 M0
 refine Bj (vI Q1) (bd 195) I (e2 I I) (fun p q=>bW_c n (D0.hL0 hL q) (D0.kd Z0 q) (D0.kd D1 q) k4) I<|Ac (FV.geq (i:=Q1) (j:=0) I I)<|Aa<|MX.jf (α:=(List Ua) × (List Ua) × Vc × (List Vc)) (fun ⟨G0,v0,E0,y0⟩=>[(1,v1_0),(4,(.slice (some ⟨d0,0,none⟩) ((a0.length:Nat):Int).toNat ((a0.length:Nat):Int).toNat)),(5,E0),(8,vI s0)]) (fun ⟨G0,v0,E0,y0⟩=>[rr w 44 Ua (.slice (some ⟨d0,0,none⟩) ((a0.length:Nat):Int).toNat ((a0.length:Nat):Int).toNat) v0.length y0]) (fun ⟨G0,v0,E0,y0⟩ d1=>Rep.R d1 (bl [rr w 44 Ua (.slice (some ⟨d0,0,none⟩) ((a0.length:Nat):Int).toNat ((a0.length:Nat):Int).toNat) v0.length y0] ++ L) [E0] G0/\Cells d1 (bl [rr w 44 Ua (.slice (some ⟨d0,0,none⟩) ((a0.length:Nat):Int).toNat ((a0.length:Nat):Int).toNat) v0.length y0] ++ L) y0 v0) (fun ⟨G0,v0,E0,y0⟩=>(G0,v0)) D0 h ?_ ?_
 rintro ⟨G0,v0,E0,y0⟩ d1 x2 G2 ⟨C3,Q2⟩ h
 try dsimp only at h
 refine AC<|Ap<|Ae I<|bk h fun v4 J3 h=>Ac (BQ (i:=s0) (j:=1) I I J3)<|Ag I<|Aa<|u2 (G0,v4,v0,E0,y0) x2 (Tt F2 (Tt M0 G2)) ⟨C3,Q2⟩ h
 intro G4 k1 h
 try dsimp only at h
 refine AQ I h (fun d2 h=>?_) (fun d2 h=>?_)
 refine Af<|Ae I<|Ae I<|bk h fun x5 p4 h=>jE (bd 196) I (e2 I I) (fun p q=>cp_c n (D0.hL hL q) (Aw Z0 q) (Aw D1 q) p4) I fun s5 c5 K2 ⟨Y4,hu_,D3⟩=>?_
 subst hu_
 obtain ⟨p1,q1⟩:=D0.agr K2
 refine bk h fun R1 q4 h=>jE (bd 148) I (e2 I I) (fun p q=>ay_c n (p1.hL hL q) (Aw D3 q) q4) I fun t5 d5 M2 ⟨G1,hu_,E3⟩=>?_
 subst hu_
 obtain ⟨U0,s1⟩:=p1.agr M2
 refine Ac (FV.field1 (cs:=[.bool R1.fe,G1]) (off:=1) (m:=1) I I I I)<|Ag I<|Aa<|du 10 fun j0 u0=>Rv 0 j0 I u0 (fun _=>Ai I)<|Rv 1 j0 I u0 (fun _=>Ai I)<|bk h fun b1 K3 h=>Rv 2 j0 I u0 (fun _=>FV.quoc (i:=s0) (j:=64) I I K3)<|bk h fun K1 W3 h=>?_
 obtain ⟨y1,X3⟩:=aA W3
 have B1:=AB W0 (Tt M0 (Tt q1 s1))
 obtain ⟨V1,M4,P0,Y0,q2,F3,t3⟩:=BU (α:=Ua) U0 .hd B1 X3
 obtain ⟨Y1,P4,x1⟩:=By (α:=Ua) U0 .hd Y0
 obtain rfl:V1 = ⟨Y1,0,none⟩:=by rw [x1] at P0; cases P0; rfl
 have Z2:q2 = [vU K1]:=F3; subst Z2
 refine Rv 3 j0 I u0 (fun _=>Bb 1 (b1.toNat) I P0 I y1 Y0)<|Rx 4 1792 j0 I u0 (AP I (t3 0 _ I))<|Rv 5 j0 I u0 (fun _=>Ai I)<|bk h fun x4 M3 h=>Rv 6 j0 I u0 (fun _=>FV.remc (i:=s0) (j:=64) I I M3)<|bk h fun s4 p3 h=>Rv 7 j0 I u0 (fun _=>FV.shlI (a:=(1:Ua)) (i:=x4) I I p3)<|Rv 8 j0 I u0 (fun _=>FV.orU (a:=K1) (b:=shlU (1:Ua) s4) I I)<|Rv 9 j0 I u0 (fun _=>Bb 1 (b1.toNat) I P0 I y1 Y0)<|bk h fun A4 Z3 h=>BM (i:=10) (rk j0) (RO.acts (m' :=2047) (sk j0) I I .plain (Cb (α:=Ua) (i:=b1.toNat) Z3 U0 x1 (fun _=>.hd) B1 I I I I I I) (fun u5 ⟨s2,y2,t1,R2⟩=>?_))
 refine AN (dk j0)<|k1 (R1.fo,A4,G1,s2) y2 (Tt q1 (Tt s1 t1)) ⟨(Ao E3 t1),R2⟩ h
 refine Ar<|k1 (F0,p0,A0,x0) D0 (Bx _ _) ⟨Z0,(AB W0 M0)⟩ h
 refine AX I ?_
 have h:=c3 _ h
 try dsimp only at h
 refine Af<|Ae I<|Ae I<|Ag I<|Ag I<|Aa<|Am I ?_
 have K0:=BA H0 .hd
 have H2:=BB H0 .hd
 have G3:=BC (α:=Ua) (v:=(.slice (some ⟨d0,0,none⟩) ((a0.length:Nat):Int).toNat ((a0.length:Nat):Int).toNat)) (xs:=p0) K0 L (Bg (α:=Ua) H0 .hd W0 hL)
 refine Au hb0 func188 I (.cons (.tmp I) (.cons (.tmp I) .nil)) I ?_
 cases h
 exact ⟨K0.ag,fun p q=>⟨(.slice (some ⟨d0,0,none⟩) ((a0.length:Nat):Int).toNat ((a0.length:Nat):Int).toNat),A0,I,K0.kd G3 q,K0.kd (Ao C1 H2) q⟩⟩
def aH_l1 (n:Nat) (d0:(List Ua) × (List Ua) -> Oa (List Ua)):(List Ua) × (List Ua) -> Oa (List Ua)
  | (c0,b0)=>(if 0 < b0.length then (aP_p n c0 b0).bind fun g0=>d0 (b0,g0.2) else some c0)
def aH_p (n:Nat) (a0:Ti) (a1:Ti):Oa Ti:=
  Option.bind (aj (aH_l1 n) n (a0.fo,a1.fo)) (fun b0=>some (⟨false,b0⟩:Ti))
theorem aH_c (n:Nat) {L w} (hL:hl L w) (a0:Ti) {v0_1:Vc} (h0_1:Rep.R w L [v0_1] a0.fo) (a1:Ti) {v1_1:Vc} (h1_1:Rep.R w L [v1_1] a1.fo)  {r:Ti} (h:aH_p n a0 a1 = some r) :
 Cl 158 #[.agg #[.bool a0.fe,v0_1],.agg #[.bool a1.fe,v1_1]] w (ae w fun w' u=>∃ v0_1:Vc,u = .agg #[.bool r.fe,v0_1]/\Rep.R w' L [v0_1] r.fo):=by
 unfold aH_p at h
 refine AF func158 I I I fun _ cs0 hb0=>Af<|RG.bx (AA w) I I fun s1 W0 C0 Z0=>RG.bx C0 I I fun u1 X0 D0 b1=>RG.nl [.bool false,vN] D0 fun v1 p0 t0 c1=>Aa<|Aj<|du 6 fun d0 j0=>Rv 0 d0 I j0 (fun _=>Bi 1 I)<|Rx 1 48 d0 I j0 (AP I ((t0.memA .t2) 1 _ I))<|Rv 2 d0 I j0 (fun _=>Bi 1 I)<|Rx 3 32 d0 I j0 (AP I ((t0.memA .t1) 1 _ I))<|Rv 4 d0 I j0 (fun _=>Be I)<|Rv 5 d0 I j0 (fun _=>Be I)<|AN (dk d0)<|Aj<|Ax ?_
 obtain ⟨u0,d1⟩:=AK t0 (.a0 .done)
 obtain ⟨k1,J0,I0⟩:=aq h
 refine MX.lf (α:=(List Ua) × (List Ua) × Vc × Vc) (fun ⟨k0,c0,b0,g0⟩=>[(4,vP p0),(5,b0),(6,g0)]) (fun ⟨k0,c0,b0,g0⟩=>[.cells p0 [.bool false,vN] 130]) (fun ⟨k0,c0,b0,g0⟩ y0=>Rep.R y0 (bl [.cells p0 [.bool false,vN] 130] ++ L) [b0] k0/\Rep.R y0 (bl [.cells p0 [.bool false,vN] 130] ++ L) [g0] c0) (fun ⟨k0,c0,b0,g0⟩=>(k0,c0)) (a0.fo,a1.fo,v0_1,v1_1) J0 u0 ⟨(AT h0_1 u0),(AT h1_1 u0)⟩ ?_
 rintro V0 ⟨k0,c0,b0,g0⟩ y0 B0 v0 F0 ⟨q0,s0⟩ h
 unfold aH_l1 at h
 try dsimp only at h
 refine Aj<|Af<|Ae I ?_
 have g1:=AU s0
 refine Ac (Ba (xs:=c0) underlying128 I s0)<|Ac (FV.gtrN (i:=c0.length) (j:=0) I I)<|Aa<|AQ I h (fun A0 h=>?_) (fun A0 h=>?_)
 refine Ar<|Ax<|Af<|Ae I<|Ae I<|bk h fun R0 P0 h=>jE (bd 188) I (e2 I I) (fun p q=>aP_c n (v0.hL hL q) (Aw q0 q) (Aw s0 q) P0) I fun x1 q1 H0 ⟨p1,Q0,hu_,j1,K0⟩=>?_
 subst hu_
 obtain ⟨E0,z0⟩:=v0.agr H0
 refine Ae I<|Ac (Ak I I)<|Ac (Ak I I)<|Ag I<|Ag I<|Aa<|Ap<|Ae I<|Ae I<|Ag I<|Ag I<|Aa<|AC<|B0 (c0,R0.2,g0,Q0) E0 (Tt F0 z0) ⟨(Ao s0 z0),K0⟩ h
 refine AX I ?_
 have h:=I0 _ h
 try dsimp only at h
 refine Af<|Ae I ?_
 obtain ⟨U0,Y0,M0,_⟩:=BR q0
 refine Ac (AS (vs:=[b0]) (u:=.agg #[.bool false,b0]) (e1 I) (fun p=>by rw [M0]; try kernel_rfl))<|AV [.bool false,b0] v0 .hd (o2 I (AY q0)) fun y1 x0 G0=>Aa<|Am I<|Au hb0 func158 I (.cons (.many (cs:=[.bool false,b0]) I I (x0.memA .hd)) .nil) I ?_
 cases h
 exact ⟨x0.ag,fun p q=>⟨b0,I,x0.kd (Ao q0 G0) q⟩⟩
def cH_l1 (_n:Nat) (xs4:List Ua) (xs7:List Ua) (k0:Ua × Nat × (List Ua) -> Oa ((List Ua) × Ua)):Ua × Nat × (List Ua) -> Oa ((List Ua) × Ua)
  | (g0,b0,c0)=>(if b0 < xs4.length then (xs4[b0]?).bind fun q0=>jn (fun p0=>(add64 q0 p0 g0).bind fun j0=>(c0[b0]?).bind fun _x199=>(put c0 ((b0:Nat):Int) j0.1).bind fun t0=>k0 (j0.2,b0 + 1,t0)) (fun d0=>(if b0 < xs7.length then (xs7[b0]?).bind fun s0=>d0 s0 else d0 (0:Ua))) else some (c0,g0))
def cH_p (n:Nat) (a0:List Ua) (a1:List Ua):Oa (List Ua):=
  jn (fun (xs4,xs7)=>(mk ((xs4.length + 1:Nat):Int) (0:Ua)).bind fun g0=>Option.bind (aj (cH_l1 n xs4 xs7) n (0,0,g0)) (fun (c0,d0)=>(c0[xs4.length]?).bind fun _x229=>(put c0 ((xs4.length:Nat):Int) d0).bind fun j0=>some j0)) (fun b0=>(if a0.length < a1.length then b0 (a1,a0) else b0 (a0,a1)))
theorem cH_c (n:Nat) {L w} (hL:hl L w) {a0:List Ua} {v0_0:Vc} (h0_0:Rep.R w L [v0_0] a0) {a1:List Ua} {v1_0:Vc} (h1_0:Rep.R w L [v1_0] a1)  {r:List Ua} (h:cH_p n a0 a1 = some r) :
 Cl 194 #[v0_0,v1_0] w (ae w fun w' u=>∃ v0_0:Vc,u = v0_0/\Rep.R w' L [v0_0] r):=by
 unfold cH_p at h
 have hS0:=AA w
 refine AF func194 I I I fun _ cs0 hb0=>Af<|Ag I<|Aa<|Aj<|Af<|Ae I ?_
 have hl1:=AU h0_0
 refine Ac (Ba (xs:=a0) underlying128 I h0_0)<|Ae I ?_
 have hl2:=AU h1_0
 refine Ac (Ba (xs:=a1) underlying128 I h1_0)<|Ac (Bp (i:=a0.length) (j:=a1.length) I I)<|Aa<|MX.jf (α:=(List Ua) × (List Ua) × Vc × Vc) (fun ⟨xs4,xs7,v5,v8⟩=>[(0,v5),(1,v8)]) (fun ⟨xs4,xs7,v5,v8⟩=>[]) (fun ⟨xs4,xs7,v5,v8⟩ wx9=>Rep.R wx9 (bl [] ++ L) [v5] xs4/\Rep.R wx9 (bl [] ++ L) [v8] xs7) (fun ⟨xs4,xs7,v5,v8⟩=>(xs4,xs7)) hS0 h ?_ ?_
 rintro ⟨xs4,xs7,v5,v8⟩ wx9 q1 D2 ⟨hr6,hr9⟩ h
 try dsimp only at h
 refine Af<|Ae I ?_
 have G2:=AU hr6
 refine Ac (Ba (xs:=xs4) underlying128 I hr6)<|Ac (Bl (i:=xs4.length) (j:=1) I I (by omega))<|bk h fun R0 M0 h=>Al .plain I (Does.mk (α:=Ua) M0 q1 cN I) fun M2 j0 E0 s0=>Ag I<|Aa<|Af<|Ag I<|Aa<|Aj<|Af<|Ae I<|Ac (Ba (xs:=xs4) underlying128 I (Ao hr6 s0))<|Ae I<|Aa<|Ax ?_
 obtain ⟨K2,J1,E1⟩:=aq h
 refine MX.lf (α:=Ua × Nat × (List Ua) × (List Vc)) (fun ⟨g0,b0,c0,d0⟩=>[(0,v5),(1,v8),(5,(.slice (some ⟨j0,0,none⟩) ((xs4.length + 1:Nat):Int).toNat ((xs4.length + 1:Nat):Int).toNat)),(6,vU g0),(21,v5),(22,vn xs4.length),(23,vn b0)]) (fun ⟨g0,b0,c0,d0⟩=>[rr w 44 Ua (.slice (some ⟨j0,0,none⟩) ((xs4.length + 1:Nat):Int).toNat ((xs4.length + 1:Nat):Int).toNat) c0.length d0]) (fun ⟨g0,b0,c0,d0⟩ P0=>Cells P0 (bl [rr w 44 Ua (.slice (some ⟨j0,0,none⟩) ((xs4.length + 1:Nat):Int).toNat ((xs4.length + 1:Nat):Int).toNat) c0.length d0] ++ L) d0 c0) (fun ⟨g0,b0,c0,d0⟩=>(g0,b0,c0)) (0,0,R0,(List.replicate ((xs4.length + 1:Nat):Int).toNat [vW 0]).flatten) J1 E0 (AD (cs:=(List.replicate ((xs4.length + 1:Nat):Int).toNat [vW 0]).flatten) (xs:=R0) E0 L (BY M0 I)) ?_
 rintro t2 ⟨g0,b0,c0,d0⟩ P0 p1 k0 q0 x0 h
 unfold cH_l1 at h
 try dsimp only at h
 refine Af<|Ac (Bp (i:=b0) (j:=xs4.length) I I)<|Aa<|Aj<|AQ I h (fun Y0 h=>?_) (fun Y0 h=>?_)
 refine Ar<|Aj<|Ax<|Af<|Ae I<|bk h fun B0 U1 h=>?_
 obtain ⟨p2,v2,y1,F1,c1,K1,H1⟩:=Bh (Ao hr6 (Tt s0 q0)) U1
 have z1:c1 = [vU B0]:=K1; subst z1
 refine Ac (Bb 1 b0 I y1 I I F1)<|AR I (H1 0 _ I)<|Ag I<|Ag I<|Aa<|Af<|Ag I<|Aa<|Aj<|Af<|Ae I<|Ae I ?_
 have A0:=Ao hr9 (Tt s0 q0)
 have H2:=AU A0
 refine Ac (Ba (xs:=xs7) underlying128 I A0)<|Ac (Bp (i:=b0) (j:=xs7.length) I I)<|Aa<|MX.jo (α:=Ua) (fun p0=>[(0,v5),(1,v8),(5,(.slice (some ⟨j0,0,none⟩) ((xs4.length + 1:Nat):Int).toNat ((xs4.length + 1:Nat):Int).toNat)),(6,vU g0),(21,v5),(22,vn xs4.length),(23,vn b0),(7,vn b0),(8,vU B0),(9,vU p0)]) (fun p0=>[rr w 44 Ua (.slice (some ⟨j0,0,none⟩) ((xs4.length + 1:Nat):Int).toNat ((xs4.length + 1:Nat):Int).toNat) c0.length d0]) (fun p0=>p0) k0 h ?_ ?_
 rintro p0 R2 t0 F0 h
 try dsimp only at h
 refine Ap<|Ae I<|Ae I<|Ae I<|Ae I<|Ae I<|bk h fun k2 b2 h=>Ac (FV.add64 (a:=B0) (b:=p0) (c:=g0) func183 I I I I I I I b2)<|Ae I<|Ac (Ak I I)<|Ac (Ak I I)<|bk h fun c2 V1 h=>?_
 have K0:=AB x0 F0
 obtain ⟨U0,x2,y0,I0,d1,M1,I2⟩:=BU (α:=Ua) t0 .hd K0 V1
 obtain ⟨W0,y2,G0⟩:=By (α:=Ua) t0 .hd I0
 obtain rfl:U0 = ⟨W0,0,none⟩:=by rw [G0] at y0; cases y0; rfl
 have A1:d1 = [vU c2]:=M1; subst A1
 refine Ac (Bb 1 b0 I y0 I I I0)<|bk h fun g2 Y1 h=>RG.acts' .plain (Cb (α:=Ua) (i:=b0) Y1 t0 G0 (fun _=>.hd) K0 I I I I I I) fun P2 ⟨g1,s1,u1,v1⟩=>Ag I<|Aa<|AC<|Ap<|Ac (Bl (i:=b0) (j:=1) I I (by omega))<|Ae I<|Aa<|p1 (k2.2,b0 + 1,g2,g1) s1 (Tt q0 (Tt F0 u1)) v1 h
 intro u2 D0 h
 try dsimp only at h
 refine AQ I h (fun Z0 h=>?_) (fun Z0 h=>?_)
 refine Ap<|Ae I<|Ae I<|bk h fun Q0 W1 h=>?_
 obtain ⟨q2,z2,B1,G1,j1,P1,I1⟩:=Bh A0 W1
 have C1:j1 = [vU Q0]:=P1; subst C1
 refine Ac (Bb 1 b0 I B1 I I G1)<|AR I (I1 0 _ I)<|Ag I<|Aa<|D0 Q0 k0 (Bx _ _) h
 refine Ar<|D0 (0:Ua) k0 (Bx _ _) h
 refine AX I ?_
 have h:=E1 _ h
 try dsimp only at h
 refine Af<|Ae I<|Ae I<|Ac (Ba (xs:=xs4) underlying128 I (Ao hr6 (Tt s0 q0)))<|Ae I<|bk h fun d2 X1 h=>?_
 obtain ⟨V0,A2,z0,J0,k1,Q1,J2⟩:=BU (α:=Ua) k0 .hd x0 X1
 obtain ⟨X0,B2,H0⟩:=By (α:=Ua) k0 .hd J0
 obtain rfl:V0 = ⟨X0,0,none⟩:=by rw [H0] at z0; cases z0; rfl
 have D1:k1 = [vU d2]:=Q1; subst D1
 refine Ac (Bb 1 (xs4.length) I z0 I I J0)<|bk h fun j2 Z1 h=>RG.acts' .plain (Cb (α:=Ua) (i:=xs4.length) Z1 k0 H0 (fun _=>.hd) x0 I I I I I I) fun Q2 ⟨C2,u0,E2,x1⟩=>Aa<|Af<|Ae I<|Ag I<|Aa<|Am I ?_
 have v0:=BA u0 .hd
 have F2:=BB u0 .hd
 have R1:=BC (α:=Ua) (v:=(.slice (some ⟨j0,0,none⟩) ((xs4.length + 1:Nat):Int).toNat ((xs4.length + 1:Nat):Int).toNat)) (xs:=j2) v0 L (Bg (α:=Ua) u0 .hd x1 hL)
 refine AW hb0 func194 I I ?_
 cases h
 exact ⟨v0.ag,fun p q=>⟨(.slice (some ⟨j0,0,none⟩) ((xs4.length + 1:Nat):Int).toNat ((xs4.length + 1:Nat):Int).toNat),I,v0.kd R1 q⟩⟩
 intro s2 C0 h
 try dsimp only at h
 refine AQ I h (fun b1 h=>?_) (fun b1 h=>?_)
 refine Ap<|Ae I<|Ae I<|Ag I<|Ag I<|Aa<|C0 (a1,a0,v1_0,v0_0) hS0 (Bx _ _) ⟨h1_0,h0_0⟩ h
 refine Ar<|C0 (a0,a1,v0_0,v1_0) hS0 (Bx _ _) ⟨h0_0,h1_0⟩ h
def bR_p (n:Nat) (a0:Ti) (a1:Ti):Oa Ti:=
  (if (a0.fe == a1.fe) = true then (cH_p n a0.fo a1.fo).bind fun j0=>(ay_p n a0.fe j0).bind fun k0=>some k0 else (bW_p n a0.fo a1.fo).bind fun p0=>jn (fun (_q58,d0,c0,g0)=>(cp_p n g0 d0).bind fun q0=>(ay_p n c0 q0).bind fun s0=>some s0) (fun b0=>(if p0 < 0 then b0 (a0.fe,a0.fo,a1.fe,a1.fo) else b0 (a1.fe,a1.fo,a0.fe,a0.fo))))
theorem bR_c (n:Nat) {L w} (hL:hl L w) (a0:Ti) {v0_1:Vc} (h0_1:Rep.R w L [v0_1] a0.fo) (a1:Ti) {v1_1:Vc} (h1_1:Rep.R w L [v1_1] a1.fo)  {r:Ti} (h:bR_p n a0 a1 = some r) :
 Cl 175 #[.agg #[.bool a0.fe,v0_1],.agg #[.bool a1.fe,v1_1]] w (ae w fun w' u=>∃ v0_1:Vc,u = .agg #[.bool r.fe,v0_1]/\Rep.R w' L [v0_1] r.fo):=by
 unfold bR_p at h
 refine AF func175 I I I fun _ cs0 hb0=>Af<|RG.bx (AA w) I I fun Y1 y0 X0 F1=>RG.bx X0 I I fun Z1 z0 Y0 G1=>RG.nl [.bool false,vN] Y0 fun b2 A0 b0 H1=>Aa<|Aj<|Af<|Bd 0 I<|AR I ((b0.memA .t2) 0 _ I)<|Bd 0 I<|AR I ((b0.memA .t1) 0 _ I)<|Ac (FV.eqlB (a:=a0.fe) (b:=a1.fe) underlying4 I I)<|Aa<|MX.ifb I h (fun V0 h=>?_) (fun V0 h=>?_)
 refine Aj<|du 8 fun c0 s0=>Rv 0 c0 I s0 (fun _=>Bi 0 I)<|Rx 1 384 c0 I s0 (AP I ((b0.memA .t2) 0 _ I))<|Rv 2 c0 I s0 (fun _=>Bi 1 I)<|Rx 3 448 c0 I s0 (AP I ((b0.memA .t2) 1 _ I))<|Rv 4 c0 I s0 (fun _=>Bi 1 I)<|Rx 5 448 c0 I s0 (AP I ((b0.memA .t1) 1 _ I))<|bk h fun u2 z1 h=>Bs 6 127 c0 I .plain (bd 194) I (e2 I I) (fun p q=>cH_c n (b0.hL hL q) (b0.km h0_1 q) (b0.km h1_1 q) z1) I fun c2 U1 k1 ⟨Q1,hu_,u1⟩=>?_
 subst hu_
 obtain ⟨I0,I1⟩:=b0.agr k1
 refine bk h fun Q0 A1 h=>Bs 7 255 c0 I .plain (bd 148) I (e2 I I) (fun p q=>ay_c n (I0.hL hL q) (Aw u1 q) A1) I fun d2 V1 p1 ⟨E0,hu_,M0⟩=>?_
 subst hu_
 obtain ⟨Z0,J1⟩:=I0.agr p1
 refine BG 8 511 c0 I I .plain (AE (news:=[.bool Q0.fe,E0]) Z0 .hd I I I I I I (o2 I (AY M0))) fun g2 C0 d1=>AN (dk c0)<|Am I<|Au hb0 func175 I (.cons (.many (cs:=[.bool Q0.fe,E0]) I I (C0.memA .hd)) .nil) I ?_
 cases h
 exact ⟨C0.ag,fun p q=>⟨E0,I,C0.kd (Ao M0 d1) q⟩⟩
 refine Ar<|Aj<|Af<|Bd 1 I<|AR I ((b0.memA .t2) 1 _ I)<|Bd 1 I<|AR I ((b0.memA .t1) 1 _ I)<|bk h fun R0 B1 h=>Bj (vI R0) (bd 195) I (e2 I I) (fun p q=>bW_c n (b0.hL0 hL q) (b0.k0 h0_1 q) (b0.k0 h1_1 q) B1) I<|Ac (BO (i:=R0) (j:=0) I I)<|Aa<|MX.jf (α:=Bool × (List Ua) × Bool × (List Ua) × Vc × Vc) (fun ⟨g0,u0,j0,v0,p0,q0⟩=>[(2,vP y0),(3,vP z0),(4,vP A0)]) (fun ⟨g0,u0,j0,v0,p0,q0⟩=>[.cells A0 [.bool false,vN] 130,.cells z0 [.bool g0,p0] 130,.cells y0 [.bool j0,q0] 130]) (fun ⟨g0,u0,j0,v0,p0,q0⟩ G0=>Rep.R G0 (bl [.cells A0 [.bool false,vN] 130,.cells z0 [.bool g0,p0] 130,.cells y0 [.bool j0,q0] 130] ++ L) [p0] u0/\Rep.R G0 (bl [.cells A0 [.bool false,vN] 130,.cells z0 [.bool g0,p0] 130,.cells y0 [.bool j0,q0] 130] ++ L) [q0] v0) (fun ⟨g0,u0,j0,v0,p0,q0⟩=>(g0,u0,j0,v0)) b0 h ?_ ?_
 rintro ⟨g0,u0,j0,v0,p0,q0⟩ G0 x0 K1 ⟨v1,x1⟩ h
 try dsimp only at h
 refine Aj<|du 8 fun d0 t0=>Rv 0 d0 I t0 (fun _=>Bi 0 I)<|Rx 1 384 d0 I t0 (AP I ((x0.memA .t2) 0 _ I))<|Rv 2 d0 I t0 (fun _=>Bi 1 I)<|Rx 3 448 d0 I t0 (AP I ((x0.memA .t2) 1 _ I))<|Rv 4 d0 I t0 (fun _=>Bi 1 I)<|Rx 5 448 d0 I t0 (AP I ((x0.memA .t1) 1 _ I))<|bk h fun v2 C1 h=>Bs 6 127 d0 I .plain (bd 196) I (e2 I I) (fun p q=>cp_c n (x0.hL hL q) (Aw x1 q) (Aw v1 q) C1) I fun j2 W1 q1 ⟨R1,hu_,y1⟩=>?_
 subst hu_
 obtain ⟨J0,M1⟩:=x0.agr q1
 refine bk h fun U0 D1 h=>Bs 7 255 d0 I .plain (bd 148) I (e2 I I) (fun p q=>ay_c n (J0.hL hL q) (Aw y1 q) D1) I fun k2 X1 s1 ⟨F0,hu_,P0⟩=>?_
 subst hu_
 obtain ⟨b1,P1⟩:=J0.agr s1
 refine BG 8 511 d0 I I .plain (AE (news:=[.bool U0.fe,F0]) b1 .hd I I I I I I (o2 I (AY P0))) fun p2 D0 g1=>AN (dk d0)<|Am I<|Au hb0 func175 I (.cons (.many (cs:=[.bool U0.fe,F0]) I I (D0.memA .hd)) .nil) I ?_
 cases h
 exact ⟨D0.ag,fun p q=>⟨F0,I,D0.kd (Ao P0 g1) q⟩⟩
 intro E1 H0 h
 try dsimp only at h
 refine AQ I h (fun W0 h=>?_) (fun W0 h=>?_)
 refine Ap<|Ac (AH I (b0.memA .t1))<|Ac (AH I (b0.memA .t2))<|AV [.bool a1.fe,v1_1] b0 .t2 (o2 I (AY (AT h1_1 b0))) fun q2 K0 j1=>AV [.bool a0.fe,v0_1] K0 .t1 (o2 I (AY (AT h0_1 K0))) fun s2 B0 c1=>Aa<|H0 (a0.fe,a0.fo,a1.fe,a1.fo,v0_1,v1_1) B0 (Tt j1 c1) ⟨(AT h0_1 B0),(AT h1_1 B0)⟩ h
 refine Ar<|H0 (a1.fe,a1.fo,a0.fe,a0.fo,v1_1,v0_1) b0 (Bx _ _) ⟨(AT h1_1 b0),(AT h0_1 b0)⟩ h
end Go.Proofs.YthffdckehlgmgaaGreatDoor
