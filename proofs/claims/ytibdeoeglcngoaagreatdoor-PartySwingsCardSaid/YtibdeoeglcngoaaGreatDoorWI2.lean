import Derived.Test.YtibdeoeglcngoaaGreatDoorProg
import Derived.Test.YtibdeoeglcngoaaGreatDoorWMt
namespace Go.Proofs.YtibdeoeglcngoaaGreatDoor
open Go Go.RowKit Tryz
set_option maxRecDepth 4000
set_option maxHeartbeats 4000000
abbrev Cl := Calls Tryz.prog
theorem bd (k:Nat) (h:bf Tryz.prog k = true:=by kernel_rfl):bf Tryz.prog k = true:=h

structure Ta where
  fN:U8
  fD:U8
  deriving DecidableEq
instance:Rep Ta:=Rep.via (β:=(U8) × (U8)) fun x=>(x.fN,x.fD)
structure Te where
  fy:Int
  deriving DecidableEq
instance:Rep Te:=Rep.via (β:=Int) fun x=>x.fy
def ac (x:Ta):List Value:=[vU x.fN.1,vU x.fN.2.1,vU x.fN.2.2.1,vU x.fN.2.2.2.1,vU x.fN.2.2.2.2.1,vU x.fN.2.2.2.2.2.1,vU x.fN.2.2.2.2.2.2.1,vU x.fN.2.2.2.2.2.2.2,vU x.fD.1,vU x.fD.2.1,vU x.fD.2.2.1,vU x.fD.2.2.2.1,vU x.fD.2.2.2.2.1,vU x.fD.2.2.2.2.2.1,vU x.fD.2.2.2.2.2.2.1,vU x.fD.2.2.2.2.2.2.2]
def bT_p (_n:Nat) (a0:Int):Option (Except Te Unit):=
  (if a0 = 0 then some (.ok ()) else some (.error (⟨a0⟩:Te)))
theorem bT_c (n:Nat) {L w} (_hL:hl L w) {a0:Int}  {r:Except Te Unit} (h:bT_p n a0 = some r) :
 Cl 108 #[vI a0] w (aD w (fun (_y:Unit) _ u=>u = .tuple #[]) (fun e=>.iface 138 (.agg #[vI e.fy])) r):=by
 unfold bT_p at h
 have hS0:=Ax w
 refine Bz func108 rfl rfl rfl fun _ cs0 hb0 hp0=>Ae<|Af rfl<|Ac (FV.neq (i:=a0) (j:=0) rfl rfl)<|Aa<|MX.ifn rfl h (fun c1 h=>?_) (fun c1 h=>?_)
 refine Ap<|MX.fin rfl<|Aq hb0 func108 rfl .nil rfl ?_
 cases h
 exact ⟨hS0.ag,fun w9 hw9=>ay rfl⟩
 refine Ao<|Af rfl<|Ac (AX (vs:=[vI a0]) (u:=.agg #[vI a0]) (e1 rfl) (fun w9=>by kernel_rfl))<|Ac (FV.makeInterface rfl rfl)<|RG.panic .plain rfl ?_
 cases h
 exact AS hp0 func108 ⟨hS0.ag,rfl⟩
def bK_p (_n:Nat) (a0:Int):Option (Except Te Unit):=
  (if a0 = 0 then some (.ok ()) else some (.error (⟨a0⟩:Te)))
theorem bK_c (n:Nat) {L w} (_hL:hl L w) {a0:Int}  {r:Except Te Unit} (h:bK_p n a0 = some r) :
 Cl 178 #[vI a0] w (aD w (fun (_y:Unit) _ u=>u = .tuple #[]) (fun e=>.iface 216 (.agg #[vI e.fy])) r):=by
 unfold bK_p at h
 have hS0:=Ax w
 refine Bz func178 rfl rfl rfl fun _ cs0 hb0 hp0=>Ae<|Af rfl<|Ac (FV.neq (i:=a0) (j:=0) rfl rfl)<|Aa<|MX.ifn rfl h (fun c1 h=>?_) (fun c1 h=>?_)
 refine Ap<|MX.fin rfl<|Aq hb0 func178 rfl .nil rfl ?_
 cases h
 exact ⟨hS0.ag,fun w9 hw9=>ay rfl⟩
 refine Ao<|Af rfl<|Ac (AX (vs:=[vI a0]) (u:=.agg #[vI a0]) (e1 rfl) (fun w9=>by kernel_rfl))<|Ac (FV.makeInterface rfl rfl)<|RG.panic .plain rfl ?_
 cases h
 exact AS hp0 func178 ⟨hS0.ag,rfl⟩
def ap_l1 (_n:Nat) (a0:List Bool) (a1:Bool) (c0:Nat -> Option (Int ⊕ Unit)):Nat -> Option (Int ⊕ Unit)
  | b0=>(if b0 < a0.length then (a0[b0]?).bind fun d0=>(if (a1 == d0) = true then some (.inl ((b0:Nat):Int)) else c0 (b0 + 1)) else some (.inr ()))
def ap_p (n:Nat) (a0:List Bool) (a1:Bool):Option Int:=
  thn (ao (ap_l1 n a0 a1) n 0) (fun _=>some (-1:Int))
theorem ap_c (n:Nat) {L w} (_hL:hl L w) {a0:List Bool} {v0_0:Value} (h0_0:Rep.R w L [v0_0] a0) {a1:Bool}  {r:Int} (h:ap_p n a0 a1 = some r) :
 Cl 229 #[v0_0,.bool a1] w (ak w fun _ u=>u = vI r):=by
 unfold ap_p at h
 refine AC func229 rfl rfl rfl fun _ cs0 hb0=>Ae<|Ag rfl<|Aa<|Ak<|Ae<|Af rfl ?_
 have hl1:a0.length <= 281474976710656:=AY h0_0
 refine Ac (Be (xs:=a0) underlying193 rfl h0_0)<|Af rfl<|Aa<|Au<|tn h fun E0 y0 d0=>MX.lo (α:=Nat) (fun b0=>[(0,v0_0),(1,.bool a1),(7,vI ((a0.length:Nat):Int)),(8,vI ((b0:Nat):Int))]) (fun b0=>[]) (fun b0=>b0) 0 y0 (Ax w) ?_
 rintro C0 b0 F0 q0 c0 s0 h
 unfold ap_l1 at h
 try dsimp only at h
 refine Ae<|Ac (Bm (i:=b0) (j:=a0.length) rfl rfl)<|Aa<|Ak<|AI rfl h (fun j0 h=>?_) (fun j0 h=>?_)
 refine Ap<|Ak<|Au<|Ae<|Af rfl<|Ag rfl<|Aa<|Ae<|Af rfl<|Af rfl<|Af rfl<|bk h fun g0 A0 h=>?_
 obtain ⟨B0,D0,t0,v0,p0,z0,x0⟩:=Bl (AQ h0_0 c0) A0
 have u0:p0 = [.bool g0]:=z0; subst u0
 refine Ac (Bh 1 b0 rfl t0 rfl rfl v0)<|AO rfl (x0 0 _ rfl)<|Ac (FV.eqlB (a:=a1) (b:=g0) underlying4 rfl rfl)<|Aa<|MX.ifb rfl h (fun k0 h=>?_) (fun k0 h=>?_)
 refine Ae<|Af rfl<|Ag rfl<|Aa ?_
 have h:=ax h d0
 refine Am rfl<|AU hb0 func229 rfl rfl ?_
 cases h
 exact c0.gv
 refine Ap<|Ay<|Ao<|Ac (Bg (i:=b0) (j:=1) rfl rfl (by omega))<|Af rfl<|Aa<|q0 (b0 + 1) c0 s0 h
 refine AT rfl ?_
 have h:=aF h d0
 try dsimp only at h
 refine Ae<|Ag rfl<|Aa<|Am rfl<|AU hb0 func229 rfl rfl ?_
 cases h
 exact c0.gv
def aN_p (n:Nat) (a0:List Bool) (a1:Bool):Option Bool:=
  (ap_p n a0 a1).bind fun y1=>some (decide (0 <= y1))
theorem aN_c (n:Nat) {L w} (hL:hl L w) {a0:List Bool} {v0_0:Value} (h0_0:Rep.R w L [v0_0] a0) {a1:Bool}  {r:Bool} (h:aN_p n a0 a1 = some r) :
 Cl 222 #[v0_0,.bool a1] w (ak w fun _ u=>u = .bool r):=by
 unfold aN_p at h
 have hS0:=Ax w
 refine AC func222 rfl rfl rfl fun _ cs0 hb0=>Ae<|Ag rfl<|Aa<|Ae<|Af rfl<|Af rfl<|bk h fun y1 hy1 h=>Bf (vI y1) (bd 229) rfl (e2 rfl rfl) (fun w9 hw9=>ap_c n (hS0.hL0 hL hw9) (hS0.kd h0_0 hw9) hy1) rfl<|Ac (FV.geq (i:=y1) (j:=0) rfl rfl)<|Ag rfl<|Aa<|Am rfl<|AU hb0 func222 rfl rfl ?_
 cases h
 exact hS0.gv
def aK_p (n:Nat) (a0:List Bool):Option Bool:=
  (aN_p n a0 false).bind fun y1=>some (!y1)
theorem aK_c (n:Nat) {L w} (hL:hl L w) {a0:List Bool} {v0_0:Value} (h0_0:Rep.R w L [v0_0] a0)  {r:Bool} (h:aK_p n a0 = some r) :
 Cl 211 #[v0_0] w (ak w fun _ u=>u = .bool r):=by
 unfold aK_p at h
 have hS0:=Ax w
 refine AC func211 rfl rfl rfl fun _ cs0 hb0=>Ae<|Ag rfl<|Aa<|Ae<|Af rfl<|bk h fun y1 hy1 h=>Bf (.bool y1) (bd 222) rfl (e2 rfl rfl) (fun w9 hw9=>aN_c n (hS0.hL0 hL hw9) (hS0.kd h0_0 hw9) hy1) rfl<|Ac (BD rfl)<|Ag rfl<|Aa<|Am rfl<|AU hb0 func211 rfl rfl ?_
 cases h
 exact hS0.gv
def ba_l1 (_n:Nat) (a1:UInt8) (c0:ByteArray -> Option ByteArray):ByteArray -> Option ByteArray
  | b0=>(if 0 < b0.size then (b0.data[0]?).bind fun g0=>(if g0.toNat = a1.toNat then (iD b0 1 (b0.size:Int)).bind fun d0=>c0 d0 else some b0) else some b0)
def ba_p (n:Nat) (a0:ByteArray) (a1:UInt8):Option ByteArray:=
  jn (fun c0=>some c0) (fun b0=>Option.bind (ao (ba_l1 n a1) n a0) (b0))
theorem ba_c (n:Nat) {L w} (_hL:hl L w) {a0:ByteArray} (a1:UInt8)  {r:ByteArray} (h:ba_p n a0 a1 = some r) :
 Cl 230 #[.string a0,.int .u8 (a1.toNat:Int)] w (ak w fun _ u=>u = .string r):=by
 unfold ba_p at h
 have hS0:=Ax w
 refine AC func230 rfl rfl rfl fun _ cs0 hb0=>Ae<|Ag rfl<|Aa<|Ak<|Au<|MX.xo (α:=ByteArray) 0 (fun c0=>[(0,.string c0)]) (fun c0=>[]) (fun c0=>c0) hS0 rfl h ?_ ?_
 rintro c0 E0 t0 C0 h
 try dsimp only at h
 refine Ae<|Af rfl<|Ag rfl<|Aa<|Am rfl<|AU hb0 func230 rfl rfl ?_
 cases h
 exact t0.gv
 intro A0 j0 h
 try dsimp only at h
 obtain ⟨D0,u0,k0⟩:=av h
 refine MX.lo (α:=ByteArray) (fun b0=>[(0,.string b0),(1,.int .u8 (a1.toNat:Int))]) (fun b0=>[]) (fun b0=>b0) a0 u0 hS0 ?_
 rintro B0 b0 F0 s0 d0 g0 h
 unfold ba_l1 at h
 try dsimp only at h
 refine Ak<|Ae<|Af rfl<|Ac (Bx underlying9 rfl)<|Ac (FV.gtrN (i:=b0.size) (j:=0) rfl rfl)<|Af rfl<|RG.ifd (s:=8) rfl h (fun p0 h=>?_) (fun p0 h=>?_)
 refine AV (Aj rfl)<|bk h fun z0 x0 h=>AV (FV.strAt (k:=0) underlying9 rfl rfl rfl x0)<|AV (Aj rfl)<|AV (FV.eqlN (i:=z0.toNat) (j:=a1.toNat) rfl rfl)<|RG.pt rfl rfl<|Aa<|AI rfl h (fun q0 h=>?_) (fun q0 h=>?_)
 refine Ap<|Au<|Ao<|Af rfl<|bk h fun y0 v0 h=>Ac (FV.strCut v0 underlying9 rfl ⟨_,rfl⟩ rfl)<|Ag rfl<|Aa<|Ay<|s0 y0 d0 g0 h
 refine AT rfl ?_
 have h:=k0 _ h
 try dsimp only at h
 exact j0 b0 d0 g0 h
 refine AG<|AG<|AG<|AG<|RG.pf rfl rfl<|Aa<|Bp rfl<|AT rfl ?_
 have h:=k0 _ h
 try dsimp only at h
 exact j0 b0 d0 g0 h
def aT_l1 (_n:Nat) (a1:UInt8) (c0:ByteArray -> Option ByteArray):ByteArray -> Option ByteArray
  | b0=>(if 0 < b0.size then (chk (((b0.size:Nat):Int) - 1)).bind fun d0=>(kl b0 d0).bind fun k0=>(if k0.toNat = a1.toNat then (chk (((b0.size:Nat):Int) - 1)).bind fun g0=>(iD b0 0 g0).bind fun j0=>c0 j0 else some b0) else some b0)
def aT_p (n:Nat) (a0:ByteArray) (a1:UInt8):Option ByteArray:=
  jn (fun c0=>some c0) (fun b0=>Option.bind (ao (aT_l1 n a1) n a0) (b0))
theorem aT_c (n:Nat) {L w} (_hL:hl L w) {a0:ByteArray} (a1:UInt8)  {r:ByteArray} (h:aT_p n a0 a1 = some r) :
 Cl 231 #[.string a0,.int .u8 (a1.toNat:Int)] w (ak w fun _ u=>u = .string r):=by
 unfold aT_p at h
 have hS0:=Ax w
 refine AC func231 rfl rfl rfl fun _ cs0 hb0=>Ae<|Ag rfl<|Aa<|Ak<|Au<|MX.xo (α:=ByteArray) 0 (fun c0=>[(0,.string c0)]) (fun c0=>[]) (fun c0=>c0) hS0 rfl h ?_ ?_
 rintro c0 K0 t0 H0 h
 try dsimp only at h
 refine Ae<|Af rfl<|Ag rfl<|Aa<|Am rfl<|AU hb0 func231 rfl rfl ?_
 cases h
 exact t0.gv
 intro F0 j0 h
 try dsimp only at h
 obtain ⟨I0,v0,k0⟩:=av h
 refine MX.lo (α:=ByteArray) (fun b0=>[(0,.string b0),(1,.int .u8 (a1.toNat:Int))]) (fun b0=>[]) (fun b0=>b0) a0 v0 hS0 ?_
 rintro G0 b0 M0 s0 d0 g0 h
 unfold aT_l1 at h
 try dsimp only at h
 refine Ak<|Ae<|Af rfl<|Ac (Bx underlying9 rfl)<|Ac (FV.gtrN (i:=b0.size) (j:=0) rfl rfl)<|Af rfl<|RG.ifd (s:=8) rfl h (fun p0 h=>?_) (fun p0 h=>?_)
 refine AV (Aj rfl)<|AV (Aj rfl)<|AV (Bx underlying9 rfl)<|bk h fun C0 x0 h=>AV (FV.subc (i:=((b0.size:Nat):Int)) (j:=1) rfl rfl x0)<|bk h fun E0 B0 h=>?_
 obtain ⟨u0,A0⟩:=eA B0
 refine AV (FV.strAt (k:=C0.toNat) underlying9 rfl rfl u0 A0)<|AV (Aj rfl)<|AV (FV.eqlN (i:=E0.toNat) (j:=a1.toNat) rfl rfl)<|RG.pt rfl rfl<|Aa<|AI rfl h (fun q0 h=>?_) (fun q0 h=>?_)
 refine Ap<|Au<|Ao<|Af rfl<|Af rfl<|Ac (Bx underlying9 rfl)<|bk h fun J0 y0 h=>Ac (FV.subc (i:=((b0.size:Nat):Int)) (j:=1) rfl rfl y0)<|bk h fun D0 z0 h=>Ac (FV.strCut z0 underlying9 rfl rfl ⟨_,rfl⟩)<|Ag rfl<|Aa<|Ay<|s0 D0 d0 g0 h
 refine AT rfl ?_
 have h:=k0 _ h
 try dsimp only at h
 exact j0 b0 d0 g0 h
 refine AG<|AG<|AG<|AG<|AG<|AG<|AG<|RG.pf rfl rfl<|Aa<|Bp rfl<|AT rfl ?_
 have h:=k0 _ h
 try dsimp only at h
 exact j0 b0 d0 g0 h
def aq_l1 (_n:Nat) (g0:List Bool) (c0:ByteArray -> Option ByteArray):ByteArray -> Option ByteArray
  | b0=>(if 0 < b0.size then (b0.data[0]?).bind fun j0=>(g0[j0.toNat]?).bind fun k0=>(if k0 = true then (iD b0 1 (b0.size:Int)).bind fun d0=>c0 d0 else some b0) else some b0)
def aq_l2 (_n:Nat) (k0:List Bool) (c0:ByteArray -> Option ByteArray):ByteArray -> Option ByteArray
  | b0=>(if 0 < b0.size then (chk (((b0.size:Nat):Int) - 1)).bind fun d0=>(kl b0 d0).bind fun p0=>(k0[p0.toNat]?).bind fun q0=>(if q0 = true then (chk (((b0.size:Nat):Int) - 1)).bind fun g0=>(iD b0 0 g0).bind fun j0=>c0 j0 else some b0) else some b0)
def aq_l3 (_n:Nat) (a1:ByteArray) (g0:Nat × (List Bool) -> Option (ByteArray ⊕ (List Bool))):Nat × (List Bool) -> Option (ByteArray ⊕ (List Bool))
  | (b0,c0)=>(if b0 < a1.size then (a1.data[b0]?).bind fun d0=>(if 128 <= d0.toNat then (none).map .inl else (c0[d0.toNat]?).bind fun _z82=>g0 (b0 + 1,(c0.set d0.toNat true))) else some (.inr c0))
def aq_l4 (_n:Nat) (g0:List Bool) (c0:ByteArray -> Option ByteArray):ByteArray -> Option ByteArray
  | b0=>(if 0 < b0.size then (b0.data[0]?).bind fun j0=>(g0[j0.toNat]?).bind fun k0=>(if k0 = true then (iD b0 1 (b0.size:Int)).bind fun d0=>c0 d0 else some b0) else some b0)
def aq_l5 (_n:Nat) (k0:List Bool) (c0:ByteArray -> Option ByteArray):ByteArray -> Option ByteArray
  | b0=>(if 0 < b0.size then (chk (((b0.size:Nat):Int) - 1)).bind fun d0=>(kl b0 d0).bind fun p0=>(k0[p0.toNat]?).bind fun q0=>(if q0 = true then (chk (((b0.size:Nat):Int) - 1)).bind fun g0=>(iD b0 0 g0).bind fun j0=>c0 j0 else some b0) else some b0)
def aq_l6 (_n:Nat) (a1:ByteArray) (g0:Int × (List Bool) -> Option (ByteArray ⊕ (List Bool))):Int × (List Bool) -> Option (ByteArray ⊕ (List Bool))
  | (c0,b0)=>(if c0 < ((a1.size:Nat):Int) then (kl a1 c0).bind fun d0=>(if 128 <= d0.toNat then (none).map .inl else (b0[d0.toNat]?).bind fun _z372=>(chk (c0 + 1)).bind fun j0=>g0 (j0,(b0.set d0.toNat true))) else some (.inr b0))
def aq_p (n:Nat) (a0:ByteArray) (a1:ByteArray):Option ByteArray:=
  (if a0 = ⟨#[]⟩ then some a0 else (if a1 = ⟨#[]⟩ then some a0 else (if a1.size = 1 then (a1.data[0]?).bind fun z4=>(if z4.toNat < 128 then (a1.data[0]?).bind fun z8=>(aT_p n a0 z8).bind fun y9=>(a1.data[0]?).bind fun v0=>(ba_p n y9 v0).bind fun u0=>some u0 else thn (ao (aq_l3 n a1) n (0,(List.replicate 256 false))) (fun c0=>jn (fun p0=>jn (fun q0=>some q0) (fun g0=>Option.bind (ao (aq_l1 n c0) n p0) (g0))) (fun d0=>Option.bind (ao (aq_l2 n c0) n a0) (d0)))) else thn (ao (aq_l6 n a1) n (0,(List.replicate 256 false))) (fun b0=>jn (fun s0=>jn (fun t0=>some t0) (fun k0=>Option.bind (ao (aq_l4 n b0) n s0) (k0))) (fun j0=>Option.bind (ao (aq_l5 n b0) n a0) (j0))))))
theorem aq_c (n:Nat) {L w} (hL:hl L w) {a0:ByteArray} {a1:ByteArray}  {r:ByteArray} (h:aq_p n a0 a1 = some r) :
 Cl 223 #[.string a0,.string a1] w (ak w fun _ u=>u = .string r):=by
 unfold aq_p at h
 have hS0:=Ax w
 refine AC func223 rfl rfl rfl fun _ cs0 hb0=>Ae<|Ag rfl<|Aa<|Ak<|Ae<|Af rfl<|Ac (FV.eqlS rfl rfl)<|Af rfl<|RG.ifd (s:=9) rfl h (fun c1 h=>?_) (fun c1 h=>?_)
 refine AG<|AG<|RG.pt rfl rfl<|Aa<|Br rfl<|Ae<|Af rfl<|Ag rfl<|Aa<|Am rfl<|AU hb0 func223 rfl rfl ?_
 cases h
 exact hS0.gv
 refine AV (Aj rfl)<|AV (FV.eqlS rfl rfl)<|RG.pf rfl rfl<|Aa<|AI rfl h (fun c2 h=>?_) (fun c2 h=>?_)
 refine Ae<|Af rfl<|Ag rfl<|Aa<|Am rfl<|AU hb0 func223 rfl rfl ?_
 cases h
 exact hS0.gv
 refine Ap<|Ak<|Ae<|Af rfl<|Ac (Bx underlying9 rfl)<|Ac (FV.eqlN (i:=a1.size) (j:=1) rfl rfl)<|Af rfl<|RG.ifd (s:=17) rfl h (fun c3 h=>?_) (fun c3 h=>?_)
 refine AV (Aj rfl)<|bk h fun z4 hz4 h=>AV (FV.strAt (k:=0) underlying9 rfl rfl rfl hz4)<|AV (Bm (i:=z4.toNat) (j:=128) rfl rfl)<|RG.pt rfl rfl<|Aa<|AI rfl h (fun c5 h=>?_) (fun c5 h=>?_)
 refine Ak<|du 8 fun kt6 kp7=>Rv 0 kt6 rfl kp7 (fun _=>Aj rfl)<|Rv 1 kt6 rfl kp7 (fun _=>Aj rfl)<|bk h fun z8 hz8 h=>Rv 2 kt6 rfl kp7 (fun _=>FV.strAt (k:=0) underlying9 rfl rfl rfl hz8)<|bk h fun y9 hy9 h=>RD.cq 3 15 192 (.string y9) kt6 rfl kp7 (bd 231) rfl (e2 rfl rfl) (fun w9 hw9=>aT_c n (hS0.hL0 hL hw9) z8 hy9) rfl<|Rv 4 kt6 rfl kp7 (fun _=>Aj rfl)<|bk h fun v4 U3 h=>Rv 5 kt6 rfl kp7 (fun _=>FV.strAt (k:=0) underlying9 rfl rfl rfl U3)<|bk h fun u4 R3 h=>RD.cq 6 127 128 (.string u4) kt6 rfl kp7 (bd 230) rfl (e2 rfl rfl) (fun w9 hw9=>ba_c n (hS0.hL0 hL hw9) v4 R3) rfl<|Rv 7 kt6 rfl kp7 (fun _=>Bc rfl)<|AH (dk kt6)<|Am rfl<|AU hb0 func223 rfl rfl ?_
 cases h
 exact hS0.gv
 refine Ap<|Ak<|Ae<|Af rfl<|Bq (fst:=[]) (cap:=[]) (vs:=[.string a1]) .plain (bd 232) func232 rfl rfl rfl rfl (e1 rfl) rfl fun U4 B1 P5=>Ae ?_
 have g3:(List.replicate 256 false).length = 256:=List.length_replicate
 refine RG.nl ((List.replicate 256 false).map (fun z9:Bool=>(.bool z9:Value))) hS0 fun s6 J0 v2 q5=>Ag rfl<|Aa<|Ak<|Ae<|Ag rfl<|Aa<|Au<|tn h fun k6 B3 I1=>MX.lf (α:=Nat × (List Bool)) (fun ⟨p0,c0⟩=>[(0,.string a1),(2,vP J0),(4,vI ((p0:Nat):Int))]) (fun ⟨p0,c0⟩=>[.cells J0 (c0.map (fun z9:Bool=>(.bool z9:Value))) 269]) (fun ⟨p0,c0⟩ t4=>c0.length = 256) (fun ⟨p0,c0⟩=>(p0,c0)) (0,(List.replicate 256 false)) B3 v2 g3 ?_
 rintro M4 ⟨p0,c0⟩ t4 u2 A0 K2 g0 h
 unfold aq_l3 at h
 try dsimp only at h
 refine Ak<|Ae<|Af rfl<|Af rfl<|Ac (Bx underlying9 rfl)<|Ac (Bm (i:=p0) (j:=a1.size) rfl rfl)<|Aa<|AI rfl h (fun g2 h=>?_) (fun g2 h=>?_)
 refine Ap<|Ak<|Au<|Ae<|Af rfl<|Af rfl<|bk h fun E0 b4 h=>Ac (FV.strAt (k:=p0) underlying9 rfl rfl rfl b4)<|Ag rfl<|Aa<|Ak<|Ae<|Af rfl<|Ac (FV.geqN (i:=E0.toNat) (j:=128) rfl rfl)<|Aa<|AI rfl h (fun j2 h=>?_) (fun j2 h=>?_)
 refine Ae<|Ac (Bn (cs:=c0.map (fun z9:Bool=>(.bool z9:Value))) (by rw [List.length_map,g0]; kernel_rfl) rfl (A0.memA .hd))<|RG.now .plain (Acts.storeBig (fun z9:Bool=>(.bool z9:Value)) (m:=256) g0 g0 A0 .hd rfl rfl rfl (fun _=>rfl)) fun C6 v1 D5=>Ag rfl<|Aa ?_
 have h:=gp h I1
 refine Am rfl<|Aq (u:=.tuple #[.agg (c0.map (fun z9:Bool=>(.bool z9:Value))).toArray,.bool false]) B1 func232 rfl (.cons (.many (cs:=c0.map (fun z9:Bool=>(.bool z9:Value))) (by rw [List.length_map,g0]; kernel_rfl) rfl (v1.memA .hd)) (.cons (.tmp rfl) .nil)) rfl<|Af rfl<|Ac (Ai rfl rfl)<|Ac (Ai rfl rfl) ?_
 have s3:(List.replicate 256 false).length = 256:=List.length_replicate
 refine RG.nl ((List.replicate 256 false).map (fun z9:Bool=>(.bool z9:Value))) v1 fun D6 Q4 F2 E5=>RG.now .plain (Acts.storeBig (fun z9:Bool=>(.bool z9:Value)) (m:=256) s3 g0 F2 .hd rfl rfl rfl (fun _=>rfl)) fun E6 k5 F5=>Ag rfl<|Aa<|Ae<|Af rfl<|Aa<|Bp rfl<|Ap<|Ae<|Af rfl<|Af rfl ?_
 cases h
 refine Ap<|Ao<|Af rfl<|bk h fun X6 V0 h=>?_
 have K5:=aP (p:=⟨J0,0,none⟩) (cs:=c0.map (fun z9:Bool=>(.bool z9:Value))) (i:=E0.toNat) (A0.memA .hd) (bW (fun z9:Bool=>(.bool z9:Value)) V0)
 refine Ac (AM (m:=1) (k:=E0.toNat) (len:=256) rfl rfl rfl rfl (bp V0 g0)) ?_
 have t3:(c0.set E0.toNat true).length = 256:=by rw [List.length_set]; exact g0
 refine RG.now .plain (Acts.setBig (fun z9:Bool=>(.bool z9:Value)) (i:=E0.toNat) (x:=true) (m:=256) g0 (bp V0 g0) A0 .hd rfl (gz _ _ _) rfl rfl (fun _=>⟨rfl,rfl⟩)) fun F6 G2 M2=>Aa<|Ay<|Ao<|Af rfl<|Ac (Bg (i:=p0) (j:=1) rfl rfl (by omega))<|Ag rfl<|Aa<|u2 (p0 + 1,(c0.set E0.toNat true)) G2 (Tt K2 M2) t3 h
 refine AT rfl ?_
 have h:=aF h I1
 try dsimp only at h
 refine Ae<|Ac (Bn (cs:=c0.map (fun z9:Bool=>(.bool z9:Value))) (by rw [List.length_map,g0]; kernel_rfl) rfl (A0.memA .hd))<|RG.now .plain (Acts.storeBig (fun z9:Bool=>(.bool z9:Value)) (m:=256) g0 g0 A0 .hd rfl rfl rfl (fun _=>rfl)) fun G6 x1 G5=>Ag rfl<|Aa<|Am rfl<|Aq (u:=.tuple #[.agg (c0.map (fun z9:Bool=>(.bool z9:Value))).toArray,.bool true]) B1 func232 rfl (.cons (.many (cs:=c0.map (fun z9:Bool=>(.bool z9:Value))) (by rw [List.length_map,g0]; kernel_rfl) rfl (x1.memA .hd)) (.cons (.tmp rfl) .nil)) rfl<|Af rfl<|Ac (Ai rfl rfl)<|Ac (Ai rfl rfl) ?_
 have u3:(List.replicate 256 false).length = 256:=List.length_replicate
 refine RG.nl ((List.replicate 256 false).map (fun z9:Bool=>(.bool z9:Value))) x1 fun H6 k0 H2 H5=>RG.now .plain (Acts.storeBig (fun z9:Bool=>(.bool z9:Value)) (m:=256) u3 g0 H2 .hd rfl rfl rfl (fun _=>rfl)) fun I6 y1 I5=>Ag rfl<|Aa<|Ae<|Af rfl<|Aa<|Br rfl<|Ae<|Af rfl<|Bq (fst:=[]) (cap:=[]) (vs:=[.string a0,vP k0]) .plain (bd 234) func234 rfl rfl rfl rfl (e2 rfl rfl) rfl fun R4 P2 M5=>Ae<|Ag rfl<|Aa<|Ak<|Au<|MX.xo (α:=ByteArray) 0 (fun u0=>[(0,.string u0)]) (fun u0=>[.cells k0 (c0.map (fun z9:Bool=>(.bool z9:Value))) 269]) (fun u0=>u0) y1 rfl h ?_ ?_
 rintro u0 J6 k1 p5 h
 try dsimp only at h
 refine Ae<|Af rfl<|Ag rfl<|Aa<|Am rfl<|Aq (u:=.string u0) P2 func234 rfl (.cons (.tmp rfl) .nil) rfl<|Bq (fst:=[]) (cap:=[]) (vs:=[.string u0,vP k0]) .plain (bd 233) func233 rfl rfl rfl rfl (e2 rfl rfl) rfl fun V4 Q2 Q5=>Ae<|Ag rfl<|Aa<|Ak<|Au<|MX.xo (α:=ByteArray) 0 (fun B0=>[(0,.string B0)]) (fun B0=>[.cells k0 (c0.map (fun z9:Bool=>(.bool z9:Value))) 269]) (fun B0=>B0) k1 rfl h ?_ ?_
 rintro B0 K6 x2 s5 h
 try dsimp only at h
 refine Ae<|Af rfl<|Ag rfl<|Aa<|Am rfl<|Aq (u:=.string B0) Q2 func233 rfl (.cons (.tmp rfl) .nil) rfl<|Ag rfl<|Aa<|Am rfl<|AU hb0 func223 rfl rfl ?_
 cases h
 exact x2.gv
 intro D4 d1 h
 try dsimp only at h
 obtain ⟨b6,v3,D1⟩:=av h
 refine MX.lo (α:=ByteArray) (fun v0=>[(0,.string v0),(1,vP k0)]) (fun v0=>[.cells k0 (c0.map (fun z9:Bool=>(.bool z9:Value))) 269]) (fun v0=>v0) u0 v3 k1 ?_
 rintro E4 v0 M6 k2 F0 M0 h
 unfold aq_l1 at h
 try dsimp only at h
 refine Ak<|Ae<|Af rfl<|Ac (Bx underlying9 rfl)<|Ac (FV.gtrN (i:=v0.size) (j:=0) rfl rfl)<|Aa<|AI rfl h (fun Q1 h=>?_) (fun Q1 h=>?_)
 refine Ap<|Au<|Ak<|Ae<|Af rfl<|Af rfl<|bk h fun W0 V3 h=>Ac (FV.strAt (k:=0) underlying9 rfl rfl rfl V3)<|Bq (fst:=[]) (cap:=[]) (vs:=[vP k0,.int .u8 (W0.toNat:Int)]) .plain (bd 239) func239 rfl rfl rfl rfl (e2 rfl rfl) rfl fun W4 R2 R5=>Ae<|Ag rfl<|Aa<|Ae<|Af rfl<|Af rfl<|Ac (FV.nilCheck rfl)<|bk h fun x4 J1 h=>Ac (AM (m:=1) (k:=W0.toNat) (len:=256) rfl rfl rfl rfl (bp J1 g0))<|AO rfl ((aP (p:=⟨k0,0,none⟩) (cs:=c0.map (fun z9:Bool=>(.bool z9:Value))) (i:=W0.toNat) (F0.memA .hd) (bW (fun z9:Bool=>(.bool z9:Value)) J1)) 0 _ rfl)<|Ag rfl<|Aa<|Am rfl<|Aq (u:=.bool x4) R2 func239 rfl (.cons (.tmp rfl) .nil) rfl<|Ac (BD rfl)<|Aa<|MX.ifnb rfl h (fun R1 h=>?_) (fun R1 h=>?_)
 refine Ap<|Ao<|Af rfl<|bk h fun c4 C3 h=>Ac (FV.strCut C3 underlying9 rfl ⟨_,rfl⟩ rfl)<|Ag rfl<|Aa<|Ay<|k2 c4 F0 M0 h
 refine AT rfl ?_
 have h:=D1 _ h
 try dsimp only at h
 exact d1 v0 F0 M0 h
 refine AT rfl ?_
 have h:=D1 _ h
 try dsimp only at h
 exact d1 v0 F0 M0 h
 intro C4 b1 h
 try dsimp only at h
 obtain ⟨y2,z1⟩:=AN y1 (.a0 .done)
 obtain ⟨c6,x3,E1⟩:=av h
 refine MX.lo (α:=ByteArray) (fun q0=>[(0,.string q0),(1,vP k0)]) (fun q0=>[.cells k0 (c0.map (fun z9:Bool=>(.bool z9:Value))) 269]) (fun q0=>q0) a0 x3 y2 ?_
 rintro F4 q0 P6 p2 G0 P0 h
 unfold aq_l2 at h
 try dsimp only at h
 refine Ak<|Ae<|Af rfl<|Ac (Bx underlying9 rfl)<|Ac (FV.gtrN (i:=q0.size) (j:=0) rfl rfl)<|Aa<|AI rfl h (fun U1 h=>?_) (fun U1 h=>?_)
 refine Ap<|Au<|Ak<|Ae<|Af rfl<|Af rfl<|Af rfl<|Ac (Bx underlying9 rfl)<|bk h fun d4 D3 h=>Ac (FV.subc (i:=((q0.size:Nat):Int)) (j:=1) rfl rfl D3)<|bk h fun X0 W3 h=>?_
 obtain ⟨Z2,M3⟩:=eA W3
 refine Ac (FV.strAt (k:=d4.toNat) underlying9 rfl rfl Z2 M3)<|Bq (fst:=[]) (cap:=[]) (vs:=[vP k0,.int .u8 (X0.toNat:Int)]) .plain (bd 239) func239 rfl rfl rfl rfl (e2 rfl rfl) rfl fun X4 U2 U5=>Ae<|Ag rfl<|Aa<|Ae<|Af rfl<|Af rfl<|Ac (FV.nilCheck rfl)<|bk h fun y4 K1 h=>Ac (AM (m:=1) (k:=X0.toNat) (len:=256) rfl rfl rfl rfl (bp K1 g0))<|AO rfl ((aP (p:=⟨k0,0,none⟩) (cs:=c0.map (fun z9:Bool=>(.bool z9:Value))) (i:=X0.toNat) (G0.memA .hd) (bW (fun z9:Bool=>(.bool z9:Value)) K1)) 0 _ rfl)<|Ag rfl<|Aa<|Am rfl<|Aq (u:=.bool y4) U2 func239 rfl (.cons (.tmp rfl) .nil) rfl<|Ac (BD rfl)<|Aa<|MX.ifnb rfl h (fun V1 h=>?_) (fun V1 h=>?_)
 refine Ap<|Ao<|Af rfl<|Af rfl<|Ac (Bx underlying9 rfl)<|bk h fun p6 E3 h=>Ac (FV.subc (i:=((q0.size:Nat):Int)) (j:=1) rfl rfl E3)<|bk h fun g4 F3 h=>Ac (FV.strCut F3 underlying9 rfl rfl ⟨_,rfl⟩)<|Ag rfl<|Aa<|Ay<|p2 g4 G0 P0 h
 refine AT rfl ?_
 have h:=E1 _ h
 try dsimp only at h
 exact b1 q0 G0 (Tt z1 P0) h
 refine AT rfl ?_
 have h:=E1 _ h
 try dsimp only at h
 exact b1 q0 G0 (Tt z1 P0) h
 refine AG<|AG<|AG<|RG.pf rfl rfl<|Aa<|Bp rfl<|Ap<|Ak<|Ae<|Af rfl<|Bq (fst:=[]) (cap:=[]) (vs:=[.string a1]) .plain (bd 232) func232 rfl rfl rfl rfl (e1 rfl) rfl fun Y4 C1 V5=>Ae ?_
 have j3:(List.replicate 256 false).length = 256:=List.length_replicate
 refine RG.nl ((List.replicate 256 false).map (fun z9:Bool=>(.bool z9:Value))) hS0 fun t6 K0 z2 t5=>Ag rfl<|Aa<|Ak<|Ae<|Ag rfl<|Aa<|Au<|tn h fun d6 y3 F1=>MX.lf (α:=Int × (List Bool)) (fun ⟨t0,b0⟩=>[(0,.string a1),(2,vP K0),(4,vI t0)]) (fun ⟨t0,b0⟩=>[.cells K0 (b0.map (fun z9:Bool=>(.bool z9:Value))) 269]) (fun ⟨t0,b0⟩ s4=>b0.length = 256) (fun ⟨t0,b0⟩=>(t0,b0)) (0,(List.replicate 256 false)) y3 z2 j3 ?_
 rintro G4 ⟨t0,b0⟩ s4 q2 z0 I2 d0 h
 unfold aq_l6 at h
 try dsimp only at h
 refine Ak<|Ae<|Af rfl<|Af rfl<|Ac (Bx underlying9 rfl)<|Ac (FV.lss (i:=t0) (j:=((a1.size:Nat):Int)) rfl rfl)<|Aa<|AI rfl h (fun W1 h=>?_) (fun W1 h=>?_)
 refine Ap<|Ak<|Au<|Ae<|Af rfl<|Af rfl<|bk h fun D0 X3 h=>?_
 obtain ⟨b3,P3⟩:=eA X3
 refine Ac (FV.strAt (k:=t0.toNat) underlying9 rfl rfl b3 P3)<|Ag rfl<|Aa<|Ak<|Ae<|Af rfl<|Ac (FV.geqN (i:=D0.toNat) (j:=128) rfl rfl)<|Aa<|AI rfl h (fun X1 h=>?_) (fun X1 h=>?_)
 refine Ae<|Ac (Bn (cs:=b0.map (fun z9:Bool=>(.bool z9:Value))) (by rw [List.length_map,d0]; kernel_rfl) rfl (z0.memA .hd))<|RG.now .plain (Acts.storeBig (fun z9:Bool=>(.bool z9:Value)) (m:=256) d0 d0 z0 .hd rfl rfl rfl (fun _=>rfl)) fun u6 p1 u5=>Ag rfl<|Aa ?_
 have h:=gp h F1
 refine Am rfl<|Aq (u:=.tuple #[.agg (b0.map (fun z9:Bool=>(.bool z9:Value))).toArray,.bool false]) C1 func232 rfl (.cons (.many (cs:=b0.map (fun z9:Bool=>(.bool z9:Value))) (by rw [List.length_map,d0]; kernel_rfl) rfl (p1.memA .hd)) (.cons (.tmp rfl) .nil)) rfl<|Af rfl<|Ac (Ai rfl rfl)<|Ac (Ai rfl rfl) ?_
 have k3:(List.replicate 256 false).length = 256:=List.length_replicate
 refine RG.nl ((List.replicate 256 false).map (fun z9:Bool=>(.bool z9:Value))) p1 fun v6 P4 A2 v5=>RG.now .plain (Acts.storeBig (fun z9:Bool=>(.bool z9:Value)) (m:=256) k3 d0 A2 .hd rfl rfl rfl (fun _=>rfl)) fun x6 j5 x5=>Ag rfl<|Aa<|Ae<|Af rfl<|Aa<|Bp rfl<|Ap<|Ae<|Af rfl<|Af rfl ?_
 cases h
 refine Ap<|Ao<|Af rfl<|bk h fun W6 U0 h=>?_
 have J5:=aP (p:=⟨K0,0,none⟩) (cs:=b0.map (fun z9:Bool=>(.bool z9:Value))) (i:=D0.toNat) (z0.memA .hd) (bW (fun z9:Bool=>(.bool z9:Value)) U0)
 refine Ac (AM (m:=1) (k:=D0.toNat) (len:=256) rfl rfl rfl rfl (bp U0 d0)) ?_
 have p3:(b0.set D0.toNat true).length = 256:=by rw [List.length_set]; exact d0
 refine RG.now .plain (Acts.setBig (fun z9:Bool=>(.bool z9:Value)) (i:=D0.toNat) (x:=true) (m:=256) d0 (bp U0 d0) z0 .hd rfl (gz _ _ _) rfl rfl (fun _=>⟨rfl,rfl⟩)) fun y6 B2 J2=>Aa<|Ay<|Ao<|Af rfl<|bk h fun j4 G3 h=>Ac (Bs (i:=t0) (j:=1) rfl rfl G3)<|Ag rfl<|Aa<|q2 (j4,(b0.set D0.toNat true)) B2 (Tt I2 J2) p3 h
 refine AT rfl ?_
 have h:=aF h F1
 try dsimp only at h
 refine Ae<|Ac (Bn (cs:=b0.map (fun z9:Bool=>(.bool z9:Value))) (by rw [List.length_map,d0]; kernel_rfl) rfl (z0.memA .hd))<|RG.now .plain (Acts.storeBig (fun z9:Bool=>(.bool z9:Value)) (m:=256) d0 d0 z0 .hd rfl rfl rfl (fun _=>rfl)) fun z6 q1 y5=>Ag rfl<|Aa<|Am rfl<|Aq (u:=.tuple #[.agg (b0.map (fun z9:Bool=>(.bool z9:Value))).toArray,.bool true]) C1 func232 rfl (.cons (.many (cs:=b0.map (fun z9:Bool=>(.bool z9:Value))) (by rw [List.length_map,d0]; kernel_rfl) rfl (q1.memA .hd)) (.cons (.tmp rfl) .nil)) rfl<|Af rfl<|Ac (Ai rfl rfl)<|Ac (Ai rfl rfl) ?_
 have q3:(List.replicate 256 false).length = 256:=List.length_replicate
 refine RG.nl ((List.replicate 256 false).map (fun z9:Bool=>(.bool z9:Value))) q1 fun A6 j0 C2 z5=>RG.now .plain (Acts.storeBig (fun z9:Bool=>(.bool z9:Value)) (m:=256) q3 d0 C2 .hd rfl rfl rfl (fun _=>rfl)) fun B6 s1 A5=>Ag rfl<|Aa<|Ae<|Af rfl<|Aa<|Br rfl<|Ae<|Af rfl<|Bq (fst:=[]) (cap:=[]) (vs:=[.string a0,vP j0]) .plain (bd 234) func234 rfl rfl rfl rfl (e2 rfl rfl) rfl fun Z4 V2 W5=>Ae<|Ag rfl<|Aa<|Ak<|Au<|MX.xo (α:=ByteArray) 0 (fun x0=>[(0,.string x0)]) (fun x0=>[.cells j0 (b0.map (fun z9:Bool=>(.bool z9:Value))) 269]) (fun x0=>x0) s1 rfl h ?_ ?_
 rintro x0 Q6 u1 B5 h
 try dsimp only at h
 refine Ae<|Af rfl<|Ag rfl<|Aa<|Am rfl<|Aq (u:=.string x0) V2 func234 rfl (.cons (.tmp rfl) .nil) rfl<|Bq (fst:=[]) (cap:=[]) (vs:=[.string x0,vP j0]) .plain (bd 233) func233 rfl rfl rfl rfl (e2 rfl rfl) rfl fun b5 W2 X5=>Ae<|Ag rfl<|Aa<|Ak<|Au<|MX.xo (α:=ByteArray) 0 (fun C0=>[(0,.string C0)]) (fun C0=>[.cells j0 (b0.map (fun z9:Bool=>(.bool z9:Value))) 269]) (fun C0=>C0) u1 rfl h ?_ ?_
 rintro C0 R6 D2 C5 h
 try dsimp only at h
 refine Ae<|Af rfl<|Ag rfl<|Aa<|Am rfl<|Aq (u:=.string C0) W2 func233 rfl (.cons (.tmp rfl) .nil) rfl<|Ag rfl<|Aa<|Am rfl<|AU hb0 func223 rfl rfl ?_
 cases h
 exact D2.gv
 intro I4 j1 h
 try dsimp only at h
 obtain ⟨g6,z3,G1⟩:=av h
 refine MX.lo (α:=ByteArray) (fun y0=>[(0,.string y0),(1,vP j0)]) (fun y0=>[.cells j0 (b0.map (fun z9:Bool=>(.bool z9:Value))) 269]) (fun y0=>y0) x0 z3 u1 ?_
 rintro J4 y0 U6 s2 H0 Q0 h
 unfold aq_l4 at h
 try dsimp only at h
 refine Ak<|Ae<|Af rfl<|Ac (Bx underlying9 rfl)<|Ac (FV.gtrN (i:=y0.size) (j:=0) rfl rfl)<|Aa<|AI rfl h (fun Y1 h=>?_) (fun Y1 h=>?_)
 refine Ap<|Au<|Ak<|Ae<|Af rfl<|Af rfl<|bk h fun Y0 Y3 h=>Ac (FV.strAt (k:=0) underlying9 rfl rfl rfl Y3)<|Bq (fst:=[]) (cap:=[]) (vs:=[vP j0,.int .u8 (Y0.toNat:Int)]) .plain (bd 239) func239 rfl rfl rfl rfl (e2 rfl rfl) rfl fun d5 X2 Y5=>Ae<|Ag rfl<|Aa<|Ae<|Af rfl<|Af rfl<|Ac (FV.nilCheck rfl)<|bk h fun A4 M1 h=>Ac (AM (m:=1) (k:=Y0.toNat) (len:=256) rfl rfl rfl rfl (bp M1 d0))<|AO rfl ((aP (p:=⟨j0,0,none⟩) (cs:=b0.map (fun z9:Bool=>(.bool z9:Value))) (i:=Y0.toNat) (H0.memA .hd) (bW (fun z9:Bool=>(.bool z9:Value)) M1)) 0 _ rfl)<|Ag rfl<|Aa<|Am rfl<|Aq (u:=.bool A4) X2 func239 rfl (.cons (.tmp rfl) .nil) rfl<|Ac (BD rfl)<|Aa<|MX.ifnb rfl h (fun Z1 h=>?_) (fun Z1 h=>?_)
 refine Ap<|Ao<|Af rfl<|bk h fun k4 H3 h=>Ac (FV.strCut H3 underlying9 rfl ⟨_,rfl⟩ rfl)<|Ag rfl<|Aa<|Ay<|s2 k4 H0 Q0 h
 refine AT rfl ?_
 have h:=G1 _ h
 try dsimp only at h
 exact j1 y0 H0 Q0 h
 refine AT rfl ?_
 have h:=G1 _ h
 try dsimp only at h
 exact j1 y0 H0 Q0 h
 intro H4 g1 h
 try dsimp only at h
 obtain ⟨E2,A1⟩:=AN s1 (.a0 .done)
 obtain ⟨j6,A3,H1⟩:=av h
 refine MX.lo (α:=ByteArray) (fun s0=>[(0,.string s0),(1,vP j0)]) (fun s0=>[.cells j0 (b0.map (fun z9:Bool=>(.bool z9:Value))) 269]) (fun s0=>s0) a0 A3 E2 ?_
 rintro K4 s0 V6 t2 I0 R0 h
 unfold aq_l5 at h
 try dsimp only at h
 refine Ak<|Ae<|Af rfl<|Ac (Bx underlying9 rfl)<|Ac (FV.gtrN (i:=s0.size) (j:=0) rfl rfl)<|Aa<|AI rfl h (fun b2 h=>?_) (fun b2 h=>?_)
 refine Ap<|Au<|Ak<|Ae<|Af rfl<|Af rfl<|Af rfl<|Ac (Bx underlying9 rfl)<|bk h fun p4 I3 h=>Ac (FV.subc (i:=((s0.size:Nat):Int)) (j:=1) rfl rfl I3)<|bk h fun Z0 Z3 h=>?_
 obtain ⟨d3,Q3⟩:=eA Z3
 refine Ac (FV.strAt (k:=p4.toNat) underlying9 rfl rfl d3 Q3)<|Bq (fst:=[]) (cap:=[]) (vs:=[vP j0,.int .u8 (Z0.toNat:Int)]) .plain (bd 239) func239 rfl rfl rfl rfl (e2 rfl rfl) rfl fun g5 Y2 Z5=>Ae<|Ag rfl<|Aa<|Ae<|Af rfl<|Af rfl<|Ac (FV.nilCheck rfl)<|bk h fun B4 P1 h=>Ac (AM (m:=1) (k:=Z0.toNat) (len:=256) rfl rfl rfl rfl (bp P1 d0))<|AO rfl ((aP (p:=⟨j0,0,none⟩) (cs:=b0.map (fun z9:Bool=>(.bool z9:Value))) (i:=Z0.toNat) (I0.memA .hd) (bW (fun z9:Bool=>(.bool z9:Value)) P1)) 0 _ rfl)<|Ag rfl<|Aa<|Am rfl<|Aq (u:=.bool B4) Y2 func239 rfl (.cons (.tmp rfl) .nil) rfl<|Ac (BD rfl)<|Aa<|MX.ifnb rfl h (fun d2 h=>?_) (fun d2 h=>?_)
 refine Ap<|Ao<|Af rfl<|Af rfl<|Ac (Bx underlying9 rfl)<|bk h fun q6 J3 h=>Ac (FV.subc (i:=((s0.size:Nat):Int)) (j:=1) rfl rfl J3)<|bk h fun q4 K3 h=>Ac (FV.strCut K3 underlying9 rfl rfl ⟨_,rfl⟩)<|Ag rfl<|Aa<|Ay<|t2 q4 I0 R0 h
 refine AT rfl ?_
 have h:=H1 _ h
 try dsimp only at h
 exact g1 s0 I0 (Tt A1 R0) h
 refine AT rfl ?_
 have h:=H1 _ h
 try dsimp only at h
 exact g1 s0 I0 (Tt A1 R0) h
def bU_p (_n:Nat) (a0:Int) (a1:Int):Option Bool:=
  (if a0 < 0 then some true else some (decide (a1 < a0)))
theorem bU_c (n:Nat) {L w} (_hL:hl L w) {a0:Int} {a1:Int} {p1:Nat} (m1:∀ j9 v9,([vI a1]:List Value)[j9]? = some v9 -> w.cell? ((⟨p1,0,none⟩:Addr).add j9) = some v9)  {r:Bool} (h:bU_p n a0 a1 = some r) :
 Cl 237 #[vI a0,.pointer (some ⟨p1,0,none⟩)] w (ak w fun _ u=>u = .bool r):=by
 unfold bU_p at h
 have hS0:=Ax w
 refine AC func237 rfl rfl rfl fun _ cs0 hb0=>Ae<|Ag rfl<|Aa<|Ae<|Af rfl<|Ac (FV.lss (i:=a0) (j:=0) rfl rfl)<|Af rfl<|RG.ifd (s:=6) rfl h (fun c1 h=>?_) (fun c1 h=>?_)
 refine AG<|AG<|AG<|RG.pt rfl rfl<|Ag rfl<|Aa<|Am rfl<|AU hb0 func237 rfl rfl ?_
 cases h
 exact hS0.gv
 refine AV (Aj rfl)<|AV (AZ rfl ((fun j9 v9 h9=>hS0.ag.cell0 (m1 j9 v9 h9)) 0 _ rfl))<|AV (FV.gtr (i:=a0) (j:=a1) rfl rfl)<|RG.pf rfl rfl<|Ag rfl<|Aa<|Am rfl<|AU hb0 func237 rfl rfl ?_
 cases h
 exact hS0.gv
def aC_l1 (n:Nat) (a0:List Int) (a2:Int) (c0:Nat -> Option (Bool ⊕ Unit)):Nat -> Option (Bool ⊕ Unit)
  | b0=>(if b0 < a0.length then (a0[b0]?).bind fun d0=>(bU_p n d0 a2).bind fun g0=>(if g0 = true then some (.inl (!(decide (0 <= b0)))) else c0 (b0 + 1)) else some (.inr ()))
def aC_p (n:Nat) (a0:List Int) (a1:Int) (a2:Int):Option Bool:=
  (if ((a0.length:Nat):Int) = a1 then thn (ao (aC_l1 n a0 a2) n 0) (fun _=>some (!(decide (0 <= (-1))))) else some false)
theorem aC_c (n:Nat) {L w} (hL:hl L w) {a0:List Int} {v0_0:Value} (h0_0:Rep.R w L [v0_0] a0) {a1:Int} {a2:Int}  {r:Bool} (h:aC_p n a0 a1 a2 = some r) :
 Cl 224 #[v0_0,vI a1,vI a2] w (ak w fun _ u=>u = .bool r):=by
 unfold aC_p at h
 refine AC func224 rfl rfl rfl fun _ cs0 hb0=>Ae<|RG.bx (Ax w) rfl rfl fun Y0 c0 g0 R0=>Ag rfl<|Aa<|Ae<|Af rfl ?_
 have j0:=AQ h0_0 g0
 have U0:a0.length <= 281474976710656:=AY j0
 refine Ac (Be (xs:=a0) underlying38 rfl j0)<|Af rfl<|Ac (FV.eql (i:=((a0.length:Nat):Int)) (j:=a1) rfl rfl)<|Af rfl<|RG.ifd (s:=11) rfl h (fun s0 h=>?_) (fun s0 h=>?_)
 refine AV (Aj rfl)<|AV (Bw (vs:=[]) (us:=[vP c0]) ai (e1 rfl))<|Bq (fst:=[]) (cap:=[]) (vs:=[v0_0,.func (.func 237) #[] #[vP c0]]) (.yes rfl rfl) (bd 29) func29 rfl rfl rfl rfl (e2 rfl rfl) rfl fun P0 k0 V0=>Ae<|Ag rfl<|Aa<|Ae<|Af rfl<|Af rfl<|Bq (fst:=[]) (cap:=[]) (vs:=[v0_0,.func (.func 237) #[] #[vP c0]]) .plain (bd 80) func80 rfl rfl rfl rfl (e2 rfl rfl) rfl fun Q0 p0 W0=>Ae<|Ag rfl<|Aa<|Ak<|Ae<|Af rfl<|Ac (Be (xs:=a0) underlying38 rfl j0)<|Af rfl<|Aa<|Au<|tn h fun X0 D0 q0=>MX.lo (α:=Nat) (fun b0=>[(0,v0_0),(1,.func (.func 237) #[] #[vP c0]),(7,vI ((a0.length:Nat):Int)),(8,vI ((b0:Nat):Int))]) (fun b0=>[.cells c0 [vI a2] 3]) (fun b0=>b0) 0 D0 g0 ?_
 rintro K0 b0 Z0 x0 d0 y0 h
 unfold aC_l1 at h
 try dsimp only at h
 refine Ae<|Ac (Bm (i:=b0) (j:=a0.length) rfl rfl)<|Aa<|Ak<|AI rfl h (fun t0 h=>?_) (fun t0 h=>?_)
 refine Ap<|Ak<|Au<|Ae<|Af rfl<|Ag rfl<|Aa<|Ae<|Af rfl<|Af rfl<|Af rfl<|bk h fun H0 F0 h=>?_
 obtain ⟨J0,M0,z0,B0,v0,E0,C0⟩:=Bl (AQ h0_0 d0) F0
 have A0:v0 = [vI H0]:=E0; subst A0
 refine Ac (Bh 1 b0 rfl z0 rfl rfl B0)<|AO rfl (C0 0 _ rfl)<|bk h fun I0 G0 h=>RG.callq' (v:=.bool I0) (fst:=[]) (cap:=[vP c0]) .plain (bd 237) rfl (e1 rfl) (fun w9 hw9=>bU_c n (d0.hL0 hL hw9) (ah hw9 (d0.memA .hd)) G0) rfl<|Aa<|MX.ifb rfl h (fun u0 h=>?_) (fun u0 h=>?_)
 refine Ae<|Af rfl<|Ag rfl<|Aa ?_
 have h:=ax h q0
 refine Am rfl<|Aq (u:=vI ((b0:Nat):Int)) p0 func80 rfl (.cons (.tmp rfl) .nil) rfl<|Ac (FV.geqN (i:=b0) (j:=0) rfl rfl)<|Ag rfl<|Aa<|Am rfl<|Aq (u:=.bool (decide (0 <= b0))) k0 func29 rfl (.cons (.tmp rfl) .nil) rfl<|AV (BD rfl)<|RG.pt rfl rfl<|Ag rfl<|Aa<|Am rfl<|AU hb0 func224 rfl rfl ?_
 cases h
 exact d0.gv
 refine Ap<|Ay<|Ao<|Ac (Bg (i:=b0) (j:=1) rfl rfl (by omega))<|Af rfl<|Aa<|x0 (b0 + 1) d0 y0 h
 refine AT rfl ?_
 have h:=aF h q0
 try dsimp only at h
 refine Ae<|Ag rfl<|Aa<|Am rfl<|Aq (u:=vI (-1)) p0 func80 rfl (.cons (.tmp rfl) .nil) rfl<|Ac (FV.geq (i:=(-1)) (j:=0) rfl rfl)<|Ag rfl<|Aa<|Am rfl<|Aq (u:=.bool (decide (0 <= (-1)))) k0 func29 rfl (.cons (.tmp rfl) .nil) rfl<|AV (BD rfl)<|RG.pt rfl rfl<|Ag rfl<|Aa<|Am rfl<|AU hb0 func224 rfl rfl ?_
 cases h
 exact d0.gv
 refine AG<|AG<|AG<|AG<|RG.pf rfl rfl<|Ag rfl<|Aa<|Am rfl<|AU hb0 func224 rfl rfl ?_
 cases h
 exact g0.gv
structure Tc where
  fw:ByteArray
  fA:Int
  fh:List Int
  fVotes:List Int
  fE:List Int
  ft:Bool
  deriving DecidableEq
instance:Rep Tc:=Rep.via (β:=ByteArray × Int × (List Int) × (List Int) × (List Int) × Bool) fun x=>(x.fw,x.fA,x.fh,x.fVotes,x.fE,x.ft)
structure Tf where
  fh:Int
  fc:Int
  fe:Int
  fu:List Tc
  deriving DecidableEq
instance:Rep Tf:=Rep.via (β:=Int × Int × Int × (List Tc)) fun x=>(x.fh,x.fc,x.fe,x.fu)
theorem fS:ElT Tryz.prog 193 4 (Rep.size Bool) 1 (.bool false) [.bool false]:=⟨underlying193,by kernel_rfl,rfl,rfl,rfl,rfl⟩
def bC_p (n:Nat) (a0:Tf) (a1:Tc):Option Bool:=
  jn (fun (c0,d0)=>(aq_p n a1.fw ⟨#[65,66,67,68,69,70,71,72,73,74,75,76,77,78,79,80,81,82,83,84,85,86,87,88,89,90,97,98,99,100,101,102,103,104,105,106,107,108,109,110,111,112,113,114,115,116,117,118,119,120,121,122,48,49,50,51,52,53,54,55,56,57,45,95]⟩).bind fun g0=>(aC_p n a1.fh a0.fh a1.fA).bind fun j0=>(aC_p n a1.fVotes a0.fc ((c0:Nat):Int)).bind fun k0=>(aC_p n a1.fE a0.fe ((d0:Nat):Int)).bind fun p0=>(aK_p n ([(!(decide (a1.fw = ⟨#[]⟩))),(decide (a1.fw.size <= 12)),(decide (g0 = ⟨#[]⟩)),(decide (0 <= a1.fA)),(decide (a1.fA <= ((c0:Nat):Int))),j0,k0,p0]:List Bool)).bind fun q0=>some q0) (fun b0=>(if a1.ft = true then b0 (0,0) else b0 (1000000000,63)))
theorem bC_c (n:Nat) {L w} (hL:hl L w) (a0:Tf) {v0_3:Value} (_h0_3:Rep.R w L [v0_3] a0.fu) (a1:Tc) {v1_2:Value} (h1_2:Rep.R w L [v1_2] a1.fh) {v1_3:Value} (h1_3:Rep.R w L [v1_3] a1.fVotes) {v1_4:Value} (h1_4:Rep.R w L [v1_4] a1.fE)  {r:Bool} (h:bC_p n a0 a1 = some r) :
 Cl 212 #[.agg #[vI a0.fh,vI a0.fc,vI a0.fe,v0_3],.agg #[.string a1.fw,vI a1.fA,v1_2,v1_3,v1_4,.bool a1.ft]] w (ak w fun _ u=>u = .bool r):=by
 unfold bC_p at h
 refine AC func212 rfl rfl rfl fun _ cs0 hb0=>Ae<|RG.bx (Ax w) rfl rfl fun R0 x0 B0 K0=>RG.bx B0 rfl rfl fun U0 y0 u0 M0=>Ag rfl<|Aa<|Ae<|Ag rfl<|Ag rfl<|Aa<|Ak<|Ae<|Bk 5 rfl<|AO rfl ((u0.memA .hd) 5 _ rfl)<|Aa<|MX.jo (α:=Nat × Nat) (fun ⟨g0,t0⟩=>[(2,vP x0),(3,vP y0),(5,vI ((g0:Nat):Int)),(6,vI ((t0:Nat):Int))]) (fun ⟨g0,t0⟩=>[.cells y0 [.string a1.fw,vI a1.fA,v1_2,v1_3,v1_4,.bool a1.ft] 63,.cells x0 [vI a0.fh,vI a0.fc,vI a0.fe,v0_3] 37]) (fun ⟨g0,t0⟩=>(g0,t0)) u0 h ?_ ?_
 rintro ⟨g0,t0⟩ W0 d0 P0 h
 try dsimp only at h
 refine Ak<|du 40 fun b0 c0=>Rv 0 b0 rfl c0 (fun _=>Bo 0 rfl)<|Rx 1 962072674308 b0 rfl c0 (AZ rfl ((d0.memA .hd) 0 _ rfl))<|Rv 2 b0 rfl c0 (fun _=>FV.neqS rfl rfl)<|Rv 3 b0 rfl c0 (fun _=>Bo 0 rfl)<|Rx 4 962072674400 b0 rfl c0 (AZ rfl ((d0.memA .hd) 0 _ rfl))<|Rx 5 962072674368 b0 rfl c0 (Bx underlying9 rfl)<|Rv 6 b0 rfl c0 (fun _=>FV.leqN (i:=a1.fw.size) (j:=12) rfl rfl)<|Rv 7 b0 rfl c0 (fun _=>Bo 0 rfl)<|Rx 8 1031882671616 b0 rfl c0 (AZ rfl ((d0.memA .hd) 0 _ rfl))<|bk h fun s0 C0 h=>RD.cq 9 1023 1031882671104 (.string s0) b0 rfl c0 (bd 223) rfl (e2 rfl rfl) (fun w9 hw9=>aq_c n (d0.hL0 hL hw9)  C0) rfl<|Rv 10 b0 rfl c0 (fun _=>FV.eqlS rfl rfl)<|Rv 11 b0 rfl c0 (fun _=>Bo 1 rfl)<|Rx 12 962072682496 b0 rfl c0 (AZ rfl ((d0.memA .hd) 1 _ rfl))<|Rv 13 b0 rfl c0 (fun _=>FV.geq (i:=a1.fA) (j:=0) rfl rfl)<|Rv 14 b0 rfl c0 (fun _=>Bo 1 rfl)<|Rx 15 962072805376 b0 rfl c0 (AZ rfl ((d0.memA .hd) 1 _ rfl))<|Rv 16 b0 rfl c0 (fun _=>Aj rfl)<|Rv 17 b0 rfl c0 (fun _=>FV.leq (i:=a1.fA) (j:=((g0:Nat):Int)) rfl rfl)<|Rv 18 b0 rfl c0 (fun _=>Bo 2 rfl)<|Rx 19 1031882670080 b0 rfl c0 (AZ rfl ((d0.memA .hd) 2 _ rfl))<|Rv 20 b0 rfl c0 (fun _=>Bo 0 rfl)<|Rx 21 1031882670080 b0 rfl c0 (AZ rfl ((d0.memA .t1) 0 _ rfl))<|Rv 22 b0 rfl c0 (fun _=>Bo 1 rfl)<|Rx 23 1031882670080 b0 rfl c0 (AZ rfl ((d0.memA .hd) 1 _ rfl))<|bk h fun q0 D0 h=>RD.cq 24 33554431 1031865892864 (.bool q0) b0 rfl c0 (bd 224) rfl (e3 rfl rfl rfl) (fun w9 hw9=>aC_c n (d0.hL0 hL hw9) (d0.k0 h1_2 hw9) D0) rfl<|Rv 25 b0 rfl c0 (fun _=>Bo 3 rfl)<|Rx 26 1031865892864 b0 rfl c0 (AZ rfl ((d0.memA .hd) 3 _ rfl))<|Rv 27 b0 rfl c0 (fun _=>Bo 1 rfl)<|Rx 28 1031865892864 b0 rfl c0 (AZ rfl ((d0.memA .t1) 1 _ rfl))<|Rv 29 b0 rfl c0 (fun _=>Aj rfl)<|bk h fun p0 E0 h=>RD.cq 30 2147483647 1030792151040 (.bool p0) b0 rfl c0 (bd 224) rfl (e3 rfl rfl rfl) (fun w9 hw9=>aC_c n (d0.hL0 hL hw9) (d0.k0 h1_3 hw9) E0) rfl<|Rv 31 b0 rfl c0 (fun _=>Bo 4 rfl)<|Rx 32 1030792151040 b0 rfl c0 (AZ rfl ((d0.memA .hd) 4 _ rfl))<|Rv 33 b0 rfl c0 (fun _=>Bo 2 rfl)<|Rx 34 1030792151040 b0 rfl c0 (AZ rfl ((d0.memA .t1) 2 _ rfl))<|Rv 35 b0 rfl c0 (fun _=>Aj rfl)<|bk h fun j0 F0 h=>RD.cq 36 137438953471 962072674304 (.bool j0) b0 rfl c0 (bd 224) rfl (e3 rfl rfl rfl) (fun w9 hw9=>aC_c n (d0.hL0 hL hw9) (d0.k0 h1_4 hw9) F0) rfl<|RD.nu 37 274877906943 b0 rfl .plain rfl (Ba (α:=Bool) (xs:=([(!(decide (a1.fw = ⟨#[]⟩))),(decide (a1.fw.size <= 12)),(decide (s0 = ⟨#[]⟩)),(decide (0 <= a1.fA)),(decide (a1.fA <= ((g0:Nat):Int))),q0,p0,j0]:List Bool)) (vs:=[.bool (!(decide (a1.fw = ⟨#[]⟩))),.bool (decide (a1.fw.size <= 12)),.bool (decide (s0 = ⟨#[]⟩)),.bool (decide (0 <= a1.fA)),.bool (decide (a1.fA <= ((g0:Nat):Int))),.bool q0,.bool p0,.bool j0]) (ds' :=[.bool (!(decide (a1.fw = ⟨#[]⟩))),.bool (decide (a1.fw.size <= 12)),.bool (decide (s0 = ⟨#[]⟩)),.bool (decide (0 <= a1.fA)),.bool (decide (a1.fA <= ((g0:Nat):Int))),.bool q0,.bool p0,.bool j0]) rfl d0 fS rfl (e8 rfl rfl rfl rfl rfl rfl rfl rfl) (by kernel_rfl) rfl) fun V0 J0 v0 Q0=>?_
 refine bk h fun H0 G0 h=>RD.cq 38 549755813887 549755813888 (.bool H0) b0 rfl c0 (bd 211) rfl (e1 rfl) (fun w9 hw9=>aK_c n (v0.hL0 hL hw9) (Av (St.lend (α:=Bool) (L:=L) v0 .hd (AE (cs:=[.bool (!(decide (a1.fw = ⟨#[]⟩))),.bool (decide (a1.fw.size <= 12)),.bool (decide (s0 = ⟨#[]⟩)),.bool (decide (0 <= a1.fA)),.bool (decide (a1.fA <= ((g0:Nat):Int))),.bool q0,.bool p0,.bool j0]) (xs:=(([(!(decide (a1.fw = ⟨#[]⟩))),(decide (a1.fw.size <= 12)),(decide (s0 = ⟨#[]⟩)),(decide (0 <= a1.fA)),(decide (a1.fA <= ((g0:Nat):Int))),q0,p0,j0]:List Bool):List Bool)) v0 L (Ar (cs:=[.bool (!(decide (a1.fw = ⟨#[]⟩)))]) (ds:=[.bool (decide (a1.fw.size <= 12)),.bool (decide (s0 = ⟨#[]⟩)),.bool (decide (0 <= a1.fA)),.bool (decide (a1.fA <= ((g0:Nat):Int))),.bool q0,.bool p0,.bool j0]) rfl (Ar (cs:=[.bool (decide (a1.fw.size <= 12))]) (ds:=[.bool (decide (s0 = ⟨#[]⟩)),.bool (decide (0 <= a1.fA)),.bool (decide (a1.fA <= ((g0:Nat):Int))),.bool q0,.bool p0,.bool j0]) rfl (Ar (cs:=[.bool (decide (s0 = ⟨#[]⟩))]) (ds:=[.bool (decide (0 <= a1.fA)),.bool (decide (a1.fA <= ((g0:Nat):Int))),.bool q0,.bool p0,.bool j0]) rfl (Ar (cs:=[.bool (decide (0 <= a1.fA))]) (ds:=[.bool (decide (a1.fA <= ((g0:Nat):Int))),.bool q0,.bool p0,.bool j0]) rfl (Ar (cs:=[.bool (decide (a1.fA <= ((g0:Nat):Int)))]) (ds:=[.bool q0,.bool p0,.bool j0]) rfl (Ar (cs:=[.bool q0]) (ds:=[.bool p0,.bool j0]) rfl (Ar (cs:=[.bool p0]) (ds:=[.bool j0]) rfl (Ar (cs:=[.bool j0]) (ds:=[]) rfl (AR _ _)))))))))) hL) hw9) G0) rfl<|Rv 39 b0 rfl c0 (fun _=>Bc rfl)<|AH (dk b0)<|Am rfl<|AU hb0 func212 rfl rfl ?_
 cases h
 exact v0.gv
 intro I0 z0 h
 try dsimp only at h
 refine MX.ifb rfl h (fun A0 h=>?_) (fun A0 h=>?_)
 refine Ao<|Ag rfl<|Ag rfl<|Aa<|z0 (0,0) u0 (Tr.refl _ _) h
 refine Ap<|z0 (1000000000,63) u0 (Tr.refl _ _) h
theorem lO {w:World} {L:List Nat} {cs:List Value} {x:Tc} (h:Rep.R w L cs x):∃ v2 v3 v4:Value,cs = [.string x.fw,vI x.fA,v2,v3,v4,.bool x.ft]/\Rep.R w L [v2] x.fh/\Rep.R w L [v3] x.fVotes/\Rep.R w L [v4] x.fE:=by
  obtain ⟨c0,r0,rfl,h0,h⟩:=h
  have e0:c0 = [.string x.fw]:=h0; subst e0
  obtain ⟨c1,r1,rfl,h1,h⟩:=h
  have e1:c1 = [vI x.fA]:=h1; subst e1
  obtain ⟨c2,r2,rfl,h2,h⟩:=h
  obtain ⟨v2,rfl,kv2⟩:=bv (xs:=x.fh) h2
  obtain ⟨c3,r3,rfl,h3,h⟩:=h
  obtain ⟨v3,rfl,kv3⟩:=bv (xs:=x.fVotes) h3
  obtain ⟨c4,r4,rfl,h4,h⟩:=h
  obtain ⟨v4,rfl,kv4⟩:=bv (xs:=x.fE) h4
  have e5:r4 = [.bool x.ft]:=h; subst e5
  exact ⟨v2,v3,v4,rfl,kv2,kv3,kv4⟩
theorem lr {w:World} {L:List Nat} (a0:ByteArray) (a1:Int) (a2:List Int) {u2:Value} (h2:Rep.R w L [u2] a2) (a3:List Int) {u3:Value} (h3:Rep.R w L [u3] a3) (a4:List Int) {u4:Value} (h4:Rep.R w L [u4] a4) (a5:Bool):Rep.R w L [.string a0,vI a1,u2,u3,u4,.bool a5] (⟨a0,a1,a2,a3,a4,a5⟩:Tc):=⟨[.string a0],[vI a1,u2,u3,u4,.bool a5],rfl,rfl,⟨[vI a1],[u2,u3,u4,.bool a5],rfl,rfl,⟨[u2],[u3,u4,.bool a5],rfl,h2,⟨[u3],[u4,.bool a5],rfl,h3,⟨[u4],[.bool a5],rfl,h4,rfl⟩⟩⟩⟩⟩
def aF_l1 (n:Nat) (a0:Tf) (g0:Bool × Nat × (List (ByteArray × Bool)) -> Option (Int ⊕ Unit)):Bool × Nat × (List (ByteArray × Bool)) -> Option (Int ⊕ Unit)
  | (k0,d0,c0)=>(if d0 < a0.fu.length then (a0.fu[d0]?).bind fun b0=>(bC_p n a0 b0).bind fun j0=>(if b0.ft = true then (if 0 < d0 then (aK_p n ([j0,(!(az c0 b0.fw false)),true,true]:List Bool)).bind fun p0=>(if p0 = true then g0 (b0.ft,d0 + 1,aW c0 b0.fw true) else some (.inl (161:Int))) else (aK_p n ([j0,(!(az c0 b0.fw false)),true,(!b0.ft)]:List Bool)).bind fun q0=>(if q0 = true then g0 (b0.ft,d0 + 1,aW c0 b0.fw true) else some (.inl (161:Int)))) else (if 0 < d0 then (aK_p n ([j0,(!(az c0 b0.fw false)),(!k0),true]:List Bool)).bind fun s0=>(if s0 = true then g0 (b0.ft,d0 + 1,aW c0 b0.fw true) else some (.inl (161:Int))) else (aK_p n ([j0,(!(az c0 b0.fw false)),(!k0),(!b0.ft)]:List Bool)).bind fun t0=>(if t0 = true then g0 (b0.ft,d0 + 1,aW c0 b0.fw true) else some (.inl (161:Int))))) else some (.inr ()))
def aF_p (n:Nat) (a0:Tf):Option Int:=
  (aK_p n ([(decide (0 <= a0.fh)),(decide (a0.fh <= 6)),(decide (0 <= a0.fc)),(decide (a0.fc <= 12)),(decide (0 <= a0.fe)),(decide (a0.fe <= 3)),(decide (0 < a0.fu.length)),(decide (a0.fu.length <= 64))]:List Bool)).bind fun b0=>(if b0 = true then thn (ao (aF_l1 n a0) n (false,0,([]:List (ByteArray × Bool)))) (fun _=>some (0:Int)) else some (161:Int))
theorem aF_c (n:Nat) {L w} (hL:hl L w) (a0:Tf) {v0_3:Value} (h0_3:Rep.R w L [v0_3] a0.fu)  {r:Int} (h:aF_p n a0 = some r) :
 Cl 179 #[.agg #[vI a0.fh,vI a0.fc,vI a0.fe,v0_3]] w (ak w fun _ u=>u = vI r):=by
 unfold aF_p at h
 refine AC func179 rfl rfl rfl fun _ cs0 hb0=>Ae<|RG.bx (Ax w) rfl rfl fun P2 H0 u0 G2=>Ag rfl<|Aa<|Ae<|Bk 3 rfl<|AO rfl ((u0.memA .hd) 3 _ rfl) ?_
 have Q0:=AQ h0_3 u0
 have K2:a0.fu.length <= 281474976710656:=AY Q0
 refine Ac (Be (xs:=a0.fu) underlying35 rfl Q0)<|Ag rfl<|Aa<|Ak<|Ae<|Bk 0 rfl<|AO rfl ((u0.memA .hd) 0 _ rfl)<|Ac (FV.geq (i:=a0.fh) (j:=0) rfl rfl)<|Bk 0 rfl<|AO rfl ((u0.memA .hd) 0 _ rfl)<|Ac (FV.leq (i:=a0.fh) (j:=6) rfl rfl)<|Bk 1 rfl<|AO rfl ((u0.memA .hd) 1 _ rfl)<|Ac (FV.geq (i:=a0.fc) (j:=0) rfl rfl)<|Bk 1 rfl<|AO rfl ((u0.memA .hd) 1 _ rfl)<|Ac (FV.leq (i:=a0.fc) (j:=12) rfl rfl)<|Bk 2 rfl<|AO rfl ((u0.memA .hd) 2 _ rfl)<|Ac (FV.geq (i:=a0.fe) (j:=0) rfl rfl)<|Bk 2 rfl<|AO rfl ((u0.memA .hd) 2 _ rfl)<|Ac (FV.leq (i:=a0.fe) (j:=3) rfl rfl)<|Af rfl<|Ac (FV.gtrN (i:=a0.fu.length) (j:=0) rfl rfl)<|Af rfl<|Ac (FV.leqN (i:=a0.fu.length) (j:=64) rfl rfl)<|Al .plain rfl (Ba (α:=Bool) (xs:=([(decide (0 <= a0.fh)),(decide (a0.fh <= 6)),(decide (0 <= a0.fc)),(decide (a0.fc <= 12)),(decide (0 <= a0.fe)),(decide (a0.fe <= 3)),(decide (0 < a0.fu.length)),(decide (a0.fu.length <= 64))]:List Bool)) (vs:=[.bool (decide (0 <= a0.fh)),.bool (decide (a0.fh <= 6)),.bool (decide (0 <= a0.fc)),.bool (decide (a0.fc <= 12)),.bool (decide (0 <= a0.fe)),.bool (decide (a0.fe <= 3)),.bool (decide (0 < a0.fu.length)),.bool (decide (a0.fu.length <= 64))]) (ds' :=[.bool (decide (0 <= a0.fh)),.bool (decide (a0.fh <= 6)),.bool (decide (0 <= a0.fc)),.bool (decide (a0.fc <= 12)),.bool (decide (0 <= a0.fe)),.bool (decide (a0.fe <= 3)),.bool (decide (0 < a0.fu.length)),.bool (decide (a0.fu.length <= 64))]) rfl u0 fS rfl (e8 rfl rfl rfl rfl rfl rfl rfl rfl) (by kernel_rfl) rfl) fun Q2 y2 B0 H2=>bk h fun k2 V1 h=>Bf (.bool k2) (bd 211) rfl (e1 rfl) (fun w9 hw9=>aK_c n (B0.hL0 hL hw9) (Av (St.lend (α:=Bool) (L:=L) B0 .hd (AE (cs:=[.bool (decide (0 <= a0.fh)),.bool (decide (a0.fh <= 6)),.bool (decide (0 <= a0.fc)),.bool (decide (a0.fc <= 12)),.bool (decide (0 <= a0.fe)),.bool (decide (a0.fe <= 3)),.bool (decide (0 < a0.fu.length)),.bool (decide (a0.fu.length <= 64))]) (xs:=(([(decide (0 <= a0.fh)),(decide (a0.fh <= 6)),(decide (0 <= a0.fc)),(decide (a0.fc <= 12)),(decide (0 <= a0.fe)),(decide (a0.fe <= 3)),(decide (0 < a0.fu.length)),(decide (a0.fu.length <= 64))]:List Bool):List Bool)) B0 L (Ar (cs:=[.bool (decide (0 <= a0.fh))]) (ds:=[.bool (decide (a0.fh <= 6)),.bool (decide (0 <= a0.fc)),.bool (decide (a0.fc <= 12)),.bool (decide (0 <= a0.fe)),.bool (decide (a0.fe <= 3)),.bool (decide (0 < a0.fu.length)),.bool (decide (a0.fu.length <= 64))]) rfl (Ar (cs:=[.bool (decide (a0.fh <= 6))]) (ds:=[.bool (decide (0 <= a0.fc)),.bool (decide (a0.fc <= 12)),.bool (decide (0 <= a0.fe)),.bool (decide (a0.fe <= 3)),.bool (decide (0 < a0.fu.length)),.bool (decide (a0.fu.length <= 64))]) rfl (Ar (cs:=[.bool (decide (0 <= a0.fc))]) (ds:=[.bool (decide (a0.fc <= 12)),.bool (decide (0 <= a0.fe)),.bool (decide (a0.fe <= 3)),.bool (decide (0 < a0.fu.length)),.bool (decide (a0.fu.length <= 64))]) rfl (Ar (cs:=[.bool (decide (a0.fc <= 12))]) (ds:=[.bool (decide (0 <= a0.fe)),.bool (decide (a0.fe <= 3)),.bool (decide (0 < a0.fu.length)),.bool (decide (a0.fu.length <= 64))]) rfl (Ar (cs:=[.bool (decide (0 <= a0.fe))]) (ds:=[.bool (decide (a0.fe <= 3)),.bool (decide (0 < a0.fu.length)),.bool (decide (a0.fu.length <= 64))]) rfl (Ar (cs:=[.bool (decide (a0.fe <= 3))]) (ds:=[.bool (decide (0 < a0.fu.length)),.bool (decide (a0.fu.length <= 64))]) rfl (Ar (cs:=[.bool (decide (0 < a0.fu.length))]) (ds:=[.bool (decide (a0.fu.length <= 64))]) rfl (Ar (cs:=[.bool (decide (a0.fu.length <= 64))]) (ds:=[]) rfl (AR _ _)))))))))) hL) hw9) V1) rfl<|Ac (BD rfl)<|Aa<|MX.ifnb rfl h (fun X0 h=>?_) (fun X0 h=>?_)
 refine Ap<|Ae<|Al .plain rfl (Does.makeMap (κ:=ByteArray) (ν:=Bool) B0) fun X2 I0 G0 J2=>Ag rfl<|Aa<|Ae<|Ag rfl<|Aa<|Ak<|Ae<|Bk 3 rfl<|AO rfl ((G0.memA .t2) 3 _ rfl)<|Ac (Be (xs:=a0.fu) underlying35 rfl (AQ h0_3 G0))<|Af rfl<|Aa<|Au ?_
 obtain ⟨p1,I2⟩:=AN G0 (.a0 .d1)
 refine tn h fun M2 Q1 C0=>MX.lo (α:=Bool × Nat × (List (ByteArray × Bool))) (fun ⟨p0,q0,g0⟩=>[(1,vP H0),(4,.map (some I0)),(5,.bool p0),(38,v0_3),(39,vI ((a0.fu.length:Nat):Int)),(40,vI ((q0:Nat):Int))]) (fun ⟨p0,q0,g0⟩=>[.obj I0 (bT (g0:List (ByteArray × Bool))),.cells H0 [vI a0.fh,vI a0.fc,vI a0.fe,v0_3] 37]) (fun ⟨p0,q0,g0⟩=>(p0,q0,g0)) (false,0,([]:List (ByteArray × Bool))) Q1 p1 ?_
 rintro x2 ⟨p0,q0,g0⟩ j3 D0 F0 E0 h
 unfold aF_l1 at h
 try dsimp only at h
 refine Ae<|Ac (Bm (i:=q0) (j:=a0.fu.length) rfl rfl)<|Aa<|Ak<|AI rfl h (fun W0 h=>?_) (fun W0 h=>?_)
 refine Ap<|Ak<|Au<|Ae<|Af rfl<|bk h fun b0 U1 h=>?_
 obtain ⟨v2,E2,K1,M1,F2,R1,P1⟩:=Bl (AQ h0_3 F0) U1
 obtain ⟨c2,g2,j2,rfl,R0,U0,V0⟩:=lO R1
 refine Ac (Bh 6 q0 rfl K1 rfl rfl M1)<|Ac (AD rfl P1)<|RG.nl [.string ⟨#[]⟩,vI 0,vN,vN,vN,.bool false] F0 fun R2 z2 q1 t0=>Ag rfl<|AW [.string b0.fw,vI b0.fA,c2,g2,j2,.bool b0.ft] q1 .hd (o6 rfl rfl (Bd (Az R0 t0)) (Bd (Az U0 t0)) (Bd (Az V0 t0)) rfl) fun U2 s0 v0=>Aa<|Ak<|Ak<|du 24 fun c0 d0=>Rx 0 16727044 c0 rfl d0 (AD rfl (s0.memA .t2))<|Rx 1 16727044 c0 rfl d0 (AD rfl (s0.memA .hd))<|bk h fun j0 W1 h=>RD.cq 2 7 16727040 (.bool j0) c0 rfl d0 (bd 212) rfl (e2 rfl rfl) (fun w9 hw9=>bC_c n (s0.hL0 hL hw9) a0 (s0.k0 h0_3 hw9) b0 (s0.kd (Az R0 (Tt t0 v0)) hw9) (s0.kd (Az U0 (Tt t0 v0)) hw9) (s0.kd (Az V0 (Tt t0 v0)) hw9) W1) rfl<|Rv 3 c0 rfl d0 (fun _=>Aj rfl)<|Rv 4 c0 rfl d0 (fun _=>Bo 0 rfl)<|Rx 5 14680256 c0 rfl d0 (AZ rfl ((s0.memA .hd) 0 _ rfl))<|Rx 6 14680192 c0 rfl d0 (FV.lookup (kv:=b0.fw) (z:=false) s0 .t1 underlying250 underlying9 rfl rfl rfl rfl)<|Rv 7 c0 rfl d0 (fun _=>BD rfl)<|Rv 8 c0 rfl d0 (fun _=>Bo 5 rfl)<|Rx 9 16727040 c0 rfl d0 (AZ rfl ((s0.memA .hd) 5 _ rfl))<|Rv 10 c0 rfl d0 (fun _=>Aj rfl)<|RD.ifb (s:=55) rfl h (fun Y0 h=>?_) (fun Y0 h=>?_)
 refine Bb 8191 11 [(11,56),(12,57)] (F:=[(55,true)]) (U:=[]) c0 d0 (.cons rfl .nil) .nil ?_
 dsimp only [aC,List.map]
 refine Rv 13 c0 rfl d0 (fun _=>FV.pick_t rfl rfl)<|Rv 14 c0 rfl d0 (fun _=>Aj rfl)<|Rv 15 c0 rfl d0 (fun _=>FV.gtrN (i:=q0) (j:=0) rfl rfl)<|Rv 16 c0 rfl d0 (fun _=>Aj rfl)<|RD.ifd (s:=61) rfl h (fun Z0 h=>?_) (fun Z0 h=>?_)
 refine Bb 1048575 4 [(17,62),(18,63),(19,64)] (F:=[(61,true)]) (U:=[]) c0 d0 (.cons rfl .nil) .nil ?_
 dsimp only [aC,List.map]
 refine Rv 20 c0 rfl d0 (fun _=>FV.pick_t rfl rfl)<|RD.nu 21 4194303 c0 rfl .plain rfl (Ba (α:=Bool) (xs:=([j0,(!(az g0 b0.fw false)),true,true]:List Bool)) (vs:=[.bool j0,.bool (!(az g0 b0.fw false)),.bool true,.bool true]) (ds' :=[.bool j0,.bool (!(az g0 b0.fw false)),.bool true,.bool true]) rfl s0 fS rfl (e4 rfl rfl rfl rfl) (by kernel_rfl) rfl) fun V2 A2 x0 y1=>bk h fun p2 X1 h=>RD.cq 22 8388607 8388608 (.bool p2) c0 rfl d0 (bd 211) rfl (e1 rfl) (fun w9 hw9=>aK_c n (x0.hL0 hL hw9) (Av (St.lend (α:=Bool) (L:=L) x0 .hd (AE (cs:=[.bool j0,.bool (!(az g0 b0.fw false)),.bool true,.bool true]) (xs:=(([j0,(!(az g0 b0.fw false)),true,true]:List Bool):List Bool)) x0 L (Ar (cs:=[.bool j0]) (ds:=[.bool (!(az g0 b0.fw false)),.bool true,.bool true]) rfl (Ar (cs:=[.bool (!(az g0 b0.fw false))]) (ds:=[.bool true,.bool true]) rfl (Ar (cs:=[.bool true]) (ds:=[.bool true]) rfl (Ar (cs:=[.bool true]) (ds:=[]) rfl (AR _ _)))))) hL) hw9) X1) rfl<|Rv 23 c0 rfl d0 (fun _=>BD rfl)<|AH (dk c0)<|MX.ifnb rfl h (fun b1 h=>?_) (fun b1 h=>?_)
 refine Ap<|Ae<|Af rfl<|Bk 0 rfl<|AO rfl ((x0.memA .t1) 0 _ rfl)<|RG.now .plain (Acts.mapUpdate (kv:=b0.fw) (vv:=true) x0 .t2 underlying250 underlying9 rfl rfl rfl rfl) fun W2 J0 z1=>Aa<|Ao<|Bk 5 rfl<|AO rfl ((J0.memA .t1) 5 _ rfl)<|Ag rfl<|Aa<|Ay<|Ao<|Ac (Bg (i:=q0) (j:=1) rfl rfl (by omega))<|Af rfl<|Aa ?_
 obtain ⟨s1,A1⟩:=AN J0 .d2
 exact D0 (b0.ft,q0 + 1,aW g0 b0.fw true) s1 (Tt E0 (Tt t0 (Tt v0 (Tt y1 (Tt z1 A1))))) h
 refine Ae<|Ag rfl<|Aa ?_
 have h:=ax h C0
 refine Am rfl<|AU hb0 func179 rfl rfl ?_
 cases h
 exact x0.gv
 refine RD.vP 17 262143 c0 rfl d0 (.yes rfl rfl) (fun _=>Bo 5 rfl) rfl<|RD.val (i:=18) (m' :=524287) (W:=16252928) (tk c0) rfl d0 (.yes rfl rfl) (AZ rfl ((s0.memA .hd) 5 _ rfl)) rfl<|RD.vP 19 1048575 c0 rfl d0 (.yes rfl rfl) (fun _=>BD rfl) rfl<|Rv 20 c0 rfl d0 (fun _=>AK rfl rfl)<|RD.nu 21 4194303 c0 rfl .plain rfl (Ba (α:=Bool) (xs:=([j0,(!(az g0 b0.fw false)),true,(!b0.ft)]:List Bool)) (vs:=[.bool j0,.bool (!(az g0 b0.fw false)),.bool true,.bool (!b0.ft)]) (ds' :=[.bool j0,.bool (!(az g0 b0.fw false)),.bool true,.bool (!b0.ft)]) rfl s0 fS rfl (e4 rfl rfl rfl rfl) (by kernel_rfl) rfl) fun Y2 B2 y0 B1=>bk h fun q2 Y1 h=>RD.cq 22 8388607 8388608 (.bool q2) c0 rfl d0 (bd 211) rfl (e1 rfl) (fun w9 hw9=>aK_c n (y0.hL0 hL hw9) (Av (St.lend (α:=Bool) (L:=L) y0 .hd (AE (cs:=[.bool j0,.bool (!(az g0 b0.fw false)),.bool true,.bool (!b0.ft)]) (xs:=(([j0,(!(az g0 b0.fw false)),true,(!b0.ft)]:List Bool):List Bool)) y0 L (Ar (cs:=[.bool j0]) (ds:=[.bool (!(az g0 b0.fw false)),.bool true,.bool (!b0.ft)]) rfl (Ar (cs:=[.bool (!(az g0 b0.fw false))]) (ds:=[.bool true,.bool (!b0.ft)]) rfl (Ar (cs:=[.bool true]) (ds:=[.bool (!b0.ft)]) rfl (Ar (cs:=[.bool (!b0.ft)]) (ds:=[]) rfl (AR _ _)))))) hL) hw9) Y1) rfl<|Rv 23 c0 rfl d0 (fun _=>BD rfl)<|AH (dk c0)<|MX.ifnb rfl h (fun c1 h=>?_) (fun c1 h=>?_)
 refine Ap<|Ae<|Af rfl<|Bk 0 rfl<|AO rfl ((y0.memA .t1) 0 _ rfl)<|RG.now .plain (Acts.mapUpdate (kv:=b0.fw) (vv:=true) y0 .t2 underlying250 underlying9 rfl rfl rfl rfl) fun Z2 K0 C1=>Aa<|Ao<|Bk 5 rfl<|AO rfl ((K0.memA .t1) 5 _ rfl)<|Ag rfl<|Aa<|Ay<|Ao<|Ac (Bg (i:=q0) (j:=1) rfl rfl (by omega))<|Af rfl<|Aa ?_
 obtain ⟨u1,D1⟩:=AN K0 .d2
 exact D0 (b0.ft,q0 + 1,aW g0 b0.fw true) u1 (Tt E0 (Tt t0 (Tt v0 (Tt B1 (Tt C1 D1))))) h
 refine Ae<|Ag rfl<|Aa ?_
 have h:=ax h C0
 refine Am rfl<|AU hb0 func179 rfl rfl ?_
 cases h
 exact y0.gv
 refine RD.vP 11 4095 c0 rfl d0 (.yes rfl rfl) (fun _=>Aj rfl) rfl<|RD.vP 12 8191 c0 rfl d0 (.yes rfl rfl) (fun _=>BD rfl) rfl<|Rv 13 c0 rfl d0 (fun _=>AK rfl rfl)<|Rv 14 c0 rfl d0 (fun _=>Aj rfl)<|Rv 15 c0 rfl d0 (fun _=>FV.gtrN (i:=q0) (j:=0) rfl rfl)<|Rv 16 c0 rfl d0 (fun _=>Aj rfl)<|RD.ifd (s:=61) rfl h (fun g1 h=>?_) (fun g1 h=>?_)
 refine Bb 1048575 4 [(17,62),(18,63),(19,64)] (F:=[(61,true)]) (U:=[]) c0 d0 (.cons rfl .nil) .nil ?_
 dsimp only [aC,List.map]
 refine Rv 20 c0 rfl d0 (fun _=>FV.pick_t rfl rfl)<|RD.nu 21 4194303 c0 rfl .plain rfl (Ba (α:=Bool) (xs:=([j0,(!(az g0 b0.fw false)),(!p0),true]:List Bool)) (vs:=[.bool j0,.bool (!(az g0 b0.fw false)),.bool (!p0),.bool true]) (ds' :=[.bool j0,.bool (!(az g0 b0.fw false)),.bool (!p0),.bool true]) rfl s0 fS rfl (e4 rfl rfl rfl rfl) (by kernel_rfl) rfl) fun b3 C2 z0 E1=>bk h fun s2 Z1 h=>RD.cq 22 8388607 8388608 (.bool s2) c0 rfl d0 (bd 211) rfl (e1 rfl) (fun w9 hw9=>aK_c n (z0.hL0 hL hw9) (Av (St.lend (α:=Bool) (L:=L) z0 .hd (AE (cs:=[.bool j0,.bool (!(az g0 b0.fw false)),.bool (!p0),.bool true]) (xs:=(([j0,(!(az g0 b0.fw false)),(!p0),true]:List Bool):List Bool)) z0 L (Ar (cs:=[.bool j0]) (ds:=[.bool (!(az g0 b0.fw false)),.bool (!p0),.bool true]) rfl (Ar (cs:=[.bool (!(az g0 b0.fw false))]) (ds:=[.bool (!p0),.bool true]) rfl (Ar (cs:=[.bool (!p0)]) (ds:=[.bool true]) rfl (Ar (cs:=[.bool true]) (ds:=[]) rfl (AR _ _)))))) hL) hw9) Z1) rfl<|Rv 23 c0 rfl d0 (fun _=>BD rfl)<|AH (dk c0)<|MX.ifnb rfl h (fun j1 h=>?_) (fun j1 h=>?_)
 refine Ap<|Ae<|Af rfl<|Bk 0 rfl<|AO rfl ((z0.memA .t1) 0 _ rfl)<|RG.now .plain (Acts.mapUpdate (kv:=b0.fw) (vv:=true) z0 .t2 underlying250 underlying9 rfl rfl rfl rfl) fun c3 M0 F1=>Aa<|Ao<|Bk 5 rfl<|AO rfl ((M0.memA .t1) 5 _ rfl)<|Ag rfl<|Aa<|Ay<|Ao<|Ac (Bg (i:=q0) (j:=1) rfl rfl (by omega))<|Af rfl<|Aa ?_
 obtain ⟨v1,G1⟩:=AN M0 .d2
 exact D0 (b0.ft,q0 + 1,aW g0 b0.fw true) v1 (Tt E0 (Tt t0 (Tt v0 (Tt E1 (Tt F1 G1))))) h
 refine Ae<|Ag rfl<|Aa ?_
 have h:=ax h C0
 refine Am rfl<|AU hb0 func179 rfl rfl ?_
 cases h
 exact z0.gv
 refine RD.vP 17 262143 c0 rfl d0 (.yes rfl rfl) (fun _=>Bo 5 rfl) rfl<|RD.val (i:=18) (m' :=524287) (W:=16252928) (tk c0) rfl d0 (.yes rfl rfl) (AZ rfl ((s0.memA .hd) 5 _ rfl)) rfl<|RD.vP 19 1048575 c0 rfl d0 (.yes rfl rfl) (fun _=>BD rfl) rfl<|Rv 20 c0 rfl d0 (fun _=>AK rfl rfl)<|RD.nu 21 4194303 c0 rfl .plain rfl (Ba (α:=Bool) (xs:=([j0,(!(az g0 b0.fw false)),(!p0),(!b0.ft)]:List Bool)) (vs:=[.bool j0,.bool (!(az g0 b0.fw false)),.bool (!p0),.bool (!b0.ft)]) (ds' :=[.bool j0,.bool (!(az g0 b0.fw false)),.bool (!p0),.bool (!b0.ft)]) rfl s0 fS rfl (e4 rfl rfl rfl rfl) (by kernel_rfl) rfl) fun d3 D2 A0 H1=>bk h fun u2 b2 h=>RD.cq 22 8388607 8388608 (.bool u2) c0 rfl d0 (bd 211) rfl (e1 rfl) (fun w9 hw9=>aK_c n (A0.hL0 hL hw9) (Av (St.lend (α:=Bool) (L:=L) A0 .hd (AE (cs:=[.bool j0,.bool (!(az g0 b0.fw false)),.bool (!p0),.bool (!b0.ft)]) (xs:=(([j0,(!(az g0 b0.fw false)),(!p0),(!b0.ft)]:List Bool):List Bool)) A0 L (Ar (cs:=[.bool j0]) (ds:=[.bool (!(az g0 b0.fw false)),.bool (!p0),.bool (!b0.ft)]) rfl (Ar (cs:=[.bool (!(az g0 b0.fw false))]) (ds:=[.bool (!p0),.bool (!b0.ft)]) rfl (Ar (cs:=[.bool (!p0)]) (ds:=[.bool (!b0.ft)]) rfl (Ar (cs:=[.bool (!b0.ft)]) (ds:=[]) rfl (AR _ _)))))) hL) hw9) b2) rfl<|Rv 23 c0 rfl d0 (fun _=>BD rfl)<|AH (dk c0)<|MX.ifnb rfl h (fun k1 h=>?_) (fun k1 h=>?_)
 refine Ap<|Ae<|Af rfl<|Bk 0 rfl<|AO rfl ((A0.memA .t1) 0 _ rfl)<|RG.now .plain (Acts.mapUpdate (kv:=b0.fw) (vv:=true) A0 .t2 underlying250 underlying9 rfl rfl rfl rfl) fun g3 P0 I1=>Aa<|Ao<|Bk 5 rfl<|AO rfl ((P0.memA .t1) 5 _ rfl)<|Ag rfl<|Aa<|Ay<|Ao<|Ac (Bg (i:=q0) (j:=1) rfl rfl (by omega))<|Af rfl<|Aa ?_
 obtain ⟨x1,J1⟩:=AN P0 .d2
 exact D0 (b0.ft,q0 + 1,aW g0 b0.fw true) x1 (Tt E0 (Tt t0 (Tt v0 (Tt H1 (Tt I1 J1))))) h
 refine Ae<|Ag rfl<|Aa ?_
 have h:=ax h C0
 refine Am rfl<|AU hb0 func179 rfl rfl ?_
 cases h
 exact A0.gv
 refine AT rfl ?_
 have h:=aF h C0
 try dsimp only at h
 refine Ae<|Ag rfl<|Aa<|Am rfl<|AU hb0 func179 rfl rfl ?_
 cases h
 exact F0.gv
 refine Ae<|Ag rfl<|Aa<|Am rfl<|AU hb0 func179 rfl rfl ?_
 cases h
 exact B0.gv
def ak_p (n:Nat) (a0:Bool) (a1:Int):Option (Except Te Unit):=
  (if a0 = true then (bK_p n a1).bind fun y2=>exc y2 (fun _y11=>some (.ok ())) (fun b0=>some (.error b0)) else some (.ok ()))
theorem ak_c (n:Nat) {L w} (hL:hl L w) {a0:Bool} {a1:Int}  {r:Except Te Unit} (h:ak_p n a0 a1 = some r) :
 Cl 180 #[.bool a0,vI a1] w (aD w (fun (_y:Unit) _ u=>u = .tuple #[]) (fun e=>.iface 216 (.agg #[vI e.fy])) r):=by
 unfold ak_p at h
 have hS0:=Ax w
 refine Bz func180 rfl rfl rfl fun _ cs0 hb0 hp0=>Ae<|Af rfl<|Aa<|MX.ifb rfl h (fun c1 h=>?_) (fun c1 h=>?_)
 refine Ao<|Af rfl<|xk h (fun d0 hy2 h=>?_) (fun k0 hy2 h=>?_)
 refine Bi (fst:=[]) (cap:=[]) .plain (bd 178) rfl (e1 rfl) (fun w9 hw9=>bK_c n (hS0.hL0 hL hw9)  hy2) fun j0 c0=>?_
 obtain ⟨b0,g0⟩:=hS0.agr c0
 cases h
 exact AS hp0 func180 ⟨b0.ag,rfl⟩
 refine Bf (.tuple #[]) (bd 178) rfl (e1 rfl) (fun w9 hw9=>AP (bK_c n (hS0.hL0 hL hw9)  hy2)) rfl<|Aa<|MX.fin rfl<|Aq hb0 func180 rfl .nil rfl ?_
 cases h
 exact ⟨hS0.ag,fun w9 hw9=>ay rfl⟩
 refine Ap<|MX.fin rfl<|Aq hb0 func180 rfl .nil rfl ?_
 cases h
 exact ⟨hS0.ag,fun w9 hw9=>ay rfl⟩
structure Tl where
  fl:Tf
  fk:Int
  deriving DecidableEq
instance:Rep Tl:=Rep.via (β:=Tf × Int) fun x=>(x.fl,x.fk)
def bO_p (n:Nat) (a0:Tf) (a1:Int):Option (Except Te Tl):=
  (aF_p n a0).bind fun g0=>(bK_p n g0).bind fun j0=>exc j0 (fun _y23=>(if a1 < 1 then (ak_p n true (2:Int)).bind fun k0=>exc k0 (fun _y32=>some (.ok (⟨a0,a1⟩:Tl))) (fun c0=>some (.error c0)) else (ak_p n (decide (8 < a1)) (2:Int)).bind fun p0=>exc p0 (fun _y47=>some (.ok (⟨a0,a1⟩:Tl))) (fun d0=>some (.error d0)))) (fun b0=>some (.error b0))
theorem bO_c (n:Nat) {L w} (hL:hl L w) (a0:Tf) {v0_3:Value} (h0_3:Rep.R w L [v0_3] a0.fu) {a1:Int}  {r:Except Te Tl} (h:bO_p n a0 a1 = some r) :
 Cl 141 #[.agg #[vI a0.fh,vI a0.fc,vI a0.fe,v0_3],vI a1] w (aD w (fun (y:Tl) w' u=>∃ v0_3:Value,u = .agg #[vI y.fl.fh,vI y.fl.fc,vI y.fl.fe,v0_3,vI y.fk]/\Rep.R w' L [v0_3] y.fl.fu) (fun e=>.iface 216 (.agg #[vI e.fy])) r):=by
 unfold bO_p at h
 refine Bz func141 rfl rfl rfl fun _ cs0 hb0 hp0=>Ae<|RG.bx (Ax w) rfl rfl fun c1 I0 u0 U0=>RG.nl [vI 0,vI 0,vI 0,vN,vI 0] u0 fun d1 J0 b0 V0=>Aa<|Ae<|Ac (AD rfl (b0.memA .t1))<|bk h fun F0 E0 h=>Bf (vI F0) (bd 179) rfl (e1 rfl) (fun w9 hw9=>aF_c n (b0.hL0 hL hw9) a0 (b0.k0 h0_3 hw9) E0) rfl<|xk h (fun P0 g0 h=>?_) (fun s1 g0 h=>?_)
 refine Bi (fst:=[]) (cap:=[]) .plain (bd 178) rfl (e1 rfl) (fun w9 hw9=>bK_c n (b0.hL0 hL hw9)  g0) fun g1 z0=>?_
 obtain ⟨v0,W0⟩:=b0.agr z0
 cases h
 exact AS hp0 func141 ⟨v0.ag,rfl⟩
 refine Bf (.tuple #[]) (bd 178) rfl (e1 rfl) (fun w9 hw9=>AP (bK_c n (b0.hL0 hL hw9)  g0)) rfl<|Aa<|Ae<|Af rfl<|Ac (FV.lss (i:=a1) (j:=1) rfl rfl)<|Af rfl<|RG.ifd (s:=10) rfl h (fun t0 h=>?_) (fun t0 h=>?_)
 refine AG<|AG<|RG.pt rfl rfl<|xk h (fun Q0 j0 h=>?_) (fun u1 j0 h=>?_)
 refine Bi (fst:=[]) (cap:=[]) .plain (bd 180) rfl (e2 rfl rfl) (fun w9 hw9=>ak_c n (b0.hL0 hL hw9)  j0) fun j1 A0=>?_
 obtain ⟨x0,X0⟩:=b0.agr A0
 cases h
 exact AS hp0 func141 ⟨x0.ag,rfl⟩
 refine Bf (.tuple #[]) (bd 180) rfl (e2 rfl rfl) (fun w9 hw9=>AP (ak_c n (b0.hL0 hL hw9)  j0)) rfl<|Aa<|Ae<|Ac (AD rfl (b0.memA .t1))<|Af rfl ?_
 have q0:=AQ h0_3 b0
 obtain ⟨G0,K0,C0,_⟩:=Rep.sl q0
 refine Ac (AX (vs:=[.agg #[vI a0.fh,vI a0.fc,vI a0.fe,v0_3],vI a1]) (u:=.agg #[vI a0.fh,vI a0.fc,vI a0.fe,v0_3,vI a1]) (e2 rfl rfl) (fun w9=>by rw [C0]; try kernel_rfl))<|AW [vI a0.fh,vI a0.fc,vI a0.fe,v0_3,vI a1] b0 .hd (o5 rfl rfl rfl (Bd q0) rfl) fun k1 c0 Y0=>Aa<|Am rfl<|Aq hb0 func141 rfl (.cons (.many (cs:=[vI a0.fh,vI a0.fc,vI a0.fe,v0_3,vI a1]) rfl rfl (c0.memA .hd)) .nil) rfl ?_
 cases h
 exact ⟨c0.ag,fun w9 hw9=>ay ⟨v0_3,rfl,c0.k0 h0_3 hw9⟩⟩
 refine AV (Aj rfl)<|AV (FV.gtr (i:=a1) (j:=8) rfl rfl)<|RG.pf rfl rfl<|xk h (fun R0 p0 h=>?_) (fun v1 p0 h=>?_)
 refine Bi (fst:=[]) (cap:=[]) .plain (bd 180) rfl (e2 rfl rfl) (fun w9 hw9=>ak_c n (b0.hL0 hL hw9)  p0) fun p1 B0=>?_
 obtain ⟨y0,Z0⟩:=b0.agr B0
 cases h
 exact AS hp0 func141 ⟨y0.ag,rfl⟩
 refine Bf (.tuple #[]) (bd 180) rfl (e2 rfl rfl) (fun w9 hw9=>AP (ak_c n (b0.hL0 hL hw9)  p0)) rfl<|Aa<|Ae<|Ac (AD rfl (b0.memA .t1))<|Af rfl ?_
 have s0:=AQ h0_3 b0
 obtain ⟨H0,M0,D0,_⟩:=Rep.sl s0
 refine Ac (AX (vs:=[.agg #[vI a0.fh,vI a0.fc,vI a0.fe,v0_3],vI a1]) (u:=.agg #[vI a0.fh,vI a0.fc,vI a0.fe,v0_3,vI a1]) (e2 rfl rfl) (fun w9=>by rw [D0]; try kernel_rfl))<|AW [vI a0.fh,vI a0.fc,vI a0.fe,v0_3,vI a1] b0 .hd (o5 rfl rfl rfl (Bd s0) rfl) fun q1 d0 b1=>Aa<|Am rfl<|Aq hb0 func141 rfl (.cons (.many (cs:=[vI a0.fh,vI a0.fc,vI a0.fe,v0_3,vI a1]) rfl rfl (d0.memA .hd)) .nil) rfl ?_
 cases h
 exact ⟨d0.ag,fun w9 hw9=>ay ⟨v0_3,rfl,d0.k0 h0_3 hw9⟩⟩
theorem cF_c (_n:Nat) {L w} (_hL:hl L w) (a0:Tl) {v0_3:Value} (_h0_3:Rep.R w L [v0_3] a0.fl.fu)  :
 Cl 181 #[.agg #[vI a0.fl.fh,vI a0.fl.fc,vI a0.fl.fe,v0_3,vI a0.fk]] w (ak w fun w' u=>∃ b0:Nat,u = .func (.func 213) #[] #[vP b0]/\St w w' [.cells b0 [vI a0.fl.fh,vI a0.fl.fc,vI a0.fl.fe,v0_3,vI a0.fk] 181]):=by
 refine AC func181 rfl rfl rfl fun _ cs0 hb0=>Ae<|RG.bx (Ax w) rfl rfl fun g0 b0 c0 d0=>Ag rfl<|Aa<|Ae<|Ac (Bw (vs:=[]) (us:=[vP b0]) ai (e1 rfl))<|Ag rfl<|Aa<|Am rfl<|Aq (u:=.func (.func 213) #[] #[vP b0]) hb0 func181 rfl (.cons (.tmp rfl) .nil) rfl<|⟨c0.ag,fun w9 hw9=>⟨b0,rfl,c0.agree hw9⟩⟩
def ai_l1 (n:Nat) (a1:List Int) (a0:Tl) (g0:Nat × (List (Int × Bool)) -> Option ((Except Te Unit) ⊕ (List (Int × Bool)))):Nat × (List (Int × Bool)) -> Option ((Except Te Unit) ⊕ (List (Int × Bool)))
  | (b0,d0)=>(if b0 < a1.length then (a1[b0]?).bind fun c0=>(if c0 < 0 then (ak_p n true (220:Int)).bind fun p0=>exc p0 (fun _y289=>g0 (b0 + 1,aW d0 c0 true)) (fun j0=>some (.inl (.error j0))) else (ak_p n (decide (a0.fk <= c0)) (220:Int)).bind fun q0=>exc q0 (fun _y305=>g0 (b0 + 1,aW d0 c0 true)) (fun k0=>some (.inl (.error k0)))) else some (.inr d0))
def ai_l2 (n:Nat) (a1:List Int) (a0:Tl) (g0:Nat × (List (Int × Bool)) -> Option ((Except Te Unit) ⊕ (List (Int × Bool)))):Nat × (List (Int × Bool)) -> Option ((Except Te Unit) ⊕ (List (Int × Bool)))
  | (b0,d0)=>(if b0 < a1.length then (a1[b0]?).bind fun c0=>(if c0 < 0 then (ak_p n true (220:Int)).bind fun p0=>exc p0 (fun _y467=>g0 (b0 + 1,aW d0 c0 true)) (fun j0=>some (.inl (.error j0))) else (ak_p n (decide (a0.fk <= c0)) (220:Int)).bind fun q0=>exc q0 (fun _y483=>g0 (b0 + 1,aW d0 c0 true)) (fun k0=>some (.inl (.error k0)))) else some (.inr d0))
def ai_l3 (n:Nat) (a0:Tl) (a1:List Int) (g0:Nat × Int -> Option ((Except Te Unit) ⊕ Int)):Nat × Int -> Option ((Except Te Unit) ⊕ Int)
  | (b0,c0)=>(if b0 < a0.fl.fu.length then (a0.fl.fu[b0]?).bind fun q0=>(if q0.ft = true then ((ak_p n (!(decide (((a1.length:Nat):Int) = c0))) (220:Int)).bind fun s0=>exc s0 (fun _y184=>thn (ao (ai_l1 n a1 a0) n (0,([]:List (Int × Bool)))) (fun d0=>(ak_p n (!(decide (((d0.length:Nat):Int) = a0.fk))) (220:Int)).bind fun t0=>exc t0 (fun _y321=>some (.ok ())) (fun k0=>some (.error k0)))) (fun j0=>some (.error j0))).map .inl else (chk (c0 + 1)).bind fun p0=>g0 (b0 + 1,p0)) else some (.inr c0))
def ai_p (n:Nat) (a0:Tl) (a1:List Int):Option (Except Te Unit):=
  thn (ao (ai_l3 n a0 a1) n (0,0)) (fun k0=>(ak_p n (!(decide (((a1.length:Nat):Int) = k0))) (220:Int)).bind fun g0=>exc g0 (fun _y362=>thn (ao (ai_l2 n a1 a0) n (0,([]:List (Int × Bool)))) (fun b0=>(ak_p n (!(decide (((b0.length:Nat):Int) = a0.fk))) (220:Int)).bind fun j0=>exc j0 (fun _y499=>some (.ok ())) (fun d0=>some (.error d0)))) (fun c0=>some (.error c0)))
theorem ai_c (n:Nat) {L w} (hL:hl L w) (a0:Tl) {v0_3:Value} (h0_3:Rep.R w L [v0_3] a0.fl.fu) {a1:List Int} {v1_0:Value} (h1_0:Rep.R w L [v1_0] a1)  {r:Except Te Unit} (h:ai_p n a0 a1 = some r) :
 Cl 142 #[.agg #[vI a0.fl.fh,vI a0.fl.fc,vI a0.fl.fe,v0_3,vI a0.fk],v1_0] w (aD w (fun (_y:Unit) _ u=>u = .tuple #[]) (fun e=>.iface 216 (.agg #[vI e.fy])) r):=by
 unfold ai_p at h
 refine Bz func142 rfl rfl rfl fun _ cs0 hb0 hp0=>Ae<|RG.bx (Ax w) rfl rfl fun y6 y0 P1 Y4=>Aa<|Ae<|RG.nl [vI 0] P1 fun z6 C1 R1 c5=>AW [vI 0] R1 .hd (o1 rfl) fun x4 B0 p5=>Aa<|Ak<|Ae<|Ac (AD rfl (B0.memA .t1))<|jE (bd 181) rfl (e1 rfl) (fun w9 hw9=>Calls.gives (cF_c n (B0.hL hL hw9) a0 (B0.km h0_3 hw9)) fun (w8:World) (u8:Value) ⟨b0_,hu_,s_⟩=>(⟨b0_,hu_,s_.from hw9⟩:∃ z0:Nat,u8 = Value.func (.func 213) #[] #[vP z0]/\St x4 w8 [.cells z0 [vI a0.fl.fh,vI a0.fl.fc,vI a0.fl.fe,v0_3,vI a0.fk] 181])) rfl fun G6 x6 g6 ⟨z0,k4,x1⟩=>?_
 subst k4
 have x5:=iI B0 x1
 refine Aa<|Au<|MX.rangeP (lb:=[vP z0]) rfl (eY B0 x1) rfl (bd 213) func213 rfl rfl rfl fun w32 v1 D0 u4 K4 F0 F5 v4 k1 s6=>Ae<|Bk 0 rfl<|Bk 3 rfl<|AO rfl ((bX (F0.memA .t2) 0) 3 _ rfl) ?_
 have u1:=AQ h0_3 F0
 have p6:a0.fl.fu.length <= 281474976710656:=AY u1
 refine Ac (Be (xs:=a0.fl.fu) underlying35 rfl u1)<|Af rfl<|Aa<|Au<|tn h fun t6 V3 p1=>MX.lo (α:=Nat × Int) (fun ⟨j0,q0⟩=>[(0,.func (.yield v1) #[] #[]),(7,v0_3),(8,vI ((a0.fl.fu.length:Nat):Int)),(9,vI ((j0:Nat):Int))]) (fun ⟨j0,q0⟩=>[.obj v1 (lpO u4 .ready none),.obj D0 (.deferred (some [])),.cells z0 [vI a0.fl.fh,vI a0.fl.fc,vI a0.fl.fe,v0_3,vI a0.fk] 181,.cells C1 [vI q0] 3,.cells y0 [vI a0.fl.fh,vI a0.fl.fc,vI a0.fl.fe,v0_3,vI a0.fk] 181]) (fun ⟨j0,q0⟩=>(j0,q0)) (0,0) V3 F0 ?_
 rintro B4 ⟨j0,q0⟩ v7 M1 E0 Z2 h
 unfold ai_l3 at h
 try dsimp only at h
 refine Ae<|Ac (Bm (i:=j0) (j:=a0.fl.fu.length) rfl rfl)<|Aa<|Ak<|AI rfl h (fun D1 h=>?_) (fun D1 h=>?_)
 refine Ap<|Ak<|Au<|Ae<|Af rfl<|bk h fun x0 p4 h=>?_
 obtain ⟨y4,F4,F3,K3,I4,Y3,Q3⟩:=Bl (AQ h0_3 E0) p4
 obtain ⟨z1,A1,B1,rfl,Z3,b4,c4⟩:=lO Y3
 refine Ac (Bh 6 j0 rfl F3 rfl rfl K3)<|Ac (AD rfl Q3)<|RG.nl [.string ⟨#[]⟩,vI 0,vN,vN,vN,.bool false] E0 fun A6 E4 Q1 C0=>Ag rfl<|AW [.string x0.fw,vI x0.fA,z1,A1,B1,.bool x0.ft] Q1 .hd (o6 rfl rfl (Bd (Az Z3 C0)) (Bd (Az b4 C0)) (Bd (Az c4 C0)) rfl) fun B6 A0 b3=>Aa<|Ae<|Bk 5 rfl<|AO rfl ((A0.memA .hd) 5 _ rfl)<|Af rfl<|RG.ifb (s:=16) rfl h (fun E1 h=>?_) (fun E1 h=>?_)
 refine AG<|AG<|AG<|AG<|AG<|RG.pt rfl rfl<|Aa<|Br rfl ?_
 have h:=gp h p1
 refine Am rfl<|Aq (u:=.tuple #[]) k1 func213 rfl .nil rfl<|MX.endRange0 A0 .t1 (by intro h9; cases h9) fun C6 U1 Z4=>?_
 obtain ⟨u0,b5⟩:=AN U1 (.a0 .d1)
 refine Ay<|Ae<|Af rfl ?_
 have q1:=AQ h1_0 u0
 have j6:a1.length <= 281474976710656:=AY q1
 refine Ac (Be (xs:=a1) underlying39 rfl q1)<|AO rfl ((u0.memA .t3) 0 _ rfl)<|Ac (FV.neq (i:=((a1.length:Nat):Int)) (j:=q0) rfl rfl)<|xk h (fun M4 I0 h=>?_) (fun z7 I0 h=>?_)
 refine Bi (fst:=[]) (cap:=[]) .plain (bd 180) rfl (e2 rfl rfl) (fun w9 hw9=>ak_c n (u0.hL0 hL hw9)  I0) fun D6 v3=>?_
 obtain ⟨V1,d5⟩:=u0.agr v3
 refine PN.take V1 .t1 fun E6 W1 g5=>?_
 obtain ⟨X1,j5⟩:=AN W1 (.a0 .d1)
 cases h
 exact AS hp0 func142 ⟨X1.ag,rfl⟩
 refine Bf (.tuple #[]) (bd 180) rfl (e2 rfl rfl) (fun w9 hw9=>AP (ak_c n (u0.hL0 hL hw9)  I0)) rfl<|Aa<|Ae<|Al .plain rfl (Does.makeMap (κ:=Int) (ν:=Bool) u0) fun F6 V0 Z0 k5=>Ag rfl<|Aa<|Ak<|Ae<|Af rfl<|Ac (Be (xs:=a1) underlying39 rfl (AQ h1_0 Z0))<|Af rfl<|Aa<|Au ?_
 obtain ⟨Y1,q5⟩:=AN Z0 (.a0 (.a1 .d3))
 refine tn h fun u6 W3 G0=>MX.lo (α:=Nat × (List (Int × Bool))) (fun ⟨d0,k0⟩=>[(2,vP y0),(5,.map (some V0)),(20,v1_0),(21,vI ((a1.length:Nat):Int)),(22,vI ((d0:Nat):Int))]) (fun ⟨d0,k0⟩=>[.obj V0 (bT (k0:List (Int × Bool))),.obj D0 (.deferred (some [])),.cells y0 [vI a0.fl.fh,vI a0.fl.fc,vI a0.fl.fe,v0_3,vI a0.fk] 181]) (fun ⟨d0,k0⟩=>(d0,k0)) (0,([]:List (Int × Bool))) W3 Y1 ?_
 rintro C4 ⟨d0,k0⟩ x7 X0 b0 g1 h
 unfold ai_l1 at h
 try dsimp only at h
 refine Ae<|Ac (Bm (i:=d0) (j:=a1.length) rfl rfl)<|Aa<|Ak<|AI rfl h (fun F1 h=>?_) (fun F1 h=>?_)
 refine Ap<|Ak<|Au<|Ae<|bk h fun s0 q4 h=>?_
 obtain ⟨z4,G4,G3,M3,J1,d4,R3⟩:=Bl (AQ h1_0 b0) q4
 have H3:J1 = [vI s0]:=d4; subst H3
 refine Ac (Bh 1 d0 rfl G3 rfl rfl M3)<|AO rfl (R3 0 _ rfl)<|Ag rfl<|Aa<|Ae<|Af rfl<|Ac (FV.lss (i:=s0) (j:=0) rfl rfl)<|Af rfl<|RG.ifd (s:=28) rfl h (fun G1 h=>?_) (fun G1 h=>?_)
 refine AG<|AG<|AG<|AG<|RG.pt rfl rfl<|xk h (fun P4 J0 h=>?_) (fun A7 J0 h=>?_)
 have h:=ax h G0
 refine Bi (fst:=[]) (cap:=[]) .plain (bd 180) rfl (e2 rfl rfl) (fun w9 hw9=>ak_c n (b0.hL0 hL hw9)  J0) fun H6 x3=>?_
 obtain ⟨Z1,s5⟩:=b0.agr x3
 refine PN.take Z1 .t1 fun I6 b2 t5=>?_
 obtain ⟨c2,u5⟩:=AN b2 (.a0 .d1)
 cases h
 exact AS hp0 func142 ⟨c2.ag,rfl⟩
 refine Bf (.tuple #[]) (bd 180) rfl (e2 rfl rfl) (fun w9 hw9=>AP (ak_c n (b0.hL0 hL hw9)  J0)) rfl<|Aa<|Ao<|Af rfl<|Af rfl<|RG.now .plain (Acts.mapUpdate (kv:=s0) (vv:=true) b0 .hd underlying218 underlying3 rfl rfl rfl rfl) fun J6 g2 c3=>Aa<|Ay<|Ao<|Ac (Bg (i:=d0) (j:=1) rfl rfl (by omega))<|Af rfl<|Aa<|X0 (d0 + 1,aW k0 s0 true) g2 (Tt g1 c3) h
 refine AV (Aj rfl)<|RG.fg 4 rfl<|AV (AZ rfl ((b0.memA .t2) 4 _ rfl))<|AV (FV.geq (i:=s0) (j:=a0.fk) rfl rfl)<|RG.pf rfl rfl<|xk h (fun Q4 K0 h=>?_) (fun B7 K0 h=>?_)
 have h:=ax h G0
 refine Bi (fst:=[]) (cap:=[]) .plain (bd 180) rfl (e2 rfl rfl) (fun w9 hw9=>ak_c n (b0.hL0 hL hw9)  K0) fun K6 y3=>?_
 obtain ⟨j2,v5⟩:=b0.agr y3
 refine PN.take j2 .t1 fun M6 k2 y5=>?_
 obtain ⟨p2,z5⟩:=AN k2 (.a0 .d1)
 cases h
 exact AS hp0 func142 ⟨p2.ag,rfl⟩
 refine Bf (.tuple #[]) (bd 180) rfl (e2 rfl rfl) (fun w9 hw9=>AP (ak_c n (b0.hL0 hL hw9)  K0)) rfl<|Aa<|Ao<|Af rfl<|Af rfl<|RG.now .plain (Acts.mapUpdate (kv:=s0) (vv:=true) b0 .hd underlying218 underlying3 rfl rfl rfl rfl) fun P6 q2 g3=>Aa<|Ay<|Ao<|Ac (Bg (i:=d0) (j:=1) rfl rfl (by omega))<|Af rfl<|Aa<|X0 (d0 + 1,aW k0 s0 true) q2 (Tt g1 g3) h
 refine AT rfl ?_
 have h:=aF h G0
 try dsimp only at h
 refine Ao<|Af rfl<|Ac (FV.len_map (D:=k0) b0 .hd underlying218 rfl)<|Bk 4 rfl<|AO rfl ((b0.memA .t2) 4 _ rfl)<|Ac (FV.neq (i:=((k0.length:Nat):Int)) (j:=a0.fk) rfl rfl)<|xk h (fun R4 M0 h=>?_) (fun C7 M0 h=>?_)
 refine Bi (fst:=[]) (cap:=[]) .plain (bd 180) rfl (e2 rfl rfl) (fun w9 hw9=>ak_c n (b0.hL0 hL hw9)  M0) fun Q6 z3=>?_
 obtain ⟨s2,A5⟩:=b0.agr z3
 refine PN.take s2 .t1 fun R6 u2 B5=>?_
 obtain ⟨v2,C5⟩:=AN u2 (.a0 .d1)
 cases h
 exact AS hp0 func142 ⟨v2.ag,rfl⟩
 refine Bf (.tuple #[]) (bd 180) rfl (e2 rfl rfl) (fun w9 hw9=>AP (ak_c n (b0.hL0 hL hw9)  M0)) rfl<|Aa<|MX.fin rfl<|RT.take b0 .t1 fun U6 x2 D5=>?_
 obtain ⟨y2,E5⟩:=AN x2 (.a0 .d1)
 refine Aq hb0 func142 rfl .nil rfl ?_
 cases h
 exact ⟨y2.ag,fun w9 hw9=>ay rfl⟩
 refine AV (Aj rfl)<|AV (Aj rfl)<|AV (AD rfl (A0.memA .hd))<|RG.yieldP (fd:=142) (vs:=[vI ((j0:Nat):Int),.agg #[.string x0.fw,vI x0.fA,z1,A1,B1,.bool x0.ft]]) (.yes rfl rfl) rfl (e2 rfl rfl) A0 .t1 v4 rfl rfl rfl fun J4 E3 q6=>Ap<|MX.begin A0 .t1 fun V6 b1 j3=>Au<|Ao<|AO rfl ((b1.memA .t4) 0 _ rfl)<|bk h fun y1 j4 h=>Ac (Bs (i:=q0) (j:=1) rfl rfl j4)<|AW [vI y1] b1 .t4 (o1 rfl) fun W6 z2 k3=>Aa<|Ay<|MX.roundEnd E3 z2 .t1 fun X6 A2 p3=>AV (BD rfl)<|RG.pf rfl rfl<|Aa<|Bp rfl<|Ap<|Ay<|Ao<|Ac (Bg (i:=j0) (j:=1) rfl rfl (by omega))<|Af rfl<|Aa ?_
 obtain ⟨B2,q3⟩:=AN A2 .d1
 exact M1 (j0 + 1,y1) B2 (Tt Z2 (Tt C0 (Tt b3 (Tt j3 (Tt k3 (Tt p3 q3)))))) h
 refine AT rfl ?_
 have h:=aF h p1
 try dsimp only at h
 refine MX.fin rfl<|Aq (u:=.tuple #[]) k1 func213 rfl .nil rfl<|MX.endRange0 E0 .hd (by intro h9; cases h9) fun Y6 C2 G5=>?_
 obtain ⟨v0,H5⟩:=AN C2 .d1
 refine Ay<|Ae<|Af rfl ?_
 have s1:=AQ h1_0 v0
 have k6:a1.length <= 281474976710656:=AY s1
 refine Ac (Be (xs:=a1) underlying39 rfl s1)<|AO rfl ((v0.memA .t2) 0 _ rfl)<|Ac (FV.neq (i:=((a1.length:Nat):Int)) (j:=q0) rfl rfl)<|xk h (fun U4 P0 h=>?_) (fun D7 P0 h=>?_)
 refine Bi (fst:=[]) (cap:=[]) .plain (bd 180) rfl (e2 rfl rfl) (fun w9 hw9=>ak_c n (v0.hL0 hL hw9)  P0) fun Z6 A3=>?_
 obtain ⟨D2,I5⟩:=v0.agr A3
 refine PN.take D2 .hd fun b7 E2 J5=>?_
 obtain ⟨F2,K5⟩:=AN E2 .d1
 cases h
 exact AS hp0 func142 ⟨F2.ag,rfl⟩
 refine Bf (.tuple #[]) (bd 180) rfl (e2 rfl rfl) (fun w9 hw9=>AP (ak_c n (v0.hL0 hL hw9)  P0)) rfl<|Aa<|Ae<|Al .plain rfl (Does.makeMap (κ:=Int) (ν:=Bool) v0) fun c7 W0 c1 M5=>Ag rfl<|Aa<|Ak<|Ae<|Af rfl<|Ac (Be (xs:=a1) underlying39 rfl (AQ h1_0 c1))<|Af rfl<|Aa<|Au ?_
 obtain ⟨G2,P5⟩:=AN c1 (.a0 (.a0 .d2))
 refine tn h fun v6 X3 H0=>MX.lo (α:=Nat × (List (Int × Bool))) (fun ⟨g0,p0⟩=>[(2,vP y0),(5,.map (some W0)),(20,v1_0),(21,vI ((a1.length:Nat):Int)),(22,vI ((g0:Nat):Int))]) (fun ⟨g0,p0⟩=>[.obj W0 (bT (p0:List (Int × Bool))),.obj D0 (.deferred (some [])),.cells y0 [vI a0.fl.fh,vI a0.fl.fc,vI a0.fl.fe,v0_3,vI a0.fk] 181]) (fun ⟨g0,p0⟩=>(g0,p0)) (0,([]:List (Int × Bool))) X3 G2 ?_
 rintro D4 ⟨g0,p0⟩ y7 Y0 c0 j1 h
 unfold ai_l2 at h
 try dsimp only at h
 refine Ae<|Ac (Bm (i:=g0) (j:=a1.length) rfl rfl)<|Aa<|Ak<|AI rfl h (fun H1 h=>?_) (fun H1 h=>?_)
 refine Ap<|Ak<|Au<|Ae<|bk h fun t0 s4 h=>?_
 obtain ⟨A4,H4,I3,P3,K1,g4,U3⟩:=Bl (AQ h1_0 c0) s4
 have J3:K1 = [vI t0]:=g4; subst J3
 refine Ac (Bh 1 g0 rfl I3 rfl rfl P3)<|AO rfl (U3 0 _ rfl)<|Ag rfl<|Aa<|Ae<|Af rfl<|Ac (FV.lss (i:=t0) (j:=0) rfl rfl)<|Af rfl<|RG.ifd (s:=28) rfl h (fun I1 h=>?_) (fun I1 h=>?_)
 refine AG<|AG<|AG<|AG<|RG.pt rfl rfl<|xk h (fun V4 Q0 h=>?_) (fun E7 Q0 h=>?_)
 have h:=ax h H0
 refine Bi (fst:=[]) (cap:=[]) .plain (bd 180) rfl (e2 rfl rfl) (fun w9 hw9=>ak_c n (c0.hL0 hL hw9)  Q0) fun d7 B3=>?_
 obtain ⟨H2,Q5⟩:=c0.agr B3
 refine PN.take H2 .t1 fun g7 I2 R5=>?_
 obtain ⟨J2,U5⟩:=AN I2 (.a0 .d1)
 cases h
 exact AS hp0 func142 ⟨J2.ag,rfl⟩
 refine Bf (.tuple #[]) (bd 180) rfl (e2 rfl rfl) (fun w9 hw9=>AP (ak_c n (c0.hL0 hL hw9)  Q0)) rfl<|Aa<|Ao<|Af rfl<|Af rfl<|RG.now .plain (Acts.mapUpdate (kv:=t0) (vv:=true) c0 .hd underlying218 underlying3 rfl rfl rfl rfl) fun j7 K2 s3=>Aa<|Ay<|Ao<|Ac (Bg (i:=g0) (j:=1) rfl rfl (by omega))<|Af rfl<|Aa<|Y0 (g0 + 1,aW p0 t0 true) K2 (Tt j1 s3) h
 refine AV (Aj rfl)<|RG.fg 4 rfl<|AV (AZ rfl ((c0.memA .t2) 4 _ rfl))<|AV (FV.geq (i:=t0) (j:=a0.fk) rfl rfl)<|RG.pf rfl rfl<|xk h (fun W4 R0 h=>?_) (fun F7 R0 h=>?_)
 have h:=ax h H0
 refine Bi (fst:=[]) (cap:=[]) .plain (bd 180) rfl (e2 rfl rfl) (fun w9 hw9=>ak_c n (c0.hL0 hL hw9)  R0) fun k7 C3=>?_
 obtain ⟨M2,V5⟩:=c0.agr C3
 refine PN.take M2 .t1 fun p7 P2 W5=>?_
 obtain ⟨Q2,X5⟩:=AN P2 (.a0 .d1)
 cases h
 exact AS hp0 func142 ⟨Q2.ag,rfl⟩
 refine Bf (.tuple #[]) (bd 180) rfl (e2 rfl rfl) (fun w9 hw9=>AP (ak_c n (c0.hL0 hL hw9)  R0)) rfl<|Aa<|Ao<|Af rfl<|Af rfl<|RG.now .plain (Acts.mapUpdate (kv:=t0) (vv:=true) c0 .hd underlying218 underlying3 rfl rfl rfl rfl) fun q7 R2 u3=>Aa<|Ay<|Ao<|Ac (Bg (i:=g0) (j:=1) rfl rfl (by omega))<|Af rfl<|Aa<|Y0 (g0 + 1,aW p0 t0 true) R2 (Tt j1 u3) h
 refine AT rfl ?_
 have h:=aF h H0
 try dsimp only at h
 refine Ao<|Af rfl<|Ac (FV.len_map (D:=p0) c0 .hd underlying218 rfl)<|Bk 4 rfl<|AO rfl ((c0.memA .t2) 4 _ rfl)<|Ac (FV.neq (i:=((p0.length:Nat):Int)) (j:=a0.fk) rfl rfl)<|xk h (fun X4 U0 h=>?_) (fun G7 U0 h=>?_)
 refine Bi (fst:=[]) (cap:=[]) .plain (bd 180) rfl (e2 rfl rfl) (fun w9 hw9=>ak_c n (c0.hL0 hL hw9)  U0) fun s7 D3=>?_
 obtain ⟨U2,Y5⟩:=c0.agr D3
 refine PN.take U2 .t1 fun t7 V2 Z5=>?_
 obtain ⟨W2,b6⟩:=AN V2 (.a0 .d1)
 cases h
 exact AS hp0 func142 ⟨W2.ag,rfl⟩
 refine Bf (.tuple #[]) (bd 180) rfl (e2 rfl rfl) (fun w9 hw9=>AP (ak_c n (c0.hL0 hL hw9)  U0)) rfl<|Aa<|MX.fin rfl<|RT.take c0 .t1 fun u7 X2 c6=>?_
 obtain ⟨Y2,d6⟩:=AN X2 (.a0 .d1)
 refine Aq hb0 func142 rfl .nil rfl ?_
 cases h
 exact ⟨Y2.ag,fun w9 hw9=>ay rfl⟩
def bP_p (n:Nat) (a0:Tf) (a1:Int) (a2:List Int):Option (Except Te Bool):=
  (bO_p n a0 a1).bind fun y3=>exc y3 (fun d0=>(ai_p n d0 a2).bind fun g0=>exc g0 (fun _y26=>some (.ok true)) (fun c0=>some (.error c0))) (fun b0=>some (.error b0))
theorem bP_c (n:Nat) {L w} (hL:hl L w) (a0:Tf) {v0_3:Value} (h0_3:Rep.R w L [v0_3] a0.fu) {p0:Nat} (m0:∀ j9 v9,([vI a0.fh,vI a0.fc,vI a0.fe,v0_3]:List Value)[j9]? = some v9 -> w.cell? ((⟨p0,0,none⟩:Addr).add j9) = some v9) {a1:Int} {p1:Nat} (m1:∀ j9 v9,([vI a1]:List Value)[j9]? = some v9 -> w.cell? ((⟨p1,0,none⟩:Addr).add j9) = some v9) {a2:List Int} {v2_0:Value} (h2_0:Rep.R w L [v2_0] a2) {p2:Nat} (m2:∀ j9 v9,([v2_0]:List Value)[j9]? = some v9 -> w.cell? ((⟨p2,0,none⟩:Addr).add j9) = some v9)  {r:Except Te Bool} (h:bP_p n a0 a1 a2 = some r) :
 Cl 140 #[.pointer (some ⟨p0,0,none⟩),.pointer (some ⟨p1,0,none⟩),.pointer (some ⟨p2,0,none⟩)] w (aD w (fun (y:Bool) _ u=>u = .bool y) (fun e=>.iface 216 (.agg #[vI e.fy])) r):=by
 unfold bP_p at h
 have hS0:=Ax w
 refine Bz func140 rfl rfl rfl fun _ cs0 hb0 hp0=>Ae<|Ag rfl<|Aa<|Ak<|du 5 fun kt1 kp2=>Rx 0 20 kt1 rfl kp2 (AD rfl (fun j9 v9 h9=>hS0.ag.cell0 (m0 j9 v9 h9)))<|Rx 1 20 kt1 rfl kp2 (AZ rfl ((fun j9 v9 h9=>hS0.ag.cell0 (m1 j9 v9 h9)) 0 _ rfl))<|xk h (fun v0 hy3 h=>?_) (fun g0 hy3 h=>?_)
 refine Rx 3 16 kt1 rfl kp2 (AZ rfl ((fun j9 v9 h9=>hS0.ag.cell0 (m2 j9 v9 h9)) 0 _ rfl))<|By (i:=2) (rk kt1) (RO.callE (fst:=[]) (cap:=[]) rfl .plain (bd 141) rfl (e2 rfl rfl) (fun w9 hw9=>bO_c n (hS0.hL hL hw9) a0 (Av h0_3 hw9) hy3) (fun D0 s0=>?_))
 obtain ⟨j0,y0⟩:=hS0.agr s0
 cases h
 exact AS hp0 func140 ⟨j0.ag,rfl⟩
 refine Rx 3 16 kt1 rfl kp2 (AZ rfl ((fun j9 v9 h9=>hS0.ag.cell0 (m2 j9 v9 h9)) 0 _ rfl))<|BA 2 15 kt1 rfl .plain (bd 141) rfl (e2 rfl rfl) (fun w9 hw9=>AP (bO_c n (hS0.hL hL hw9) a0 (Av h0_3 hw9) hy3)) rfl fun E0 C0 t0 ⟨B0,hu_,d0⟩=>?_
 subst hu_
 obtain ⟨b0,z0⟩:=hS0.agr t0
 refine xk h (fun x0 c0 h=>?_) (fun G0 c0 h=>?_)
 refine By (i:=4) (rk kt1) (RO.callE (fst:=[]) (cap:=[]) rfl .plain (bd 142) rfl (e2 rfl rfl) (fun w9 hw9=>ai_c n (b0.hL0 hL hw9) g0 (b0.kd d0 hw9) (b0.k0 h2_0 hw9) c0) (fun F0 u0=>?_))
 obtain ⟨q0,A0⟩:=b0.agr u0
 cases h
 exact AS hp0 func140 ⟨q0.ag,rfl⟩
 refine RD.cq 4 31 0 (.tuple #[]) kt1 rfl kp2 (bd 142) rfl (e2 rfl rfl) (fun w9 hw9=>AP (ai_c n (b0.hL0 hL hw9) g0 (b0.kd d0 hw9) (b0.k0 h2_0 hw9) c0)) rfl<|AH (dk kt1)<|Ae<|Ag rfl<|Aa<|Am rfl<|AU hb0 func140 rfl rfl ?_
 cases h
 exact ⟨b0.ag,fun w9 hw9=>ay rfl⟩
def b9_p (n:Nat) (a0:Tf) (a1:List Int) (a2:Int):Option Int:=
  (bP_p n a0 a2 a1).bind fun c0=>exc c0 (fun _y41=>some (0:Int)) (fun b0=>some b0.fy)
theorem b9_c (n:Nat) {L w} (hL:hl L w) (a0:Tf) {v0_3:Value} (h0_3:Rep.R w L [v0_3] a0.fu) {a1:List Int} {v1_0:Value} (h1_0:Rep.R w L [v1_0] a1) {a2:Int}  {r:Int} (h:b9_p n a0 a1 a2 = some r) :
 Cl 109 #[.agg #[vI a0.fh,vI a0.fc,vI a0.fe,v0_3],v1_0,vI a2] w (ak w fun _ u=>u = vI r):=by
 unfold b9_p at h
 refine AC func109 rfl rfl rfl fun _ cs0 hb0=>Ae<|RG.bx (Ax w) rfl rfl fun G1 g0 D0 x1=>RG.bx D0 rfl (Rep.c1 (AQ h1_0 D0)) fun K1 j0 K0 y1=>RG.bx K0 rfl rfl fun M1 p0 M0 z1=>Ag rfl<|Aa<|Ae<|Ac (Bw (vs:=[]) (us:=[vP g0,vP p0,vP j0]) ai (e3 rfl rfl rfl))<|Bq (fst:=[]) (cap:=[]) (vs:=[.func (.func 140) #[] #[vP g0,vP p0,vP j0]]) .plain (bd 139) func139 rfl rfl rfl rfl (e1 rfl) rfl fun p1 E0 F1=>Ae<|RG.nl [.bool false] M0 fun P1 q0 P0 A1=>RG.nl [vI 0] P0 fun Q1 d0 b0 B1=>Aa<|Ae<|Ac (Bw (vs:=[]) (us:=[vP q0,vP d0]) ai (e2 rfl rfl))<|RG.defer (fst:=[]) (cap:=[vP q0,vP d0]) (vs:=[]) rfl .plain rfl ai<|Aa<|Ae<|Af rfl<|xk h (fun s0 z0 h=>?_) (fun B0 z0 h=>?_)
 refine Bi (fst:=[]) (cap:=[vP g0,vP p0,vP j0]) .plain (bd 140) rfl ai (fun w9 hw9=>bP_c n (b0.hL0 hL hw9) a0 (b0.k0 h0_3 hw9) (ah hw9 (b0.memA .t4)) (ah hw9 (b0.memA .t2)) (b0.k0 h1_0 hw9) (ah hw9 (b0.memA .t3)) z0) fun R1 W0=>?_
 obtain ⟨Q0,C1⟩:=b0.agr W0
 refine PN.callD (vs:=[]) (cap:=[vP q0,vP d0]) (bd 177) func177 rfl rfl rfl fun k1 X0 Z0=>Ae<|RG.recover1 .plain X0 rfl<|Ag rfl<|Aa<|Ae<|Af rfl<|Ac (FV.neqI underlying20 rfl rfl)<|Aa<|Br rfl<|Ae<|Af rfl<|Ac (FV.assertT rfl rfl)<|Af rfl<|Ac (Ai rfl rfl)<|Ac (Ai rfl rfl)<|RG.nl [vI 0] Q0 fun U1 g1 R0 D1=>AW [vI s0.fy] R0 .hd (o1 rfl) fun V1 t0 E1=>Ag rfl<|Aa<|Ak<|Ae<|Af rfl<|Ac (BD rfl)<|Aa<|Bp rfl<|Ap<|Ae<|Ag rfl<|Aa<|du 3 fun c0 A0=>Rv 0 c0 rfl A0 (fun _=>Aj rfl)<|Rv 1 c0 rfl A0 (fun _=>Bo 0 rfl)<|RD.mo (α:=Unit) (fun ()=>[(1,vP d0),(19,vI s0.fy)]) (fun ()=>[.cells d0 [vI 0] 49,.cells q0 [.bool false] 4,.cells p0 [vI a2] 3,.cells j0 [v1_0] 39,.cells g0 [vI a0.fh,vI a0.fc,vI a0.fe,v0_3] 37]) t0 1 15 ?_ ?_
 rintro ⟨⟩ W1 G0 q1
 try dsimp only
 refine BB 4 31 c0 rfl rfl .plain (AB (news:=[vI s0.fy]) G0 .hd rfl rfl rfl rfl rfl rfl (o1 rfl)) fun H1 v0 s1=>AH (dk c0)<|MX.fin rfl<|RT.leaveD1 Z0 func177 rfl .nil<|Aq (u:=.tuple #[.bool false,vI s0.fy]) E0 func139 rfl (.cons (.one rfl rfl ((v0.memA .t1) 0 _ rfl)) (.cons (.one rfl rfl ((v0.memA .hd) 0 _ rfl)) .nil)) rfl<|Af rfl<|Ac (Ai rfl rfl)<|Ac (Ai rfl rfl)<|Ag rfl<|Ag rfl<|Aa<|Ae<|Af rfl<|Ag rfl<|Aa<|Am rfl<|AU hb0 func109 rfl rfl ?_
 cases h
 exact v0.gv
 intro C0
 refine RD.each [2,3] (rk c0) ⟨?_,?_,trivial⟩
 refine RO.val (m' :=7) (sk c0) rfl .plain rfl (AZ rfl ((t0.memA .hd) 0 _ rfl))<|BB 3 15 c0 rfl rfl .plain (AB (news:=[.bool false]) t0 .t2 rfl rfl rfl rfl rfl rfl (o1 rfl)) fun b1 u0 y0=>?_
 obtain ⟨H0,U0⟩:=AN u0 .d1
 exact C0 () H0 (Tt y0 U0)
 refine RO.now (m' :=11) (sk c0) rfl rfl .plain (AB (news:=[.bool false]) t0 .t2 rfl rfl rfl rfl rfl rfl (o1 rfl)) fun b1 u0 y0=>Rx 2 16 c0 rfl A0 (AZ rfl ((u0.memA .hd) 0 _ rfl)) ?_
 obtain ⟨I0,V0⟩:=AN u0 .d1
 exact C0 () I0 (Tt y0 V0)
 refine RG.callq' (v:=.bool B0) (fst:=[]) (cap:=[vP g0,vP p0,vP j0]) .plain (bd 140) rfl ai (fun w9 hw9=>AP (bP_c n (b0.hL0 hL hw9) a0 (b0.k0 h0_3 hw9) (ah hw9 (b0.memA .t4)) (ah hw9 (b0.memA .t2)) (b0.k0 h1_0 hw9) (ah hw9 (b0.memA .t3)) z0)) rfl<|AW [.bool B0] b0 .t1 (o1 rfl) fun I1 J0 u1=>AW [vI 0] J0 .hd (o1 rfl) fun J1 x0 v1=>Aa<|Am rfl<|RT.callD (vs:=[]) (cap:=[vP q0,vP d0]) (bd 177) func177 rfl rfl rfl fun j1 F0 Y0=>Ae<|RG.recover0 .plain F0 rfl<|Ag rfl<|Aa<|Ae<|Af rfl<|Ac (FV.neqI0 underlying20 rfl rfl)<|Aa<|Bp rfl<|Ap<|MX.fin rfl<|RT.leaveD0 F0 Y0 func177 rfl .nil<|Aq (u:=.tuple #[.bool B0,vI 0]) E0 func139 rfl (.cons (.one rfl rfl ((x0.memA .t1) 0 _ rfl)) (.cons (.one rfl rfl ((x0.memA .hd) 0 _ rfl)) .nil)) rfl<|Af rfl<|Ac (Ai rfl rfl)<|Ac (Ai rfl rfl)<|Ag rfl<|Ag rfl<|Aa<|Ae<|Af rfl<|Ag rfl<|Aa<|Am rfl<|AU hb0 func109 rfl rfl ?_
 cases h
 exact x0.gv
structure Tvote where
  fl:Tf
  fplan:List Int
  fk:Int
  deriving DecidableEq
instance:Rep Tvote:=Rep.via (β:=Tf × (List Int) × Int) fun x=>(x.fl,x.fplan,x.fk)
def aV_p (n:Nat) (a0:Tf) (a1:List Int) (a2:Int):Option (Except Te Tvote):=
  (b9_p n a0 a1 a2).bind fun c0=>(bT_p n c0).bind fun d0=>exc d0 (fun _y23=>some (.ok (⟨a0,a1,a2⟩:Tvote))) (fun b0=>some (.error b0))
theorem aV_c (n:Nat) {L w} (hL:hl L w) (a0:Tf) {v0_3:Value} (h0_3:Rep.R w L [v0_3] a0.fu) {a1:List Int} {v1_0:Value} (h1_0:Rep.R w L [v1_0] a1) {a2:Int}  {r:Except Te Tvote} (h:aV_p n a0 a1 a2 = some r) :
 Cl 72 #[.agg #[vI a0.fh,vI a0.fc,vI a0.fe,v0_3],v1_0,vI a2] w (aD w (fun (y:Tvote) w' u=>∃ v0_3 v0_4:Value,u = .agg #[vI y.fl.fh,vI y.fl.fc,vI y.fl.fe,v0_3,v0_4,vI y.fk]/\Rep.R w' L [v0_3] y.fl.fu/\Rep.R w' L [v0_4] y.fplan) (fun e=>.iface 138 (.agg #[vI e.fy])) r):=by
 unfold aV_p at h
 refine Bz func72 rfl rfl rfl fun _ cs0 hb0 hp0=>Ae<|RG.bx (Ax w) rfl rfl fun J0 A0 p0 F0=>RG.nl [vI 0,vI 0,vI 0,vN,vN,vI 0] p0 fun K0 B0 b0 G0=>Aa<|Ae<|Ac (AD rfl (b0.memA .t1))<|Af rfl<|Af rfl<|bk h fun x0 v0 h=>Bf (vI x0) (bd 109) rfl (e3 rfl rfl rfl) (fun w9 hw9=>b9_c n (b0.hL0 hL hw9) a0 (b0.k0 h0_3 hw9) (b0.k0 h1_0 hw9) v0) rfl<|xk h (fun E0 d0 h=>?_) (fun Q0 d0 h=>?_)
 refine Bi (fst:=[]) (cap:=[]) .plain (bd 108) rfl (e1 rfl) (fun w9 hw9=>bT_c n (b0.hL0 hL hw9)  d0) fun M0 s0=>?_
 obtain ⟨q0,H0⟩:=b0.agr s0
 cases h
 exact AS hp0 func72 ⟨q0.ag,rfl⟩
 refine Bf (.tuple #[]) (bd 108) rfl (e1 rfl) (fun w9 hw9=>AP (bT_c n (b0.hL0 hL hw9)  d0)) rfl<|Aa<|Ae<|Ac (AD rfl (b0.memA .t1))<|Af rfl<|Af rfl ?_
 have g0:=AQ h0_3 b0
 obtain ⟨y0,C0,t0,_⟩:=Rep.sl g0
 have j0:=AQ h1_0 b0
 obtain ⟨z0,D0,u0,_⟩:=Rep.sl j0
 refine Ac (AX (vs:=[.agg #[vI a0.fh,vI a0.fc,vI a0.fe,v0_3],v1_0,vI a2]) (u:=.agg #[vI a0.fh,vI a0.fc,vI a0.fe,v0_3,v1_0,vI a2]) (e3 rfl rfl rfl) (fun w9=>by rw [t0,u0]; try kernel_rfl))<|AW [vI a0.fh,vI a0.fc,vI a0.fe,v0_3,v1_0,vI a2] b0 .hd (o6 rfl rfl rfl (Bd g0) (Bd j0) rfl) fun P0 c0 I0=>Aa<|Am rfl<|Aq hb0 func72 rfl (.cons (.many (cs:=[vI a0.fh,vI a0.fc,vI a0.fe,v0_3,v1_0,vI a2]) rfl rfl (c0.memA .hd)) .nil) rfl ?_
 cases h
 exact ⟨c0.ag,fun w9 hw9=>ay ⟨v0_3,v1_0,rfl,c0.k0 h0_3 hw9,c0.k0 h1_0 hw9⟩⟩
theorem cG_c (_n:Nat) {L w} (_hL:hl L w) (a0:Tvote) {v0_3:Value} (_h0_3:Rep.R w L [v0_3] a0.fl.fu) {v0_4:Value} (_h0_4:Rep.R w L [v0_4] a0.fplan)  :
 Cl 111 #[.agg #[vI a0.fl.fh,vI a0.fl.fc,vI a0.fl.fe,v0_3,v0_4,vI a0.fk]] w (ak w fun w' u=>∃ b0:Nat,u = .func (.func 143) #[] #[vP b0]/\St w w' [.cells b0 [vI a0.fl.fh,vI a0.fl.fc,vI a0.fl.fe,v0_3,v0_4,vI a0.fk] 117]):=by
 refine AC func111 rfl rfl rfl fun _ cs0 hb0=>Ae<|RG.bx (Ax w) rfl rfl fun g0 b0 c0 d0=>Ag rfl<|Aa<|Ae<|Ac (Bw (vs:=[]) (us:=[vP b0]) ai (e1 rfl))<|Ag rfl<|Aa<|Am rfl<|Aq (u:=.func (.func 143) #[] #[vP b0]) hb0 func111 rfl (.cons (.tmp rfl) .nil) rfl<|⟨c0.ag,fun w9 hw9=>⟨b0,rfl,c0.agree hw9⟩⟩

theorem el64:ElT Tryz.prog 64 38 (Rep.size (List Int)) 24 vN [vN]:=⟨underlying64,by kernel_rfl,rfl,rfl,rfl,rfl⟩
theorem bs:ElT Tryz.prog 38 3 (Rep.size Int) 8 (vI 0) [vI 0]:=⟨underlying38,by kernel_rfl,rfl,rfl,rfl,rfl⟩
def aj_l1 (_n:Nat) (g0:Tc) (d0:Int) (k0:Nat × (List (List Int)) -> Option (List (List Int))):Nat × (List (List Int)) -> Option (List (List Int))
  | (b0,c0)=>(if b0 < g0.fVotes.length then (g0.fVotes[b0]?).bind fun q0=>(idx c0 d0).bind fun j0=>(j0[b0]?).bind fun s0=>(chk (s0 + q0)).bind fun p0=>(put j0 ((b0:Nat):Int) p0).bind fun t0=>k0 (b0 + 1,(c0.set d0.toNat t0)) else some c0)
def aj_l2 (n:Nat) (a0:Tvote) (d0:Nat × (List (List Int)) -> Option (List (List Int))):Nat × (List (List Int)) -> Option (List (List Int))
  | (b0,c0)=>(if b0 < a0.fplan.length then (a0.fplan[b0]?).bind fun g0=>(a0.fl.fu[b0]?).bind fun j0=>Option.bind (ao (aj_l1 n j0 g0) n (0,c0)) (fun k0=>d0 (b0 + 1,k0)) else some c0)
def aj_l3 (_n:Nat) (j0:List (List Int)) (a0:Tvote) (d0:Nat × (List (List Int)) -> Option (List (List Int))):Nat × (List (List Int)) -> Option (List (List Int))
  | (b0,c0)=>(if b0 < j0.length then (mk a0.fl.fc (0:Int)).bind fun g0=>(c0[b0]?).bind fun _x122=>d0 (b0 + 1,(c0.set b0 g0)) else some c0)
def aj_p (n:Nat) (a0:Tvote):Option (List (List Int)):=
  (mk a0.fk ([]:List Int)).bind fun b0=>Option.bind (ao (aj_l3 n b0 a0) n (0,b0)) (fun c0=>Option.bind (ao (aj_l2 n a0) n (0,c0)) (fun d0=>some d0))
theorem aj_c (n:Nat) {L w} (hL:hl L w) (a0:Tvote) {v0_3:Value} (h0_3:Rep.R w L [v0_3] a0.fl.fu) {v0_4:Value} (h0_4:Rep.R w L [v0_4] a0.fplan)  {r:List (List Int)} (h:aj_p n a0 = some r) :
 Cl 73 #[.agg #[vI a0.fl.fh,vI a0.fl.fc,vI a0.fl.fe,v0_3,v0_4,vI a0.fk]] w (ak w fun w' u=>∃ v0_0:Value,u = v0_0/\Rep.R w' L [v0_0] r):=by
 unfold aj_p at h
 refine AC func73 rfl rfl rfl fun _ cs0 hb0=>Ae<|RG.bx (Ax w) rfl rfl fun J6 g0 P1 V5=>Ag rfl<|Aa<|Ae<|Bk 5 rfl<|AO rfl ((P1.memA .hd) 5 _ rfl)<|bk h fun X0 x1 h=>Al .plain rfl (Does.mk (α:=List Int) x1 P1 el64 rfl) fun K1 b0 Q1 b6=>?_
 have v6:=AE (cs:=(List.replicate a0.fk.toNat [vN]).flatten) (xs:=X0) Q1 L (Cells.mk x1 (Rep.nilSlice _ _))
 obtain ⟨A4,B4⟩:=gMk (O:=[.cells g0 [vI a0.fl.fh,vI a0.fl.fc,vI a0.fl.fe,v0_3,v0_4,vI a0.fk] 117]) x1 3 Q1
 have W2:St _ K1 (rr w 38 (List Int) (.slice (some ⟨b0,0,none⟩) a0.fk.toNat a0.fk.toNat) X0.length (gC (gZ a0.fk)) :: .cells g0 [vI a0.fl.fh,vI a0.fl.fc,vI a0.fl.fe,v0_3,v0_4,vI a0.fk] 117 :: (gI w.heap.size 3 (gZ a0.fk) ++ [])):=A4
 have c6:Tr K1 [rr w 38 (List Int) (.slice (some ⟨b0,0,none⟩) a0.fk.toNat a0.fk.toNat) X0.length ((List.replicate a0.fk.toNat [vN]).flatten),.cells g0 [vI a0.fl.fh,vI a0.fl.fc,vI a0.fl.fe,v0_3,v0_4,vI a0.fk] 117] K1 (rr w 38 (List Int) (.slice (some ⟨b0,0,none⟩) a0.fk.toNat a0.fk.toNat) X0.length (gC (gZ a0.fk)) :: .cells g0 [vI a0.fl.fh,vI a0.fl.fc,vI a0.fl.fe,v0_3,v0_4,vI a0.fk] 117 :: (gI w.heap.size 3 (gZ a0.fk) ++ [])):=B4
 refine RG.nl [vN] W2 fun R6 c0 C1 d6=>RG.now .plain (AB (news:=[(.slice (some ⟨b0,0,none⟩) a0.fk.toNat a0.fk.toNat)]) C1 .hd rfl rfl rfl (St.c1 (α:=List Int) C1 .t1) rfl rfl (o1 (St.o1 (α:=List Int) C1 .t1))) fun U6 q1 g6=>Aa<|Ak<|Ae<|AO rfl ((q1.memA .hd) 0 _ rfl) ?_
 have y6:X0.length <= 4294967296:=St.rowLe (α:=List Int) q1 .t1
 obtain ⟨u5,F5,I3⟩:=St.rowV (α:=List Int) q1 .t1
 refine Ac (FV.lenV underlying64 rfl I3)<|Af rfl<|Aa<|Au ?_
 obtain ⟨E6,u4,V3⟩:=av h
 refine MX.lf (α:=Nat × (List (List Int)) × (List (Value × List Int))) (fun ⟨y0,H0,V0⟩=>[(1,vP g0),(3,vP c0),(12,vI ((X0.length:Nat):Int)),(13,vI ((y0:Nat):Int))]) (fun ⟨y0,H0,V0⟩=>(.cells c0 [(.slice (some ⟨b0,0,none⟩) a0.fk.toNat a0.fk.toNat)] 64 :: rr w 38 (List Int) (.slice (some ⟨b0,0,none⟩) a0.fk.toNat a0.fk.toNat) H0.length (gC V0) :: .cells g0 [vI a0.fl.fh,vI a0.fl.fc,vI a0.fl.fe,v0_3,v0_4,vI a0.fk] 117 :: (gI w.heap.size 3 V0 ++ []))) (fun ⟨y0,H0,V0⟩ q5=>H0 = gM V0) (fun ⟨y0,H0,V0⟩=>(y0,H0)) (0,X0,(gZ a0.fk)) u4 q1 (mk_gZ x1) ?_
 rintro z5 ⟨y0,H0,V0⟩ q5 M2 p1 j3 j1 h
 unfold aj_l3 at h
 try dsimp only at h
 refine Ae<|Ac (Bm (i:=y0) (j:=X0.length) rfl rfl)<|Aa<|Ak<|AI rfl h (fun E2 h=>?_) (fun E2 h=>?_)
 refine Ap<|Ak<|Au<|Ae<|Af rfl<|Ag rfl<|Aa<|du 7 fun U0 b1=>Rx 0 192 U0 rfl b1 (AZ rfl ((p1.memA .hd) 0 _ rfl))<|Rv 1 U0 rfl b1 (fun _=>Aj rfl)<|Rv 2 U0 rfl b1 (fun _=>Bo 0 rfl)<|Rv 3 U0 rfl b1 (fun _=>Bo 1 rfl)<|Rx 4 224 U0 rfl b1 (AZ rfl ((bX (p1.memA .t2) 0) 1 _ rfl))<|bk h fun I0 u2 h=>RD.nu 5 63 U0 rfl .plain rfl (Does.mk (α:=Int) u2 p1 bs rfl) fun K6 M0 g1 k3=>?_
 have G3:=AE (cs:=(List.replicate a0.fl.fc.toNat [vI 0]).flatten) (xs:=I0) g1 L (Cells.mk u2 rfl)
 refine bk h fun z1 X4 h=>?_
 obtain ⟨Q0,A1,R0,B3,g2,q2⟩:=gV j1 X4
 subst B3
 obtain ⟨C5,E5,c2,j2,A6⟩:=St.gNth' j1 g1 .t2 g2
 refine Rv 6 U0 rfl b1 (fun _=>Bh 1 y0 rfl c2 rfl rfl j2)<|BB 7 255 U0 rfl rfl .plain (Acts.gPut (i:=y0) (Z:=(Q0 ++ (A1,z1) :: R0)) (yv:=(.slice (some ⟨M0,0,none⟩) a0.fl.fc.toNat a0.fl.fc.toNat)) (g_len j1) j2 g1 c2 .t2 rfl rfl rfl (St.c1 (α:=Int) g1 .hd) (St.o1 (α:=Int) g1 .hd) rfl) fun J1 R2 Y1=>AH (dk U0)<|Ay<|Ao<|Ac (Bg (i:=y0) (j:=1) rfl rfl (by omega))<|Af rfl<|Aa ?_
 obtain ⟨y4,z4⟩:=St.gPut' (Q:=fun n9 D9=>[.cells c0 [(.slice (some ⟨b0,0,none⟩) a0.fk.toNat a0.fk.toNat)] 64,rr w 38 (List Int) (.slice (some ⟨b0,0,none⟩) a0.fk.toNat a0.fk.toNat) n9 D9,.cells g0 [vI a0.fl.fh,vI a0.fl.fc,vI a0.fl.fe,v0_3,v0_4,vI a0.fk] 117]) (Z1:=Q0) (Z2:=R0) (y:=A1) (xs:=z1) (T:=[]) j1 (q2 (.slice (some ⟨M0,0,none⟩) a0.fl.fc.toNat a0.fl.fc.toNat) I0) g2 (AL G3 Y1) R2
 have U2:St _ J1 (.cells c0 [(.slice (some ⟨b0,0,none⟩) a0.fk.toNat a0.fk.toNat)] 64 :: rr w 38 (List Int) (.slice (some ⟨b0,0,none⟩) a0.fk.toNat a0.fk.toNat) ((H0.set y0 I0).length) (gC (Q0 ++ ((.slice (some ⟨M0,0,none⟩) a0.fl.fc.toNat a0.fl.fc.toNat),I0) :: R0)) :: .cells g0 [vI a0.fl.fh,vI a0.fl.fc,vI a0.fl.fe,v0_3,v0_4,vI a0.fk] 117 :: (gI w.heap.size 3 (Q0 ++ ((.slice (some ⟨M0,0,none⟩) a0.fl.fc.toNat a0.fl.fc.toNat),I0) :: R0) ++ [])):=y4
 have p3:Tr J1 (rr w 3 Int (.slice (some ⟨M0,0,none⟩) a0.fl.fc.toNat a0.fl.fc.toNat) I0.length ((List.replicate a0.fl.fc.toNat [vI 0]).flatten) :: .cells c0 [(.slice (some ⟨b0,0,none⟩) a0.fk.toNat a0.fk.toNat)] 64 :: rr w 38 (List Int) (.slice (some ⟨b0,0,none⟩) a0.fk.toNat a0.fk.toNat) H0.length ((gC (Q0 ++ (A1,z1) :: R0)).set y0 (.slice (some ⟨M0,0,none⟩) a0.fl.fc.toNat a0.fl.fc.toNat)) :: .cells g0 [vI a0.fl.fh,vI a0.fl.fc,vI a0.fl.fe,v0_3,v0_4,vI a0.fk] 117 :: (gI w.heap.size 3 (Q0 ++ (A1,z1) :: R0) ++ [])) J1 (.cells c0 [(.slice (some ⟨b0,0,none⟩) a0.fk.toNat a0.fk.toNat)] 64 :: rr w 38 (List Int) (.slice (some ⟨b0,0,none⟩) a0.fk.toNat a0.fk.toNat) ((H0.set y0 I0).length) (gC (Q0 ++ ((.slice (some ⟨M0,0,none⟩) a0.fl.fc.toNat a0.fl.fc.toNat),I0) :: R0)) :: .cells g0 [vI a0.fl.fh,vI a0.fl.fc,vI a0.fl.fe,v0_3,v0_4,vI a0.fk] 117 :: (gI w.heap.size 3 (Q0 ++ ((.slice (some ⟨M0,0,none⟩) a0.fl.fc.toNat a0.fl.fc.toNat),I0) :: R0) ++ [])):=z4
 exact M2 (y0 + 1,(H0.set y0 I0),(Q0 ++ ((.slice (some ⟨M0,0,none⟩) a0.fl.fc.toNat a0.fl.fc.toNat),I0) :: R0)) U2 (Tt j3 (Tt k3 (Tt Y1 p3))) (q2 (.slice (some ⟨M0,0,none⟩) a0.fl.fc.toNat a0.fl.fc.toNat) I0) h
 refine AT rfl ?_
 have h:=V3 _ h
 try dsimp only at h
 refine Ae<|Ac (Bw (vs:=[]) (us:=[vP c0]) ai (e1 rfl))<|RG.nl [.nilFunc] p1 fun M6 k0 V2 W5=>AW [.func (.func 110) #[] #[vP c0]] V2 .hd (o1 rfl) fun p5 Y0 X5=>Aa<|Ak<|Ae<|Ac (AD rfl (Y0.memA .t3))<|jE (bd 111) rfl (e1 rfl) (fun p q=>Calls.gives (cG_c n (Y0.hL hL q) a0 (Y0.km h0_3 q) (Y0.km h0_4 q)) fun (w8:World) (u8:Value) ⟨b0_,hu_,s_⟩=>(⟨b0_,hu_,s_.from q⟩:∃ j0:Nat,u8 = Value.func (.func 143) #[] #[vP j0]/\St p5 w8 [.cells j0 [vI a0.fl.fh,vI a0.fl.fc,vI a0.fl.fe,v0_3,v0_4,vI a0.fk] 117])) rfl fun P6 I6 u6 ⟨j0,W4,x2⟩=>?_
 subst W4
 have Y5:=iI Y0 x2
 refine Aa<|Au<|MX.rangeP (lb:=[vP j0]) rfl (eY Y0 x2) rfl (bd 143) func143 rfl rfl rfl fun Q6 A0 x0 D0 P5 B1 Z5 k5 D3 B6=>Ae<|Bk 4 rfl<|AO rfl ((B1.memA .t2) 4 _ rfl) ?_
 have k2:=AQ h0_4 B1
 have x6:a0.fplan.length <= 281474976710656:=AY k2
 refine Ac (Be (xs:=a0.fplan) underlying39 rfl k2)<|Af rfl<|Aa<|Au ?_
 obtain ⟨F6,v4,W3⟩:=av h
 refine MX.lf (α:=Nat × (List (List Int)) × (List (Value × List Int))) (fun ⟨J0,z0,q0⟩=>[(0,.func (.yield A0) #[] #[]),(1,vP j0),(6,v0_4),(7,vI ((a0.fplan.length:Nat):Int)),(8,vI ((J0:Nat):Int))]) (fun ⟨J0,z0,q0⟩=>(.obj A0 (lpO D0 .ready none) :: .obj x0 (.deferred (some [])) :: .cells j0 [vI a0.fl.fh,vI a0.fl.fc,vI a0.fl.fe,v0_3,v0_4,vI a0.fk] 117 :: .cells k0 [.func (.func 110) #[] #[vP c0]] 147 :: .cells c0 [(.slice (some ⟨b0,0,none⟩) a0.fk.toNat a0.fk.toNat)] 64 :: rr w 38 (List Int) (.slice (some ⟨b0,0,none⟩) a0.fk.toNat a0.fk.toNat) z0.length (gC q0) :: .cells g0 [vI a0.fl.fh,vI a0.fl.fc,vI a0.fl.fe,v0_3,v0_4,vI a0.fk] 117 :: (gI w.heap.size 3 q0 ++ []))) (fun ⟨J0,z0,q0⟩ s5=>z0 = gM q0) (fun ⟨J0,z0,q0⟩=>(J0,z0)) (0,H0,V0) v4 B1 j1 ?_
 rintro A5 ⟨J0,z0,q0⟩ s5 P2 Z0 q3 v2 h
 unfold aj_l2 at h
 try dsimp only at h
 refine Ae<|Ac (Bm (i:=J0) (j:=a0.fplan.length) rfl rfl)<|Aa<|Ak<|AI rfl h (fun F2 h=>?_) (fun F2 h=>?_)
 refine Ap<|Ak<|Au<|Ae<|Af rfl<|bk h fun W0 Y4 h=>?_
 obtain ⟨v5,G5,J3,b4,H2,I4,j4⟩:=Bl (AQ h0_4 Z0) Y4
 have K3:H2 = [vI W0]:=I4; subst K3
 refine Ac (Bh 1 J0 rfl J3 rfl rfl b4)<|AO rfl (j4 0 _ rfl)<|Ag rfl<|Ag rfl<|Aa<|Ae<|Af rfl<|Af rfl<|Bk 0 rfl<|Bk 3 rfl<|AO rfl ((bX (Z0.memA .t2) 0) 3 _ rfl)<|Af rfl<|bk h fun d0 Z4 h=>?_
 obtain ⟨x5,H5,M3,c4,Q5,J4,k4⟩:=Bl (AQ h0_3 Z0) Z4
 obtain ⟨F0,B0,G0,rfl,K4,I1,M4⟩:=lO J4
 refine Ac (Bh 6 J0 rfl M3 rfl rfl c4)<|Ac (AD rfl k4)<|RG.yieldP (fd:=73) (vs:=[vI W0,.agg #[.string d0.fw,vI d0.fA,F0,B0,G0,.bool d0.ft]]) .plain rfl (e2 rfl rfl) Z0 .hd k5 rfl rfl rfl fun R5 E3 C6=>Ae<|Ag rfl<|Aa<|Ao<|RG.nl [.string ⟨#[]⟩,vI 0,vN,vN,vN,.bool false] Z0 fun V6 P0 X2 u1=>AW [.string d0.fw,vI d0.fA,F0,B0,G0,.bool d0.ft] X2 .hd (o6 rfl rfl (Bd (Az K4 u1)) (Bd (Az I1 u1)) (Bd (Az M4 u1)) rfl) fun W6 Y2 s3=>Aa<|MX.begin Y2 .t1 fun X6 D1 u3=>Au<|Ao<|AO rfl ((D1.memA .t4) 0 _ rfl)<|Af rfl<|Bk 3 rfl<|AO rfl ((D1.memA .hd) 3 _ rfl)<|Bq (fst:=[]) (cap:=[vP c0]) (vs:=[vI W0,B0]) .plain (bd 110) func110 rfl rfl rfl rfl (e2 rfl rfl) rfl fun U5 F3 D6=>Ae<|Af rfl ?_
 have H1:=Tt u1 (Tt s3 u3)
 have p2:=Az I1 H1
 have z6:d0.fVotes.length <= 281474976710656:=AY p2
 refine Ac (Be (xs:=d0.fVotes) underlying38 rfl p2)<|Af rfl<|Aa<|Au ?_
 obtain ⟨G6,x4,X3⟩:=av h
 refine MX.lf (α:=Nat × (List (List Int)) × (List (Value × List Int))) (fun ⟨C0,s0,E0⟩=>[(0,vI W0),(2,vP c0),(7,B0),(8,vI ((d0.fVotes.length:Nat):Int)),(9,vI ((C0:Nat):Int))]) (fun ⟨C0,s0,E0⟩=>(.cells P0 [.string d0.fw,vI d0.fA,F0,B0,G0,.bool d0.ft] 63 :: .obj A0 (lpO D0 .busy none) :: .obj x0 (.deferred (some [])) :: .cells j0 [vI a0.fl.fh,vI a0.fl.fc,vI a0.fl.fe,v0_3,v0_4,vI a0.fk] 117 :: .cells k0 [.func (.func 110) #[] #[vP c0]] 147 :: .cells c0 [(.slice (some ⟨b0,0,none⟩) a0.fk.toNat a0.fk.toNat)] 64 :: rr w 38 (List Int) (.slice (some ⟨b0,0,none⟩) a0.fk.toNat a0.fk.toNat) s0.length (gC E0) :: .cells g0 [vI a0.fl.fh,vI a0.fl.fc,vI a0.fl.fe,v0_3,v0_4,vI a0.fk] 117 :: (gI w.heap.size 3 E0 ++ []))) (fun ⟨C0,s0,E0⟩ k1=>s0 = gM E0) (fun ⟨C0,s0,E0⟩=>(C0,s0)) (0,z0,q0) x4 D1 v2 ?_
 rintro B5 ⟨C0,s0,E0⟩ k1 Q2 s1 F1 y1 h
 unfold aj_l1 at h
 try dsimp only at h
 refine Ae<|Ac (Bm (i:=C0) (j:=d0.fVotes.length) rfl rfl)<|Aa<|Ak<|AI rfl h (fun G2 h=>?_) (fun G2 h=>?_)
 refine Ap<|Ak<|Au<|Ae<|Af rfl<|bk h fun A2 b5 h=>?_
 obtain ⟨y5,I5,P3,d4,I2,P4,p4⟩:=Bl (Az I1 (Tt H1 F1)) b5
 have Q3:I2 = [vI A2]:=P4; subst Q3
 refine Ac (Bh 1 C0 rfl P3 rfl rfl d4)<|AO rfl (p4 0 _ rfl)<|Ag rfl<|Ag rfl<|Aa<|Ao<|AO rfl ((s1.memA .t5) 0 _ rfl)<|Af rfl<|bk h fun v0 c5 h=>?_
 obtain ⟨Y3,d5⟩:=aI c5
 obtain ⟨t0,p0,u0,C3,Z3,s2⟩:=gV y1 d5
 subst C3
 obtain ⟨D5,J5,R3,g4,q4⟩:=St.gNth' y1 s1 .t6 Z3
 refine Ac (Bh 1 (W0.toNat) rfl R3 rfl Y3 g4) ?_
 obtain ⟨C4,D4⟩:=St.gOpen (pre:=[.cells P0 [.string d0.fw,vI d0.fA,F0,B0,G0,.bool d0.ft] 63,.obj A0 (lpO D0 .busy none),.obj x0 (.deferred (some [])),.cells j0 [vI a0.fl.fh,vI a0.fl.fc,vI a0.fl.fe,v0_3,v0_4,vI a0.fk] 117,.cells k0 [.func (.func 110) #[] #[vP c0]] 147,.cells c0 [(.slice (some ⟨b0,0,none⟩) a0.fk.toNat a0.fk.toNat)] 64,rr w 38 (List Int) (.slice (some ⟨b0,0,none⟩) a0.fk.toNat a0.fk.toNat) s0.length (gC (t0 ++ (p0,v0) :: u0)),.cells g0 [vI a0.fl.fh,vI a0.fl.fc,vI a0.fl.fe,v0_3,v0_4,vI a0.fk] 117]) (T:=[]) (Z1:=t0) (Z2:=u0) (y:=p0) (xs:=v0) (base:=w.heap.size) (e:=3) s1
 have E1:St _ k1 (rr w 3 Int p0 v0.length (iC v0) :: .cells P0 [.string d0.fw,vI d0.fA,F0,B0,G0,.bool d0.ft] 63 :: .obj A0 (lpO D0 .busy none) :: .obj x0 (.deferred (some [])) :: .cells j0 [vI a0.fl.fh,vI a0.fl.fc,vI a0.fl.fe,v0_3,v0_4,vI a0.fk] 117 :: .cells k0 [.func (.func 110) #[] #[vP c0]] 147 :: .cells c0 [(.slice (some ⟨b0,0,none⟩) a0.fk.toNat a0.fk.toNat)] 64 :: rr w 38 (List Int) (.slice (some ⟨b0,0,none⟩) a0.fk.toNat a0.fk.toNat) s0.length (gC (t0 ++ (p0,v0) :: u0)) :: .cells g0 [vI a0.fl.fh,vI a0.fl.fc,vI a0.fl.fe,v0_3,v0_4,vI a0.fk] 117 :: (gI w.heap.size 3 (t0 ++ u0) ++ [])):=C4
 have v3:Tr k1 (.cells P0 [.string d0.fw,vI d0.fA,F0,B0,G0,.bool d0.ft] 63 :: .obj A0 (lpO D0 .busy none) :: .obj x0 (.deferred (some [])) :: .cells j0 [vI a0.fl.fh,vI a0.fl.fc,vI a0.fl.fe,v0_3,v0_4,vI a0.fk] 117 :: .cells k0 [.func (.func 110) #[] #[vP c0]] 147 :: .cells c0 [(.slice (some ⟨b0,0,none⟩) a0.fk.toNat a0.fk.toNat)] 64 :: rr w 38 (List Int) (.slice (some ⟨b0,0,none⟩) a0.fk.toNat a0.fk.toNat) s0.length (gC (t0 ++ (p0,v0) :: u0)) :: .cells g0 [vI a0.fl.fh,vI a0.fl.fc,vI a0.fl.fe,v0_3,v0_4,vI a0.fk] 117 :: (gI w.heap.size 3 (t0 ++ (p0,v0) :: u0) ++ [])) k1 (rr w 3 Int p0 v0.length (iC v0) :: .cells P0 [.string d0.fw,vI d0.fA,F0,B0,G0,.bool d0.ft] 63 :: .obj A0 (lpO D0 .busy none) :: .obj x0 (.deferred (some [])) :: .cells j0 [vI a0.fl.fh,vI a0.fl.fc,vI a0.fl.fe,v0_3,v0_4,vI a0.fk] 117 :: .cells k0 [.func (.func 110) #[] #[vP c0]] 147 :: .cells c0 [(.slice (some ⟨b0,0,none⟩) a0.fk.toNat a0.fk.toNat)] 64 :: rr w 38 (List Int) (.slice (some ⟨b0,0,none⟩) a0.fk.toNat a0.fk.toNat) s0.length (gC (t0 ++ (p0,v0) :: u0)) :: .cells g0 [vI a0.fl.fh,vI a0.fl.fc,vI a0.fl.fe,v0_3,v0_4,vI a0.fk] 117 :: (gI w.heap.size 3 (t0 ++ u0) ++ [])):=D4
 have b2:=Cells.int k1 (bl (rr w 3 Int p0 v0.length (iC v0) :: .cells P0 [.string d0.fw,vI d0.fA,F0,B0,G0,.bool d0.ft] 63 :: .obj A0 (lpO D0 .busy none) :: .obj x0 (.deferred (some [])) :: .cells j0 [vI a0.fl.fh,vI a0.fl.fc,vI a0.fl.fe,v0_3,v0_4,vI a0.fk] 117 :: .cells k0 [.func (.func 110) #[] #[vP c0]] 147 :: .cells c0 [(.slice (some ⟨b0,0,none⟩) a0.fk.toNat a0.fk.toNat)] 64 :: rr w 38 (List Int) (.slice (some ⟨b0,0,none⟩) a0.fk.toNat a0.fk.toNat) s0.length (gC (t0 ++ (p0,v0) :: u0)) :: .cells g0 [vI a0.fl.fh,vI a0.fl.fc,vI a0.fl.fe,v0_3,v0_4,vI a0.fk] 117 :: (gI w.heap.size 3 (t0 ++ u0) ++ [])) ++ L) v0
 refine AO rfl (q4 0 _ rfl)<|Af rfl<|bk h fun B2 g5 h=>?_
 obtain ⟨C2,K5,v1,G1,J2,Q4,s4⟩:=St.nth (α:=Int) E1 .hd b2 g5
 obtain ⟨D2,M5,d2⟩:=Bu (α:=Int) E1 .hd G1
 obtain rfl:C2 = ⟨D2,0,none⟩:=by rw [d2] at v1; cases v1; rfl
 have U3:J2 = [vI B2]:=Q4; subst U3
 refine Ac (Bh 1 C0 rfl v1 rfl rfl G1)<|AO rfl (s4 0 _ rfl)<|Af rfl<|bk h fun H6 V4 h=>Ac (Bs (i:=B2) (j:=A2) rfl rfl V4)<|Ac (Bh 1 C0 rfl v1 rfl rfl G1)<|bk h fun K0 j5 h=>RG.acts' .plain (Acts.set (α:=Int) (i:=C0) j5 E1 d2 (fun _=>.hd) b2 rfl rfl rfl rfl rfl rfl) fun M1 ⟨K2,b3,x3,H3⟩=>Aa<|Ay<|Ao<|Ac (Bg (i:=C0) (j:=1) rfl rfl (by omega))<|Af rfl<|Aa ?_
 obtain ⟨E4,F4⟩:=St.gShut' (Q:=fun n9 D9=>[.cells P0 [.string d0.fw,vI d0.fA,F0,B0,G0,.bool d0.ft] 63,.obj A0 (lpO D0 .busy none),.obj x0 (.deferred (some [])),.cells j0 [vI a0.fl.fh,vI a0.fl.fc,vI a0.fl.fe,v0_3,v0_4,vI a0.fk] 117,.cells k0 [.func (.func 110) #[] #[vP c0]] 147,.cells c0 [(.slice (some ⟨b0,0,none⟩) a0.fk.toNat a0.fk.toNat)] 64,rr w 38 (List Int) (.slice (some ⟨b0,0,none⟩) a0.fk.toNat a0.fk.toNat) n9 D9,.cells g0 [vI a0.fl.fh,vI a0.fl.fc,vI a0.fl.fe,v0_3,v0_4,vI a0.fk] 117]) (Z1:=t0) (Z2:=u0) (y:=p0) (xs:=v0) (T:=[]) y1 (s2 p0 K0) H3 b3
 have c3:St _ M1 (.cells P0 [.string d0.fw,vI d0.fA,F0,B0,G0,.bool d0.ft] 63 :: .obj A0 (lpO D0 .busy none) :: .obj x0 (.deferred (some [])) :: .cells j0 [vI a0.fl.fh,vI a0.fl.fc,vI a0.fl.fe,v0_3,v0_4,vI a0.fk] 117 :: .cells k0 [.func (.func 110) #[] #[vP c0]] 147 :: .cells c0 [(.slice (some ⟨b0,0,none⟩) a0.fk.toNat a0.fk.toNat)] 64 :: rr w 38 (List Int) (.slice (some ⟨b0,0,none⟩) a0.fk.toNat a0.fk.toNat) ((s0.set W0.toNat K0).length) (gC (t0 ++ (p0,K0) :: u0)) :: .cells g0 [vI a0.fl.fh,vI a0.fl.fc,vI a0.fl.fe,v0_3,v0_4,vI a0.fk] 117 :: (gI w.heap.size 3 (t0 ++ (p0,K0) :: u0) ++ [])):=E4
 have y3:Tr M1 (rr w 3 Int p0 K0.length K2 :: .cells P0 [.string d0.fw,vI d0.fA,F0,B0,G0,.bool d0.ft] 63 :: .obj A0 (lpO D0 .busy none) :: .obj x0 (.deferred (some [])) :: .cells j0 [vI a0.fl.fh,vI a0.fl.fc,vI a0.fl.fe,v0_3,v0_4,vI a0.fk] 117 :: .cells k0 [.func (.func 110) #[] #[vP c0]] 147 :: .cells c0 [(.slice (some ⟨b0,0,none⟩) a0.fk.toNat a0.fk.toNat)] 64 :: rr w 38 (List Int) (.slice (some ⟨b0,0,none⟩) a0.fk.toNat a0.fk.toNat) s0.length (gC (t0 ++ (p0,v0) :: u0)) :: .cells g0 [vI a0.fl.fh,vI a0.fl.fc,vI a0.fl.fe,v0_3,v0_4,vI a0.fk] 117 :: (gI w.heap.size 3 (t0 ++ u0) ++ [])) M1 (.cells P0 [.string d0.fw,vI d0.fA,F0,B0,G0,.bool d0.ft] 63 :: .obj A0 (lpO D0 .busy none) :: .obj x0 (.deferred (some [])) :: .cells j0 [vI a0.fl.fh,vI a0.fl.fc,vI a0.fl.fe,v0_3,v0_4,vI a0.fk] 117 :: .cells k0 [.func (.func 110) #[] #[vP c0]] 147 :: .cells c0 [(.slice (some ⟨b0,0,none⟩) a0.fk.toNat a0.fk.toNat)] 64 :: rr w 38 (List Int) (.slice (some ⟨b0,0,none⟩) a0.fk.toNat a0.fk.toNat) ((s0.set W0.toNat K0).length) (gC (t0 ++ (p0,K0) :: u0)) :: .cells g0 [vI a0.fl.fh,vI a0.fl.fc,vI a0.fl.fe,v0_3,v0_4,vI a0.fk] 117 :: (gI w.heap.size 3 (t0 ++ (p0,K0) :: u0) ++ [])):=F4
 exact Q2 (C0 + 1,(s0.set W0.toNat K0),(t0 ++ (p0,K0) :: u0)) c3 (Tt F1 (Tt v3 (Tt x3 y3))) (s2 p0 K0) h
 refine AT rfl ?_
 have h:=X3 _ h
 try dsimp only at h
 refine MX.fin rfl<|Aq (u:=.tuple #[]) F3 func110 rfl .nil rfl<|Aa<|Ay<|MX.roundEnd E3 s1 .t1 fun y2 R1 z3=>Ac (BD rfl)<|Aa<|Bp rfl<|Ap<|Ay<|Ao<|Ac (Bg (i:=J0) (j:=1) rfl rfl (by omega))<|Af rfl<|Aa ?_
 have d3:St _ _ (.obj A0 (lpO D0 .ready none) :: .obj x0 (.deferred (some [])) :: .cells j0 [vI a0.fl.fh,vI a0.fl.fc,vI a0.fl.fe,v0_3,v0_4,vI a0.fk] 117 :: .cells k0 [.func (.func 110) #[] #[vP c0]] 147 :: .cells c0 [(.slice (some ⟨b0,0,none⟩) a0.fk.toNat a0.fk.toNat)] 64 :: rr w 38 (List Int) (.slice (some ⟨b0,0,none⟩) a0.fk.toNat a0.fk.toNat) s0.length (gC E0) :: .cells g0 [vI a0.fl.fh,vI a0.fl.fc,vI a0.fl.fe,v0_3,v0_4,vI a0.fk] 117 :: (gI w.heap.size 3 E0 ++ [])):=R1.arr2 (.one .t1 (.one .t1 (.one .t1 (.one .t1 (.one .t1 (.one .t1 (.one .t1 (.drop .hd .rest))))))))
 have A3:Tr y2 _ y2 (.obj A0 (lpO D0 .ready none) :: .obj x0 (.deferred (some [])) :: .cells j0 [vI a0.fl.fh,vI a0.fl.fc,vI a0.fl.fe,v0_3,v0_4,vI a0.fk] 117 :: .cells k0 [.func (.func 110) #[] #[vP c0]] 147 :: .cells c0 [(.slice (some ⟨b0,0,none⟩) a0.fk.toNat a0.fk.toNat)] 64 :: rr w 38 (List Int) (.slice (some ⟨b0,0,none⟩) a0.fk.toNat a0.fk.toNat) s0.length (gC E0) :: .cells g0 [vI a0.fl.fh,vI a0.fl.fc,vI a0.fl.fe,v0_3,v0_4,vI a0.fk] 117 :: (gI w.heap.size 3 E0 ++ [])):=Tr.arr2 (St.arr2Of R1 (.one .t1 (.one .t1 (.one .t1 (.one .t1 (.one .t1 (.one .t1 (.one .t1 (.drop .hd .rest)))))))))
 exact P2 (J0 + 1,s0,E0) d3 (Tt q3 (Tt H1 (Tt F1 (Tt z3 A3)))) y1 h
 refine AT rfl ?_
 have h:=W3 _ h
 try dsimp only at h
 refine MX.fin rfl<|Aq (u:=.tuple #[]) D3 func143 rfl .nil rfl<|MX.endRange0 Z0 .hd (by intro h9; cases h9) fun z2 U1 j6=>?_
 have V1:St _ _ (.obj x0 (.deferred (some [])) :: .cells j0 [vI a0.fl.fh,vI a0.fl.fc,vI a0.fl.fe,v0_3,v0_4,vI a0.fk] 117 :: .cells k0 [.func (.func 110) #[] #[vP c0]] 147 :: .cells c0 [(.slice (some ⟨b0,0,none⟩) a0.fk.toNat a0.fk.toNat)] 64 :: rr w 38 (List Int) (.slice (some ⟨b0,0,none⟩) a0.fk.toNat a0.fk.toNat) z0.length (gC q0) :: .cells g0 [vI a0.fl.fh,vI a0.fl.fc,vI a0.fl.fe,v0_3,v0_4,vI a0.fk] 117 :: (gI w.heap.size 3 q0 ++ [])):=U1.arr2 (.one .t1 (.one .t1 (.one .t1 (.one .t1 (.one .t1 (.one .t1 (.drop .hd .rest)))))))
 have k6:Tr z2 _ z2 (.obj x0 (.deferred (some [])) :: .cells j0 [vI a0.fl.fh,vI a0.fl.fc,vI a0.fl.fe,v0_3,v0_4,vI a0.fk] 117 :: .cells k0 [.func (.func 110) #[] #[vP c0]] 147 :: .cells c0 [(.slice (some ⟨b0,0,none⟩) a0.fk.toNat a0.fk.toNat)] 64 :: rr w 38 (List Int) (.slice (some ⟨b0,0,none⟩) a0.fk.toNat a0.fk.toNat) z0.length (gC q0) :: .cells g0 [vI a0.fl.fh,vI a0.fl.fc,vI a0.fl.fe,v0_3,v0_4,vI a0.fk] 117 :: (gI w.heap.size 3 q0 ++ [])):=Tr.arr2 (St.arr2Of U1 (.one .t1 (.one .t1 (.one .t1 (.one .t1 (.one .t1 (.one .t1 (.drop .hd .rest))))))))
 refine Ay<|Ae<|AO rfl ((V1.memA .t3) 0 _ rfl)<|Ag rfl<|Aa<|Am rfl<|RT.take V1 .hd fun d1 W1 p6=>?_
 have g3:St _ _ (.cells j0 [vI a0.fl.fh,vI a0.fl.fc,vI a0.fl.fe,v0_3,v0_4,vI a0.fk] 117 :: .cells k0 [.func (.func 110) #[] #[vP c0]] 147 :: .cells c0 [(.slice (some ⟨b0,0,none⟩) a0.fk.toNat a0.fk.toNat)] 64 :: rr w 38 (List Int) (.slice (some ⟨b0,0,none⟩) a0.fk.toNat a0.fk.toNat) z0.length (gC q0) :: .cells g0 [vI a0.fl.fh,vI a0.fl.fc,vI a0.fl.fe,v0_3,v0_4,vI a0.fk] 117 :: (gI w.heap.size 3 q0 ++ [])):=W1.arr2 (.one .t1 (.one .t1 (.one .t1 (.one .t1 (.one .t1 (.drop .hd .rest))))))
 have q6:Tr d1 _ d1 (.cells j0 [vI a0.fl.fh,vI a0.fl.fc,vI a0.fl.fe,v0_3,v0_4,vI a0.fk] 117 :: .cells k0 [.func (.func 110) #[] #[vP c0]] 147 :: .cells c0 [(.slice (some ⟨b0,0,none⟩) a0.fk.toNat a0.fk.toNat)] 64 :: rr w 38 (List Int) (.slice (some ⟨b0,0,none⟩) a0.fk.toNat a0.fk.toNat) z0.length (gC q0) :: .cells g0 [vI a0.fl.fh,vI a0.fl.fc,vI a0.fl.fe,v0_3,v0_4,vI a0.fk] 117 :: (gI w.heap.size 3 q0 ++ [])):=Tr.arr2 (St.arr2Of W1 (.one .t1 (.one .t1 (.one .t1 (.one .t1 (.one .t1 (.drop .hd .rest)))))))
 obtain ⟨R4,G4,H4⟩:=St.gFreeze' (pre:=[.cells j0 [vI a0.fl.fh,vI a0.fl.fc,vI a0.fl.fe,v0_3,v0_4,vI a0.fk] 117,.cells k0 [.func (.func 110) #[] #[vP c0]] 147,.cells c0 [(.slice (some ⟨b0,0,none⟩) a0.fk.toNat a0.fk.toNat)] 64,rr w 38 (List Int) (.slice (some ⟨b0,0,none⟩) a0.fk.toNat a0.fk.toNat) z0.length (gC q0),.cells g0 [vI a0.fl.fh,vI a0.fl.fc,vI a0.fl.fe,v0_3,v0_4,vI a0.fk] 117]) (T:=[]) v2 g3 .t3 hL
 have X1:St _ d1 [.cells j0 [vI a0.fl.fh,vI a0.fl.fc,vI a0.fl.fe,v0_3,v0_4,vI a0.fk] 117,.cells k0 [.func (.func 110) #[] #[vP c0]] 147,.cells c0 [(.slice (some ⟨b0,0,none⟩) a0.fk.toNat a0.fk.toNat)] 64,.cells g0 [vI a0.fl.fh,vI a0.fl.fc,vI a0.fl.fe,v0_3,v0_4,vI a0.fk] 117]:=G4
 have s6:Tr d1 (.cells j0 [vI a0.fl.fh,vI a0.fl.fc,vI a0.fl.fe,v0_3,v0_4,vI a0.fk] 117 :: .cells k0 [.func (.func 110) #[] #[vP c0]] 147 :: .cells c0 [(.slice (some ⟨b0,0,none⟩) a0.fk.toNat a0.fk.toNat)] 64 :: rr w 38 (List Int) (.slice (some ⟨b0,0,none⟩) a0.fk.toNat a0.fk.toNat) z0.length (gC q0) :: .cells g0 [vI a0.fl.fh,vI a0.fl.fc,vI a0.fl.fe,v0_3,v0_4,vI a0.fk] 117 :: (gI w.heap.size 3 q0 ++ [])) d1 [.cells j0 [vI a0.fl.fh,vI a0.fl.fc,vI a0.fl.fe,v0_3,v0_4,vI a0.fk] 117,.cells k0 [.func (.func 110) #[] #[vP c0]] 147,.cells c0 [(.slice (some ⟨b0,0,none⟩) a0.fk.toNat a0.fk.toNat)] 64,.cells g0 [vI a0.fl.fh,vI a0.fl.fc,vI a0.fl.fe,v0_3,v0_4,vI a0.fk] 117]:=H4
 have U4:Rep.R d1 (bl [.cells j0 [vI a0.fl.fh,vI a0.fl.fc,vI a0.fl.fe,v0_3,v0_4,vI a0.fk] 117,.cells k0 [.func (.func 110) #[] #[vP c0]] 147,.cells c0 [(.slice (some ⟨b0,0,none⟩) a0.fk.toNat a0.fk.toNat)] 64,.cells g0 [vI a0.fl.fh,vI a0.fl.fc,vI a0.fl.fe,v0_3,v0_4,vI a0.fk] 117] ++ L) [(.slice (some ⟨b0,0,none⟩) a0.fk.toNat a0.fk.toNat)] z0:=R4
 refine AU hb0 func73 rfl rfl ?_
 cases h
 exact ⟨X1.ag,fun p q=>⟨(.slice (some ⟨b0,0,none⟩) a0.fk.toNat a0.fk.toNat),rfl,X1.kd U4 q⟩⟩
def aJ_p (n:Nat) (a0:Bool) (a1:Int):Option (Except Te Unit):=
  (if a0 = true then (bT_p n a1).bind fun y2=>exc y2 (fun _y11=>some (.ok ())) (fun b0=>some (.error b0)) else some (.ok ()))
theorem aJ_c (n:Nat) {L w} (hL:hl L w) {a0:Bool} {a1:Int}  {r:Except Te Unit} (h:aJ_p n a0 a1 = some r) :
 Cl 91 #[.bool a0,vI a1] w (aD w (fun (_y:Unit) _ u=>u = .tuple #[]) (fun e=>.iface 138 (.agg #[vI e.fy])) r):=by
 unfold aJ_p at h
 have hS0:=Ax w
 refine Bz func91 rfl rfl rfl fun _ cs0 hb0 hp0=>Ae<|Af rfl<|Aa<|MX.ifb rfl h (fun c1 h=>?_) (fun c1 h=>?_)
 refine Ao<|Af rfl<|xk h (fun d0 hy2 h=>?_) (fun k0 hy2 h=>?_)
 refine Bi (fst:=[]) (cap:=[]) .plain (bd 108) rfl (e1 rfl) (fun p q=>bT_c n (hS0.hL0 hL q)  hy2) fun j0 c0=>?_
 obtain ⟨b0,g0⟩:=hS0.agr c0
 cases h
 exact AS hp0 func91 ⟨b0.ag,rfl⟩
 refine Bf (.tuple #[]) (bd 108) rfl (e1 rfl) (fun p q=>AP (bT_c n (hS0.hL0 hL q)  hy2)) rfl<|Aa<|MX.fin rfl<|Aq hb0 func91 rfl .nil rfl ?_
 cases h
 exact ⟨hS0.ag,fun p q=>ay rfl⟩
 refine Ap<|MX.fin rfl<|Aq hb0 func91 rfl .nil rfl ?_
 cases h
 exact ⟨hS0.ag,fun p q=>ay rfl⟩
theorem iP {w:World} {L:List Nat} {cs:List Value} {x:Int × Int} (h:Rep.R w L cs x):cs = [vI x.1,vI x.2]:=by
  obtain ⟨c0,r0,rfl,h0,h⟩:=h
  have e0:c0 = [vI x.1]:=h0; subst e0
  have e1:r0 = [vI x.2]:=h; subst e1
  rfl
theorem gH {w:World} {L:List Nat} (a0:Int) (a1:Int):Rep.R w L [vI a0,vI a1] ((a0,a1):Int × Int):=⟨[vI a0],[vI a1],rfl,rfl,rfl⟩
theorem el92:ElT Tryz.prog 92 94 (Rep.size (Int × Int)) 16 (.agg #[vI 0,vI 0]) [vI 0,vI 0]:=⟨underlying92,by kernel_rfl,rfl,rfl,rfl,rfl⟩
theorem eqlI_94 (a0 a1 b0 b1:Int) (p:World):(do eqGuard .eql 94 (.tmp 0) (.tmp 0) (.agg #[vI a0,vI a1]) (.agg #[vI b0,vI b1]); binOp .eql 94 (.agg #[vI a0,vI a1]) (.agg #[vI b0,vI b1]):Sem Value).run Tryz.prog p = .ok (.bool (decide (a0 = b0/\a1 = b1))) p:=eqArr2 underlying94 underlying3 rfl rfl rfl a0 a1 b0 b1 _ _ p
def aQ_l1 (_n:Nat) (p0:List (List Int)) (a3:Int) (a4:Int) (q0:Nat × (List (Int × Int)) -> Option (List (Int × Int))):Nat × (List (Int × Int)) -> Option (List (Int × Int))
  | (b0,c0)=>(if b0 < p0.length then (p0[b0]?).bind fun g0=>(idx g0 a3).bind fun j0=>(idx g0 a4).bind fun k0=>jn (fun s0=>q0 (b0 + 1,s0)) (fun d0=>(if j0 = 0/\k0 = 0 then d0 c0 else (app c0 ([(j0,k0)]:List (Int × Int))).bind fun t0=>d0 t0)) else some c0)
def aQ_p (n:Nat) (a0:Tf) (a1:List Int) (a2:Int) (a3:Int) (a4:Int):Option (Except Te (List (Int × Int))):=
  (aV_p n a0 a1 a2).bind fun u0=>exc u0 (fun c0=>jn (fun (_:Unit)=>(aj_p n c0).bind fun C0=>Option.bind (ao (aQ_l1 n C0 a3 a4) n (0,([]:List (Int × Int)))) (fun d0=>(aJ_p n (decide (d0.length = 0)) (7:Int)).bind fun v0=>exc v0 (fun _y429=>some (.ok d0)) (fun j0=>some (.error j0)))) (fun b0=>(if a3 < 0 then (aJ_p n true (2:Int)).bind fun x0=>exc x0 (fun _y442=>b0 ()) (fun k0=>some (.error k0)) else (if c0.fl.fc <= a3 then (aJ_p n true (2:Int)).bind fun y0=>exc y0 (fun _y453=>b0 ()) (fun p0=>some (.error p0)) else (if a4 < 0 then (aJ_p n true (2:Int)).bind fun z0=>exc z0 (fun _y464=>b0 ()) (fun q0=>some (.error q0)) else (if c0.fl.fc <= a4 then (aJ_p n true (2:Int)).bind fun A0=>exc A0 (fun _y475=>b0 ()) (fun s0=>some (.error s0)) else (aJ_p n (decide (a3 = a4)) (2:Int)).bind fun B0=>exc B0 (fun _y485=>b0 ()) (fun t0=>some (.error t0)))))))) (fun g0=>some (.error g0))
theorem aQ_c (n:Nat) {L w} (hL:hl L w) (a0:Tf) {v0_3:Value} (h0_3:Rep.R w L [v0_3] a0.fu) {a1:List Int} {v1_0:Value} (h1_0:Rep.R w L [v1_0] a1) {a2:Int} {a3:Int} {a4:Int}  {r:Except Te (List (Int × Int))} (h:aQ_p n a0 a1 a2 a3 a4 = some r) :
 Cl 46 #[.agg #[vI a0.fh,vI a0.fc,vI a0.fe,v0_3],v1_0,vI a2,vI a3,vI a4] w (aD w (fun (y:List (Int × Int)) w' u=>∃ v0_0:Value,u = v0_0/\Rep.R w' L [v0_0] y) (fun e=>.iface 138 (.agg #[vI e.fy])) r):=by
 unfold aQ_p at h
 refine Bz func46 rfl rfl rfl fun _ cs0 hb0 hp0=>Ae<|RG.bx (Ax w) rfl rfl fun R4 X3 s0 x4=>Ag rfl<|Aa<|Ae<|Ac (AD rfl (s0.memA .hd))<|Af rfl<|Af rfl<|xk h (fun k4 M0 h=>?_) (fun p0 M0 h=>?_)
 refine Bi (fst:=[]) (cap:=[]) .plain (bd 72) rfl (e3 rfl rfl rfl) (fun p q=>aV_c n (s0.hL hL q) a0 (s0.km h0_3 q) (s0.km h1_0 q) M0) fun U4 H2=>?_
 obtain ⟨P1,y4⟩:=s0.agr H2
 cases h
 exact AS hp0 func46 ⟨P1.ag,rfl⟩
 refine jE (bd 72) rfl (e3 rfl rfl rfl) (fun p q=>AP (aV_c n (s0.hL hL q) a0 (s0.km h0_3 q) (s0.km h1_0 q) M0)) rfl fun V4 Q4 I2 ⟨x1,y1,hu_,s1,u1⟩=>?_
 subst hu_
 obtain ⟨Q1,z4⟩:=s0.agr I2
 refine RG.nl [vI 0,vI 0,vI 0,vN,vN,vI 0] Q1 fun W4 X0 U1 G0=>AW [vI p0.fl.fh,vI p0.fl.fc,vI p0.fl.fe,x1,y1,vI p0.fk] U1 .hd (o6 rfl rfl rfl (Bd (Az s1 G0)) (Bd (Az u1 G0)) rfl) fun Z4 b0 z2=>Aa<|Ak<|MX.jo (α:=Unit) (fun ()=>[(3,vI a3),(4,vI a4),(10,vN),(11,vP X0)]) (fun ()=>[.cells X0 [vI p0.fl.fh,vI p0.fl.fc,vI p0.fl.fe,x1,y1,vI p0.fk] 117]) (fun ()=>()) b0 h ?_ ?_
 rintro ⟨⟩ t5 F0 G2 h
 try dsimp only at h
 refine Ak<|Ae<|Ac (AD rfl (F0.memA .hd))<|bk h fun C0 I3 h=>?_
 have q1:=Tt G0 (Tt z2 G2)
 refine jE (bd 73) rfl (e1 rfl) (fun p q=>aj_c n (F0.hL hL q) p0 (Av (Az s1 q1) q) (Av (Az u1 q1) q) I3) rfl fun s5 z1 U2 ⟨M4,hu_,K0⟩=>?_
 subst hu_
 obtain ⟨b1,H4⟩:=F0.agr U2
 have I4:C0.length <= 281474976710656:=AY K0
 refine Ac (Be (xs:=C0) underlying64 rfl K0)<|Af rfl<|Aa<|Au ?_
 have Z0:=b1.nilRow 94 (Rep.size (Int × Int))
 obtain ⟨R1,c1⟩:=AN Z0 (.a0 .done)
 obtain ⟨K4,x3,g3⟩:=av h
 refine MX.lf (α:=Nat × (List (Int × Int)) × Value × (List Value)) (fun ⟨k0,j0,q0,x0⟩=>[(3,vI a3),(4,vI a4),(10,q0),(46,z1),(47,vI ((C0.length:Nat):Int)),(48,vI ((k0:Nat):Int))]) (fun ⟨k0,j0,q0,x0⟩=>[rr w 94 (Int × Int) q0 j0.length x0]) (fun ⟨k0,j0,q0,x0⟩ A1=>Cells A1 (bl [rr w 94 (Int × Int) q0 j0.length x0] ++ L) x0 j0) (fun ⟨k0,j0,q0,x0⟩=>(k0,j0)) (0,([]:List (Int × Int)),vN,[]) x3 R1 (AL (AE (cs:=[]) (xs:=([]:List (Int × Int))) Z0 L (AR _ _)) c1) ?_
 rintro U3 ⟨k0,j0,q0,x0⟩ A1 M1 t0 g1 J0 h
 unfold aQ_l1 at h
 try dsimp only at h
 refine Ae<|Ac (Bm (i:=k0) (j:=C0.length) rfl rfl)<|Aa<|Ak<|AI rfl h (fun C1 h=>?_) (fun C1 h=>?_)
 refine Ap<|Ak<|Au<|Ae<|bk h fun u5 C3 h=>?_
 obtain ⟨M3,b4,X2,p3,j4,y3,t3⟩:=Bl (Az K0 (Tt (St.nilRowT b1 94 (Rep.size (Int × Int))) (Tt c1 g1))) C3
 obtain ⟨P4,rfl,v1⟩:=bv y3
 refine Ac (Bh 1 k0 rfl X2 rfl rfl p3)<|AO rfl (t3 0 _ rfl)<|Ag rfl<|Aa<|Ak<|du 10 fun g0 u0=>Rv 0 g0 rfl u0 (fun _=>Aj rfl)<|Rv 1 g0 rfl u0 (fun _=>Aj rfl)<|bk h fun c0 D3 h=>?_
 obtain ⟨j3,E3⟩:=aI D3
 obtain ⟨P3,c4,Y2,q3,I1,z3,u3⟩:=Bl v1 E3
 have Z2:I1 = [vI c0]:=z3; subst Z2
 refine Rv 2 g0 rfl u0 (fun _=>Bh 1 (a3.toNat) rfl Y2 rfl j3 q3)<|Rx 3 1280 g0 rfl u0 (AZ rfl (u3 0 _ rfl))<|Rv 4 g0 rfl u0 (fun _=>Aj rfl)<|Rv 5 g0 rfl u0 (fun _=>Aj rfl)<|bk h fun d0 F3 h=>?_
 obtain ⟨k3,G3⟩:=aI F3
 obtain ⟨Q3,d4,b3,s3,J1,A3,v3⟩:=Bl v1 G3
 have c3:J1 = [vI d0]:=A3; subst c3
 refine Rv 6 g0 rfl u0 (fun _=>Bh 1 (a4.toNat) rfl b3 rfl k3 s3)<|Rx 7 1280 g0 rfl u0 (AZ rfl (v3 0 _ rfl))<|Rv 8 g0 rfl u0 (fun _=>AX (vs:=[vI c0,vI d0]) (u:=.agg #[vI c0,vI d0]) (e2 rfl rfl) (fun p=>by kernel_rfl))<|RD.nu 9 1023 g0 rfl .plain rfl (AA [vI 0,vI 0] t0) fun X4 Y3 V1 H0=>BB 10 2047 g0 rfl rfl .plain (AB (news:=[vI c0,vI d0]) V1 .hd rfl rfl rfl rfl rfl rfl (aq rfl)) fun Y4 B0 I0=>AH (dk g0)<|Ae<|Ac (AD rfl (B0.memA .hd))<|Ac (AX (vs:=[]) (u:=.agg #[vI 0,vI 0]) ai (fun p=>by kernel_rfl))<|Ac (FV.neqV (xs:=([vI c0,vI d0]).toArray) (ys:=([vI 0,vI 0]).toArray) rfl rfl (by kernel_rfl) (eqlI_94 c0 d0 0 0))<|Aa<|MX.jf (α:=(List (Int × Int)) × Value × (List Value)) (fun ⟨v0,z0,y0⟩=>[(3,vI a3),(4,vI a4),(10,z0),(46,z1),(47,vI ((C0.length:Nat):Int)),(48,vI ((k0:Nat):Int))]) (fun ⟨v0,z0,y0⟩=>[rr w 94 (Int × Int) z0 v0.length y0]) (fun ⟨v0,z0,y0⟩ B1=>Cells B1 (bl [rr w 94 (Int × Int) z0 v0.length y0] ++ L) y0 v0) (fun ⟨v0,z0,y0⟩=>v0) B0 h ?_ ?_
 rintro ⟨v0,z0,y0⟩ B1 W1 y2 V2 h
 try dsimp only at h
 refine Ay<|Ao<|Ac (Bg (i:=k0) (j:=1) rfl rfl (by omega))<|Af rfl<|Aa<|M1 (k0 + 1,v0,z0,y0) W1 (Tt g1 (Tt H0 (Tt I0 y2))) V2 h
 intro V3 Y0 h
 try dsimp only at h
 refine MX.ifn rfl h (fun D1 h=>?_) (fun D1 h=>?_)
 refine Ap ?_
 obtain ⟨X1,j1⟩:=AN B0 .d1
 exact Y0 (j0,q0,x0) X1 j1 (AL J0 (Tt H0 (Tt I0 j1))) h
 refine Ao<|Af rfl<|Ac (AD rfl (B0.memA .hd))<|Al .plain rfl (Ba (α:=Int × Int) (xs:=([(c0,d0)]:List (Int × Int))) (vs:=[.agg #[vI c0,vI d0]]) (ds' :=[vI c0,vI d0]) rfl B0 el92 rfl (e1 rfl) (by kernel_rfl) rfl) fun b5 Z3 D0 k1=>bk h fun K3 H3 h=>RG.doesL .plain rfl (DoesL.app (α:=Int × Int) (ys:=([(c0,d0)]:List (Int × Int))) H3 D0 (fun _ _=>.t2) el92 rfl rfl (AL J0 (Tt H0 (Tt I0 k1))) (Src.row (α:=Int × Int) D0 .hd (AE (cs:=[vI c0,vI d0]) (xs:=(([(c0,d0)]:List (Int × Int)):List (Int × Int))) D0 L (Ar (cs:=[vI c0,vI d0]) (ds:=[]) (gH c0 d0) (AR _ _))))) fun J3 c5 ⟨K1,Y1,A2,W2⟩=>Ag rfl<|Aa ?_
 obtain ⟨Z1,p1⟩:=AN Y1 .d2
 exact Y0 (K3,J3,K1) Z1 (Tt k1 (Tt A2 p1)) (AL W2 p1) h
 refine AT rfl ?_
 have h:=g3 _ h
 try dsimp only at h
 refine Ae<|Af rfl ?_
 have J4:j0.length <= 4294967296:=St.rowLe (α:=Int × Int) t0 .hd
 obtain ⟨R3,g4,d3⟩:=St.rowV (α:=Int × Int) t0 .hd
 refine Ac (FV.lenV underlying92 rfl d3)<|Ac (FV.eqlN (i:=j0.length) (j:=0) rfl rfl)<|xk h (fun p4 P0 h=>?_) (fun v5 P0 h=>?_)
 refine Bi (fst:=[]) (cap:=[]) .plain (bd 91) rfl (e2 rfl rfl) (fun p q=>aJ_c n (t0.hL0 hL q)  P0) fun d5 J2=>?_
 obtain ⟨b2,A4⟩:=t0.agr J2
 cases h
 exact AS hp0 func46 ⟨b2.ag,rfl⟩
 refine Bf (.tuple #[]) (bd 91) rfl (e2 rfl rfl) (fun p q=>AP (aJ_c n (t0.hL0 hL q)  P0)) rfl<|Aa<|Ae<|Af rfl<|Ag rfl<|Aa<|Am rfl ?_
 have E0:=St.delS t0 .hd
 have B4:=St.delT t0 .hd
 have B3:=Rep.at_ (α:=Int × Int) (v:=q0) (xs:=j0) E0 L (Bv (α:=Int × Int) t0 .hd J0 hL)
 refine AU hb0 func46 rfl rfl ?_
 cases h
 exact ⟨E0.ag,fun p q=>ay ⟨q0,rfl,E0.kd B3 q⟩⟩
 intro W3 A0 h
 try dsimp only at h
 refine Ao<|Af rfl<|Ac (FV.lss (i:=a3) (j:=0) rfl rfl)<|Af rfl<|RG.ifd (s:=21) rfl h (fun E1 h=>?_) (fun E1 h=>?_)
 refine AG<|AG<|AG<|AG<|AG<|RG.pt rfl rfl<|Af rfl<|AG<|AG<|RG.pt rfl rfl<|Af rfl<|AG<|AG<|AG<|AG<|AG<|RG.pt rfl rfl<|Af rfl<|AG<|AG<|AG<|RG.pt rfl rfl<|xk h (fun q4 Q0 h=>?_) (fun x5 Q0 h=>?_)
 refine Bi (fst:=[]) (cap:=[]) .plain (bd 91) rfl (e2 rfl rfl) (fun p q=>aJ_c n (b0.hL0 hL q)  Q0) fun g5 K2=>?_
 obtain ⟨c2,C4⟩:=b0.agr K2
 cases h
 exact AS hp0 func46 ⟨c2.ag,rfl⟩
 refine Bf (.tuple #[]) (bd 91) rfl (e2 rfl rfl) (fun p q=>AP (aJ_c n (b0.hL0 hL q)  Q0)) rfl<|Aa ?_
 obtain ⟨g2,B2⟩:=AN b0 (.a0 .done)
 exact A0 () g2 B2 h
 refine AV (Aj rfl)<|RG.fg 0 rfl<|RG.fg 1 rfl<|AV (AZ rfl ((bX (b0.memA .hd) 0) 1 _ rfl))<|AV (FV.geq (i:=a3) (j:=p0.fl.fc) rfl rfl)<|RG.pf rfl rfl<|Af rfl<|RG.ifd (s:=28) rfl h (fun F1 h=>?_) (fun F1 h=>?_)
 refine AG<|AG<|RG.pt rfl rfl<|Af rfl<|AG<|AG<|AG<|AG<|AG<|RG.pt rfl rfl<|Af rfl<|AG<|AG<|AG<|RG.pt rfl rfl<|xk h (fun s4 R0 h=>?_) (fun y5 R0 h=>?_)
 refine Bi (fst:=[]) (cap:=[]) .plain (bd 91) rfl (e2 rfl rfl) (fun p q=>aJ_c n (b0.hL0 hL q)  R0) fun j5 M2=>?_
 obtain ⟨j2,D4⟩:=b0.agr M2
 cases h
 exact AS hp0 func46 ⟨j2.ag,rfl⟩
 refine Bf (.tuple #[]) (bd 91) rfl (e2 rfl rfl) (fun p q=>AP (aJ_c n (b0.hL0 hL q)  R0)) rfl<|Aa ?_
 obtain ⟨k2,C2⟩:=AN b0 (.a0 .done)
 exact A0 () k2 C2 h
 refine AV (Aj rfl)<|AV (FV.lss (i:=a4) (j:=0) rfl rfl)<|RG.pf rfl rfl<|Af rfl<|RG.ifd (s:=32) rfl h (fun G1 h=>?_) (fun G1 h=>?_)
 refine AG<|AG<|AG<|AG<|AG<|RG.pt rfl rfl<|Af rfl<|AG<|AG<|AG<|RG.pt rfl rfl<|xk h (fun t4 U0 h=>?_) (fun z5 U0 h=>?_)
 refine Bi (fst:=[]) (cap:=[]) .plain (bd 91) rfl (e2 rfl rfl) (fun p q=>aJ_c n (b0.hL0 hL q)  U0) fun k5 P2=>?_
 obtain ⟨p2,E4⟩:=b0.agr P2
 cases h
 exact AS hp0 func46 ⟨p2.ag,rfl⟩
 refine Bf (.tuple #[]) (bd 91) rfl (e2 rfl rfl) (fun p q=>AP (aJ_c n (b0.hL0 hL q)  U0)) rfl<|Aa ?_
 obtain ⟨q2,D2⟩:=AN b0 (.a0 .done)
 exact A0 () q2 D2 h
 refine AV (Aj rfl)<|RG.fg 0 rfl<|RG.fg 1 rfl<|AV (AZ rfl ((bX (b0.memA .hd) 0) 1 _ rfl))<|AV (FV.geq (i:=a4) (j:=p0.fl.fc) rfl rfl)<|RG.pf rfl rfl<|Af rfl<|RG.ifd (s:=39) rfl h (fun H1 h=>?_) (fun H1 h=>?_)
 refine AG<|AG<|AG<|RG.pt rfl rfl<|xk h (fun u4 V0 h=>?_) (fun A5 V0 h=>?_)
 refine Bi (fst:=[]) (cap:=[]) .plain (bd 91) rfl (e2 rfl rfl) (fun p q=>aJ_c n (b0.hL0 hL q)  V0) fun p5 Q2=>?_
 obtain ⟨s2,F4⟩:=b0.agr Q2
 cases h
 exact AS hp0 func46 ⟨s2.ag,rfl⟩
 refine Bf (.tuple #[]) (bd 91) rfl (e2 rfl rfl) (fun p q=>AP (aJ_c n (b0.hL0 hL q)  V0)) rfl<|Aa ?_
 obtain ⟨u2,E2⟩:=AN b0 (.a0 .done)
 exact A0 () u2 E2 h
 refine AV (Aj rfl)<|AV (Aj rfl)<|AV (FV.eql (i:=a3) (j:=a4) rfl rfl)<|RG.pf rfl rfl<|xk h (fun v4 W0 h=>?_) (fun B5 W0 h=>?_)
 refine Bi (fst:=[]) (cap:=[]) .plain (bd 91) rfl (e2 rfl rfl) (fun p q=>aJ_c n (b0.hL0 hL q)  W0) fun q5 R2=>?_
 obtain ⟨v2,G4⟩:=b0.agr R2
 cases h
 exact AS hp0 func46 ⟨v2.ag,rfl⟩
 refine Bf (.tuple #[]) (bd 91) rfl (e2 rfl rfl) (fun p q=>AP (aJ_c n (b0.hL0 hL q)  W0)) rfl<|Aa ?_
 obtain ⟨x2,F2⟩:=AN b0 (.a0 .done)
 exact A0 () x2 F2 h
def bg_p (_n:Nat) (a0:Int × Int):Option Int:=
  (chk (a0.1 + a0.2)).bind fun b0=>some b0
theorem bg_c (n:Nat) {L w} (_hL:hl L w) (a0:Int × Int)  {r:Int} (h:bg_p n a0 = some r) :
 Cl 47 #[.agg #[vI a0.1,vI a0.2]] w (ak w fun _ u=>u = vI r):=by
 unfold bg_p at h
 refine AC func47 rfl rfl rfl fun _ cs0 hb0=>Ae<|RG.bx (Ax w) rfl rfl fun k0 d0 b0 g0=>Ag rfl<|Aa<|Ae<|Ac (AM (m:=1) (k:=0) (len:=2) rfl rfl rfl rfl (by omega))<|AO rfl ((b0.memA .hd) 0 _ rfl)<|Ac (AM (m:=1) (k:=1) (len:=2) rfl rfl rfl rfl (by omega))<|AO rfl ((b0.memA .hd) 1 _ rfl)<|bk h fun j0 c0 h=>Ac (Bs (i:=a0.1) (j:=a0.2) rfl rfl c0)<|Ag rfl<|Aa<|Am rfl<|AU hb0 func47 rfl rfl ?_
 cases h
 exact b0.gv
structure Tg where
  fj:Bool
  fo:List UInt64
  deriving DecidableEq
instance:Rep Tg:=Rep.via (β:=Bool × (List UInt64)) fun x=>(x.fj,x.fo)
def al_l1 (_n:Nat) (a1:List UInt64) (c0:Int -> Option Int):Int -> Option Int
  | b0=>(if 0 < b0 then (chk (b0 - 1)).bind fun d0=>(idx a1 d0).bind fun j0=>(if j0 = (0:UInt64) then (chk (b0 - 1)).bind fun g0=>c0 g0 else some b0) else some b0)
def al_p (n:Nat) (a0:Bool) (a1:List UInt64):Option Tg:=
  jn (fun b0=>(if a0 = true then (cut a1 0 b0).bind fun d0=>some (⟨(decide (0 < b0)),d0⟩:Tg) else (cut a1 0 b0).bind fun g0=>some (⟨false,g0⟩:Tg))) (fun c0=>Option.bind (ao (al_l1 n a1) n ((a1.length:Nat):Int)) (c0))
theorem al_c (n:Nat) {L w} (_hL:hl L w) {a0:Bool} {a1:List UInt64} {v1_0:Value} (h1_0:Rep.R w L [v1_0] a1)  {r:Tg} (h:al_p n a0 a1 = some r) :
 Cl 150 #[.bool a0,v1_0] w (ak w fun w' u=>∃ v0_1:Value,u = .agg #[.bool r.fj,v0_1]/\Rep.R w' L [v0_1] r.fo):=by
 unfold al_p at h
 refine AC func150 rfl rfl rfl fun _ cs0 hb0=>Ae<|RG.nl [.bool false,vN] (Ax w) fun C1 j0 q0 z1=>Aa<|Ae<|Af rfl ?_
 have A0:=AQ h1_0 q0
 have A1:a1.length <= 281474976710656:=AY A0
 refine Ac (Be (xs:=a1) underlying127 rfl A0)<|Ag rfl<|Aa<|Ak<|Au<|MX.xo (α:=Int) 0 (fun b0=>[(0,.bool a0),(1,v1_0),(4,vP j0),(5,vI b0)]) (fun b0=>[.cells j0 [.bool false,vN] 129]) (fun b0=>b0) q0 rfl h ?_ ?_
 rintro b0 F1 k0 y1 h
 try dsimp only at h
 refine Ae<|Af rfl<|Af rfl<|RG.ifb (s:=21) rfl h (fun C0 h=>?_) (fun C0 h=>?_)
 refine AV (Aj rfl)<|AV (FV.gtr (i:=b0) (j:=0) rfl rfl)<|RG.pt rfl rfl<|Af rfl<|Af rfl<|bk h fun H1 c1 h=>RG.valE .plain rfl (FV.cutL (α:=UInt64) c1 rfl rfl (AQ h1_0 k0) rfl ⟨_,rfl⟩) fun d0 v0=>?_
 obtain ⟨k1,u1,X0,_⟩:=Rep.sl v0
 refine Ac (AX (vs:=[.bool (decide (0 < b0)),d0]) (u:=.agg #[.bool (decide (0 < b0)),d0]) (e2 rfl rfl) (fun p=>by rw [X0]; try kernel_rfl))<|AW [.bool (decide (0 < b0)),d0] k0 .hd (o2 rfl (Bd v0)) fun D1 s0 H0=>Aa<|Am rfl<|Aq hb0 func150 rfl (.cons (.many (cs:=[.bool (decide (0 < b0)),d0]) rfl rfl (s0.memA .hd)) .nil) rfl ?_
 cases h
 exact ⟨s0.ag,fun p q=>⟨d0,rfl,s0.kd (Az v0 H0) q⟩⟩
 refine AG<|AG<|RG.pf rfl rfl<|Af rfl<|Af rfl<|bk h fun I1 d1 h=>RG.valE .plain rfl (FV.cutL (α:=UInt64) d1 rfl rfl (AQ h1_0 k0) rfl ⟨_,rfl⟩) fun g0 x0=>?_
 obtain ⟨p1,v1,Y0,_⟩:=Rep.sl x0
 refine Ac (AX (vs:=[.bool false,g0]) (u:=.agg #[.bool false,g0]) (e2 rfl rfl) (fun p=>by rw [Y0]; try kernel_rfl))<|AW [.bool false,g0] k0 .hd (o2 rfl (Bd x0)) fun E1 t0 I0=>Aa<|Am rfl<|Aq hb0 func150 rfl (.cons (.many (cs:=[.bool false,g0]) rfl rfl (t0.memA .hd)) .nil) rfl ?_
 cases h
 exact ⟨t0.ag,fun p q=>⟨g0,rfl,t0.kd (Az x0 I0) q⟩⟩
 intro s1 y0 h
 try dsimp only at h
 obtain ⟨B1,R0,z0⟩:=av h
 refine MX.lo (α:=Int) (fun c0=>[(0,.bool a0),(1,v1_0),(4,vP j0),(5,vI c0)]) (fun c0=>[.cells j0 [.bool false,vN] 129]) (fun c0=>c0) ((a1.length:Nat):Int) R0 q0 ?_
 rintro t1 c0 G1 G0 p0 u0 h
 unfold al_l1 at h
 try dsimp only at h
 refine Ak<|Ae<|Af rfl<|Ac (FV.gtr (i:=c0) (j:=0) rfl rfl)<|Af rfl<|RG.ifd (s:=10) rfl h (fun D0 h=>?_) (fun D0 h=>?_)
 refine AV (Aj rfl)<|AV (Aj rfl)<|bk h fun g1 V0 h=>AV (FV.subc (i:=c0) (j:=1) rfl rfl V0)<|bk h fun B0 Z0 h=>?_
 obtain ⟨M0,b1⟩:=aI Z0
 obtain ⟨q1,x1,J0,P0,F0,U0,Q0⟩:=Bl (AQ h1_0 p0) b1
 have K0:F0 = [vU B0]:=U0; subst K0
 refine AV (Bh 1 (g1.toNat) rfl J0 rfl M0 P0)<|AV (AZ rfl (Q0 0 _ rfl))<|AV (FV.eqlU (a:=B0) (b:=(0:UInt64)) rfl rfl)<|RG.pt rfl rfl<|Aa<|AI rfl h (fun E0 h=>?_) (fun E0 h=>?_)
 refine Ap<|Au<|Ao<|Af rfl<|bk h fun j1 W0 h=>Ac (FV.subc (i:=c0) (j:=1) rfl rfl W0)<|Ag rfl<|Aa<|Ay<|G0 j1 p0 u0 h
 refine AT rfl ?_
 have h:=z0 _ h
 try dsimp only at h
 exact y0 c0 p0 u0 h
 refine AG<|AG<|AG<|AG<|AG<|AG<|RG.pf rfl rfl<|Aa<|Bp rfl<|AT rfl ?_
 have h:=z0 _ h
 try dsimp only at h
 exact y0 c0 p0 u0 h
def a9_l1 (_n:Nat) (a0:List UInt64) (a1:List UInt64) (g0:Int -> Option (Int ⊕ Unit)):Int -> Option (Int ⊕ Unit)
  | b0=>(if 0 <= b0 then (idx a0 b0).bind fun c0=>(idx a1 b0).bind fun d0=>(if c0 < d0 then some (.inl (-1:Int)) else (if d0 < c0 then some (.inl (1:Int)) else (chk (b0 - 1)).bind fun j0=>g0 j0)) else some (.inr ()))
def a9_p (n:Nat) (a0:List UInt64) (a1:List UInt64):Option Int:=
  (if a0.length = a1.length then thn (ao (a9_l1 n a0 a1) n (((a0.length:Nat):Int) - 1)) (fun _=>some (0:Int)) else some (((a0.length:Nat):Int) - ((a1.length:Nat):Int)))
theorem a9_c (n:Nat) {L w} (_hL:hl L w) {a0:List UInt64} {v0_0:Value} (h0_0:Rep.R w L [v0_0] a0) {a1:List UInt64} {v1_0:Value} (h1_0:Rep.R w L [v1_0] a1)  {r:Int} (h:a9_p n a0 a1 = some r) :
 Cl 191 #[v0_0,v1_0] w (ak w fun _ u=>u = vI r):=by
 unfold a9_p at h
 have hS0:=Ax w
 refine AC func191 rfl rfl rfl fun _ cs0 hb0=>Ae<|Ag rfl<|Aa<|Ak<|Ae<|Af rfl ?_
 have hl1:a0.length <= 281474976710656:=AY h0_0
 refine Ac (Be (xs:=a0) underlying127 rfl h0_0)<|Af rfl ?_
 have hl2:a1.length <= 281474976710656:=AY h1_0
 refine Ac (Be (xs:=a1) underlying127 rfl h1_0)<|Ac (FV.neqN (i:=a0.length) (j:=a1.length) rfl rfl)<|Aa<|MX.ifn rfl h (fun c3 h=>?_) (fun c3 h=>?_)
 refine Ap<|Ak<|Ae<|Af rfl<|Ac (Be (xs:=a0) underlying127 rfl h0_0)<|Ac (FV.subI (i:=((a0.length:Nat):Int)) (j:=1) rfl rfl (by omega))<|Ag rfl<|Aa<|Au<|tn h fun j1 M0 p0=>MX.lo (α:=Int) (fun d0=>[(0,v0_0),(1,v1_0),(5,vI d0)]) (fun d0=>[]) (fun d0=>d0) (((a0.length:Nat):Int) - 1) M0 hS0 ?_
 rintro c1 d0 k1 H0 k0 I0 h
 unfold a9_l1 at h
 try dsimp only at h
 refine Ak<|Ae<|Af rfl<|Ac (FV.geq (i:=d0) (j:=0) rfl rfl)<|Aa<|AI rfl h (fun C0 h=>?_) (fun C0 h=>?_)
 refine Ap<|Ak<|Au<|Au<|Ak<|du 10 fun b0 g0=>Rv 0 b0 rfl g0 (fun _=>Aj rfl)<|Rv 1 b0 rfl g0 (fun _=>Aj rfl)<|bk h fun q0 U0 h=>?_
 obtain ⟨v0,V0⟩:=aI U0
 obtain ⟨Z0,d1,t0,y0,F0,P0,A0⟩:=Bl (AQ h0_0 k0) V0
 have J0:F0 = [vU q0]:=P0; subst J0
 refine Rv 2 b0 rfl g0 (fun _=>Bh 1 (d0.toNat) rfl t0 rfl v0 y0)<|Rx 3 768 b0 rfl g0 (AZ rfl (A0 0 _ rfl))<|Rv 4 b0 rfl g0 (fun _=>Aj rfl)<|Rv 5 b0 rfl g0 (fun _=>Aj rfl)<|bk h fun s0 W0 h=>?_
 obtain ⟨x0,X0⟩:=aI W0
 obtain ⟨b1,g1,u0,z0,G0,Q0,B0⟩:=Bl (AQ h1_0 k0) X0
 have K0:G0 = [vU s0]:=Q0; subst K0
 refine Rv 6 b0 rfl g0 (fun _=>Bh 1 (d0.toNat) rfl u0 rfl x0 z0)<|Rx 7 768 b0 rfl g0 (AZ rfl (B0 0 _ rfl))<|Rv 8 b0 rfl g0 (fun _=>FV.lssU (a:=q0) (b:=s0) rfl rfl)<|Rv 9 b0 rfl g0 (fun _=>Bc rfl)<|AH (dk b0)<|AI rfl h (fun D0 h=>?_) (fun D0 h=>?_)
 refine Ae<|Ag rfl<|Aa ?_
 have h:=ax h p0
 refine Am rfl<|AU hb0 func191 rfl rfl ?_
 cases h
 exact k0.gv
 refine Ak<|du 10 fun c0 j0=>Rv 0 c0 rfl j0 (fun _=>Aj rfl)<|Rv 1 c0 rfl j0 (fun _=>Aj rfl)<|Rv 2 c0 rfl j0 (fun _=>Bh 1 (d0.toNat) rfl t0 rfl v0 y0)<|Rx 3 768 c0 rfl j0 (AZ rfl (A0 0 _ rfl))<|Rv 4 c0 rfl j0 (fun _=>Aj rfl)<|Rv 5 c0 rfl j0 (fun _=>Aj rfl)<|Rv 6 c0 rfl j0 (fun _=>Bh 1 (d0.toNat) rfl u0 rfl x0 z0)<|Rx 7 768 c0 rfl j0 (AZ rfl (B0 0 _ rfl))<|Rv 8 c0 rfl j0 (fun _=>FV.gtrU (a:=q0) (b:=s0) rfl rfl)<|Rv 9 c0 rfl j0 (fun _=>Bc rfl)<|AH (dk c0)<|AI rfl h (fun E0 h=>?_) (fun E0 h=>?_)
 refine Ae<|Ag rfl<|Aa ?_
 have h:=ax h p0
 refine Am rfl<|AU hb0 func191 rfl rfl ?_
 cases h
 exact k0.gv
 refine Ap<|Ay<|Ay<|Ao<|Af rfl<|bk h fun Y0 R0 h=>Ac (FV.subc (i:=d0) (j:=1) rfl rfl R0)<|Ag rfl<|Aa<|H0 Y0 k0 I0 h
 refine AT rfl ?_
 have h:=aF h p0
 try dsimp only at h
 refine Ae<|Ag rfl<|Aa<|Am rfl<|AU hb0 func191 rfl rfl ?_
 cases h
 exact k0.gv
 refine Ae<|Af rfl<|Ac (Be (xs:=a0) underlying127 rfl h0_0)<|Af rfl<|Ac (Be (xs:=a1) underlying127 rfl h1_0)<|Ac (FV.subI (i:=((a0.length:Nat):Int)) (j:=((a1.length:Nat):Int)) rfl rfl (by omega))<|Ag rfl<|Aa<|Am rfl<|AU hb0 func191 rfl rfl ?_
 cases h
 exact hS0.gv
theorem ck:ElT Tryz.prog 127 44 (Rep.size UInt64) 8 (vW 0) [vW 0]:=⟨underlying127,by kernel_rfl,rfl,rfl,rfl,rfl⟩
def bj_l1 (_n:Nat) (a0:List UInt64) (a1:List UInt64) (j0:UInt64 × Nat × (List UInt64) -> Option (List UInt64)):UInt64 × Nat × (List UInt64) -> Option (List UInt64)
  | (k0,b0,c0)=>(if b0 < a0.length then (a0[b0]?).bind fun q0=>jn (fun p0=>(sub64 q0 p0 k0).bind fun g0=>(c0[b0]?).bind fun _x193=>(put c0 ((b0:Nat):Int) g0.1).bind fun t0=>j0 (g0.2,b0 + 1,t0)) (fun d0=>(if b0 < a1.length then (a1[b0]?).bind fun s0=>d0 s0 else d0 (0:UInt64))) else some c0)
def bj_p (n:Nat) (a0:List UInt64) (a1:List UInt64):Option (List UInt64):=
  (mk ((a0.length:Nat):Int) (0:UInt64)).bind fun b0=>Option.bind (ao (bj_l1 n a0 a1) n (0,0,b0)) (fun c0=>some c0)
theorem bj_c (n:Nat) {L w} (hL:hl L w) {a0:List UInt64} {v0_0:Value} (h0_0:Rep.R w L [v0_0] a0) {a1:List UInt64} {v1_0:Value} (h1_0:Rep.R w L [v1_0] a1)  {r:List UInt64} (h:bj_p n a0 a1 = some r) :
 Cl 192 #[v0_0,v1_0] w (ak w fun w' u=>∃ v0_0:Value,u = v0_0/\Rep.R w' L [v0_0] r):=by
 unfold bj_p at h
 refine AC func192 rfl rfl rfl fun _ cs0 hb0=>Ae<|Ag rfl<|Aa<|Ae<|Af rfl ?_
 have hl1:a0.length <= 281474976710656:=AY h0_0
 refine Ac (Be (xs:=a0) underlying127 rfl h0_0)<|bk h fun H0 E0 h=>Al .plain rfl (Does.mk (α:=UInt64) E0 (Ax w) ck rfl) fun c2 k0 q0 W1=>Ag rfl<|Aa<|Ae<|Ag rfl<|Aa<|Ak<|Ae<|Af rfl<|Ac (Be (xs:=a0) underlying127 rfl (AQ h0_0 q0))<|Af rfl<|Aa<|Au ?_
 obtain ⟨b2,v1,k1⟩:=av h
 refine MX.lf (α:=UInt64 × Nat × (List UInt64) × (List Value)) (fun ⟨j0,b0,c0,d0⟩=>[(1,v1_0),(5,(.slice (some ⟨k0,0,none⟩) ((a0.length:Nat):Int).toNat ((a0.length:Nat):Int).toNat)),(6,vU j0),(13,v0_0),(14,vI ((a0.length:Nat):Int)),(15,vI ((b0:Nat):Int))]) (fun ⟨j0,b0,c0,d0⟩=>[rr w 44 UInt64 (.slice (some ⟨k0,0,none⟩) ((a0.length:Nat):Int).toNat ((a0.length:Nat):Int).toNat) c0.length d0]) (fun ⟨j0,b0,c0,d0⟩ F0=>Cells F0 (bl [rr w 44 UInt64 (.slice (some ⟨k0,0,none⟩) ((a0.length:Nat):Int).toNat ((a0.length:Nat):Int).toNat) c0.length d0] ++ L) d0 c0) (fun ⟨j0,b0,c0,d0⟩=>(j0,b0,c0)) (0,0,H0,(List.replicate ((a0.length:Nat):Int).toNat [vW 0]).flatten) v1 q0 (AE (cs:=(List.replicate ((a0.length:Nat):Int).toNat [vW 0]).flatten) (xs:=H0) q0 L (Cells.mk E0 rfl)) ?_
 rintro M1 ⟨j0,b0,c0,d0⟩ F0 V0 g0 X0 A0 h
 unfold bj_l1 at h
 try dsimp only at h
 refine Ae<|Ac (Bm (i:=b0) (j:=a0.length) rfl rfl)<|Aa<|Ak<|AI rfl h (fun K0 h=>?_) (fun K0 h=>?_)
 refine Ap<|Ak<|Au<|Ae<|Af rfl<|bk h fun x0 B1 h=>?_
 obtain ⟨J1,Q1,b1,p1,P0,x1,s1⟩:=Bl (AQ h0_0 g0) B1
 have c1:P0 = [vU x0]:=x1; subst c1
 refine Ac (Bh 1 b0 rfl b1 rfl rfl p1)<|AO rfl (s1 0 _ rfl)<|Ag rfl<|Ag rfl<|Aa<|Ae<|Ag rfl<|Aa<|Ak<|Ae<|Af rfl<|Af rfl ?_
 have v0:=AQ h1_0 g0
 have Y1:a1.length <= 281474976710656:=AY v0
 refine Ac (Be (xs:=a1) underlying127 rfl v0)<|Ac (Bm (i:=b0) (j:=a1.length) rfl rfl)<|Aa<|MX.jo (α:=UInt64) (fun p0=>[(1,v1_0),(5,(.slice (some ⟨k0,0,none⟩) ((a0.length:Nat):Int).toNat ((a0.length:Nat):Int).toNat)),(6,vU j0),(13,v0_0),(14,vI ((a0.length:Nat):Int)),(15,vI ((b0:Nat):Int)),(7,vI ((b0:Nat):Int)),(8,vU x0),(9,vU p0)]) (fun p0=>[rr w 44 UInt64 (.slice (some ⟨k0,0,none⟩) ((a0.length:Nat):Int).toNat ((a0.length:Nat):Int).toNat) c0.length d0]) (fun p0=>p0) g0 h ?_ ?_
 rintro p0 g2 s0 z0 h
 try dsimp only at h
 refine Ao<|Af rfl<|Af rfl<|Af rfl<|Af rfl<|Af rfl<|bk h fun I1 F1 h=>Ac (FV.sub64 (a:=x0) (b:=p0) (c:=j0) func217 rfl rfl rfl rfl rfl rfl rfl F1)<|Af rfl<|Ac (Ai rfl rfl)<|Ac (Ai rfl rfl)<|bk h fun G1 C1 h=>?_
 have D0:=AL A0 z0
 obtain ⟨I0,R1,u0,C0,Q0,y1,Z1⟩:=St.nth (α:=UInt64) s0 .hd D0 C1
 obtain ⟨J0,U1,B0⟩:=Bu (α:=UInt64) s0 .hd C0
 obtain rfl:I0 = ⟨J0,0,none⟩:=by rw [B0] at u0; cases u0; rfl
 have d1:Q0 = [vU G1]:=y1; subst d1
 refine Ac (Bh 1 b0 rfl u0 rfl rfl C0)<|bk h fun H1 E1 h=>RG.acts' .plain (Acts.set (α:=UInt64) (i:=b0) E1 s0 B0 (fun _=>.hd) D0 rfl rfl rfl rfl rfl rfl) fun d2 ⟨R0,W0,Y0,Z0⟩=>Ag rfl<|Aa<|Ay<|Ao<|Ac (Bg (i:=b0) (j:=1) rfl rfl (by omega))<|Af rfl<|Aa<|V0 (I1.2,b0 + 1,H1,R0) W0 (Tt X0 (Tt z0 Y0)) Z0 h
 intro P1 y0 h
 try dsimp only at h
 refine AI rfl h (fun M0 h=>?_) (fun M0 h=>?_)
 refine Ao<|Af rfl<|Af rfl<|bk h fun G0 D1 h=>?_
 obtain ⟨K1,V1,g1,q1,U0,z1,u1⟩:=Bl v0 D1
 have j1:U0 = [vU G0]:=z1; subst j1
 refine Ac (Bh 1 b0 rfl g1 rfl rfl q1)<|AO rfl (u1 0 _ rfl)<|Ag rfl<|Aa<|y0 G0 g0 (Tr.refl _ _) h
 refine Ap<|y0 (0:UInt64) g0 (Tr.refl _ _) h
 refine AT rfl ?_
 have h:=k1 _ h
 try dsimp only at h
 refine Ae<|Af rfl<|Ag rfl<|Aa<|Am rfl ?_
 have t0:=St.delS g0 .hd
 have X1:=St.delT g0 .hd
 have A1:=Rep.at_ (α:=UInt64) (v:=(.slice (some ⟨k0,0,none⟩) ((a0.length:Nat):Int).toNat ((a0.length:Nat):Int).toNat)) (xs:=c0) t0 L (Bv (α:=UInt64) g0 .hd A0 hL)
 refine AU hb0 func192 rfl rfl ?_
 cases h
 exact ⟨t0.ag,fun p q=>⟨(.slice (some ⟨k0,0,none⟩) ((a0.length:Nat):Int).toNat ((a0.length:Nat):Int).toNat),rfl,t0.kd A1 q⟩⟩
def ct:List UInt8:=[0,1,2,2,3,3,3,3,4,4,4,4,4,4,4,4,5,5,5,5,5,5,5,5,5,5,5,5,5,5,5,5,6,6,6,6,6,6,6,6,6,6,6,6,6,6,6,6,6,6,6,6,6,6,6,6,6,6,6,6,6,6,6,6,7,7,7,7,7,7,7,7,7,7,7,7,7,7,7,7,7,7,7,7,7,7,7,7,7,7,7,7,7,7,7,7,7,7,7,7,7,7,7,7,7,7,7,7,7,7,7,7,7,7,7,7,7,7,7,7,7,7,7,7,7,7,7,7,8,8,8,8,8,8,8,8,8,8,8,8,8,8,8,8,8,8,8,8,8,8,8,8,8,8,8,8,8,8,8,8,8,8,8,8,8,8,8,8,8,8,8,8,8,8,8,8,8,8,8,8,8,8,8,8,8,8,8,8,8,8,8,8,8,8,8,8,8,8,8,8,8,8,8,8,8,8,8,8,8,8,8,8,8,8,8,8,8,8,8,8,8,8,8,8,8,8,8,8,8,8,8,8,8,8,8,8,8,8,8,8,8,8,8,8,8,8,8,8,8,8,8,8,8,8,8,8]
def bw_p (_n:Nat) (a0:UInt64):Option Int:=
  jn (fun (u2,i3)=>jn (fun (b0,g0)=>jn (fun (q0,s0)=>(ct[(dH q0).toNat]?).bind fun t0=>(chk (s0 + ((t0.toNat:Nat):Int))).bind fun j0=>some j0) (fun d0=>(if (256:UInt64) <= b0 then (chk (g0 + 8)).bind fun k0=>d0 (shrU b0 8,k0) else d0 (b0,g0)))) (fun c0=>(if (65536:UInt64) <= u2 then (chk (((i3:Nat):Int) + 16)).bind fun p0=>c0 (shrU u2 16,p0) else c0 (u2,((i3:Nat):Int))))) (fun J7=>(if (4294967296:UInt64) <= a0 then J7 (shrU a0 32,32) else J7 (a0,0)))
theorem bw_c (n:Nat) {L w} (_hL:hl L w) (a0:UInt64)  {r:Int} (h:bw_p n a0 = some r) :
 Cl 168 #[vU a0] w (ak w fun _ u=>u = vI r):=by
 unfold bw_p at h
 have hS0:=Ax w
 refine AC func168 rfl rfl rfl fun _ cs0 hb0=>Ae<|Ag rfl<|Aa<|Ak<|Ae<|Af rfl<|Ac (FV.geqU (a:=a0) (b:=(4294967296:UInt64)) rfl rfl)<|Aa<|MX.jo (α:=UInt64 × Nat) (fun ⟨u2,i3⟩=>[(0,vU u2),(2,vI ((i3:Nat):Int))]) (fun ⟨u2,i3⟩=>[]) (fun ⟨u2,i3⟩=>(u2,i3)) hS0 h ?_ ?_
 rintro ⟨u2,i3⟩ wx3 hS4 hT5 h
 try dsimp only at h
 refine Ak<|Ae<|Af rfl<|Ac (FV.geqU (a:=u2) (b:=(65536:UInt64)) rfl rfl)<|Aa<|MX.jo (α:=UInt64 × Int) (fun ⟨b0,d0⟩=>[(0,vU b0),(2,vI d0)]) (fun ⟨b0,d0⟩=>[]) (fun ⟨b0,d0⟩=>(b0,d0)) hS4 h ?_ ?_
 rintro ⟨b0,d0⟩ J0 j0 F0 h
 try dsimp only at h
 refine Ak<|Ae<|Af rfl<|Ac (FV.geqU (a:=b0) (b:=(256:UInt64)) rfl rfl)<|Aa<|MX.jo (α:=UInt64 × Int) (fun ⟨c0,g0⟩=>[(0,vU c0),(2,vI g0)]) (fun ⟨c0,g0⟩=>[]) (fun ⟨c0,g0⟩=>(c0,g0)) j0 h ?_ ?_
 rintro ⟨c0,g0⟩ K0 v0 G0 h
 try dsimp only at h
 refine Ae<|Af rfl<|Af rfl<|Ac (FV.conv8 (a:=c0) underlying44 underlying5 rfl)<|bk h fun k0 A0 h=>Ac (FV.strIdx (k:=(dH c0).toNat) (tab:=ct) underlying9 rfl rfl rfl rfl A0) ?_
 have H0:=k0.toNat_lt
 refine Ac (FV.convN (i:=k0.toNat) underlying5 underlying3 rfl (by omega))<|bk h fun I0 x0 h=>Ac (Bs (i:=g0) (j:=((k0.toNat:Nat):Int)) rfl rfl x0)<|Ag rfl<|Aa<|Am rfl<|AU hb0 func168 rfl rfl ?_
 cases h
 exact v0.gv
 intro E0 q0 h
 try dsimp only at h
 refine AI rfl h (fun s0 h=>?_) (fun s0 h=>?_)
 refine Ae<|Af rfl<|Ac (FV.shrU (a:=b0) (j:=8) rfl rfl)<|Ag rfl<|Aa<|Ao<|Af rfl<|bk h fun B0 y0 h=>Ac (Bs (i:=d0) (j:=8) rfl rfl y0)<|Ag rfl<|Aa<|q0 (shrU b0 8,B0) j0 (Tr.refl _ _) h
 refine Ap<|q0 (b0,d0) j0 (Tr.refl _ _) h
 intro D0 p0 h
 try dsimp only at h
 refine AI rfl h (fun t0 h=>?_) (fun t0 h=>?_)
 refine Ae<|Af rfl<|Ac (FV.shrU (a:=u2) (j:=16) rfl rfl)<|Ag rfl<|Aa<|Ao<|Af rfl<|bk h fun C0 z0 h=>Ac (Bs (i:=((i3:Nat):Int)) (j:=16) rfl rfl z0)<|Ag rfl<|Aa<|p0 (shrU u2 16,C0) hS4 (Tr.refl _ _) h
 refine Ap<|p0 (u2,((i3:Nat):Int)) hS4 (Tr.refl _ _) h
 intro J7 hJ8 h
 try dsimp only at h
 refine AI rfl h (fun u0 h=>?_) (fun u0 h=>?_)
 refine Ae<|Af rfl<|Ac (FV.shrU (a:=a0) (j:=32) rfl rfl)<|Ag rfl<|Aa<|Ao<|Ag rfl<|Aa<|hJ8 (shrU a0 32,32) hS0 (Tr.refl _ _) h
 refine Ap<|hJ8 (a0,0) hS0 (Tr.refl _ _) h
def aI_p (n:Nat) (a0:UInt64):Option Int:=
  (bw_p n a0).bind fun y1=>(chk (64 - y1)).bind fun s2=>some s2
theorem aI_c (n:Nat) {L w} (hL:hl L w) (a0:UInt64)  {r:Int} (h:aI_p n a0 = some r) :
 Cl 238 #[vU a0] w (ak w fun _ u=>u = vI r):=by
 unfold aI_p at h
 have hS0:=Ax w
 refine AC func238 rfl rfl rfl fun _ cs0 hb0=>Ae<|Ag rfl<|Aa<|Ae<|Af rfl<|bk h fun y1 hy1 h=>Bf (vI y1) (bd 168) rfl (e1 rfl) (fun p q=>bw_c n (hS0.hL0 hL q) a0 hy1) rfl<|bk h fun s2 hs2 h=>Ac (FV.subc (i:=64) (j:=y1) rfl rfl hs2)<|Ag rfl<|Aa<|Am rfl<|AU hb0 func238 rfl rfl ?_
 cases h
 exact hS0.gv
def au_l1 (_n:Nat) (a2:UInt64) (y8:Int) (a1:UInt64) (d0:UInt64 × UInt64 -> Option UInt64):UInt64 × UInt64 -> Option UInt64
  | (b0,c0)=>(if (4294967296:UInt64) <= b0 then (if (4294967296:UInt64) <= (c0 + (shrU (shlU a2 (ae y8).toNat) 32)) then some (b0 - (1:UInt64)) else d0 (b0 - (1:UInt64),c0 + (shrU (shlU a2 (ae y8).toNat) 32))) else (if (((4294967296:UInt64) * c0) + ((shlU a1 (ae y8).toNat) &&& (4294967295:UInt64))) < (b0 * ((shlU a2 (ae y8).toNat) &&& (4294967295:UInt64))) then (if (4294967296:UInt64) <= (c0 + (shrU (shlU a2 (ae y8).toNat) 32)) then some (b0 - (1:UInt64)) else d0 (b0 - (1:UInt64),c0 + (shrU (shlU a2 (ae y8).toNat) 32))) else some b0))
def au_l2 (_n:Nat) (a2:UInt64) (y8:Int) (a1:UInt64) (d0:UInt64 × UInt64 -> Option UInt64):UInt64 × UInt64 -> Option UInt64
  | (b0,c0)=>(if (4294967296:UInt64) <= b0 then (if (4294967296:UInt64) <= (c0 + (shrU (shlU a2 (ae y8).toNat) 32)) then some (b0 - (1:UInt64)) else d0 (b0 - (1:UInt64),c0 + (shrU (shlU a2 (ae y8).toNat) 32))) else (if (((4294967296:UInt64) * c0) + (shrU (shlU a1 (ae y8).toNat) 32)) < (b0 * ((shlU a2 (ae y8).toNat) &&& (4294967295:UInt64))) then (if (4294967296:UInt64) <= (c0 + (shrU (shlU a2 (ae y8).toNat) 32)) then some (b0 - (1:UInt64)) else d0 (b0 - (1:UInt64),c0 + (shrU (shlU a2 (ae y8).toNat) 32))) else some b0))
def au_p (n:Nat) (a0:UInt64) (a1:UInt64) (a2:UInt64):Option (UInt64 × UInt64):=
  (if a2 = (0:UInt64) then none else (if a2 <= a0 then none else (if a0 = (0:UInt64) then (gR a1 a2).bind fun s6=>(jW a1 a2).bind fun s7=>some (s6,s7) else (aI_p n a2).bind fun y8=>(gR ((shlU a0 (ae y8).toNat) ||| (shrU a1 ((64:UInt64) - (ae y8)).toNat)) (shrU (shlU a2 (ae y8).toNat) 32)).bind fun s9=>(some (((shlU a0 (ae y8).toNat) ||| (shrU a1 ((64:UInt64) - (ae y8)).toNat)) - (s9 * (shrU (shlU a2 (ae y8).toNat) 32)))).bind fun p0=>jn (fun b0=>(some (((shlU a0 (ae y8).toNat) ||| (shrU a1 ((64:UInt64) - (ae y8)).toNat)) * (4294967296:UInt64))).bind fun c0=>(gR ((c0 + (shrU (shlU a1 (ae y8).toNat) 32)) - (b0 * (shlU a2 (ae y8).toNat))) (shrU (shlU a2 (ae y8).toNat) 32)).bind fun d0=>(some (((c0 + (shrU (shlU a1 (ae y8).toNat) 32)) - (b0 * (shlU a2 (ae y8).toNat))) - (d0 * (shrU (shlU a2 (ae y8).toNat) 32)))).bind fun q0=>jn (fun g0=>(some (((c0 + (shrU (shlU a1 (ae y8).toNat) 32)) - (b0 * (shlU a2 (ae y8).toNat))) * (4294967296:UInt64))).bind fun s0=>(some ((s0 + ((shlU a1 (ae y8).toNat) &&& (4294967295:UInt64))) - (g0 * (shlU a2 (ae y8).toNat)))).bind fun t0=>some ((b0 * (4294967296:UInt64)) + g0,shrU t0 (ae y8).toNat)) (fun k0=>Option.bind (ao (au_l1 n a2 y8 a1) n (d0,q0)) (k0))) (fun j0=>Option.bind (ao (au_l2 n a2 y8 a1) n (s9,p0)) (j0)))))
theorem au_c (n:Nat) {L w} (hL:hl L w) (a0:UInt64) (a1:UInt64) (a2:UInt64)  {r:UInt64 × UInt64} (h:au_p n a0 a1 a2 = some r) :
 Cl 225 #[vU a0,vU a1,vU a2] w (ak w fun _ u=>u = .tuple #[vU r.1,vU r.2]):=by
 unfold au_p at h
 have hS0:=Ax w
 refine AC func225 rfl rfl rfl fun _ cs0 hb0=>Ae<|Ag rfl<|Ag rfl<|Aa<|Ak<|Ae<|Af rfl<|Ac (FV.eqlU (a:=a2) (b:=(0:UInt64)) rfl rfl)<|Aa<|AI rfl h (fun c1 h=>?_) (fun c1 h=>?_)
 refine Ao ?_
 cases h
 refine Ap<|Ak<|Ae<|Af rfl<|Af rfl<|Ac (FV.leqU (a:=a2) (b:=a0) rfl rfl)<|Aa<|AI rfl h (fun c2 h=>?_) (fun c2 h=>?_)
 refine Ao ?_
 cases h
 refine Ap<|Ak<|Ae<|Af rfl<|Ac (FV.eqlU (a:=a0) (b:=(0:UInt64)) rfl rfl)<|Aa<|AI rfl h (fun c3 h=>?_) (fun c3 h=>?_)
 refine Ak<|du 8 fun kt4 kp5=>Rv 0 kt4 rfl kp5 (fun _=>Aj rfl)<|Rv 1 kt4 rfl kp5 (fun _=>Aj rfl)<|bk h fun s6 hs6 h=>Rv 2 kt4 rfl kp5 (fun _=>FV.quoV (a:=a1) (b:=a2) rfl rfl hs6)<|Rv 3 kt4 rfl kp5 (fun _=>Aj rfl)<|Rv 4 kt4 rfl kp5 (fun _=>Aj rfl)<|bk h fun s7 hs7 h=>Rv 5 kt4 rfl kp5 (fun _=>FV.remV (a:=a1) (b:=a2) rfl rfl hs7)<|Rv 6 kt4 rfl kp5 (fun _=>Bc rfl)<|Rv 7 kt4 rfl kp5 (fun _=>Bc rfl)<|AH (dk kt4)<|Am rfl<|Aq hb0 func225 rfl (.cons (.tmp rfl) (.cons (.tmp rfl) .nil)) rfl ?_
 cases h
 exact hS0.gv
 refine Ap<|Ae<|Af rfl<|bk h fun y8 hy8 h=>Bf (vI y8) (bd 238) rfl (e1 rfl) (fun p q=>aI_c n (hS0.hL0 hL q) a2 hy8) rfl<|Ac (FV.convU (i:=y8) underlying3 underlying172 rfl)<|Ag rfl<|Aa<|Ae<|Af rfl<|Af rfl<|Ac (FV.shlU (a:=a2) (j:=(ae y8).toNat) rfl rfl)<|Ag rfl<|Aa<|Ae<|Af rfl<|Ac (FV.shrU (a:=shlU a2 (ae y8).toNat) (j:=32) rfl rfl)<|Ag rfl<|Aa<|Ae<|Af rfl<|Ac (FV.andU (a:=shlU a2 (ae y8).toNat) (b:=(4294967295:UInt64)) rfl rfl)<|Ag rfl<|Aa<|Ae<|Af rfl<|Af rfl<|Ac (FV.shlU (a:=a0) (j:=(ae y8).toNat) rfl rfl)<|Af rfl<|Af rfl<|Ac (FV.subU (a:=(64:UInt64)) (b:=ae y8) rfl rfl)<|Ac (FV.shrU (a:=a1) (j:=((64:UInt64) - (ae y8)).toNat) rfl rfl)<|Ac (FV.orU (a:=shlU a0 (ae y8).toNat) (b:=shrU a1 ((64:UInt64) - (ae y8)).toNat) rfl rfl)<|Ag rfl<|Aa<|Ae<|Af rfl<|Af rfl<|Ac (FV.shlU (a:=a1) (j:=(ae y8).toNat) rfl rfl)<|Ag rfl<|Aa<|Ae<|Af rfl<|Ac (FV.shrU (a:=shlU a1 (ae y8).toNat) (j:=32) rfl rfl)<|Ag rfl<|Aa<|Ae<|Af rfl<|Ac (FV.andU (a:=shlU a1 (ae y8).toNat) (b:=(4294967295:UInt64)) rfl rfl)<|Ag rfl<|Aa<|Ae<|Af rfl<|Af rfl<|bk h fun s9 hs9 h=>Ac (FV.quoV (a:=(shlU a0 (ae y8).toNat) ||| (shrU a1 ((64:UInt64) - (ae y8)).toNat)) (b:=shrU (shlU a2 (ae y8).toNat) 32) rfl rfl hs9)<|Ag rfl<|Aa<|Ae<|Af rfl ?_
 refine Af rfl<|Af rfl<|Ac (FV.mulU (a:=s9) (b:=shrU (shlU a2 (ae y8).toNat) 32) rfl rfl)<|bk h fun d1 W0 h=>Ac (FV.as (FV.subU (a:=(shlU a0 (ae y8).toNat) ||| (shrU a1 ((64:UInt64) - (ae y8)).toNat)) (b:=s9 * (shrU (shlU a2 (ae y8).toNat) 32)) rfl rfl) (congrArg (fun z:UInt64=>Value.int .u64 (z.toNat:Int)) (Option.some.inj W0)))<|Ag rfl<|Aa<|Ak<|Au<|MX.xo (α:=UInt64) 0 (fun b0=>[(2,vW ((shlU a2 (ae y8).toNat).toNat:Int)),(8,vW ((ae y8).toNat:Int)),(9,vW ((shrU (shlU a2 (ae y8).toNat) 32).toNat:Int)),(10,vW (((shlU a2 (ae y8).toNat) &&& (4294967295:UInt64)).toNat:Int)),(11,vW (((shlU a0 (ae y8).toNat) ||| (shrU a1 ((64:UInt64) - (ae y8)).toNat)).toNat:Int)),(13,vW ((shrU (shlU a1 (ae y8).toNat) 32).toNat:Int)),(14,vW (((shlU a1 (ae y8).toNat) &&& (4294967295:UInt64)).toNat:Int)),(15,vU b0)]) (fun b0=>[]) (fun b0=>b0) hS0 rfl h ?_ ?_
 rintro b0 A1 D0 t1 h
 try dsimp only at h
 refine Ae<|Af rfl<|bk h fun p0 X0 h=>Ac (FV.as (FV.mulU (a:=(shlU a0 (ae y8).toNat) ||| (shrU a1 ((64:UInt64) - (ae y8)).toNat)) (b:=(4294967296:UInt64)) rfl rfl) (congrArg (fun z:UInt64=>Value.int .u64 (z.toNat:Int)) (Option.some.inj X0)))<|Af rfl<|Ac (FV.addU (a:=p0) (b:=shrU (shlU a1 (ae y8).toNat) 32) rfl rfl)<|Af rfl<|Af rfl<|Ac (FV.mulU (a:=b0) (b:=shlU a2 (ae y8).toNat) rfl rfl)<|Ac (FV.subU (a:=p0 + (shrU (shlU a1 (ae y8).toNat) 32)) (b:=b0 * (shlU a2 (ae y8).toNat)) rfl rfl)<|Ag rfl<|Aa<|Ae<|Af rfl<|Af rfl<|bk h fun A0 V0 h=>Ac (FV.quoV (a:=(p0 + (shrU (shlU a1 (ae y8).toNat) 32)) - (b0 * (shlU a2 (ae y8).toNat))) (b:=shrU (shlU a2 (ae y8).toNat) 32) rfl rfl V0)<|Ag rfl<|Aa<|Ae<|Af rfl<|Af rfl<|Af rfl<|Ac (FV.mulU (a:=A0) (b:=shrU (shlU a2 (ae y8).toNat) 32) rfl rfl)<|bk h fun g1 Y0 h=>Ac (FV.as (FV.subU (a:=(p0 + (shrU (shlU a1 (ae y8).toNat) 32)) - (b0 * (shlU a2 (ae y8).toNat))) (b:=A0 * (shrU (shlU a2 (ae y8).toNat) 32)) rfl rfl) (congrArg (fun z:UInt64=>Value.int .u64 (z.toNat:Int)) (Option.some.inj Y0)))<|Ag rfl<|Aa<|Ak<|Au<|MX.xo (α:=UInt64) 2 (fun k0=>[(2,vW ((shlU a2 (ae y8).toNat).toNat:Int)),(8,vW ((ae y8).toNat:Int)),(14,vW (((shlU a1 (ae y8).toNat) &&& (4294967295:UInt64)).toNat:Int)),(15,vU b0),(17,vW (((p0 + (shrU (shlU a1 (ae y8).toNat) 32)) - (b0 * (shlU a2 (ae y8).toNat))).toNat:Int)),(18,vU k0)]) (fun k0=>[]) (fun k0=>k0) D0 rfl h ?_ ?_
 rintro k0 B1 Q0 u1 h
 try dsimp only at h
 refine Ae<|Af rfl<|Ac (FV.mulU (a:=b0) (b:=(4294967296:UInt64)) rfl rfl)<|Af rfl<|Ac (FV.addU (a:=b0 * (4294967296:UInt64)) (b:=k0) rfl rfl)<|Af rfl<|bk h fun E0 Z0 h=>Ac (FV.as (FV.mulU (a:=(p0 + (shrU (shlU a1 (ae y8).toNat) 32)) - (b0 * (shlU a2 (ae y8).toNat))) (b:=(4294967296:UInt64)) rfl rfl) (congrArg (fun z:UInt64=>Value.int .u64 (z.toNat:Int)) (Option.some.inj Z0)))<|Af rfl<|Ac (FV.addU (a:=E0) (b:=(shlU a1 (ae y8).toNat) &&& (4294967295:UInt64)) rfl rfl)<|Af rfl<|Af rfl<|Ac (FV.mulU (a:=k0) (b:=shlU a2 (ae y8).toNat) rfl rfl)<|bk h fun j1 b1 h=>Ac (FV.as (FV.subU (a:=E0 + ((shlU a1 (ae y8).toNat) &&& (4294967295:UInt64))) (b:=k0 * (shlU a2 (ae y8).toNat)) rfl rfl) (congrArg (fun z:UInt64=>Value.int .u64 (z.toNat:Int)) (Option.some.inj b1)))<|Af rfl<|Ac (FV.shrU (a:=j1) (j:=(ae y8).toNat) rfl rfl)<|Ag rfl<|Ag rfl<|Aa<|Am rfl<|Aq hb0 func225 rfl (.cons (.tmp rfl) (.cons (.tmp rfl) .nil)) rfl ?_
 cases h
 exact Q0.gv
 intro s1 x0 h
 try dsimp only at h
 obtain ⟨v1,R0,y0⟩:=av h
 refine MX.lo (α:=UInt64 × UInt64) (fun ⟨c0,g0⟩=>[(2,vW ((shlU a2 (ae y8).toNat).toNat:Int)),(8,vW ((ae y8).toNat:Int)),(9,vW ((shrU (shlU a2 (ae y8).toNat) 32).toNat:Int)),(10,vW (((shlU a2 (ae y8).toNat) &&& (4294967295:UInt64)).toNat:Int)),(14,vW (((shlU a1 (ae y8).toNat) &&& (4294967295:UInt64)).toNat:Int)),(15,vU b0),(17,vW (((p0 + (shrU (shlU a1 (ae y8).toNat) 32)) - (b0 * (shlU a2 (ae y8).toNat))).toNat:Int)),(18,vU c0),(16,vU g0)]) (fun ⟨c0,g0⟩=>[]) (fun ⟨c0,g0⟩=>(c0,g0)) (A0,g1) R0 D0 ?_
 rintro k1 ⟨c0,g0⟩ y1 B0 q0 t0 h
 unfold au_l1 at h
 try dsimp only at h
 refine Ak<|Ae<|Af rfl<|Ac (FV.geqU (a:=c0) (b:=(4294967296:UInt64)) rfl rfl)<|Af rfl<|RG.ifd (s:=104) rfl h (fun F0 h=>?_) (fun F0 h=>?_)
 refine AG<|AG<|AG<|AG<|AG<|AG<|AG<|AG<|RG.pt rfl rfl<|Aa<|Br rfl<|Ap<|Au<|Ae<|Af rfl<|Ac (FV.subU (a:=c0) (b:=(1:UInt64)) rfl rfl)<|Ag rfl<|Aa<|Ae<|Af rfl<|Af rfl<|Ac (FV.addU (a:=g0) (b:=shrU (shlU a2 (ae y8).toNat) 32) rfl rfl)<|Ag rfl<|Aa<|Ae<|Af rfl<|Ac (FV.geqU (a:=g0 + (shrU (shlU a2 (ae y8).toNat) 32)) (b:=(4294967296:UInt64)) rfl rfl)<|Aa<|AI rfl h (fun G0 h=>?_) (fun G0 h=>?_)
 refine AT rfl ?_
 have h:=y0 _ h
 try dsimp only at h
 exact x0 (c0 - (1:UInt64)) q0 t0 h
 refine Ap<|Ay<|B0 (c0 - (1:UInt64),g0 + (shrU (shlU a2 (ae y8).toNat) 32)) q0 t0 h
 refine AV (Aj rfl)<|AV (Aj rfl)<|AV (FV.mulU (a:=c0) (b:=(shlU a2 (ae y8).toNat) &&& (4294967295:UInt64)) rfl rfl)<|AV (Aj rfl)<|AV (FV.mulU (a:=(4294967296:UInt64)) (b:=g0) rfl rfl)<|AV (Aj rfl)<|AV (FV.addU (a:=(4294967296:UInt64) * g0) (b:=(shlU a1 (ae y8).toNat) &&& (4294967295:UInt64)) rfl rfl)<|AV (FV.gtrU (a:=c0 * ((shlU a2 (ae y8).toNat) &&& (4294967295:UInt64))) (b:=((4294967296:UInt64) * g0) + ((shlU a1 (ae y8).toNat) &&& (4294967295:UInt64))) rfl rfl)<|RG.pf rfl rfl<|Aa<|AI rfl h (fun H0 h=>?_) (fun H0 h=>?_)
 refine Ap<|Au<|Ae<|Af rfl<|Ac (FV.subU (a:=c0) (b:=(1:UInt64)) rfl rfl)<|Ag rfl<|Aa<|Ae<|Af rfl<|Af rfl<|Ac (FV.addU (a:=g0) (b:=shrU (shlU a2 (ae y8).toNat) 32) rfl rfl)<|Ag rfl<|Aa<|Ae<|Af rfl<|Ac (FV.geqU (a:=g0 + (shrU (shlU a2 (ae y8).toNat) 32)) (b:=(4294967296:UInt64)) rfl rfl)<|Aa<|AI rfl h (fun I0 h=>?_) (fun I0 h=>?_)
 refine AT rfl ?_
 have h:=y0 _ h
 try dsimp only at h
 exact x0 (c0 - (1:UInt64)) q0 t0 h
 refine Ap<|Ay<|B0 (c0 - (1:UInt64),g0 + (shrU (shlU a2 (ae y8).toNat) 32)) q0 t0 h
 refine AT rfl ?_
 have h:=y0 _ h
 try dsimp only at h
 exact x0 c0 q0 t0 h
 intro q1 v0 h
 try dsimp only at h
 obtain ⟨x1,U0,z0⟩:=av h
 refine MX.lo (α:=UInt64 × UInt64) (fun ⟨d0,j0⟩=>[(2,vW ((shlU a2 (ae y8).toNat).toNat:Int)),(8,vW ((ae y8).toNat:Int)),(9,vW ((shrU (shlU a2 (ae y8).toNat) 32).toNat:Int)),(10,vW (((shlU a2 (ae y8).toNat) &&& (4294967295:UInt64)).toNat:Int)),(11,vW (((shlU a0 (ae y8).toNat) ||| (shrU a1 ((64:UInt64) - (ae y8)).toNat)).toNat:Int)),(13,vW ((shrU (shlU a1 (ae y8).toNat) 32).toNat:Int)),(14,vW (((shlU a1 (ae y8).toNat) &&& (4294967295:UInt64)).toNat:Int)),(15,vU d0),(16,vU j0)]) (fun ⟨d0,j0⟩=>[]) (fun ⟨d0,j0⟩=>(d0,j0)) (s9,d1) U0 hS0 ?_
 rintro p1 ⟨d0,j0⟩ z1 C0 s0 u0 h
 unfold au_l2 at h
 try dsimp only at h
 refine Ak<|Ae<|Af rfl<|Ac (FV.geqU (a:=d0) (b:=(4294967296:UInt64)) rfl rfl)<|Af rfl<|RG.ifd (s:=69) rfl h (fun J0 h=>?_) (fun J0 h=>?_)
 refine AG<|AG<|AG<|AG<|AG<|AG<|AG<|AG<|RG.pt rfl rfl<|Aa<|Br rfl<|Ap<|Au<|Ae<|Af rfl<|Ac (FV.subU (a:=d0) (b:=(1:UInt64)) rfl rfl)<|Ag rfl<|Aa<|Ae<|Af rfl<|Af rfl<|Ac (FV.addU (a:=j0) (b:=shrU (shlU a2 (ae y8).toNat) 32) rfl rfl)<|Ag rfl<|Aa<|Ae<|Af rfl<|Ac (FV.geqU (a:=j0 + (shrU (shlU a2 (ae y8).toNat) 32)) (b:=(4294967296:UInt64)) rfl rfl)<|Aa<|AI rfl h (fun K0 h=>?_) (fun K0 h=>?_)
 refine AT rfl ?_
 have h:=z0 _ h
 try dsimp only at h
 exact v0 (d0 - (1:UInt64)) s0 u0 h
 refine Ap<|Ay<|C0 (d0 - (1:UInt64),j0 + (shrU (shlU a2 (ae y8).toNat) 32)) s0 u0 h
 refine AV (Aj rfl)<|AV (Aj rfl)<|AV (FV.mulU (a:=d0) (b:=(shlU a2 (ae y8).toNat) &&& (4294967295:UInt64)) rfl rfl)<|AV (Aj rfl)<|AV (FV.mulU (a:=(4294967296:UInt64)) (b:=j0) rfl rfl)<|AV (Aj rfl)<|AV (FV.addU (a:=(4294967296:UInt64) * j0) (b:=shrU (shlU a1 (ae y8).toNat) 32) rfl rfl)<|AV (FV.gtrU (a:=d0 * ((shlU a2 (ae y8).toNat) &&& (4294967295:UInt64))) (b:=((4294967296:UInt64) * j0) + (shrU (shlU a1 (ae y8).toNat) 32)) rfl rfl)<|RG.pf rfl rfl<|Aa<|AI rfl h (fun M0 h=>?_) (fun M0 h=>?_)
 refine Ap<|Au<|Ae<|Af rfl<|Ac (FV.subU (a:=d0) (b:=(1:UInt64)) rfl rfl)<|Ag rfl<|Aa<|Ae<|Af rfl<|Af rfl<|Ac (FV.addU (a:=j0) (b:=shrU (shlU a2 (ae y8).toNat) 32) rfl rfl)<|Ag rfl<|Aa<|Ae<|Af rfl<|Ac (FV.geqU (a:=j0 + (shrU (shlU a2 (ae y8).toNat) 32)) (b:=(4294967296:UInt64)) rfl rfl)<|Aa<|AI rfl h (fun P0 h=>?_) (fun P0 h=>?_)
 refine AT rfl ?_
 have h:=z0 _ h
 try dsimp only at h
 exact v0 (d0 - (1:UInt64)) s0 u0 h
 refine Ap<|Ay<|C0 (d0 - (1:UInt64),j0 + (shrU (shlU a2 (ae y8).toNat) 32)) s0 u0 h
 refine AT rfl ?_
 have h:=z0 _ h
 try dsimp only at h
 exact v0 d0 s0 u0 h
def bX_p (n:Nat) (a0:List UInt64):Option Int:=
  (if a0.length = 0 then some (0:Int) else (chk (64 * ((a0.length:Nat):Int))).bind fun s3=>(idx a0 (((a0.length:Nat):Int) - 1)).bind fun x4=>(aI_p n x4).bind fun c0=>(chk (s3 - c0)).bind fun b0=>some b0)
theorem bX_c (n:Nat) {L w} (hL:hl L w) {a0:List UInt64} {v0_0:Value} (h0_0:Rep.R w L [v0_0] a0)  {r:Int} (h:bX_p n a0 = some r) :
 Cl 226 #[v0_0] w (ak w fun _ u=>u = vI r):=by
 unfold bX_p at h
 have hS0:=Ax w
 refine AC func226 rfl rfl rfl fun _ cs0 hb0=>Ae<|Ag rfl<|Aa<|Ak<|Ae<|Af rfl ?_
 have hl1:a0.length <= 281474976710656:=AY h0_0
 refine Ac (Be (xs:=a0) underlying127 rfl h0_0)<|Ac (FV.eqlN (i:=a0.length) (j:=0) rfl rfl)<|Aa<|AI rfl h (fun c2 h=>?_) (fun c2 h=>?_)
 refine Ae<|Ag rfl<|Aa<|Am rfl<|AU hb0 func226 rfl rfl ?_
 cases h
 exact hS0.gv
 refine Ap<|Ae<|Af rfl<|Ac (Be (xs:=a0) underlying127 rfl h0_0)<|bk h fun s3 hs3 h=>Ac (FV.mulc (i:=64) (j:=((a0.length:Nat):Int)) rfl rfl hs3)<|Af rfl<|Af rfl<|Ac (Be (xs:=a0) underlying127 rfl h0_0)<|Ac (FV.subI (i:=((a0.length:Nat):Int)) (j:=1) rfl rfl (by omega))<|bk h fun x4 hx4 h=>?_
 obtain ⟨hi5,hx6⟩:=aI hx4
 obtain ⟨A7,c8,he9,g0,c0,k0,j0⟩:=Bl h0_0 hx6
 have d0:c0 = [vU x4]:=k0; subst d0
 refine Ac (FV.idxAddr (m:=1) (i:=(((a0.length:Nat):Int) - 1).toNat) rfl rfl he9 rfl hi5 g0)<|AO rfl (j0 0 _ rfl)<|bk h fun b0 q0 h=>Bf (vI b0) (bd 238) rfl (e1 rfl) (fun p q=>aI_c n (hS0.hL0 hL q) x4 q0) rfl<|bk h fun s0 p0 h=>Ac (FV.subc (i:=s3) (j:=b0) rfl rfl p0)<|Ag rfl<|Aa<|Am rfl<|AU hb0 func226 rfl rfl ?_
 cases h
 exact hS0.gv
def bQ_l1 (_n:Nat) (a0:List UInt64) (a1:Int) (g0:Nat × (List UInt64) -> Option (List UInt64)):Nat × (List UInt64) -> Option (List UInt64)
  | (b0,c0)=>(if b0 < a0.length then (a0[b0]?).bind fun p0=>(dM a1 64).bind fun t0=>(chk (((b0:Nat):Int) + t0)).bind fun j0=>(idx c0 j0).bind fun B0=>(dC a1 64).bind fun u0=>(dy u0).bind fun q0=>(put c0 ((j0.toNat:Nat):Int) (B0 ||| (shlU p0 q0))).bind fun d0=>(dC a1 64).bind fun v0=>(if 0 < v0 then (dM a1 64).bind fun x0=>(chk (((b0:Nat):Int) + x0)).bind fun y0=>(chk (y0 + 1)).bind fun k0=>(dC a1 64).bind fun z0=>(chk (64 - z0)).bind fun A0=>(dy A0).bind fun s0=>(idx d0 k0).bind fun _x218=>(put d0 ((k0.toNat:Nat):Int) (shrU p0 s0)).bind fun C0=>g0 (b0 + 1,C0) else g0 (b0 + 1,d0)) else some c0)
def bQ_p (n:Nat) (a0:List UInt64) (a1:Int):Option (List UInt64):=
  (dM a1 64).bind fun s2=>(chk (((a0.length:Nat):Int) + s2)).bind fun s3=>(chk (s3 + 1)).bind fun s4=>(mk s4 (0:UInt64)).bind fun b0=>Option.bind (ao (bQ_l1 n a0 a1) n (0,b0)) (fun c0=>(al_p n false c0).bind fun d0=>some d0.fo)
theorem bQ_c (n:Nat) {L w} (hL:hl L w) {a0:List UInt64} {v0_0:Value} (h0_0:Rep.R w L [v0_0] a0) {a1:Int}  {r:List UInt64} (h:bQ_p n a0 a1 = some r) :
 Cl 227 #[v0_0,vI a1] w (ak w fun w' u=>∃ v0_0:Value,u = v0_0/\Rep.R w' L [v0_0] r):=by
 unfold bQ_p at h
 refine AC func227 rfl rfl rfl fun _ cs0 hb0=>Ae<|Ag rfl<|Aa<|Ae<|Af rfl ?_
 have hl1:a0.length <= 281474976710656:=AY h0_0
 refine Ac (Be (xs:=a0) underlying127 rfl h0_0)<|Af rfl<|bk h fun s2 hs2 h=>Ac (FV.quoc (i:=a1) (j:=64) rfl rfl hs2)<|bk h fun s3 hs3 h=>Ac (Bs (i:=((a0.length:Nat):Int)) (j:=s2) rfl rfl hs3)<|bk h fun s4 hs4 h=>Ac (Bs (i:=s3) (j:=1) rfl rfl hs4)<|bk h fun U0 K0 h=>Al .plain rfl (Does.mk (α:=UInt64) K0 (Ax w) ck rfl) fun Z2 p0 u0 Q2=>Ag rfl<|Aa<|Ak<|Ae<|Af rfl<|Ac (Be (xs:=a0) underlying127 rfl (AQ h0_0 u0))<|Af rfl<|Aa<|Au ?_
 obtain ⟨X2,H1,A1⟩:=av h
 refine MX.lf (α:=Nat × (List UInt64) × (List Value)) (fun ⟨c0,g0,j0⟩=>[(1,vI a1),(5,(.slice (some ⟨p0,0,none⟩) s4.toNat s4.toNat)),(15,v0_0),(16,vI ((a0.length:Nat):Int)),(17,vI ((c0:Nat):Int))]) (fun ⟨c0,g0,j0⟩=>[rr w 44 UInt64 (.slice (some ⟨p0,0,none⟩) s4.toNat s4.toNat) g0.length j0]) (fun ⟨c0,g0,j0⟩ Q0=>Cells Q0 (bl [rr w 44 UInt64 (.slice (some ⟨p0,0,none⟩) s4.toNat s4.toNat) g0.length j0] ++ L) j0 g0) (fun ⟨c0,g0,j0⟩=>(c0,g0)) (0,U0,(List.replicate s4.toNat [vW 0]).flatten) H1 u0 (AE (cs:=(List.replicate s4.toNat [vW 0]).flatten) (xs:=U0) u0 L (Cells.mk K0 rfl)) ?_
 rintro H2 ⟨c0,g0,j0⟩ Q0 C0 k0 E0 x0 h
 unfold bQ_l1 at h
 try dsimp only at h
 refine Ae<|Ac (Bm (i:=c0) (j:=a0.length) rfl rfl)<|Aa<|Ak<|AI rfl h (fun Z0 h=>?_) (fun Z0 h=>?_)
 refine Ap<|Ak<|Au<|Ae<|Af rfl<|bk h fun t0 b2 h=>?_
 obtain ⟨G2,I2,v1,C1,c1,I1,F1⟩:=Bl (AQ h0_0 k0) b2
 have x1:c1 = [vU t0]:=I1; subst x1
 refine Ac (Bh 1 c0 rfl v1 rfl rfl C1)<|AO rfl (F1 0 _ rfl)<|Ag rfl<|Ag rfl<|Aa<|Ak<|du 13 fun b0 d0=>Rv 0 b0 rfl d0 (fun _=>Aj rfl)<|Rv 1 b0 rfl d0 (fun _=>Aj rfl)<|Rv 2 b0 rfl d0 (fun _=>Aj rfl)<|bk h fun u2 P1 h=>Rv 3 b0 rfl d0 (fun _=>FV.quoc (i:=a1) (j:=64) rfl rfl P1)<|bk h fun B0 Q1 h=>Rv 4 b0 rfl d0 (fun _=>Bs (i:=((c0:Nat):Int)) (j:=u2) rfl rfl Q1)<|bk h fun R0 c2 h=>?_
 obtain ⟨I0,d2⟩:=aI c2
 obtain ⟨V0,J2,s0,A0,d1,J1,G1⟩:=St.nth (α:=UInt64) k0 .hd x0 d2
 obtain ⟨X0,K2,G0⟩:=Bu (α:=UInt64) k0 .hd A0
 obtain rfl:V0 = ⟨X0,0,none⟩:=by rw [G0] at s0; cases s0; rfl
 have y1:d1 = [vU R0]:=J1; subst y1
 refine Rv 5 b0 rfl d0 (fun _=>Bh 1 (B0.toNat) rfl s0 rfl I0 A0)<|Rx 6 14336 b0 rfl d0 (AZ rfl (G1 0 _ rfl))<|Rv 7 b0 rfl d0 (fun _=>Aj rfl)<|Rv 8 b0 rfl d0 (fun _=>Aj rfl)<|bk h fun v2 R1 h=>Rv 9 b0 rfl d0 (fun _=>FV.remc (i:=a1) (j:=64) rfl rfl R1)<|bk h fun t2 D1 h=>Rv 10 b0 rfl d0 (fun _=>FV.shlI (a:=t0) (i:=v2) rfl rfl D1)<|Rv 11 b0 rfl d0 (fun _=>FV.orU (a:=R0) (b:=shlU t0 t2) rfl rfl)<|Rv 12 b0 rfl d0 (fun _=>Bh 1 (B0.toNat) rfl s0 rfl I0 A0)<|bk h fun D2 k2 h=>By (i:=13) (rk b0) (RO.acts (m' :=16383) (sk b0) rfl rfl .plain (Acts.set (α:=UInt64) (i:=B0.toNat) k2 k0 G0 (fun _=>.hd) x0 rfl rfl rfl rfl rfl rfl) (fun b3 ⟨g1,q0,F0,y0⟩=>?_))
 refine AH (dk b0)<|Ae<|Af rfl<|bk h fun x2 U1 h=>Ac (FV.remc (i:=a1) (j:=64) rfl rfl U1)<|Ac (FV.gtr (i:=x2) (j:=0) rfl rfl)<|Aa<|AI rfl h (fun b1 h=>?_) (fun b1 h=>?_)
 refine Ao<|Af rfl<|Af rfl<|Af rfl<|bk h fun y2 V1 h=>Ac (FV.quoc (i:=a1) (j:=64) rfl rfl V1)<|bk h fun z2 W1 h=>Ac (Bs (i:=((c0:Nat):Int)) (j:=y2) rfl rfl W1)<|bk h fun M0 X1 h=>Ac (Bs (i:=z2) (j:=1) rfl rfl X1)<|Af rfl<|Af rfl<|bk h fun A2 Y1 h=>Ac (FV.remc (i:=a1) (j:=64) rfl rfl Y1)<|bk h fun B2 Z1 h=>Ac (FV.subc (i:=64) (j:=A2) rfl rfl Z1)<|bk h fun W2 E1 h=>Ac (FV.shrI (a:=t0) (i:=B2) rfl rfl E1)<|bk h fun C2 g2 h=>?_
 obtain ⟨B1,j2⟩:=aI g2
 obtain ⟨W0,M2,z0,J0,j1,K1,V2⟩:=St.nth (α:=UInt64) q0 .hd y0 j2
 obtain ⟨Y0,P2,H0⟩:=Bu (α:=UInt64) q0 .hd J0
 obtain rfl:W0 = ⟨Y0,0,none⟩:=by rw [H0] at z0; cases z0; rfl
 have z1:j1 = [vU C2]:=K1; subst z1
 refine Ac (Bh 1 (M0.toNat) rfl z0 rfl B1 J0)<|bk h fun E2 p2 h=>RG.acts' .plain (Acts.set (α:=UInt64) (i:=M0.toNat) p2 q0 H0 (fun _=>.hd) y0 rfl rfl rfl rfl rfl rfl) fun c3 ⟨k1,p1,q1,u1⟩=>Aa<|Ay<|Ao<|Ac (Bg (i:=c0) (j:=1) rfl rfl (by omega))<|Af rfl<|Aa<|C0 (c0 + 1,E2,k1) p1 (Tt E0 (Tt F0 q1)) u1 h
 refine Ap<|Ay<|Ao<|Ac (Bg (i:=c0) (j:=1) rfl rfl (by omega))<|Af rfl<|Aa<|C0 (c0 + 1,D2,g1) q0 (Tt E0 F0) y0 h
 refine AT rfl ?_
 have h:=A1 _ h
 try dsimp only at h
 refine Ae<|Af rfl ?_
 have v0:=St.delS k0 .hd
 have R2:=St.delT k0 .hd
 refine bk h fun F2 q2 h=>jE (bd 150) rfl (e2 rfl rfl) (fun p q=>al_c n (v0.hL hL q) (Av (Rep.at_ (α:=UInt64) (v:=(.slice (some ⟨p0,0,none⟩) s4.toNat s4.toNat)) (xs:=g0) v0 L (Bv (α:=UInt64) k0 .hd x0 hL)) q) q2) rfl fun d3 Y2 s1 ⟨P0,hu_,M1⟩=>?_
 subst hu_
 obtain ⟨D0,U2⟩:=v0.agr s1
 refine Ac (FV.field1 (cs:=[.bool F2.fj,P0]) (off:=1) (m:=1) rfl rfl rfl rfl)<|Ag rfl<|Aa<|Am rfl<|AU hb0 func227 rfl rfl ?_
 cases h
 exact ⟨D0.ag,fun p q=>⟨P0,rfl,D0.kd M1 q⟩⟩
def aw_l1 (n:Nat) (a0:List UInt64) (a1:List UInt64) (j0:UInt64 × Int × (List UInt64) -> Option (UInt64 × (List UInt64))):UInt64 × Int × (List UInt64) -> Option (UInt64 × (List UInt64))
  | (d0,b0,c0)=>(if 0 <= b0 then (idx a0 b0).bind fun p0=>(a1[0]?).bind fun q0=>(au_p n d0 p0 q0).bind fun g0=>(idx c0 b0).bind fun _x169=>(put c0 ((b0.toNat:Nat):Int) g0.1).bind fun s0=>(chk (b0 - 1)).bind fun k0=>j0 (g0.2,k0,s0) else some (d0,c0))
def aw_l2 (n:Nat) (a1:List UInt64) (p0:(List UInt64) × Int × (List UInt64) -> Option ((List UInt64) × (List UInt64))):(List UInt64) × Int × (List UInt64) -> Option ((List UInt64) × (List UInt64))
  | (c0,b0,d0)=>(if 0 <= b0 then (bQ_p n a1 b0).bind fun k0=>(a9_p n c0 k0).bind fun z0=>jn (fun (v0,x0)=>(chk (b0 - 1)).bind fun s0=>p0 (v0,s0,x0)) (fun g0=>(if 0 <= z0 then (bj_p n c0 k0).bind fun A0=>(al_p n false A0).bind fun B0=>(dM b0 64).bind fun j0=>(idx d0 j0).bind fun u0=>(dC b0 64).bind fun t0=>(dy t0).bind fun q0=>(put d0 ((j0.toNat:Nat):Int) (u0 ||| (shlU (1:UInt64) q0))).bind fun y0=>g0 (B0.fo,y0) else g0 (c0,d0))) else some (d0,c0))
def aw_p (n:Nat) (a0:List UInt64) (a1:List UInt64):Option ((List UInt64) × (List UInt64)):=
  (mk ((a0.length:Nat):Int) (0:UInt64)).bind fun b0=>(if a1.length = 1 then Option.bind (ao (aw_l1 n a0 a1) n (0,((a0.length:Nat):Int) - 1,b0)) (fun (d0,g0)=>(al_p n false ([d0]:List UInt64)).bind fun p0=>some (g0,p0.fo)) else (bX_p n a0).bind fun q0=>(bX_p n a1).bind fun s0=>(chk (q0 - s0)).bind fun c0=>Option.bind (ao (aw_l2 n a1) n (a0,c0,b0)) (fun (k0,j0)=>some (k0,j0)))
theorem aw_c (n:Nat) {L w} (hL:hl L w) {a0:List UInt64} {v0_0:Value} (h0_0:Rep.R w L [v0_0] a0) {a1:List UInt64} {v1_0:Value} (h1_0:Rep.R w L [v1_0] a1)  {r:(List UInt64) × (List UInt64)} (h:aw_p n a0 a1 = some r) :
 Cl 214 #[v0_0,v1_0] w (ak w fun w' u=>∃ v0_0 v1_0:Value,u = .tuple #[v0_0,v1_0]/\Rep.R w' L [v0_0] r.1/\Rep.R w' L [v1_0] r.2):=by
 unfold aw_p at h
 refine AC func214 rfl rfl rfl fun _ cs0 hb0=>Ae<|Ag rfl<|Ag rfl<|Aa<|Ae<|Af rfl ?_
 have hl1:a0.length <= 281474976710656:=AY h0_0
 refine Ac (Be (xs:=a0) underlying127 rfl h0_0)<|bk h fun g1 E1 h=>Al .plain rfl (Does.mk (α:=UInt64) E1 (Ax w) ck rfl) fun g5 c0 t0 Q4=>?_
 have u1:=AE (cs:=(List.replicate ((a0.length:Nat):Int).toNat [vW 0]).flatten) (xs:=g1) t0 L (Cells.mk E1 rfl)
 refine Ag rfl<|Aa<|Ak<|Ae<|Af rfl ?_
 have A1:=AQ h1_0 t0
 have R4:a1.length <= 281474976710656:=AY A1
 refine Ac (Be (xs:=a1) underlying127 rfl A1)<|Ac (FV.eqlN (i:=a1.length) (j:=1) rfl rfl)<|Aa<|AI rfl h (fun b2 h=>?_) (fun b2 h=>?_)
 refine Ae<|Ag rfl<|Aa<|Ak<|Ae<|Af rfl<|Ac (Be (xs:=a0) underlying127 rfl (AQ h0_0 t0))<|Ac (FV.subI (i:=((a0.length:Nat):Int)) (j:=1) rfl rfl (by omega))<|Ag rfl<|Aa<|Au ?_
 obtain ⟨V4,u3,b3⟩:=av h
 refine MX.lf (α:=UInt64 × Int × (List UInt64) × (List Value)) (fun ⟨g0,q0,z0,B0⟩=>[(0,v0_0),(1,v1_0),(4,(.slice (some ⟨c0,0,none⟩) ((a0.length:Nat):Int).toNat ((a0.length:Nat):Int).toNat)),(6,vU g0),(7,vI q0)]) (fun ⟨g0,q0,z0,B0⟩=>[rr w 44 UInt64 (.slice (some ⟨c0,0,none⟩) ((a0.length:Nat):Int).toNat ((a0.length:Nat):Int).toNat) z0.length B0]) (fun ⟨g0,q0,z0,B0⟩ H1=>Cells H1 (bl [rr w 44 UInt64 (.slice (some ⟨c0,0,none⟩) ((a0.length:Nat):Int).toNat ((a0.length:Nat):Int).toNat) z0.length B0] ++ L) B0 z0) (fun ⟨g0,q0,z0,B0⟩=>(g0,q0,z0)) (0,((a0.length:Nat):Int) - 1,g1,(List.replicate ((a0.length:Nat):Int).toNat [vW 0]).flatten) u3 t0 u1 ?_
 rintro E4 ⟨g0,q0,z0,B0⟩ H1 t2 C0 z2 V0 h
 unfold aw_l1 at h
 try dsimp only at h
 refine Ak<|Ae<|Af rfl<|Ac (FV.geq (i:=q0) (j:=0) rfl rfl)<|Aa<|AI rfl h (fun Z1 h=>?_) (fun Z1 h=>?_)
 refine Ap<|Ak<|Au<|du 15 fun b0 d0=>Rv 0 b0 rfl d0 (fun _=>Aj rfl)<|Rv 1 b0 rfl d0 (fun _=>Aj rfl)<|Rv 2 b0 rfl d0 (fun _=>Aj rfl)<|Rv 3 b0 rfl d0 (fun _=>Aj rfl)<|Rv 4 b0 rfl d0 (fun _=>Aj rfl)<|bk h fun I1 P3 h=>?_
 obtain ⟨d3,Q3⟩:=aI P3
 obtain ⟨C4,H4,U2,j3,g2,x3,q3⟩:=Bl (AQ h0_0 C0) Q3
 have V2:g2 = [vU I1]:=x3; subst V2
 refine Rv 5 b0 rfl d0 (fun _=>Bh 1 (q0.toNat) rfl U2 rfl d3 j3)<|Rx 6 130048 b0 rfl d0 (AZ rfl (q3 0 _ rfl))<|Rv 7 b0 rfl d0 (fun _=>Aj rfl)<|bk h fun J1 R3 h=>?_
 obtain ⟨D4,I4,W2,k3,j2,y3,s3⟩:=Bl (AQ h1_0 C0) R3
 have X2:j2 = [vU J1]:=y3; subst X2
 refine Rv 8 b0 rfl d0 (fun _=>Bh 1 0 rfl W2 rfl rfl k3)<|Rx 9 130048 b0 rfl d0 (AZ rfl (s3 0 _ rfl))<|bk h fun j1 b4 h=>RD.cq 10 2047 129024 (.tuple #[vU j1.1,vU j1.2]) b0 rfl d0 (bd 225) rfl (e3 rfl rfl rfl) (fun p q=>au_c n (C0.hL0 hL q) g0 I1 J1 b4) rfl<|Rv 11 b0 rfl d0 (fun _=>Aj rfl)<|Rv 12 b0 rfl d0 (fun _=>Ai rfl rfl)<|Rv 13 b0 rfl d0 (fun _=>Ai rfl rfl)<|bk h fun y4 U3 h=>?_
 obtain ⟨g3,V3⟩:=aI U3
 obtain ⟨U1,J4,X0,z1,k2,z3,U4⟩:=St.nth (α:=UInt64) C0 .hd V0 V3
 obtain ⟨W1,K4,v1⟩:=Bu (α:=UInt64) C0 .hd z1
 obtain rfl:U1 = ⟨W1,0,none⟩:=by rw [v1] at X0; cases X0; rfl
 have Y2:k2 = [vU y4]:=z3; subst Y2
 refine Rv 14 b0 rfl d0 (fun _=>Bh 1 (q0.toNat) rfl X0 rfl g3 z1)<|bk h fun z4 Y3 h=>By (i:=15) (rk b0) (RO.acts (m' :=65535) (sk b0) rfl rfl .plain (Acts.set (α:=UInt64) (i:=q0.toNat) Y3 C0 v1 (fun _=>.hd) V0 rfl rfl rfl rfl rfl rfl) (fun j5 ⟨p2,v2,A2,P2⟩=>?_))
 refine By (i:=16) (rk b0) (RO.val (m' :=131071) (sk b0) rfl .plain rfl (Bc rfl) ?_)
 refine AH (dk b0)<|Ay<|Ao<|Af rfl<|bk h fun t4 H3 h=>Ac (FV.subc (i:=q0) (j:=1) rfl rfl H3)<|Ag rfl<|Aa<|t2 (j1.2,t4,z4,p2) v2 (Tt z2 A2) P2 h
 refine AT rfl ?_
 have h:=b3 _ h
 try dsimp only at h
 refine Ae<|Af rfl<|Af rfl<|Al .plain rfl (jA g0 (vU g0) C0 ck (e1 rfl)) fun k5 X1 I0 B2=>?_
 have Q0:=St.delS I0 .hd
 have C2:=St.delT I0 .hd
 refine bk h fun B4 c4 h=>jE (bd 150) rfl (e2 rfl rfl) (fun p q=>al_c n (Q0.hL hL q) (Av (Rep.at_ (α:=UInt64) (v:=(vS X1 1)) (xs:=([g0]:List UInt64)) Q0 L (Bv (α:=UInt64) I0 .hd (jC g0 (vU g0) I0 L rfl) hL)) q) c4) rfl fun p5 Z4 I2 ⟨F1,hu_,A3⟩=>?_
 subst hu_
 obtain ⟨R0,D2⟩:=Q0.agr I2
 refine Ac (FV.field1 (cs:=[.bool B4.fj,F1]) (off:=1) (m:=1) rfl rfl rfl rfl)<|Ag rfl<|Ag rfl<|Aa<|Am rfl ?_
 have J0:=St.delS R0 .hd
 have E2:=St.delT R0 .hd
 have B3:=Rep.at_ (α:=UInt64) (v:=(.slice (some ⟨c0,0,none⟩) ((a0.length:Nat):Int).toNat ((a0.length:Nat):Int).toNat)) (xs:=z0) J0 L (Bv (α:=UInt64) R0 .hd (AL V0 (Tt B2 (Tt C2 D2))) hL)
 refine Aq hb0 func214 rfl (.cons (.tmp rfl) (.cons (.tmp rfl) .nil)) rfl ?_
 cases h
 exact ⟨J0.ag,fun p q=>⟨(.slice (some ⟨c0,0,none⟩) ((a0.length:Nat):Int).toNat ((a0.length:Nat):Int).toNat),F1,rfl,J0.kd B3 q,J0.kd (Az A3 E2) q⟩⟩
 refine Ap<|Ae<|Af rfl<|Ag rfl<|Aa<|Ak<|Ae<|Af rfl<|bk h fun M1 d4 h=>Bf (vI M1) (bd 226) rfl (e1 rfl) (fun p q=>bX_c n (t0.hL0 hL q) (t0.k0 h0_0 q) d4) rfl<|Af rfl<|bk h fun P1 g4 h=>Bf (vI P1) (bd 226) rfl (e1 rfl) (fun p q=>bX_c n (t0.hL0 hL q) (t0.k0 h1_0 q) g4) rfl<|bk h fun u4 I3 h=>Ac (FV.subc (i:=M1) (j:=P1) rfl rfl I3)<|Ag rfl<|Aa<|Au ?_
 obtain ⟨W4,v3,c3⟩:=av h
 refine MX.lf (α:=(List UInt64) × Int × (List UInt64) × Value × (List Value)) (fun ⟨F0,s0,p0,A0,x0⟩=>[(1,v1_0),(4,(.slice (some ⟨c0,0,none⟩) ((a0.length:Nat):Int).toNat ((a0.length:Nat):Int).toNat)),(5,A0),(8,vI s0)]) (fun ⟨F0,s0,p0,A0,x0⟩=>[rr w 44 UInt64 (.slice (some ⟨c0,0,none⟩) ((a0.length:Nat):Int).toNat ((a0.length:Nat):Int).toNat) p0.length x0]) (fun ⟨F0,s0,p0,A0,x0⟩ c1=>Rep.R c1 (bl [rr w 44 UInt64 (.slice (some ⟨c0,0,none⟩) ((a0.length:Nat):Int).toNat ((a0.length:Nat):Int).toNat) p0.length x0] ++ L) [A0] F0/\Cells c1 (bl [rr w 44 UInt64 (.slice (some ⟨c0,0,none⟩) ((a0.length:Nat):Int).toNat ((a0.length:Nat):Int).toNat) p0.length x0] ++ L) x0 p0) (fun ⟨F0,s0,p0,A0,x0⟩=>(F0,s0,p0)) (a0,u4,g1,v0_0,(List.replicate ((a0.length:Nat):Int).toNat [vW 0]).flatten) v3 t0 ⟨(AQ h0_0 t0),u1⟩ ?_
 rintro F4 ⟨F0,s0,p0,A0,x0⟩ c1 u2 H0 F2 ⟨C1,W0⟩ h
 unfold aw_l2 at h
 try dsimp only at h
 refine Ak<|Ae<|Af rfl<|Ac (FV.geq (i:=s0) (j:=0) rfl rfl)<|Aa<|AI rfl h (fun c2 h=>?_) (fun c2 h=>?_)
 refine Ap<|Ak<|Au<|Ae<|Af rfl<|Af rfl<|bk h fun v5 j4 h=>jE (bd 227) rfl (e2 rfl rfl) (fun p q=>bQ_c n (H0.hL hL q) (H0.km h1_0 q) j4) rfl fun q5 b5 J2 ⟨X4,hu_,D1⟩=>?_
 subst hu_
 obtain ⟨D0,M0⟩:=H0.agr J2
 refine Ag rfl<|Aa<|Ae<|Af rfl<|Af rfl<|bk h fun Q1 k4 h=>?_
 have Z0:=Az C1 M0
 refine Bf (vI Q1) (bd 191) rfl (e2 rfl rfl) (fun p q=>a9_c n (D0.hL0 hL q) (D0.kd Z0 q) (D0.kd D1 q) k4) rfl<|Ac (FV.geq (i:=Q1) (j:=0) rfl rfl)<|Aa<|MX.jf (α:=(List UInt64) × (List UInt64) × Value × (List Value)) (fun ⟨G0,v0,E0,y0⟩=>[(1,v1_0),(4,(.slice (some ⟨c0,0,none⟩) ((a0.length:Nat):Int).toNat ((a0.length:Nat):Int).toNat)),(5,E0),(8,vI s0)]) (fun ⟨G0,v0,E0,y0⟩=>[rr w 44 UInt64 (.slice (some ⟨c0,0,none⟩) ((a0.length:Nat):Int).toNat ((a0.length:Nat):Int).toNat) v0.length y0]) (fun ⟨G0,v0,E0,y0⟩ d1=>Rep.R d1 (bl [rr w 44 UInt64 (.slice (some ⟨c0,0,none⟩) ((a0.length:Nat):Int).toNat ((a0.length:Nat):Int).toNat) v0.length y0] ++ L) [E0] G0/\Cells d1 (bl [rr w 44 UInt64 (.slice (some ⟨c0,0,none⟩) ((a0.length:Nat):Int).toNat ((a0.length:Nat):Int).toNat) v0.length y0] ++ L) y0 v0) (fun ⟨G0,v0,E0,y0⟩=>(G0,v0)) D0 h ?_ ?_
 rintro ⟨G0,v0,E0,y0⟩ d1 x2 G2 ⟨C3,Q2⟩ h
 try dsimp only at h
 refine Ay<|Ao<|Af rfl<|bk h fun v4 J3 h=>Ac (FV.subc (i:=s0) (j:=1) rfl rfl J3)<|Ag rfl<|Aa<|u2 (G0,v4,v0,E0,y0) x2 (Tt F2 (Tt M0 G2)) ⟨C3,Q2⟩ h
 intro G4 k1 h
 try dsimp only at h
 refine AI rfl h (fun d2 h=>?_) (fun d2 h=>?_)
 refine Ae<|Af rfl<|Af rfl<|bk h fun x5 p4 h=>jE (bd 192) rfl (e2 rfl rfl) (fun p q=>bj_c n (D0.hL hL q) (Av Z0 q) (Av D1 q) p4) rfl fun s5 c5 K2 ⟨Y4,hu_,D3⟩=>?_
 subst hu_
 obtain ⟨p1,q1⟩:=D0.agr K2
 refine bk h fun R1 q4 h=>jE (bd 150) rfl (e2 rfl rfl) (fun p q=>al_c n (p1.hL hL q) (Av D3 q) q4) rfl fun t5 d5 M2 ⟨G1,hu_,E3⟩=>?_
 subst hu_
 obtain ⟨U0,s1⟩:=p1.agr M2
 refine Ac (FV.field1 (cs:=[.bool R1.fj,G1]) (off:=1) (m:=1) rfl rfl rfl rfl)<|Ag rfl<|Aa<|du 10 fun j0 u0=>Rv 0 j0 rfl u0 (fun _=>Aj rfl)<|Rv 1 j0 rfl u0 (fun _=>Aj rfl)<|bk h fun b1 K3 h=>Rv 2 j0 rfl u0 (fun _=>FV.quoc (i:=s0) (j:=64) rfl rfl K3)<|bk h fun K1 W3 h=>?_
 obtain ⟨y1,X3⟩:=aI W3
 have B1:=AL W0 (Tt M0 (Tt q1 s1))
 obtain ⟨V1,M4,P0,Y0,q2,F3,t3⟩:=St.nth (α:=UInt64) U0 .hd B1 X3
 obtain ⟨Y1,P4,x1⟩:=Bu (α:=UInt64) U0 .hd Y0
 obtain rfl:V1 = ⟨Y1,0,none⟩:=by rw [x1] at P0; cases P0; rfl
 have Z2:q2 = [vU K1]:=F3; subst Z2
 refine Rv 3 j0 rfl u0 (fun _=>Bh 1 (b1.toNat) rfl P0 rfl y1 Y0)<|Rx 4 1792 j0 rfl u0 (AZ rfl (t3 0 _ rfl))<|Rv 5 j0 rfl u0 (fun _=>Aj rfl)<|bk h fun x4 M3 h=>Rv 6 j0 rfl u0 (fun _=>FV.remc (i:=s0) (j:=64) rfl rfl M3)<|bk h fun s4 p3 h=>Rv 7 j0 rfl u0 (fun _=>FV.shlI (a:=(1:UInt64)) (i:=x4) rfl rfl p3)<|Rv 8 j0 rfl u0 (fun _=>FV.orU (a:=K1) (b:=shlU (1:UInt64) s4) rfl rfl)<|Rv 9 j0 rfl u0 (fun _=>Bh 1 (b1.toNat) rfl P0 rfl y1 Y0)<|bk h fun A4 Z3 h=>By (i:=10) (rk j0) (RO.acts (m' :=2047) (sk j0) rfl rfl .plain (Acts.set (α:=UInt64) (i:=b1.toNat) Z3 U0 x1 (fun _=>.hd) B1 rfl rfl rfl rfl rfl rfl) (fun u5 ⟨s2,y2,t1,R2⟩=>?_))
 refine AH (dk j0)<|k1 (R1.fo,A4,G1,s2) y2 (Tt q1 (Tt s1 t1)) ⟨(Az E3 t1),R2⟩ h
 refine Ap<|k1 (F0,p0,A0,x0) D0 (Tr.refl _ _) ⟨Z0,(AL W0 M0)⟩ h
 refine AT rfl ?_
 have h:=c3 _ h
 try dsimp only at h
 refine Ae<|Af rfl<|Af rfl<|Ag rfl<|Ag rfl<|Aa<|Am rfl ?_
 have K0:=St.delS H0 .hd
 have H2:=St.delT H0 .hd
 have G3:=Rep.at_ (α:=UInt64) (v:=(.slice (some ⟨c0,0,none⟩) ((a0.length:Nat):Int).toNat ((a0.length:Nat):Int).toNat)) (xs:=p0) K0 L (Bv (α:=UInt64) H0 .hd W0 hL)
 refine Aq hb0 func214 rfl (.cons (.tmp rfl) (.cons (.tmp rfl) .nil)) rfl ?_
 cases h
 exact ⟨K0.ag,fun p q=>⟨(.slice (some ⟨c0,0,none⟩) ((a0.length:Nat):Int).toNat ((a0.length:Nat):Int).toNat),A0,rfl,K0.kd G3 q,K0.kd (Az C1 H2) q⟩⟩
def ar_l1 (n:Nat) (d0:(List UInt64) × (List UInt64) -> Option (List UInt64)):(List UInt64) × (List UInt64) -> Option (List UInt64)
  | (c0,b0)=>(if 0 < b0.length then (aw_p n c0 b0).bind fun g0=>d0 (b0,g0.2) else some c0)
def ar_p (n:Nat) (a0:Tg) (a1:Tg):Option Tg:=
  Option.bind (ao (ar_l1 n) n (a0.fo,a1.fo)) (fun b0=>some (⟨false,b0⟩:Tg))
theorem ar_c (n:Nat) {L w} (hL:hl L w) (a0:Tg) {v0_1:Value} (h0_1:Rep.R w L [v0_1] a0.fo) (a1:Tg) {v1_1:Value} (h1_1:Rep.R w L [v1_1] a1.fo)  {r:Tg} (h:ar_p n a0 a1 = some r) :
 Cl 182 #[.agg #[.bool a0.fj,v0_1],.agg #[.bool a1.fj,v1_1]] w (ak w fun w' u=>∃ v0_1:Value,u = .agg #[.bool r.fj,v0_1]/\Rep.R w' L [v0_1] r.fo):=by
 unfold ar_p at h
 refine AC func182 rfl rfl rfl fun _ cs0 hb0=>Ae<|RG.bx (Ax w) rfl rfl fun s1 W0 C0 Z0=>RG.bx C0 rfl rfl fun u1 X0 D0 b1=>RG.nl [.bool false,vN] D0 fun v1 p0 t0 c1=>Aa<|Ak<|du 6 fun d0 j0=>Rv 0 d0 rfl j0 (fun _=>Bo 1 rfl)<|Rx 1 48 d0 rfl j0 (AZ rfl ((t0.memA .t2) 1 _ rfl))<|Rv 2 d0 rfl j0 (fun _=>Bo 1 rfl)<|Rx 3 32 d0 rfl j0 (AZ rfl ((t0.memA .t1) 1 _ rfl))<|Rv 4 d0 rfl j0 (fun _=>Bc rfl)<|Rv 5 d0 rfl j0 (fun _=>Bc rfl)<|AH (dk d0)<|Ak<|Au ?_
 obtain ⟨u0,d1⟩:=AN t0 (.a0 .done)
 obtain ⟨k1,J0,I0⟩:=av h
 refine MX.lf (α:=(List UInt64) × (List UInt64) × Value × Value) (fun ⟨k0,c0,b0,g0⟩=>[(4,vP p0),(5,b0),(6,g0)]) (fun ⟨k0,c0,b0,g0⟩=>[.cells p0 [.bool false,vN] 129]) (fun ⟨k0,c0,b0,g0⟩ y0=>Rep.R y0 (bl [.cells p0 [.bool false,vN] 129] ++ L) [b0] k0/\Rep.R y0 (bl [.cells p0 [.bool false,vN] 129] ++ L) [g0] c0) (fun ⟨k0,c0,b0,g0⟩=>(k0,c0)) (a0.fo,a1.fo,v0_1,v1_1) J0 u0 ⟨(AQ h0_1 u0),(AQ h1_1 u0)⟩ ?_
 rintro V0 ⟨k0,c0,b0,g0⟩ y0 B0 v0 F0 ⟨q0,s0⟩ h
 unfold ar_l1 at h
 try dsimp only at h
 refine Ak<|Ae<|Af rfl ?_
 have g1:c0.length <= 281474976710656:=AY s0
 refine Ac (Be (xs:=c0) underlying127 rfl s0)<|Ac (FV.gtrN (i:=c0.length) (j:=0) rfl rfl)<|Aa<|AI rfl h (fun A0 h=>?_) (fun A0 h=>?_)
 refine Ap<|Au<|Ae<|Af rfl<|Af rfl<|bk h fun R0 P0 h=>jE (bd 214) rfl (e2 rfl rfl) (fun p q=>aw_c n (v0.hL hL q) (Av q0 q) (Av s0 q) P0) rfl fun x1 q1 H0 ⟨p1,Q0,hu_,j1,K0⟩=>?_
 subst hu_
 obtain ⟨E0,z0⟩:=v0.agr H0
 refine Af rfl<|Ac (Ai rfl rfl)<|Ac (Ai rfl rfl)<|Ag rfl<|Ag rfl<|Aa<|Ao<|Af rfl<|Af rfl<|Ag rfl<|Ag rfl<|Aa<|Ay<|B0 (c0,R0.2,g0,Q0) E0 (Tt F0 z0) ⟨(Az s0 z0),K0⟩ h
 refine AT rfl ?_
 have h:=I0 _ h
 try dsimp only at h
 refine Ae<|Af rfl ?_
 obtain ⟨U0,Y0,M0,_⟩:=Rep.sl q0
 refine Ac (AX (vs:=[b0]) (u:=.agg #[.bool false,b0]) (e1 rfl) (fun p=>by rw [M0]; try kernel_rfl))<|AW [.bool false,b0] v0 .hd (o2 rfl (Bd q0)) fun y1 x0 G0=>Aa<|Am rfl<|Aq hb0 func182 rfl (.cons (.many (cs:=[.bool false,b0]) rfl rfl (x0.memA .hd)) .nil) rfl ?_
 cases h
 exact ⟨x0.ag,fun p q=>⟨b0,rfl,x0.kd (Az q0 G0) q⟩⟩
def bE_l1 (_n:Nat) (xs4:List UInt64) (xs7:List UInt64) (k0:UInt64 × Nat × (List UInt64) -> Option ((List UInt64) × UInt64)):UInt64 × Nat × (List UInt64) -> Option ((List UInt64) × UInt64)
  | (g0,b0,c0)=>(if b0 < xs4.length then (xs4[b0]?).bind fun q0=>jn (fun p0=>(add64 q0 p0 g0).bind fun j0=>(c0[b0]?).bind fun _x199=>(put c0 ((b0:Nat):Int) j0.1).bind fun t0=>k0 (j0.2,b0 + 1,t0)) (fun d0=>(if b0 < xs7.length then (xs7[b0]?).bind fun s0=>d0 s0 else d0 (0:UInt64))) else some (c0,g0))
def bE_p (n:Nat) (a0:List UInt64) (a1:List UInt64):Option (List UInt64):=
  jn (fun (xs4,xs7)=>(mk ((xs4.length + 1:Nat):Int) (0:UInt64)).bind fun g0=>Option.bind (ao (bE_l1 n xs4 xs7) n (0,0,g0)) (fun (c0,d0)=>(c0[xs4.length]?).bind fun _x229=>(put c0 ((xs4.length:Nat):Int) d0).bind fun j0=>some j0)) (fun b0=>(if a0.length < a1.length then b0 (a1,a0) else b0 (a0,a1)))
theorem bE_c (n:Nat) {L w} (hL:hl L w) {a0:List UInt64} {v0_0:Value} (h0_0:Rep.R w L [v0_0] a0) {a1:List UInt64} {v1_0:Value} (h1_0:Rep.R w L [v1_0] a1)  {r:List UInt64} (h:bE_p n a0 a1 = some r) :
 Cl 190 #[v0_0,v1_0] w (ak w fun w' u=>∃ v0_0:Value,u = v0_0/\Rep.R w' L [v0_0] r):=by
 unfold bE_p at h
 have hS0:=Ax w
 refine AC func190 rfl rfl rfl fun _ cs0 hb0=>Ae<|Ag rfl<|Aa<|Ak<|Ae<|Af rfl ?_
 have hl1:a0.length <= 281474976710656:=AY h0_0
 refine Ac (Be (xs:=a0) underlying127 rfl h0_0)<|Af rfl ?_
 have hl2:a1.length <= 281474976710656:=AY h1_0
 refine Ac (Be (xs:=a1) underlying127 rfl h1_0)<|Ac (Bm (i:=a0.length) (j:=a1.length) rfl rfl)<|Aa<|MX.jf (α:=(List UInt64) × (List UInt64) × Value × Value) (fun ⟨xs4,xs7,v5,v8⟩=>[(0,v5),(1,v8)]) (fun ⟨xs4,xs7,v5,v8⟩=>[]) (fun ⟨xs4,xs7,v5,v8⟩ wx9=>Rep.R wx9 (bl [] ++ L) [v5] xs4/\Rep.R wx9 (bl [] ++ L) [v8] xs7) (fun ⟨xs4,xs7,v5,v8⟩=>(xs4,xs7)) hS0 h ?_ ?_
 rintro ⟨xs4,xs7,v5,v8⟩ wx9 q1 D2 ⟨hr6,hr9⟩ h
 try dsimp only at h
 refine Ae<|Af rfl ?_
 have G2:xs4.length <= 281474976710656:=AY hr6
 refine Ac (Be (xs:=xs4) underlying127 rfl hr6)<|Ac (Bg (i:=xs4.length) (j:=1) rfl rfl (by omega))<|bk h fun R0 M0 h=>Al .plain rfl (Does.mk (α:=UInt64) M0 q1 ck rfl) fun M2 j0 E0 s0=>Ag rfl<|Aa<|Ae<|Ag rfl<|Aa<|Ak<|Ae<|Af rfl<|Ac (Be (xs:=xs4) underlying127 rfl (Az hr6 s0))<|Af rfl<|Aa<|Au ?_
 obtain ⟨K2,J1,E1⟩:=av h
 refine MX.lf (α:=UInt64 × Nat × (List UInt64) × (List Value)) (fun ⟨g0,b0,c0,d0⟩=>[(0,v5),(1,v8),(5,(.slice (some ⟨j0,0,none⟩) ((xs4.length + 1:Nat):Int).toNat ((xs4.length + 1:Nat):Int).toNat)),(6,vU g0),(21,v5),(22,vI ((xs4.length:Nat):Int)),(23,vI ((b0:Nat):Int))]) (fun ⟨g0,b0,c0,d0⟩=>[rr w 44 UInt64 (.slice (some ⟨j0,0,none⟩) ((xs4.length + 1:Nat):Int).toNat ((xs4.length + 1:Nat):Int).toNat) c0.length d0]) (fun ⟨g0,b0,c0,d0⟩ P0=>Cells P0 (bl [rr w 44 UInt64 (.slice (some ⟨j0,0,none⟩) ((xs4.length + 1:Nat):Int).toNat ((xs4.length + 1:Nat):Int).toNat) c0.length d0] ++ L) d0 c0) (fun ⟨g0,b0,c0,d0⟩=>(g0,b0,c0)) (0,0,R0,(List.replicate ((xs4.length + 1:Nat):Int).toNat [vW 0]).flatten) J1 E0 (AE (cs:=(List.replicate ((xs4.length + 1:Nat):Int).toNat [vW 0]).flatten) (xs:=R0) E0 L (Cells.mk M0 rfl)) ?_
 rintro t2 ⟨g0,b0,c0,d0⟩ P0 p1 k0 q0 x0 h
 unfold bE_l1 at h
 try dsimp only at h
 refine Ae<|Ac (Bm (i:=b0) (j:=xs4.length) rfl rfl)<|Aa<|Ak<|AI rfl h (fun Y0 h=>?_) (fun Y0 h=>?_)
 refine Ap<|Ak<|Au<|Ae<|Af rfl<|bk h fun B0 U1 h=>?_
 obtain ⟨p2,v2,y1,F1,c1,K1,H1⟩:=Bl (Az hr6 (Tt s0 q0)) U1
 have z1:c1 = [vU B0]:=K1; subst z1
 refine Ac (Bh 1 b0 rfl y1 rfl rfl F1)<|AO rfl (H1 0 _ rfl)<|Ag rfl<|Ag rfl<|Aa<|Ae<|Ag rfl<|Aa<|Ak<|Ae<|Af rfl<|Af rfl ?_
 have A0:=Az hr9 (Tt s0 q0)
 have H2:xs7.length <= 281474976710656:=AY A0
 refine Ac (Be (xs:=xs7) underlying127 rfl A0)<|Ac (Bm (i:=b0) (j:=xs7.length) rfl rfl)<|Aa<|MX.jo (α:=UInt64) (fun p0=>[(0,v5),(1,v8),(5,(.slice (some ⟨j0,0,none⟩) ((xs4.length + 1:Nat):Int).toNat ((xs4.length + 1:Nat):Int).toNat)),(6,vU g0),(21,v5),(22,vI ((xs4.length:Nat):Int)),(23,vI ((b0:Nat):Int)),(7,vI ((b0:Nat):Int)),(8,vU B0),(9,vU p0)]) (fun p0=>[rr w 44 UInt64 (.slice (some ⟨j0,0,none⟩) ((xs4.length + 1:Nat):Int).toNat ((xs4.length + 1:Nat):Int).toNat) c0.length d0]) (fun p0=>p0) k0 h ?_ ?_
 rintro p0 R2 t0 F0 h
 try dsimp only at h
 refine Ao<|Af rfl<|Af rfl<|Af rfl<|Af rfl<|Af rfl<|bk h fun k2 b2 h=>Ac (FV.add64 (a:=B0) (b:=p0) (c:=g0) func189 rfl rfl rfl rfl rfl rfl rfl b2)<|Af rfl<|Ac (Ai rfl rfl)<|Ac (Ai rfl rfl)<|bk h fun c2 V1 h=>?_
 have K0:=AL x0 F0
 obtain ⟨U0,x2,y0,I0,d1,M1,I2⟩:=St.nth (α:=UInt64) t0 .hd K0 V1
 obtain ⟨W0,y2,G0⟩:=Bu (α:=UInt64) t0 .hd I0
 obtain rfl:U0 = ⟨W0,0,none⟩:=by rw [G0] at y0; cases y0; rfl
 have A1:d1 = [vU c2]:=M1; subst A1
 refine Ac (Bh 1 b0 rfl y0 rfl rfl I0)<|bk h fun g2 Y1 h=>RG.acts' .plain (Acts.set (α:=UInt64) (i:=b0) Y1 t0 G0 (fun _=>.hd) K0 rfl rfl rfl rfl rfl rfl) fun P2 ⟨g1,s1,u1,v1⟩=>Ag rfl<|Aa<|Ay<|Ao<|Ac (Bg (i:=b0) (j:=1) rfl rfl (by omega))<|Af rfl<|Aa<|p1 (k2.2,b0 + 1,g2,g1) s1 (Tt q0 (Tt F0 u1)) v1 h
 intro u2 D0 h
 try dsimp only at h
 refine AI rfl h (fun Z0 h=>?_) (fun Z0 h=>?_)
 refine Ao<|Af rfl<|Af rfl<|bk h fun Q0 W1 h=>?_
 obtain ⟨q2,z2,B1,G1,j1,P1,I1⟩:=Bl A0 W1
 have C1:j1 = [vU Q0]:=P1; subst C1
 refine Ac (Bh 1 b0 rfl B1 rfl rfl G1)<|AO rfl (I1 0 _ rfl)<|Ag rfl<|Aa<|D0 Q0 k0 (Tr.refl _ _) h
 refine Ap<|D0 (0:UInt64) k0 (Tr.refl _ _) h
 refine AT rfl ?_
 have h:=E1 _ h
 try dsimp only at h
 refine Ae<|Af rfl<|Af rfl<|Ac (Be (xs:=xs4) underlying127 rfl (Az hr6 (Tt s0 q0)))<|Af rfl<|bk h fun d2 X1 h=>?_
 obtain ⟨V0,A2,z0,J0,k1,Q1,J2⟩:=St.nth (α:=UInt64) k0 .hd x0 X1
 obtain ⟨X0,B2,H0⟩:=Bu (α:=UInt64) k0 .hd J0
 obtain rfl:V0 = ⟨X0,0,none⟩:=by rw [H0] at z0; cases z0; rfl
 have D1:k1 = [vU d2]:=Q1; subst D1
 refine Ac (Bh 1 (xs4.length) rfl z0 rfl rfl J0)<|bk h fun j2 Z1 h=>RG.acts' .plain (Acts.set (α:=UInt64) (i:=xs4.length) Z1 k0 H0 (fun _=>.hd) x0 rfl rfl rfl rfl rfl rfl) fun Q2 ⟨C2,u0,E2,x1⟩=>Aa<|Ae<|Af rfl<|Ag rfl<|Aa<|Am rfl ?_
 have v0:=St.delS u0 .hd
 have F2:=St.delT u0 .hd
 have R1:=Rep.at_ (α:=UInt64) (v:=(.slice (some ⟨j0,0,none⟩) ((xs4.length + 1:Nat):Int).toNat ((xs4.length + 1:Nat):Int).toNat)) (xs:=j2) v0 L (Bv (α:=UInt64) u0 .hd x1 hL)
 refine AU hb0 func190 rfl rfl ?_
 cases h
 exact ⟨v0.ag,fun p q=>⟨(.slice (some ⟨j0,0,none⟩) ((xs4.length + 1:Nat):Int).toNat ((xs4.length + 1:Nat):Int).toNat),rfl,v0.kd R1 q⟩⟩
 intro s2 C0 h
 try dsimp only at h
 refine AI rfl h (fun b1 h=>?_) (fun b1 h=>?_)
 refine Ao<|Af rfl<|Af rfl<|Ag rfl<|Ag rfl<|Aa<|C0 (a1,a0,v1_0,v0_0) hS0 (Tr.refl _ _) ⟨h1_0,h0_0⟩ h
 refine Ap<|C0 (a0,a1,v0_0,v1_0) hS0 (Tr.refl _ _) ⟨h0_0,h1_0⟩ h
def aW_p (n:Nat) (a0:Tg) (a1:Tg):Option Tg:=
  (if (a0.fj == a1.fj) = true then (bE_p n a0.fo a1.fo).bind fun j0=>(al_p n a0.fj j0).bind fun k0=>some k0 else (a9_p n a0.fo a1.fo).bind fun p0=>jn (fun (_q58,d0,c0,g0)=>(bj_p n g0 d0).bind fun q0=>(al_p n c0 q0).bind fun s0=>some s0) (fun b0=>(if p0 < 0 then b0 (a0.fj,a0.fo,a1.fj,a1.fo) else b0 (a1.fj,a1.fo,a0.fj,a0.fo))))
theorem aW_c (n:Nat) {L w} (hL:hl L w) (a0:Tg) {v0_1:Value} (h0_1:Rep.R w L [v0_1] a0.fo) (a1:Tg) {v1_1:Value} (h1_1:Rep.R w L [v1_1] a1.fo)  {r:Tg} (h:aW_p n a0 a1 = some r) :
 Cl 153 #[.agg #[.bool a0.fj,v0_1],.agg #[.bool a1.fj,v1_1]] w (ak w fun w' u=>∃ v0_1:Value,u = .agg #[.bool r.fj,v0_1]/\Rep.R w' L [v0_1] r.fo):=by
 unfold aW_p at h
 refine AC func153 rfl rfl rfl fun _ cs0 hb0=>Ae<|RG.bx (Ax w) rfl rfl fun Y1 y0 X0 F1=>RG.bx X0 rfl rfl fun Z1 z0 Y0 G1=>RG.nl [.bool false,vN] Y0 fun b2 A0 b0 H1=>Aa<|Ak<|Ae<|Bk 0 rfl<|AO rfl ((b0.memA .t2) 0 _ rfl)<|Bk 0 rfl<|AO rfl ((b0.memA .t1) 0 _ rfl)<|Ac (FV.eqlB (a:=a0.fj) (b:=a1.fj) underlying4 rfl rfl)<|Aa<|MX.ifb rfl h (fun V0 h=>?_) (fun V0 h=>?_)
 refine Ak<|du 8 fun c0 s0=>Rv 0 c0 rfl s0 (fun _=>Bo 0 rfl)<|Rx 1 384 c0 rfl s0 (AZ rfl ((b0.memA .t2) 0 _ rfl))<|Rv 2 c0 rfl s0 (fun _=>Bo 1 rfl)<|Rx 3 448 c0 rfl s0 (AZ rfl ((b0.memA .t2) 1 _ rfl))<|Rv 4 c0 rfl s0 (fun _=>Bo 1 rfl)<|Rx 5 448 c0 rfl s0 (AZ rfl ((b0.memA .t1) 1 _ rfl))<|bk h fun u2 z1 h=>BA 6 127 c0 rfl .plain (bd 190) rfl (e2 rfl rfl) (fun p q=>bE_c n (b0.hL hL q) (b0.km h0_1 q) (b0.km h1_1 q) z1) rfl fun c2 U1 k1 ⟨Q1,hu_,u1⟩=>?_
 subst hu_
 obtain ⟨I0,I1⟩:=b0.agr k1
 refine bk h fun Q0 A1 h=>BA 7 255 c0 rfl .plain (bd 150) rfl (e2 rfl rfl) (fun p q=>al_c n (I0.hL hL q) (Av u1 q) A1) rfl fun d2 V1 p1 ⟨E0,hu_,M0⟩=>?_
 subst hu_
 obtain ⟨Z0,J1⟩:=I0.agr p1
 refine BB 8 511 c0 rfl rfl .plain (AB (news:=[.bool Q0.fj,E0]) Z0 .hd rfl rfl rfl rfl rfl rfl (o2 rfl (Bd M0))) fun g2 C0 d1=>AH (dk c0)<|Am rfl<|Aq hb0 func153 rfl (.cons (.many (cs:=[.bool Q0.fj,E0]) rfl rfl (C0.memA .hd)) .nil) rfl ?_
 cases h
 exact ⟨C0.ag,fun p q=>⟨E0,rfl,C0.kd (Az M0 d1) q⟩⟩
 refine Ap<|Ak<|Ae<|Bk 1 rfl<|AO rfl ((b0.memA .t2) 1 _ rfl)<|Bk 1 rfl<|AO rfl ((b0.memA .t1) 1 _ rfl)<|bk h fun R0 B1 h=>Bf (vI R0) (bd 191) rfl (e2 rfl rfl) (fun p q=>a9_c n (b0.hL0 hL q) (b0.k0 h0_1 q) (b0.k0 h1_1 q) B1) rfl<|Ac (FV.lss (i:=R0) (j:=0) rfl rfl)<|Aa<|MX.jf (α:=Bool × (List UInt64) × Bool × (List UInt64) × Value × Value) (fun ⟨g0,u0,j0,v0,p0,q0⟩=>[(2,vP y0),(3,vP z0),(4,vP A0)]) (fun ⟨g0,u0,j0,v0,p0,q0⟩=>[.cells A0 [.bool false,vN] 129,.cells z0 [.bool g0,p0] 129,.cells y0 [.bool j0,q0] 129]) (fun ⟨g0,u0,j0,v0,p0,q0⟩ G0=>Rep.R G0 (bl [.cells A0 [.bool false,vN] 129,.cells z0 [.bool g0,p0] 129,.cells y0 [.bool j0,q0] 129] ++ L) [p0] u0/\Rep.R G0 (bl [.cells A0 [.bool false,vN] 129,.cells z0 [.bool g0,p0] 129,.cells y0 [.bool j0,q0] 129] ++ L) [q0] v0) (fun ⟨g0,u0,j0,v0,p0,q0⟩=>(g0,u0,j0,v0)) b0 h ?_ ?_
 rintro ⟨g0,u0,j0,v0,p0,q0⟩ G0 x0 K1 ⟨v1,x1⟩ h
 try dsimp only at h
 refine Ak<|du 8 fun d0 t0=>Rv 0 d0 rfl t0 (fun _=>Bo 0 rfl)<|Rx 1 384 d0 rfl t0 (AZ rfl ((x0.memA .t2) 0 _ rfl))<|Rv 2 d0 rfl t0 (fun _=>Bo 1 rfl)<|Rx 3 448 d0 rfl t0 (AZ rfl ((x0.memA .t2) 1 _ rfl))<|Rv 4 d0 rfl t0 (fun _=>Bo 1 rfl)<|Rx 5 448 d0 rfl t0 (AZ rfl ((x0.memA .t1) 1 _ rfl))<|bk h fun v2 C1 h=>BA 6 127 d0 rfl .plain (bd 192) rfl (e2 rfl rfl) (fun p q=>bj_c n (x0.hL hL q) (Av x1 q) (Av v1 q) C1) rfl fun j2 W1 q1 ⟨R1,hu_,y1⟩=>?_
 subst hu_
 obtain ⟨J0,M1⟩:=x0.agr q1
 refine bk h fun U0 D1 h=>BA 7 255 d0 rfl .plain (bd 150) rfl (e2 rfl rfl) (fun p q=>al_c n (J0.hL hL q) (Av y1 q) D1) rfl fun k2 X1 s1 ⟨F0,hu_,P0⟩=>?_
 subst hu_
 obtain ⟨b1,P1⟩:=J0.agr s1
 refine BB 8 511 d0 rfl rfl .plain (AB (news:=[.bool U0.fj,F0]) b1 .hd rfl rfl rfl rfl rfl rfl (o2 rfl (Bd P0))) fun p2 D0 g1=>AH (dk d0)<|Am rfl<|Aq hb0 func153 rfl (.cons (.many (cs:=[.bool U0.fj,F0]) rfl rfl (D0.memA .hd)) .nil) rfl ?_
 cases h
 exact ⟨D0.ag,fun p q=>⟨F0,rfl,D0.kd (Az P0 g1) q⟩⟩
 intro E1 H0 h
 try dsimp only at h
 refine AI rfl h (fun W0 h=>?_) (fun W0 h=>?_)
 refine Ao<|Ac (AD rfl (b0.memA .t1))<|Ac (AD rfl (b0.memA .t2))<|AW [.bool a1.fj,v1_1] b0 .t2 (o2 rfl (Bd (AQ h1_1 b0))) fun q2 K0 j1=>AW [.bool a0.fj,v0_1] K0 .t1 (o2 rfl (Bd (AQ h0_1 K0))) fun s2 B0 c1=>Aa<|H0 (a0.fj,a0.fo,a1.fj,a1.fo,v0_1,v1_1) B0 (Tt j1 c1) ⟨(AQ h0_1 B0),(AQ h1_1 B0)⟩ h
 refine Ap<|H0 (a1.fj,a1.fo,a0.fj,a0.fo,v1_1,v0_1) b0 (Tr.refl _ _) ⟨(AQ h1_1 b0),(AQ h0_1 b0)⟩ h
end Go.Proofs.YtibdeoeglcngoaaGreatDoor
