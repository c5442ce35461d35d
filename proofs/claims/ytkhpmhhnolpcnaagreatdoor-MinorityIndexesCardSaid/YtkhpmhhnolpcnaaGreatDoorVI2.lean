import Derived.Test.YtkhpmhhnolpcnaaGreatDoorProg
import Derived.Test.YtkhpmhhnolpcnaaGreatDoorVMm
namespace Go.Proofs.YtkhpmhhnolpcnaaGreatDoor
open Go Go.RowKit Tryz
set_option maxRecDepth 4000
set_option maxHeartbeats 4000000
abbrev Cl := Calls Tryz.prog
theorem bd (k:Nat) (h:bh Tryz.prog k = true:=by kernel_rfl):bh Tryz.prog k = true:=h

structure Ta where
  fN:U8
  fD:U8
  deriving DecidableEq
instance:Rep Ta:=Rep.via (β:=(U8) × (U8)) fun x=>(x.fN,x.fD)
structure Tc where
  fB:Int
  deriving DecidableEq
instance:Rep Tc:=Rep.via (β:=Int) fun x=>x.fB
def aa (x:Ta):List Value:=[vU x.fN.1,vU x.fN.2.1,vU x.fN.2.2.1,vU x.fN.2.2.2.1,vU x.fN.2.2.2.2.1,vU x.fN.2.2.2.2.2.1,vU x.fN.2.2.2.2.2.2.1,vU x.fN.2.2.2.2.2.2.2,vU x.fD.1,vU x.fD.2.1,vU x.fD.2.2.1,vU x.fD.2.2.2.1,vU x.fD.2.2.2.2.1,vU x.fD.2.2.2.2.2.1,vU x.fD.2.2.2.2.2.2.1,vU x.fD.2.2.2.2.2.2.2]
def bT_p (_n:Nat) (a0:Int):Option (Except Tc Unit):=
  (if a0 = 0 then some (.ok ()) else some (.error (⟨a0⟩:Tc)))
theorem bT_c (n:Nat) {L w} (_hL:hl L w) {a0:Int}  {r:Except Tc Unit} (h:bT_p n a0 = some r) :
 Cl 76 #[vI a0] w (aD w (fun (_y:Unit) _ u=>u = .tuple #[]) (fun e=>.iface 131 (.agg #[vI e.fB])) r):=by
 unfold bT_p at h
 have hS0:=AB w
 refine BF func76 rfl rfl rfl fun _ cs0 hb0 hp0=>Ac<|Ae rfl<|Ab (FV.neq (i:=a0) (j:=0) rfl rfl)<|Aa<|MX.ifn rfl h (fun c1 h=>?_) (fun c1 h=>?_)
 refine Au<|MX.fin rfl<|Ap hb0 func76 rfl .nil rfl ?_
 cases h
 exact ⟨hS0.ag,fun w9 hw9=>ay rfl⟩
 refine Am<|Ae rfl<|Ab (AO (vs:=[vI a0]) (u:=.agg #[vI a0]) (e1 rfl) (fun w9=>by kernel_rfl))<|Ab (Bw rfl rfl)<|RG.panic .plain rfl ?_
 cases h
 exact Aq hp0 func76 ⟨hS0.ag,rfl⟩
def au_l1 (_n:Nat) (a0:List Bool) (a1:Bool) (c0:Nat -> Option (Int ⊕ Unit)):Nat -> Option (Int ⊕ Unit)
  | b0=>(if b0 < a0.length then (a0[b0]?).bind fun d0=>(if (a1 == d0) = true then some (.inl ((b0:Nat):Int)) else c0 (b0 + 1)) else some (.inr ()))
def au_p (n:Nat) (a0:List Bool) (a1:Bool):Option Int:=
  thn (ao (au_l1 n a0 a1) n 0) (fun _=>some (-1:Int))
theorem au_c (n:Nat) {L w} (_hL:hl L w) {a0:List Bool} {v0_0:Value} (h0_0:Rep.R w L [v0_0] a0) {a1:Bool}  {r:Int} (h:au_p n a0 a1 = some r) :
 Cl 130 #[v0_0,.bool a1] w (aj w fun _ u=>u = vI r):=by
 unfold au_p at h
 refine AG func130 rfl rfl rfl fun _ cs0 hb0=>Ac<|Ag rfl<|Aa<|Aj<|Ac<|Ae rfl ?_
 have hl1:a0.length <= 281474976710656:=Bh h0_0
 refine Ab (Bl (xs:=a0) underlying171 rfl h0_0)<|Ae rfl<|Aa<|Ay<|tn h fun E0 y0 d0=>MX.lo (α:=Nat) (fun b0=>[(0,v0_0),(1,.bool a1),(7,vI ((a0.length:Nat):Int)),(8,vI ((b0:Nat):Int))]) (fun b0=>[]) (fun b0=>b0) 0 y0 (AB w) ?_
 rintro C0 b0 F0 q0 c0 s0 h
 unfold au_l1 at h
 try dsimp only at h
 refine Ac<|Ab (Bn (i:=b0) (j:=a0.length) rfl rfl)<|Aa<|Aj<|AW rfl h (fun j0 h=>?_) (fun j0 h=>?_)
 refine Au<|Aj<|Ay<|Ac<|Ae rfl<|Ag rfl<|Aa<|Ac<|Ae rfl<|Ae rfl<|Ae rfl<|bk h fun g0 A0 h=>?_
 obtain ⟨B0,D0,t0,v0,p0,z0,x0⟩:=Br (AT h0_0 c0) A0
 have u0:p0 = [.bool g0]:=z0; subst u0
 refine Ab (Bu 1 b0 rfl t0 rfl rfl v0)<|AU rfl (x0 0 _ rfl)<|Ab (FV.eqlB (a:=a1) (b:=g0) underlying4 rfl rfl)<|Aa<|MX.ifb rfl h (fun k0 h=>?_) (fun k0 h=>?_)
 refine Ac<|Ae rfl<|Ag rfl<|Aa ?_
 have h:=ap h d0
 refine Ao rfl<|Bc hb0 func130 rfl rfl ?_
 cases h
 exact c0.gv
 refine Au<|AE<|Am<|Ab (Bp (i:=b0) (j:=1) rfl rfl (by omega))<|Ae rfl<|Aa<|q0 (b0 + 1) c0 s0 h
 refine Bf rfl ?_
 have h:=aH h d0
 try dsimp only at h
 refine Ac<|Ag rfl<|Aa<|Ao rfl<|Bc hb0 func130 rfl rfl ?_
 cases h
 exact c0.gv
def aW_p (n:Nat) (a0:List Bool) (a1:Bool):Option Bool:=
  (au_p n a0 a1).bind fun y1=>some (decide (0 <= y1))
theorem aW_c (n:Nat) {L w} (hL:hl L w) {a0:List Bool} {v0_0:Value} (h0_0:Rep.R w L [v0_0] a0) {a1:Bool}  {r:Bool} (h:aW_p n a0 a1 = some r) :
 Cl 117 #[v0_0,.bool a1] w (aj w fun _ u=>u = .bool r):=by
 unfold aW_p at h
 have hS0:=AB w
 refine AG func117 rfl rfl rfl fun _ cs0 hb0=>Ac<|Ag rfl<|Aa<|Ac<|Ae rfl<|Ae rfl<|bk h fun y1 hy1 h=>Bi (vI y1) (bd 130) rfl (e2 rfl rfl) (fun w9 hw9=>au_c n (hS0.hL0 hL hw9) (hS0.kd h0_0 hw9) hy1) rfl<|Ab (FV.geq (i:=y1) (j:=0) rfl rfl)<|Ag rfl<|Aa<|Ao rfl<|Bc hb0 func117 rfl rfl ?_
 cases h
 exact hS0.gv
def aU_p (n:Nat) (a0:List Bool):Option Bool:=
  (aW_p n a0 false).bind fun y1=>some (!y1)
theorem aU_c (n:Nat) {L w} (hL:hl L w) {a0:List Bool} {v0_0:Value} (h0_0:Rep.R w L [v0_0] a0)  {r:Bool} (h:aU_p n a0 = some r) :
 Cl 102 #[v0_0] w (aj w fun _ u=>u = .bool r):=by
 unfold aU_p at h
 have hS0:=AB w
 refine AG func102 rfl rfl rfl fun _ cs0 hb0=>Ac<|Ag rfl<|Aa<|Ac<|Ae rfl<|bk h fun y1 hy1 h=>Bi (.bool y1) (bd 117) rfl (e2 rfl rfl) (fun w9 hw9=>aW_c n (hS0.hL0 hL hw9) (hS0.kd h0_0 hw9) hy1) rfl<|Ab (FV.not rfl)<|Ag rfl<|Aa<|Ao rfl<|Bc hb0 func102 rfl rfl ?_
 cases h
 exact hS0.gv
def bj_l1 (_n:Nat) (a1:UInt8) (c0:ByteArray -> Option ByteArray):ByteArray -> Option ByteArray
  | b0=>(if 0 < b0.size then (b0.data[0]?).bind fun g0=>(if g0.toNat = a1.toNat then (ld b0 1 (b0.size:Int)).bind fun d0=>c0 d0 else some b0) else some b0)
def bj_p (n:Nat) (a0:ByteArray) (a1:UInt8):Option ByteArray:=
  jn (fun c0=>some c0) (fun b0=>Option.bind (ao (bj_l1 n a1) n a0) (b0))
theorem bj_c (n:Nat) {L w} (_hL:hl L w) {a0:ByteArray} (a1:UInt8)  {r:ByteArray} (h:bj_p n a0 a1 = some r) :
 Cl 131 #[.string a0,.int .u8 (a1.toNat:Int)] w (aj w fun _ u=>u = .string r):=by
 unfold bj_p at h
 have hS0:=AB w
 refine AG func131 rfl rfl rfl fun _ cs0 hb0=>Ac<|Ag rfl<|Aa<|Aj<|Ay<|MX.xo (α:=ByteArray) 0 (fun c0=>[(0,.string c0)]) (fun c0=>[]) (fun c0=>c0) hS0 rfl h ?_ ?_
 rintro c0 E0 t0 C0 h
 try dsimp only at h
 refine Ac<|Ae rfl<|Ag rfl<|Aa<|Ao rfl<|Bc hb0 func131 rfl rfl ?_
 cases h
 exact t0.gv
 intro A0 j0 h
 try dsimp only at h
 obtain ⟨D0,u0,k0⟩:=ax h
 refine MX.lo (α:=ByteArray) (fun b0=>[(0,.string b0),(1,.int .u8 (a1.toNat:Int))]) (fun b0=>[]) (fun b0=>b0) a0 u0 hS0 ?_
 rintro B0 b0 F0 s0 d0 g0 h
 unfold bj_l1 at h
 try dsimp only at h
 refine Aj<|Ac<|Ae rfl<|Ab (FV.len_string underlying9 rfl)<|Ab (FV.gtrN (i:=b0.size) (j:=0) rfl rfl)<|Ae rfl<|RG.ifd (s:=8) rfl h (fun p0 h=>?_) (fun p0 h=>?_)
 refine AX (Ak rfl)<|bk h fun z0 x0 h=>AX (FV.strAt (k:=0) underlying9 rfl rfl rfl x0)<|AX (Ak rfl)<|AX (FV.eqlN (i:=z0.toNat) (j:=a1.toNat) rfl rfl)<|RG.pt rfl rfl<|Aa<|AW rfl h (fun q0 h=>?_) (fun q0 h=>?_)
 refine Au<|Ay<|Am<|Ae rfl<|bk h fun y0 v0 h=>Ab (FV.strCut v0 underlying9 rfl ⟨_,rfl⟩ rfl)<|Ag rfl<|Aa<|AE<|s0 y0 d0 g0 h
 refine Bf rfl ?_
 have h:=k0 _ h
 try dsimp only at h
 exact j0 b0 d0 g0 h
 refine AL<|AL<|AL<|AL<|RG.pf rfl rfl<|Aa<|BA rfl<|Bf rfl ?_
 have h:=k0 _ h
 try dsimp only at h
 exact j0 b0 d0 g0 h
def ba_l1 (_n:Nat) (a1:UInt8) (c0:ByteArray -> Option ByteArray):ByteArray -> Option ByteArray
  | b0=>(if 0 < b0.size then (chk (((b0.size:Nat):Int) - 1)).bind fun d0=>(mU b0 d0).bind fun k0=>(if k0.toNat = a1.toNat then (chk (((b0.size:Nat):Int) - 1)).bind fun g0=>(ld b0 0 g0).bind fun j0=>c0 j0 else some b0) else some b0)
def ba_p (n:Nat) (a0:ByteArray) (a1:UInt8):Option ByteArray:=
  jn (fun c0=>some c0) (fun b0=>Option.bind (ao (ba_l1 n a1) n a0) (b0))
theorem ba_c (n:Nat) {L w} (_hL:hl L w) {a0:ByteArray} (a1:UInt8)  {r:ByteArray} (h:ba_p n a0 a1 = some r) :
 Cl 132 #[.string a0,.int .u8 (a1.toNat:Int)] w (aj w fun _ u=>u = .string r):=by
 unfold ba_p at h
 have hS0:=AB w
 refine AG func132 rfl rfl rfl fun _ cs0 hb0=>Ac<|Ag rfl<|Aa<|Aj<|Ay<|MX.xo (α:=ByteArray) 0 (fun c0=>[(0,.string c0)]) (fun c0=>[]) (fun c0=>c0) hS0 rfl h ?_ ?_
 rintro c0 K0 t0 H0 h
 try dsimp only at h
 refine Ac<|Ae rfl<|Ag rfl<|Aa<|Ao rfl<|Bc hb0 func132 rfl rfl ?_
 cases h
 exact t0.gv
 intro F0 j0 h
 try dsimp only at h
 obtain ⟨I0,v0,k0⟩:=ax h
 refine MX.lo (α:=ByteArray) (fun b0=>[(0,.string b0),(1,.int .u8 (a1.toNat:Int))]) (fun b0=>[]) (fun b0=>b0) a0 v0 hS0 ?_
 rintro G0 b0 M0 s0 d0 g0 h
 unfold ba_l1 at h
 try dsimp only at h
 refine Aj<|Ac<|Ae rfl<|Ab (FV.len_string underlying9 rfl)<|Ab (FV.gtrN (i:=b0.size) (j:=0) rfl rfl)<|Ae rfl<|RG.ifd (s:=8) rfl h (fun p0 h=>?_) (fun p0 h=>?_)
 refine AX (Ak rfl)<|AX (Ak rfl)<|AX (FV.len_string underlying9 rfl)<|bk h fun C0 x0 h=>AX (FV.subc (i:=((b0.size:Nat):Int)) (j:=1) rfl rfl x0)<|bk h fun E0 B0 h=>?_
 obtain ⟨u0,A0⟩:=gV B0
 refine AX (FV.strAt (k:=C0.toNat) underlying9 rfl rfl u0 A0)<|AX (Ak rfl)<|AX (FV.eqlN (i:=E0.toNat) (j:=a1.toNat) rfl rfl)<|RG.pt rfl rfl<|Aa<|AW rfl h (fun q0 h=>?_) (fun q0 h=>?_)
 refine Au<|Ay<|Am<|Ae rfl<|Ae rfl<|Ab (FV.len_string underlying9 rfl)<|bk h fun J0 y0 h=>Ab (FV.subc (i:=((b0.size:Nat):Int)) (j:=1) rfl rfl y0)<|bk h fun D0 z0 h=>Ab (FV.strCut z0 underlying9 rfl rfl ⟨_,rfl⟩)<|Ag rfl<|Aa<|AE<|s0 D0 d0 g0 h
 refine Bf rfl ?_
 have h:=k0 _ h
 try dsimp only at h
 exact j0 b0 d0 g0 h
 refine AL<|AL<|AL<|AL<|AL<|AL<|AL<|RG.pf rfl rfl<|Aa<|BA rfl<|Bf rfl ?_
 have h:=k0 _ h
 try dsimp only at h
 exact j0 b0 d0 g0 h
def aP_l1 (_n:Nat) (g0:List Bool) (c0:ByteArray -> Option ByteArray):ByteArray -> Option ByteArray
  | b0=>(if 0 < b0.size then (b0.data[0]?).bind fun j0=>(g0[j0.toNat]?).bind fun k0=>(if k0 = true then (ld b0 1 (b0.size:Int)).bind fun d0=>c0 d0 else some b0) else some b0)
def aP_l2 (_n:Nat) (k0:List Bool) (c0:ByteArray -> Option ByteArray):ByteArray -> Option ByteArray
  | b0=>(if 0 < b0.size then (chk (((b0.size:Nat):Int) - 1)).bind fun d0=>(mU b0 d0).bind fun p0=>(k0[p0.toNat]?).bind fun q0=>(if q0 = true then (chk (((b0.size:Nat):Int) - 1)).bind fun g0=>(ld b0 0 g0).bind fun j0=>c0 j0 else some b0) else some b0)
def aP_l3 (_n:Nat) (a1:ByteArray) (g0:Int × (List Bool) -> Option (ByteArray ⊕ (List Bool))):Int × (List Bool) -> Option (ByteArray ⊕ (List Bool))
  | (c0,b0)=>(if c0 < ((a1.size:Nat):Int) then (mU a1 c0).bind fun d0=>(if 128 <= d0.toNat then (none).map .inl else (b0[d0.toNat]?).bind fun _z100=>(chk (c0 + 1)).bind fun j0=>g0 (j0,(b0.set d0.toNat true))) else some (.inr b0))
def aP_p (n:Nat) (a0:ByteArray) (a1:ByteArray):Option ByteArray:=
  jn (fun q2=>(if q2 = true then some a0 else jn (fun j0=>(if j0 = true then (a1.data[0]?).bind fun t0=>(ba_p n a0 t0).bind fun q0=>(a1.data[0]?).bind fun u0=>(bj_p n q0 u0).bind fun s0=>some s0 else thn (ao (aP_l3 n a1) n (0,(List.replicate 256 false))) (fun c0=>jn (fun k0=>jn (fun p0=>some p0) (fun g0=>Option.bind (ao (aP_l1 n c0) n k0) (g0))) (fun d0=>Option.bind (ao (aP_l2 n c0) n a0) (d0))))) (fun b0=>(if a1.size = 1 then (a1.data[0]?).bind fun v0=>b0 (decide (v0.toNat < 128)) else b0 false)))) (fun J6=>(if a0 = ⟨#[]⟩ then J6 true else J6 (decide (a1 = ⟨#[]⟩))))
theorem aP_c (n:Nat) {L w} (hL:hl L w) {a0:ByteArray} {a1:ByteArray}  {r:ByteArray} (h:aP_p n a0 a1 = some r) :
 Cl 118 #[.string a0,.string a1] w (aj w fun _ u=>u = .string r):=by
 unfold aP_p at h
 have hS0:=AB w
 refine AG func118 rfl rfl rfl fun _ cs0 hb0=>Ac<|Ag rfl<|Aa<|Aj<|Aj<|MX.jo (α:=Bool) (fun q2=>[(0,.string a0),(1,.string a1),(12,.bool q2)]) (fun q2=>[]) (fun q2=>q2) hS0 h ?_ ?_
 rintro q2 wx2 hS3 hT4 h
 try dsimp only at h
 refine MX.ifb rfl h (fun c8 h=>?_) (fun c8 h=>?_)
 refine Ac<|Ae rfl<|Ag rfl<|Aa<|Ao rfl<|Bc hb0 func118 rfl rfl ?_
 cases h
 exact hS3.gv
 refine Au<|Aj<|Aj<|MX.jo (α:=Bool) (fun x0=>[(0,.string a0),(1,.string a1),(21,.bool x0)]) (fun x0=>[]) (fun x0=>x0) hS3 h ?_ ?_
 rintro x0 V3 y0 p3 h
 try dsimp only at h
 refine MX.ifb rfl h (fun c1 h=>?_) (fun c1 h=>?_)
 refine Aj<|du 8 fun j0 p0=>Rv 0 j0 rfl p0 (fun _=>Ak rfl)<|Rv 1 j0 rfl p0 (fun _=>Ak rfl)<|bk h fun H2 t2 h=>Rv 2 j0 rfl p0 (fun _=>FV.strAt (k:=0) underlying9 rfl rfl rfl t2)<|bk h fun F2 p2 h=>BD 3 15 192 (.string F2) j0 rfl p0 (bd 132) rfl (e2 rfl rfl) (fun w9 hw9=>ba_c n (y0.hL0 hL hw9) H2 p2) rfl<|Rv 4 j0 rfl p0 (fun _=>Ak rfl)<|bk h fun I2 u2 h=>Rv 5 j0 rfl p0 (fun _=>FV.strAt (k:=0) underlying9 rfl rfl rfl u2)<|bk h fun G2 s2 h=>BD 6 127 128 (.string G2) j0 rfl p0 (bd 131) rfl (e2 rfl rfl) (fun w9 hw9=>bj_c n (y0.hL0 hL hw9) I2 s2) rfl<|Rv 7 j0 rfl p0 (fun _=>Ba rfl)<|AJ (dk j0)<|Ao rfl<|Bc hb0 func118 rfl rfl ?_
 cases h
 exact y0.gv
 refine Au<|Aj<|Ac<|Ae rfl<|Bk (fst:=[]) (cap:=[]) (vs:=[.string a1]) .plain (bd 133) func133 rfl rfl rfl rfl (e1 rfl) rfl fun Z2 U0 B3=>Ac ?_
 have U1:(List.replicate 256 false).length = 256:=List.length_replicate
 refine RG.nl ((List.replicate 256 false).map (fun z9:Bool=>(.bool z9:Value))) y0 fun P3 B0 D1 t3=>Ag rfl<|Aa<|Aj<|Ac<|Ag rfl<|Aa<|Ay<|tn h fun G3 Y1 X0=>MX.lf (α:=Int × (List Bool)) (fun ⟨k0,b0⟩=>[(0,.string a1),(2,vP B0),(4,vI k0)]) (fun ⟨k0,b0⟩=>[.cells B0 (b0.map (fun z9:Bool=>(.bool z9:Value))) 190]) (fun ⟨k0,b0⟩ E2=>b0.length = 256) (fun ⟨k0,b0⟩=>(k0,b0)) (0,(List.replicate 256 false)) Y1 D1 U1 ?_
 rintro V2 ⟨k0,b0⟩ E2 y1 t0 G1 c0 h
 unfold aP_l3 at h
 try dsimp only at h
 refine Aj<|Ac<|Ae rfl<|Ae rfl<|Ab (FV.len_string underlying9 rfl)<|Ab (FV.lss (i:=k0) (j:=((a1.size:Nat):Int)) rfl rfl)<|Aa<|AW rfl h (fun s1 h=>?_) (fun s1 h=>?_)
 refine Au<|Aj<|Ay<|Ac<|Ae rfl<|Ae rfl<|bk h fun v0 z2 h=>?_
 obtain ⟨P1,k2⟩:=gV z2
 refine Ab (FV.strAt (k:=k0.toNat) underlying9 rfl rfl P1 k2)<|Ag rfl<|Aa<|Aj<|Ac<|Ae rfl<|Ab (FV.geqN (i:=v0.toNat) (j:=128) rfl rfl)<|Aa<|AW rfl h (fun u1 h=>?_) (fun u1 h=>?_)
 refine Ac<|Ab (AY (cs:=b0.map (fun z9:Bool=>(.bool z9:Value))) (by rw [List.length_map,c0]; kernel_rfl) rfl (t0.memA .hd))<|RG.now .plain (Acts.storeBig (fun z9:Bool=>(.bool z9:Value)) (m:=256) c0 c0 t0 .hd rfl rfl rfl (fun _=>rfl)) fun Q3 Q0 u3=>Ag rfl<|Aa ?_
 have h:=kc h X0
 refine Ao rfl<|Ap (u:=.tuple #[.agg (b0.map (fun z9:Bool=>(.bool z9:Value))).toArray,.bool false]) U0 func133 rfl (.cons (.many (cs:=b0.map (fun z9:Bool=>(.bool z9:Value))) (by rw [List.length_map,c0]; kernel_rfl) rfl (Q0.memA .hd)) (.cons (.tmp rfl) .nil)) rfl<|Ae rfl<|Ab (Ah rfl rfl)<|Ab (Ah rfl rfl) ?_
 have V1:(List.replicate 256 false).length = 256:=List.length_replicate
 refine RG.nl ((List.replicate 256 false).map (fun z9:Bool=>(.bool z9:Value))) Q0 fun R3 W2 E1 v3=>RG.now .plain (Acts.storeBig (fun z9:Bool=>(.bool z9:Value)) (m:=256) V1 c0 E1 .hd rfl rfl rfl (fun _=>rfl)) fun U3 d3 x3=>Ag rfl<|Aa<|Ac<|Ae rfl<|Aa<|BA rfl<|Au<|Ac<|Ae rfl<|Ae rfl ?_
 cases h
 refine Au<|Am<|Ae rfl<|bk h fun b4 E0 h=>?_
 have y3:=bm (p:=⟨B0,0,none⟩) (cs:=b0.map (fun z9:Bool=>(.bool z9:Value))) (i:=v0.toNat) (t0.memA .hd) (eR (fun z9:Bool=>(.bool z9:Value)) E0)
 refine Ab (AV (m:=1) (k:=v0.toNat) (len:=256) rfl rfl rfl rfl (cb E0 c0)) ?_
 have Q1:(b0.set v0.toNat true).length = 256:=by rw [List.length_set]; exact c0
 refine RG.now .plain (Acts.setBig (fun z9:Bool=>(.bool z9:Value)) (i:=v0.toNat) (x:=true) (m:=256) c0 (cb E0 c0) t0 .hd rfl (ki _ _ _) rfl rfl (fun _=>⟨rfl,rfl⟩)) fun I3 z1 F1=>Aa<|AE<|Am<|Ae rfl<|bk h fun A2 Z1 h=>Ab (BH (i:=k0) (j:=1) rfl rfl Z1)<|Ag rfl<|Aa<|y1 (A2,(b0.set v0.toNat true)) z1 (Tt G1 F1) Q1 h
 refine Bf rfl ?_
 have h:=aH h X0
 try dsimp only at h
 refine Ac<|Ab (AY (cs:=b0.map (fun z9:Bool=>(.bool z9:Value))) (by rw [List.length_map,c0]; kernel_rfl) rfl (t0.memA .hd))<|RG.now .plain (Acts.storeBig (fun z9:Bool=>(.bool z9:Value)) (m:=256) c0 c0 t0 .hd rfl rfl rfl (fun _=>rfl)) fun J3 K0 g3=>Ag rfl<|Aa<|Ao rfl<|Ap (u:=.tuple #[.agg (b0.map (fun z9:Bool=>(.bool z9:Value))).toArray,.bool true]) U0 func133 rfl (.cons (.many (cs:=b0.map (fun z9:Bool=>(.bool z9:Value))) (by rw [List.length_map,c0]; kernel_rfl) rfl (K0.memA .hd)) (.cons (.tmp rfl) .nil)) rfl<|Ae rfl<|Ab (Ah rfl rfl)<|Ab (Ah rfl rfl) ?_
 have R1:(List.replicate 256 false).length = 256:=List.length_replicate
 refine RG.nl ((List.replicate 256 false).map (fun z9:Bool=>(.bool z9:Value))) K0 fun K3 d0 A1 j3=>RG.now .plain (Acts.storeBig (fun z9:Bool=>(.bool z9:Value)) (m:=256) R1 c0 A1 .hd rfl rfl rfl (fun _=>rfl)) fun M3 M0 k3=>Ag rfl<|Aa<|Ac<|Ae rfl<|Aa<|Be rfl<|Ac<|Ae rfl<|Bk (fst:=[]) (cap:=[]) (vs:=[.string a0,vP d0]) .plain (bd 135) func135 rfl rfl rfl rfl (e2 rfl rfl) rfl fun X2 H1 z3=>Ac<|Ag rfl<|Aa<|Aj<|Ay<|MX.xo (α:=ByteArray) 0 (fun q0=>[(0,.string q0)]) (fun q0=>[.cells d0 (b0.map (fun z9:Bool=>(.bool z9:Value))) 190]) (fun q0=>q0) M0 rfl h ?_ ?_
 rintro q0 W3 P0 q3 h
 try dsimp only at h
 refine Ac<|Ae rfl<|Ag rfl<|Aa<|Ao rfl<|Ap (u:=.string q0) H1 func135 rfl (.cons (.tmp rfl) .nil) rfl<|Bk (fst:=[]) (cap:=[]) (vs:=[.string q0,vP d0]) .plain (bd 134) func134 rfl rfl rfl rfl (e2 rfl rfl) rfl fun Y2 I1 A3=>Ac<|Ag rfl<|Aa<|Aj<|Ay<|MX.xo (α:=ByteArray) 0 (fun u0=>[(0,.string u0)]) (fun u0=>[.cells d0 (b0.map (fun z9:Bool=>(.bool z9:Value))) 190]) (fun u0=>u0) P0 rfl h ?_ ?_
 rintro u0 X3 B1 s3 h
 try dsimp only at h
 refine Ac<|Ae rfl<|Ag rfl<|Aa<|Ao rfl<|Ap (u:=.string u0) I1 func134 rfl (.cons (.tmp rfl) .nil) rfl<|Ag rfl<|Aa<|Ao rfl<|Bc hb0 func118 rfl rfl ?_
 cases h
 exact B1.gv
 intro Q2 J0 h
 try dsimp only at h
 obtain ⟨E3,W1,V0⟩:=ax h
 refine MX.lo (α:=ByteArray) (fun s0=>[(0,.string s0),(1,vP d0)]) (fun s0=>[.cells d0 (b0.map (fun z9:Bool=>(.bool z9:Value))) 190]) (fun s0=>s0) q0 W1 P0 ?_
 rintro R2 s0 Y3 v1 z0 C0 h
 unfold aP_l1 at h
 try dsimp only at h
 refine Aj<|Ac<|Ae rfl<|Ab (FV.len_string underlying9 rfl)<|Ab (FV.gtrN (i:=s0.size) (j:=0) rfl rfl)<|Aa<|AW rfl h (fun d1 h=>?_) (fun d1 h=>?_)
 refine Au<|Ay<|Aj<|Ac<|Ae rfl<|Ae rfl<|bk h fun F0 v2 h=>Ab (FV.strAt (k:=0) underlying9 rfl rfl rfl v2)<|Bk (fst:=[]) (cap:=[]) (vs:=[vP d0,.int .u8 (F0.toNat:Int)]) .plain (bd 147) func147 rfl rfl rfl rfl (e2 rfl rfl) rfl fun b3 J1 C3=>Ac<|Ag rfl<|Aa<|Ac<|Ae rfl<|Ae rfl<|Ab (FV.nilCheck rfl)<|bk h fun J2 Y0 h=>Ab (AV (m:=1) (k:=F0.toNat) (len:=256) rfl rfl rfl rfl (cb Y0 c0))<|AU rfl ((bm (p:=⟨d0,0,none⟩) (cs:=b0.map (fun z9:Bool=>(.bool z9:Value))) (i:=F0.toNat) (z0.memA .hd) (eR (fun z9:Bool=>(.bool z9:Value)) Y0)) 0 _ rfl)<|Ag rfl<|Aa<|Ao rfl<|Ap (u:=.bool J2) J1 func147 rfl (.cons (.tmp rfl) .nil) rfl<|Ab (FV.not rfl)<|Aa<|MX.ifnb rfl h (fun g1 h=>?_) (fun g1 h=>?_)
 refine Au<|Am<|Ae rfl<|bk h fun B2 b2 h=>Ab (FV.strCut b2 underlying9 rfl ⟨_,rfl⟩ rfl)<|Ag rfl<|Aa<|AE<|v1 B2 z0 C0 h
 refine Bf rfl ?_
 have h:=V0 _ h
 try dsimp only at h
 exact J0 s0 z0 C0 h
 refine Bf rfl ?_
 have h:=V0 _ h
 try dsimp only at h
 exact J0 s0 z0 C0 h
 intro P2 I0 h
 try dsimp only at h
 obtain ⟨C1,R0⟩:=AF M0 (.a0 .done)
 obtain ⟨F3,X1,W0⟩:=ax h
 refine MX.lo (α:=ByteArray) (fun g0=>[(0,.string g0),(1,vP d0)]) (fun g0=>[.cells d0 (b0.map (fun z9:Bool=>(.bool z9:Value))) 190]) (fun g0=>g0) a0 X1 C1 ?_
 rintro U2 g0 Z3 x1 A0 D0 h
 unfold aP_l2 at h
 try dsimp only at h
 refine Aj<|Ac<|Ae rfl<|Ab (FV.len_string underlying9 rfl)<|Ab (FV.gtrN (i:=g0.size) (j:=0) rfl rfl)<|Aa<|AW rfl h (fun j1 h=>?_) (fun j1 h=>?_)
 refine Au<|Ay<|Aj<|Ac<|Ae rfl<|Ae rfl<|Ae rfl<|Ab (FV.len_string underlying9 rfl)<|bk h fun C2 c2 h=>Ab (FV.subc (i:=((g0.size:Nat):Int)) (j:=1) rfl rfl c2)<|bk h fun G0 x2 h=>?_
 obtain ⟨M1,j2⟩:=gV x2
 refine Ab (FV.strAt (k:=C2.toNat) underlying9 rfl rfl M1 j2)<|Bk (fst:=[]) (cap:=[]) (vs:=[vP d0,.int .u8 (G0.toNat:Int)]) .plain (bd 147) func147 rfl rfl rfl rfl (e2 rfl rfl) rfl fun c3 K1 D3=>Ac<|Ag rfl<|Aa<|Ac<|Ae rfl<|Ae rfl<|Ab (FV.nilCheck rfl)<|bk h fun K2 Z0 h=>Ab (AV (m:=1) (k:=G0.toNat) (len:=256) rfl rfl rfl rfl (cb Z0 c0))<|AU rfl ((bm (p:=⟨d0,0,none⟩) (cs:=b0.map (fun z9:Bool=>(.bool z9:Value))) (i:=G0.toNat) (A0.memA .hd) (eR (fun z9:Bool=>(.bool z9:Value)) Z0)) 0 _ rfl)<|Ag rfl<|Aa<|Ao rfl<|Ap (u:=.bool K2) K1 func147 rfl (.cons (.tmp rfl) .nil) rfl<|Ab (FV.not rfl)<|Aa<|MX.ifnb rfl h (fun k1 h=>?_) (fun k1 h=>?_)
 refine Au<|Am<|Ae rfl<|Ae rfl<|Ab (FV.len_string underlying9 rfl)<|bk h fun H3 d2 h=>Ab (FV.subc (i:=((g0.size:Nat):Int)) (j:=1) rfl rfl d2)<|bk h fun D2 g2 h=>Ab (FV.strCut g2 underlying9 rfl rfl ⟨_,rfl⟩)<|Ag rfl<|Aa<|AE<|x1 D2 A0 D0 h
 refine Bf rfl ?_
 have h:=W0 _ h
 try dsimp only at h
 exact I0 g0 A0 (Tt R0 D0) h
 refine Bf rfl ?_
 have h:=W0 _ h
 try dsimp only at h
 exact I0 g0 A0 (Tt R0 D0) h
 intro M2 H0 h
 try dsimp only at h
 refine Am<|Ae rfl<|Ab (FV.len_string underlying9 rfl)<|Ab (FV.eqlN (i:=a1.size) (j:=1) rfl rfl)<|Ae rfl<|RG.ifd (s:=17) rfl h (fun p1 h=>?_) (fun p1 h=>?_)
 refine AX (Ak rfl)<|bk h fun b1 y2 h=>AX (FV.strAt (k:=0) underlying9 rfl rfl rfl y2)<|AX (Bn (i:=b1.toNat) (j:=128) rfl rfl)<|RG.pt rfl rfl<|Aa<|H0 (decide (b1.toNat < 128)) hS3 (Tr.refl _ _) h
 refine AL<|AL<|AL<|RG.pf rfl rfl<|Aa<|H0 false hS3 (Tr.refl _ _) h
 intro J6 hJ7 h
 try dsimp only at h
 refine Am<|Ae rfl<|Ab (FV.eqlS rfl rfl)<|Ae rfl<|RG.ifd (s:=9) rfl h (fun q1 h=>?_) (fun q1 h=>?_)
 refine AL<|AL<|RG.pt rfl rfl<|Aa<|hJ7 true hS0 (Tr.refl _ _) h
 refine AX (Ak rfl)<|AX (FV.eqlS rfl rfl)<|RG.pf rfl rfl<|Aa<|hJ7 (decide (a1 = ⟨#[]⟩)) hS0 (Tr.refl _ _) h
def ca_p (_n:Nat) (a0:Int) (a1:Int):Option Bool:=
  (if a0 < 0 then some true else some (decide (a1 < a0)))
theorem ca_c (n:Nat) {L w} (_hL:hl L w) {a0:Int} {a1:Int} {p1:Nat} (m1:∀ j9 v9,([vI a1]:List Value)[j9]? = some v9 -> w.cell? ((⟨p1,0,none⟩:Addr).add j9) = some v9)  {r:Bool} (h:ca_p n a0 a1 = some r) :
 Cl 139 #[vI a0,.pointer (some ⟨p1,0,none⟩)] w (aj w fun _ u=>u = .bool r):=by
 unfold ca_p at h
 have hS0:=AB w
 refine AG func139 rfl rfl rfl fun _ cs0 hb0=>Ac<|Ag rfl<|Aa<|Ac<|Ae rfl<|Ab (FV.lss (i:=a0) (j:=0) rfl rfl)<|Ae rfl<|RG.ifd (s:=6) rfl h (fun c1 h=>?_) (fun c1 h=>?_)
 refine AL<|AL<|AL<|RG.pt rfl rfl<|Ag rfl<|Aa<|Ao rfl<|Bc hb0 func139 rfl rfl ?_
 cases h
 exact hS0.gv
 refine AX (Ak rfl)<|AX (AQ rfl ((fun j9 v9 h9=>hS0.ag.cell0 (m1 j9 v9 h9)) 0 _ rfl))<|AX (FV.gtr (i:=a0) (j:=a1) rfl rfl)<|RG.pf rfl rfl<|Ag rfl<|Aa<|Ao rfl<|Bc hb0 func139 rfl rfl ?_
 cases h
 exact hS0.gv
def aG_l1 (n:Nat) (a0:List Int) (a2:Int) (c0:Nat -> Option (Bool ⊕ Unit)):Nat -> Option (Bool ⊕ Unit)
  | b0=>(if b0 < a0.length then (a0[b0]?).bind fun d0=>(ca_p n d0 a2).bind fun g0=>(if g0 = true then some (.inl (!(decide (0 <= b0)))) else c0 (b0 + 1)) else some (.inr ()))
def aG_p (n:Nat) (a0:List Int) (a1:Int) (a2:Int):Option Bool:=
  (if ((a0.length:Nat):Int) = a1 then thn (ao (aG_l1 n a0 a2) n 0) (fun _=>some (!(decide (0 <= (-1))))) else some false)
theorem aG_c (n:Nat) {L w} (hL:hl L w) {a0:List Int} {v0_0:Value} (h0_0:Rep.R w L [v0_0] a0) {a1:Int} {a2:Int}  {r:Bool} (h:aG_p n a0 a1 a2 = some r) :
 Cl 119 #[v0_0,vI a1,vI a2] w (aj w fun _ u=>u = .bool r):=by
 unfold aG_p at h
 refine AG func119 rfl rfl rfl fun _ cs0 hb0=>Ac<|RG.bx (AB w) rfl rfl fun Y0 c0 g0 R0=>Ag rfl<|Aa<|Ac<|Ae rfl ?_
 have j0:=AT h0_0 g0
 have U0:a0.length <= 281474976710656:=Bh j0
 refine Ab (Bl (xs:=a0) underlying29 rfl j0)<|Ae rfl<|Ab (FV.eql (i:=((a0.length:Nat):Int)) (j:=a1) rfl rfl)<|Ae rfl<|RG.ifd (s:=11) rfl h (fun s0 h=>?_) (fun s0 h=>?_)
 refine AX (Ak rfl)<|AX (BG (vs:=[]) (us:=[vP c0]) ak (e1 rfl))<|Bk (fst:=[]) (cap:=[]) (vs:=[v0_0,.func (.func 139) #[] #[vP c0]]) (.yes rfl rfl) (bd 138) func138 rfl rfl rfl rfl (e2 rfl rfl) rfl fun P0 k0 V0=>Ac<|Ag rfl<|Aa<|Ac<|Ae rfl<|Ae rfl<|Bk (fst:=[]) (cap:=[]) (vs:=[v0_0,.func (.func 139) #[] #[vP c0]]) .plain (bd 151) func151 rfl rfl rfl rfl (e2 rfl rfl) rfl fun Q0 p0 W0=>Ac<|Ag rfl<|Aa<|Aj<|Ac<|Ae rfl<|Ab (Bl (xs:=a0) underlying29 rfl j0)<|Ae rfl<|Aa<|Ay<|tn h fun X0 D0 q0=>MX.lo (α:=Nat) (fun b0=>[(0,v0_0),(1,.func (.func 139) #[] #[vP c0]),(7,vI ((a0.length:Nat):Int)),(8,vI ((b0:Nat):Int))]) (fun b0=>[.cells c0 [vI a2] 3]) (fun b0=>b0) 0 D0 g0 ?_
 rintro K0 b0 Z0 x0 d0 y0 h
 unfold aG_l1 at h
 try dsimp only at h
 refine Ac<|Ab (Bn (i:=b0) (j:=a0.length) rfl rfl)<|Aa<|Aj<|AW rfl h (fun t0 h=>?_) (fun t0 h=>?_)
 refine Au<|Aj<|Ay<|Ac<|Ae rfl<|Ag rfl<|Aa<|Ac<|Ae rfl<|Ae rfl<|Ae rfl<|bk h fun H0 F0 h=>?_
 obtain ⟨J0,M0,z0,B0,v0,E0,C0⟩:=Br (AT h0_0 d0) F0
 have A0:v0 = [vI H0]:=E0; subst A0
 refine Ab (Bu 1 b0 rfl z0 rfl rfl B0)<|AU rfl (C0 0 _ rfl)<|bk h fun I0 G0 h=>RG.callq' (v:=.bool I0) (fst:=[]) (cap:=[vP c0]) .plain (bd 139) rfl (e1 rfl) (fun w9 hw9=>ca_c n (d0.hL0 hL hw9) (ai hw9 (d0.memA .hd)) G0) rfl<|Aa<|MX.ifb rfl h (fun u0 h=>?_) (fun u0 h=>?_)
 refine Ac<|Ae rfl<|Ag rfl<|Aa ?_
 have h:=ap h q0
 refine Ao rfl<|Ap (u:=vI ((b0:Nat):Int)) p0 func151 rfl (.cons (.tmp rfl) .nil) rfl<|Ab (FV.geqN (i:=b0) (j:=0) rfl rfl)<|Ag rfl<|Aa<|Ao rfl<|Ap (u:=.bool (decide (0 <= b0))) k0 func138 rfl (.cons (.tmp rfl) .nil) rfl<|AX (FV.not rfl)<|RG.pt rfl rfl<|Ag rfl<|Aa<|Ao rfl<|Bc hb0 func119 rfl rfl ?_
 cases h
 exact d0.gv
 refine Au<|AE<|Am<|Ab (Bp (i:=b0) (j:=1) rfl rfl (by omega))<|Ae rfl<|Aa<|x0 (b0 + 1) d0 y0 h
 refine Bf rfl ?_
 have h:=aH h q0
 try dsimp only at h
 refine Ac<|Ag rfl<|Aa<|Ao rfl<|Ap (u:=vI (-1)) p0 func151 rfl (.cons (.tmp rfl) .nil) rfl<|Ab (FV.geq (i:=(-1)) (j:=0) rfl rfl)<|Ag rfl<|Aa<|Ao rfl<|Ap (u:=.bool (decide (0 <= (-1)))) k0 func138 rfl (.cons (.tmp rfl) .nil) rfl<|AX (FV.not rfl)<|RG.pt rfl rfl<|Ag rfl<|Aa<|Ao rfl<|Bc hb0 func119 rfl rfl ?_
 cases h
 exact d0.gv
 refine AL<|AL<|AL<|AL<|RG.pf rfl rfl<|Ag rfl<|Aa<|Ao rfl<|Bc hb0 func119 rfl rfl ?_
 cases h
 exact g0.gv
structure Tb where
  fC:ByteArray
  fA:Int
  fj:List Int
  fVotes:List Int
  fJ:List Int
  fv:Bool
  deriving DecidableEq
instance:Rep Tb:=Rep.via (β:=ByteArray × Int × (List Int) × (List Int) × (List Int) × Bool) fun x=>(x.fC,x.fA,x.fj,x.fVotes,x.fJ,x.fv)
structure Tf where
  fj:Int
  fh:Int
  fl:Int
  fu:List Tb
  deriving DecidableEq
instance:Rep Tf:=Rep.via (β:=Int × Int × Int × (List Tb)) fun x=>(x.fj,x.fh,x.fl,x.fu)
theorem gI:ElT Tryz.prog 171 4 (Rep.size Bool) 1 (.bool false) [.bool false]:=⟨underlying171,by kernel_rfl,rfl,rfl,rfl,rfl⟩
def bH_p (n:Nat) (a0:Tf) (a1:Tb):Option Bool:=
  jn (fun (c0,d0)=>(aP_p n a1.fC ⟨#[65,66,67,68,69,70,71,72,73,74,75,76,77,78,79,80,81,82,83,84,85,86,87,88,89,90,97,98,99,100,101,102,103,104,105,106,107,108,109,110,111,112,113,114,115,116,117,118,119,120,121,122,48,49,50,51,52,53,54,55,56,57,45,95]⟩).bind fun g0=>(aG_p n a1.fj a0.fj a1.fA).bind fun j0=>(aG_p n a1.fVotes a0.fh ((c0:Nat):Int)).bind fun k0=>(aG_p n a1.fJ a0.fl ((d0:Nat):Int)).bind fun p0=>(aU_p n ([(!(decide (a1.fC = ⟨#[]⟩))),(decide (a1.fC.size <= 12)),(decide (g0 = ⟨#[]⟩)),(decide (0 <= a1.fA)),(decide (a1.fA <= ((c0:Nat):Int))),j0,k0,p0]:List Bool)).bind fun q0=>some q0) (fun b0=>(if a1.fv = true then b0 (0,0) else b0 (1000000000,63)))
theorem bH_c (n:Nat) {L w} (hL:hl L w) (a0:Tf) {v0_3:Value} (_h0_3:Rep.R w L [v0_3] a0.fu) (a1:Tb) {v1_2:Value} (h1_2:Rep.R w L [v1_2] a1.fj) {v1_3:Value} (h1_3:Rep.R w L [v1_3] a1.fVotes) {v1_4:Value} (h1_4:Rep.R w L [v1_4] a1.fJ)  {r:Bool} (h:bH_p n a0 a1 = some r) :
 Cl 103 #[.agg #[vI a0.fj,vI a0.fh,vI a0.fl,v0_3],.agg #[.string a1.fC,vI a1.fA,v1_2,v1_3,v1_4,.bool a1.fv]] w (aj w fun _ u=>u = .bool r):=by
 unfold bH_p at h
 refine AG func103 rfl rfl rfl fun _ cs0 hb0=>Ac<|RG.bx (AB w) rfl rfl fun R0 x0 B0 K0=>RG.bx B0 rfl rfl fun U0 y0 u0 M0=>Ag rfl<|Aa<|Ac<|Ag rfl<|Ag rfl<|Aa<|Aj<|Ac<|Bg 5 rfl<|AU rfl ((u0.memA .hd) 5 _ rfl)<|Aa<|MX.jo (α:=Nat × Nat) (fun ⟨g0,t0⟩=>[(2,vP x0),(3,vP y0),(5,vI ((g0:Nat):Int)),(6,vI ((t0:Nat):Int))]) (fun ⟨g0,t0⟩=>[.cells y0 [.string a1.fC,vI a1.fA,v1_2,v1_3,v1_4,.bool a1.fv] 59,.cells x0 [vI a0.fj,vI a0.fh,vI a0.fl,v0_3] 35]) (fun ⟨g0,t0⟩=>(g0,t0)) u0 h ?_ ?_
 rintro ⟨g0,t0⟩ W0 d0 P0 h
 try dsimp only at h
 refine Aj<|du 40 fun b0 c0=>Rv 0 b0 rfl c0 (fun _=>AP 0 rfl)<|Rx 1 962072674308 b0 rfl c0 (AQ rfl ((d0.memA .hd) 0 _ rfl))<|Rv 2 b0 rfl c0 (fun _=>FV.neqS rfl rfl)<|Rv 3 b0 rfl c0 (fun _=>AP 0 rfl)<|Rx 4 962072674400 b0 rfl c0 (AQ rfl ((d0.memA .hd) 0 _ rfl))<|Rx 5 962072674368 b0 rfl c0 (FV.len_string underlying9 rfl)<|Rv 6 b0 rfl c0 (fun _=>FV.leqN (i:=a1.fC.size) (j:=12) rfl rfl)<|Rv 7 b0 rfl c0 (fun _=>AP 0 rfl)<|Rx 8 1031882671616 b0 rfl c0 (AQ rfl ((d0.memA .hd) 0 _ rfl))<|bk h fun s0 C0 h=>BD 9 1023 1031882671104 (.string s0) b0 rfl c0 (bd 118) rfl (e2 rfl rfl) (fun w9 hw9=>aP_c n (d0.hL0 hL hw9)  C0) rfl<|Rv 10 b0 rfl c0 (fun _=>FV.eqlS rfl rfl)<|Rv 11 b0 rfl c0 (fun _=>AP 1 rfl)<|Rx 12 962072682496 b0 rfl c0 (AQ rfl ((d0.memA .hd) 1 _ rfl))<|Rv 13 b0 rfl c0 (fun _=>FV.geq (i:=a1.fA) (j:=0) rfl rfl)<|Rv 14 b0 rfl c0 (fun _=>AP 1 rfl)<|Rx 15 962072805376 b0 rfl c0 (AQ rfl ((d0.memA .hd) 1 _ rfl))<|Rv 16 b0 rfl c0 (fun _=>Ak rfl)<|Rv 17 b0 rfl c0 (fun _=>FV.leq (i:=a1.fA) (j:=((g0:Nat):Int)) rfl rfl)<|Rv 18 b0 rfl c0 (fun _=>AP 2 rfl)<|Rx 19 1031882670080 b0 rfl c0 (AQ rfl ((d0.memA .hd) 2 _ rfl))<|Rv 20 b0 rfl c0 (fun _=>AP 0 rfl)<|Rx 21 1031882670080 b0 rfl c0 (AQ rfl ((d0.memA .t1) 0 _ rfl))<|Rv 22 b0 rfl c0 (fun _=>AP 1 rfl)<|Rx 23 1031882670080 b0 rfl c0 (AQ rfl ((d0.memA .hd) 1 _ rfl))<|bk h fun q0 D0 h=>BD 24 33554431 1031865892864 (.bool q0) b0 rfl c0 (bd 119) rfl (e3 rfl rfl rfl) (fun w9 hw9=>aG_c n (d0.hL0 hL hw9) (d0.k0 h1_2 hw9) D0) rfl<|Rv 25 b0 rfl c0 (fun _=>AP 3 rfl)<|Rx 26 1031865892864 b0 rfl c0 (AQ rfl ((d0.memA .hd) 3 _ rfl))<|Rv 27 b0 rfl c0 (fun _=>AP 1 rfl)<|Rx 28 1031865892864 b0 rfl c0 (AQ rfl ((d0.memA .t1) 1 _ rfl))<|Rv 29 b0 rfl c0 (fun _=>Ak rfl)<|bk h fun p0 E0 h=>BD 30 2147483647 1030792151040 (.bool p0) b0 rfl c0 (bd 119) rfl (e3 rfl rfl rfl) (fun w9 hw9=>aG_c n (d0.hL0 hL hw9) (d0.k0 h1_3 hw9) E0) rfl<|Rv 31 b0 rfl c0 (fun _=>AP 4 rfl)<|Rx 32 1030792151040 b0 rfl c0 (AQ rfl ((d0.memA .hd) 4 _ rfl))<|Rv 33 b0 rfl c0 (fun _=>AP 2 rfl)<|Rx 34 1030792151040 b0 rfl c0 (AQ rfl ((d0.memA .t1) 2 _ rfl))<|Rv 35 b0 rfl c0 (fun _=>Ak rfl)<|bk h fun j0 F0 h=>BD 36 137438953471 962072674304 (.bool j0) b0 rfl c0 (bd 119) rfl (e3 rfl rfl rfl) (fun w9 hw9=>aG_c n (d0.hL0 hL hw9) (d0.k0 h1_4 hw9) F0) rfl<|RD.nu 37 274877906943 b0 rfl .plain rfl (Bb (α:=Bool) (xs:=([(!(decide (a1.fC = ⟨#[]⟩))),(decide (a1.fC.size <= 12)),(decide (s0 = ⟨#[]⟩)),(decide (0 <= a1.fA)),(decide (a1.fA <= ((g0:Nat):Int))),q0,p0,j0]:List Bool)) (vs:=[.bool (!(decide (a1.fC = ⟨#[]⟩))),.bool (decide (a1.fC.size <= 12)),.bool (decide (s0 = ⟨#[]⟩)),.bool (decide (0 <= a1.fA)),.bool (decide (a1.fA <= ((g0:Nat):Int))),.bool q0,.bool p0,.bool j0]) (ds' :=[.bool (!(decide (a1.fC = ⟨#[]⟩))),.bool (decide (a1.fC.size <= 12)),.bool (decide (s0 = ⟨#[]⟩)),.bool (decide (0 <= a1.fA)),.bool (decide (a1.fA <= ((g0:Nat):Int))),.bool q0,.bool p0,.bool j0]) rfl d0 gI rfl (e8 rfl rfl rfl rfl rfl rfl rfl rfl) (by kernel_rfl) rfl) fun V0 J0 v0 Q0=>?_
 refine bk h fun H0 G0 h=>BD 38 549755813887 549755813888 (.bool H0) b0 rfl c0 (bd 102) rfl (e1 rfl) (fun w9 hw9=>aU_c n (v0.hL0 hL hw9) (Av (St.lend (α:=Bool) (L:=L) v0 .hd (AH (cs:=[.bool (!(decide (a1.fC = ⟨#[]⟩))),.bool (decide (a1.fC.size <= 12)),.bool (decide (s0 = ⟨#[]⟩)),.bool (decide (0 <= a1.fA)),.bool (decide (a1.fA <= ((g0:Nat):Int))),.bool q0,.bool p0,.bool j0]) (xs:=(([(!(decide (a1.fC = ⟨#[]⟩))),(decide (a1.fC.size <= 12)),(decide (s0 = ⟨#[]⟩)),(decide (0 <= a1.fA)),(decide (a1.fA <= ((g0:Nat):Int))),q0,p0,j0]:List Bool):List Bool)) v0 L (Ar (cs:=[.bool (!(decide (a1.fC = ⟨#[]⟩)))]) (ds:=[.bool (decide (a1.fC.size <= 12)),.bool (decide (s0 = ⟨#[]⟩)),.bool (decide (0 <= a1.fA)),.bool (decide (a1.fA <= ((g0:Nat):Int))),.bool q0,.bool p0,.bool j0]) rfl (Ar (cs:=[.bool (decide (a1.fC.size <= 12))]) (ds:=[.bool (decide (s0 = ⟨#[]⟩)),.bool (decide (0 <= a1.fA)),.bool (decide (a1.fA <= ((g0:Nat):Int))),.bool q0,.bool p0,.bool j0]) rfl (Ar (cs:=[.bool (decide (s0 = ⟨#[]⟩))]) (ds:=[.bool (decide (0 <= a1.fA)),.bool (decide (a1.fA <= ((g0:Nat):Int))),.bool q0,.bool p0,.bool j0]) rfl (Ar (cs:=[.bool (decide (0 <= a1.fA))]) (ds:=[.bool (decide (a1.fA <= ((g0:Nat):Int))),.bool q0,.bool p0,.bool j0]) rfl (Ar (cs:=[.bool (decide (a1.fA <= ((g0:Nat):Int)))]) (ds:=[.bool q0,.bool p0,.bool j0]) rfl (Ar (cs:=[.bool q0]) (ds:=[.bool p0,.bool j0]) rfl (Ar (cs:=[.bool p0]) (ds:=[.bool j0]) rfl (Ar (cs:=[.bool j0]) (ds:=[]) rfl (AR _ _)))))))))) hL) hw9) G0) rfl<|Rv 39 b0 rfl c0 (fun _=>Ba rfl)<|AJ (dk b0)<|Ao rfl<|Bc hb0 func103 rfl rfl ?_
 cases h
 exact v0.gv
 intro I0 z0 h
 try dsimp only at h
 refine MX.ifb rfl h (fun A0 h=>?_) (fun A0 h=>?_)
 refine Am<|Ag rfl<|Ag rfl<|Aa<|z0 (0,0) u0 (Tr.refl _ _) h
 refine Au<|z0 (1000000000,63) u0 (Tr.refl _ _) h
theorem iP {w:World} {L:List Nat} {cs:List Value} {x:Tb} (h:Rep.R w L cs x):∃ v2 v3 v4:Value,cs = [.string x.fC,vI x.fA,v2,v3,v4,.bool x.fv]/\Rep.R w L [v2] x.fj/\Rep.R w L [v3] x.fVotes/\Rep.R w L [v4] x.fJ:=by
  obtain ⟨c0,r0,rfl,h0,h⟩:=h
  have e0:c0 = [.string x.fC]:=h0; subst e0
  obtain ⟨c1,r1,rfl,h1,h⟩:=h
  have e1:c1 = [vI x.fA]:=h1; subst e1
  obtain ⟨c2,r2,rfl,h2,h⟩:=h
  obtain ⟨v2,rfl,kv2⟩:=cv (xs:=x.fj) h2
  obtain ⟨c3,r3,rfl,h3,h⟩:=h
  obtain ⟨v3,rfl,kv3⟩:=cv (xs:=x.fVotes) h3
  obtain ⟨c4,r4,rfl,h4,h⟩:=h
  obtain ⟨v4,rfl,kv4⟩:=cv (xs:=x.fJ) h4
  have e5:r4 = [.bool x.fv]:=h; subst e5
  exact ⟨v2,v3,v4,rfl,kv2,kv3,kv4⟩
theorem gr {w:World} {L:List Nat} (a0:ByteArray) (a1:Int) (a2:List Int) {u2:Value} (h2:Rep.R w L [u2] a2) (a3:List Int) {u3:Value} (h3:Rep.R w L [u3] a3) (a4:List Int) {u4:Value} (h4:Rep.R w L [u4] a4) (a5:Bool):Rep.R w L [.string a0,vI a1,u2,u3,u4,.bool a5] (⟨a0,a1,a2,a3,a4,a5⟩:Tb):=⟨[.string a0],[vI a1,u2,u3,u4,.bool a5],rfl,rfl,⟨[vI a1],[u2,u3,u4,.bool a5],rfl,rfl,⟨[u2],[u3,u4,.bool a5],rfl,h2,⟨[u3],[u4,.bool a5],rfl,h3,⟨[u4],[.bool a5],rfl,h4,rfl⟩⟩⟩⟩⟩
def aE_l1 (n:Nat) (a0:Tf) (g0:Bool × Nat × (List (ByteArray × Bool)) -> Option (Int ⊕ Unit)):Bool × Nat × (List (ByteArray × Bool)) -> Option (Int ⊕ Unit)
  | (k0,d0,c0)=>(if d0 < a0.fu.length then (a0.fu[d0]?).bind fun b0=>(bH_p n a0 b0).bind fun j0=>(if b0.fv = true then (if 0 < d0 then (aU_p n ([j0,(!(az c0 b0.fC false)),true,true]:List Bool)).bind fun p0=>(if p0 = true then g0 (b0.fv,d0 + 1,aX c0 b0.fC true) else some (.inl (161:Int))) else (aU_p n ([j0,(!(az c0 b0.fC false)),true,(!b0.fv)]:List Bool)).bind fun q0=>(if q0 = true then g0 (b0.fv,d0 + 1,aX c0 b0.fC true) else some (.inl (161:Int)))) else (if 0 < d0 then (aU_p n ([j0,(!(az c0 b0.fC false)),(!k0),true]:List Bool)).bind fun s0=>(if s0 = true then g0 (b0.fv,d0 + 1,aX c0 b0.fC true) else some (.inl (161:Int))) else (aU_p n ([j0,(!(az c0 b0.fC false)),(!k0),(!b0.fv)]:List Bool)).bind fun t0=>(if t0 = true then g0 (b0.fv,d0 + 1,aX c0 b0.fC true) else some (.inl (161:Int))))) else some (.inr ()))
def aE_p (n:Nat) (a0:Tf):Option Int:=
  (aU_p n ([(decide (0 <= a0.fj)),(decide (a0.fj <= 6)),(decide (0 <= a0.fh)),(decide (a0.fh <= 12)),(decide (0 <= a0.fl)),(decide (a0.fl <= 3)),(decide (0 < a0.fu.length)),(decide (a0.fu.length <= 64))]:List Bool)).bind fun b0=>(if b0 = true then thn (ao (aE_l1 n a0) n (false,0,([]:List (ByteArray × Bool)))) (fun _=>some (0:Int)) else some (161:Int))
theorem aE_c (n:Nat) {L w} (hL:hl L w) (a0:Tf) {v0_3:Value} (h0_3:Rep.R w L [v0_3] a0.fu)  {r:Int} (h:aE_p n a0 = some r) :
 Cl 77 #[.agg #[vI a0.fj,vI a0.fh,vI a0.fl,v0_3]] w (aj w fun _ u=>u = vI r):=by
 unfold aE_p at h
 refine AG func77 rfl rfl rfl fun _ cs0 hb0=>Ac<|RG.bx (AB w) rfl rfl fun P2 H0 u0 G2=>Ag rfl<|Aa<|Ac<|Bg 3 rfl<|AU rfl ((u0.memA .hd) 3 _ rfl) ?_
 have Q0:=AT h0_3 u0
 have K2:a0.fu.length <= 281474976710656:=Bh Q0
 refine Ab (Bl (xs:=a0.fu) underlying33 rfl Q0)<|Ag rfl<|Aa<|Aj<|Ac<|Bg 0 rfl<|AU rfl ((u0.memA .hd) 0 _ rfl)<|Ab (FV.geq (i:=a0.fj) (j:=0) rfl rfl)<|Bg 0 rfl<|AU rfl ((u0.memA .hd) 0 _ rfl)<|Ab (FV.leq (i:=a0.fj) (j:=6) rfl rfl)<|Bg 1 rfl<|AU rfl ((u0.memA .hd) 1 _ rfl)<|Ab (FV.geq (i:=a0.fh) (j:=0) rfl rfl)<|Bg 1 rfl<|AU rfl ((u0.memA .hd) 1 _ rfl)<|Ab (FV.leq (i:=a0.fh) (j:=12) rfl rfl)<|Bg 2 rfl<|AU rfl ((u0.memA .hd) 2 _ rfl)<|Ab (FV.geq (i:=a0.fl) (j:=0) rfl rfl)<|Bg 2 rfl<|AU rfl ((u0.memA .hd) 2 _ rfl)<|Ab (FV.leq (i:=a0.fl) (j:=3) rfl rfl)<|Ae rfl<|Ab (FV.gtrN (i:=a0.fu.length) (j:=0) rfl rfl)<|Ae rfl<|Ab (FV.leqN (i:=a0.fu.length) (j:=64) rfl rfl)<|Ai .plain rfl (Bb (α:=Bool) (xs:=([(decide (0 <= a0.fj)),(decide (a0.fj <= 6)),(decide (0 <= a0.fh)),(decide (a0.fh <= 12)),(decide (0 <= a0.fl)),(decide (a0.fl <= 3)),(decide (0 < a0.fu.length)),(decide (a0.fu.length <= 64))]:List Bool)) (vs:=[.bool (decide (0 <= a0.fj)),.bool (decide (a0.fj <= 6)),.bool (decide (0 <= a0.fh)),.bool (decide (a0.fh <= 12)),.bool (decide (0 <= a0.fl)),.bool (decide (a0.fl <= 3)),.bool (decide (0 < a0.fu.length)),.bool (decide (a0.fu.length <= 64))]) (ds' :=[.bool (decide (0 <= a0.fj)),.bool (decide (a0.fj <= 6)),.bool (decide (0 <= a0.fh)),.bool (decide (a0.fh <= 12)),.bool (decide (0 <= a0.fl)),.bool (decide (a0.fl <= 3)),.bool (decide (0 < a0.fu.length)),.bool (decide (a0.fu.length <= 64))]) rfl u0 gI rfl (e8 rfl rfl rfl rfl rfl rfl rfl rfl) (by kernel_rfl) rfl) fun Q2 y2 B0 H2=>bk h fun k2 V1 h=>Bi (.bool k2) (bd 102) rfl (e1 rfl) (fun w9 hw9=>aU_c n (B0.hL0 hL hw9) (Av (St.lend (α:=Bool) (L:=L) B0 .hd (AH (cs:=[.bool (decide (0 <= a0.fj)),.bool (decide (a0.fj <= 6)),.bool (decide (0 <= a0.fh)),.bool (decide (a0.fh <= 12)),.bool (decide (0 <= a0.fl)),.bool (decide (a0.fl <= 3)),.bool (decide (0 < a0.fu.length)),.bool (decide (a0.fu.length <= 64))]) (xs:=(([(decide (0 <= a0.fj)),(decide (a0.fj <= 6)),(decide (0 <= a0.fh)),(decide (a0.fh <= 12)),(decide (0 <= a0.fl)),(decide (a0.fl <= 3)),(decide (0 < a0.fu.length)),(decide (a0.fu.length <= 64))]:List Bool):List Bool)) B0 L (Ar (cs:=[.bool (decide (0 <= a0.fj))]) (ds:=[.bool (decide (a0.fj <= 6)),.bool (decide (0 <= a0.fh)),.bool (decide (a0.fh <= 12)),.bool (decide (0 <= a0.fl)),.bool (decide (a0.fl <= 3)),.bool (decide (0 < a0.fu.length)),.bool (decide (a0.fu.length <= 64))]) rfl (Ar (cs:=[.bool (decide (a0.fj <= 6))]) (ds:=[.bool (decide (0 <= a0.fh)),.bool (decide (a0.fh <= 12)),.bool (decide (0 <= a0.fl)),.bool (decide (a0.fl <= 3)),.bool (decide (0 < a0.fu.length)),.bool (decide (a0.fu.length <= 64))]) rfl (Ar (cs:=[.bool (decide (0 <= a0.fh))]) (ds:=[.bool (decide (a0.fh <= 12)),.bool (decide (0 <= a0.fl)),.bool (decide (a0.fl <= 3)),.bool (decide (0 < a0.fu.length)),.bool (decide (a0.fu.length <= 64))]) rfl (Ar (cs:=[.bool (decide (a0.fh <= 12))]) (ds:=[.bool (decide (0 <= a0.fl)),.bool (decide (a0.fl <= 3)),.bool (decide (0 < a0.fu.length)),.bool (decide (a0.fu.length <= 64))]) rfl (Ar (cs:=[.bool (decide (0 <= a0.fl))]) (ds:=[.bool (decide (a0.fl <= 3)),.bool (decide (0 < a0.fu.length)),.bool (decide (a0.fu.length <= 64))]) rfl (Ar (cs:=[.bool (decide (a0.fl <= 3))]) (ds:=[.bool (decide (0 < a0.fu.length)),.bool (decide (a0.fu.length <= 64))]) rfl (Ar (cs:=[.bool (decide (0 < a0.fu.length))]) (ds:=[.bool (decide (a0.fu.length <= 64))]) rfl (Ar (cs:=[.bool (decide (a0.fu.length <= 64))]) (ds:=[]) rfl (AR _ _)))))))))) hL) hw9) V1) rfl<|Ab (FV.not rfl)<|Aa<|MX.ifnb rfl h (fun X0 h=>?_) (fun X0 h=>?_)
 refine Au<|Ac<|Ai .plain rfl (Does.makeMap (κ:=ByteArray) (ν:=Bool) B0) fun X2 I0 G0 J2=>Ag rfl<|Aa<|Ac<|Ag rfl<|Aa<|Aj<|Ac<|Bg 3 rfl<|AU rfl ((G0.memA .t2) 3 _ rfl)<|Ab (Bl (xs:=a0.fu) underlying33 rfl (AT h0_3 G0))<|Ae rfl<|Aa<|Ay ?_
 obtain ⟨p1,I2⟩:=AF G0 (.a0 .d1)
 refine tn h fun M2 Q1 C0=>MX.lo (α:=Bool × Nat × (List (ByteArray × Bool))) (fun ⟨p0,q0,g0⟩=>[(1,vP H0),(4,.map (some I0)),(5,.bool p0),(38,v0_3),(39,vI ((a0.fu.length:Nat):Int)),(40,vI ((q0:Nat):Int))]) (fun ⟨p0,q0,g0⟩=>[.obj I0 (bZ (g0:List (ByteArray × Bool))),.cells H0 [vI a0.fj,vI a0.fh,vI a0.fl,v0_3] 35]) (fun ⟨p0,q0,g0⟩=>(p0,q0,g0)) (false,0,([]:List (ByteArray × Bool))) Q1 p1 ?_
 rintro x2 ⟨p0,q0,g0⟩ j3 D0 F0 E0 h
 unfold aE_l1 at h
 try dsimp only at h
 refine Ac<|Ab (Bn (i:=q0) (j:=a0.fu.length) rfl rfl)<|Aa<|Aj<|AW rfl h (fun W0 h=>?_) (fun W0 h=>?_)
 refine Au<|Aj<|Ay<|Ac<|Ae rfl<|bk h fun b0 U1 h=>?_
 obtain ⟨v2,E2,K1,M1,F2,R1,P1⟩:=Br (AT h0_3 F0) U1
 obtain ⟨c2,g2,j2,rfl,R0,U0,V0⟩:=iP R1
 refine Ab (Bu 6 q0 rfl K1 rfl rfl M1)<|Ab (AC rfl P1)<|RG.nl [.string ⟨#[]⟩,vI 0,vN,vN,vN,.bool false] F0 fun R2 z2 q1 t0=>Ag rfl<|AS [.string b0.fC,vI b0.fA,c2,g2,j2,.bool b0.fv] q1 .hd (o6 rfl rfl (AZ (Az R0 t0)) (AZ (Az U0 t0)) (AZ (Az V0 t0)) rfl) fun U2 s0 v0=>Aa<|Aj<|Aj<|du 24 fun c0 d0=>Rx 0 16727044 c0 rfl d0 (AC rfl (s0.memA .t2))<|Rx 1 16727044 c0 rfl d0 (AC rfl (s0.memA .hd))<|bk h fun j0 W1 h=>BD 2 7 16727040 (.bool j0) c0 rfl d0 (bd 103) rfl (e2 rfl rfl) (fun w9 hw9=>bH_c n (s0.hL0 hL hw9) a0 (s0.k0 h0_3 hw9) b0 (s0.kd (Az R0 (Tt t0 v0)) hw9) (s0.kd (Az U0 (Tt t0 v0)) hw9) (s0.kd (Az V0 (Tt t0 v0)) hw9) W1) rfl<|Rv 3 c0 rfl d0 (fun _=>Ak rfl)<|Rv 4 c0 rfl d0 (fun _=>AP 0 rfl)<|Rx 5 14680256 c0 rfl d0 (AQ rfl ((s0.memA .hd) 0 _ rfl))<|Rx 6 14680192 c0 rfl d0 (FV.lookup (kv:=b0.fC) (z:=false) s0 .t1 underlying157 underlying9 rfl rfl rfl rfl)<|Rv 7 c0 rfl d0 (fun _=>FV.not rfl)<|Rv 8 c0 rfl d0 (fun _=>AP 5 rfl)<|Rx 9 16727040 c0 rfl d0 (AQ rfl ((s0.memA .hd) 5 _ rfl))<|Rv 10 c0 rfl d0 (fun _=>Ak rfl)<|RD.ifb (s:=55) rfl h (fun Y0 h=>?_) (fun Y0 h=>?_)
 refine Bz 8191 11 [(11,56),(12,57)] (F:=[(55,true)]) (U:=[]) c0 d0 (.cons rfl .nil) .nil ?_
 dsimp only [aQ,List.map]
 refine Rv 13 c0 rfl d0 (fun _=>FV.pick_t rfl rfl)<|Rv 14 c0 rfl d0 (fun _=>Ak rfl)<|Rv 15 c0 rfl d0 (fun _=>FV.gtrN (i:=q0) (j:=0) rfl rfl)<|Rv 16 c0 rfl d0 (fun _=>Ak rfl)<|RD.ifd (s:=61) rfl h (fun Z0 h=>?_) (fun Z0 h=>?_)
 refine Bz 1048575 4 [(17,62),(18,63),(19,64)] (F:=[(61,true)]) (U:=[]) c0 d0 (.cons rfl .nil) .nil ?_
 dsimp only [aQ,List.map]
 refine Rv 20 c0 rfl d0 (fun _=>FV.pick_t rfl rfl)<|RD.nu 21 4194303 c0 rfl .plain rfl (Bb (α:=Bool) (xs:=([j0,(!(az g0 b0.fC false)),true,true]:List Bool)) (vs:=[.bool j0,.bool (!(az g0 b0.fC false)),.bool true,.bool true]) (ds' :=[.bool j0,.bool (!(az g0 b0.fC false)),.bool true,.bool true]) rfl s0 gI rfl (e4 rfl rfl rfl rfl) (by kernel_rfl) rfl) fun V2 A2 x0 y1=>bk h fun p2 X1 h=>BD 22 8388607 8388608 (.bool p2) c0 rfl d0 (bd 102) rfl (e1 rfl) (fun w9 hw9=>aU_c n (x0.hL0 hL hw9) (Av (St.lend (α:=Bool) (L:=L) x0 .hd (AH (cs:=[.bool j0,.bool (!(az g0 b0.fC false)),.bool true,.bool true]) (xs:=(([j0,(!(az g0 b0.fC false)),true,true]:List Bool):List Bool)) x0 L (Ar (cs:=[.bool j0]) (ds:=[.bool (!(az g0 b0.fC false)),.bool true,.bool true]) rfl (Ar (cs:=[.bool (!(az g0 b0.fC false))]) (ds:=[.bool true,.bool true]) rfl (Ar (cs:=[.bool true]) (ds:=[.bool true]) rfl (Ar (cs:=[.bool true]) (ds:=[]) rfl (AR _ _)))))) hL) hw9) X1) rfl<|Rv 23 c0 rfl d0 (fun _=>FV.not rfl)<|AJ (dk c0)<|MX.ifnb rfl h (fun b1 h=>?_) (fun b1 h=>?_)
 refine Au<|Ac<|Ae rfl<|Bg 0 rfl<|AU rfl ((x0.memA .t1) 0 _ rfl)<|RG.now .plain (Acts.mapUpdate (kv:=b0.fC) (vv:=true) x0 .t2 underlying157 underlying9 rfl rfl rfl rfl) fun W2 J0 z1=>Aa<|Am<|Bg 5 rfl<|AU rfl ((J0.memA .t1) 5 _ rfl)<|Ag rfl<|Aa<|AE<|Am<|Ab (Bp (i:=q0) (j:=1) rfl rfl (by omega))<|Ae rfl<|Aa ?_
 obtain ⟨s1,A1⟩:=AF J0 .d2
 exact D0 (b0.fv,q0 + 1,aX g0 b0.fC true) s1 (Tt E0 (Tt t0 (Tt v0 (Tt y1 (Tt z1 A1))))) h
 refine Ac<|Ag rfl<|Aa ?_
 have h:=ap h C0
 refine Ao rfl<|Bc hb0 func77 rfl rfl ?_
 cases h
 exact x0.gv
 refine RD.vP 17 262143 c0 rfl d0 (.yes rfl rfl) (fun _=>AP 5 rfl) rfl<|RD.val (i:=18) (m' :=524287) (W:=16252928) (tk c0) rfl d0 (.yes rfl rfl) (AQ rfl ((s0.memA .hd) 5 _ rfl)) rfl<|RD.vP 19 1048575 c0 rfl d0 (.yes rfl rfl) (fun _=>FV.not rfl) rfl<|Rv 20 c0 rfl d0 (fun _=>Bm rfl rfl)<|RD.nu 21 4194303 c0 rfl .plain rfl (Bb (α:=Bool) (xs:=([j0,(!(az g0 b0.fC false)),true,(!b0.fv)]:List Bool)) (vs:=[.bool j0,.bool (!(az g0 b0.fC false)),.bool true,.bool (!b0.fv)]) (ds' :=[.bool j0,.bool (!(az g0 b0.fC false)),.bool true,.bool (!b0.fv)]) rfl s0 gI rfl (e4 rfl rfl rfl rfl) (by kernel_rfl) rfl) fun Y2 B2 y0 B1=>bk h fun q2 Y1 h=>BD 22 8388607 8388608 (.bool q2) c0 rfl d0 (bd 102) rfl (e1 rfl) (fun w9 hw9=>aU_c n (y0.hL0 hL hw9) (Av (St.lend (α:=Bool) (L:=L) y0 .hd (AH (cs:=[.bool j0,.bool (!(az g0 b0.fC false)),.bool true,.bool (!b0.fv)]) (xs:=(([j0,(!(az g0 b0.fC false)),true,(!b0.fv)]:List Bool):List Bool)) y0 L (Ar (cs:=[.bool j0]) (ds:=[.bool (!(az g0 b0.fC false)),.bool true,.bool (!b0.fv)]) rfl (Ar (cs:=[.bool (!(az g0 b0.fC false))]) (ds:=[.bool true,.bool (!b0.fv)]) rfl (Ar (cs:=[.bool true]) (ds:=[.bool (!b0.fv)]) rfl (Ar (cs:=[.bool (!b0.fv)]) (ds:=[]) rfl (AR _ _)))))) hL) hw9) Y1) rfl<|Rv 23 c0 rfl d0 (fun _=>FV.not rfl)<|AJ (dk c0)<|MX.ifnb rfl h (fun c1 h=>?_) (fun c1 h=>?_)
 refine Au<|Ac<|Ae rfl<|Bg 0 rfl<|AU rfl ((y0.memA .t1) 0 _ rfl)<|RG.now .plain (Acts.mapUpdate (kv:=b0.fC) (vv:=true) y0 .t2 underlying157 underlying9 rfl rfl rfl rfl) fun Z2 K0 C1=>Aa<|Am<|Bg 5 rfl<|AU rfl ((K0.memA .t1) 5 _ rfl)<|Ag rfl<|Aa<|AE<|Am<|Ab (Bp (i:=q0) (j:=1) rfl rfl (by omega))<|Ae rfl<|Aa ?_
 obtain ⟨u1,D1⟩:=AF K0 .d2
 exact D0 (b0.fv,q0 + 1,aX g0 b0.fC true) u1 (Tt E0 (Tt t0 (Tt v0 (Tt B1 (Tt C1 D1))))) h
 refine Ac<|Ag rfl<|Aa ?_
 have h:=ap h C0
 refine Ao rfl<|Bc hb0 func77 rfl rfl ?_
 cases h
 exact y0.gv
 refine RD.vP 11 4095 c0 rfl d0 (.yes rfl rfl) (fun _=>Ak rfl) rfl<|RD.vP 12 8191 c0 rfl d0 (.yes rfl rfl) (fun _=>FV.not rfl) rfl<|Rv 13 c0 rfl d0 (fun _=>Bm rfl rfl)<|Rv 14 c0 rfl d0 (fun _=>Ak rfl)<|Rv 15 c0 rfl d0 (fun _=>FV.gtrN (i:=q0) (j:=0) rfl rfl)<|Rv 16 c0 rfl d0 (fun _=>Ak rfl)<|RD.ifd (s:=61) rfl h (fun g1 h=>?_) (fun g1 h=>?_)
 refine Bz 1048575 4 [(17,62),(18,63),(19,64)] (F:=[(61,true)]) (U:=[]) c0 d0 (.cons rfl .nil) .nil ?_
 dsimp only [aQ,List.map]
 refine Rv 20 c0 rfl d0 (fun _=>FV.pick_t rfl rfl)<|RD.nu 21 4194303 c0 rfl .plain rfl (Bb (α:=Bool) (xs:=([j0,(!(az g0 b0.fC false)),(!p0),true]:List Bool)) (vs:=[.bool j0,.bool (!(az g0 b0.fC false)),.bool (!p0),.bool true]) (ds' :=[.bool j0,.bool (!(az g0 b0.fC false)),.bool (!p0),.bool true]) rfl s0 gI rfl (e4 rfl rfl rfl rfl) (by kernel_rfl) rfl) fun b3 C2 z0 E1=>bk h fun s2 Z1 h=>BD 22 8388607 8388608 (.bool s2) c0 rfl d0 (bd 102) rfl (e1 rfl) (fun w9 hw9=>aU_c n (z0.hL0 hL hw9) (Av (St.lend (α:=Bool) (L:=L) z0 .hd (AH (cs:=[.bool j0,.bool (!(az g0 b0.fC false)),.bool (!p0),.bool true]) (xs:=(([j0,(!(az g0 b0.fC false)),(!p0),true]:List Bool):List Bool)) z0 L (Ar (cs:=[.bool j0]) (ds:=[.bool (!(az g0 b0.fC false)),.bool (!p0),.bool true]) rfl (Ar (cs:=[.bool (!(az g0 b0.fC false))]) (ds:=[.bool (!p0),.bool true]) rfl (Ar (cs:=[.bool (!p0)]) (ds:=[.bool true]) rfl (Ar (cs:=[.bool true]) (ds:=[]) rfl (AR _ _)))))) hL) hw9) Z1) rfl<|Rv 23 c0 rfl d0 (fun _=>FV.not rfl)<|AJ (dk c0)<|MX.ifnb rfl h (fun j1 h=>?_) (fun j1 h=>?_)
 refine Au<|Ac<|Ae rfl<|Bg 0 rfl<|AU rfl ((z0.memA .t1) 0 _ rfl)<|RG.now .plain (Acts.mapUpdate (kv:=b0.fC) (vv:=true) z0 .t2 underlying157 underlying9 rfl rfl rfl rfl) fun c3 M0 F1=>Aa<|Am<|Bg 5 rfl<|AU rfl ((M0.memA .t1) 5 _ rfl)<|Ag rfl<|Aa<|AE<|Am<|Ab (Bp (i:=q0) (j:=1) rfl rfl (by omega))<|Ae rfl<|Aa ?_
 obtain ⟨v1,G1⟩:=AF M0 .d2
 exact D0 (b0.fv,q0 + 1,aX g0 b0.fC true) v1 (Tt E0 (Tt t0 (Tt v0 (Tt E1 (Tt F1 G1))))) h
 refine Ac<|Ag rfl<|Aa ?_
 have h:=ap h C0
 refine Ao rfl<|Bc hb0 func77 rfl rfl ?_
 cases h
 exact z0.gv
 refine RD.vP 17 262143 c0 rfl d0 (.yes rfl rfl) (fun _=>AP 5 rfl) rfl<|RD.val (i:=18) (m' :=524287) (W:=16252928) (tk c0) rfl d0 (.yes rfl rfl) (AQ rfl ((s0.memA .hd) 5 _ rfl)) rfl<|RD.vP 19 1048575 c0 rfl d0 (.yes rfl rfl) (fun _=>FV.not rfl) rfl<|Rv 20 c0 rfl d0 (fun _=>Bm rfl rfl)<|RD.nu 21 4194303 c0 rfl .plain rfl (Bb (α:=Bool) (xs:=([j0,(!(az g0 b0.fC false)),(!p0),(!b0.fv)]:List Bool)) (vs:=[.bool j0,.bool (!(az g0 b0.fC false)),.bool (!p0),.bool (!b0.fv)]) (ds' :=[.bool j0,.bool (!(az g0 b0.fC false)),.bool (!p0),.bool (!b0.fv)]) rfl s0 gI rfl (e4 rfl rfl rfl rfl) (by kernel_rfl) rfl) fun d3 D2 A0 H1=>bk h fun u2 b2 h=>BD 22 8388607 8388608 (.bool u2) c0 rfl d0 (bd 102) rfl (e1 rfl) (fun w9 hw9=>aU_c n (A0.hL0 hL hw9) (Av (St.lend (α:=Bool) (L:=L) A0 .hd (AH (cs:=[.bool j0,.bool (!(az g0 b0.fC false)),.bool (!p0),.bool (!b0.fv)]) (xs:=(([j0,(!(az g0 b0.fC false)),(!p0),(!b0.fv)]:List Bool):List Bool)) A0 L (Ar (cs:=[.bool j0]) (ds:=[.bool (!(az g0 b0.fC false)),.bool (!p0),.bool (!b0.fv)]) rfl (Ar (cs:=[.bool (!(az g0 b0.fC false))]) (ds:=[.bool (!p0),.bool (!b0.fv)]) rfl (Ar (cs:=[.bool (!p0)]) (ds:=[.bool (!b0.fv)]) rfl (Ar (cs:=[.bool (!b0.fv)]) (ds:=[]) rfl (AR _ _)))))) hL) hw9) b2) rfl<|Rv 23 c0 rfl d0 (fun _=>FV.not rfl)<|AJ (dk c0)<|MX.ifnb rfl h (fun k1 h=>?_) (fun k1 h=>?_)
 refine Au<|Ac<|Ae rfl<|Bg 0 rfl<|AU rfl ((A0.memA .t1) 0 _ rfl)<|RG.now .plain (Acts.mapUpdate (kv:=b0.fC) (vv:=true) A0 .t2 underlying157 underlying9 rfl rfl rfl rfl) fun g3 P0 I1=>Aa<|Am<|Bg 5 rfl<|AU rfl ((P0.memA .t1) 5 _ rfl)<|Ag rfl<|Aa<|AE<|Am<|Ab (Bp (i:=q0) (j:=1) rfl rfl (by omega))<|Ae rfl<|Aa ?_
 obtain ⟨x1,J1⟩:=AF P0 .d2
 exact D0 (b0.fv,q0 + 1,aX g0 b0.fC true) x1 (Tt E0 (Tt t0 (Tt v0 (Tt H1 (Tt I1 J1))))) h
 refine Ac<|Ag rfl<|Aa ?_
 have h:=ap h C0
 refine Ao rfl<|Bc hb0 func77 rfl rfl ?_
 cases h
 exact A0.gv
 refine Bf rfl ?_
 have h:=aH h C0
 try dsimp only at h
 refine Ac<|Ag rfl<|Aa<|Ao rfl<|Bc hb0 func77 rfl rfl ?_
 cases h
 exact F0.gv
 refine Ac<|Ag rfl<|Aa<|Ao rfl<|Bc hb0 func77 rfl rfl ?_
 cases h
 exact B0.gv
def aj_p (n:Nat) (a0:Bool) (a1:Int):Option (Except Tc Unit):=
  (if a0 = true then (bT_p n a1).bind fun y2=>exc y2 (fun _y11=>some (.ok ())) (fun b0=>some (.error b0)) else some (.ok ()))
theorem aj_c (n:Nat) {L w} (hL:hl L w) {a0:Bool} {a1:Int}  {r:Except Tc Unit} (h:aj_p n a0 a1 = some r) :
 Cl 78 #[.bool a0,vI a1] w (aD w (fun (_y:Unit) _ u=>u = .tuple #[]) (fun e=>.iface 131 (.agg #[vI e.fB])) r):=by
 unfold aj_p at h
 have hS0:=AB w
 refine BF func78 rfl rfl rfl fun _ cs0 hb0 hp0=>Ac<|Ae rfl<|Aa<|MX.ifb rfl h (fun c1 h=>?_) (fun c1 h=>?_)
 refine Am<|Ae rfl<|xk h (fun d0 hy2 h=>?_) (fun k0 hy2 h=>?_)
 refine Bo (fst:=[]) (cap:=[]) .plain (bd 76) rfl (e1 rfl) (fun w9 hw9=>bT_c n (hS0.hL0 hL hw9)  hy2) fun j0 c0=>?_
 obtain ⟨b0,g0⟩:=hS0.agr c0
 cases h
 exact Aq hp0 func78 ⟨b0.ag,rfl⟩
 refine Bi (.tuple #[]) (bd 76) rfl (e1 rfl) (fun w9 hw9=>AI (bT_c n (hS0.hL0 hL hw9)  hy2)) rfl<|Aa<|MX.fin rfl<|Ap hb0 func78 rfl .nil rfl ?_
 cases h
 exact ⟨hS0.ag,fun w9 hw9=>ay rfl⟩
 refine Au<|MX.fin rfl<|Ap hb0 func78 rfl .nil rfl ?_
 cases h
 exact ⟨hS0.ag,fun w9 hw9=>ay rfl⟩
structure Tj where
  fE:Tf
  fk:Int
  deriving DecidableEq
instance:Rep Tj:=Rep.via (β:=Tf × Int) fun x=>(x.fE,x.fk)
def bO_p (n:Nat) (a0:Tf) (a1:Int):Option (Except Tc Tj):=
  (aE_p n a0).bind fun g0=>(bT_p n g0).bind fun j0=>exc j0 (fun _y23=>(if a1 < 1 then (aj_p n true (2:Int)).bind fun k0=>exc k0 (fun _y32=>some (.ok (⟨a0,a1⟩:Tj))) (fun c0=>some (.error c0)) else (aj_p n (decide (8 < a1)) (2:Int)).bind fun p0=>exc p0 (fun _y47=>some (.ok (⟨a0,a1⟩:Tj))) (fun d0=>some (.error d0)))) (fun b0=>some (.error b0))
theorem bO_c (n:Nat) {L w} (hL:hl L w) (a0:Tf) {v0_3:Value} (h0_3:Rep.R w L [v0_3] a0.fu) {a1:Int}  {r:Except Tc Tj} (h:bO_p n a0 a1 = some r) :
 Cl 41 #[.agg #[vI a0.fj,vI a0.fh,vI a0.fl,v0_3],vI a1] w (aD w (fun (y:Tj) w' u=>∃ v0_3:Value,u = .agg #[vI y.fE.fj,vI y.fE.fh,vI y.fE.fl,v0_3,vI y.fk]/\Rep.R w' L [v0_3] y.fE.fu) (fun e=>.iface 131 (.agg #[vI e.fB])) r):=by
 unfold bO_p at h
 refine BF func41 rfl rfl rfl fun _ cs0 hb0 hp0=>Ac<|RG.bx (AB w) rfl rfl fun c1 I0 u0 U0=>RG.nl [vI 0,vI 0,vI 0,vN,vI 0] u0 fun d1 J0 b0 V0=>Aa<|Ac<|Ab (AC rfl (b0.memA .t1))<|bk h fun F0 E0 h=>Bi (vI F0) (bd 77) rfl (e1 rfl) (fun w9 hw9=>aE_c n (b0.hL0 hL hw9) a0 (b0.k0 h0_3 hw9) E0) rfl<|xk h (fun P0 g0 h=>?_) (fun s1 g0 h=>?_)
 refine Bo (fst:=[]) (cap:=[]) .plain (bd 76) rfl (e1 rfl) (fun w9 hw9=>bT_c n (b0.hL0 hL hw9)  g0) fun g1 z0=>?_
 obtain ⟨v0,W0⟩:=b0.agr z0
 cases h
 exact Aq hp0 func41 ⟨v0.ag,rfl⟩
 refine Bi (.tuple #[]) (bd 76) rfl (e1 rfl) (fun w9 hw9=>AI (bT_c n (b0.hL0 hL hw9)  g0)) rfl<|Aa<|Ac<|Ae rfl<|Ab (FV.lss (i:=a1) (j:=1) rfl rfl)<|Ae rfl<|RG.ifd (s:=10) rfl h (fun t0 h=>?_) (fun t0 h=>?_)
 refine AL<|AL<|RG.pt rfl rfl<|xk h (fun Q0 j0 h=>?_) (fun u1 j0 h=>?_)
 refine Bo (fst:=[]) (cap:=[]) .plain (bd 78) rfl (e2 rfl rfl) (fun w9 hw9=>aj_c n (b0.hL0 hL hw9)  j0) fun j1 A0=>?_
 obtain ⟨x0,X0⟩:=b0.agr A0
 cases h
 exact Aq hp0 func41 ⟨x0.ag,rfl⟩
 refine Bi (.tuple #[]) (bd 78) rfl (e2 rfl rfl) (fun w9 hw9=>AI (aj_c n (b0.hL0 hL hw9)  j0)) rfl<|Aa<|Ac<|Ab (AC rfl (b0.memA .t1))<|Ae rfl ?_
 have q0:=AT h0_3 b0
 obtain ⟨G0,K0,C0,_⟩:=Rep.sl q0
 refine Ab (AO (vs:=[.agg #[vI a0.fj,vI a0.fh,vI a0.fl,v0_3],vI a1]) (u:=.agg #[vI a0.fj,vI a0.fh,vI a0.fl,v0_3,vI a1]) (e2 rfl rfl) (fun w9=>by rw [C0]; try kernel_rfl))<|AS [vI a0.fj,vI a0.fh,vI a0.fl,v0_3,vI a1] b0 .hd (o5 rfl rfl rfl (AZ q0) rfl) fun k1 c0 Y0=>Aa<|Ao rfl<|Ap hb0 func41 rfl (.cons (.many (cs:=[vI a0.fj,vI a0.fh,vI a0.fl,v0_3,vI a1]) rfl rfl (c0.memA .hd)) .nil) rfl ?_
 cases h
 exact ⟨c0.ag,fun w9 hw9=>ay ⟨v0_3,rfl,c0.k0 h0_3 hw9⟩⟩
 refine AX (Ak rfl)<|AX (FV.gtr (i:=a1) (j:=8) rfl rfl)<|RG.pf rfl rfl<|xk h (fun R0 p0 h=>?_) (fun v1 p0 h=>?_)
 refine Bo (fst:=[]) (cap:=[]) .plain (bd 78) rfl (e2 rfl rfl) (fun w9 hw9=>aj_c n (b0.hL0 hL hw9)  p0) fun p1 B0=>?_
 obtain ⟨y0,Z0⟩:=b0.agr B0
 cases h
 exact Aq hp0 func41 ⟨y0.ag,rfl⟩
 refine Bi (.tuple #[]) (bd 78) rfl (e2 rfl rfl) (fun w9 hw9=>AI (aj_c n (b0.hL0 hL hw9)  p0)) rfl<|Aa<|Ac<|Ab (AC rfl (b0.memA .t1))<|Ae rfl ?_
 have s0:=AT h0_3 b0
 obtain ⟨H0,M0,D0,_⟩:=Rep.sl s0
 refine Ab (AO (vs:=[.agg #[vI a0.fj,vI a0.fh,vI a0.fl,v0_3],vI a1]) (u:=.agg #[vI a0.fj,vI a0.fh,vI a0.fl,v0_3,vI a1]) (e2 rfl rfl) (fun w9=>by rw [D0]; try kernel_rfl))<|AS [vI a0.fj,vI a0.fh,vI a0.fl,v0_3,vI a1] b0 .hd (o5 rfl rfl rfl (AZ s0) rfl) fun q1 d0 b1=>Aa<|Ao rfl<|Ap hb0 func41 rfl (.cons (.many (cs:=[vI a0.fj,vI a0.fh,vI a0.fl,v0_3,vI a1]) rfl rfl (d0.memA .hd)) .nil) rfl ?_
 cases h
 exact ⟨d0.ag,fun w9 hw9=>ay ⟨v0_3,rfl,d0.k0 h0_3 hw9⟩⟩
theorem cE_c (_n:Nat) {L w} (_hL:hl L w) (a0:Tj) {v0_3:Value} (_h0_3:Rep.R w L [v0_3] a0.fE.fu)  :
 Cl 80 #[.agg #[vI a0.fE.fj,vI a0.fE.fh,vI a0.fE.fl,v0_3,vI a0.fk]] w (aj w fun w' u=>∃ b0:Nat,u = .func (.func 104) #[] #[vP b0]/\St w w' [.cells b0 [vI a0.fE.fj,vI a0.fE.fh,vI a0.fE.fl,v0_3,vI a0.fk] 88]):=by
 refine AG func80 rfl rfl rfl fun _ cs0 hb0=>Ac<|RG.bx (AB w) rfl rfl fun g0 b0 c0 d0=>Ag rfl<|Aa<|Ac<|Ab (BG (vs:=[]) (us:=[vP b0]) ak (e1 rfl))<|Ag rfl<|Aa<|Ao rfl<|Ap (u:=.func (.func 104) #[] #[vP b0]) hb0 func80 rfl (.cons (.tmp rfl) .nil) rfl<|⟨c0.ag,fun w9 hw9=>⟨b0,rfl,c0.agree hw9⟩⟩
def ai_l1 (n:Nat) (a1:List Int) (a0:Tj) (g0:Nat × (List (Int × Bool)) -> Option ((Except Tc Unit) ⊕ (List (Int × Bool)))):Nat × (List (Int × Bool)) -> Option ((Except Tc Unit) ⊕ (List (Int × Bool)))
  | (b0,d0)=>(if b0 < a1.length then (a1[b0]?).bind fun c0=>(if c0 < 0 then (aj_p n true (220:Int)).bind fun p0=>exc p0 (fun _y289=>g0 (b0 + 1,aX d0 c0 true)) (fun j0=>some (.inl (.error j0))) else (aj_p n (decide (a0.fk <= c0)) (220:Int)).bind fun q0=>exc q0 (fun _y305=>g0 (b0 + 1,aX d0 c0 true)) (fun k0=>some (.inl (.error k0)))) else some (.inr d0))
def ai_l2 (n:Nat) (a1:List Int) (a0:Tj) (g0:Nat × (List (Int × Bool)) -> Option ((Except Tc Unit) ⊕ (List (Int × Bool)))):Nat × (List (Int × Bool)) -> Option ((Except Tc Unit) ⊕ (List (Int × Bool)))
  | (b0,d0)=>(if b0 < a1.length then (a1[b0]?).bind fun c0=>(if c0 < 0 then (aj_p n true (220:Int)).bind fun p0=>exc p0 (fun _y467=>g0 (b0 + 1,aX d0 c0 true)) (fun j0=>some (.inl (.error j0))) else (aj_p n (decide (a0.fk <= c0)) (220:Int)).bind fun q0=>exc q0 (fun _y483=>g0 (b0 + 1,aX d0 c0 true)) (fun k0=>some (.inl (.error k0)))) else some (.inr d0))
def ai_l3 (n:Nat) (a0:Tj) (a1:List Int) (g0:Nat × Int -> Option ((Except Tc Unit) ⊕ Int)):Nat × Int -> Option ((Except Tc Unit) ⊕ Int)
  | (b0,c0)=>(if b0 < a0.fE.fu.length then (a0.fE.fu[b0]?).bind fun q0=>(if q0.fv = true then ((aj_p n (!(decide (((a1.length:Nat):Int) = c0))) (220:Int)).bind fun s0=>exc s0 (fun _y184=>thn (ao (ai_l1 n a1 a0) n (0,([]:List (Int × Bool)))) (fun d0=>(aj_p n (!(decide (((d0.length:Nat):Int) = a0.fk))) (220:Int)).bind fun t0=>exc t0 (fun _y321=>some (.ok ())) (fun k0=>some (.error k0)))) (fun j0=>some (.error j0))).map .inl else (chk (c0 + 1)).bind fun p0=>g0 (b0 + 1,p0)) else some (.inr c0))
def ai_p (n:Nat) (a0:Tj) (a1:List Int):Option (Except Tc Unit):=
  thn (ao (ai_l3 n a0 a1) n (0,0)) (fun k0=>(aj_p n (!(decide (((a1.length:Nat):Int) = k0))) (220:Int)).bind fun g0=>exc g0 (fun _y362=>thn (ao (ai_l2 n a1 a0) n (0,([]:List (Int × Bool)))) (fun b0=>(aj_p n (!(decide (((b0.length:Nat):Int) = a0.fk))) (220:Int)).bind fun j0=>exc j0 (fun _y499=>some (.ok ())) (fun d0=>some (.error d0)))) (fun c0=>some (.error c0)))
theorem ai_c (n:Nat) {L w} (hL:hl L w) (a0:Tj) {v0_3:Value} (h0_3:Rep.R w L [v0_3] a0.fE.fu) {a1:List Int} {v1_0:Value} (h1_0:Rep.R w L [v1_0] a1)  {r:Except Tc Unit} (h:ai_p n a0 a1 = some r) :
 Cl 79 #[.agg #[vI a0.fE.fj,vI a0.fE.fh,vI a0.fE.fl,v0_3,vI a0.fk],v1_0] w (aD w (fun (_y:Unit) _ u=>u = .tuple #[]) (fun e=>.iface 131 (.agg #[vI e.fB])) r):=by
 unfold ai_p at h
 refine BF func79 rfl rfl rfl fun _ cs0 hb0 hp0=>Ac<|RG.bx (AB w) rfl rfl fun y6 y0 P1 Y4=>Aa<|Ac<|RG.nl [vI 0] P1 fun z6 C1 R1 c5=>AS [vI 0] R1 .hd (o1 rfl) fun x4 B0 p5=>Aa<|Aj<|Ac<|Ab (AC rfl (B0.memA .t1))<|jE (bd 80) rfl (e1 rfl) (fun w9 hw9=>Calls.gives (cE_c n (B0.hL hL hw9) a0 (B0.km h0_3 hw9)) fun (w8:World) (u8:Value) ⟨b0_,hu_,s_⟩=>(⟨b0_,hu_,s_.from hw9⟩:∃ z0:Nat,u8 = Value.func (.func 104) #[] #[vP z0]/\St x4 w8 [.cells z0 [vI a0.fE.fj,vI a0.fE.fh,vI a0.fE.fl,v0_3,vI a0.fk] 88])) rfl fun G6 x6 g6 ⟨z0,k4,x1⟩=>?_
 subst k4
 have x5:=il B0 x1
 refine Aa<|Ay<|MX.rangeP (lb:=[vP z0]) rfl (dS B0 x1) rfl (bd 104) func104 rfl rfl rfl fun w32 v1 D0 u4 K4 F0 F5 v4 k1 s6=>Ac<|Bg 0 rfl<|Bg 3 rfl<|AU rfl ((aM (F0.memA .t2) 0) 3 _ rfl) ?_
 have u1:=AT h0_3 F0
 have p6:a0.fE.fu.length <= 281474976710656:=Bh u1
 refine Ab (Bl (xs:=a0.fE.fu) underlying33 rfl u1)<|Ae rfl<|Aa<|Ay<|tn h fun t6 V3 p1=>MX.lo (α:=Nat × Int) (fun ⟨j0,q0⟩=>[(0,.func (.yield v1) #[] #[]),(7,v0_3),(8,vI ((a0.fE.fu.length:Nat):Int)),(9,vI ((j0:Nat):Int))]) (fun ⟨j0,q0⟩=>[.obj v1 (lpO u4 .ready none),.obj D0 (.deferred (some [])),.cells z0 [vI a0.fE.fj,vI a0.fE.fh,vI a0.fE.fl,v0_3,vI a0.fk] 88,.cells C1 [vI q0] 3,.cells y0 [vI a0.fE.fj,vI a0.fE.fh,vI a0.fE.fl,v0_3,vI a0.fk] 88]) (fun ⟨j0,q0⟩=>(j0,q0)) (0,0) V3 F0 ?_
 rintro B4 ⟨j0,q0⟩ v7 M1 E0 Z2 h
 unfold ai_l3 at h
 try dsimp only at h
 refine Ac<|Ab (Bn (i:=j0) (j:=a0.fE.fu.length) rfl rfl)<|Aa<|Aj<|AW rfl h (fun D1 h=>?_) (fun D1 h=>?_)
 refine Au<|Aj<|Ay<|Ac<|Ae rfl<|bk h fun x0 p4 h=>?_
 obtain ⟨y4,F4,F3,K3,I4,Y3,Q3⟩:=Br (AT h0_3 E0) p4
 obtain ⟨z1,A1,B1,rfl,Z3,b4,c4⟩:=iP Y3
 refine Ab (Bu 6 j0 rfl F3 rfl rfl K3)<|Ab (AC rfl Q3)<|RG.nl [.string ⟨#[]⟩,vI 0,vN,vN,vN,.bool false] E0 fun A6 E4 Q1 C0=>Ag rfl<|AS [.string x0.fC,vI x0.fA,z1,A1,B1,.bool x0.fv] Q1 .hd (o6 rfl rfl (AZ (Az Z3 C0)) (AZ (Az b4 C0)) (AZ (Az c4 C0)) rfl) fun B6 A0 b3=>Aa<|Ac<|Bg 5 rfl<|AU rfl ((A0.memA .hd) 5 _ rfl)<|Ae rfl<|RG.ifb (s:=16) rfl h (fun E1 h=>?_) (fun E1 h=>?_)
 refine AL<|AL<|AL<|AL<|AL<|RG.pt rfl rfl<|Aa<|Be rfl ?_
 have h:=kc h p1
 refine Ao rfl<|Ap (u:=.tuple #[]) k1 func104 rfl .nil rfl<|MX.endRange0 A0 .t1 (by intro h9; cases h9) fun C6 U1 Z4=>?_
 obtain ⟨u0,b5⟩:=AF U1 (.a0 .d1)
 refine AE<|Ac<|Ae rfl ?_
 have q1:=AT h1_0 u0
 have j6:a1.length <= 281474976710656:=Bh q1
 refine Ab (Bl (xs:=a1) underlying30 rfl q1)<|AU rfl ((u0.memA .t3) 0 _ rfl)<|Ab (FV.neq (i:=((a1.length:Nat):Int)) (j:=q0) rfl rfl)<|xk h (fun M4 I0 h=>?_) (fun z7 I0 h=>?_)
 refine Bo (fst:=[]) (cap:=[]) .plain (bd 78) rfl (e2 rfl rfl) (fun w9 hw9=>aj_c n (u0.hL0 hL hw9)  I0) fun D6 v3=>?_
 obtain ⟨V1,d5⟩:=u0.agr v3
 refine BE V1 .t1 fun E6 W1 g5=>?_
 obtain ⟨X1,j5⟩:=AF W1 (.a0 .d1)
 cases h
 exact Aq hp0 func79 ⟨X1.ag,rfl⟩
 refine Bi (.tuple #[]) (bd 78) rfl (e2 rfl rfl) (fun w9 hw9=>AI (aj_c n (u0.hL0 hL hw9)  I0)) rfl<|Aa<|Ac<|Ai .plain rfl (Does.makeMap (κ:=Int) (ν:=Bool) u0) fun F6 V0 Z0 k5=>Ag rfl<|Aa<|Aj<|Ac<|Ae rfl<|Ab (Bl (xs:=a1) underlying30 rfl (AT h1_0 Z0))<|Ae rfl<|Aa<|Ay ?_
 obtain ⟨Y1,q5⟩:=AF Z0 (.a0 (.a1 .d3))
 refine tn h fun u6 W3 G0=>MX.lo (α:=Nat × (List (Int × Bool))) (fun ⟨d0,k0⟩=>[(2,vP y0),(5,.map (some V0)),(20,v1_0),(21,vI ((a1.length:Nat):Int)),(22,vI ((d0:Nat):Int))]) (fun ⟨d0,k0⟩=>[.obj V0 (bZ (k0:List (Int × Bool))),.obj D0 (.deferred (some [])),.cells y0 [vI a0.fE.fj,vI a0.fE.fh,vI a0.fE.fl,v0_3,vI a0.fk] 88]) (fun ⟨d0,k0⟩=>(d0,k0)) (0,([]:List (Int × Bool))) W3 Y1 ?_
 rintro C4 ⟨d0,k0⟩ x7 X0 b0 g1 h
 unfold ai_l1 at h
 try dsimp only at h
 refine Ac<|Ab (Bn (i:=d0) (j:=a1.length) rfl rfl)<|Aa<|Aj<|AW rfl h (fun F1 h=>?_) (fun F1 h=>?_)
 refine Au<|Aj<|Ay<|Ac<|bk h fun s0 q4 h=>?_
 obtain ⟨z4,G4,G3,M3,J1,d4,R3⟩:=Br (AT h1_0 b0) q4
 have H3:J1 = [vI s0]:=d4; subst H3
 refine Ab (Bu 1 d0 rfl G3 rfl rfl M3)<|AU rfl (R3 0 _ rfl)<|Ag rfl<|Aa<|Ac<|Ae rfl<|Ab (FV.lss (i:=s0) (j:=0) rfl rfl)<|Ae rfl<|RG.ifd (s:=28) rfl h (fun G1 h=>?_) (fun G1 h=>?_)
 refine AL<|AL<|AL<|AL<|RG.pt rfl rfl<|xk h (fun P4 J0 h=>?_) (fun A7 J0 h=>?_)
 have h:=ap h G0
 refine Bo (fst:=[]) (cap:=[]) .plain (bd 78) rfl (e2 rfl rfl) (fun w9 hw9=>aj_c n (b0.hL0 hL hw9)  J0) fun H6 x3=>?_
 obtain ⟨Z1,s5⟩:=b0.agr x3
 refine BE Z1 .t1 fun I6 b2 t5=>?_
 obtain ⟨c2,u5⟩:=AF b2 (.a0 .d1)
 cases h
 exact Aq hp0 func79 ⟨c2.ag,rfl⟩
 refine Bi (.tuple #[]) (bd 78) rfl (e2 rfl rfl) (fun w9 hw9=>AI (aj_c n (b0.hL0 hL hw9)  J0)) rfl<|Aa<|Am<|Ae rfl<|Ae rfl<|RG.now .plain (Acts.mapUpdate (kv:=s0) (vv:=true) b0 .hd underlying159 underlying3 rfl rfl rfl rfl) fun J6 g2 c3=>Aa<|AE<|Am<|Ab (Bp (i:=d0) (j:=1) rfl rfl (by omega))<|Ae rfl<|Aa<|X0 (d0 + 1,aX k0 s0 true) g2 (Tt g1 c3) h
 refine AX (Ak rfl)<|RG.fg 4 rfl<|AX (AQ rfl ((b0.memA .t2) 4 _ rfl))<|AX (FV.geq (i:=s0) (j:=a0.fk) rfl rfl)<|RG.pf rfl rfl<|xk h (fun Q4 K0 h=>?_) (fun B7 K0 h=>?_)
 have h:=ap h G0
 refine Bo (fst:=[]) (cap:=[]) .plain (bd 78) rfl (e2 rfl rfl) (fun w9 hw9=>aj_c n (b0.hL0 hL hw9)  K0) fun K6 y3=>?_
 obtain ⟨j2,v5⟩:=b0.agr y3
 refine BE j2 .t1 fun M6 k2 y5=>?_
 obtain ⟨p2,z5⟩:=AF k2 (.a0 .d1)
 cases h
 exact Aq hp0 func79 ⟨p2.ag,rfl⟩
 refine Bi (.tuple #[]) (bd 78) rfl (e2 rfl rfl) (fun w9 hw9=>AI (aj_c n (b0.hL0 hL hw9)  K0)) rfl<|Aa<|Am<|Ae rfl<|Ae rfl<|RG.now .plain (Acts.mapUpdate (kv:=s0) (vv:=true) b0 .hd underlying159 underlying3 rfl rfl rfl rfl) fun P6 q2 g3=>Aa<|AE<|Am<|Ab (Bp (i:=d0) (j:=1) rfl rfl (by omega))<|Ae rfl<|Aa<|X0 (d0 + 1,aX k0 s0 true) q2 (Tt g1 g3) h
 refine Bf rfl ?_
 have h:=aH h G0
 try dsimp only at h
 refine Am<|Ae rfl<|Ab (FV.len_map (D:=k0) b0 .hd underlying159 rfl)<|Bg 4 rfl<|AU rfl ((b0.memA .t2) 4 _ rfl)<|Ab (FV.neq (i:=((k0.length:Nat):Int)) (j:=a0.fk) rfl rfl)<|xk h (fun R4 M0 h=>?_) (fun C7 M0 h=>?_)
 refine Bo (fst:=[]) (cap:=[]) .plain (bd 78) rfl (e2 rfl rfl) (fun w9 hw9=>aj_c n (b0.hL0 hL hw9)  M0) fun Q6 z3=>?_
 obtain ⟨s2,A5⟩:=b0.agr z3
 refine BE s2 .t1 fun R6 u2 B5=>?_
 obtain ⟨v2,C5⟩:=AF u2 (.a0 .d1)
 cases h
 exact Aq hp0 func79 ⟨v2.ag,rfl⟩
 refine Bi (.tuple #[]) (bd 78) rfl (e2 rfl rfl) (fun w9 hw9=>AI (aj_c n (b0.hL0 hL hw9)  M0)) rfl<|Aa<|MX.fin rfl<|RT.take b0 .t1 fun U6 x2 D5=>?_
 obtain ⟨y2,E5⟩:=AF x2 (.a0 .d1)
 refine Ap hb0 func79 rfl .nil rfl ?_
 cases h
 exact ⟨y2.ag,fun w9 hw9=>ay rfl⟩
 refine AX (Ak rfl)<|AX (Ak rfl)<|AX (AC rfl (A0.memA .hd))<|RG.yieldP (fd:=79) (vs:=[vI ((j0:Nat):Int),.agg #[.string x0.fC,vI x0.fA,z1,A1,B1,.bool x0.fv]]) (.yes rfl rfl) rfl (e2 rfl rfl) A0 .t1 v4 rfl rfl rfl fun J4 E3 q6=>Au<|MX.begin A0 .t1 fun V6 b1 j3=>Ay<|Am<|AU rfl ((b1.memA .t4) 0 _ rfl)<|bk h fun y1 j4 h=>Ab (BH (i:=q0) (j:=1) rfl rfl j4)<|AS [vI y1] b1 .t4 (o1 rfl) fun W6 z2 k3=>Aa<|AE<|MX.roundEnd E3 z2 .t1 fun X6 A2 p3=>AX (FV.not rfl)<|RG.pf rfl rfl<|Aa<|BA rfl<|Au<|AE<|Am<|Ab (Bp (i:=j0) (j:=1) rfl rfl (by omega))<|Ae rfl<|Aa ?_
 obtain ⟨B2,q3⟩:=AF A2 .d1
 exact M1 (j0 + 1,y1) B2 (Tt Z2 (Tt C0 (Tt b3 (Tt j3 (Tt k3 (Tt p3 q3)))))) h
 refine Bf rfl ?_
 have h:=aH h p1
 try dsimp only at h
 refine MX.fin rfl<|Ap (u:=.tuple #[]) k1 func104 rfl .nil rfl<|MX.endRange0 E0 .hd (by intro h9; cases h9) fun Y6 C2 G5=>?_
 obtain ⟨v0,H5⟩:=AF C2 .d1
 refine AE<|Ac<|Ae rfl ?_
 have s1:=AT h1_0 v0
 have k6:a1.length <= 281474976710656:=Bh s1
 refine Ab (Bl (xs:=a1) underlying30 rfl s1)<|AU rfl ((v0.memA .t2) 0 _ rfl)<|Ab (FV.neq (i:=((a1.length:Nat):Int)) (j:=q0) rfl rfl)<|xk h (fun U4 P0 h=>?_) (fun D7 P0 h=>?_)
 refine Bo (fst:=[]) (cap:=[]) .plain (bd 78) rfl (e2 rfl rfl) (fun w9 hw9=>aj_c n (v0.hL0 hL hw9)  P0) fun Z6 A3=>?_
 obtain ⟨D2,I5⟩:=v0.agr A3
 refine BE D2 .hd fun b7 E2 J5=>?_
 obtain ⟨F2,K5⟩:=AF E2 .d1
 cases h
 exact Aq hp0 func79 ⟨F2.ag,rfl⟩
 refine Bi (.tuple #[]) (bd 78) rfl (e2 rfl rfl) (fun w9 hw9=>AI (aj_c n (v0.hL0 hL hw9)  P0)) rfl<|Aa<|Ac<|Ai .plain rfl (Does.makeMap (κ:=Int) (ν:=Bool) v0) fun c7 W0 c1 M5=>Ag rfl<|Aa<|Aj<|Ac<|Ae rfl<|Ab (Bl (xs:=a1) underlying30 rfl (AT h1_0 c1))<|Ae rfl<|Aa<|Ay ?_
 obtain ⟨G2,P5⟩:=AF c1 (.a0 (.a0 .d2))
 refine tn h fun v6 X3 H0=>MX.lo (α:=Nat × (List (Int × Bool))) (fun ⟨g0,p0⟩=>[(2,vP y0),(5,.map (some W0)),(20,v1_0),(21,vI ((a1.length:Nat):Int)),(22,vI ((g0:Nat):Int))]) (fun ⟨g0,p0⟩=>[.obj W0 (bZ (p0:List (Int × Bool))),.obj D0 (.deferred (some [])),.cells y0 [vI a0.fE.fj,vI a0.fE.fh,vI a0.fE.fl,v0_3,vI a0.fk] 88]) (fun ⟨g0,p0⟩=>(g0,p0)) (0,([]:List (Int × Bool))) X3 G2 ?_
 rintro D4 ⟨g0,p0⟩ y7 Y0 c0 j1 h
 unfold ai_l2 at h
 try dsimp only at h
 refine Ac<|Ab (Bn (i:=g0) (j:=a1.length) rfl rfl)<|Aa<|Aj<|AW rfl h (fun H1 h=>?_) (fun H1 h=>?_)
 refine Au<|Aj<|Ay<|Ac<|bk h fun t0 s4 h=>?_
 obtain ⟨A4,H4,I3,P3,K1,g4,U3⟩:=Br (AT h1_0 c0) s4
 have J3:K1 = [vI t0]:=g4; subst J3
 refine Ab (Bu 1 g0 rfl I3 rfl rfl P3)<|AU rfl (U3 0 _ rfl)<|Ag rfl<|Aa<|Ac<|Ae rfl<|Ab (FV.lss (i:=t0) (j:=0) rfl rfl)<|Ae rfl<|RG.ifd (s:=28) rfl h (fun I1 h=>?_) (fun I1 h=>?_)
 refine AL<|AL<|AL<|AL<|RG.pt rfl rfl<|xk h (fun V4 Q0 h=>?_) (fun E7 Q0 h=>?_)
 have h:=ap h H0
 refine Bo (fst:=[]) (cap:=[]) .plain (bd 78) rfl (e2 rfl rfl) (fun w9 hw9=>aj_c n (c0.hL0 hL hw9)  Q0) fun d7 B3=>?_
 obtain ⟨H2,Q5⟩:=c0.agr B3
 refine BE H2 .t1 fun g7 I2 R5=>?_
 obtain ⟨J2,U5⟩:=AF I2 (.a0 .d1)
 cases h
 exact Aq hp0 func79 ⟨J2.ag,rfl⟩
 refine Bi (.tuple #[]) (bd 78) rfl (e2 rfl rfl) (fun w9 hw9=>AI (aj_c n (c0.hL0 hL hw9)  Q0)) rfl<|Aa<|Am<|Ae rfl<|Ae rfl<|RG.now .plain (Acts.mapUpdate (kv:=t0) (vv:=true) c0 .hd underlying159 underlying3 rfl rfl rfl rfl) fun j7 K2 s3=>Aa<|AE<|Am<|Ab (Bp (i:=g0) (j:=1) rfl rfl (by omega))<|Ae rfl<|Aa<|Y0 (g0 + 1,aX p0 t0 true) K2 (Tt j1 s3) h
 refine AX (Ak rfl)<|RG.fg 4 rfl<|AX (AQ rfl ((c0.memA .t2) 4 _ rfl))<|AX (FV.geq (i:=t0) (j:=a0.fk) rfl rfl)<|RG.pf rfl rfl<|xk h (fun W4 R0 h=>?_) (fun F7 R0 h=>?_)
 have h:=ap h H0
 refine Bo (fst:=[]) (cap:=[]) .plain (bd 78) rfl (e2 rfl rfl) (fun w9 hw9=>aj_c n (c0.hL0 hL hw9)  R0) fun k7 C3=>?_
 obtain ⟨M2,V5⟩:=c0.agr C3
 refine BE M2 .t1 fun p7 P2 W5=>?_
 obtain ⟨Q2,X5⟩:=AF P2 (.a0 .d1)
 cases h
 exact Aq hp0 func79 ⟨Q2.ag,rfl⟩
 refine Bi (.tuple #[]) (bd 78) rfl (e2 rfl rfl) (fun w9 hw9=>AI (aj_c n (c0.hL0 hL hw9)  R0)) rfl<|Aa<|Am<|Ae rfl<|Ae rfl<|RG.now .plain (Acts.mapUpdate (kv:=t0) (vv:=true) c0 .hd underlying159 underlying3 rfl rfl rfl rfl) fun q7 R2 u3=>Aa<|AE<|Am<|Ab (Bp (i:=g0) (j:=1) rfl rfl (by omega))<|Ae rfl<|Aa<|Y0 (g0 + 1,aX p0 t0 true) R2 (Tt j1 u3) h
 refine Bf rfl ?_
 have h:=aH h H0
 try dsimp only at h
 refine Am<|Ae rfl<|Ab (FV.len_map (D:=p0) c0 .hd underlying159 rfl)<|Bg 4 rfl<|AU rfl ((c0.memA .t2) 4 _ rfl)<|Ab (FV.neq (i:=((p0.length:Nat):Int)) (j:=a0.fk) rfl rfl)<|xk h (fun X4 U0 h=>?_) (fun G7 U0 h=>?_)
 refine Bo (fst:=[]) (cap:=[]) .plain (bd 78) rfl (e2 rfl rfl) (fun w9 hw9=>aj_c n (c0.hL0 hL hw9)  U0) fun s7 D3=>?_
 obtain ⟨U2,Y5⟩:=c0.agr D3
 refine BE U2 .t1 fun t7 V2 Z5=>?_
 obtain ⟨W2,b6⟩:=AF V2 (.a0 .d1)
 cases h
 exact Aq hp0 func79 ⟨W2.ag,rfl⟩
 refine Bi (.tuple #[]) (bd 78) rfl (e2 rfl rfl) (fun w9 hw9=>AI (aj_c n (c0.hL0 hL hw9)  U0)) rfl<|Aa<|MX.fin rfl<|RT.take c0 .t1 fun u7 X2 c6=>?_
 obtain ⟨Y2,d6⟩:=AF X2 (.a0 .d1)
 refine Ap hb0 func79 rfl .nil rfl ?_
 cases h
 exact ⟨Y2.ag,fun w9 hw9=>ay rfl⟩
theorem bp:ElT Tryz.prog 29 3 (Rep.size Int) 8 (vI 0) [vI 0]:=⟨underlying29,by kernel_rfl,rfl,rfl,rfl,rfl⟩
def aB_l1 (_n:Nat) (a0:Tj) (a1:List Int) (j0:Nat × (List Int) -> Option ((Except Tc (List Int)) ⊕ (List Int))):Nat × (List Int) -> Option ((Except Tc (List Int)) ⊕ (List Int))
  | (b0,c0)=>(if b0 < a0.fE.fu.length then (a0.fE.fu[b0]?).bind fun d0=>(if d0.fv = true then some (.inl (.ok c0)) else (a1[b0]?).bind fun g0=>(idx c0 g0).bind fun p0=>(chk (p0 + d0.fA)).bind fun k0=>(put c0 ((g0.toNat:Nat):Int) k0).bind fun q0=>j0 (b0 + 1,q0)) else some (.inr c0))
def aB_p (n:Nat) (a0:Tj) (a1:List Int):Option (Except Tc (List Int)):=
  (ai_p n a0 a1).bind fun g0=>exc g0 (fun _y23=>(mk a0.fk (0:Int)).bind fun d0=>thn (ao (aB_l1 n a0 a1) n (0,d0)) (fun c0=>some (.ok c0))) (fun b0=>some (.error b0))
theorem aB_c (n:Nat) {L w} (hL:hl L w) (a0:Tj) {v0_3:Value} (h0_3:Rep.R w L [v0_3] a0.fE.fu) {a1:List Int} {v1_0:Value} (h1_0:Rep.R w L [v1_0] a1)  {r:Except Tc (List Int)} (h:aB_p n a0 a1 = some r) :
 Cl 42 #[.agg #[vI a0.fE.fj,vI a0.fE.fh,vI a0.fE.fl,v0_3,vI a0.fk],v1_0] w (aD w (fun (y:List Int) w' u=>∃ v0_0:Value,u = v0_0/\Rep.R w' L [v0_0] y) (fun e=>.iface 131 (.agg #[vI e.fB])) r):=by
 unfold aB_p at h
 refine BF func42 rfl rfl rfl fun _ cs0 hb0 hp0=>Ac<|RG.bx (AB w) rfl rfl fun u4 W0 Z0 X3=>RG.bx Z0 rfl (Rep.c1 (AT h1_0 Z0)) fun v4 X0 d0 Y3=>Ag rfl<|Aa<|Ac<|Ab (AC rfl (d0.memA .t1))<|AU rfl ((d0.memA .hd) 0 _ rfl)<|xk h (fun W3 M0 h=>?_) (fun Q4 M0 h=>?_)
 refine Bo (fst:=[]) (cap:=[]) .plain (bd 79) rfl (e2 rfl rfl) (fun w9 hw9=>ai_c n (d0.hL0 hL hw9) a0 (d0.k0 h0_3 hw9) (d0.k0 h1_0 hw9) M0) fun x4 M2=>?_
 obtain ⟨X1,Z3⟩:=d0.agr M2
 cases h
 exact Aq hp0 func42 ⟨X1.ag,rfl⟩
 refine Bi (.tuple #[]) (bd 79) rfl (e2 rfl rfl) (fun w9 hw9=>AI (ai_c n (d0.hL0 hL hw9) a0 (d0.k0 h0_3 hw9) (d0.k0 h1_0 hw9) M0)) rfl<|Aa<|Ac<|Bg 4 rfl<|AU rfl ((d0.memA .t1) 4 _ rfl)<|bk h fun J1 E1 h=>Ai .plain rfl (Does.mk (α:=Int) E1 d0 bp rfl) fun D4 q0 g1 c4=>?_
 have Q2:=AH (cs:=(List.replicate a0.fk.toNat [vI 0]).flatten) (xs:=J1) g1 L (Cells.mk E1 rfl)
 refine RG.nl [vN] g1 fun J4 Y0 H0 I2=>RG.now .plain (AA (news:=[(.slice (some ⟨q0,0,none⟩) a0.fk.toNat a0.fk.toNat)]) H0 .hd rfl rfl rfl (St.c1 (α:=Int) H0 .t1) rfl rfl (o1 (St.o1 (α:=Int) H0 .t1))) fun D3 x0 J2=>Aa<|Aj<|Ac<|Ab (AC rfl (x0.memA .t3))<|jE (bd 80) rfl (e1 rfl) (fun w9 hw9=>Calls.gives (cE_c n (x0.hL hL hw9) a0 (x0.km h0_3 hw9)) fun (w8:World) (u8:Value) ⟨b0_,hu_,s_⟩=>(⟨b0_,hu_,s_.from hw9⟩:∃ u0:Nat,u8 = Value.func (.func 104) #[] #[vP u0]/\St D3 w8 [.cells u0 [vI a0.fE.fj,vI a0.fE.fh,vI a0.fE.fl,v0_3,vI a0.fk] 88])) rfl fun M4 t4 g4 ⟨u0,v3,G1⟩=>?_
 subst v3
 refine Aa<|Ay<|MX.rangeP (lb:=[vP u0]) rfl (dS x0 G1) rfl (bd 104) func104 rfl rfl rfl fun P4 P0 V0 F1 V3 I0 K2 C3 s1 p4=>Ac<|Bg 0 rfl<|Bg 3 rfl<|AU rfl ((aM (I0.memA .t2) 0) 3 _ rfl) ?_
 have z1:=AT h0_3 I0
 have j4:a0.fE.fu.length <= 281474976710656:=Bh z1
 refine Ab (Bl (xs:=a0.fE.fu) underlying33 rfl z1)<|Ae rfl<|Aa<|Ay<|tn h fun q4 g3 v1=>MX.lf (α:=Nat × (List Int) × (List Value)) (fun ⟨c0,p0,s0⟩=>[(0,.func (.yield P0) #[] #[]),(7,v0_3),(8,vI ((a0.fE.fu.length:Nat):Int)),(9,vI ((c0:Nat):Int))]) (fun ⟨c0,p0,s0⟩=>[.obj P0 (lpO F1 .ready none),.obj V0 (.deferred (some [])),.cells u0 [vI a0.fE.fj,vI a0.fE.fh,vI a0.fE.fl,v0_3,vI a0.fk] 88,.cells Y0 [(.slice (some ⟨q0,0,none⟩) a0.fk.toNat a0.fk.toNat)] 29,rr w 3 Int (.slice (some ⟨q0,0,none⟩) a0.fk.toNat a0.fk.toNat) p0.length s0,.cells X0 [v1_0] 30,.cells W0 [vI a0.fE.fj,vI a0.fE.fh,vI a0.fE.fl,v0_3,vI a0.fk] 88]) (fun ⟨c0,p0,s0⟩ H1=>Cells H1 (bl [.obj P0 (lpO F1 .ready none),.obj V0 (.deferred (some [])),.cells u0 [vI a0.fE.fj,vI a0.fE.fh,vI a0.fE.fl,v0_3,vI a0.fk] 88,.cells Y0 [(.slice (some ⟨q0,0,none⟩) a0.fk.toNat a0.fk.toNat)] 29,rr w 3 Int (.slice (some ⟨q0,0,none⟩) a0.fk.toNat a0.fk.toNat) p0.length s0,.cells X0 [v1_0] 30,.cells W0 [vI a0.fE.fj,vI a0.fE.fh,vI a0.fE.fl,v0_3,vI a0.fk] 88] ++ L) s0 p0) (fun ⟨c0,p0,s0⟩=>(c0,p0)) (0,J1,(List.replicate a0.fk.toNat [vI 0]).flatten) g3 I0 (AN Q2 (Tt I2 (Tt J2 (Tt (il x0 G1) K2)))) ?_
 rintro H3 ⟨c0,p0,s0⟩ H1 W1 C0 u2 J0 h
 unfold aB_l1 at h
 try dsimp only at h
 refine Ac<|Ab (Bn (i:=c0) (j:=a0.fE.fu.length) rfl rfl)<|Aa<|Aj<|AW rfl h (fun P1 h=>?_) (fun P1 h=>?_)
 refine Au<|Aj<|Ay<|Ac<|Ae rfl<|bk h fun j0 x3 h=>?_
 obtain ⟨F3,K3,U2,Y2,R3,j3,b3⟩:=Br (AT h0_3 C0) x3
 obtain ⟨Q0,R0,U0,rfl,B1,C1,D1⟩:=iP j3
 refine Ab (Bu 6 c0 rfl U2 rfl rfl Y2)<|Ab (AC rfl b3)<|RG.nl [.string ⟨#[]⟩,vI 0,vN,vN,vN,.bool false] C0 fun y4 I3 Y1 y0=>Ag rfl<|AS [.string j0.fC,vI j0.fA,Q0,R0,U0,.bool j0.fv] Y1 .hd (o6 rfl rfl (AZ (Az B1 y0)) (AZ (Az C1 y0)) (AZ (Az D1 y0)) rfl) fun z4 v0 k1=>Aa<|Ac<|Bg 5 rfl<|AU rfl ((v0.memA .hd) 5 _ rfl)<|Ae rfl<|RG.ifb (s:=16) rfl h (fun Q1 h=>?_) (fun Q1 h=>?_)
 refine AL<|AL<|AL<|AL<|AL<|RG.pt rfl rfl<|Aa<|Be rfl ?_
 have h:=ap h v1
 refine Ao rfl<|Ap (u:=.tuple #[]) s1 func104 rfl .nil rfl<|MX.endRange0 v0 .t1 (by intro h9; cases h9) fun A4 Z1 v2=>?_
 obtain ⟨b1,x2⟩:=AF Z1 (.a0 .d1)
 refine AE<|Ac<|AU rfl ((b1.memA .t3) 0 _ rfl)<|Ag rfl<|Aa<|Ao rfl<|RT.take b1 .t1 fun B4 b2 y2=>?_
 obtain ⟨D0,z2⟩:=AF b2 (.a0 .d1)
 have E0:=BI D0 .t3
 have b4:=BJ D0 .t3
 have k3:=BK (α:=Int) (v:=(.slice (some ⟨q0,0,none⟩) a0.fk.toNat a0.fk.toNat)) (xs:=p0) E0 L (Bv (α:=Int) D0 .t3 (AN J0 (Tt y0 (Tt k1 (Tt v2 (Tt x2 (Tt y2 z2)))))) hL)
 refine Bc hb0 func42 rfl rfl ?_
 cases h
 exact ⟨E0.ag,fun w9 hw9=>ay ⟨(.slice (some ⟨q0,0,none⟩) a0.fk.toNat a0.fk.toNat),rfl,E0.kd k3 hw9⟩⟩
 refine AX (Ak rfl)<|AX (Ak rfl)<|AX (AC rfl (v0.memA .hd))<|RG.yieldP (fd:=42) (vs:=[vI ((c0:Nat):Int),.agg #[.string j0.fC,vI j0.fA,Q0,R0,U0,.bool j0.fv]]) (.yes rfl rfl) rfl (e2 rfl rfl) v0 .t1 C3 rfl rfl rfl fun U3 P2 k4=>Ac<|Ag rfl<|Aa<|Am<|RG.nl [.string ⟨#[]⟩,vI 0,vN,vN,vN,.bool false] v0 fun C4 J3 c2 A2=>?_
 have A0:=Tt y0 (Tt k1 A2)
 refine AS [.string j0.fC,vI j0.fA,Q0,R0,U0,.bool j0.fv] c2 .hd (o6 rfl rfl (AZ (Az B1 A0)) (AZ (Az C1 A0)) (AZ (Az D1 A0)) rfl) fun E4 g2 B2=>Aa<|MX.begin g2 .t2 fun F4 t0 C2=>Ay<|du 11 fun b0 g0=>Rx 0 3680 b0 rfl g0 (AQ rfl ((t0.memA .t5) 0 _ rfl))<|Rx 1 3704 b0 rfl g0 (AQ rfl ((t0.memA .t7) 0 _ rfl))<|Rv 2 b0 rfl g0 (fun _=>Ak rfl)<|bk h fun B0 y3 h=>?_
 obtain ⟨G3,M3,V2,Z2,R1,p3,c3⟩:=Br (AT h1_0 t0) y3
 have W2:R1 = [vI B0]:=p3; subst W2
 refine Rv 3 b0 rfl g0 (fun _=>Bu 1 c0 rfl V2 rfl rfl Z2)<|Rx 4 3680 b0 rfl g0 (AQ rfl (c3 0 _ rfl))<|bk h fun I1 z3 h=>?_
 obtain ⟨x1,A3⟩:=aJ z3
 have A1:=Tt A0 (Tt B2 C2)
 have y1:=AN J0 A1
 obtain ⟨K1,P3,z0,K0,U1,q3,d3⟩:=St.nth (α:=Int) t0 .t6 y1 A3
 obtain ⟨M1,Q3,u1⟩:=BC (α:=Int) t0 .t6 K0
 obtain rfl:K1 = ⟨M1,0,none⟩:=by rw [u1] at z0; cases z0; rfl
 have X2:U1 = [vI I1]:=q3; subst X2
 refine Rv 5 b0 rfl g0 (fun _=>Bu 1 (B0.toNat) rfl z0 rfl x1 K0)<|Rx 6 3584 b0 rfl g0 (AQ rfl (d3 0 _ rfl))<|Rv 7 b0 rfl g0 (fun _=>AP 1 rfl)<|Rx 8 3584 b0 rfl g0 (AQ rfl ((t0.memA .hd) 1 _ rfl))<|bk h fun s4 u3 h=>Rv 9 b0 rfl g0 (fun _=>BH (i:=I1) (j:=j0.fA) rfl rfl u3)<|Rv 10 b0 rfl g0 (fun _=>Bu 1 (B0.toNat) rfl z0 rfl x1 K0)<|bk h fun E3 B3 h=>AM (i:=11) (rk b0) (RO.acts (m' :=4095) (sk b0) rfl rfl .plain (Acts.set (α:=Int) (i:=B0.toNat) B3 t0 u1 (fun _=>.t6) y1 rfl rfl rfl rfl rfl rfl) (fun G4 ⟨V1,j2,D2,R2⟩=>?_))
 refine AJ (dk b0)<|AE<|MX.roundEnd P2 j2 .t2 fun H4 k2 p1=>AX (FV.not rfl)<|RG.pf rfl rfl<|Aa<|BA rfl<|Au<|AE<|Am<|Ab (Bp (i:=c0) (j:=1) rfl rfl (by omega))<|Ae rfl<|Aa ?_
 obtain ⟨p2,q1⟩:=AF k2 .d2
 exact W1 (c0 + 1,E3,V1) p2 (Tt u2 (Tt A1 (Tt D2 (Tt p1 q1)))) (AN R2 (Tt p1 q1)) h
 refine Bf rfl ?_
 have h:=aH h v1
 try dsimp only at h
 refine MX.fin rfl<|Ap (u:=.tuple #[]) s1 func104 rfl .nil rfl<|MX.endRange0 C0 .hd (by intro h9; cases h9) fun I4 q2 E2=>?_
 obtain ⟨j1,F2⟩:=AF q2 .d1
 refine AE<|Ac<|AU rfl ((j1.memA .t2) 0 _ rfl)<|Ag rfl<|Aa<|Ao rfl<|RT.take j1 .hd fun K4 s2 G2=>?_
 obtain ⟨F0,H2⟩:=AF s2 .d1
 have G0:=BI F0 .t2
 have d4:=BJ F0 .t2
 have s3:=BK (α:=Int) (v:=(.slice (some ⟨q0,0,none⟩) a0.fk.toNat a0.fk.toNat)) (xs:=p0) G0 L (Bv (α:=Int) F0 .t2 (AN J0 (Tt E2 (Tt F2 (Tt G2 H2)))) hL)
 refine Bc hb0 func42 rfl rfl ?_
 cases h
 exact ⟨G0.ag,fun w9 hw9=>ay ⟨(.slice (some ⟨q0,0,none⟩) a0.fk.toNat a0.fk.toNat),rfl,G0.kd s3 hw9⟩⟩
def bR_p (n:Nat) (a0:Tf) (a1:Int) (a2:List Int):Option (Except Tc (List Int)):=
  (bO_p n a0 a1).bind fun y3=>exc y3 (fun d0=>(aB_p n d0 a2).bind fun g0=>exc g0 (fun j0=>some (.ok j0)) (fun c0=>some (.error c0))) (fun b0=>some (.error b0))
theorem bR_c (n:Nat) {L w} (hL:hl L w) (a0:Tf) {v0_3:Value} (h0_3:Rep.R w L [v0_3] a0.fu) {p0:Nat} (m0:∀ j9 v9,([vI a0.fj,vI a0.fh,vI a0.fl,v0_3]:List Value)[j9]? = some v9 -> w.cell? ((⟨p0,0,none⟩:Addr).add j9) = some v9) {a1:Int} {p1:Nat} (m1:∀ j9 v9,([vI a1]:List Value)[j9]? = some v9 -> w.cell? ((⟨p1,0,none⟩:Addr).add j9) = some v9) {a2:List Int} {v2_0:Value} (h2_0:Rep.R w L [v2_0] a2) {p2:Nat} (m2:∀ j9 v9,([v2_0]:List Value)[j9]? = some v9 -> w.cell? ((⟨p2,0,none⟩:Addr).add j9) = some v9)  {r:Except Tc (List Int)} (h:bR_p n a0 a1 a2 = some r) :
 Cl 40 #[.pointer (some ⟨p0,0,none⟩),.pointer (some ⟨p1,0,none⟩),.pointer (some ⟨p2,0,none⟩)] w (aD w (fun (y:List Int) w' u=>∃ v0_0:Value,u = v0_0/\Rep.R w' L [v0_0] y) (fun e=>.iface 131 (.agg #[vI e.fB])) r):=by
 unfold bR_p at h
 have hS0:=AB w
 refine BF func40 rfl rfl rfl fun _ cs0 hb0 hp0=>Ac<|Ag rfl<|Aa<|Aj<|du 6 fun kt1 kp2=>Rx 0 52 kt1 rfl kp2 (AC rfl (fun j9 v9 h9=>hS0.ag.cell0 (m0 j9 v9 h9)))<|Rx 1 52 kt1 rfl kp2 (AQ rfl ((fun j9 v9 h9=>hS0.ag.cell0 (m1 j9 v9 h9)) 0 _ rfl))<|xk h (fun z0 hy3 h=>?_) (fun j0 hy3 h=>?_)
 refine Rx 3 48 kt1 rfl kp2 (AQ rfl ((fun j9 v9 h9=>hS0.ag.cell0 (m2 j9 v9 h9)) 0 _ rfl))<|AM (i:=2) (rk kt1) (Bj (fst:=[]) (cap:=[]) rfl .plain (bd 41) rfl (e2 rfl rfl) (fun w9 hw9=>bO_c n (hS0.hL hL hw9) a0 (Av h0_3 hw9) hy3) (fun I0 s0=>?_))
 obtain ⟨k0,B0⟩:=hS0.agr s0
 cases h
 exact Aq hp0 func40 ⟨k0.ag,rfl⟩
 refine Rx 3 48 kt1 rfl kp2 (AQ rfl ((fun j9 v9 h9=>hS0.ag.cell0 (m2 j9 v9 h9)) 0 _ rfl))<|Bx 2 15 kt1 rfl .plain (bd 41) rfl (e2 rfl rfl) (fun w9 hw9=>AI (bO_c n (hS0.hL hL hw9) a0 (Av h0_3 hw9) hy3)) rfl fun J0 H0 t0 ⟨F0,hu_,g0⟩=>?_
 subst hu_
 obtain ⟨b0,C0⟩:=hS0.agr t0
 refine xk h (fun A0 c0 h=>?_) (fun M0 c0 h=>?_)
 refine AM (i:=4) (rk kt1) (Bj (fst:=[]) (cap:=[]) rfl .plain (bd 42) rfl (e2 rfl rfl) (fun w9 hw9=>aB_c n (b0.hL hL hw9) j0 (Av g0 hw9) (b0.km h2_0 hw9) c0) (fun K0 u0=>?_))
 obtain ⟨q0,D0⟩:=b0.agr u0
 cases h
 exact Aq hp0 func40 ⟨q0.ag,rfl⟩
 refine Bx 4 31 kt1 rfl .plain (bd 42) rfl (e2 rfl rfl) (fun w9 hw9=>AI (aB_c n (b0.hL hL hw9) j0 (Av g0 hw9) (b0.km h2_0 hw9) c0)) rfl fun w32 y0 v0 ⟨G0,hu_,x0⟩=>?_
 subst hu_
 obtain ⟨d0,E0⟩:=b0.agr v0
 refine Rv 5 kt1 rfl kp2 (fun _=>Ba rfl)<|AJ (dk kt1)<|Ao rfl<|Bc hb0 func40 rfl rfl ?_
 cases h
 exact ⟨d0.ag,fun w9 hw9=>ay ⟨y0,rfl,d0.kd x0 hw9⟩⟩
def bF_p (n:Nat) (a0:Tf) (a1:List Int) (a2:Int):Option ((List Int) × Int):=
  (bR_p n a0 a2 a1).bind fun c0=>exc c0 (fun d0=>some (d0,(0:Int))) (fun b0=>some (([]:List Int),b0.fB))
theorem bF_c (n:Nat) {L w} (hL:hl L w) (a0:Tf) {v0_3:Value} (h0_3:Rep.R w L [v0_3] a0.fu) {a1:List Int} {v1_0:Value} (h1_0:Rep.R w L [v1_0] a1) {a2:Int}  {r:(List Int) × Int} (h:bF_p n a0 a1 a2 = some r) :
 Cl 10 #[.agg #[vI a0.fj,vI a0.fh,vI a0.fl,v0_3],v1_0,vI a2] w (aj w fun w' u=>∃ v0_0:Value,u = .tuple #[v0_0,vI r.2]/\Rep.R w' L [v0_0] r.1):=by
 unfold bF_p at h
 refine AG func10 rfl rfl rfl fun _ cs0 hb0=>Ac<|RG.bx (AB w) rfl rfl fun M1 g0 D0 B1=>RG.bx D0 rfl (Rep.c1 (AT h1_0 D0)) fun V1 j0 M0 C1=>RG.bx M0 rfl rfl fun W1 k0 P0 D1=>Ag rfl<|Ag rfl<|Aa<|Ac<|Ab (BG (vs:=[]) (us:=[vP g0,vP k0,vP j0]) ak (e3 rfl rfl rfl))<|Bk (fst:=[]) (cap:=[]) (vs:=[.func (.func 40) #[] #[vP g0,vP k0,vP j0]]) .plain (bd 39) func39 rfl rfl rfl rfl (e1 rfl) rfl fun x1 E0 J1=>Ac<|RG.nl [vN] P0 fun X1 p0 Q0 E1=>RG.nl [vI 0] Q0 fun Y1 d0 b0 F1=>Aa<|Ac<|Ab (BG (vs:=[]) (us:=[vP p0,vP d0]) ak (e2 rfl rfl))<|RG.defer (fst:=[]) (cap:=[vP p0,vP d0]) (vs:=[]) rfl .plain rfl ak<|Aa<|Ac<|Ae rfl<|xk h (fun s0 z0 h=>?_) (fun g2 z0 h=>?_)
 refine Bo (fst:=[]) (cap:=[vP g0,vP k0,vP j0]) .plain (bd 40) rfl ak (fun w9 hw9=>bR_c n (b0.hL hL hw9) a0 (b0.km h0_3 hw9) (ai hw9 (b0.memA .t4)) (ai hw9 (b0.memA .t2)) (b0.km h1_0 hw9) (ai hw9 (b0.memA .t3)) z0) fun Z1 b1=>?_
 obtain ⟨R0,G1⟩:=b0.agr b1
 refine PN.callD (vs:=[]) (cap:=[vP p0,vP d0]) (bd 75) func75 rfl rfl rfl fun v1 g1 k1=>Ac<|RG.recover1 .plain g1 rfl<|Ag rfl<|Aa<|Ac<|Ae rfl<|Ab (FV.neqI underlying20 rfl rfl)<|Aa<|Be rfl<|Ac<|Ae rfl<|Ab (FV.assertT rfl rfl)<|Ae rfl<|Ab (Ah rfl rfl)<|Ab (Ah rfl rfl)<|RG.nl [vI 0] R0 fun b2 s1 U0 H1=>AS [vI s0.fB] U0 .hd (o1 rfl) fun c2 u0 I1=>Ag rfl<|Aa<|Aj<|Ac<|Ae rfl<|Ab (FV.not rfl)<|Aa<|BA rfl<|Au<|Ac<|Ag rfl<|Aa<|du 3 fun c0 A0=>Rv 0 c0 rfl A0 (fun _=>Ak rfl)<|Rv 1 c0 rfl A0 (fun _=>AP 0 rfl)<|RD.mo (α:=Unit) (fun ()=>[(1,vP d0),(19,vI s0.fB)]) (fun ()=>[.cells d0 [vI 0] 43,.cells p0 [vN] 29,.cells k0 [vI a2] 3,.cells j0 [v1_0] 30,.cells g0 [vI a0.fj,vI a0.fh,vI a0.fl,v0_3] 35]) u0 1 15 ?_ ?_
 rintro ⟨⟩ d2 G0 y1
 try dsimp only
 refine By 4 31 c0 rfl rfl .plain (AA (news:=[vI s0.fB]) G0 .hd rfl rfl rfl rfl rfl rfl (o1 rfl)) fun P1 q0 z1=>AJ (dk c0)<|MX.fin rfl<|RT.leaveD1 k1 func75 rfl .nil<|Ap (u:=.tuple #[vN,vI s0.fB]) E0 func39 rfl (.cons (.one rfl rfl ((q0.memA .t1) 0 _ rfl)) (.cons (.one rfl rfl ((q0.memA .hd) 0 _ rfl)) .nil)) rfl<|Ab (Ah rfl rfl)<|Ab (Ah rfl rfl)<|Ag rfl<|Ag rfl<|Aa<|Ao rfl ?_
 have p1:=Rep.nilAt (α:=Int) q0 L
 refine Ap hb0 func10 rfl (.cons (.tmp rfl) (.cons (.tmp rfl) .nil)) rfl ?_
 cases h
 exact ⟨q0.ag,fun w9 hw9=>⟨vN,rfl,q0.kd p1 hw9⟩⟩
 intro C0
 refine BB [2,3] (rk c0) ⟨?_,?_,trivial⟩
 refine Bd (m' :=7) (sk c0) rfl .plain rfl (AQ rfl ((u0.memA .hd) 0 _ rfl))<|By 3 15 c0 rfl rfl .plain (AA (news:=[vN]) u0 .t2 rfl rfl rfl rfl rfl rfl (o1 rfl)) fun q1 v0 x0=>?_
 obtain ⟨H0,V0⟩:=AF v0 .d1
 exact C0 () H0 (Tt x0 V0)
 refine RO.now (m' :=11) (sk c0) rfl rfl .plain (AA (news:=[vN]) u0 .t2 rfl rfl rfl rfl rfl rfl (o1 rfl)) fun q1 v0 x0=>Rx 2 16 c0 rfl A0 (AQ rfl ((v0.memA .hd) 0 _ rfl)) ?_
 obtain ⟨I0,W0⟩:=AF v0 .d1
 exact C0 () I0 (Tt x0 W0)
 refine Bq (fst:=[]) (cap:=[vP g0,vP k0,vP j0]) .plain (bd 40) rfl ak (fun w9 hw9=>AI (bR_c n (b0.hL hL hw9) a0 (b0.km h0_3 hw9) (ai hw9 (b0.memA .t4)) (ai hw9 (b0.memA .t2)) (b0.km h1_0 hw9) (ai hw9 (b0.memA .t3)) z0)) rfl fun Q1 B0 Z0 ⟨K1,hu_,y0⟩=>?_
 subst hu_
 obtain ⟨J0,A1⟩:=b0.agr Z0
 refine RG.now .plain (AA (news:=[B0]) J0 .t1 rfl rfl rfl (Rep.c1 y0) rfl rfl (o1 (AZ y0))) fun R1 K0 X0=>AS [vI 0] K0 .hd (o1 rfl) fun U1 t0 Y0=>Aa<|Ao rfl<|RT.callD (vs:=[]) (cap:=[vP p0,vP d0]) (bd 75) func75 rfl rfl rfl fun u1 F0 j1=>Ac<|RG.recover0 .plain F0 rfl<|Ag rfl<|Aa<|Ac<|Ae rfl<|Ab (FV.neqI0 underlying20 rfl rfl)<|Aa<|BA rfl<|Au<|MX.fin rfl<|RT.leaveD0 F0 j1 func75 rfl .nil<|Ap (u:=.tuple #[B0,vI 0]) E0 func39 rfl (.cons (.one rfl rfl ((t0.memA .t1) 0 _ rfl)) (.cons (.one rfl rfl ((t0.memA .hd) 0 _ rfl)) .nil)) rfl<|Ab (Ah rfl rfl)<|Ab (Ah rfl rfl)<|Ag rfl<|Ag rfl<|Aa<|Ao rfl<|Ap hb0 func10 rfl (.cons (.tmp rfl) (.cons (.tmp rfl) .nil)) rfl ?_
 cases h
 exact ⟨t0.ag,fun w9 hw9=>⟨B0,rfl,t0.kd (Az y0 (Tt X0 Y0)) hw9⟩⟩
def bq_p (_n:Nat) (a0:List Int) (a1:Int):Option (Except Tc (List Int)):=
  (if a1 = 0 then some (.ok a0) else some (.error (⟨a1⟩:Tc)))
theorem bq_c (n:Nat) {L w} (_hL:hl L w) {a0:List Int} {v0_0:Value} (h0_0:Rep.R w L [v0_0] a0) {a1:Int}  {r:Except Tc (List Int)} (h:bq_p n a0 a1 = some r) :
 Cl 65 #[v0_0,vI a1] w (aD w (fun (y:List Int) w' u=>∃ v0_0:Value,u = v0_0/\Rep.R w' L [v0_0] y) (fun e=>.iface 116 (.agg #[vI e.fB])) r):=by
 unfold bq_p at h
 have hS0:=AB w
 refine BF func65 rfl rfl rfl fun _ cs0 hb0 hp0=>Ac<|Ag rfl<|Aa<|Aj<|Ac<|Ae rfl<|Ab (FV.neq (i:=a1) (j:=0) rfl rfl)<|Aa<|MX.ifn rfl h (fun c1 h=>?_) (fun c1 h=>?_)
 refine Au<|Ac<|Ae rfl<|Ag rfl<|Aa<|Ao rfl<|Bc hb0 func65 rfl rfl ?_
 cases h
 exact ⟨hS0.ag,fun w9 hw9=>ay ⟨v0_0,rfl,hS0.kd h0_0 hw9⟩⟩
 refine Am<|Ae rfl<|Ab (AO (vs:=[vI a1]) (u:=.agg #[vI a1]) (e1 rfl) (fun w9=>by kernel_rfl))<|Ab (Bw rfl rfl)<|RG.panic .plain rfl ?_
 cases h
 exact Aq hp0 func65 ⟨hS0.ag,rfl⟩
structure Tg where
  fG:Int
  fall:Int
  deriving DecidableEq
instance:Rep Tg:=Rep.via (β:=Int × Int) fun x=>(x.fG,x.fall)
theorem eD {w:World} {L:List Nat} {cs:List Value} {x:Tg} (h:Rep.R w L cs x):cs = [vI x.fG,vI x.fall]:=by
  obtain ⟨c0,r0,rfl,h0,h⟩:=h
  have e0:c0 = [vI x.fG]:=h0; subst e0
  have e1:r0 = [vI x.fall]:=h; subst e1
  rfl
theorem lZ {w:World} {L:List Nat} (a0:Int) (a1:Int):Rep.R w L [vI a0,vI a1] (⟨a0,a1⟩:Tg):=⟨[vI a0],[vI a1],rfl,rfl,rfl⟩
theorem el74:ElT Tryz.prog 74 77 (Rep.size Tg) 16 (.agg #[vI 0,vI 0]) [vI 0,vI 0]:=⟨underlying74,by kernel_rfl,rfl,rfl,rfl,rfl⟩
def al_l1 (_n:Nat) (a1:List Int) (a0:Tf) (a3:Int) (j0:Nat × (List Tg) -> Option (List Tg)):Nat × (List Tg) -> Option (List Tg)
  | (b0,c0)=>(if b0 < a1.length then (a1[b0]?).bind fun d0=>(idx c0 d0).bind fun g0=>(a0.fu[b0]?).bind fun p0=>(idx p0.fj a3).bind fun q0=>(chk (g0.fG + q0)).bind fun k0=>(put c0 ((d0.toNat:Nat):Int) (⟨k0,g0.fall⟩:Tg)).bind fun s0=>j0 (b0 + 1,s0) else some c0)
def al_l2 (_n:Nat) (d0:List Int) (g0:Nat × (List Tg) -> Option (List Tg)):Nat × (List Tg) -> Option (List Tg)
  | (b0,c0)=>(if b0 < d0.length then (d0[b0]?).bind fun j0=>(c0[b0]?).bind fun k0=>(put c0 ((b0:Nat):Int) (⟨k0.fG,j0⟩:Tg)).bind fun p0=>g0 (b0 + 1,p0) else some c0)
def al_p (n:Nat) (a0:Tf) (a1:List Int) (a2:Int) (a3:Int):Option (Except Tc (List Tg)):=
  (bF_p n a0 a1 a2).bind fun b0=>(bq_p n b0.1 b0.2).bind fun k0=>exc k0 (fun p0=>(if a3 < 0 then some (.error (⟨(2:Int)⟩:Tc)) else (if a0.fj <= a3 then some (.error (⟨(2:Int)⟩:Tc)) else (mk a2 (⟨(0:Int),(0:Int)⟩:Tg)).bind fun j0=>Option.bind (ao (al_l2 n p0) n (0,j0)) (fun d0=>Option.bind (ao (al_l1 n a1 a0 a3) n (0,d0)) (fun g0=>some (.ok g0)))))) (fun c0=>some (.error c0))
theorem al_c (n:Nat) {L w} (hL:hl L w) (a0:Tf) {v0_3:Value} (h0_3:Rep.R w L [v0_3] a0.fu) {a1:List Int} {v1_0:Value} (h1_0:Rep.R w L [v1_0] a1) {a2:Int} {a3:Int}  {r:Except Tc (List Tg)} (h:al_p n a0 a1 a2 a3 = some r) :
 Cl 28 #[.agg #[vI a0.fj,vI a0.fh,vI a0.fl,v0_3],v1_0,vI a2,vI a3] w (aD w (fun (y:List Tg) w' u=>∃ v0_0:Value,u = v0_0/\Rep.R w' L [v0_0] y) (fun e=>.iface 116 (.agg #[vI e.fB])) r):=by
 unfold al_p at h
 refine BF func28 rfl rfl rfl fun _ cs0 hb0 hp0=>Ac<|RG.bx (AB w) rfl rfl fun X4 u0 x0 s4=>Ag rfl<|Aa<|Ac<|Ab (AC rfl (x0.memA .hd))<|Ae rfl<|Ae rfl<|bk h fun k5 z3 h=>jE (bd 10) rfl (e3 rfl rfl rfl) (fun w9 hw9=>bF_c n (x0.hL hL hw9) a0 (x0.km h0_3 hw9) (x0.km h1_0 hw9) z3) rfl fun Y4 W4 W1 ⟨P4,hu_,c1⟩=>?_
 subst hu_
 obtain ⟨z0,t4⟩:=x0.agr W1
 refine Ab (Ah rfl rfl)<|Ab (Ah rfl rfl)<|xk h (fun q4 M0 h=>?_) (fun H0 M0 h=>?_)
 refine Bo (fst:=[]) (cap:=[]) .plain (bd 65) rfl (e2 rfl rfl) (fun w9 hw9=>bq_c n (z0.hL hL hw9) (Av c1 hw9) M0) fun b5 X1=>?_
 obtain ⟨P1,u4⟩:=z0.agr X1
 cases h
 exact Aq hp0 func28 ⟨P1.ag,rfl⟩
 refine jE (bd 65) rfl (e2 rfl rfl) (fun w9 hw9=>AI (bq_c n (z0.hL hL hw9) (Av c1 hw9) M0)) rfl fun c5 A3 Y1 ⟨Q4,hu_,d1⟩=>?_
 subst hu_
 obtain ⟨A0,v4⟩:=z0.agr Y1
 refine Ag rfl<|Aa<|Ac<|Ae rfl<|Ab (FV.lss (i:=a3) (j:=0) rfl rfl)<|Ae rfl<|RG.ifd (s:=24) rfl h (fun C1 h=>?_) (fun C1 h=>?_)
 refine AL<|AL<|AL<|AL<|RG.pt rfl rfl<|Bk (fst:=[]) (cap:=[]) (vs:=[.bool true,vI 2]) .plain (bd 29) func29 rfl rfl rfl rfl (e2 rfl rfl) rfl fun d4 y4 P2=>Ac<|Ae rfl<|Aa<|Be rfl<|Am<|Ae rfl<|Bk (fst:=[]) (cap:=[]) (vs:=[vI 2]) .plain (bd 53) func53 rfl rfl rfl rfl (e1 rfl) rfl fun j4 z4 Q2=>Ac<|Ae rfl<|Ab (FV.neqN (i:=2) (j:=0) rfl rfl)<|Aa<|Be rfl<|Am<|Ae rfl<|Ab (AO (vs:=[vI 2]) (u:=.agg #[vI 2]) (e1 rfl) (fun w9=>by kernel_rfl))<|Ab (Bw rfl rfl)<|RG.panic .plain rfl<|Aq Q2 func53<|Aq P2 func29 ?_
 cases h
 exact Aq hp0 func28 ⟨A0.ag,rfl⟩
 refine AX (Ak rfl)<|RG.fg 0 rfl<|AX (AQ rfl ((A0.memA .hd) 0 _ rfl))<|AX (FV.geq (i:=a3) (j:=a0.fj) rfl rfl)<|RG.pf rfl rfl<|Bk (fst:=[]) (cap:=[]) (vs:=[.bool (decide (a0.fj <= a3)),vI 2]) .plain (bd 29) func29 rfl rfl rfl rfl (e2 rfl rfl) rfl fun k4 Z1 R2=>Ac<|Ae rfl<|Aa<|AW rfl h (fun D1 h=>?_) (fun D1 h=>?_)
 refine Am<|Ae rfl<|Bk (fst:=[]) (cap:=[]) (vs:=[vI 2]) .plain (bd 53) func53 rfl rfl rfl rfl (e1 rfl) rfl fun p4 A4 U2=>Ac<|Ae rfl<|Ab (FV.neqN (i:=2) (j:=0) rfl rfl)<|Aa<|Be rfl<|Am<|Ae rfl<|Ab (AO (vs:=[vI 2]) (u:=.agg #[vI 2]) (e1 rfl) (fun w9=>by kernel_rfl))<|Ab (Bw rfl rfl)<|RG.panic .plain rfl<|Aq U2 func53<|Aq R2 func29 ?_
 cases h
 exact Aq hp0 func28 ⟨A0.ag,rfl⟩
 refine Au<|MX.fin rfl<|Ap (u:=.tuple #[]) Z1 func29 rfl .nil rfl<|Aa<|Ac<|Ae rfl<|bk h fun u1 k1 h=>Ai .plain rfl (Does.mk (α:=Tg) k1 A0 el74 rfl) fun g5 q0 Q0 U0=>Ag rfl<|Aa<|Aj<|Ac<|Ae rfl ?_
 have b1:=Az d1 U0
 have E4:H0.length <= 281474976710656:=Bh b1
 refine Ab (Bl (xs:=H0) underlying29 rfl b1)<|Ae rfl<|Aa<|Ay ?_
 obtain ⟨K4,K2,y2⟩:=ax h
 refine MX.lf (α:=Nat × (List Tg) × (List Value)) (fun ⟨d0,k0,s0⟩=>[(1,v1_0),(3,vI a3),(4,vP u0),(10,(.slice (some ⟨q0,0,none⟩) a2.toNat a2.toNat)),(33,A3),(34,vI ((H0.length:Nat):Int)),(35,vI ((d0:Nat):Int))]) (fun ⟨d0,k0,s0⟩=>[rr w 77 Tg (.slice (some ⟨q0,0,none⟩) a2.toNat a2.toNat) k0.length s0,.cells u0 [vI a0.fj,vI a0.fh,vI a0.fl,v0_3] 35]) (fun ⟨d0,k0,s0⟩ p1=>Cells p1 (bl [rr w 77 Tg (.slice (some ⟨q0,0,none⟩) a2.toNat a2.toNat) k0.length s0,.cells u0 [vI a0.fj,vI a0.fh,vI a0.fl,v0_3] 35] ++ L) s0 k0) (fun ⟨d0,k0,s0⟩=>(d0,k0)) (0,u1,(List.replicate a2.toNat [vI 0,vI 0]).flatten) K2 Q0 (AH (cs:=(List.replicate a2.toNat [vI 0,vI 0]).flatten) (xs:=u1) Q0 L (Cells.mk k1 (lZ (0:Int) (0:Int)))) ?_
 rintro H3 ⟨d0,k0,s0⟩ p1 J1 v0 R0 B0 h
 unfold al_l2 at h
 try dsimp only at h
 refine Ac<|Ab (Bn (i:=d0) (j:=H0.length) rfl rfl)<|Aa<|Aj<|AW rfl h (fun A1 h=>?_) (fun A1 h=>?_)
 refine Au<|Aj<|Ay<|Ac<|Ae rfl<|bk h fun E0 p3 h=>?_
 obtain ⟨D3,J3,j2,B2,E1,V2,F2⟩:=Br (Az d1 (Tt U0 R0)) p3
 have k2:E1 = [vI E0]:=V2; subst k2
 refine Ab (Bu 1 d0 rfl j2 rfl rfl B2)<|AU rfl (F2 0 _ rfl)<|Ag rfl<|Ag rfl<|Aa<|Am<|Ae rfl<|Ae rfl<|Ae rfl<|bk h fun F0 g1 h=>?_
 obtain ⟨v1,K3,J0,Y0,Y3,W2,F4⟩:=St.nth (α:=Tg) v0 .hd B0 g1
 obtain ⟨y1,M3,V0⟩:=BC (α:=Tg) v0 .hd Y0
 obtain rfl:v1 = ⟨y1,0,none⟩:=by rw [V0] at J0; cases J0; rfl
 obtain rfl:=eD W2
 refine Ab (Bu 2 d0 rfl J0 rfl rfl Y0)<|Bg 1 rfl ?_
 obtain ⟨P3,p2,B4,Z3,X2,G4,d2⟩:=St.nthAt (α:=Tg) v0 .hd B0 g1 V0
 obtain rfl:=eD X2
 refine bk h fun B3 x3 h=>RG.acts' .plain (Acts.setPart (α:=Tg) (i:=d0) (tot:=1) (ds:=[vI F0.fG,vI F0.fall]) (news:=[vI E0]) (full:=[vI F0.fG,vI E0]) x3 v0 p2 (fun _=>.hd) B0 d2 rfl rfl rfl rfl rfl rfl (lZ F0.fG E0) rfl (o1 rfl)) fun Z4 ⟨F1,M1,R1,b2⟩=>Aa<|AE<|Am<|Ab (Bp (i:=d0) (j:=1) rfl rfl (by omega))<|Ae rfl<|Aa<|J1 (d0 + 1,B3,F1) M1 (Tt R0 R1) b2 h
 refine Bf rfl ?_
 have h:=y2 _ h
 try dsimp only at h
 refine Aj<|Ac<|Ae rfl ?_
 have Z0:=AT h1_0 v0
 have D4:a1.length <= 281474976710656:=Bh Z0
 refine Ab (Bl (xs:=a1) underlying30 rfl Z0)<|Ae rfl<|Aa<|Ay ?_
 obtain ⟨M4,M2,z2⟩:=ax h
 refine MX.lf (α:=Nat × (List Tg) × (List Value)) (fun ⟨g0,p0,t0⟩=>[(3,vI a3),(4,vP u0),(10,(.slice (some ⟨q0,0,none⟩) a2.toNat a2.toNat)),(46,v1_0),(47,vI ((a1.length:Nat):Int)),(48,vI ((g0:Nat):Int))]) (fun ⟨g0,p0,t0⟩=>[rr w 77 Tg (.slice (some ⟨q0,0,none⟩) a2.toNat a2.toNat) p0.length t0,.cells u0 [vI a0.fj,vI a0.fh,vI a0.fl,v0_3] 35]) (fun ⟨g0,p0,t0⟩ q1=>Cells q1 (bl [rr w 77 Tg (.slice (some ⟨q0,0,none⟩) a2.toNat a2.toNat) p0.length t0,.cells u0 [vI a0.fj,vI a0.fh,vI a0.fl,v0_3] 35] ++ L) t0 p0) (fun ⟨g0,p0,t0⟩=>(g0,p0)) (0,k0,s0) M2 v0 B0 ?_
 rintro I3 ⟨g0,p0,t0⟩ q1 K1 j0 U1 C0 h
 unfold al_l1 at h
 try dsimp only at h
 refine Ac<|Ab (Bn (i:=g0) (j:=a1.length) rfl rfl)<|Aa<|Aj<|AW rfl h (fun B1 h=>?_) (fun B1 h=>?_)
 refine Au<|Aj<|Ay<|Ac<|Ae rfl<|bk h fun G0 q3 h=>?_
 obtain ⟨E3,Q3,q2,C2,G1,Y2,G2⟩:=Br (AT h1_0 j0) q3
 have s2:G1 = [vI G0]:=Y2; subst s2
 refine Ab (Bu 1 g0 rfl q2 rfl rfl C2)<|AU rfl (G2 0 _ rfl)<|Ag rfl<|Ag rfl<|Aa<|du 17 fun b0 c0=>Rv 0 b0 rfl c0 (fun _=>Ak rfl)<|Rv 1 b0 rfl c0 (fun _=>Ak rfl)<|bk h fun y0 s3 h=>?_
 obtain ⟨X0,j1⟩:=aJ s3
 obtain ⟨x1,R3,D0,K0,b4,Z2,H2⟩:=St.nth (α:=Tg) j0 .hd C0 j1
 obtain ⟨z1,U3,W0⟩:=BC (α:=Tg) j0 .hd K0
 obtain rfl:x1 = ⟨z1,0,none⟩:=by rw [W0] at D0; cases D0; rfl
 obtain rfl:=eD Z2
 refine Rv 2 b0 rfl c0 (fun _=>Bu 2 (G0.toNat) rfl D0 rfl X0 K0)<|Rv 3 b0 rfl c0 (fun _=>AP 0 rfl)<|Rx 4 245760 b0 rfl c0 (AQ rfl (H2 0 _ rfl))<|Rv 5 b0 rfl c0 (fun _=>AP 3 rfl)<|Rx 6 259840 b0 rfl c0 (AQ rfl ((j0.memA .t1) 3 _ rfl))<|Rv 7 b0 rfl c0 (fun _=>Ak rfl)<|bk h fun j5 t3 h=>?_
 obtain ⟨F3,V3,t2,D2,c4,b3,I2⟩:=Br (AT h0_3 j0) t3
 obtain ⟨R4,U4,V4,rfl,c3,I4,J4⟩:=iP b3
 refine Rv 8 b0 rfl c0 (fun _=>Bu 6 g0 rfl t2 rfl rfl D2)<|Rv 9 b0 rfl c0 (fun _=>AP 2 rfl)<|Rx 10 258048 b0 rfl c0 (AQ rfl (I2 2 _ rfl))<|Rv 11 b0 rfl c0 (fun _=>Ak rfl)<|bk h fun s1 u3 h=>?_
 obtain ⟨A2,v3⟩:=aJ u3
 obtain ⟨G3,W3,u2,E2,H1,d3,J2⟩:=Br c3 v3
 have v2:H1 = [vI s1]:=d3; subst v2
 refine Rv 12 b0 rfl c0 (fun _=>Bu 1 (a3.toNat) rfl u2 rfl A2 E2)<|Rx 13 245760 b0 rfl c0 (AQ rfl (J2 0 _ rfl))<|bk h fun P0 k3 h=>Rv 14 b0 rfl c0 (fun _=>BH (i:=y0.fG) (j:=s1) rfl rfl k3)<|Rv 15 b0 rfl c0 (fun _=>Bu 2 (G0.toNat) rfl D0 rfl X0 K0)<|Rv 16 b0 rfl c0 (fun _=>AP 0 rfl) ?_
 obtain ⟨X3,x2,C4,g4,g3,H4,g2⟩:=St.nthAt (α:=Tg) j0 .hd C0 j1 W0
 obtain rfl:=eD g3
 refine bk h fun C3 y3 h=>AM (i:=17) (rk b0) (RO.acts (m' :=262143) (sk b0) rfl rfl .plain (Acts.setPart (α:=Tg) (i:=G0.toNat) (tot:=0) (ds:=[vI y0.fG,vI y0.fall]) (news:=[vI P0]) (full:=[vI P0,vI y0.fall]) y3 j0 x2 (fun _=>.hd) C0 g2 rfl rfl rfl rfl rfl rfl (lZ P0 y0.fall) rfl (o1 rfl)) (fun d5 ⟨I1,Q1,V1,c2⟩=>?_))
 refine AJ (dk b0)<|AE<|Am<|Ab (Bp (i:=g0) (j:=1) rfl rfl (by omega))<|Ae rfl<|Aa<|K1 (g0 + 1,C3,I1) Q1 (Tt U1 V1) c2 h
 refine Bf rfl ?_
 have h:=z2 _ h
 try dsimp only at h
 refine Ac<|Ae rfl<|Ag rfl<|Aa<|Ao rfl ?_
 have I0:=BI j0 .hd
 have x4:=BJ j0 .hd
 have j3:=BK (α:=Tg) (v:=(.slice (some ⟨q0,0,none⟩) a2.toNat a2.toNat)) (xs:=p0) I0 L (Bv (α:=Tg) j0 .hd C0 hL)
 refine Bc hb0 func28 rfl rfl ?_
 cases h
 exact ⟨I0.ag,fun w9 hw9=>ay ⟨(.slice (some ⟨q0,0,none⟩) a2.toNat a2.toNat),rfl,I0.kd j3 hw9⟩⟩

def ae_p (_n:Nat) (a0:Ta) (a1:Int):Option (Except Tc Ta):=
  (if a1 = 0 then some (.ok a0) else some (.error (⟨a1⟩:Tc)))
theorem ae_c (n:Nat) {L w} (_hL:hl L w) (a0:Ta) {a1:Int}  {r:Except Tc Ta} (h:ae_p n a0 a1 = some r) :
 Cl 30 #[.agg ((aa a0)).toArray,vI a1] w (aD w (fun (y:Ta) _ u=>u = .agg ((aa y)).toArray) (fun e=>.iface 116 (.agg #[vI e.fB])) r):=by
 unfold ae_p at h
 refine BF func30 rfl rfl rfl fun _ cs0 hb0 hp0=>Ac<|RG.bx (AB w) rfl rfl fun t0 j0 g0 p0=>RG.nl zL g0 fun u0 k0 b0 q0=>Aa<|Aj<|Ac<|Ae rfl<|Ab (FV.neq (i:=a1) (j:=0) rfl rfl)<|Aa<|MX.ifn rfl h (fun d0 h=>?_) (fun d0 h=>?_)
 refine Au<|Ac<|Ab (AC rfl (b0.memA .t1))<|AS (aa a0) b0 .hd (ah rfl) fun v0 c0 s0=>Aa<|Ao rfl<|Ap hb0 func30 rfl (.cons (.many (cs:=(aa a0)) rfl rfl (c0.memA .hd)) .nil) rfl ?_
 cases h
 exact ⟨c0.ag,fun w9 hw9=>ay rfl⟩
 refine Am<|Ae rfl<|Ab (AO (vs:=[vI a1]) (u:=.agg #[vI a1]) (e1 rfl) (fun w9=>by kernel_rfl))<|Ab (Bw rfl rfl)<|RG.panic .plain rfl ?_
 cases h
 exact Aq hp0 func30 ⟨b0.ag,rfl⟩
def am (x:U8):List Value:=[vU x.1,vU x.2.1,vU x.2.2.1,vU x.2.2.2.1,vU x.2.2.2.2.1,vU x.2.2.2.2.2.1,vU x.2.2.2.2.2.2.1,vU x.2.2.2.2.2.2.2]
def aY_p (_n:Nat) (a0:U8) (a1:U8):Option ((U8) × UInt64):=
  (sub64 a0.1 a1.1 (0:UInt64)).bind fun b0=>(sub64 a0.2.1 a1.2.1 b0.2).bind fun c0=>(sub64 a0.2.2.1 a1.2.2.1 c0.2).bind fun d0=>(sub64 a0.2.2.2.1 a1.2.2.2.1 d0.2).bind fun g0=>(sub64 a0.2.2.2.2.1 a1.2.2.2.2.1 g0.2).bind fun j0=>(sub64 a0.2.2.2.2.2.1 a1.2.2.2.2.2.1 j0.2).bind fun k0=>(sub64 a0.2.2.2.2.2.2.1 a1.2.2.2.2.2.2.1 k0.2).bind fun p0=>(sub64 a0.2.2.2.2.2.2.2 a1.2.2.2.2.2.2.2 p0.2).bind fun q0=>some ((b0.1,c0.1,d0.1,g0.1,j0.1,k0.1,p0.1,q0.1),q0.2)
theorem aY_c (n:Nat) {L w} (_hL:hl L w) (a0:U8) (a1:U8)  {r:(U8) × UInt64} (h:aY_p n a0 a1 = some r) :
 Cl 142 #[.agg ((am a0)).toArray,.agg ((am a1)).toArray] w (aj w fun _ u=>u = .tuple #[.agg ((am r.1)).toArray,vU r.2]):=by
 unfold aY_p at h
 refine AG func142 rfl rfl rfl fun _ cs0 hb0=>Ac<|RG.bx (AB w) rfl rfl fun J1 s1 Y0 x1=>RG.bx Y0 rfl rfl fun K1 u1 Z0 y1=>RG.nl zP Z0 fun M1 v1 J0 z1=>Ag rfl<|Aa<|Ac<|Ag rfl<|Aa<|Aj<|Ac<|Ae rfl<|Aa<|Ay<|MX.loop1<|Ac<|Ab (Bn (i:=0) (j:=8) rfl rfl)<|Aa<|Aj<|Be rfl<|Au<|Aj<|Ay<|Ac<|Ae rfl<|Ag rfl<|Aa<|du 13 fun c0 v0=>Rv 0 c0 rfl v0 (fun _=>Ak rfl)<|Rv 1 c0 rfl v0 (fun _=>Ak rfl)<|Rv 2 c0 rfl v0 (fun _=>AV (m:=1) (k:=0) (len:=8) rfl rfl rfl rfl (by omega))<|Rx 3 32512 c0 rfl v0 (AQ rfl ((J0.memA .t2) 0 _ rfl))<|Rv 4 c0 rfl v0 (fun _=>Ak rfl)<|Rv 5 c0 rfl v0 (fun _=>AV (m:=1) (k:=0) (len:=8) rfl rfl rfl rfl (by omega))<|Rx 6 32512 c0 rfl v0 (AQ rfl ((J0.memA .t1) 0 _ rfl))<|Rv 7 c0 rfl v0 (fun _=>Ak rfl)<|bk h fun b0 b1 h=>Rv 8 c0 rfl v0 (fun _=>FV.sub64 (a:=a0.1) (b:=a1.1) (c:=(0:UInt64)) func144 rfl rfl rfl rfl rfl rfl rfl b1)<|Rv 9 c0 rfl v0 (fun _=>Ak rfl)<|Rv 10 c0 rfl v0 (fun _=>Ah rfl rfl) ?_
 refine Rv 11 c0 rfl v0 (fun _=>Ah rfl rfl)<|Rv 12 c0 rfl v0 (fun _=>AV (m:=1) (k:=0) (len:=8) rfl rfl rfl rfl (by omega))<|By 13 16383 c0 rfl rfl .plain (Bs (j:=0) (old:=(am a0)) (news:=[vU b0.1]) (new' :=[vU b0.1,vU a0.2.1,vU a0.2.2.1,vU a0.2.2.2.1,vU a0.2.2.2.2.1,vU a0.2.2.2.2.2.1,vU a0.2.2.2.2.2.2.1,vU a0.2.2.2.2.2.2.2]) J0 .t2 rfl rfl rfl rfl rfl rfl (o1 rfl) rfl) fun P1 K0 A1=>AM (i:=14) (rk c0) (Bd (m' :=32767) (sk c0) rfl .plain rfl (Ba rfl) ?_)
 refine AJ (dk c0)<|AE<|Am<|Ab (FV.add (i:=0) (j:=1) (r:=1) rfl rfl (by decide))<|Ae rfl<|Aa<|MX.again1<|Ac<|Ab (Bn (i:=1) (j:=8) rfl rfl)<|Aa<|Aj<|Be rfl<|Au<|Aj<|Ay<|Ac<|Ae rfl<|Ag rfl<|Aa<|du 13 fun d0 x0=>Rv 0 d0 rfl x0 (fun _=>Ak rfl)<|Rv 1 d0 rfl x0 (fun _=>Ak rfl)<|Rv 2 d0 rfl x0 (fun _=>AV (m:=1) (k:=1) (len:=8) rfl rfl rfl rfl (by omega))<|Rx 3 32512 d0 rfl x0 (AQ rfl ((K0.memA .t2) 1 _ rfl))<|Rv 4 d0 rfl x0 (fun _=>Ak rfl)<|Rv 5 d0 rfl x0 (fun _=>AV (m:=1) (k:=1) (len:=8) rfl rfl rfl rfl (by omega))<|Rx 6 32512 d0 rfl x0 (AQ rfl ((K0.memA .t1) 1 _ rfl))<|Rv 7 d0 rfl x0 (fun _=>Ak rfl)<|bk h fun t0 c1 h=>Rv 8 d0 rfl x0 (fun _=>FV.sub64 (a:=a0.2.1) (b:=a1.2.1) (c:=b0.2) func144 rfl rfl rfl rfl rfl rfl rfl c1)<|Rv 9 d0 rfl x0 (fun _=>Ak rfl)<|Rv 10 d0 rfl x0 (fun _=>Ah rfl rfl)<|Rv 11 d0 rfl x0 (fun _=>Ah rfl rfl)<|Rv 12 d0 rfl x0 (fun _=>AV (m:=1) (k:=1) (len:=8) rfl rfl rfl rfl (by omega))<|By 13 16383 d0 rfl rfl .plain (Bs (j:=1) (old:=[vU b0.1,vU a0.2.1,vU a0.2.2.1,vU a0.2.2.2.1,vU a0.2.2.2.2.1,vU a0.2.2.2.2.2.1,vU a0.2.2.2.2.2.2.1,vU a0.2.2.2.2.2.2.2]) (news:=[vU t0.1]) (new' :=[vU b0.1,vU t0.1,vU a0.2.2.1,vU a0.2.2.2.1,vU a0.2.2.2.2.1,vU a0.2.2.2.2.2.1,vU a0.2.2.2.2.2.2.1,vU a0.2.2.2.2.2.2.2]) K0 .t2 rfl rfl rfl rfl rfl rfl (o1 rfl) rfl) fun Q1 M0 B1=>AM (i:=14) (rk d0) (Bd (m' :=32767) (sk d0) rfl .plain rfl (Ba rfl) ?_)
 refine AJ (dk d0)<|AE<|Am<|Ab (FV.add (i:=1) (j:=1) (r:=2) rfl rfl (by decide))<|Ae rfl<|Aa<|MX.again1<|Ac<|Ab (Bn (i:=2) (j:=8) rfl rfl)<|Aa<|Aj<|Be rfl<|Au<|Aj<|Ay<|Ac<|Ae rfl<|Ag rfl<|Aa<|du 13 fun g0 y0=>Rv 0 g0 rfl y0 (fun _=>Ak rfl)<|Rv 1 g0 rfl y0 (fun _=>Ak rfl)<|Rv 2 g0 rfl y0 (fun _=>AV (m:=1) (k:=2) (len:=8) rfl rfl rfl rfl (by omega))<|Rx 3 32512 g0 rfl y0 (AQ rfl ((M0.memA .t2) 2 _ rfl))<|Rv 4 g0 rfl y0 (fun _=>Ak rfl)<|Rv 5 g0 rfl y0 (fun _=>AV (m:=1) (k:=2) (len:=8) rfl rfl rfl rfl (by omega))<|Rx 6 32512 g0 rfl y0 (AQ rfl ((M0.memA .t1) 2 _ rfl))<|Rv 7 g0 rfl y0 (fun _=>Ak rfl)<|bk h fun u0 d1 h=>Rv 8 g0 rfl y0 (fun _=>FV.sub64 (a:=a0.2.2.1) (b:=a1.2.2.1) (c:=t0.2) func144 rfl rfl rfl rfl rfl rfl rfl d1)<|Rv 9 g0 rfl y0 (fun _=>Ak rfl)<|Rv 10 g0 rfl y0 (fun _=>Ah rfl rfl)<|Rv 11 g0 rfl y0 (fun _=>Ah rfl rfl)<|Rv 12 g0 rfl y0 (fun _=>AV (m:=1) (k:=2) (len:=8) rfl rfl rfl rfl (by omega))<|By 13 16383 g0 rfl rfl .plain (Bs (j:=2) (old:=[vU b0.1,vU t0.1,vU a0.2.2.1,vU a0.2.2.2.1,vU a0.2.2.2.2.1,vU a0.2.2.2.2.2.1,vU a0.2.2.2.2.2.2.1,vU a0.2.2.2.2.2.2.2]) (news:=[vU u0.1]) (new' :=[vU b0.1,vU t0.1,vU u0.1,vU a0.2.2.2.1,vU a0.2.2.2.2.1,vU a0.2.2.2.2.2.1,vU a0.2.2.2.2.2.2.1,vU a0.2.2.2.2.2.2.2]) M0 .t2 rfl rfl rfl rfl rfl rfl (o1 rfl) rfl) fun R1 P0 C1=>AM (i:=14) (rk g0) (Bd (m' :=32767) (sk g0) rfl .plain rfl (Ba rfl) ?_)
 refine AJ (dk g0)<|AE<|Am<|Ab (FV.add (i:=2) (j:=1) (r:=3) rfl rfl (by decide))<|Ae rfl<|Aa<|MX.again1<|Ac<|Ab (Bn (i:=3) (j:=8) rfl rfl)<|Aa<|Aj<|Be rfl<|Au<|Aj<|Ay<|Ac<|Ae rfl<|Ag rfl<|Aa<|du 13 fun j0 z0=>Rv 0 j0 rfl z0 (fun _=>Ak rfl)<|Rv 1 j0 rfl z0 (fun _=>Ak rfl)<|Rv 2 j0 rfl z0 (fun _=>AV (m:=1) (k:=3) (len:=8) rfl rfl rfl rfl (by omega))<|Rx 3 32512 j0 rfl z0 (AQ rfl ((P0.memA .t2) 3 _ rfl))<|Rv 4 j0 rfl z0 (fun _=>Ak rfl)<|Rv 5 j0 rfl z0 (fun _=>AV (m:=1) (k:=3) (len:=8) rfl rfl rfl rfl (by omega))<|Rx 6 32512 j0 rfl z0 (AQ rfl ((P0.memA .t1) 3 _ rfl))<|Rv 7 j0 rfl z0 (fun _=>Ak rfl)<|bk h fun E0 g1 h=>Rv 8 j0 rfl z0 (fun _=>FV.sub64 (a:=a0.2.2.2.1) (b:=a1.2.2.2.1) (c:=u0.2) func144 rfl rfl rfl rfl rfl rfl rfl g1)<|Rv 9 j0 rfl z0 (fun _=>Ak rfl)<|Rv 10 j0 rfl z0 (fun _=>Ah rfl rfl)<|Rv 11 j0 rfl z0 (fun _=>Ah rfl rfl)<|Rv 12 j0 rfl z0 (fun _=>AV (m:=1) (k:=3) (len:=8) rfl rfl rfl rfl (by omega))<|By 13 16383 j0 rfl rfl .plain (Bs (j:=3) (old:=[vU b0.1,vU t0.1,vU u0.1,vU a0.2.2.2.1,vU a0.2.2.2.2.1,vU a0.2.2.2.2.2.1,vU a0.2.2.2.2.2.2.1,vU a0.2.2.2.2.2.2.2]) (news:=[vU E0.1]) (new' :=[vU b0.1,vU t0.1,vU u0.1,vU E0.1,vU a0.2.2.2.2.1,vU a0.2.2.2.2.2.1,vU a0.2.2.2.2.2.2.1,vU a0.2.2.2.2.2.2.2]) P0 .t2 rfl rfl rfl rfl rfl rfl (o1 rfl) rfl) fun U1 Q0 D1=>AM (i:=14) (rk j0) (Bd (m' :=32767) (sk j0) rfl .plain rfl (Ba rfl) ?_)
 refine AJ (dk j0)<|AE<|Am<|Ab (FV.add (i:=3) (j:=1) (r:=4) rfl rfl (by decide))<|Ae rfl<|Aa<|MX.again1<|Ac<|Ab (Bn (i:=4) (j:=8) rfl rfl)<|Aa<|Aj<|Be rfl<|Au<|Aj<|Ay<|Ac<|Ae rfl<|Ag rfl<|Aa<|du 13 fun k0 A0=>Rv 0 k0 rfl A0 (fun _=>Ak rfl)<|Rv 1 k0 rfl A0 (fun _=>Ak rfl)<|Rv 2 k0 rfl A0 (fun _=>AV (m:=1) (k:=4) (len:=8) rfl rfl rfl rfl (by omega))<|Rx 3 32512 k0 rfl A0 (AQ rfl ((Q0.memA .t2) 4 _ rfl))<|Rv 4 k0 rfl A0 (fun _=>Ak rfl)<|Rv 5 k0 rfl A0 (fun _=>AV (m:=1) (k:=4) (len:=8) rfl rfl rfl rfl (by omega))<|Rx 6 32512 k0 rfl A0 (AQ rfl ((Q0.memA .t1) 4 _ rfl))<|Rv 7 k0 rfl A0 (fun _=>Ak rfl)<|bk h fun F0 j1 h=>Rv 8 k0 rfl A0 (fun _=>FV.sub64 (a:=a0.2.2.2.2.1) (b:=a1.2.2.2.2.1) (c:=E0.2) func144 rfl rfl rfl rfl rfl rfl rfl j1)<|Rv 9 k0 rfl A0 (fun _=>Ak rfl)<|Rv 10 k0 rfl A0 (fun _=>Ah rfl rfl)<|Rv 11 k0 rfl A0 (fun _=>Ah rfl rfl)<|Rv 12 k0 rfl A0 (fun _=>AV (m:=1) (k:=4) (len:=8) rfl rfl rfl rfl (by omega))<|By 13 16383 k0 rfl rfl .plain (Bs (j:=4) (old:=[vU b0.1,vU t0.1,vU u0.1,vU E0.1,vU a0.2.2.2.2.1,vU a0.2.2.2.2.2.1,vU a0.2.2.2.2.2.2.1,vU a0.2.2.2.2.2.2.2]) (news:=[vU F0.1]) (new' :=[vU b0.1,vU t0.1,vU u0.1,vU E0.1,vU F0.1,vU a0.2.2.2.2.2.1,vU a0.2.2.2.2.2.2.1,vU a0.2.2.2.2.2.2.2]) Q0 .t2 rfl rfl rfl rfl rfl rfl (o1 rfl) rfl) fun V1 R0 E1=>AM (i:=14) (rk k0) (Bd (m' :=32767) (sk k0) rfl .plain rfl (Ba rfl) ?_)
 refine AJ (dk k0)<|AE<|Am<|Ab (FV.add (i:=4) (j:=1) (r:=5) rfl rfl (by decide))<|Ae rfl<|Aa<|MX.again1<|Ac<|Ab (Bn (i:=5) (j:=8) rfl rfl)<|Aa<|Aj<|Be rfl<|Au<|Aj<|Ay<|Ac<|Ae rfl<|Ag rfl<|Aa<|du 13 fun p0 B0=>Rv 0 p0 rfl B0 (fun _=>Ak rfl)<|Rv 1 p0 rfl B0 (fun _=>Ak rfl)<|Rv 2 p0 rfl B0 (fun _=>AV (m:=1) (k:=5) (len:=8) rfl rfl rfl rfl (by omega))<|Rx 3 32512 p0 rfl B0 (AQ rfl ((R0.memA .t2) 5 _ rfl))<|Rv 4 p0 rfl B0 (fun _=>Ak rfl)<|Rv 5 p0 rfl B0 (fun _=>AV (m:=1) (k:=5) (len:=8) rfl rfl rfl rfl (by omega))<|Rx 6 32512 p0 rfl B0 (AQ rfl ((R0.memA .t1) 5 _ rfl))<|Rv 7 p0 rfl B0 (fun _=>Ak rfl)<|bk h fun G0 k1 h=>Rv 8 p0 rfl B0 (fun _=>FV.sub64 (a:=a0.2.2.2.2.2.1) (b:=a1.2.2.2.2.2.1) (c:=F0.2) func144 rfl rfl rfl rfl rfl rfl rfl k1)<|Rv 9 p0 rfl B0 (fun _=>Ak rfl)<|Rv 10 p0 rfl B0 (fun _=>Ah rfl rfl)<|Rv 11 p0 rfl B0 (fun _=>Ah rfl rfl)<|Rv 12 p0 rfl B0 (fun _=>AV (m:=1) (k:=5) (len:=8) rfl rfl rfl rfl (by omega))<|By 13 16383 p0 rfl rfl .plain (Bs (j:=5) (old:=[vU b0.1,vU t0.1,vU u0.1,vU E0.1,vU F0.1,vU a0.2.2.2.2.2.1,vU a0.2.2.2.2.2.2.1,vU a0.2.2.2.2.2.2.2]) (news:=[vU G0.1]) (new' :=[vU b0.1,vU t0.1,vU u0.1,vU E0.1,vU F0.1,vU G0.1,vU a0.2.2.2.2.2.2.1,vU a0.2.2.2.2.2.2.2]) R0 .t2 rfl rfl rfl rfl rfl rfl (o1 rfl) rfl) fun W1 U0 F1=>AM (i:=14) (rk p0) (Bd (m' :=32767) (sk p0) rfl .plain rfl (Ba rfl) ?_)
 refine AJ (dk p0)<|AE<|Am<|Ab (FV.add (i:=5) (j:=1) (r:=6) rfl rfl (by decide))<|Ae rfl<|Aa<|MX.again1<|Ac<|Ab (Bn (i:=6) (j:=8) rfl rfl)<|Aa<|Aj<|Be rfl<|Au<|Aj<|Ay<|Ac<|Ae rfl<|Ag rfl<|Aa<|du 13 fun q0 C0=>Rv 0 q0 rfl C0 (fun _=>Ak rfl)<|Rv 1 q0 rfl C0 (fun _=>Ak rfl)<|Rv 2 q0 rfl C0 (fun _=>AV (m:=1) (k:=6) (len:=8) rfl rfl rfl rfl (by omega))<|Rx 3 32512 q0 rfl C0 (AQ rfl ((U0.memA .t2) 6 _ rfl))<|Rv 4 q0 rfl C0 (fun _=>Ak rfl)<|Rv 5 q0 rfl C0 (fun _=>AV (m:=1) (k:=6) (len:=8) rfl rfl rfl rfl (by omega))<|Rx 6 32512 q0 rfl C0 (AQ rfl ((U0.memA .t1) 6 _ rfl))<|Rv 7 q0 rfl C0 (fun _=>Ak rfl)<|bk h fun H0 p1 h=>Rv 8 q0 rfl C0 (fun _=>FV.sub64 (a:=a0.2.2.2.2.2.2.1) (b:=a1.2.2.2.2.2.2.1) (c:=G0.2) func144 rfl rfl rfl rfl rfl rfl rfl p1)<|Rv 9 q0 rfl C0 (fun _=>Ak rfl)<|Rv 10 q0 rfl C0 (fun _=>Ah rfl rfl)<|Rv 11 q0 rfl C0 (fun _=>Ah rfl rfl)<|Rv 12 q0 rfl C0 (fun _=>AV (m:=1) (k:=6) (len:=8) rfl rfl rfl rfl (by omega))<|By 13 16383 q0 rfl rfl .plain (Bs (j:=6) (old:=[vU b0.1,vU t0.1,vU u0.1,vU E0.1,vU F0.1,vU G0.1,vU a0.2.2.2.2.2.2.1,vU a0.2.2.2.2.2.2.2]) (news:=[vU H0.1]) (new' :=[vU b0.1,vU t0.1,vU u0.1,vU E0.1,vU F0.1,vU G0.1,vU H0.1,vU a0.2.2.2.2.2.2.2]) U0 .t2 rfl rfl rfl rfl rfl rfl (o1 rfl) rfl) fun X1 V0 G1=>AM (i:=14) (rk q0) (Bd (m' :=32767) (sk q0) rfl .plain rfl (Ba rfl) ?_)
 refine AJ (dk q0)<|AE<|Am<|Ab (FV.add (i:=6) (j:=1) (r:=7) rfl rfl (by decide))<|Ae rfl<|Aa<|MX.again1<|Ac<|Ab (Bn (i:=7) (j:=8) rfl rfl)<|Aa<|Aj<|Be rfl<|Au<|Aj<|Ay<|Ac<|Ae rfl<|Ag rfl<|Aa<|du 13 fun s0 D0=>Rv 0 s0 rfl D0 (fun _=>Ak rfl)<|Rv 1 s0 rfl D0 (fun _=>Ak rfl)<|Rv 2 s0 rfl D0 (fun _=>AV (m:=1) (k:=7) (len:=8) rfl rfl rfl rfl (by omega))<|Rx 3 32512 s0 rfl D0 (AQ rfl ((V0.memA .t2) 7 _ rfl))<|Rv 4 s0 rfl D0 (fun _=>Ak rfl)<|Rv 5 s0 rfl D0 (fun _=>AV (m:=1) (k:=7) (len:=8) rfl rfl rfl rfl (by omega))<|Rx 6 32512 s0 rfl D0 (AQ rfl ((V0.memA .t1) 7 _ rfl))<|Rv 7 s0 rfl D0 (fun _=>Ak rfl)<|bk h fun I0 q1 h=>Rv 8 s0 rfl D0 (fun _=>FV.sub64 (a:=a0.2.2.2.2.2.2.2) (b:=a1.2.2.2.2.2.2.2) (c:=H0.2) func144 rfl rfl rfl rfl rfl rfl rfl q1)<|Rv 9 s0 rfl D0 (fun _=>Ak rfl)<|Rv 10 s0 rfl D0 (fun _=>Ah rfl rfl)<|Rv 11 s0 rfl D0 (fun _=>Ah rfl rfl)<|Rv 12 s0 rfl D0 (fun _=>AV (m:=1) (k:=7) (len:=8) rfl rfl rfl rfl (by omega))<|By 13 16383 s0 rfl rfl .plain (Bs (j:=7) (old:=[vU b0.1,vU t0.1,vU u0.1,vU E0.1,vU F0.1,vU G0.1,vU H0.1,vU a0.2.2.2.2.2.2.2]) (news:=[vU I0.1]) (new' :=[vU b0.1,vU t0.1,vU u0.1,vU E0.1,vU F0.1,vU G0.1,vU H0.1,vU I0.1]) V0 .t2 rfl rfl rfl rfl rfl rfl (o1 rfl) rfl) fun Y1 W0 H1=>AM (i:=14) (rk s0) (Bd (m' :=32767) (sk s0) rfl .plain rfl (Ba rfl) ?_)
 refine AJ (dk s0)<|AE<|Am<|Ab (FV.add (i:=7) (j:=1) (r:=8) rfl rfl (by decide))<|Ae rfl<|Aa<|MX.again1<|Ac<|Ab (Bn (i:=8) (j:=8) rfl rfl)<|Aa<|Aj<|BA rfl<|Bf rfl<|Ac<|Ab (AC rfl (W0.memA .t2))<|Ae rfl<|AS [vU b0.1,vU t0.1,vU u0.1,vU E0.1,vU F0.1,vU G0.1,vU H0.1,vU I0.1] W0 .hd (ah rfl) fun Z1 X0 I1=>Ag rfl<|Aa<|Ao rfl<|Ap hb0 func142 rfl (.cons (.many (cs:=[vU b0.1,vU t0.1,vU u0.1,vU E0.1,vU F0.1,vU G0.1,vU H0.1,vU I0.1]) rfl rfl (X0.memA .hd)) (.cons (.tmp rfl) .nil)) rfl ?_
 cases h
 exact X0.gv
def aK_l1 (_n:Nat) (a0:U8) (a1:U8) (g0:Int -> Option (Int ⊕ Unit)):Int -> Option (Int ⊕ Unit)
  | b0=>(if 0 <= b0 then (idx ([a0.1,a0.2.1,a0.2.2.1,a0.2.2.2.1,a0.2.2.2.2.1,a0.2.2.2.2.2.1,a0.2.2.2.2.2.2.1,a0.2.2.2.2.2.2.2]:List UInt64) b0).bind fun c0=>(idx ([a1.1,a1.2.1,a1.2.2.1,a1.2.2.2.1,a1.2.2.2.2.1,a1.2.2.2.2.2.1,a1.2.2.2.2.2.2.1,a1.2.2.2.2.2.2.2]:List UInt64) b0).bind fun d0=>(if c0 = d0 then (chk (b0 - 1)).bind fun j0=>g0 j0 else (if c0 < d0 then some (.inl (-1:Int)) else some (.inl (1:Int)))) else some (.inr ()))
def aK_p (n:Nat) (a0:U8) (a1:U8):Option Int:=
  thn (ao (aK_l1 n a0 a1) n 7) (fun _=>some (0:Int))
theorem aK_c (n:Nat) {L w} (_hL:hl L w) (a0:U8) (a1:U8)  {r:Int} (h:aK_p n a0 a1 = some r) :
 Cl 146 #[.agg ((am a0)).toArray,.agg ((am a1)).toArray] w (aj w fun _ u=>u = vI r):=by
 unfold aK_p at h
 refine AG func146 rfl rfl rfl fun _ cs0 hb0=>Ac<|RG.bx (AB w) rfl rfl fun V0 p0 E0 Q0=>RG.bx E0 rfl rfl fun W0 q0 F0 R0=>Ag rfl<|Aa<|Aj<|Ac<|Ag rfl<|Aa<|Ay<|tn h fun U0 H0 u0=>MX.lo (α:=Int) (fun b0=>[(2,vP p0),(3,vP q0),(5,vI b0)]) (fun b0=>[.cells q0 (am a1) 178,.cells p0 (am a0) 178]) (fun b0=>b0) 7 H0 F0 ?_
 rintro P0 b0 X0 D0 c0 G0 h
 unfold aK_l1 at h
 try dsimp only at h
 refine Aj<|Ac<|Ae rfl<|Ab (FV.geq (i:=b0) (j:=0) rfl rfl)<|Aa<|AW rfl h (fun A0 h=>?_) (fun A0 h=>?_)
 refine Au<|Aj<|Ay<|Aj<|du 7 fun d0 j0=>Rv 0 d0 rfl j0 (fun _=>Ak rfl)<|bk h fun y0 J0 h=>?_
 obtain ⟨v0,s0⟩:=aJ J0
 refine Rv 1 d0 rfl j0 (fun _=>AV (m:=1) (k:=b0.toNat) (len:=8) rfl rfl rfl v0 (cb s0 rfl))<|Rx 2 64 d0 rfl j0 (AQ rfl ((bm (p:=⟨p0,0,none⟩) (cs:=([a0.1,a0.2.1,a0.2.2.1,a0.2.2.2.1,a0.2.2.2.2.1,a0.2.2.2.2.2.1,a0.2.2.2.2.2.2.1,a0.2.2.2.2.2.2.2]:List UInt64).map (fun z9:UInt64=>(vU z9:Value)) ++ []) (i:=b0.toNat) (c0.memA .t1) (dR (fun z9:UInt64=>(vU z9:Value)) s0)) 0 _ rfl))<|Rv 3 d0 rfl j0 (fun _=>Ak rfl)<|bk h fun z0 K0 h=>?_
 obtain ⟨x0,t0⟩:=aJ K0
 refine Rv 4 d0 rfl j0 (fun _=>AV (m:=1) (k:=b0.toNat) (len:=8) rfl rfl rfl x0 (cb t0 rfl))<|Rx 5 64 d0 rfl j0 (AQ rfl ((bm (p:=⟨q0,0,none⟩) (cs:=([a1.1,a1.2.1,a1.2.2.1,a1.2.2.2.1,a1.2.2.2.2.1,a1.2.2.2.2.2.1,a1.2.2.2.2.2.2.1,a1.2.2.2.2.2.2.2]:List UInt64).map (fun z9:UInt64=>(vU z9:Value)) ++ []) (i:=b0.toNat) (c0.memA .hd) (dR (fun z9:UInt64=>(vU z9:Value)) t0)) 0 _ rfl))<|Rv 6 d0 rfl j0 (fun _=>FV.neqU (a:=y0) (b:=z0) rfl rfl)<|AJ (dk d0)<|MX.ifn rfl h (fun B0 h=>?_) (fun B0 h=>?_)
 refine Au<|AE<|Am<|Ae rfl<|bk h fun M0 I0 h=>Ab (FV.subc (i:=b0) (j:=1) rfl rfl I0)<|Ag rfl<|Aa<|D0 M0 c0 G0 h
 refine Aj<|Aj<|du 7 fun g0 k0=>Rv 0 g0 rfl k0 (fun _=>Ak rfl)<|Rv 1 g0 rfl k0 (fun _=>AV (m:=1) (k:=b0.toNat) (len:=8) rfl rfl rfl v0 (cb s0 rfl))<|Rx 2 64 g0 rfl k0 (AQ rfl ((bm (p:=⟨p0,0,none⟩) (cs:=([a0.1,a0.2.1,a0.2.2.1,a0.2.2.2.1,a0.2.2.2.2.1,a0.2.2.2.2.2.1,a0.2.2.2.2.2.2.1,a0.2.2.2.2.2.2.2]:List UInt64).map (fun z9:UInt64=>(vU z9:Value)) ++ []) (i:=b0.toNat) (c0.memA .t1) (dR (fun z9:UInt64=>(vU z9:Value)) s0)) 0 _ rfl))<|Rv 3 g0 rfl k0 (fun _=>Ak rfl)<|Rv 4 g0 rfl k0 (fun _=>AV (m:=1) (k:=b0.toNat) (len:=8) rfl rfl rfl x0 (cb t0 rfl))<|Rx 5 64 g0 rfl k0 (AQ rfl ((bm (p:=⟨q0,0,none⟩) (cs:=([a1.1,a1.2.1,a1.2.2.1,a1.2.2.2.1,a1.2.2.2.2.1,a1.2.2.2.2.2.1,a1.2.2.2.2.2.2.1,a1.2.2.2.2.2.2.2]:List UInt64).map (fun z9:UInt64=>(vU z9:Value)) ++ []) (i:=b0.toNat) (c0.memA .hd) (dR (fun z9:UInt64=>(vU z9:Value)) t0)) 0 _ rfl))<|Rv 6 g0 rfl k0 (fun _=>FV.lssU (a:=y0) (b:=z0) rfl rfl)<|AJ (dk g0)<|AW rfl h (fun C0 h=>?_) (fun C0 h=>?_)
 refine Ac<|Ag rfl<|Aa ?_
 have h:=ap h u0
 refine Ao rfl<|Bc hb0 func146 rfl rfl ?_
 cases h
 exact c0.gv
 refine Au<|Ac<|Ag rfl<|Aa ?_
 have h:=ap h u0
 refine Ao rfl<|Bc hb0 func146 rfl rfl ?_
 cases h
 exact c0.gv
 refine Bf rfl ?_
 have h:=aH h u0
 try dsimp only at h
 refine Ac<|Ag rfl<|Aa<|Ao rfl<|Bc hb0 func146 rfl rfl ?_
 cases h
 exact c0.gv
structure Tk where
  fe:Bool
  fm:U8
  deriving DecidableEq
instance:Rep Tk:=Rep.via (β:=Bool × (U8)) fun x=>(x.fe,x.fm)
def gD (x:Tk):List Value:=[.bool x.fe,vU x.fm.1,vU x.fm.2.1,vU x.fm.2.2.1,vU x.fm.2.2.2.1,vU x.fm.2.2.2.2.1,vU x.fm.2.2.2.2.2.1,vU x.fm.2.2.2.2.2.2.1,vU x.fm.2.2.2.2.2.2.2]
def bI_p (n:Nat) (a0:Tk):Option ((U8) × Int):=
  (aK_p n a0.fm (0,0,0,0,0,0,0,9223372036854775808)).bind fun b0=>(if 0 < b0 then some ((0,0,0,0,0,0,0,0),(6:Int)) else (if b0 = 0 then (if a0.fe = true then (aY_p n (0,0,0,0,0,0,0,0) a0.fm).bind fun c0=>some (c0.1,(0:Int)) else some ((0,0,0,0,0,0,0,0),(6:Int))) else (if a0.fe = true then (aY_p n (0,0,0,0,0,0,0,0) a0.fm).bind fun d0=>some (d0.1,(0:Int)) else some (a0.fm,(0:Int)))))
theorem bI_c (n:Nat) {L w} (hL:hl L w) (a0:Tk)  {r:(U8) × Int} (h:bI_p n a0 = some r) :
 Cl 129 #[.agg ((gD a0)).toArray] w (aj w fun _ u=>u = .tuple #[.agg ((am r.1)).toArray,vI r.2]):=by
 unfold bI_p at h
 refine AG func129 rfl rfl rfl fun _ cs0 hb0=>Ac<|RG.bx (AB w) rfl rfl fun Z0 G0 A0 J0=>RG.nl zP A0 fun b1 H0 B0 K0=>Ag rfl<|Aa<|Ac<|Ab (AO (vs:=[vW 9223372036854775808]) (u:=.agg #[vW 0,vW 0,vW 0,vW 0,vW 0,vW 0,vW 0,vW 9223372036854775808]) (e1 rfl) (fun w9=>by kernel_rfl))<|RG.nl zP B0 fun c1 I0 C0 M0=>RG.now .plain (AA (news:=[vW 0,vW 0,vW 0,vW 0,vW 0,vW 0,vW 0,vW 9223372036854775808]) C0 .hd rfl rfl rfl rfl rfl (.refl 8) (ah rfl)) fun d1 b0 P0=>Aa<|Aj<|Ac<|Bg 1 rfl<|Ab (AY (cs:=(am a0.fm)) rfl rfl (ae (b0.memA .t2) 1 8))<|Ab (AC rfl (b0.memA .hd))<|bk h fun g0 D0 h=>Bi (vI g0) (bd 146) rfl (e2 rfl rfl) (fun w9 hw9=>aK_c n (b0.hL0 hL hw9) a0.fm (0,0,0,0,0,0,0,9223372036854775808) D0) rfl<|Ag rfl<|Aa<|Ac<|Ae rfl<|Ab (FV.gtr (i:=g0) (j:=0) rfl rfl)<|Ae rfl<|RG.ifd (s:=13) rfl h (fun x0 h=>?_) (fun x0 h=>?_)
 refine AL<|AL<|AL<|RG.un<|RG.un<|RG.un<|AL<|RG.pt rfl rfl<|Aa<|Be rfl<|Ac<|Ab (AO (vs:=[]) (u:=.agg zQ) ak (fun w9=>by kernel_rfl))<|AS zP b0 .t1 (ah rfl) fun g1 k0 Q0=>Ag rfl<|Aa<|Ao rfl<|Ap hb0 func129 rfl (.cons (.many (cs:=zP) rfl rfl (k0.memA .t1)) (.cons (.tmp rfl) .nil)) rfl ?_
 cases h
 exact k0.gv
 refine AX (Ak rfl)<|AX (FV.eql (i:=g0) (j:=0) rfl rfl)<|AX (Ak rfl)<|RG.ifd (s:=16) rfl h (fun y0 h=>?_) (fun y0 h=>?_)
 refine RG.fg 0 rfl<|AX (AQ rfl ((b0.memA .t2) 0 _ rfl))<|AX (FV.not rfl)<|AX (FV.pick_t rfl rfl)<|RG.pf rfl rfl<|Aa<|MX.ifnb rfl h (fun j0 h=>?_) (fun j0 h=>?_)
 refine Au<|Aj<|Ac<|Bg 0 rfl<|AU rfl ((b0.memA .t2) 0 _ rfl)<|Aa<|MX.cond_kt rfl j0<|Am<|Ab (AO (vs:=[]) (u:=.agg zQ) ak (fun w9=>by kernel_rfl))<|Bg 1 rfl<|Ab (AY (cs:=(am a0.fm)) rfl rfl (ae (b0.memA .t2) 1 8))<|bk h fun c0 E0 h=>Bi (.tuple #[.agg ((am c0.1)).toArray,vU c0.2]) (bd 142) rfl (e2 rfl rfl) (fun w9 hw9=>aY_c n (b0.hL0 hL hw9) (0,0,0,0,0,0,0,0) a0.fm E0) rfl<|Ae rfl<|Ab (Ah rfl rfl)<|Ab (Ah rfl rfl)<|Bg 1 rfl<|RG.now .plain (Bs (j:=1) (old:=(gD a0)) (news:=(am c0.1)) (new' :=(([.bool a0.fe]:List Value) ++ am c0.1)) b0 .t2 rfl rfl rfl rfl rfl rfl (ah rfl) rfl) fun j1 p0 R0=>Aa<|Ac<|Bg 1 rfl<|Ab (AY (cs:=(am c0.1)) rfl rfl (ae (p0.memA .t2) 1 8))<|AS (am c0.1) p0 .t1 (ah rfl) fun k1 q0 U0=>Ag rfl<|Aa<|Ao rfl<|Ap hb0 func129 rfl (.cons (.many (cs:=(am c0.1)) rfl rfl (q0.memA .t1)) (.cons (.tmp rfl) .nil)) rfl ?_
 cases h
 exact q0.gv
 refine Ac<|Ab (AO (vs:=[]) (u:=.agg zQ) ak (fun w9=>by kernel_rfl))<|AS zP b0 .t1 (ah rfl) fun p1 s0 V0=>Ag rfl<|Aa<|Ao rfl<|Ap hb0 func129 rfl (.cons (.many (cs:=zP) rfl rfl (s0.memA .t1)) (.cons (.tmp rfl) .nil)) rfl ?_
 cases h
 exact s0.gv
 refine AL<|AL<|AL<|AX (Bm rfl rfl)<|RG.pf rfl rfl<|Aa<|BA rfl<|Au<|Aj<|Ac<|Bg 0 rfl<|AU rfl ((b0.memA .t2) 0 _ rfl)<|Aa<|MX.ifb rfl h (fun z0 h=>?_) (fun z0 h=>?_)
 refine Am<|Ab (AO (vs:=[]) (u:=.agg zQ) ak (fun w9=>by kernel_rfl))<|Bg 1 rfl<|Ab (AY (cs:=(am a0.fm)) rfl rfl (ae (b0.memA .t2) 1 8))<|bk h fun d0 F0 h=>Bi (.tuple #[.agg ((am d0.1)).toArray,vU d0.2]) (bd 142) rfl (e2 rfl rfl) (fun w9 hw9=>aY_c n (b0.hL0 hL hw9) (0,0,0,0,0,0,0,0) a0.fm F0) rfl<|Ae rfl<|Ab (Ah rfl rfl)<|Ab (Ah rfl rfl)<|Bg 1 rfl<|RG.now .plain (Bs (j:=1) (old:=(gD a0)) (news:=(am d0.1)) (new' :=(([.bool a0.fe]:List Value) ++ am d0.1)) b0 .t2 rfl rfl rfl rfl rfl rfl (ah rfl) rfl) fun q1 t0 W0=>Aa<|Ac<|Bg 1 rfl<|Ab (AY (cs:=(am d0.1)) rfl rfl (ae (t0.memA .t2) 1 8))<|AS (am d0.1) t0 .t1 (ah rfl) fun s1 u0 X0=>Ag rfl<|Aa<|Ao rfl<|Ap hb0 func129 rfl (.cons (.many (cs:=(am d0.1)) rfl rfl (u0.memA .t1)) (.cons (.tmp rfl) .nil)) rfl ?_
 cases h
 exact u0.gv
 refine Au<|Ac<|Bg 1 rfl<|Ab (AY (cs:=(am a0.fm)) rfl rfl (ae (b0.memA .t2) 1 8))<|AS (am a0.fm) b0 .t1 (ah rfl) fun u1 v0 Y0=>Ag rfl<|Aa<|Ao rfl<|Ap hb0 func129 rfl (.cons (.many (cs:=(am a0.fm)) rfl rfl (v0.memA .t1)) (.cons (.tmp rfl) .nil)) rfl ?_
 cases h
 exact v0.gv
structure Te where
  fe:Bool
  fo:List UInt64
  deriving DecidableEq
instance:Rep Te:=Rep.via (β:=Bool × (List UInt64)) fun x=>(x.fe,x.fo)
def bz_p (n:Nat) (a0:Te):Option ((U8) × Int):=
  (if 8 < a0.fo.length then some ((0,0,0,0,0,0,0,0),(6:Int)) else (bI_p n (⟨a0.fe,(aI a0.fo 0 (0:UInt64),aI a0.fo 1 (0:UInt64),aI a0.fo 2 (0:UInt64),aI a0.fo 3 (0:UInt64),aI a0.fo 4 (0:UInt64),aI a0.fo 5 (0:UInt64),aI a0.fo 6 (0:UInt64),aI a0.fo 7 (0:UInt64))⟩:Tk)).bind fun b0=>some (b0.1,b0.2))
theorem bz_c (n:Nat) {L w} (hL:hl L w) (a0:Te) {v0_1:Value} (h0_1:Rep.R w L [v0_1] a0.fo)  {r:(U8) × Int} (h:bz_p n a0 = some r) :
 Cl 112 #[.agg #[.bool a0.fe,v0_1]] w (aj w fun _ u=>u = .tuple #[.agg ((am r.1)).toArray,vI r.2]):=by
 unfold bz_p at h
 refine AG func112 rfl rfl rfl fun _ cs0 hb0=>Ac<|RG.bx (AB w) rfl rfl fun M0 A0 v0 C0=>RG.nl zP v0 fun P0 B0 c0 D0=>Ag rfl<|Aa<|Aj<|Ac<|Bg 1 rfl<|AU rfl ((c0.memA .t1) 1 _ rfl) ?_
 have s0:=AT h0_1 c0
 have J0:a0.fo.length <= 281474976710656:=Bh s0
 refine Ab (Bl (xs:=a0.fo) underlying120 rfl s0)<|Ab (FV.gtrN (i:=a0.fo.length) (j:=8) rfl rfl)<|Aa<|AW rfl h (fun u0 h=>?_) (fun u0 h=>?_)
 refine Ac<|Ab (AO (vs:=[]) (u:=.agg zQ) ak (fun w9=>by kernel_rfl))<|AS zP c0 .hd (ah rfl) fun Q0 p0 E0=>Ag rfl<|Aa<|Ao rfl<|Ap hb0 func112 rfl (.cons (.many (cs:=zP) rfl rfl (p0.memA .hd)) (.cons (.tmp rfl) .nil)) rfl ?_
 cases h
 exact p0.gv
 refine Au<|Ac<|Bg 0 rfl<|AU rfl ((c0.memA .t1) 0 _ rfl)<|Ab (AO (vs:=[.bool a0.fe]) (u:=.agg #[.bool a0.fe,vW 0,vW 0,vW 0,vW 0,vW 0,vW 0,vW 0,vW 0]) (e1 rfl) (fun w9=>by kernel_rfl))<|RG.nl [.bool false,vW 0,vW 0,vW 0,vW 0,vW 0,vW 0,vW 0,vW 0] c0 fun R0 t0 x0 F0=>AS [.bool a0.fe,vW 0,vW 0,vW 0,vW 0,vW 0,vW 0,vW 0,vW 0] x0 .hd (ah rfl) fun U0 j0 G0=>Aa<|Aj<|du 4 fun b0 d0=>Rv 0 b0 rfl d0 (fun _=>AP 1 rfl)<|Rx 1 16 b0 rfl d0 (FV.sliceA (len:=8) (m:=1) (p:=Addr.add ⟨t0,0,none⟩ 1) rfl rfl)<|Rv 2 b0 rfl d0 (fun _=>AP 1 rfl)<|Rx 3 16 b0 rfl d0 (AQ rfl ((j0.memA .t2) 1 _ rfl))<|AM (i:=4) (rk b0) (RO.doesL (m' :=31) (sk b0) rfl rfl .plain rfl (DoesL.copyArr (fun z9:UInt64=>(vU z9:Value)) (olds:=([(0:UInt64),0,0,0,0,0,0,(0:UInt64)]:List UInt64)) (ys:=a0.fo) (pre:=[.bool a0.fe]) (post:=[]) (old:=[.bool a0.fe,vW 0,vW 0,vW 0,vW 0,vW 0,vW 0,vW 0,vW 0]) (new' :=[.bool a0.fe,vW ((aI a0.fo 0 (0:UInt64)).toNat:Int),vW ((aI a0.fo 1 (0:UInt64)).toNat:Int),vW ((aI a0.fo 2 (0:UInt64)).toNat:Int),vW ((aI a0.fo 3 (0:UInt64)).toNat:Int),vW ((aI a0.fo 4 (0:UInt64)).toNat:Int),vW ((aI a0.fo 5 (0:UInt64)).toNat:Int),vW ((aI a0.fo 6 (0:UInt64)).toNat:Int),vW ((aI a0.fo 7 (0:UInt64)).toNat:Int)]) rfl (fun _ _ _ _ h9=>h9) j0 .hd rfl rfl rfl rfl rfl rfl rfl rfl (Src.rep (AT h0_1 j0))) (fun K0 V0 ⟨y0,k0,H0⟩=>?_))
 subst y0
 refine AJ (dk b0)<|Ac<|Ab (AC rfl (k0.memA .hd))<|bk h fun g0 z0 h=>Bi (.tuple #[.agg ((am g0.1)).toArray,vI g0.2]) (bd 129) rfl (e1 rfl) (fun w9 hw9=>bI_c n (k0.hL0 hL hw9) (⟨a0.fe,(aI a0.fo 0 (0:UInt64),aI a0.fo 1 (0:UInt64),aI a0.fo 2 (0:UInt64),aI a0.fo 3 (0:UInt64),aI a0.fo 4 (0:UInt64),aI a0.fo 5 (0:UInt64),aI a0.fo 6 (0:UInt64),aI a0.fo 7 (0:UInt64))⟩:Tk) z0) rfl<|Ab (Ah rfl rfl)<|Ab (Ah rfl rfl)<|AS (am g0.1) k0 .t1 (ah rfl) fun W0 q0 I0=>Ag rfl<|Aa<|Ao rfl<|Ap hb0 func112 rfl (.cons (.many (cs:=(am g0.1)) rfl rfl (q0.memA .t1)) (.cons (.tmp rfl) .nil)) rfl ?_
 cases h
 exact q0.gv
structure Td where
  ft:Te
  fp:Te
  deriving DecidableEq
instance:Rep Td:=Rep.via (β:=Te × Te) fun x=>(x.ft,x.fp)
def bf_p (n:Nat) (a0:Td):Option (Ta × Int):=
  (bz_p n a0.ft).bind fun b0=>(bz_p n a0.fp).bind fun c0=>(if b0.2 = 0 then (if c0.2 = 0 then some ((⟨b0.1,c0.1⟩:Ta),(0:Int)) else some ((⟨(0,0,0,0,0,0,0,0),(0,0,0,0,0,0,0,0)⟩:Ta),(6:Int))) else some ((⟨(0,0,0,0,0,0,0,0),(0,0,0,0,0,0,0,0)⟩:Ta),(6:Int)))
theorem bf_c (n:Nat) {L w} (hL:hl L w) (a0:Td) {v0_1:Value} (h0_1:Rep.R w L [v0_1] a0.ft.fo) {v0_3:Value} (h0_3:Rep.R w L [v0_3] a0.fp.fo)  {r:Ta × Int} (h:bf_p n a0 = some r) :
 Cl 95 #[.agg #[.bool a0.ft.fe,v0_1,.bool a0.fp.fe,v0_3]] w (aj w fun _ u=>u = .tuple #[.agg ((aa r.1)).toArray,vI r.2]):=by
 unfold bf_p at h
 refine AG func95 rfl rfl rfl fun _ cs0 hb0=>Ac<|RG.bx (AB w) rfl rfl fun R0 B0 v0 F0=>RG.nl zL v0 fun U0 C0 g0 G0=>Ag rfl<|Aa<|Ac<|Bg 0 rfl<|Ab (AY (cs:=[.bool a0.ft.fe,v0_1]) rfl rfl (ae (g0.memA .t1) 0 2))<|bk h fun b0 z0 h=>Bi (.tuple #[.agg ((am b0.1)).toArray,vI b0.2]) (bd 112) rfl (e1 rfl) (fun w9 hw9=>bz_c n (g0.hL0 hL hw9) a0.ft (g0.k0 h0_1 hw9) z0) rfl<|Ae rfl<|Ab (Ah rfl rfl)<|Ab (Ah rfl rfl)<|RG.nl zP g0 fun V0 D0 x0 H0=>AS (am b0.1) x0 .hd (ah rfl) fun W0 j0 I0=>Ag rfl<|Aa<|Ac<|Bg 2 rfl<|Ab (AY (cs:=[.bool a0.fp.fe,v0_3]) rfl rfl (ae (j0.memA .t2) 2 2))<|bk h fun c0 A0 h=>Bi (.tuple #[.agg ((am c0.1)).toArray,vI c0.2]) (bd 112) rfl (e1 rfl) (fun w9 hw9=>bz_c n (j0.hL0 hL hw9) a0.fp (j0.k0 h0_3 hw9) A0) rfl<|Ae rfl<|Ab (Ah rfl rfl)<|Ab (Ah rfl rfl)<|RG.nl zP j0 fun X0 E0 y0 J0=>AS (am c0.1) y0 .hd (ah rfl) fun Y0 d0 K0=>Ag rfl<|Aa<|Aj<|Ac<|Ae rfl<|Ab (FV.neq (i:=b0.2) (j:=0) rfl rfl) ?_
 refine Ae rfl<|RG.ifn (s:=22) rfl h (fun t0 h=>?_) (fun t0 h=>?_)
 refine AX (Ak rfl)<|AX (FV.neq (i:=c0.2) (j:=0) rfl rfl)<|RG.pf rfl rfl<|Aa<|MX.ifn rfl h (fun u0 h=>?_) (fun u0 h=>?_)
 refine Au<|Ac<|Ab (AC rfl (d0.memA .t1))<|Ab (AC rfl (d0.memA .hd))<|Ab (AO (vs:=[.agg ((am b0.1)).toArray,.agg ((am c0.1)).toArray]) (u:=.agg ((am b0.1 ++ am c0.1)).toArray) (e2 rfl rfl) (fun w9=>by kernel_rfl))<|AS (am b0.1 ++ am c0.1) d0 .t2 (ah rfl) fun Z0 p0 M0=>Ag rfl<|Aa<|Ao rfl<|Ap hb0 func95 rfl (.cons (.many (cs:=(am b0.1 ++ am c0.1)) rfl rfl (p0.memA .t2)) (.cons (.tmp rfl) .nil)) rfl ?_
 cases h
 exact p0.gv
 refine Ac<|Ab (AO (vs:=[]) (u:=.agg zM) ak (fun w9=>by kernel_rfl))<|AS zL d0 .t2 (ah rfl) fun b1 q0 P0=>Ag rfl<|Aa<|Ao rfl<|Ap hb0 func95 rfl (.cons (.many (cs:=zL) rfl rfl (q0.memA .t2)) (.cons (.tmp rfl) .nil)) rfl ?_
 cases h
 exact q0.gv
 refine AL<|AL<|RG.pt rfl rfl<|Aa<|Be rfl<|Ac<|Ab (AO (vs:=[]) (u:=.agg zM) ak (fun w9=>by kernel_rfl))<|AS zL d0 .t2 (ah rfl) fun c1 s0 Q0=>Ag rfl<|Aa<|Ao rfl<|Ap hb0 func95 rfl (.cons (.many (cs:=zL) rfl rfl (s0.memA .t2)) (.cons (.tmp rfl) .nil)) rfl ?_
 cases h
 exact s0.gv
def aH_p (n:Nat) (a0:Td) (a1:Int):Option (Ta × Int):=
  (if a1 = 0 then (bf_p n a0).bind fun b0=>some (b0.1,b0.2) else some ((⟨(0,0,0,0,0,0,0,0),(0,0,0,0,0,0,0,0)⟩:Ta),a1))
theorem aH_c (n:Nat) {L w} (hL:hl L w) (a0:Td) {v0_1:Value} (h0_1:Rep.R w L [v0_1] a0.ft.fo) {v0_3:Value} (h0_3:Rep.R w L [v0_3] a0.fp.fo) {a1:Int}  {r:Ta × Int} (h:aH_p n a0 a1 = some r) :
 Cl 66 #[.agg #[.bool a0.ft.fe,v0_1,.bool a0.fp.fe,v0_3],vI a1] w (aj w fun _ u=>u = .tuple #[.agg ((aa r.1)).toArray,vI r.2]):=by
 unfold aH_p at h
 refine AG func66 rfl rfl rfl fun _ cs0 hb0=>Ac<|RG.bx (AB w) rfl rfl fun z0 s0 p0 u0=>RG.nl zL p0 fun A0 t0 b0 v0=>Ag rfl<|Aa<|Aj<|Ac<|Ae rfl<|Ab (FV.neq (i:=a1) (j:=0) rfl rfl)<|Aa<|MX.ifn rfl h (fun j0 h=>?_) (fun j0 h=>?_)
 refine Au<|Ac<|Ab (AC rfl (b0.memA .t1))<|bk h fun c0 q0 h=>Bi (.tuple #[.agg ((aa c0.1)).toArray,vI c0.2]) (bd 95) rfl (e1 rfl) (fun w9 hw9=>bf_c n (b0.hL0 hL hw9) a0 (b0.k0 h0_1 hw9) (b0.k0 h0_3 hw9) q0) rfl<|Ab (Ah rfl rfl)<|Ab (Ah rfl rfl)<|AS (aa c0.1) b0 .hd (ah rfl) fun B0 d0 x0=>Ag rfl<|Aa<|Ao rfl<|Ap hb0 func66 rfl (.cons (.many (cs:=(aa c0.1)) rfl rfl (d0.memA .hd)) (.cons (.tmp rfl) .nil)) rfl ?_
 cases h
 exact d0.gv
 refine Ac<|Ab (AO (vs:=[]) (u:=.agg zM) ak (fun w9=>by kernel_rfl))<|Ae rfl<|AS zL b0 .hd (ah rfl) fun C0 g0 y0=>Ag rfl<|Aa<|Ao rfl<|Ap hb0 func66 rfl (.cons (.many (cs:=zL) rfl rfl (g0.memA .hd)) (.cons (.tmp rfl) .nil)) rfl ?_
 cases h
 exact g0.gv
def ao_l1 (_n:Nat) (a1:List UInt64) (c0:Int -> Option Int):Int -> Option Int
  | b0=>(if 0 < b0 then (chk (b0 - 1)).bind fun d0=>(idx a1 d0).bind fun j0=>(if j0 = (0:UInt64) then (chk (b0 - 1)).bind fun g0=>c0 g0 else some b0) else some b0)
def ao_p (n:Nat) (a0:Bool) (a1:List UInt64):Option Te:=
  jn (fun b0=>(if a0 = true then (cut a1 0 b0).bind fun d0=>some (⟨(decide (0 < b0)),d0⟩:Te) else (cut a1 0 b0).bind fun g0=>some (⟨false,g0⟩:Te))) (fun c0=>Option.bind (ao (ao_l1 n a1) n ((a1.length:Nat):Int)) (c0))
theorem ao_c (n:Nat) {L w} (_hL:hl L w) {a0:Bool} {a1:List UInt64} {v1_0:Value} (h1_0:Rep.R w L [v1_0] a1)  {r:Te} (h:ao_p n a0 a1 = some r) :
 Cl 115 #[.bool a0,v1_0] w (aj w fun w' u=>∃ v0_1:Value,u = .agg #[.bool r.fe,v0_1]/\Rep.R w' L [v0_1] r.fo):=by
 unfold ao_p at h
 refine AG func115 rfl rfl rfl fun _ cs0 hb0=>Ac<|RG.nl [.bool false,vN] (AB w) fun C1 j0 q0 z1=>Aa<|Ac<|Ae rfl ?_
 have A0:=AT h1_0 q0
 have A1:a1.length <= 281474976710656:=Bh A0
 refine Ab (Bl (xs:=a1) underlying120 rfl A0)<|Ag rfl<|Aa<|Aj<|Ay<|MX.xo (α:=Int) 0 (fun b0=>[(0,.bool a0),(1,v1_0),(4,vP j0),(5,vI b0)]) (fun b0=>[.cells j0 [.bool false,vN] 122]) (fun b0=>b0) q0 rfl h ?_ ?_
 rintro b0 F1 k0 y1 h
 try dsimp only at h
 refine Ac<|Ae rfl<|Ae rfl<|RG.ifb (s:=21) rfl h (fun C0 h=>?_) (fun C0 h=>?_)
 refine AX (Ak rfl)<|AX (FV.gtr (i:=b0) (j:=0) rfl rfl)<|RG.pt rfl rfl<|Ae rfl<|Ae rfl<|bk h fun H1 c1 h=>RG.valE .plain rfl (FV.cutL (α:=UInt64) c1 rfl rfl (AT h1_0 k0) rfl ⟨_,rfl⟩) fun d0 v0=>?_
 obtain ⟨k1,u1,X0,_⟩:=Rep.sl v0
 refine Ab (AO (vs:=[.bool (decide (0 < b0)),d0]) (u:=.agg #[.bool (decide (0 < b0)),d0]) (e2 rfl rfl) (fun w9=>by rw [X0]; try kernel_rfl))<|AS [.bool (decide (0 < b0)),d0] k0 .hd (o2 rfl (AZ v0)) fun D1 s0 H0=>Aa<|Ao rfl<|Ap hb0 func115 rfl (.cons (.many (cs:=[.bool (decide (0 < b0)),d0]) rfl rfl (s0.memA .hd)) .nil) rfl ?_
 cases h
 exact ⟨s0.ag,fun w9 hw9=>⟨d0,rfl,s0.kd (Az v0 H0) hw9⟩⟩
 refine AL<|AL<|RG.pf rfl rfl<|Ae rfl<|Ae rfl<|bk h fun I1 d1 h=>RG.valE .plain rfl (FV.cutL (α:=UInt64) d1 rfl rfl (AT h1_0 k0) rfl ⟨_,rfl⟩) fun g0 x0=>?_
 obtain ⟨p1,v1,Y0,_⟩:=Rep.sl x0
 refine Ab (AO (vs:=[.bool false,g0]) (u:=.agg #[.bool false,g0]) (e2 rfl rfl) (fun w9=>by rw [Y0]; try kernel_rfl))<|AS [.bool false,g0] k0 .hd (o2 rfl (AZ x0)) fun E1 t0 I0=>Aa<|Ao rfl<|Ap hb0 func115 rfl (.cons (.many (cs:=[.bool false,g0]) rfl rfl (t0.memA .hd)) .nil) rfl ?_
 cases h
 exact ⟨t0.ag,fun w9 hw9=>⟨g0,rfl,t0.kd (Az x0 I0) hw9⟩⟩
 intro s1 y0 h
 try dsimp only at h
 obtain ⟨B1,R0,z0⟩:=ax h
 refine MX.lo (α:=Int) (fun c0=>[(0,.bool a0),(1,v1_0),(4,vP j0),(5,vI c0)]) (fun c0=>[.cells j0 [.bool false,vN] 122]) (fun c0=>c0) ((a1.length:Nat):Int) R0 q0 ?_
 rintro t1 c0 G1 G0 p0 u0 h
 unfold ao_l1 at h
 try dsimp only at h
 refine Aj<|Ac<|Ae rfl<|Ab (FV.gtr (i:=c0) (j:=0) rfl rfl)<|Ae rfl<|RG.ifd (s:=10) rfl h (fun D0 h=>?_) (fun D0 h=>?_)
 refine AX (Ak rfl)<|AX (Ak rfl)<|bk h fun g1 V0 h=>AX (FV.subc (i:=c0) (j:=1) rfl rfl V0)<|bk h fun B0 Z0 h=>?_
 obtain ⟨M0,b1⟩:=aJ Z0
 obtain ⟨q1,x1,J0,P0,F0,U0,Q0⟩:=Br (AT h1_0 p0) b1
 have K0:F0 = [vU B0]:=U0; subst K0
 refine AX (Bu 1 (g1.toNat) rfl J0 rfl M0 P0)<|AX (AQ rfl (Q0 0 _ rfl))<|AX (FV.eqlU (a:=B0) (b:=(0:UInt64)) rfl rfl)<|RG.pt rfl rfl<|Aa<|AW rfl h (fun E0 h=>?_) (fun E0 h=>?_)
 refine Au<|Ay<|Am<|Ae rfl<|bk h fun j1 W0 h=>Ab (FV.subc (i:=c0) (j:=1) rfl rfl W0)<|Ag rfl<|Aa<|AE<|G0 j1 p0 u0 h
 refine Bf rfl ?_
 have h:=z0 _ h
 try dsimp only at h
 exact y0 c0 p0 u0 h
 refine AL<|AL<|AL<|AL<|AL<|AL<|RG.pf rfl rfl<|Aa<|BA rfl<|Bf rfl ?_
 have h:=z0 _ h
 try dsimp only at h
 exact y0 c0 p0 u0 h
def cv_p (n:Nat) (a0:U8):Option Tk:=
  (if (shrU a0.2.2.2.2.2.2.2 63) = (1:UInt64) then (aY_p n (0,0,0,0,0,0,0,0) a0).bind fun b0=>some (⟨(decide ((shrU a0.2.2.2.2.2.2.2 63) = (1:UInt64))),b0.1⟩:Tk) else some (⟨(decide ((shrU a0.2.2.2.2.2.2.2 63) = (1:UInt64))),a0⟩:Tk))
theorem cv_c (n:Nat) {L w} (hL:hl L w) (a0:U8)  {r:Tk} (h:cv_p n a0 = some r) :
 Cl 122 #[.agg ((am a0)).toArray] w (aj w fun _ u=>u = .agg ((gD r)).toArray):=by
 unfold cv_p at h
 refine AG func122 rfl rfl rfl fun _ cs0 hb0=>Ac<|RG.bx (AB w) rfl rfl fun F0 u0 q0 y0=>RG.nl [.bool false,vW 0,vW 0,vW 0,vW 0,vW 0,vW 0,vW 0,vW 0] q0 fun G0 v0 d0 z0=>Aa<|Ac<|Ab (AV (m:=1) (k:=7) (len:=8) rfl rfl rfl rfl (by omega))<|AU rfl ((d0.memA .t1) 7 _ rfl)<|Ab (FV.shrU (a:=a0.2.2.2.2.2.2.2) (j:=63) rfl rfl)<|Ab (FV.eqlU (a:=shrU a0.2.2.2.2.2.2.2 63) (b:=(1:UInt64)) rfl rfl)<|Ab (AC rfl (d0.memA .t1))<|Ab (AO (vs:=[.bool (decide ((shrU a0.2.2.2.2.2.2.2 63) = (1:UInt64))),.agg ((am a0)).toArray]) (u:=.agg ((([.bool (decide ((shrU a0.2.2.2.2.2.2.2 63) = (1:UInt64)))]:List Value) ++ am a0)).toArray) (e2 rfl rfl) (fun w9=>by kernel_rfl))<|RG.nl [.bool false,vW 0,vW 0,vW 0,vW 0,vW 0,vW 0,vW 0,vW 0] d0 fun H0 x0 s0 A0=>AS (([.bool (decide ((shrU a0.2.2.2.2.2.2.2 63) = (1:UInt64)))]:List Value) ++ am a0) s0 .hd (ah rfl) fun I0 b0 B0=>Aa<|Aj<|Ac<|Bg 0 rfl<|AU rfl ((b0.memA .hd) 0 _ rfl)<|Aa<|AW rfl h (fun p0 h=>?_) (fun p0 h=>?_)
 refine Am<|Ab (AO (vs:=[]) (u:=.agg zQ) ak (fun w9=>by kernel_rfl))<|Bg 1 rfl<|Ab (AY (cs:=(am a0)) rfl rfl (ae (b0.memA .hd) 1 8))<|bk h fun c0 t0 h=>Bi (.tuple #[.agg ((am c0.1)).toArray,vU c0.2]) (bd 142) rfl (e2 rfl rfl) (fun w9 hw9=>aY_c n (b0.hL0 hL hw9) (0,0,0,0,0,0,0,0) a0 t0) rfl<|Ae rfl<|Ab (Ah rfl rfl)<|Ab (Ah rfl rfl)<|Bg 1 rfl<|RG.now .plain (Bs (j:=1) (old:=(([.bool (decide ((shrU a0.2.2.2.2.2.2.2 63) = (1:UInt64)))]:List Value) ++ am a0)) (news:=(am c0.1)) (new' :=(([.bool (decide ((shrU a0.2.2.2.2.2.2.2 63) = (1:UInt64)))]:List Value) ++ am c0.1)) b0 .hd rfl rfl rfl rfl rfl rfl (ah rfl) rfl) fun J0 g0 C0=>Aa<|Ac<|Ab (AC rfl (g0.memA .hd))<|AS (([.bool (decide ((shrU a0.2.2.2.2.2.2.2 63) = (1:UInt64)))]:List Value) ++ am c0.1) g0 .t1 (ah rfl) fun K0 j0 D0=>Aa<|Ao rfl<|Ap hb0 func122 rfl (.cons (.many (cs:=(([.bool (decide ((shrU a0.2.2.2.2.2.2.2 63) = (1:UInt64)))]:List Value) ++ am c0.1)) rfl rfl (j0.memA .t1)) .nil) rfl ?_
 cases h
 exact j0.gv
 refine Au<|Ac<|Ab (AC rfl (b0.memA .hd))<|AS (([.bool (decide ((shrU a0.2.2.2.2.2.2.2 63) = (1:UInt64)))]:List Value) ++ am a0) b0 .t1 (ah rfl) fun M0 k0 E0=>Aa<|Ao rfl<|Ap hb0 func122 rfl (.cons (.many (cs:=(([.bool (decide ((shrU a0.2.2.2.2.2.2.2 63) = (1:UInt64)))]:List Value) ++ am a0)) rfl rfl (k0.memA .t1)) .nil) rfl ?_
 cases h
 exact k0.gv
theorem cC:ElT Tryz.prog 120 38 (Rep.size UInt64) 8 (vW 0) [vW 0]:=⟨underlying120,by kernel_rfl,rfl,rfl,rfl,rfl⟩
def bm_p (n:Nat) (a0:U8):Option Te:=
  (cv_p n a0).bind fun b0=>(app ([]:List UInt64) ([b0.fm.1,b0.fm.2.1,b0.fm.2.2.1,b0.fm.2.2.2.1,b0.fm.2.2.2.2.1,b0.fm.2.2.2.2.2.1,b0.fm.2.2.2.2.2.2.1,b0.fm.2.2.2.2.2.2.2]:List UInt64)).bind fun c0=>(ao_p n b0.fe c0).bind fun d0=>some d0
theorem bm_c (n:Nat) {L w} (hL:hl L w) (a0:U8)  {r:Te} (h:bm_p n a0 = some r) :
 Cl 107 #[.agg ((am a0)).toArray] w (aj w fun w' u=>∃ v0_1:Value,u = .agg #[.bool r.fe,v0_1]/\Rep.R w' L [v0_1] r.fo):=by
 unfold bm_p at h
 refine AG func107 rfl rfl rfl fun _ cs0 hb0=>Ac<|RG.bx (AB w) rfl rfl fun D1 s1 W0 u1=>RG.nl [.bool false,vN] W0 fun G1 A0 F0 z1=>Aa<|Ac<|Ab (AC rfl (F0.memA .t1))<|bk h fun b0 p1 h=>Bi (.agg ((gD b0)).toArray) (bd 122) rfl (e1 rfl) (fun w9 hw9=>cv_c n (F0.hL0 hL hw9) a0 p1) rfl<|RG.nl [.bool false,vW 0,vW 0,vW 0,vW 0,vW 0,vW 0,vW 0,vW 0] F0 fun H1 U0 c1 A1=>AS (gD b0) c1 .hd (ah rfl) fun I1 u0 B1=>Aa<|Aj<|du 5 fun c0 y0=>Rv 0 c0 rfl y0 (fun _=>AP 0 rfl)<|Rv 3 c0 rfl y0 (fun _=>AP 1 rfl)<|Rx 4 224 c0 rfl y0 (FV.sliceA (len:=8) (m:=1) (p:=Addr.add ⟨U0,0,none⟩ 1) rfl rfl)<|bk h fun z0 G0 h=>RD.mf (α:=Value × (List Value)) (fun ⟨g0,j0⟩=>[(2,vP A0),(7,.bool b0.fe),(11,g0)]) (fun ⟨g0,j0⟩=>[rr w 38 UInt64 g0 z0.length j0,.cells A0 [.bool false,vN] 122]) (fun ⟨g0,j0⟩ Q0=>Cells Q0 (bl [rr w 38 UInt64 g0 z0.length j0,.cells A0 [.bool false,vN] 122] ++ L) j0 (z0:List UInt64)) u0 2 63 ?_ ?_
 rintro ⟨g0,j0⟩ Q0 C0 v1 j1
 try dsimp only
 have D0:=BI C0 .hd
 have x1:=BJ C0 .hd
 refine bk h fun R0 k1 h=>Bx 6 127 c0 rfl .plain (bd 115) rfl (e2 rfl rfl) (fun w9 hw9=>ao_c n (D0.hL hL hw9) (Av (BK (α:=UInt64) (v:=g0) (xs:=z0) D0 L (Bv (α:=UInt64) C0 .hd j1 hL)) hw9) k1) rfl fun E1 C1 g1 ⟨H0,hu_,M0⟩=>?_
 subst hu_
 obtain ⟨X0,y1⟩:=D0.agr g1
 refine By 7 255 c0 rfl rfl .plain (AA (news:=[.bool R0.fe,H0]) X0 .hd rfl rfl rfl rfl rfl rfl (o2 rfl (AZ M0))) fun F1 E0 d1=>AJ (dk c0)<|Ao rfl<|Ap hb0 func107 rfl (.cons (.many (cs:=[.bool R0.fe,H0]) rfl rfl (E0.memA .hd)) .nil) rfl ?_
 cases h
 exact ⟨E0.ag,fun w9 hw9=>⟨H0,rfl,E0.kd (Az M0 d1) hw9⟩⟩
 intro B0
 refine BB [1,2] (rk c0) ⟨?_,?_,trivial⟩
 refine Bd (m' :=27) (sk c0) rfl .plain rfl (AQ rfl ((u0.memA .hd) 0 _ rfl))<|RD.nu 2 31 c0 rfl .plain rfl (jB UInt64 u0 cC) fun q1 V0 d0 v0=>?_
 have x0:=jD UInt64 d0 L
 refine AM (i:=5) (rk c0) (RO.doesL (m' :=63) (sk c0) rfl rfl .plain rfl (DoesL.app (α:=UInt64) (ys:=([b0.fm.1,b0.fm.2.1,b0.fm.2.2.1,b0.fm.2.2.2.1,b0.fm.2.2.2.2.1,b0.fm.2.2.2.2.2.1,b0.fm.2.2.2.2.2.2.1,b0.fm.2.2.2.2.2.2.2]:List UInt64)) G0 d0 (fun _ _=>.hd) cC rfl rfl x0 (Src.arr (ds:=[vU b0.fm.1,vU b0.fm.2.1,vU b0.fm.2.2.1,vU b0.fm.2.2.2.1,vU b0.fm.2.2.2.2.1,vU b0.fm.2.2.2.2.2.1,vU b0.fm.2.2.2.2.2.2.1,vU b0.fm.2.2.2.2.2.2.2]) (ys:=([b0.fm.1,b0.fm.2.1,b0.fm.2.2.1,b0.fm.2.2.2.1,b0.fm.2.2.2.2.1,b0.fm.2.2.2.2.2.1,b0.fm.2.2.2.2.2.2.1,b0.fm.2.2.2.2.2.2.2]:List UInt64)) (n:=8) (ae (d0.memA .t1) 1 8) (Ar (cs:=[vU b0.fm.1]) (ds:=[vU b0.fm.2.1,vU b0.fm.2.2.1,vU b0.fm.2.2.2.1,vU b0.fm.2.2.2.2.1,vU b0.fm.2.2.2.2.2.1,vU b0.fm.2.2.2.2.2.2.1,vU b0.fm.2.2.2.2.2.2.2]) rfl (Ar (cs:=[vU b0.fm.2.1]) (ds:=[vU b0.fm.2.2.1,vU b0.fm.2.2.2.1,vU b0.fm.2.2.2.2.1,vU b0.fm.2.2.2.2.2.1,vU b0.fm.2.2.2.2.2.2.1,vU b0.fm.2.2.2.2.2.2.2]) rfl (Ar (cs:=[vU b0.fm.2.2.1]) (ds:=[vU b0.fm.2.2.2.1,vU b0.fm.2.2.2.2.1,vU b0.fm.2.2.2.2.2.1,vU b0.fm.2.2.2.2.2.2.1,vU b0.fm.2.2.2.2.2.2.2]) rfl (Ar (cs:=[vU b0.fm.2.2.2.1]) (ds:=[vU b0.fm.2.2.2.2.1,vU b0.fm.2.2.2.2.2.1,vU b0.fm.2.2.2.2.2.2.1,vU b0.fm.2.2.2.2.2.2.2]) rfl (Ar (cs:=[vU b0.fm.2.2.2.2.1]) (ds:=[vU b0.fm.2.2.2.2.2.1,vU b0.fm.2.2.2.2.2.2.1,vU b0.fm.2.2.2.2.2.2.2]) rfl (Ar (cs:=[vU b0.fm.2.2.2.2.2.1]) (ds:=[vU b0.fm.2.2.2.2.2.2.1,vU b0.fm.2.2.2.2.2.2.2]) rfl (Ar (cs:=[vU b0.fm.2.2.2.2.2.2.1]) (ds:=[vU b0.fm.2.2.2.2.2.2.2]) rfl (Ar (cs:=[vU b0.fm.2.2.2.2.2.2.2]) (ds:=[]) rfl (AR _ _))))))))) rfl)) (fun t0 P0 ⟨p0,k0,q0,s0⟩=>?_))
 obtain ⟨Y0,I0⟩:=AF k0 (.a0 (.a1 .done))
 exact B0 (t0,p0) Y0 (Tt v0 (Tt q0 I0)) (AN s0 I0)
 refine RO.new (m' :=29) (sk c0) rfl .plain rfl (jB UInt64 u0 cC) fun q1 V0 d0 v0=>?_
 have x0:=jD UInt64 d0 L
 refine BB [1,5] (rk c0) ⟨?_,?_,trivial⟩
 refine Bd (m' :=31) (sk c0) rfl .plain rfl (AQ rfl ((d0.memA .t1) 0 _ rfl))<|AM (i:=5) (rk c0) (RO.doesL (m' :=63) (sk c0) rfl rfl .plain rfl (DoesL.app (α:=UInt64) (ys:=([b0.fm.1,b0.fm.2.1,b0.fm.2.2.1,b0.fm.2.2.2.1,b0.fm.2.2.2.2.1,b0.fm.2.2.2.2.2.1,b0.fm.2.2.2.2.2.2.1,b0.fm.2.2.2.2.2.2.2]:List UInt64)) G0 d0 (fun _ _=>.hd) cC rfl rfl x0 (Src.arr (ds:=[vU b0.fm.1,vU b0.fm.2.1,vU b0.fm.2.2.1,vU b0.fm.2.2.2.1,vU b0.fm.2.2.2.2.1,vU b0.fm.2.2.2.2.2.1,vU b0.fm.2.2.2.2.2.2.1,vU b0.fm.2.2.2.2.2.2.2]) (ys:=([b0.fm.1,b0.fm.2.1,b0.fm.2.2.1,b0.fm.2.2.2.1,b0.fm.2.2.2.2.1,b0.fm.2.2.2.2.2.1,b0.fm.2.2.2.2.2.2.1,b0.fm.2.2.2.2.2.2.2]:List UInt64)) (n:=8) (ae (d0.memA .t1) 1 8) (Ar (cs:=[vU b0.fm.1]) (ds:=[vU b0.fm.2.1,vU b0.fm.2.2.1,vU b0.fm.2.2.2.1,vU b0.fm.2.2.2.2.1,vU b0.fm.2.2.2.2.2.1,vU b0.fm.2.2.2.2.2.2.1,vU b0.fm.2.2.2.2.2.2.2]) rfl (Ar (cs:=[vU b0.fm.2.1]) (ds:=[vU b0.fm.2.2.1,vU b0.fm.2.2.2.1,vU b0.fm.2.2.2.2.1,vU b0.fm.2.2.2.2.2.1,vU b0.fm.2.2.2.2.2.2.1,vU b0.fm.2.2.2.2.2.2.2]) rfl (Ar (cs:=[vU b0.fm.2.2.1]) (ds:=[vU b0.fm.2.2.2.1,vU b0.fm.2.2.2.2.1,vU b0.fm.2.2.2.2.2.1,vU b0.fm.2.2.2.2.2.2.1,vU b0.fm.2.2.2.2.2.2.2]) rfl (Ar (cs:=[vU b0.fm.2.2.2.1]) (ds:=[vU b0.fm.2.2.2.2.1,vU b0.fm.2.2.2.2.2.1,vU b0.fm.2.2.2.2.2.2.1,vU b0.fm.2.2.2.2.2.2.2]) rfl (Ar (cs:=[vU b0.fm.2.2.2.2.1]) (ds:=[vU b0.fm.2.2.2.2.2.1,vU b0.fm.2.2.2.2.2.2.1,vU b0.fm.2.2.2.2.2.2.2]) rfl (Ar (cs:=[vU b0.fm.2.2.2.2.2.1]) (ds:=[vU b0.fm.2.2.2.2.2.2.1,vU b0.fm.2.2.2.2.2.2.2]) rfl (Ar (cs:=[vU b0.fm.2.2.2.2.2.2.1]) (ds:=[vU b0.fm.2.2.2.2.2.2.2]) rfl (Ar (cs:=[vU b0.fm.2.2.2.2.2.2.2]) (ds:=[]) rfl (AR _ _))))))))) rfl)) (fun t0 P0 ⟨p0,k0,q0,s0⟩=>?_))
 obtain ⟨Z0,J0⟩:=AF k0 (.a0 (.a1 .done))
 exact B0 (t0,p0) Z0 (Tt v0 (Tt q0 J0)) (AN s0 J0)
 refine RO.doesL (m' :=61) (sk c0) rfl rfl .plain rfl (DoesL.app (α:=UInt64) (ys:=([b0.fm.1,b0.fm.2.1,b0.fm.2.2.1,b0.fm.2.2.2.1,b0.fm.2.2.2.2.1,b0.fm.2.2.2.2.2.1,b0.fm.2.2.2.2.2.2.1,b0.fm.2.2.2.2.2.2.2]:List UInt64)) G0 d0 (fun _ _=>.hd) cC rfl rfl x0 (Src.arr (ds:=[vU b0.fm.1,vU b0.fm.2.1,vU b0.fm.2.2.1,vU b0.fm.2.2.2.1,vU b0.fm.2.2.2.2.1,vU b0.fm.2.2.2.2.2.1,vU b0.fm.2.2.2.2.2.2.1,vU b0.fm.2.2.2.2.2.2.2]) (ys:=([b0.fm.1,b0.fm.2.1,b0.fm.2.2.1,b0.fm.2.2.2.1,b0.fm.2.2.2.2.1,b0.fm.2.2.2.2.2.1,b0.fm.2.2.2.2.2.2.1,b0.fm.2.2.2.2.2.2.2]:List UInt64)) (n:=8) (ae (d0.memA .t1) 1 8) (Ar (cs:=[vU b0.fm.1]) (ds:=[vU b0.fm.2.1,vU b0.fm.2.2.1,vU b0.fm.2.2.2.1,vU b0.fm.2.2.2.2.1,vU b0.fm.2.2.2.2.2.1,vU b0.fm.2.2.2.2.2.2.1,vU b0.fm.2.2.2.2.2.2.2]) rfl (Ar (cs:=[vU b0.fm.2.1]) (ds:=[vU b0.fm.2.2.1,vU b0.fm.2.2.2.1,vU b0.fm.2.2.2.2.1,vU b0.fm.2.2.2.2.2.1,vU b0.fm.2.2.2.2.2.2.1,vU b0.fm.2.2.2.2.2.2.2]) rfl (Ar (cs:=[vU b0.fm.2.2.1]) (ds:=[vU b0.fm.2.2.2.1,vU b0.fm.2.2.2.2.1,vU b0.fm.2.2.2.2.2.1,vU b0.fm.2.2.2.2.2.2.1,vU b0.fm.2.2.2.2.2.2.2]) rfl (Ar (cs:=[vU b0.fm.2.2.2.1]) (ds:=[vU b0.fm.2.2.2.2.1,vU b0.fm.2.2.2.2.2.1,vU b0.fm.2.2.2.2.2.2.1,vU b0.fm.2.2.2.2.2.2.2]) rfl (Ar (cs:=[vU b0.fm.2.2.2.2.1]) (ds:=[vU b0.fm.2.2.2.2.2.1,vU b0.fm.2.2.2.2.2.2.1,vU b0.fm.2.2.2.2.2.2.2]) rfl (Ar (cs:=[vU b0.fm.2.2.2.2.2.1]) (ds:=[vU b0.fm.2.2.2.2.2.2.1,vU b0.fm.2.2.2.2.2.2.2]) rfl (Ar (cs:=[vU b0.fm.2.2.2.2.2.2.1]) (ds:=[vU b0.fm.2.2.2.2.2.2.2]) rfl (Ar (cs:=[vU b0.fm.2.2.2.2.2.2.2]) (ds:=[]) rfl (AR _ _))))))))) rfl)) fun t0 P0 ⟨p0,k0,q0,s0⟩=>Rx 1 192 c0 rfl y0 (AQ rfl ((k0.memA .t1) 0 _ rfl)) ?_
 obtain ⟨b1,K0⟩:=AF k0 (.a0 (.a1 .done))
 exact B0 (t0,p0) b1 (Tt v0 (Tt q0 K0)) (AN s0 K0)
def aw_p (n:Nat) (a0:Ta):Option Td:=
  (bm_p n a0.fN).bind fun b0=>(bm_p n a0.fD).bind fun c0=>some (⟨b0,c0⟩:Td)
theorem aw_c (n:Nat) {L w} (hL:hl L w) (a0:Ta)  {r:Td} (h:aw_p n a0 = some r) :
 Cl 91 #[.agg ((aa a0)).toArray] w (aj w fun w' u=>∃ v0_1 v0_3:Value,u = .agg #[.bool r.ft.fe,v0_1,.bool r.fp.fe,v0_3]/\Rep.R w' L [v0_1] r.ft.fo/\Rep.R w' L [v0_3] r.fp.fo):=by
 unfold aw_p at h
 refine AG func91 rfl rfl rfl fun _ cs0 hb0=>Ac<|RG.bx (AB w) rfl rfl fun X0 J0 z0 Q0=>RG.nl [.bool false,vN,.bool false,vN] z0 fun Y0 K0 j0 R0=>Aa<|Aj<|du 7 fun b0 c0=>Rv 0 b0 rfl c0 (fun _=>AP 0 rfl)<|Rx 1 228 b0 rfl c0 (AY (cs:=(am a0.fN)) rfl rfl (ae (j0.memA .t1) 0 8))<|Rv 3 b0 rfl c0 (fun _=>AP 8 rfl)<|Rx 4 224 b0 rfl c0 (AY (cs:=(am a0.fD)) rfl rfl (ae (j0.memA .t1) 8 8))<|bk h fun p0 F0 h=>Bx 2 31 b0 rfl .plain (bd 107) rfl (e1 rfl) (fun w9 hw9=>bm_c n (j0.hL hL hw9) a0.fN F0) rfl fun Z0 V0 B0 ⟨d0,hu_,y0⟩=>?_
 subst hu_
 obtain ⟨t0,U0⟩:=j0.agr B0
 refine bk h fun q0 G0 h=>Bx 5 63 b0 rfl .plain (bd 107) rfl (e1 rfl) (fun w9 hw9=>bm_c n (t0.hL hL hw9) a0.fD G0) rfl fun b1 W0 C0 ⟨g0,hu_,s0⟩=>?_
 subst hu_
 obtain ⟨A0,u0⟩:=t0.agr C0
 have x0:=Az y0 u0
 obtain ⟨H0,M0,D0,_⟩:=Rep.sl x0
 obtain ⟨I0,P0,E0,_⟩:=Rep.sl s0
 refine Rv 6 b0 rfl c0 (fun _=>AO (vs:=[.agg #[.bool p0.fe,d0],.agg #[.bool q0.fe,g0]]) (u:=.agg #[.bool p0.fe,d0,.bool q0.fe,g0]) (e2 rfl rfl) (fun w9=>by rw [D0,E0]; try kernel_rfl))<|By 7 255 b0 rfl rfl .plain (AA (news:=[.bool p0.fe,d0,.bool q0.fe,g0]) A0 .hd rfl rfl rfl rfl rfl rfl (o4 rfl (AZ x0) rfl (AZ s0))) fun c1 k0 v0=>AJ (dk b0)<|Ao rfl<|Ap hb0 func91 rfl (.cons (.many (cs:=[.bool p0.fe,d0,.bool q0.fe,g0]) rfl rfl (k0.memA .hd)) .nil) rfl ?_
 cases h
 exact ⟨k0.ag,fun w9 hw9=>⟨d0,g0,rfl,k0.kd (Az y0 (Tt u0 v0)) hw9,k0.kd (Az s0 v0) hw9⟩⟩
def cr_l1 (_n:Nat) (t0:Nat × U8 -> Option (U8)):Nat × U8 -> Option (U8)
  | (b0,c0,d0,g0,j0,k0,p0,q0,s0)=>(if b0 < 8 then (([c0,d0,g0,j0,k0,p0,q0,s0]:List UInt64)[b0]?).bind fun _z71=>t0 (b0 + 1,bw b0 0 (18446744073709551615:UInt64) c0,bw b0 1 (18446744073709551615:UInt64) d0,bw b0 2 (18446744073709551615:UInt64) g0,bw b0 3 (18446744073709551615:UInt64) j0,bw b0 4 (18446744073709551615:UInt64) k0,bw b0 5 (18446744073709551615:UInt64) p0,bw b0 6 (18446744073709551615:UInt64) q0,bw b0 7 (18446744073709551615:UInt64) s0) else some (c0,d0,g0,j0,k0,p0,q0,s0))
def cr_p (n:Nat) (a0:Int):Option (U8):=
  (if a0 < 0 then Option.bind (ao (cr_l1 n) n (1,ac a0,0,0,0,0,0,0,0)) (fun (b0,c0,d0,g0,j0,k0,p0,q0)=>some (b0,c0,d0,g0,j0,k0,p0,q0)) else some (ac a0,0,0,0,0,0,0,0))
theorem cr_c (n:Nat) {L w} (_hL:hl L w) {a0:Int}  {r:U8} (h:cr_p n a0 = some r) :
 Cl 84 #[vI a0] w (aj w fun _ u=>u = .agg ((am r)).toArray):=by
 unfold cr_p at h
 refine AG func84 rfl rfl rfl fun _ cs0 hb0=>Ac<|RG.nl zP (AB w) fun Y0 y0 E0 P0=>Aa<|Ac<|Ae rfl<|Ab (FV.convU (i:=a0) underlying3 underlying38 rfl)<|Ab (AO (vs:=[vW ((ac a0).toNat:Int)]) (u:=.agg #[vW ((ac a0).toNat:Int),vW 0,vW 0,vW 0,vW 0,vW 0,vW 0,vW 0]) (e1 rfl) (fun w9=>by kernel_rfl))<|RG.nl zP E0 fun Z0 u0 F0 Q0=>AS [vW ((ac a0).toNat:Int),vW 0,vW 0,vW 0,vW 0,vW 0,vW 0,vW 0] F0 .hd (ah rfl) fun b1 v0 R0=>Aa<|Aj<|Ac<|Ae rfl<|Ab (FV.lss (i:=a0) (j:=0) rfl rfl)<|Aa<|AW rfl h (fun B0 h=>?_) (fun B0 h=>?_)
 refine Ac<|Ag rfl<|Aa<|Ay ?_
 obtain ⟨X0,K0,J0⟩:=ax h
 refine MX.lo (α:=Nat × U8) (fun ⟨b0,c0,d0,g0,j0,k0,p0,q0,s0⟩=>[(2,vP y0),(3,vP u0),(4,vI ((b0:Nat):Int))]) (fun ⟨b0,c0,d0,g0,j0,k0,p0,q0,s0⟩=>[.cells u0 [vU c0,vU d0,vU g0,vU j0,vU k0,vU p0,vU q0,vU s0] 40,.cells y0 zP 40]) (fun ⟨b0,c0,d0,g0,j0,k0,p0,q0,s0⟩=>(b0,c0,d0,g0,j0,k0,p0,q0,s0)) (1,ac a0,0,0,0,0,0,0,0) K0 v0 ?_
 rintro M0 ⟨b0,c0,d0,g0,j0,k0,p0,q0,s0⟩ j1 D0 t0 H0 h
 unfold cr_l1 at h
 try dsimp only at h
 refine Aj<|Ac<|Ae rfl<|Ab (Bn (i:=b0) (j:=8) rfl rfl)<|Aa<|AW rfl h (fun C0 h=>?_) (fun C0 h=>?_)
 refine Au<|Aj<|Ay<|Am<|Ae rfl<|bk h fun k1 x0 h=>?_
 have W0:=bm (p:=⟨u0,0,none⟩) (cs:=([c0,d0,g0,j0,k0,p0,q0,s0]:List UInt64).map (fun z9:UInt64=>(vU z9:Value)) ++ []) (i:=b0) (t0.memA .hd) (dR (fun z9:UInt64=>(vU z9:Value)) x0)
 refine Ab (AV (m:=1) (k:=b0) (len:=8) rfl rfl rfl rfl (cb x0 rfl))<|RG.now .plain (Acts.storeArr (fun z9:UInt64=>(vU z9:Value)) (xs:=([c0,d0,g0,j0,k0,p0,q0,s0]:List UInt64)) (pre:=[]) (post:=[]) (i:=b0) (m:=8) (x:=(18446744073709551615:UInt64)) (old:=[vU c0,vU d0,vU g0,vU j0,vU k0,vU p0,vU q0,vU s0]) (new' :=[vW ((bw b0 0 (18446744073709551615:UInt64) c0).toNat:Int),vW ((bw b0 1 (18446744073709551615:UInt64) d0).toNat:Int),vW ((bw b0 2 (18446744073709551615:UInt64) g0).toNat:Int),vW ((bw b0 3 (18446744073709551615:UInt64) j0).toNat:Int),vW ((bw b0 4 (18446744073709551615:UInt64) k0).toNat:Int),vW ((bw b0 5 (18446744073709551615:UInt64) p0).toNat:Int),vW ((bw b0 6 (18446744073709551615:UInt64) q0).toNat:Int),vW ((bw b0 7 (18446744073709551615:UInt64) s0).toNat:Int)]) rfl rfl (cb x0 rfl) t0 .hd rfl (ki _ _ _) rfl rfl (fun _=>⟨rfl,rfl⟩) rfl rfl) fun c1 G0 I0=>Aa<|AE<|Am<|Ae rfl<|Ab (Bp (i:=b0) (j:=1) rfl rfl (by omega))<|Ag rfl<|Aa<|D0 (b0 + 1,bw b0 0 (18446744073709551615:UInt64) c0,bw b0 1 (18446744073709551615:UInt64) d0,bw b0 2 (18446744073709551615:UInt64) g0,bw b0 3 (18446744073709551615:UInt64) j0,bw b0 4 (18446744073709551615:UInt64) k0,bw b0 5 (18446744073709551615:UInt64) p0,bw b0 6 (18446744073709551615:UInt64) q0,bw b0 7 (18446744073709551615:UInt64) s0) G0 (Tt H0 I0) h
 refine Bf rfl ?_
 have h:=J0 _ h
 try dsimp only at h
 refine Ac<|Ab (AC rfl (t0.memA .hd))<|AS [vU c0,vU d0,vU g0,vU j0,vU k0,vU p0,vU q0,vU s0] t0 .t1 (ah rfl) fun d1 z0 U0=>Aa<|Ao rfl<|Ap hb0 func84 rfl (.cons (.many (cs:=[vU c0,vU d0,vU g0,vU j0,vU k0,vU p0,vU q0,vU s0]) rfl rfl (z0.memA .t1)) .nil) rfl ?_
 cases h
 exact z0.gv
 refine Au<|Ac<|Ab (AC rfl (v0.memA .hd))<|AS [vW ((ac a0).toNat:Int),vW 0,vW 0,vW 0,vW 0,vW 0,vW 0,vW 0] v0 .t1 (ah rfl) fun g1 A0 V0=>Aa<|Ao rfl<|Ap hb0 func84 rfl (.cons (.many (cs:=[vW ((ac a0).toNat:Int),vW 0,vW 0,vW 0,vW 0,vW 0,vW 0,vW 0]) rfl rfl (A0.memA .t1)) .nil) rfl ?_
 cases h
 exact A0.gv
def cB_p (n:Nat) (a0:Int):Option Te:=
  (cr_p n a0).bind fun b0=>(bm_p n b0).bind fun c0=>some c0
theorem cB_c (n:Nat) {L w} (hL:hl L w) {a0:Int}  {r:Te} (h:cB_p n a0 = some r) :
 Cl 90 #[vI a0] w (aj w fun w' u=>∃ v0_1:Value,u = .agg #[.bool r.fe,v0_1]/\Rep.R w' L [v0_1] r.fo):=by
 unfold cB_p at h
 refine AG func90 rfl rfl rfl fun _ cs0 hb0=>Ac<|RG.nl [.bool false,vN] (AB w) fun A0 v0 b0 x0=>Aa<|Ac<|Ae rfl<|bk h fun j0 t0 h=>Bi (.agg ((am j0)).toArray) (bd 84) rfl (e1 rfl) (fun w9 hw9=>cr_c n (b0.hL0 hL hw9)  t0) rfl<|bk h fun k0 u0 h=>jE (bd 107) rfl (e1 rfl) (fun w9 hw9=>bm_c n (b0.hL hL hw9) j0 u0) rfl fun B0 z0 s0 ⟨d0,hu_,g0⟩=>?_
 subst hu_
 obtain ⟨p0,y0⟩:=b0.agr s0
 refine AS [.bool k0.fe,d0] p0 .hd (o2 rfl (AZ g0)) fun C0 c0 q0=>Aa<|Ao rfl<|Ap hb0 func90 rfl (.cons (.many (cs:=[.bool k0.fe,d0]) rfl rfl (c0.memA .hd)) .nil) rfl ?_
 cases h
 exact ⟨c0.ag,fun w9 hw9=>⟨d0,rfl,c0.kd (Az g0 q0) hw9⟩⟩
def bK_p (_n:Nat) (a0:Te):Option Int:=
  (if a0.fe = true then some (-1:Int) else (if a0.fo.length = 0 then some (0:Int) else some (1:Int)))
theorem bK_c (n:Nat) {L w} (_hL:hl L w) (a0:Te) {v0_1:Value} (h0_1:Rep.R w L [v0_1] a0.fo)  {r:Int} (h:bK_p n a0 = some r) :
 Cl 92 #[.agg #[.bool a0.fe,v0_1]] w (aj w fun _ u=>u = vI r):=by
 unfold bK_p at h
 refine AG func92 rfl rfl rfl fun _ cs0 hb0=>Ac<|RG.bx (AB w) rfl rfl fun q0 j0 b0 k0=>Ag rfl<|Aa<|Aj<|Ay<|Ac<|Bg 0 rfl<|AU rfl ((b0.memA .hd) 0 _ rfl)<|Ag rfl<|Aa<|MX.ifb rfl h (fun d0 h=>?_) (fun d0 h=>?_)
 refine Ac<|Ag rfl<|Aa<|Ao rfl<|Bc hb0 func92 rfl rfl ?_
 cases h
 exact b0.gv
 refine Ac<|Bg 1 rfl<|AU rfl ((b0.memA .hd) 1 _ rfl) ?_
 have c0:=AT h0_1 b0
 have p0:a0.fo.length <= 281474976710656:=Bh c0
 refine Ab (Bl (xs:=a0.fo) underlying120 rfl c0)<|Ab (FV.eqlN (i:=a0.fo.length) (j:=0) rfl rfl)<|Ag rfl<|Aa<|AW rfl h (fun g0 h=>?_) (fun g0 h=>?_)
 refine Ac<|Ag rfl<|Aa<|Ao rfl<|Bc hb0 func92 rfl rfl ?_
 cases h
 exact b0.gv
 refine Au<|AE<|Ac<|Ag rfl<|Aa<|Ao rfl<|Bc hb0 func92 rfl rfl ?_
 cases h
 exact b0.gv
def cD:List UInt8:=[0,1,2,2,3,3,3,3,4,4,4,4,4,4,4,4,5,5,5,5,5,5,5,5,5,5,5,5,5,5,5,5,6,6,6,6,6,6,6,6,6,6,6,6,6,6,6,6,6,6,6,6,6,6,6,6,6,6,6,6,6,6,6,6,7,7,7,7,7,7,7,7,7,7,7,7,7,7,7,7,7,7,7,7,7,7,7,7,7,7,7,7,7,7,7,7,7,7,7,7,7,7,7,7,7,7,7,7,7,7,7,7,7,7,7,7,7,7,7,7,7,7,7,7,7,7,7,7,8,8,8,8,8,8,8,8,8,8,8,8,8,8,8,8,8,8,8,8,8,8,8,8,8,8,8,8,8,8,8,8,8,8,8,8,8,8,8,8,8,8,8,8,8,8,8,8,8,8,8,8,8,8,8,8,8,8,8,8,8,8,8,8,8,8,8,8,8,8,8,8,8,8,8,8,8,8,8,8,8,8,8,8,8,8,8,8,8,8,8,8,8,8,8,8,8,8,8,8,8,8,8,8,8,8,8,8,8,8,8,8,8,8,8,8,8,8,8,8,8,8,8,8,8,8,8,8]
def bX_p (_n:Nat) (a0:UInt64):Option Int:=
  jn (fun (u2,i3)=>jn (fun (b0,g0)=>jn (fun (q0,s0)=>(cD[(ea q0).toNat]?).bind fun t0=>(chk (s0 + ((t0.toNat:Nat):Int))).bind fun j0=>some j0) (fun d0=>(if (256:UInt64) <= b0 then (chk (g0 + 8)).bind fun k0=>d0 (shrU b0 8,k0) else d0 (b0,g0)))) (fun c0=>(if (65536:UInt64) <= u2 then (chk (((i3:Nat):Int) + 16)).bind fun p0=>c0 (shrU u2 16,p0) else c0 (u2,((i3:Nat):Int))))) (fun J7=>(if (4294967296:UInt64) <= a0 then J7 (shrU a0 32,32) else J7 (a0,0)))
theorem bX_c (n:Nat) {L w} (_hL:hl L w) (a0:UInt64)  {r:Int} (h:bX_p n a0 = some r) :
 Cl 152 #[vU a0] w (aj w fun _ u=>u = vI r):=by
 unfold bX_p at h
 have hS0:=AB w
 refine AG func152 rfl rfl rfl fun _ cs0 hb0=>Ac<|Ag rfl<|Aa<|Aj<|Ac<|Ae rfl<|Ab (FV.geqU (a:=a0) (b:=(4294967296:UInt64)) rfl rfl)<|Aa<|MX.jo (α:=UInt64 × Nat) (fun ⟨u2,i3⟩=>[(0,vU u2),(2,vI ((i3:Nat):Int))]) (fun ⟨u2,i3⟩=>[]) (fun ⟨u2,i3⟩=>(u2,i3)) hS0 h ?_ ?_
 rintro ⟨u2,i3⟩ wx3 hS4 hT5 h
 try dsimp only at h
 refine Aj<|Ac<|Ae rfl<|Ab (FV.geqU (a:=u2) (b:=(65536:UInt64)) rfl rfl)<|Aa<|MX.jo (α:=UInt64 × Int) (fun ⟨b0,d0⟩=>[(0,vU b0),(2,vI d0)]) (fun ⟨b0,d0⟩=>[]) (fun ⟨b0,d0⟩=>(b0,d0)) hS4 h ?_ ?_
 rintro ⟨b0,d0⟩ J0 j0 F0 h
 try dsimp only at h
 refine Aj<|Ac<|Ae rfl<|Ab (FV.geqU (a:=b0) (b:=(256:UInt64)) rfl rfl)<|Aa<|MX.jo (α:=UInt64 × Int) (fun ⟨c0,g0⟩=>[(0,vU c0),(2,vI g0)]) (fun ⟨c0,g0⟩=>[]) (fun ⟨c0,g0⟩=>(c0,g0)) j0 h ?_ ?_
 rintro ⟨c0,g0⟩ K0 v0 G0 h
 try dsimp only at h
 refine Ac<|Ae rfl<|Ae rfl<|Ab (FV.conv8 (a:=c0) underlying38 underlying5 rfl)<|bk h fun k0 A0 h=>Ab (FV.strIdx (k:=(ea c0).toNat) (tab:=cD) underlying9 rfl rfl rfl rfl A0) ?_
 have H0:=k0.toNat_lt
 refine Ab (FV.convN (i:=k0.toNat) underlying5 underlying3 rfl (by omega))<|bk h fun I0 x0 h=>Ab (BH (i:=g0) (j:=((k0.toNat:Nat):Int)) rfl rfl x0)<|Ag rfl<|Aa<|Ao rfl<|Bc hb0 func152 rfl rfl ?_
 cases h
 exact v0.gv
 intro E0 q0 h
 try dsimp only at h
 refine AW rfl h (fun s0 h=>?_) (fun s0 h=>?_)
 refine Ac<|Ae rfl<|Ab (FV.shrU (a:=b0) (j:=8) rfl rfl)<|Ag rfl<|Aa<|Am<|Ae rfl<|bk h fun B0 y0 h=>Ab (BH (i:=d0) (j:=8) rfl rfl y0)<|Ag rfl<|Aa<|q0 (shrU b0 8,B0) j0 (Tr.refl _ _) h
 refine Au<|q0 (b0,d0) j0 (Tr.refl _ _) h
 intro D0 p0 h
 try dsimp only at h
 refine AW rfl h (fun t0 h=>?_) (fun t0 h=>?_)
 refine Ac<|Ae rfl<|Ab (FV.shrU (a:=u2) (j:=16) rfl rfl)<|Ag rfl<|Aa<|Am<|Ae rfl<|bk h fun C0 z0 h=>Ab (BH (i:=((i3:Nat):Int)) (j:=16) rfl rfl z0)<|Ag rfl<|Aa<|p0 (shrU u2 16,C0) hS4 (Tr.refl _ _) h
 refine Au<|p0 (u2,((i3:Nat):Int)) hS4 (Tr.refl _ _) h
 intro J7 hJ8 h
 try dsimp only at h
 refine AW rfl h (fun u0 h=>?_) (fun u0 h=>?_)
 refine Ac<|Ae rfl<|Ab (FV.shrU (a:=a0) (j:=32) rfl rfl)<|Ag rfl<|Aa<|Am<|Ag rfl<|Aa<|hJ8 (shrU a0 32,32) hS0 (Tr.refl _ _) h
 refine Au<|hJ8 (a0,0) hS0 (Tr.refl _ _) h
def aM_p (n:Nat) (a0:UInt64):Option Int:=
  (bX_p n a0).bind fun y1=>(chk (64 - y1)).bind fun s2=>some s2
theorem aM_c (n:Nat) {L w} (hL:hl L w) (a0:UInt64)  {r:Int} (h:aM_p n a0 = some r) :
 Cl 143 #[vU a0] w (aj w fun _ u=>u = vI r):=by
 unfold aM_p at h
 have hS0:=AB w
 refine AG func143 rfl rfl rfl fun _ cs0 hb0=>Ac<|Ag rfl<|Aa<|Ac<|Ae rfl<|bk h fun y1 hy1 h=>Bi (vI y1) (bd 152) rfl (e1 rfl) (fun w9 hw9=>bX_c n (hS0.hL0 hL hw9) a0 hy1) rfl<|bk h fun s2 hs2 h=>Ab (FV.subc (i:=64) (j:=y1) rfl rfl hs2)<|Ag rfl<|Aa<|Ao rfl<|Bc hb0 func143 rfl rfl ?_
 cases h
 exact hS0.gv
def ax_l1 (_n:Nat) (a2:UInt64) (y8:Int) (a1:UInt64) (d0:UInt64 × UInt64 -> Option UInt64):UInt64 × UInt64 -> Option UInt64
  | (b0,c0)=>(if (4294967296:UInt64) <= b0 then (if (4294967296:UInt64) <= (c0 + (shrU (shlU a2 (ac y8).toNat) 32)) then some (b0 - (1:UInt64)) else d0 (b0 - (1:UInt64),c0 + (shrU (shlU a2 (ac y8).toNat) 32))) else (if (((4294967296:UInt64) * c0) + ((shlU a1 (ac y8).toNat) &&& (4294967295:UInt64))) < (b0 * ((shlU a2 (ac y8).toNat) &&& (4294967295:UInt64))) then (if (4294967296:UInt64) <= (c0 + (shrU (shlU a2 (ac y8).toNat) 32)) then some (b0 - (1:UInt64)) else d0 (b0 - (1:UInt64),c0 + (shrU (shlU a2 (ac y8).toNat) 32))) else some b0))
def ax_l2 (_n:Nat) (a2:UInt64) (y8:Int) (a1:UInt64) (d0:UInt64 × UInt64 -> Option UInt64):UInt64 × UInt64 -> Option UInt64
  | (b0,c0)=>(if (4294967296:UInt64) <= b0 then (if (4294967296:UInt64) <= (c0 + (shrU (shlU a2 (ac y8).toNat) 32)) then some (b0 - (1:UInt64)) else d0 (b0 - (1:UInt64),c0 + (shrU (shlU a2 (ac y8).toNat) 32))) else (if (((4294967296:UInt64) * c0) + (shrU (shlU a1 (ac y8).toNat) 32)) < (b0 * ((shlU a2 (ac y8).toNat) &&& (4294967295:UInt64))) then (if (4294967296:UInt64) <= (c0 + (shrU (shlU a2 (ac y8).toNat) 32)) then some (b0 - (1:UInt64)) else d0 (b0 - (1:UInt64),c0 + (shrU (shlU a2 (ac y8).toNat) 32))) else some b0))
def ax_p (n:Nat) (a0:UInt64) (a1:UInt64) (a2:UInt64):Option (UInt64 × UInt64):=
  (if a2 = (0:UInt64) then none else (if a2 <= a0 then none else (if a0 = (0:UInt64) then (io a1 a2).bind fun s6=>(kY a1 a2).bind fun s7=>some (s6,s7) else (aM_p n a2).bind fun y8=>(io ((shlU a0 (ac y8).toNat) ||| (shrU a1 ((64:UInt64) - (ac y8)).toNat)) (shrU (shlU a2 (ac y8).toNat) 32)).bind fun s9=>(some (((shlU a0 (ac y8).toNat) ||| (shrU a1 ((64:UInt64) - (ac y8)).toNat)) - (s9 * (shrU (shlU a2 (ac y8).toNat) 32)))).bind fun p0=>jn (fun b0=>(some (((shlU a0 (ac y8).toNat) ||| (shrU a1 ((64:UInt64) - (ac y8)).toNat)) * (4294967296:UInt64))).bind fun c0=>(io ((c0 + (shrU (shlU a1 (ac y8).toNat) 32)) - (b0 * (shlU a2 (ac y8).toNat))) (shrU (shlU a2 (ac y8).toNat) 32)).bind fun d0=>(some (((c0 + (shrU (shlU a1 (ac y8).toNat) 32)) - (b0 * (shlU a2 (ac y8).toNat))) - (d0 * (shrU (shlU a2 (ac y8).toNat) 32)))).bind fun q0=>jn (fun g0=>(some (((c0 + (shrU (shlU a1 (ac y8).toNat) 32)) - (b0 * (shlU a2 (ac y8).toNat))) * (4294967296:UInt64))).bind fun s0=>(some ((s0 + ((shlU a1 (ac y8).toNat) &&& (4294967295:UInt64))) - (g0 * (shlU a2 (ac y8).toNat)))).bind fun t0=>some ((b0 * (4294967296:UInt64)) + g0,shrU t0 (ac y8).toNat)) (fun k0=>Option.bind (ao (ax_l1 n a2 y8 a1) n (d0,q0)) (k0))) (fun j0=>Option.bind (ao (ax_l2 n a2 y8 a1) n (s9,p0)) (j0)))))
theorem ax_c (n:Nat) {L w} (hL:hl L w) (a0:UInt64) (a1:UInt64) (a2:UInt64)  {r:UInt64 × UInt64} (h:ax_p n a0 a1 a2 = some r) :
 Cl 123 #[vU a0,vU a1,vU a2] w (aj w fun _ u=>u = .tuple #[vU r.1,vU r.2]):=by
 unfold ax_p at h
 have hS0:=AB w
 refine AG func123 rfl rfl rfl fun _ cs0 hb0=>Ac<|Ag rfl<|Ag rfl<|Aa<|Aj<|Ac<|Ae rfl<|Ab (FV.eqlU (a:=a2) (b:=(0:UInt64)) rfl rfl)<|Aa<|AW rfl h (fun c1 h=>?_) (fun c1 h=>?_)
 refine Am ?_
 cases h
 refine Au<|Aj<|Ac<|Ae rfl<|Ae rfl<|Ab (FV.leqU (a:=a2) (b:=a0) rfl rfl)<|Aa<|AW rfl h (fun c2 h=>?_) (fun c2 h=>?_)
 refine Am ?_
 cases h
 refine Au<|Aj<|Ac<|Ae rfl<|Ab (FV.eqlU (a:=a0) (b:=(0:UInt64)) rfl rfl)<|Aa<|AW rfl h (fun c3 h=>?_) (fun c3 h=>?_)
 refine Aj<|du 8 fun kt4 kp5=>Rv 0 kt4 rfl kp5 (fun _=>Ak rfl)<|Rv 1 kt4 rfl kp5 (fun _=>Ak rfl)<|bk h fun s6 hs6 h=>Rv 2 kt4 rfl kp5 (fun _=>FV.quoV (a:=a1) (b:=a2) rfl rfl hs6)<|Rv 3 kt4 rfl kp5 (fun _=>Ak rfl)<|Rv 4 kt4 rfl kp5 (fun _=>Ak rfl)<|bk h fun s7 hs7 h=>Rv 5 kt4 rfl kp5 (fun _=>FV.remV (a:=a1) (b:=a2) rfl rfl hs7)<|Rv 6 kt4 rfl kp5 (fun _=>Ba rfl)<|Rv 7 kt4 rfl kp5 (fun _=>Ba rfl)<|AJ (dk kt4)<|Ao rfl<|Ap hb0 func123 rfl (.cons (.tmp rfl) (.cons (.tmp rfl) .nil)) rfl ?_
 cases h
 exact hS0.gv
 refine Au<|Ac<|Ae rfl<|bk h fun y8 hy8 h=>Bi (vI y8) (bd 143) rfl (e1 rfl) (fun w9 hw9=>aM_c n (hS0.hL0 hL hw9) a2 hy8) rfl<|Ab (FV.convU (i:=y8) underlying3 underlying198 rfl)<|Ag rfl<|Aa<|Ac<|Ae rfl<|Ae rfl<|Ab (FV.shlU (a:=a2) (j:=(ac y8).toNat) rfl rfl)<|Ag rfl<|Aa<|Ac<|Ae rfl<|Ab (FV.shrU (a:=shlU a2 (ac y8).toNat) (j:=32) rfl rfl)<|Ag rfl<|Aa<|Ac<|Ae rfl<|Ab (FV.andU (a:=shlU a2 (ac y8).toNat) (b:=(4294967295:UInt64)) rfl rfl)<|Ag rfl<|Aa<|Ac<|Ae rfl<|Ae rfl<|Ab (FV.shlU (a:=a0) (j:=(ac y8).toNat) rfl rfl)<|Ae rfl<|Ae rfl<|Ab (FV.subU (a:=(64:UInt64)) (b:=ac y8) rfl rfl)<|Ab (FV.shrU (a:=a1) (j:=((64:UInt64) - (ac y8)).toNat) rfl rfl)<|Ab (FV.orU (a:=shlU a0 (ac y8).toNat) (b:=shrU a1 ((64:UInt64) - (ac y8)).toNat) rfl rfl)<|Ag rfl<|Aa<|Ac<|Ae rfl<|Ae rfl<|Ab (FV.shlU (a:=a1) (j:=(ac y8).toNat) rfl rfl)<|Ag rfl<|Aa<|Ac<|Ae rfl<|Ab (FV.shrU (a:=shlU a1 (ac y8).toNat) (j:=32) rfl rfl)<|Ag rfl<|Aa<|Ac<|Ae rfl<|Ab (FV.andU (a:=shlU a1 (ac y8).toNat) (b:=(4294967295:UInt64)) rfl rfl)<|Ag rfl<|Aa<|Ac<|Ae rfl<|Ae rfl<|bk h fun s9 hs9 h=>Ab (FV.quoV (a:=(shlU a0 (ac y8).toNat) ||| (shrU a1 ((64:UInt64) - (ac y8)).toNat)) (b:=shrU (shlU a2 (ac y8).toNat) 32) rfl rfl hs9)<|Ag rfl<|Aa<|Ac<|Ae rfl ?_
 refine Ae rfl<|Ae rfl<|Ab (FV.mulU (a:=s9) (b:=shrU (shlU a2 (ac y8).toNat) 32) rfl rfl)<|bk h fun d1 W0 h=>Ab (FV.as (FV.subU (a:=(shlU a0 (ac y8).toNat) ||| (shrU a1 ((64:UInt64) - (ac y8)).toNat)) (b:=s9 * (shrU (shlU a2 (ac y8).toNat) 32)) rfl rfl) (congrArg (fun z:UInt64=>Value.int .u64 (z.toNat:Int)) (Option.some.inj W0)))<|Ag rfl<|Aa<|Aj<|Ay<|MX.xo (α:=UInt64) 0 (fun b0=>[(2,vW ((shlU a2 (ac y8).toNat).toNat:Int)),(8,vW ((ac y8).toNat:Int)),(9,vW ((shrU (shlU a2 (ac y8).toNat) 32).toNat:Int)),(10,vW (((shlU a2 (ac y8).toNat) &&& (4294967295:UInt64)).toNat:Int)),(11,vW (((shlU a0 (ac y8).toNat) ||| (shrU a1 ((64:UInt64) - (ac y8)).toNat)).toNat:Int)),(13,vW ((shrU (shlU a1 (ac y8).toNat) 32).toNat:Int)),(14,vW (((shlU a1 (ac y8).toNat) &&& (4294967295:UInt64)).toNat:Int)),(15,vU b0)]) (fun b0=>[]) (fun b0=>b0) hS0 rfl h ?_ ?_
 rintro b0 A1 D0 t1 h
 try dsimp only at h
 refine Ac<|Ae rfl<|bk h fun p0 X0 h=>Ab (FV.as (FV.mulU (a:=(shlU a0 (ac y8).toNat) ||| (shrU a1 ((64:UInt64) - (ac y8)).toNat)) (b:=(4294967296:UInt64)) rfl rfl) (congrArg (fun z:UInt64=>Value.int .u64 (z.toNat:Int)) (Option.some.inj X0)))<|Ae rfl<|Ab (FV.addU (a:=p0) (b:=shrU (shlU a1 (ac y8).toNat) 32) rfl rfl)<|Ae rfl<|Ae rfl<|Ab (FV.mulU (a:=b0) (b:=shlU a2 (ac y8).toNat) rfl rfl)<|Ab (FV.subU (a:=p0 + (shrU (shlU a1 (ac y8).toNat) 32)) (b:=b0 * (shlU a2 (ac y8).toNat)) rfl rfl)<|Ag rfl<|Aa<|Ac<|Ae rfl<|Ae rfl<|bk h fun A0 V0 h=>Ab (FV.quoV (a:=(p0 + (shrU (shlU a1 (ac y8).toNat) 32)) - (b0 * (shlU a2 (ac y8).toNat))) (b:=shrU (shlU a2 (ac y8).toNat) 32) rfl rfl V0)<|Ag rfl<|Aa<|Ac<|Ae rfl<|Ae rfl<|Ae rfl<|Ab (FV.mulU (a:=A0) (b:=shrU (shlU a2 (ac y8).toNat) 32) rfl rfl)<|bk h fun g1 Y0 h=>Ab (FV.as (FV.subU (a:=(p0 + (shrU (shlU a1 (ac y8).toNat) 32)) - (b0 * (shlU a2 (ac y8).toNat))) (b:=A0 * (shrU (shlU a2 (ac y8).toNat) 32)) rfl rfl) (congrArg (fun z:UInt64=>Value.int .u64 (z.toNat:Int)) (Option.some.inj Y0)))<|Ag rfl<|Aa<|Aj<|Ay<|MX.xo (α:=UInt64) 2 (fun k0=>[(2,vW ((shlU a2 (ac y8).toNat).toNat:Int)),(8,vW ((ac y8).toNat:Int)),(14,vW (((shlU a1 (ac y8).toNat) &&& (4294967295:UInt64)).toNat:Int)),(15,vU b0),(17,vW (((p0 + (shrU (shlU a1 (ac y8).toNat) 32)) - (b0 * (shlU a2 (ac y8).toNat))).toNat:Int)),(18,vU k0)]) (fun k0=>[]) (fun k0=>k0) D0 rfl h ?_ ?_
 rintro k0 B1 Q0 u1 h
 try dsimp only at h
 refine Ac<|Ae rfl<|Ab (FV.mulU (a:=b0) (b:=(4294967296:UInt64)) rfl rfl)<|Ae rfl<|Ab (FV.addU (a:=b0 * (4294967296:UInt64)) (b:=k0) rfl rfl)<|Ae rfl<|bk h fun E0 Z0 h=>Ab (FV.as (FV.mulU (a:=(p0 + (shrU (shlU a1 (ac y8).toNat) 32)) - (b0 * (shlU a2 (ac y8).toNat))) (b:=(4294967296:UInt64)) rfl rfl) (congrArg (fun z:UInt64=>Value.int .u64 (z.toNat:Int)) (Option.some.inj Z0)))<|Ae rfl<|Ab (FV.addU (a:=E0) (b:=(shlU a1 (ac y8).toNat) &&& (4294967295:UInt64)) rfl rfl)<|Ae rfl<|Ae rfl<|Ab (FV.mulU (a:=k0) (b:=shlU a2 (ac y8).toNat) rfl rfl)<|bk h fun j1 b1 h=>Ab (FV.as (FV.subU (a:=E0 + ((shlU a1 (ac y8).toNat) &&& (4294967295:UInt64))) (b:=k0 * (shlU a2 (ac y8).toNat)) rfl rfl) (congrArg (fun z:UInt64=>Value.int .u64 (z.toNat:Int)) (Option.some.inj b1)))<|Ae rfl<|Ab (FV.shrU (a:=j1) (j:=(ac y8).toNat) rfl rfl)<|Ag rfl<|Ag rfl<|Aa<|Ao rfl<|Ap hb0 func123 rfl (.cons (.tmp rfl) (.cons (.tmp rfl) .nil)) rfl ?_
 cases h
 exact Q0.gv
 intro s1 x0 h
 try dsimp only at h
 obtain ⟨v1,R0,y0⟩:=ax h
 refine MX.lo (α:=UInt64 × UInt64) (fun ⟨c0,g0⟩=>[(2,vW ((shlU a2 (ac y8).toNat).toNat:Int)),(8,vW ((ac y8).toNat:Int)),(9,vW ((shrU (shlU a2 (ac y8).toNat) 32).toNat:Int)),(10,vW (((shlU a2 (ac y8).toNat) &&& (4294967295:UInt64)).toNat:Int)),(14,vW (((shlU a1 (ac y8).toNat) &&& (4294967295:UInt64)).toNat:Int)),(15,vU b0),(17,vW (((p0 + (shrU (shlU a1 (ac y8).toNat) 32)) - (b0 * (shlU a2 (ac y8).toNat))).toNat:Int)),(18,vU c0),(16,vU g0)]) (fun ⟨c0,g0⟩=>[]) (fun ⟨c0,g0⟩=>(c0,g0)) (A0,g1) R0 D0 ?_
 rintro k1 ⟨c0,g0⟩ y1 B0 q0 t0 h
 unfold ax_l1 at h
 try dsimp only at h
 refine Aj<|Ac<|Ae rfl<|Ab (FV.geqU (a:=c0) (b:=(4294967296:UInt64)) rfl rfl)<|Ae rfl<|RG.ifd (s:=104) rfl h (fun F0 h=>?_) (fun F0 h=>?_)
 refine AL<|AL<|AL<|AL<|AL<|AL<|AL<|AL<|RG.pt rfl rfl<|Aa<|Be rfl<|Au<|Ay<|Ac<|Ae rfl<|Ab (FV.subU (a:=c0) (b:=(1:UInt64)) rfl rfl)<|Ag rfl<|Aa<|Ac<|Ae rfl<|Ae rfl<|Ab (FV.addU (a:=g0) (b:=shrU (shlU a2 (ac y8).toNat) 32) rfl rfl)<|Ag rfl<|Aa<|Ac<|Ae rfl<|Ab (FV.geqU (a:=g0 + (shrU (shlU a2 (ac y8).toNat) 32)) (b:=(4294967296:UInt64)) rfl rfl)<|Aa<|AW rfl h (fun G0 h=>?_) (fun G0 h=>?_)
 refine Bf rfl ?_
 have h:=y0 _ h
 try dsimp only at h
 exact x0 (c0 - (1:UInt64)) q0 t0 h
 refine Au<|AE<|B0 (c0 - (1:UInt64),g0 + (shrU (shlU a2 (ac y8).toNat) 32)) q0 t0 h
 refine AX (Ak rfl)<|AX (Ak rfl)<|AX (FV.mulU (a:=c0) (b:=(shlU a2 (ac y8).toNat) &&& (4294967295:UInt64)) rfl rfl)<|AX (Ak rfl)<|AX (FV.mulU (a:=(4294967296:UInt64)) (b:=g0) rfl rfl)<|AX (Ak rfl)<|AX (FV.addU (a:=(4294967296:UInt64) * g0) (b:=(shlU a1 (ac y8).toNat) &&& (4294967295:UInt64)) rfl rfl)<|AX (FV.gtrU (a:=c0 * ((shlU a2 (ac y8).toNat) &&& (4294967295:UInt64))) (b:=((4294967296:UInt64) * g0) + ((shlU a1 (ac y8).toNat) &&& (4294967295:UInt64))) rfl rfl)<|RG.pf rfl rfl<|Aa<|AW rfl h (fun H0 h=>?_) (fun H0 h=>?_)
 refine Au<|Ay<|Ac<|Ae rfl<|Ab (FV.subU (a:=c0) (b:=(1:UInt64)) rfl rfl)<|Ag rfl<|Aa<|Ac<|Ae rfl<|Ae rfl<|Ab (FV.addU (a:=g0) (b:=shrU (shlU a2 (ac y8).toNat) 32) rfl rfl)<|Ag rfl<|Aa<|Ac<|Ae rfl<|Ab (FV.geqU (a:=g0 + (shrU (shlU a2 (ac y8).toNat) 32)) (b:=(4294967296:UInt64)) rfl rfl)<|Aa<|AW rfl h (fun I0 h=>?_) (fun I0 h=>?_)
 refine Bf rfl ?_
 have h:=y0 _ h
 try dsimp only at h
 exact x0 (c0 - (1:UInt64)) q0 t0 h
 refine Au<|AE<|B0 (c0 - (1:UInt64),g0 + (shrU (shlU a2 (ac y8).toNat) 32)) q0 t0 h
 refine Bf rfl ?_
 have h:=y0 _ h
 try dsimp only at h
 exact x0 c0 q0 t0 h
 intro q1 v0 h
 try dsimp only at h
 obtain ⟨x1,U0,z0⟩:=ax h
 refine MX.lo (α:=UInt64 × UInt64) (fun ⟨d0,j0⟩=>[(2,vW ((shlU a2 (ac y8).toNat).toNat:Int)),(8,vW ((ac y8).toNat:Int)),(9,vW ((shrU (shlU a2 (ac y8).toNat) 32).toNat:Int)),(10,vW (((shlU a2 (ac y8).toNat) &&& (4294967295:UInt64)).toNat:Int)),(11,vW (((shlU a0 (ac y8).toNat) ||| (shrU a1 ((64:UInt64) - (ac y8)).toNat)).toNat:Int)),(13,vW ((shrU (shlU a1 (ac y8).toNat) 32).toNat:Int)),(14,vW (((shlU a1 (ac y8).toNat) &&& (4294967295:UInt64)).toNat:Int)),(15,vU d0),(16,vU j0)]) (fun ⟨d0,j0⟩=>[]) (fun ⟨d0,j0⟩=>(d0,j0)) (s9,d1) U0 hS0 ?_
 rintro p1 ⟨d0,j0⟩ z1 C0 s0 u0 h
 unfold ax_l2 at h
 try dsimp only at h
 refine Aj<|Ac<|Ae rfl<|Ab (FV.geqU (a:=d0) (b:=(4294967296:UInt64)) rfl rfl)<|Ae rfl<|RG.ifd (s:=69) rfl h (fun J0 h=>?_) (fun J0 h=>?_)
 refine AL<|AL<|AL<|AL<|AL<|AL<|AL<|AL<|RG.pt rfl rfl<|Aa<|Be rfl<|Au<|Ay<|Ac<|Ae rfl<|Ab (FV.subU (a:=d0) (b:=(1:UInt64)) rfl rfl)<|Ag rfl<|Aa<|Ac<|Ae rfl<|Ae rfl<|Ab (FV.addU (a:=j0) (b:=shrU (shlU a2 (ac y8).toNat) 32) rfl rfl)<|Ag rfl<|Aa<|Ac<|Ae rfl<|Ab (FV.geqU (a:=j0 + (shrU (shlU a2 (ac y8).toNat) 32)) (b:=(4294967296:UInt64)) rfl rfl)<|Aa<|AW rfl h (fun K0 h=>?_) (fun K0 h=>?_)
 refine Bf rfl ?_
 have h:=z0 _ h
 try dsimp only at h
 exact v0 (d0 - (1:UInt64)) s0 u0 h
 refine Au<|AE<|C0 (d0 - (1:UInt64),j0 + (shrU (shlU a2 (ac y8).toNat) 32)) s0 u0 h
 refine AX (Ak rfl)<|AX (Ak rfl)<|AX (FV.mulU (a:=d0) (b:=(shlU a2 (ac y8).toNat) &&& (4294967295:UInt64)) rfl rfl)<|AX (Ak rfl)<|AX (FV.mulU (a:=(4294967296:UInt64)) (b:=j0) rfl rfl)<|AX (Ak rfl)<|AX (FV.addU (a:=(4294967296:UInt64) * j0) (b:=shrU (shlU a1 (ac y8).toNat) 32) rfl rfl)<|AX (FV.gtrU (a:=d0 * ((shlU a2 (ac y8).toNat) &&& (4294967295:UInt64))) (b:=((4294967296:UInt64) * j0) + (shrU (shlU a1 (ac y8).toNat) 32)) rfl rfl)<|RG.pf rfl rfl<|Aa<|AW rfl h (fun M0 h=>?_) (fun M0 h=>?_)
 refine Au<|Ay<|Ac<|Ae rfl<|Ab (FV.subU (a:=d0) (b:=(1:UInt64)) rfl rfl)<|Ag rfl<|Aa<|Ac<|Ae rfl<|Ae rfl<|Ab (FV.addU (a:=j0) (b:=shrU (shlU a2 (ac y8).toNat) 32) rfl rfl)<|Ag rfl<|Aa<|Ac<|Ae rfl<|Ab (FV.geqU (a:=j0 + (shrU (shlU a2 (ac y8).toNat) 32)) (b:=(4294967296:UInt64)) rfl rfl)<|Aa<|AW rfl h (fun P0 h=>?_) (fun P0 h=>?_)
 refine Bf rfl ?_
 have h:=z0 _ h
 try dsimp only at h
 exact v0 (d0 - (1:UInt64)) s0 u0 h
 refine Au<|AE<|C0 (d0 - (1:UInt64),j0 + (shrU (shlU a2 (ac y8).toNat) 32)) s0 u0 h
 refine Bf rfl ?_
 have h:=z0 _ h
 try dsimp only at h
 exact v0 d0 s0 u0 h
def ci_p (n:Nat) (a0:List UInt64):Option Int:=
  (if a0.length = 0 then some (0:Int) else (chk (64 * ((a0.length:Nat):Int))).bind fun s3=>(idx a0 (((a0.length:Nat):Int) - 1)).bind fun x4=>(aM_p n x4).bind fun c0=>(chk (s3 - c0)).bind fun b0=>some b0)
theorem ci_c (n:Nat) {L w} (hL:hl L w) {a0:List UInt64} {v0_0:Value} (h0_0:Rep.R w L [v0_0] a0)  {r:Int} (h:ci_p n a0 = some r) :
 Cl 124 #[v0_0] w (aj w fun _ u=>u = vI r):=by
 unfold ci_p at h
 have hS0:=AB w
 refine AG func124 rfl rfl rfl fun _ cs0 hb0=>Ac<|Ag rfl<|Aa<|Aj<|Ac<|Ae rfl ?_
 have hl1:a0.length <= 281474976710656:=Bh h0_0
 refine Ab (Bl (xs:=a0) underlying120 rfl h0_0)<|Ab (FV.eqlN (i:=a0.length) (j:=0) rfl rfl)<|Aa<|AW rfl h (fun c2 h=>?_) (fun c2 h=>?_)
 refine Ac<|Ag rfl<|Aa<|Ao rfl<|Bc hb0 func124 rfl rfl ?_
 cases h
 exact hS0.gv
 refine Au<|Ac<|Ae rfl<|Ab (Bl (xs:=a0) underlying120 rfl h0_0)<|bk h fun s3 hs3 h=>Ab (FV.mulc (i:=64) (j:=((a0.length:Nat):Int)) rfl rfl hs3)<|Ae rfl<|Ae rfl<|Ab (Bl (xs:=a0) underlying120 rfl h0_0)<|Ab (FV.subI (i:=((a0.length:Nat):Int)) (j:=1) rfl rfl (by omega))<|bk h fun x4 hx4 h=>?_
 obtain ⟨hi5,hx6⟩:=aJ hx4
 obtain ⟨A7,c8,he9,g0,c0,k0,j0⟩:=Br h0_0 hx6
 have d0:c0 = [vU x4]:=k0; subst d0
 refine Ab (FV.idxAddr (m:=1) (i:=(((a0.length:Nat):Int) - 1).toNat) rfl rfl he9 rfl hi5 g0)<|AU rfl (j0 0 _ rfl)<|bk h fun b0 q0 h=>Bi (vI b0) (bd 143) rfl (e1 rfl) (fun w9 hw9=>aM_c n (hS0.hL0 hL hw9) x4 q0) rfl<|bk h fun s0 p0 h=>Ab (FV.subc (i:=s3) (j:=b0) rfl rfl p0)<|Ag rfl<|Aa<|Ao rfl<|Bc hb0 func124 rfl rfl ?_
 cases h
 exact hS0.gv
def bY_l1 (_n:Nat) (a0:List UInt64) (a1:Int) (g0:Nat × (List UInt64) -> Option (List UInt64)):Nat × (List UInt64) -> Option (List UInt64)
  | (b0,c0)=>(if b0 < a0.length then (a0[b0]?).bind fun p0=>(fY a1 64).bind fun t0=>(chk (((b0:Nat):Int) + t0)).bind fun j0=>(idx c0 j0).bind fun B0=>(dj a1 64).bind fun u0=>(dK u0).bind fun q0=>(put c0 ((j0.toNat:Nat):Int) (B0 ||| (shlU p0 q0))).bind fun d0=>(dj a1 64).bind fun v0=>(if 0 < v0 then (fY a1 64).bind fun x0=>(chk (((b0:Nat):Int) + x0)).bind fun y0=>(chk (y0 + 1)).bind fun k0=>(dj a1 64).bind fun z0=>(chk (64 - z0)).bind fun A0=>(dK A0).bind fun s0=>(idx d0 k0).bind fun _x218=>(put d0 ((k0.toNat:Nat):Int) (shrU p0 s0)).bind fun C0=>g0 (b0 + 1,C0) else g0 (b0 + 1,d0)) else some c0)
def bY_p (n:Nat) (a0:List UInt64) (a1:Int):Option (List UInt64):=
  (fY a1 64).bind fun s2=>(chk (((a0.length:Nat):Int) + s2)).bind fun s3=>(chk (s3 + 1)).bind fun s4=>(mk s4 (0:UInt64)).bind fun b0=>Option.bind (ao (bY_l1 n a0 a1) n (0,b0)) (fun c0=>(ao_p n false c0).bind fun d0=>some d0.fo)
theorem bY_c (n:Nat) {L w} (hL:hl L w) {a0:List UInt64} {v0_0:Value} (h0_0:Rep.R w L [v0_0] a0) {a1:Int}  {r:List UInt64} (h:bY_p n a0 a1 = some r) :
 Cl 125 #[v0_0,vI a1] w (aj w fun w' u=>∃ v0_0:Value,u = v0_0/\Rep.R w' L [v0_0] r):=by
 unfold bY_p at h
 refine AG func125 rfl rfl rfl fun _ cs0 hb0=>Ac<|Ag rfl<|Aa<|Ac<|Ae rfl ?_
 have hl1:a0.length <= 281474976710656:=Bh h0_0
 refine Ab (Bl (xs:=a0) underlying120 rfl h0_0)<|Ae rfl<|bk h fun s2 hs2 h=>Ab (FV.quoc (i:=a1) (j:=64) rfl rfl hs2)<|bk h fun s3 hs3 h=>Ab (BH (i:=((a0.length:Nat):Int)) (j:=s2) rfl rfl hs3)<|bk h fun s4 hs4 h=>Ab (BH (i:=s3) (j:=1) rfl rfl hs4)<|bk h fun U0 K0 h=>Ai .plain rfl (Does.mk (α:=UInt64) K0 (AB w) cC rfl) fun Z2 p0 u0 Q2=>Ag rfl<|Aa<|Aj<|Ac<|Ae rfl<|Ab (Bl (xs:=a0) underlying120 rfl (AT h0_0 u0))<|Ae rfl<|Aa<|Ay ?_
 obtain ⟨X2,H1,A1⟩:=ax h
 refine MX.lf (α:=Nat × (List UInt64) × (List Value)) (fun ⟨c0,g0,j0⟩=>[(1,vI a1),(5,(.slice (some ⟨p0,0,none⟩) s4.toNat s4.toNat)),(15,v0_0),(16,vI ((a0.length:Nat):Int)),(17,vI ((c0:Nat):Int))]) (fun ⟨c0,g0,j0⟩=>[rr w 38 UInt64 (.slice (some ⟨p0,0,none⟩) s4.toNat s4.toNat) g0.length j0]) (fun ⟨c0,g0,j0⟩ Q0=>Cells Q0 (bl [rr w 38 UInt64 (.slice (some ⟨p0,0,none⟩) s4.toNat s4.toNat) g0.length j0] ++ L) j0 g0) (fun ⟨c0,g0,j0⟩=>(c0,g0)) (0,U0,(List.replicate s4.toNat [vW 0]).flatten) H1 u0 (AH (cs:=(List.replicate s4.toNat [vW 0]).flatten) (xs:=U0) u0 L (Cells.mk K0 rfl)) ?_
 rintro H2 ⟨c0,g0,j0⟩ Q0 C0 k0 E0 x0 h
 unfold bY_l1 at h
 try dsimp only at h
 refine Ac<|Ab (Bn (i:=c0) (j:=a0.length) rfl rfl)<|Aa<|Aj<|AW rfl h (fun Z0 h=>?_) (fun Z0 h=>?_)
 refine Au<|Aj<|Ay<|Ac<|Ae rfl<|bk h fun t0 b2 h=>?_
 obtain ⟨G2,I2,v1,C1,c1,I1,F1⟩:=Br (AT h0_0 k0) b2
 have x1:c1 = [vU t0]:=I1; subst x1
 refine Ab (Bu 1 c0 rfl v1 rfl rfl C1)<|AU rfl (F1 0 _ rfl)<|Ag rfl<|Ag rfl<|Aa<|Aj<|du 13 fun b0 d0=>Rv 0 b0 rfl d0 (fun _=>Ak rfl)<|Rv 1 b0 rfl d0 (fun _=>Ak rfl)<|Rv 2 b0 rfl d0 (fun _=>Ak rfl)<|bk h fun u2 P1 h=>Rv 3 b0 rfl d0 (fun _=>FV.quoc (i:=a1) (j:=64) rfl rfl P1)<|bk h fun B0 Q1 h=>Rv 4 b0 rfl d0 (fun _=>BH (i:=((c0:Nat):Int)) (j:=u2) rfl rfl Q1)<|bk h fun R0 c2 h=>?_
 obtain ⟨I0,d2⟩:=aJ c2
 obtain ⟨V0,J2,s0,A0,d1,J1,G1⟩:=St.nth (α:=UInt64) k0 .hd x0 d2
 obtain ⟨X0,K2,G0⟩:=BC (α:=UInt64) k0 .hd A0
 obtain rfl:V0 = ⟨X0,0,none⟩:=by rw [G0] at s0; cases s0; rfl
 have y1:d1 = [vU R0]:=J1; subst y1
 refine Rv 5 b0 rfl d0 (fun _=>Bu 1 (B0.toNat) rfl s0 rfl I0 A0)<|Rx 6 14336 b0 rfl d0 (AQ rfl (G1 0 _ rfl))<|Rv 7 b0 rfl d0 (fun _=>Ak rfl)<|Rv 8 b0 rfl d0 (fun _=>Ak rfl)<|bk h fun v2 R1 h=>Rv 9 b0 rfl d0 (fun _=>FV.remc (i:=a1) (j:=64) rfl rfl R1)<|bk h fun t2 D1 h=>Rv 10 b0 rfl d0 (fun _=>FV.shlI (a:=t0) (i:=v2) rfl rfl D1)<|Rv 11 b0 rfl d0 (fun _=>FV.orU (a:=R0) (b:=shlU t0 t2) rfl rfl)<|Rv 12 b0 rfl d0 (fun _=>Bu 1 (B0.toNat) rfl s0 rfl I0 A0)<|bk h fun D2 k2 h=>AM (i:=13) (rk b0) (RO.acts (m' :=16383) (sk b0) rfl rfl .plain (Acts.set (α:=UInt64) (i:=B0.toNat) k2 k0 G0 (fun _=>.hd) x0 rfl rfl rfl rfl rfl rfl) (fun b3 ⟨g1,q0,F0,y0⟩=>?_))
 refine AJ (dk b0)<|Ac<|Ae rfl<|bk h fun x2 U1 h=>Ab (FV.remc (i:=a1) (j:=64) rfl rfl U1)<|Ab (FV.gtr (i:=x2) (j:=0) rfl rfl)<|Aa<|AW rfl h (fun b1 h=>?_) (fun b1 h=>?_)
 refine Am<|Ae rfl<|Ae rfl<|Ae rfl<|bk h fun y2 V1 h=>Ab (FV.quoc (i:=a1) (j:=64) rfl rfl V1)<|bk h fun z2 W1 h=>Ab (BH (i:=((c0:Nat):Int)) (j:=y2) rfl rfl W1)<|bk h fun M0 X1 h=>Ab (BH (i:=z2) (j:=1) rfl rfl X1)<|Ae rfl<|Ae rfl<|bk h fun A2 Y1 h=>Ab (FV.remc (i:=a1) (j:=64) rfl rfl Y1)<|bk h fun B2 Z1 h=>Ab (FV.subc (i:=64) (j:=A2) rfl rfl Z1)<|bk h fun W2 E1 h=>Ab (FV.shrI (a:=t0) (i:=B2) rfl rfl E1)<|bk h fun C2 g2 h=>?_
 obtain ⟨B1,j2⟩:=aJ g2
 obtain ⟨W0,M2,z0,J0,j1,K1,V2⟩:=St.nth (α:=UInt64) q0 .hd y0 j2
 obtain ⟨Y0,P2,H0⟩:=BC (α:=UInt64) q0 .hd J0
 obtain rfl:W0 = ⟨Y0,0,none⟩:=by rw [H0] at z0; cases z0; rfl
 have z1:j1 = [vU C2]:=K1; subst z1
 refine Ab (Bu 1 (M0.toNat) rfl z0 rfl B1 J0)<|bk h fun E2 p2 h=>RG.acts' .plain (Acts.set (α:=UInt64) (i:=M0.toNat) p2 q0 H0 (fun _=>.hd) y0 rfl rfl rfl rfl rfl rfl) fun c3 ⟨k1,p1,q1,u1⟩=>Aa<|AE<|Am<|Ab (Bp (i:=c0) (j:=1) rfl rfl (by omega))<|Ae rfl<|Aa<|C0 (c0 + 1,E2,k1) p1 (Tt E0 (Tt F0 q1)) u1 h
 refine Au<|AE<|Am<|Ab (Bp (i:=c0) (j:=1) rfl rfl (by omega))<|Ae rfl<|Aa<|C0 (c0 + 1,D2,g1) q0 (Tt E0 F0) y0 h
 refine Bf rfl ?_
 have h:=A1 _ h
 try dsimp only at h
 refine Ac<|Ae rfl ?_
 have v0:=BI k0 .hd
 have R2:=BJ k0 .hd
 refine bk h fun F2 q2 h=>jE (bd 115) rfl (e2 rfl rfl) (fun w9 hw9=>ao_c n (v0.hL hL hw9) (Av (BK (α:=UInt64) (v:=(.slice (some ⟨p0,0,none⟩) s4.toNat s4.toNat)) (xs:=g0) v0 L (Bv (α:=UInt64) k0 .hd x0 hL)) hw9) q2) rfl fun d3 Y2 s1 ⟨P0,hu_,M1⟩=>?_
 subst hu_
 obtain ⟨D0,U2⟩:=v0.agr s1
 refine Ab (FV.field1 (cs:=[.bool F2.fe,P0]) (off:=1) (m:=1) rfl rfl rfl rfl)<|Ag rfl<|Aa<|Ao rfl<|Bc hb0 func125 rfl rfl ?_
 cases h
 exact ⟨D0.ag,fun w9 hw9=>⟨P0,rfl,D0.kd M1 hw9⟩⟩
def bh_l1 (_n:Nat) (a0:List UInt64) (a1:List UInt64) (g0:Int -> Option (Int ⊕ Unit)):Int -> Option (Int ⊕ Unit)
  | b0=>(if 0 <= b0 then (idx a0 b0).bind fun c0=>(idx a1 b0).bind fun d0=>(if c0 < d0 then some (.inl (-1:Int)) else (if d0 < c0 then some (.inl (1:Int)) else (chk (b0 - 1)).bind fun j0=>g0 j0)) else some (.inr ()))
def bh_p (n:Nat) (a0:List UInt64) (a1:List UInt64):Option Int:=
  (if a0.length = a1.length then thn (ao (bh_l1 n a0 a1) n (((a0.length:Nat):Int) - 1)) (fun _=>some (0:Int)) else some (((a0.length:Nat):Int) - ((a1.length:Nat):Int)))
theorem bh_c (n:Nat) {L w} (_hL:hl L w) {a0:List UInt64} {v0_0:Value} (h0_0:Rep.R w L [v0_0] a0) {a1:List UInt64} {v1_0:Value} (h1_0:Rep.R w L [v1_0] a1)  {r:Int} (h:bh_p n a0 a1 = some r) :
 Cl 126 #[v0_0,v1_0] w (aj w fun _ u=>u = vI r):=by
 unfold bh_p at h
 have hS0:=AB w
 refine AG func126 rfl rfl rfl fun _ cs0 hb0=>Ac<|Ag rfl<|Aa<|Aj<|Ac<|Ae rfl ?_
 have hl1:a0.length <= 281474976710656:=Bh h0_0
 refine Ab (Bl (xs:=a0) underlying120 rfl h0_0)<|Ae rfl ?_
 have hl2:a1.length <= 281474976710656:=Bh h1_0
 refine Ab (Bl (xs:=a1) underlying120 rfl h1_0)<|Ab (FV.neqN (i:=a0.length) (j:=a1.length) rfl rfl)<|Aa<|MX.ifn rfl h (fun c3 h=>?_) (fun c3 h=>?_)
 refine Au<|Aj<|Ac<|Ae rfl<|Ab (Bl (xs:=a0) underlying120 rfl h0_0)<|Ab (FV.subI (i:=((a0.length:Nat):Int)) (j:=1) rfl rfl (by omega))<|Ag rfl<|Aa<|Ay<|tn h fun j1 M0 p0=>MX.lo (α:=Int) (fun d0=>[(0,v0_0),(1,v1_0),(5,vI d0)]) (fun d0=>[]) (fun d0=>d0) (((a0.length:Nat):Int) - 1) M0 hS0 ?_
 rintro c1 d0 k1 H0 k0 I0 h
 unfold bh_l1 at h
 try dsimp only at h
 refine Aj<|Ac<|Ae rfl<|Ab (FV.geq (i:=d0) (j:=0) rfl rfl)<|Aa<|AW rfl h (fun C0 h=>?_) (fun C0 h=>?_)
 refine Au<|Aj<|Ay<|Ay<|Aj<|du 10 fun b0 g0=>Rv 0 b0 rfl g0 (fun _=>Ak rfl)<|Rv 1 b0 rfl g0 (fun _=>Ak rfl)<|bk h fun q0 U0 h=>?_
 obtain ⟨v0,V0⟩:=aJ U0
 obtain ⟨Z0,d1,t0,y0,F0,P0,A0⟩:=Br (AT h0_0 k0) V0
 have J0:F0 = [vU q0]:=P0; subst J0
 refine Rv 2 b0 rfl g0 (fun _=>Bu 1 (d0.toNat) rfl t0 rfl v0 y0)<|Rx 3 768 b0 rfl g0 (AQ rfl (A0 0 _ rfl))<|Rv 4 b0 rfl g0 (fun _=>Ak rfl)<|Rv 5 b0 rfl g0 (fun _=>Ak rfl)<|bk h fun s0 W0 h=>?_
 obtain ⟨x0,X0⟩:=aJ W0
 obtain ⟨b1,g1,u0,z0,G0,Q0,B0⟩:=Br (AT h1_0 k0) X0
 have K0:G0 = [vU s0]:=Q0; subst K0
 refine Rv 6 b0 rfl g0 (fun _=>Bu 1 (d0.toNat) rfl u0 rfl x0 z0)<|Rx 7 768 b0 rfl g0 (AQ rfl (B0 0 _ rfl))<|Rv 8 b0 rfl g0 (fun _=>FV.lssU (a:=q0) (b:=s0) rfl rfl)<|Rv 9 b0 rfl g0 (fun _=>Ba rfl)<|AJ (dk b0)<|AW rfl h (fun D0 h=>?_) (fun D0 h=>?_)
 refine Ac<|Ag rfl<|Aa ?_
 have h:=ap h p0
 refine Ao rfl<|Bc hb0 func126 rfl rfl ?_
 cases h
 exact k0.gv
 refine Aj<|du 10 fun c0 j0=>Rv 0 c0 rfl j0 (fun _=>Ak rfl)<|Rv 1 c0 rfl j0 (fun _=>Ak rfl)<|Rv 2 c0 rfl j0 (fun _=>Bu 1 (d0.toNat) rfl t0 rfl v0 y0)<|Rx 3 768 c0 rfl j0 (AQ rfl (A0 0 _ rfl))<|Rv 4 c0 rfl j0 (fun _=>Ak rfl)<|Rv 5 c0 rfl j0 (fun _=>Ak rfl)<|Rv 6 c0 rfl j0 (fun _=>Bu 1 (d0.toNat) rfl u0 rfl x0 z0)<|Rx 7 768 c0 rfl j0 (AQ rfl (B0 0 _ rfl))<|Rv 8 c0 rfl j0 (fun _=>FV.gtrU (a:=q0) (b:=s0) rfl rfl)<|Rv 9 c0 rfl j0 (fun _=>Ba rfl)<|AJ (dk c0)<|AW rfl h (fun E0 h=>?_) (fun E0 h=>?_)
 refine Ac<|Ag rfl<|Aa ?_
 have h:=ap h p0
 refine Ao rfl<|Bc hb0 func126 rfl rfl ?_
 cases h
 exact k0.gv
 refine Au<|AE<|AE<|Am<|Ae rfl<|bk h fun Y0 R0 h=>Ab (FV.subc (i:=d0) (j:=1) rfl rfl R0)<|Ag rfl<|Aa<|H0 Y0 k0 I0 h
 refine Bf rfl ?_
 have h:=aH h p0
 try dsimp only at h
 refine Ac<|Ag rfl<|Aa<|Ao rfl<|Bc hb0 func126 rfl rfl ?_
 cases h
 exact k0.gv
 refine Ac<|Ae rfl<|Ab (Bl (xs:=a0) underlying120 rfl h0_0)<|Ae rfl<|Ab (Bl (xs:=a1) underlying120 rfl h1_0)<|Ab (FV.subI (i:=((a0.length:Nat):Int)) (j:=((a1.length:Nat):Int)) rfl rfl (by omega))<|Ag rfl<|Aa<|Ao rfl<|Bc hb0 func126 rfl rfl ?_
 cases h
 exact hS0.gv
def bA_l1 (_n:Nat) (a0:List UInt64) (a1:List UInt64) (j0:UInt64 × Nat × (List UInt64) -> Option (List UInt64)):UInt64 × Nat × (List UInt64) -> Option (List UInt64)
  | (k0,b0,c0)=>(if b0 < a0.length then (a0[b0]?).bind fun q0=>jn (fun p0=>(sub64 q0 p0 k0).bind fun g0=>(c0[b0]?).bind fun _x193=>(put c0 ((b0:Nat):Int) g0.1).bind fun t0=>j0 (g0.2,b0 + 1,t0)) (fun d0=>(if b0 < a1.length then (a1[b0]?).bind fun s0=>d0 s0 else d0 (0:UInt64))) else some c0)
def bA_p (n:Nat) (a0:List UInt64) (a1:List UInt64):Option (List UInt64):=
  (mk ((a0.length:Nat):Int) (0:UInt64)).bind fun b0=>Option.bind (ao (bA_l1 n a0 a1) n (0,0,b0)) (fun c0=>some c0)
theorem bA_c (n:Nat) {L w} (hL:hl L w) {a0:List UInt64} {v0_0:Value} (h0_0:Rep.R w L [v0_0] a0) {a1:List UInt64} {v1_0:Value} (h1_0:Rep.R w L [v1_0] a1)  {r:List UInt64} (h:bA_p n a0 a1 = some r) :
 Cl 127 #[v0_0,v1_0] w (aj w fun w' u=>∃ v0_0:Value,u = v0_0/\Rep.R w' L [v0_0] r):=by
 unfold bA_p at h
 refine AG func127 rfl rfl rfl fun _ cs0 hb0=>Ac<|Ag rfl<|Aa<|Ac<|Ae rfl ?_
 have hl1:a0.length <= 281474976710656:=Bh h0_0
 refine Ab (Bl (xs:=a0) underlying120 rfl h0_0)<|bk h fun H0 E0 h=>Ai .plain rfl (Does.mk (α:=UInt64) E0 (AB w) cC rfl) fun c2 k0 q0 W1=>Ag rfl<|Aa<|Ac<|Ag rfl<|Aa<|Aj<|Ac<|Ae rfl<|Ab (Bl (xs:=a0) underlying120 rfl (AT h0_0 q0))<|Ae rfl<|Aa<|Ay ?_
 obtain ⟨b2,v1,k1⟩:=ax h
 refine MX.lf (α:=UInt64 × Nat × (List UInt64) × (List Value)) (fun ⟨j0,b0,c0,d0⟩=>[(1,v1_0),(5,(.slice (some ⟨k0,0,none⟩) ((a0.length:Nat):Int).toNat ((a0.length:Nat):Int).toNat)),(6,vU j0),(13,v0_0),(14,vI ((a0.length:Nat):Int)),(15,vI ((b0:Nat):Int))]) (fun ⟨j0,b0,c0,d0⟩=>[rr w 38 UInt64 (.slice (some ⟨k0,0,none⟩) ((a0.length:Nat):Int).toNat ((a0.length:Nat):Int).toNat) c0.length d0]) (fun ⟨j0,b0,c0,d0⟩ F0=>Cells F0 (bl [rr w 38 UInt64 (.slice (some ⟨k0,0,none⟩) ((a0.length:Nat):Int).toNat ((a0.length:Nat):Int).toNat) c0.length d0] ++ L) d0 c0) (fun ⟨j0,b0,c0,d0⟩=>(j0,b0,c0)) (0,0,H0,(List.replicate ((a0.length:Nat):Int).toNat [vW 0]).flatten) v1 q0 (AH (cs:=(List.replicate ((a0.length:Nat):Int).toNat [vW 0]).flatten) (xs:=H0) q0 L (Cells.mk E0 rfl)) ?_
 rintro M1 ⟨j0,b0,c0,d0⟩ F0 V0 g0 X0 A0 h
 unfold bA_l1 at h
 try dsimp only at h
 refine Ac<|Ab (Bn (i:=b0) (j:=a0.length) rfl rfl)<|Aa<|Aj<|AW rfl h (fun K0 h=>?_) (fun K0 h=>?_)
 refine Au<|Aj<|Ay<|Ac<|Ae rfl<|bk h fun x0 B1 h=>?_
 obtain ⟨J1,Q1,b1,p1,P0,x1,s1⟩:=Br (AT h0_0 g0) B1
 have c1:P0 = [vU x0]:=x1; subst c1
 refine Ab (Bu 1 b0 rfl b1 rfl rfl p1)<|AU rfl (s1 0 _ rfl)<|Ag rfl<|Ag rfl<|Aa<|Ac<|Ag rfl<|Aa<|Aj<|Ac<|Ae rfl<|Ae rfl ?_
 have v0:=AT h1_0 g0
 have Y1:a1.length <= 281474976710656:=Bh v0
 refine Ab (Bl (xs:=a1) underlying120 rfl v0)<|Ab (Bn (i:=b0) (j:=a1.length) rfl rfl)<|Aa<|MX.jo (α:=UInt64) (fun p0=>[(1,v1_0),(5,(.slice (some ⟨k0,0,none⟩) ((a0.length:Nat):Int).toNat ((a0.length:Nat):Int).toNat)),(6,vU j0),(13,v0_0),(14,vI ((a0.length:Nat):Int)),(15,vI ((b0:Nat):Int)),(7,vI ((b0:Nat):Int)),(8,vU x0),(9,vU p0)]) (fun p0=>[rr w 38 UInt64 (.slice (some ⟨k0,0,none⟩) ((a0.length:Nat):Int).toNat ((a0.length:Nat):Int).toNat) c0.length d0]) (fun p0=>p0) g0 h ?_ ?_
 rintro p0 g2 s0 z0 h
 try dsimp only at h
 refine Am<|Ae rfl<|Ae rfl<|Ae rfl<|Ae rfl<|Ae rfl<|bk h fun I1 F1 h=>Ab (FV.sub64 (a:=x0) (b:=p0) (c:=j0) func144 rfl rfl rfl rfl rfl rfl rfl F1)<|Ae rfl<|Ab (Ah rfl rfl)<|Ab (Ah rfl rfl)<|bk h fun G1 C1 h=>?_
 have D0:=AN A0 z0
 obtain ⟨I0,R1,u0,C0,Q0,y1,Z1⟩:=St.nth (α:=UInt64) s0 .hd D0 C1
 obtain ⟨J0,U1,B0⟩:=BC (α:=UInt64) s0 .hd C0
 obtain rfl:I0 = ⟨J0,0,none⟩:=by rw [B0] at u0; cases u0; rfl
 have d1:Q0 = [vU G1]:=y1; subst d1
 refine Ab (Bu 1 b0 rfl u0 rfl rfl C0)<|bk h fun H1 E1 h=>RG.acts' .plain (Acts.set (α:=UInt64) (i:=b0) E1 s0 B0 (fun _=>.hd) D0 rfl rfl rfl rfl rfl rfl) fun d2 ⟨R0,W0,Y0,Z0⟩=>Ag rfl<|Aa<|AE<|Am<|Ab (Bp (i:=b0) (j:=1) rfl rfl (by omega))<|Ae rfl<|Aa<|V0 (I1.2,b0 + 1,H1,R0) W0 (Tt X0 (Tt z0 Y0)) Z0 h
 intro P1 y0 h
 try dsimp only at h
 refine AW rfl h (fun M0 h=>?_) (fun M0 h=>?_)
 refine Am<|Ae rfl<|Ae rfl<|bk h fun G0 D1 h=>?_
 obtain ⟨K1,V1,g1,q1,U0,z1,u1⟩:=Br v0 D1
 have j1:U0 = [vU G0]:=z1; subst j1
 refine Ab (Bu 1 b0 rfl g1 rfl rfl q1)<|AU rfl (u1 0 _ rfl)<|Ag rfl<|Aa<|y0 G0 g0 (Tr.refl _ _) h
 refine Au<|y0 (0:UInt64) g0 (Tr.refl _ _) h
 refine Bf rfl ?_
 have h:=k1 _ h
 try dsimp only at h
 refine Ac<|Ae rfl<|Ag rfl<|Aa<|Ao rfl ?_
 have t0:=BI g0 .hd
 have X1:=BJ g0 .hd
 have A1:=BK (α:=UInt64) (v:=(.slice (some ⟨k0,0,none⟩) ((a0.length:Nat):Int).toNat ((a0.length:Nat):Int).toNat)) (xs:=c0) t0 L (Bv (α:=UInt64) g0 .hd A0 hL)
 refine Bc hb0 func127 rfl rfl ?_
 cases h
 exact ⟨t0.ag,fun w9 hw9=>⟨(.slice (some ⟨k0,0,none⟩) ((a0.length:Nat):Int).toNat ((a0.length:Nat):Int).toNat),rfl,t0.kd A1 hw9⟩⟩
end Go.Proofs.YtkhpmhhnolpcnaaGreatDoor
