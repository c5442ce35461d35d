/- Functions of the program, and what they give: part 1. -/
import Derived.Test.YtgejkdheojkfiaaGreatDoorProg
import Derived.Test.YtgejkdheojkfiaaGreatDoorQMr
namespace Go.Proofs.YtgejkdheojkfiaaGreatDoor
open Go Go.RowKit
set_option maxRecDepth 4000
set_option maxHeartbeats 4000000
abbrev Cl := Calls Tryz.prog
theorem bd (k:Nat) (h:bodyB Tryz.prog k = true:=by kernel_rfl):bodyB Tryz.prog k = true:=h

structure Tm where
  flow:Int
  fhigh:Int
  deriving DecidableEq
instance:Rep Tm:=Rep.via (β:=Int × Int) fun x=>(x.flow,x.fhigh)
structure Tg where
  fB:Int
  deriving DecidableEq
instance:Rep Tg:=Rep.via (β:=Int) fun x=>x.fB
def cT_p (_n:Nat) (a0:Int):Option (Except Tg Unit):=
  (if a0 = 0 then some (.ok ()) else some (.error (⟨a0⟩:Tg)))
theorem cT_c (n:Nat) {L w} (_hL:hl L w) {a0:Int}  {r:Except Tg Unit} (h:cT_p n a0 = some r) :
 Cl 79 #[vI a0] w (PGives w (fun (_y:Unit) _ u=>u = .tuple #[]) (fun e=>.iface 120 (.agg #[vI e.fB])) r):=by
 unfold cT_p at h
 have hS0:=Az w
 refine MX.startP Tryz.func79 rfl rfl rfl fun _ cs0 hb0 hp0=>Ac<|Ae rfl<|Ab (BP (i:=a0) (j:=0) rfl rfl)<|Aa<|MX.ifn rfl h (fun c1 h=>?_) (fun c1 h=>?_)
 refine Au<|MX.fin rfl<|Am hb0 Tryz.func79 rfl .nil rfl ?_
 cases h
 exact ⟨hS0.ag,fun w9 hw9=>okOf_in rfl⟩
 refine Av<|Ae rfl<|Ab (AU (vs:=[vI a0]) (u:=.agg #[vI a0]) (e1 rfl) (fun w9=>by kernel_rfl))<|Ab (FV.makeInterface (by kernel_rfl) rfl)<|RG.panic .plain rfl ?_
 cases h
 exact Bl hp0 Tryz.func79 ⟨hS0.ag,rfl⟩
def ae_p (n:Nat) (a0:Bool) (a1:Int):Option (Except Tg Unit):=
  (if a0 = true then (cT_p n a1).bind fun y2=>exc y2 (fun _y11=>some (.ok ())) (fun b0=>some (.error b0)) else some (.ok ()))
theorem ae_c (n:Nat) {L w} (hL:hl L w) {a0:Bool} {a1:Int}  {r:Except Tg Unit} (h:ae_p n a0 a1 = some r) :
 Cl 63 #[.bool a0,vI a1] w (PGives w (fun (_y:Unit) _ u=>u = .tuple #[]) (fun e=>.iface 120 (.agg #[vI e.fB])) r):=by
 unfold ae_p at h
 have hS0:=Az w
 refine MX.startP Tryz.func63 rfl rfl rfl fun _ cs0 hb0 hp0=>Ac<|Ae rfl<|Aa<|MX.ifb rfl h (fun c1 h=>?_) (fun c1 h=>?_)
 refine Av<|Ae rfl<|xk h (fun d0 hy2 h=>?_) (fun k0 hy2 h=>?_)
 refine BH (fst:=[]) (cap:=[]) .plain (bd 79) rfl (e1 rfl) (fun w9 hw9=>cT_c n (hS0.hL0 hL hw9)  hy2) fun j0 c0=>?_
 obtain ⟨b0,g0⟩:=hS0.agr c0
 cases h
 exact Bl hp0 Tryz.func63 ⟨b0.ag,rfl⟩
 refine Ba (.tuple #[]) (bd 79) rfl (e1 rfl) (fun w9 hw9=>Bi (cT_c n (hS0.hL0 hL hw9)  hy2)) rfl<|Aa<|MX.fin rfl<|Am hb0 Tryz.func63 rfl .nil rfl ?_
 cases h
 exact ⟨hS0.ag,fun w9 hw9=>okOf_in rfl⟩
 refine Au<|MX.fin rfl<|Am hb0 Tryz.func63 rfl .nil rfl ?_
 cases h
 exact ⟨hS0.ag,fun w9 hw9=>okOf_in rfl⟩
def aG_l1 (_n:Nat) (a0:List Bool) (a1:Bool) (c0:Nat -> Option (Int ⊕ Unit)):Nat -> Option (Int ⊕ Unit)
  | b0=>(if b0 < a0.length then (a0[b0]?).bind fun d0=>(if (a1 == d0) = true then some (.inl ((b0:Nat):Int)) else c0 (b0 + 1)) else some (.inr ()))
def aG_p (n:Nat) (a0:List Bool) (a1:Bool):Option Int:=
  thn (loopF (aG_l1 n a0 a1) n 0) (fun _=>some (-1:Int))
theorem aG_c (n:Nat) {L w} (_hL:hl L w) {a0:List Bool} {v0_0:Value} (h0_0:Rep.R w L [v0_0] a0) {a1:Bool}  {r:Int} (h:aG_p n a0 a1 = some r) :
 Cl 177 #[v0_0,.bool a1] w (Gives w fun _ u=>u = vI r):=by
 unfold aG_p at h
 refine AD Tryz.func177 rfl rfl rfl fun _ cs0 hb0=>Ac<|Af rfl<|Aa<|Aj<|Ac<|Ae rfl ?_
 have hl1:a0.length <= 281474976710656:=AY h0_0
 refine Ab (Be (xs:=a0) Tryz.underlying142 rfl h0_0)<|Ae rfl<|Aa<|AA<|tn h fun E0 y0 d0=>MX.lo (α:=Nat) (fun b0=>[(0,v0_0),(1,.bool a1),(7,vI ((a0.length:Nat):Int)),(8,vI ((b0:Nat):Int))]) (fun b0=>[]) (fun b0=>b0) 0 y0 (Az w) ?_
 rintro C0 b0 F0 q0 c0 s0 h
 unfold aG_l1 at h
 try dsimp only at h
 refine Ac<|Ab (Bu (i:=b0) (j:=a0.length) rfl rfl)<|Aa<|Aj<|AT rfl h (fun j0 h=>?_) (fun j0 h=>?_)
 refine Au<|Aj<|AA<|Ac<|Ae rfl<|Af rfl<|Aa<|Ac<|Ae rfl<|Ae rfl<|Ae rfl<|bk h fun g0 A0 h=>?_
 obtain ⟨B0,D0,t0,v0,p0,z0,x0⟩:=Br (AS h0_0 c0) A0
 have u0:p0 = [.bool g0]:=z0; subst u0
 refine Ab (Bq 1 b0 rfl t0 rfl rfl v0)<|AP rfl (x0 0 _ rfl)<|Ab (FV.eqlB (a:=a1) (b:=g0) Tryz.underlying4 rfl rfl)<|Aa<|MX.ifb rfl h (fun k0 h=>?_) (fun k0 h=>?_)
 refine Ac<|Ae rfl<|Af rfl<|Aa ?_
 have h:=thn_inl h d0
 refine Al rfl<|AW hb0 Tryz.func177 rfl rfl ?_
 cases h
 exact c0.gv
 refine Au<|AC<|Av<|Ab (Bw (i:=b0) (j:=1) rfl rfl (by omega))<|Ae rfl<|Aa<|q0 (b0 + 1) c0 s0 h
 refine Bd rfl ?_
 have h:=thn_inr h d0
 try dsimp only at h
 refine Ac<|Af rfl<|Aa<|Al rfl<|AW hb0 Tryz.func177 rfl rfl ?_
 cases h
 exact c0.gv
def bJ_p (n:Nat) (a0:List Bool) (a1:Bool):Option Bool:=
  (aG_p n a0 a1).bind fun y1=>some (decide (0 <= y1))
theorem bJ_c (n:Nat) {L w} (hL:hl L w) {a0:List Bool} {v0_0:Value} (h0_0:Rep.R w L [v0_0] a0) {a1:Bool}  {r:Bool} (h:bJ_p n a0 a1 = some r) :
 Cl 153 #[v0_0,.bool a1] w (Gives w fun _ u=>u = .bool r):=by
 unfold bJ_p at h
 have hS0:=Az w
 refine AD Tryz.func153 rfl rfl rfl fun _ cs0 hb0=>Ac<|Af rfl<|Aa<|Ac<|Ae rfl<|Ae rfl<|bk h fun y1 hy1 h=>Ba (vI y1) (bd 177) rfl (e2 rfl rfl) (fun w9 hw9=>aG_c n (hS0.hL0 hL hw9) (hS0.kd h0_0 hw9) hy1) rfl<|Ab (FV.geq (i:=y1) (j:=0) rfl rfl)<|Af rfl<|Aa<|Al rfl<|AW hb0 Tryz.func153 rfl rfl ?_
 cases h
 exact hS0.gv
def bG_p (n:Nat) (a0:List Bool):Option Bool:=
  (bJ_p n a0 false).bind fun y1=>some (!y1)
theorem bG_c (n:Nat) {L w} (hL:hl L w) {a0:List Bool} {v0_0:Value} (h0_0:Rep.R w L [v0_0] a0)  {r:Bool} (h:bG_p n a0 = some r) :
 Cl 116 #[v0_0] w (Gives w fun _ u=>u = .bool r):=by
 unfold bG_p at h
 have hS0:=Az w
 refine AD Tryz.func116 rfl rfl rfl fun _ cs0 hb0=>Ac<|Af rfl<|Aa<|Ac<|Ae rfl<|bk h fun y1 hy1 h=>Ba (.bool y1) (bd 153) rfl (e2 rfl rfl) (fun w9 hw9=>bJ_c n (hS0.hL0 hL hw9) (hS0.kd h0_0 hw9) hy1) rfl<|Ab (Bp rfl)<|Af rfl<|Aa<|Al rfl<|AW hb0 Tryz.func116 rfl rfl ?_
 cases h
 exact hS0.gv
def cb_l1 (_n:Nat) (a1:UInt8) (c0:ByteArray -> Option ByteArray):ByteArray -> Option ByteArray
  | b0=>(if 0 < b0.size then (b0.data[0]?).bind fun g0=>(if g0.toNat = a1.toNat then (scut b0 1 (b0.size:Int)).bind fun d0=>c0 d0 else some b0) else some b0)
def cb_p (n:Nat) (a0:ByteArray) (a1:UInt8):Option ByteArray:=
  jn (fun c0=>some c0) (fun b0=>Option.bind (loopF (cb_l1 n a1) n a0) (b0))
theorem cb_c (n:Nat) {L w} (_hL:hl L w) {a0:ByteArray} (a1:UInt8)  {r:ByteArray} (h:cb_p n a0 a1 = some r) :
 Cl 178 #[.string a0,.int .u8 (a1.toNat:Int)] w (Gives w fun _ u=>u = .string r):=by
 unfold cb_p at h
 have hS0:=Az w
 refine AD Tryz.func178 rfl rfl rfl fun _ cs0 hb0=>Ac<|Af rfl<|Aa<|Aj<|AA<|MX.xo (α:=ByteArray) 0 (fun c0=>[(0,.string c0)]) (fun c0=>[]) (fun c0=>c0) hS0 rfl h ?_ ?_
 rintro c0 E0 t0 C0 h
 try dsimp only at h
 refine Ac<|Ae rfl<|Af rfl<|Aa<|Al rfl<|AW hb0 Tryz.func178 rfl rfl ?_
 cases h
 exact t0.gv
 intro A0 j0 h
 try dsimp only at h
 obtain ⟨D0,u0,k0⟩:=bind_in2 h
 refine MX.lo (α:=ByteArray) (fun b0=>[(0,.string b0),(1,.int .u8 (a1.toNat:Int))]) (fun b0=>[]) (fun b0=>b0) a0 u0 hS0 ?_
 rintro B0 b0 F0 s0 d0 g0 h
 unfold cb_l1 at h
 try dsimp only at h
 refine Aj<|Ac<|Ae rfl<|Ab (BI Tryz.underlying9 rfl)<|Ab (FV.gtrN (i:=b0.size) (j:=0) rfl rfl)<|Ae rfl<|BD (s:=8) rfl h (fun p0 h=>?_) (fun p0 h=>?_)
 refine AE (Ai rfl)<|bk h fun z0 x0 h=>AE (FV.strAt (k:=0) Tryz.underlying9 rfl rfl rfl x0)<|AE (Ai rfl)<|AE (BT (i:=z0.toNat) (j:=a1.toNat) rfl rfl)<|Bh rfl rfl<|Aa<|AT rfl h (fun q0 h=>?_) (fun q0 h=>?_)
 refine Au<|AA<|Av<|Ae rfl<|bk h fun y0 v0 h=>Ab (FV.strCut v0 Tryz.underlying9 rfl ⟨_,rfl⟩ rfl)<|Af rfl<|Aa<|AC<|s0 y0 d0 g0 h
 refine Bd rfl ?_
 have h:=k0 _ h
 try dsimp only at h
 exact j0 b0 d0 g0 h
 refine Ap<|Ap<|Ap<|Ap<|Bv rfl rfl<|Aa<|BF rfl<|Bd rfl ?_
 have h:=k0 _ h
 try dsimp only at h
 exact j0 b0 d0 g0 h
def bR_l1 (_n:Nat) (a1:UInt8) (c0:ByteArray -> Option ByteArray):ByteArray -> Option ByteArray
  | b0=>(if 0 < b0.size then (chk (((b0.size:Nat):Int) - 1)).bind fun d0=>(sidx b0 d0).bind fun k0=>(if k0.toNat = a1.toNat then (chk (((b0.size:Nat):Int) - 1)).bind fun g0=>(scut b0 0 g0).bind fun j0=>c0 j0 else some b0) else some b0)
def bR_p (n:Nat) (a0:ByteArray) (a1:UInt8):Option ByteArray:=
  jn (fun c0=>some c0) (fun b0=>Option.bind (loopF (bR_l1 n a1) n a0) (b0))
theorem bR_c (n:Nat) {L w} (_hL:hl L w) {a0:ByteArray} (a1:UInt8)  {r:ByteArray} (h:bR_p n a0 a1 = some r) :
 Cl 179 #[.string a0,.int .u8 (a1.toNat:Int)] w (Gives w fun _ u=>u = .string r):=by
 unfold bR_p at h
 have hS0:=Az w
 refine AD Tryz.func179 rfl rfl rfl fun _ cs0 hb0=>Ac<|Af rfl<|Aa<|Aj<|AA<|MX.xo (α:=ByteArray) 0 (fun c0=>[(0,.string c0)]) (fun c0=>[]) (fun c0=>c0) hS0 rfl h ?_ ?_
 rintro c0 K0 t0 H0 h
 try dsimp only at h
 refine Ac<|Ae rfl<|Af rfl<|Aa<|Al rfl<|AW hb0 Tryz.func179 rfl rfl ?_
 cases h
 exact t0.gv
 intro F0 j0 h
 try dsimp only at h
 obtain ⟨I0,v0,k0⟩:=bind_in2 h
 refine MX.lo (α:=ByteArray) (fun b0=>[(0,.string b0),(1,.int .u8 (a1.toNat:Int))]) (fun b0=>[]) (fun b0=>b0) a0 v0 hS0 ?_
 rintro G0 b0 M0 s0 d0 g0 h
 unfold bR_l1 at h
 try dsimp only at h
 refine Aj<|Ac<|Ae rfl<|Ab (BI Tryz.underlying9 rfl)<|Ab (FV.gtrN (i:=b0.size) (j:=0) rfl rfl)<|Ae rfl<|BD (s:=8) rfl h (fun p0 h=>?_) (fun p0 h=>?_)
 refine AE (Ai rfl)<|AE (Ai rfl)<|AE (BI Tryz.underlying9 rfl)<|bk h fun C0 x0 h=>AE (FV.subc (i:=((b0.size:Nat):Int)) (j:=1) rfl rfl x0)<|bk h fun E0 B0 h=>?_
 obtain ⟨u0,A0⟩:=sidx_in B0
 refine AE (FV.strAt (k:=C0.toNat) Tryz.underlying9 rfl rfl u0 A0)<|AE (Ai rfl)<|AE (BT (i:=E0.toNat) (j:=a1.toNat) rfl rfl)<|Bh rfl rfl<|Aa<|AT rfl h (fun q0 h=>?_) (fun q0 h=>?_)
 refine Au<|AA<|Av<|Ae rfl<|Ae rfl<|Ab (BI Tryz.underlying9 rfl)<|bk h fun J0 y0 h=>Ab (FV.subc (i:=((b0.size:Nat):Int)) (j:=1) rfl rfl y0)<|bk h fun D0 z0 h=>Ab (FV.strCut z0 Tryz.underlying9 rfl rfl ⟨_,rfl⟩)<|Af rfl<|Aa<|AC<|s0 D0 d0 g0 h
 refine Bd rfl ?_
 have h:=k0 _ h
 try dsimp only at h
 exact j0 b0 d0 g0 h
 refine Ap<|Ap<|Ap<|Ap<|Ap<|Ap<|Ap<|Bv rfl rfl<|Aa<|BF rfl<|Bd rfl ?_
 have h:=k0 _ h
 try dsimp only at h
 exact j0 b0 d0 g0 h
def aP_l1 (_n:Nat) (g0:List Bool) (c0:ByteArray -> Option ByteArray):ByteArray -> Option ByteArray
  | b0=>(if 0 < b0.size then (b0.data[0]?).bind fun j0=>(g0[j0.toNat]?).bind fun k0=>(if k0 = true then (scut b0 1 (b0.size:Int)).bind fun d0=>c0 d0 else some b0) else some b0)
def aP_l2 (_n:Nat) (k0:List Bool) (c0:ByteArray -> Option ByteArray):ByteArray -> Option ByteArray
  | b0=>(if 0 < b0.size then (chk (((b0.size:Nat):Int) - 1)).bind fun d0=>(sidx b0 d0).bind fun p0=>(k0[p0.toNat]?).bind fun q0=>(if q0 = true then (chk (((b0.size:Nat):Int) - 1)).bind fun g0=>(scut b0 0 g0).bind fun j0=>c0 j0 else some b0) else some b0)
def aP_l3 (_n:Nat) (a1:ByteArray) (g0:Nat × (List Bool) -> Option (ByteArray ⊕ (List Bool))):Nat × (List Bool) -> Option (ByteArray ⊕ (List Bool))
  | (b0,c0)=>(if b0 < a1.size then (a1.data[b0]?).bind fun d0=>(if 128 <= d0.toNat then (none).map .inl else (c0[d0.toNat]?).bind fun _z82=>g0 (b0 + 1,(c0.set d0.toNat true))) else some (.inr c0))
def aP_l4 (_n:Nat) (g0:List Bool) (c0:ByteArray -> Option ByteArray):ByteArray -> Option ByteArray
  | b0=>(if 0 < b0.size then (b0.data[0]?).bind fun j0=>(g0[j0.toNat]?).bind fun k0=>(if k0 = true then (scut b0 1 (b0.size:Int)).bind fun d0=>c0 d0 else some b0) else some b0)
def aP_l5 (_n:Nat) (k0:List Bool) (c0:ByteArray -> Option ByteArray):ByteArray -> Option ByteArray
  | b0=>(if 0 < b0.size then (chk (((b0.size:Nat):Int) - 1)).bind fun d0=>(sidx b0 d0).bind fun p0=>(k0[p0.toNat]?).bind fun q0=>(if q0 = true then (chk (((b0.size:Nat):Int) - 1)).bind fun g0=>(scut b0 0 g0).bind fun j0=>c0 j0 else some b0) else some b0)
def aP_l6 (_n:Nat) (a1:ByteArray) (g0:Int × (List Bool) -> Option (ByteArray ⊕ (List Bool))):Int × (List Bool) -> Option (ByteArray ⊕ (List Bool))
  | (c0,b0)=>(if c0 < ((a1.size:Nat):Int) then (sidx a1 c0).bind fun d0=>(if 128 <= d0.toNat then (none).map .inl else (b0[d0.toNat]?).bind fun _z372=>(chk (c0 + 1)).bind fun j0=>g0 (j0,(b0.set d0.toNat true))) else some (.inr b0))
def aP_p (n:Nat) (a0:ByteArray) (a1:ByteArray):Option ByteArray:=
  (if a0 = ⟨#[]⟩ then some a0 else (if a1 = ⟨#[]⟩ then some a0 else (if a1.size = 1 then (a1.data[0]?).bind fun z4=>(if z4.toNat < 128 then (a1.data[0]?).bind fun z8=>(bR_p n a0 z8).bind fun y9=>(a1.data[0]?).bind fun v0=>(cb_p n y9 v0).bind fun u0=>some u0 else thn (loopF (aP_l3 n a1) n (0,(List.replicate 256 false))) (fun c0=>jn (fun p0=>jn (fun q0=>some q0) (fun g0=>Option.bind (loopF (aP_l1 n c0) n p0) (g0))) (fun d0=>Option.bind (loopF (aP_l2 n c0) n a0) (d0)))) else thn (loopF (aP_l6 n a1) n (0,(List.replicate 256 false))) (fun b0=>jn (fun s0=>jn (fun t0=>some t0) (fun k0=>Option.bind (loopF (aP_l4 n b0) n s0) (k0))) (fun j0=>Option.bind (loopF (aP_l5 n b0) n a0) (j0))))))
theorem aP_c (n:Nat) {L w} (hL:hl L w) {a0:ByteArray} {a1:ByteArray}  {r:ByteArray} (h:aP_p n a0 a1 = some r) :
 Cl 154 #[.string a0,.string a1] w (Gives w fun _ u=>u = .string r):=by
 unfold aP_p at h
 have hS0:=Az w
 refine AD Tryz.func154 rfl rfl rfl fun _ cs0 hb0=>Ac<|Af rfl<|Aa<|Aj<|Ac<|Ae rfl<|Ab (FV.eqlS rfl rfl)<|Ae rfl<|BD (s:=9) rfl h (fun c1 h=>?_) (fun c1 h=>?_)
 refine Ap<|Ap<|Bh rfl rfl<|Aa<|Bk rfl<|Ac<|Ae rfl<|Af rfl<|Aa<|Al rfl<|AW hb0 Tryz.func154 rfl rfl ?_
 cases h
 exact hS0.gv
 refine AE (Ai rfl)<|AE (FV.eqlS rfl rfl)<|Bv rfl rfl<|Aa<|AT rfl h (fun c2 h=>?_) (fun c2 h=>?_)
 refine Ac<|Ae rfl<|Af rfl<|Aa<|Al rfl<|AW hb0 Tryz.func154 rfl rfl ?_
 cases h
 exact hS0.gv
 refine Au<|Aj<|Ac<|Ae rfl<|Ab (BI Tryz.underlying9 rfl)<|Ab (BT (i:=a1.size) (j:=1) rfl rfl)<|Ae rfl<|BD (s:=17) rfl h (fun c3 h=>?_) (fun c3 h=>?_)
 refine AE (Ai rfl)<|bk h fun z4 hz4 h=>AE (FV.strAt (k:=0) Tryz.underlying9 rfl rfl rfl hz4)<|AE (Bu (i:=z4.toNat) (j:=128) rfl rfl)<|Bh rfl rfl<|Aa<|AT rfl h (fun c5 h=>?_) (fun c5 h=>?_)
 refine Aj<|du 8 fun kt6 kp7=>Rv 0 kt6 rfl kp7 (fun _=>Ai rfl)<|Rv 1 kt6 rfl kp7 (fun _=>Ai rfl)<|bk h fun z8 hz8 h=>Rv 2 kt6 rfl kp7 (fun _=>FV.strAt (k:=0) Tryz.underlying9 rfl rfl rfl hz8)<|bk h fun y9 hy9 h=>BO 3 15 192 (.string y9) kt6 rfl kp7 (bd 179) rfl (e2 rfl rfl) (fun w9 hw9=>bR_c n (hS0.hL0 hL hw9) z8 hy9) rfl<|Rv 4 kt6 rfl kp7 (fun _=>Ai rfl)<|bk h fun v4 U3 h=>Rv 5 kt6 rfl kp7 (fun _=>FV.strAt (k:=0) Tryz.underlying9 rfl rfl rfl U3)<|bk h fun u4 R3 h=>BO 6 127 128 (.string u4) kt6 rfl kp7 (bd 178) rfl (e2 rfl rfl) (fun w9 hw9=>cb_c n (hS0.hL0 hL hw9) v4 R3) rfl<|Rv 7 kt6 rfl kp7 (fun _=>AV rfl)<|AN (dk kt6)<|Al rfl<|AW hb0 Tryz.func154 rfl rfl ?_
 cases h
 exact hS0.gv
 refine Au<|Aj<|Ac<|Ae rfl<|BL (fst:=[]) (cap:=[]) (vs:=[.string a1]) .plain (bd 180) Tryz.func180 rfl rfl rfl rfl (e1 rfl) rfl fun U4 B1 P5=>Ac ?_
 have g3:(List.replicate 256 false).length = 256:=List.length_replicate
 refine RG.nl ((List.replicate 256 false).map (fun z9:Bool=>(.bool z9:Value))) hS0 fun s6 J0 v2 q5=>Af rfl<|Aa<|Aj<|Ac<|Af rfl<|Aa<|AA<|tn h fun k6 B3 I1=>MX.lf (α:=Nat × (List Bool)) (fun ⟨p0,c0⟩=>[(0,.string a1),(2,vP J0),(4,vI ((p0:Nat):Int))]) (fun ⟨p0,c0⟩=>[.cells J0 (c0.map (fun z9:Bool=>(.bool z9:Value))) 214]) (fun ⟨p0,c0⟩ t4=>c0.length = 256) (fun ⟨p0,c0⟩=>(p0,c0)) (0,(List.replicate 256 false)) B3 v2 g3 ?_
 rintro M4 ⟨p0,c0⟩ t4 u2 A0 K2 g0 h
 unfold aP_l3 at h
 try dsimp only at h
 refine Aj<|Ac<|Ae rfl<|Ae rfl<|Ab (BI Tryz.underlying9 rfl)<|Ab (Bu (i:=p0) (j:=a1.size) rfl rfl)<|Aa<|AT rfl h (fun g2 h=>?_) (fun g2 h=>?_)
 refine Au<|Aj<|AA<|Ac<|Ae rfl<|Ae rfl<|bk h fun E0 b4 h=>Ab (FV.strAt (k:=p0) Tryz.underlying9 rfl rfl rfl b4)<|Af rfl<|Aa<|Aj<|Ac<|Ae rfl<|Ab (FV.geqN (i:=E0.toNat) (j:=128) rfl rfl)<|Aa<|AT rfl h (fun j2 h=>?_) (fun j2 h=>?_)
 refine Ac<|Ab (Bc (cs:=c0.map (fun z9:Bool=>(.bool z9:Value))) (by rw [List.length_map,g0]; kernel_rfl) rfl (A0.memA .hd))<|RG.now .plain (Acts.storeBig (fun z9:Bool=>(.bool z9:Value)) (m:=256) g0 g0 A0 .hd rfl rfl (by kernel_rfl) (fun _=>rfl)) fun C6 v1 D5=>Af rfl<|Aa ?_
 have h:=thn_map h I1
 refine Al rfl<|Am (u:=.tuple #[.agg (c0.map (fun z9:Bool=>(.bool z9:Value))).toArray,.bool false]) B1 Tryz.func180 rfl (.cons (.many (cs:=c0.map (fun z9:Bool=>(.bool z9:Value))) (by rw [List.length_map,g0]; kernel_rfl) rfl (v1.memA .hd)) (.cons (.tmp rfl) .nil)) rfl<|Ae rfl<|Ab (Ag rfl rfl)<|Ab (Ag rfl rfl) ?_
 have s3:(List.replicate 256 false).length = 256:=List.length_replicate
 refine RG.nl ((List.replicate 256 false).map (fun z9:Bool=>(.bool z9:Value))) v1 fun D6 Q4 F2 E5=>RG.now .plain (Acts.storeBig (fun z9:Bool=>(.bool z9:Value)) (m:=256) s3 g0 F2 .hd rfl rfl (by kernel_rfl) (fun _=>rfl)) fun E6 k5 F5=>Af rfl<|Aa<|Ac<|Ae rfl<|Aa<|BF rfl<|Au<|Ac<|Ae rfl<|Ae rfl ?_
 cases h
 refine Au<|Av<|Ae rfl<|bk h fun X6 V0 h=>?_
 have K5:=mem_elem1 (p:=⟨J0,0,none⟩) (cs:=c0.map (fun z9:Bool=>(.bool z9:Value))) (i:=E0.toNat) (A0.memA .hd) (arr_get0 (fun z9:Bool=>(.bool z9:Value)) V0)
 refine Ab (Bg (m:=1) (k:=E0.toNat) (len:=256) (by kernel_rfl) rfl rfl rfl (arr_lt V0 g0)) ?_
 have t3:(c0.set E0.toNat true).length = 256:=by rw [List.length_set]; exact g0
 refine RG.now .plain (Acts.setBig (fun z9:Bool=>(.bool z9:Value)) (i:=E0.toNat) (x:=true) (m:=256) g0 (arr_lt V0 g0) A0 .hd rfl (addr_at _ _ _) rfl (by kernel_rfl) (fun _=>⟨rfl,rfl⟩)) fun F6 G2 M2=>Aa<|AC<|Av<|Ae rfl<|Ab (Bw (i:=p0) (j:=1) rfl rfl (by omega))<|Af rfl<|Aa<|u2 (p0 + 1,(c0.set E0.toNat true)) G2 (Tt K2 M2) t3 h
 refine Bd rfl ?_
 have h:=thn_inr h I1
 try dsimp only at h
 refine Ac<|Ab (Bc (cs:=c0.map (fun z9:Bool=>(.bool z9:Value))) (by rw [List.length_map,g0]; kernel_rfl) rfl (A0.memA .hd))<|RG.now .plain (Acts.storeBig (fun z9:Bool=>(.bool z9:Value)) (m:=256) g0 g0 A0 .hd rfl rfl (by kernel_rfl) (fun _=>rfl)) fun G6 x1 G5=>Af rfl<|Aa<|Al rfl<|Am (u:=.tuple #[.agg (c0.map (fun z9:Bool=>(.bool z9:Value))).toArray,.bool true]) B1 Tryz.func180 rfl (.cons (.many (cs:=c0.map (fun z9:Bool=>(.bool z9:Value))) (by rw [List.length_map,g0]; kernel_rfl) rfl (x1.memA .hd)) (.cons (.tmp rfl) .nil)) rfl<|Ae rfl<|Ab (Ag rfl rfl)<|Ab (Ag rfl rfl) ?_
 have u3:(List.replicate 256 false).length = 256:=List.length_replicate
 refine RG.nl ((List.replicate 256 false).map (fun z9:Bool=>(.bool z9:Value))) x1 fun H6 k0 H2 H5=>RG.now .plain (Acts.storeBig (fun z9:Bool=>(.bool z9:Value)) (m:=256) u3 g0 H2 .hd rfl rfl (by kernel_rfl) (fun _=>rfl)) fun I6 y1 I5=>Af rfl<|Aa<|Ac<|Ae rfl<|Aa<|Bk rfl<|Ac<|Ae rfl<|BL (fst:=[]) (cap:=[]) (vs:=[.string a0,vP k0]) .plain (bd 182) Tryz.func182 rfl rfl rfl rfl (e2 rfl rfl) rfl fun R4 P2 M5=>Ac<|Af rfl<|Aa<|Aj<|AA<|MX.xo (α:=ByteArray) 0 (fun u0=>[(0,.string u0)]) (fun u0=>[.cells k0 (c0.map (fun z9:Bool=>(.bool z9:Value))) 214]) (fun u0=>u0) y1 rfl h ?_ ?_
 rintro u0 J6 k1 p5 h
 try dsimp only at h
 refine Ac<|Ae rfl<|Af rfl<|Aa<|Al rfl<|Am (u:=.string u0) P2 Tryz.func182 rfl (.cons (.tmp rfl) .nil) rfl<|BL (fst:=[]) (cap:=[]) (vs:=[.string u0,vP k0]) .plain (bd 181) Tryz.func181 rfl rfl rfl rfl (e2 rfl rfl) rfl fun V4 Q2 Q5=>Ac<|Af rfl<|Aa<|Aj<|AA<|MX.xo (α:=ByteArray) 0 (fun B0=>[(0,.string B0)]) (fun B0=>[.cells k0 (c0.map (fun z9:Bool=>(.bool z9:Value))) 214]) (fun B0=>B0) k1 rfl h ?_ ?_
 rintro B0 K6 x2 s5 h
 try dsimp only at h
 refine Ac<|Ae rfl<|Af rfl<|Aa<|Al rfl<|Am (u:=.string B0) Q2 Tryz.func181 rfl (.cons (.tmp rfl) .nil) rfl<|Af rfl<|Aa<|Al rfl<|AW hb0 Tryz.func154 rfl rfl ?_
 cases h
 exact x2.gv
 intro D4 d1 h
 try dsimp only at h
 obtain ⟨b6,v3,D1⟩:=bind_in2 h
 refine MX.lo (α:=ByteArray) (fun v0=>[(0,.string v0),(1,vP k0)]) (fun v0=>[.cells k0 (c0.map (fun z9:Bool=>(.bool z9:Value))) 214]) (fun v0=>v0) u0 v3 k1 ?_
 rintro E4 v0 M6 k2 F0 M0 h
 unfold aP_l1 at h
 try dsimp only at h
 refine Aj<|Ac<|Ae rfl<|Ab (BI Tryz.underlying9 rfl)<|Ab (FV.gtrN (i:=v0.size) (j:=0) rfl rfl)<|Aa<|AT rfl h (fun Q1 h=>?_) (fun Q1 h=>?_)
 refine Au<|AA<|Aj<|Ac<|Ae rfl<|Ae rfl<|bk h fun W0 V3 h=>Ab (FV.strAt (k:=0) Tryz.underlying9 rfl rfl rfl V3)<|BL (fst:=[]) (cap:=[]) (vs:=[vP k0,.int .u8 (W0.toNat:Int)]) .plain (bd 197) Tryz.func197 rfl rfl rfl rfl (e2 rfl rfl) rfl fun W4 R2 R5=>Ac<|Af rfl<|Aa<|Ac<|Ae rfl<|Ae rfl<|Ab (FV.nilCheck rfl)<|bk h fun x4 J1 h=>Ab (Bg (m:=1) (k:=W0.toNat) (len:=256) (by kernel_rfl) rfl rfl rfl (arr_lt J1 g0))<|AP rfl ((mem_elem1 (p:=⟨k0,0,none⟩) (cs:=c0.map (fun z9:Bool=>(.bool z9:Value))) (i:=W0.toNat) (F0.memA .hd) (arr_get0 (fun z9:Bool=>(.bool z9:Value)) J1)) 0 _ rfl)<|Af rfl<|Aa<|Al rfl<|Am (u:=.bool x4) R2 Tryz.func197 rfl (.cons (.tmp rfl) .nil) rfl<|Ab (Bp rfl)<|Aa<|BU rfl h (fun R1 h=>?_) (fun R1 h=>?_)
 refine Au<|Av<|Ae rfl<|bk h fun c4 C3 h=>Ab (FV.strCut C3 Tryz.underlying9 rfl ⟨_,rfl⟩ rfl)<|Af rfl<|Aa<|AC<|k2 c4 F0 M0 h
 refine Bd rfl ?_
 have h:=D1 _ h
 try dsimp only at h
 exact d1 v0 F0 M0 h
 refine Bd rfl ?_
 have h:=D1 _ h
 try dsimp only at h
 exact d1 v0 F0 M0 h
 intro C4 b1 h
 try dsimp only at h
 obtain ⟨y2,z1⟩:=AG y1 (.a0 .done)
 obtain ⟨c6,x3,E1⟩:=bind_in2 h
 refine MX.lo (α:=ByteArray) (fun q0=>[(0,.string q0),(1,vP k0)]) (fun q0=>[.cells k0 (c0.map (fun z9:Bool=>(.bool z9:Value))) 214]) (fun q0=>q0) a0 x3 y2 ?_
 rintro F4 q0 P6 p2 G0 P0 h
 unfold aP_l2 at h
 try dsimp only at h
 refine Aj<|Ac<|Ae rfl<|Ab (BI Tryz.underlying9 rfl)<|Ab (FV.gtrN (i:=q0.size) (j:=0) rfl rfl)<|Aa<|AT rfl h (fun U1 h=>?_) (fun U1 h=>?_)
 refine Au<|AA<|Aj<|Ac<|Ae rfl<|Ae rfl<|Ae rfl<|Ab (BI Tryz.underlying9 rfl)<|bk h fun d4 D3 h=>Ab (FV.subc (i:=((q0.size:Nat):Int)) (j:=1) rfl rfl D3)<|bk h fun X0 W3 h=>?_
 obtain ⟨Z2,M3⟩:=sidx_in W3
 refine Ab (FV.strAt (k:=d4.toNat) Tryz.underlying9 rfl rfl Z2 M3)<|BL (fst:=[]) (cap:=[]) (vs:=[vP k0,.int .u8 (X0.toNat:Int)]) .plain (bd 197) Tryz.func197 rfl rfl rfl rfl (e2 rfl rfl) rfl fun X4 U2 U5=>Ac<|Af rfl<|Aa<|Ac<|Ae rfl<|Ae rfl<|Ab (FV.nilCheck rfl)<|bk h fun y4 K1 h=>Ab (Bg (m:=1) (k:=X0.toNat) (len:=256) (by kernel_rfl) rfl rfl rfl (arr_lt K1 g0))<|AP rfl ((mem_elem1 (p:=⟨k0,0,none⟩) (cs:=c0.map (fun z9:Bool=>(.bool z9:Value))) (i:=X0.toNat) (G0.memA .hd) (arr_get0 (fun z9:Bool=>(.bool z9:Value)) K1)) 0 _ rfl)<|Af rfl<|Aa<|Al rfl<|Am (u:=.bool y4) U2 Tryz.func197 rfl (.cons (.tmp rfl) .nil) rfl<|Ab (Bp rfl)<|Aa<|BU rfl h (fun V1 h=>?_) (fun V1 h=>?_)
 refine Au<|Av<|Ae rfl<|Ae rfl<|Ab (BI Tryz.underlying9 rfl)<|bk h fun p6 E3 h=>Ab (FV.subc (i:=((q0.size:Nat):Int)) (j:=1) rfl rfl E3)<|bk h fun g4 F3 h=>Ab (FV.strCut F3 Tryz.underlying9 rfl rfl ⟨_,rfl⟩)<|Af rfl<|Aa<|AC<|p2 g4 G0 P0 h
 refine Bd rfl ?_
 have h:=E1 _ h
 try dsimp only at h
 exact b1 q0 G0 (Tt z1 P0) h
 refine Bd rfl ?_
 have h:=E1 _ h
 try dsimp only at h
 exact b1 q0 G0 (Tt z1 P0) h
 refine Ap<|Ap<|Ap<|Bv rfl rfl<|Aa<|BF rfl<|Au<|Aj<|Ac<|Ae rfl<|BL (fst:=[]) (cap:=[]) (vs:=[.string a1]) .plain (bd 180) Tryz.func180 rfl rfl rfl rfl (e1 rfl) rfl fun Y4 C1 V5=>Ac ?_
 have j3:(List.replicate 256 false).length = 256:=List.length_replicate
 refine RG.nl ((List.replicate 256 false).map (fun z9:Bool=>(.bool z9:Value))) hS0 fun t6 K0 z2 t5=>Af rfl<|Aa<|Aj<|Ac<|Af rfl<|Aa<|AA<|tn h fun d6 y3 F1=>MX.lf (α:=Int × (List Bool)) (fun ⟨t0,b0⟩=>[(0,.string a1),(2,vP K0),(4,vI t0)]) (fun ⟨t0,b0⟩=>[.cells K0 (b0.map (fun z9:Bool=>(.bool z9:Value))) 214]) (fun ⟨t0,b0⟩ s4=>b0.length = 256) (fun ⟨t0,b0⟩=>(t0,b0)) (0,(List.replicate 256 false)) y3 z2 j3 ?_
 rintro G4 ⟨t0,b0⟩ s4 q2 z0 I2 d0 h
 unfold aP_l6 at h
 try dsimp only at h
 refine Aj<|Ac<|Ae rfl<|Ae rfl<|Ab (BI Tryz.underlying9 rfl)<|Ab (BS (i:=t0) (j:=((a1.size:Nat):Int)) rfl rfl)<|Aa<|AT rfl h (fun W1 h=>?_) (fun W1 h=>?_)
 refine Au<|Aj<|AA<|Ac<|Ae rfl<|Ae rfl<|bk h fun D0 X3 h=>?_
 obtain ⟨b3,P3⟩:=sidx_in X3
 refine Ab (FV.strAt (k:=t0.toNat) Tryz.underlying9 rfl rfl b3 P3)<|Af rfl<|Aa<|Aj<|Ac<|Ae rfl<|Ab (FV.geqN (i:=D0.toNat) (j:=128) rfl rfl)<|Aa<|AT rfl h (fun X1 h=>?_) (fun X1 h=>?_)
 refine Ac<|Ab (Bc (cs:=b0.map (fun z9:Bool=>(.bool z9:Value))) (by rw [List.length_map,d0]; kernel_rfl) rfl (z0.memA .hd))<|RG.now .plain (Acts.storeBig (fun z9:Bool=>(.bool z9:Value)) (m:=256) d0 d0 z0 .hd rfl rfl (by kernel_rfl) (fun _=>rfl)) fun u6 p1 u5=>Af rfl<|Aa ?_
 have h:=thn_map h F1
 refine Al rfl<|Am (u:=.tuple #[.agg (b0.map (fun z9:Bool=>(.bool z9:Value))).toArray,.bool false]) C1 Tryz.func180 rfl (.cons (.many (cs:=b0.map (fun z9:Bool=>(.bool z9:Value))) (by rw [List.length_map,d0]; kernel_rfl) rfl (p1.memA .hd)) (.cons (.tmp rfl) .nil)) rfl<|Ae rfl<|Ab (Ag rfl rfl)<|Ab (Ag rfl rfl) ?_
 have k3:(List.replicate 256 false).length = 256:=List.length_replicate
 refine RG.nl ((List.replicate 256 false).map (fun z9:Bool=>(.bool z9:Value))) p1 fun v6 P4 A2 v5=>RG.now .plain (Acts.storeBig (fun z9:Bool=>(.bool z9:Value)) (m:=256) k3 d0 A2 .hd rfl rfl (by kernel_rfl) (fun _=>rfl)) fun x6 j5 x5=>Af rfl<|Aa<|Ac<|Ae rfl<|Aa<|BF rfl<|Au<|Ac<|Ae rfl<|Ae rfl ?_
 cases h
 refine Au<|Av<|Ae rfl<|bk h fun W6 U0 h=>?_
 have J5:=mem_elem1 (p:=⟨K0,0,none⟩) (cs:=b0.map (fun z9:Bool=>(.bool z9:Value))) (i:=D0.toNat) (z0.memA .hd) (arr_get0 (fun z9:Bool=>(.bool z9:Value)) U0)
 refine Ab (Bg (m:=1) (k:=D0.toNat) (len:=256) (by kernel_rfl) rfl rfl rfl (arr_lt U0 d0)) ?_
 have p3:(b0.set D0.toNat true).length = 256:=by rw [List.length_set]; exact d0
 refine RG.now .plain (Acts.setBig (fun z9:Bool=>(.bool z9:Value)) (i:=D0.toNat) (x:=true) (m:=256) d0 (arr_lt U0 d0) z0 .hd rfl (addr_at _ _ _) rfl (by kernel_rfl) (fun _=>⟨rfl,rfl⟩)) fun y6 B2 J2=>Aa<|AC<|Av<|Ae rfl<|bk h fun j4 G3 h=>Ab (BJ (i:=t0) (j:=1) rfl rfl G3)<|Af rfl<|Aa<|q2 (j4,(b0.set D0.toNat true)) B2 (Tt I2 J2) p3 h
 refine Bd rfl ?_
 have h:=thn_inr h F1
 try dsimp only at h
 refine Ac<|Ab (Bc (cs:=b0.map (fun z9:Bool=>(.bool z9:Value))) (by rw [List.length_map,d0]; kernel_rfl) rfl (z0.memA .hd))<|RG.now .plain (Acts.storeBig (fun z9:Bool=>(.bool z9:Value)) (m:=256) d0 d0 z0 .hd rfl rfl (by kernel_rfl) (fun _=>rfl)) fun z6 q1 y5=>Af rfl<|Aa<|Al rfl<|Am (u:=.tuple #[.agg (b0.map (fun z9:Bool=>(.bool z9:Value))).toArray,.bool true]) C1 Tryz.func180 rfl (.cons (.many (cs:=b0.map (fun z9:Bool=>(.bool z9:Value))) (by rw [List.length_map,d0]; kernel_rfl) rfl (q1.memA .hd)) (.cons (.tmp rfl) .nil)) rfl<|Ae rfl<|Ab (Ag rfl rfl)<|Ab (Ag rfl rfl) ?_
 have q3:(List.replicate 256 false).length = 256:=List.length_replicate
 refine RG.nl ((List.replicate 256 false).map (fun z9:Bool=>(.bool z9:Value))) q1 fun A6 j0 C2 z5=>RG.now .plain (Acts.storeBig (fun z9:Bool=>(.bool z9:Value)) (m:=256) q3 d0 C2 .hd rfl rfl (by kernel_rfl) (fun _=>rfl)) fun B6 s1 A5=>Af rfl<|Aa<|Ac<|Ae rfl<|Aa<|Bk rfl<|Ac<|Ae rfl<|BL (fst:=[]) (cap:=[]) (vs:=[.string a0,vP j0]) .plain (bd 182) Tryz.func182 rfl rfl rfl rfl (e2 rfl rfl) rfl fun Z4 V2 W5=>Ac<|Af rfl<|Aa<|Aj<|AA<|MX.xo (α:=ByteArray) 0 (fun x0=>[(0,.string x0)]) (fun x0=>[.cells j0 (b0.map (fun z9:Bool=>(.bool z9:Value))) 214]) (fun x0=>x0) s1 rfl h ?_ ?_
 rintro x0 Q6 u1 B5 h
 try dsimp only at h
 refine Ac<|Ae rfl<|Af rfl<|Aa<|Al rfl<|Am (u:=.string x0) V2 Tryz.func182 rfl (.cons (.tmp rfl) .nil) rfl<|BL (fst:=[]) (cap:=[]) (vs:=[.string x0,vP j0]) .plain (bd 181) Tryz.func181 rfl rfl rfl rfl (e2 rfl rfl) rfl fun b5 W2 X5=>Ac<|Af rfl<|Aa<|Aj<|AA<|MX.xo (α:=ByteArray) 0 (fun C0=>[(0,.string C0)]) (fun C0=>[.cells j0 (b0.map (fun z9:Bool=>(.bool z9:Value))) 214]) (fun C0=>C0) u1 rfl h ?_ ?_
 rintro C0 R6 D2 C5 h
 try dsimp only at h
 refine Ac<|Ae rfl<|Af rfl<|Aa<|Al rfl<|Am (u:=.string C0) W2 Tryz.func181 rfl (.cons (.tmp rfl) .nil) rfl<|Af rfl<|Aa<|Al rfl<|AW hb0 Tryz.func154 rfl rfl ?_
 cases h
 exact D2.gv
 intro I4 j1 h
 try dsimp only at h
 obtain ⟨g6,z3,G1⟩:=bind_in2 h
 refine MX.lo (α:=ByteArray) (fun y0=>[(0,.string y0),(1,vP j0)]) (fun y0=>[.cells j0 (b0.map (fun z9:Bool=>(.bool z9:Value))) 214]) (fun y0=>y0) x0 z3 u1 ?_
 rintro J4 y0 U6 s2 H0 Q0 h
 unfold aP_l4 at h
 try dsimp only at h
 refine Aj<|Ac<|Ae rfl<|Ab (BI Tryz.underlying9 rfl)<|Ab (FV.gtrN (i:=y0.size) (j:=0) rfl rfl)<|Aa<|AT rfl h (fun Y1 h=>?_) (fun Y1 h=>?_)
 refine Au<|AA<|Aj<|Ac<|Ae rfl<|Ae rfl<|bk h fun Y0 Y3 h=>Ab (FV.strAt (k:=0) Tryz.underlying9 rfl rfl rfl Y3)<|BL (fst:=[]) (cap:=[]) (vs:=[vP j0,.int .u8 (Y0.toNat:Int)]) .plain (bd 197) Tryz.func197 rfl rfl rfl rfl (e2 rfl rfl) rfl fun d5 X2 Y5=>Ac<|Af rfl<|Aa<|Ac<|Ae rfl<|Ae rfl<|Ab (FV.nilCheck rfl)<|bk h fun A4 M1 h=>Ab (Bg (m:=1) (k:=Y0.toNat) (len:=256) (by kernel_rfl) rfl rfl rfl (arr_lt M1 d0))<|AP rfl ((mem_elem1 (p:=⟨j0,0,none⟩) (cs:=b0.map (fun z9:Bool=>(.bool z9:Value))) (i:=Y0.toNat) (H0.memA .hd) (arr_get0 (fun z9:Bool=>(.bool z9:Value)) M1)) 0 _ rfl)<|Af rfl<|Aa<|Al rfl<|Am (u:=.bool A4) X2 Tryz.func197 rfl (.cons (.tmp rfl) .nil) rfl<|Ab (Bp rfl)<|Aa<|BU rfl h (fun Z1 h=>?_) (fun Z1 h=>?_)
 refine Au<|Av<|Ae rfl<|bk h fun k4 H3 h=>Ab (FV.strCut H3 Tryz.underlying9 rfl ⟨_,rfl⟩ rfl)<|Af rfl<|Aa<|AC<|s2 k4 H0 Q0 h
 refine Bd rfl ?_
 have h:=G1 _ h
 try dsimp only at h
 exact j1 y0 H0 Q0 h
 refine Bd rfl ?_
 have h:=G1 _ h
 try dsimp only at h
 exact j1 y0 H0 Q0 h
 intro H4 g1 h
 try dsimp only at h
 obtain ⟨E2,A1⟩:=AG s1 (.a0 .done)
 obtain ⟨j6,A3,H1⟩:=bind_in2 h
 refine MX.lo (α:=ByteArray) (fun s0=>[(0,.string s0),(1,vP j0)]) (fun s0=>[.cells j0 (b0.map (fun z9:Bool=>(.bool z9:Value))) 214]) (fun s0=>s0) a0 A3 E2 ?_
 rintro K4 s0 V6 t2 I0 R0 h
 unfold aP_l5 at h
 try dsimp only at h
 refine Aj<|Ac<|Ae rfl<|Ab (BI Tryz.underlying9 rfl)<|Ab (FV.gtrN (i:=s0.size) (j:=0) rfl rfl)<|Aa<|AT rfl h (fun b2 h=>?_) (fun b2 h=>?_)
 refine Au<|AA<|Aj<|Ac<|Ae rfl<|Ae rfl<|Ae rfl<|Ab (BI Tryz.underlying9 rfl)<|bk h fun p4 I3 h=>Ab (FV.subc (i:=((s0.size:Nat):Int)) (j:=1) rfl rfl I3)<|bk h fun Z0 Z3 h=>?_
 obtain ⟨d3,Q3⟩:=sidx_in Z3
 refine Ab (FV.strAt (k:=p4.toNat) Tryz.underlying9 rfl rfl d3 Q3)<|BL (fst:=[]) (cap:=[]) (vs:=[vP j0,.int .u8 (Z0.toNat:Int)]) .plain (bd 197) Tryz.func197 rfl rfl rfl rfl (e2 rfl rfl) rfl fun g5 Y2 Z5=>Ac<|Af rfl<|Aa<|Ac<|Ae rfl<|Ae rfl<|Ab (FV.nilCheck rfl)<|bk h fun B4 P1 h=>Ab (Bg (m:=1) (k:=Z0.toNat) (len:=256) (by kernel_rfl) rfl rfl rfl (arr_lt P1 d0))<|AP rfl ((mem_elem1 (p:=⟨j0,0,none⟩) (cs:=b0.map (fun z9:Bool=>(.bool z9:Value))) (i:=Z0.toNat) (I0.memA .hd) (arr_get0 (fun z9:Bool=>(.bool z9:Value)) P1)) 0 _ rfl)<|Af rfl<|Aa<|Al rfl<|Am (u:=.bool B4) Y2 Tryz.func197 rfl (.cons (.tmp rfl) .nil) rfl<|Ab (Bp rfl)<|Aa<|BU rfl h (fun d2 h=>?_) (fun d2 h=>?_)
 refine Au<|Av<|Ae rfl<|Ae rfl<|Ab (BI Tryz.underlying9 rfl)<|bk h fun q6 J3 h=>Ab (FV.subc (i:=((s0.size:Nat):Int)) (j:=1) rfl rfl J3)<|bk h fun q4 K3 h=>Ab (FV.strCut K3 Tryz.underlying9 rfl rfl ⟨_,rfl⟩)<|Af rfl<|Aa<|AC<|t2 q4 I0 R0 h
 refine Bd rfl ?_
 have h:=H1 _ h
 try dsimp only at h
 exact g1 s0 I0 (Tt A1 R0) h
 refine Bd rfl ?_
 have h:=H1 _ h
 try dsimp only at h
 exact g1 s0 I0 (Tt A1 R0) h
def dw_p (_n:Nat) (a0:Int) (a1:Int):Option Bool:=
  (if a0 < 0 then some true else some (decide (a1 < a0)))
theorem dw_c (n:Nat) {L w} (_hL:hl L w) {a0:Int} {a1:Int} {p1:Nat} (m1:∀ j9 v9,([vI a1]:List Value)[j9]? = some v9 -> w.cell? ((⟨p1,0,none⟩:Addr).add j9) = some v9)  {r:Bool} (h:dw_p n a0 a1 = some r) :
 Cl 186 #[vI a0,.pointer (some ⟨p1,0,none⟩)] w (Gives w fun _ u=>u = .bool r):=by
 unfold dw_p at h
 have hS0:=Az w
 refine AD Tryz.func186 rfl rfl rfl fun _ cs0 hb0=>Ac<|Af rfl<|Aa<|Ac<|Ae rfl<|Ab (BS (i:=a0) (j:=0) rfl rfl)<|Ae rfl<|BD (s:=6) rfl h (fun c1 h=>?_) (fun c1 h=>?_)
 refine Ap<|Ap<|Ap<|Bh rfl rfl<|Af rfl<|Aa<|Al rfl<|AW hb0 Tryz.func186 rfl rfl ?_
 cases h
 exact hS0.gv
 refine AE (Ai rfl)<|AE (AL rfl ((fun j9 v9 h9=>hS0.ag.cell0 (m1 j9 v9 h9)) 0 _ rfl))<|AE (FV.gtr (i:=a0) (j:=a1) rfl rfl)<|Bv rfl rfl<|Af rfl<|Aa<|Al rfl<|AW hb0 Tryz.func186 rfl rfl ?_
 cases h
 exact hS0.gv
def bF_l1 (n:Nat) (a0:List Int) (a2:Int) (c0:Nat -> Option (Bool ⊕ Unit)):Nat -> Option (Bool ⊕ Unit)
  | b0=>(if b0 < a0.length then (a0[b0]?).bind fun d0=>(dw_p n d0 a2).bind fun g0=>(if g0 = true then some (.inl (!(decide (0 <= b0)))) else c0 (b0 + 1)) else some (.inr ()))
def bF_p (n:Nat) (a0:List Int) (a1:Int) (a2:Int):Option Bool:=
  (if ((a0.length:Nat):Int) = a1 then thn (loopF (bF_l1 n a0 a2) n 0) (fun _=>some (!(decide (0 <= (-1))))) else some false)
theorem bF_c (n:Nat) {L w} (hL:hl L w) {a0:List Int} {v0_0:Value} (h0_0:Rep.R w L [v0_0] a0) {a1:Int} {a2:Int}  {r:Bool} (h:bF_p n a0 a1 a2 = some r) :
 Cl 155 #[v0_0,vI a1,vI a2] w (Gives w fun _ u=>u = .bool r):=by
 unfold bF_p at h
 refine AD Tryz.func155 rfl rfl rfl fun _ cs0 hb0=>Ac<|RG.bx (Az w) rfl rfl fun Y0 c0 g0 R0=>Af rfl<|Aa<|Ac<|Ae rfl ?_
 have j0:=AS h0_0 g0
 have U0:a0.length <= 281474976710656:=AY j0
 refine Ab (Be (xs:=a0) Tryz.underlying45 rfl j0)<|Ae rfl<|Ab (FV.eql (i:=((a0.length:Nat):Int)) (j:=a1) rfl rfl)<|Ae rfl<|BD (s:=11) rfl h (fun s0 h=>?_) (fun s0 h=>?_)
 refine AE (Ai rfl)<|AE (BW (vs:=[]) (us:=[vP c0]) evs_nil (e1 rfl))<|BL (fst:=[]) (cap:=[]) (vs:=[v0_0,.func (.func 186) #[] #[vP c0]]) (.yes rfl rfl) (bd 185) Tryz.func185 rfl rfl rfl rfl (e2 rfl rfl) rfl fun P0 k0 V0=>Ac<|Af rfl<|Aa<|Ac<|Ae rfl<|Ae rfl<|BL (fst:=[]) (cap:=[]) (vs:=[v0_0,.func (.func 186) #[] #[vP c0]]) .plain (bd 201) Tryz.func201 rfl rfl rfl rfl (e2 rfl rfl) rfl fun Q0 p0 W0=>Ac<|Af rfl<|Aa<|Aj<|Ac<|Ae rfl<|Ab (Be (xs:=a0) Tryz.underlying45 rfl j0)<|Ae rfl<|Aa<|AA<|tn h fun X0 D0 q0=>MX.lo (α:=Nat) (fun b0=>[(0,v0_0),(1,.func (.func 186) #[] #[vP c0]),(7,vI ((a0.length:Nat):Int)),(8,vI ((b0:Nat):Int))]) (fun b0=>[.cells c0 [vI a2] 3]) (fun b0=>b0) 0 D0 g0 ?_
 rintro K0 b0 Z0 x0 d0 y0 h
 unfold bF_l1 at h
 try dsimp only at h
 refine Ac<|Ab (Bu (i:=b0) (j:=a0.length) rfl rfl)<|Aa<|Aj<|AT rfl h (fun t0 h=>?_) (fun t0 h=>?_)
 refine Au<|Aj<|AA<|Ac<|Ae rfl<|Af rfl<|Aa<|Ac<|Ae rfl<|Ae rfl<|Ae rfl<|bk h fun H0 F0 h=>?_
 obtain ⟨J0,M0,z0,B0,v0,E0,C0⟩:=Br (AS h0_0 d0) F0
 have A0:v0 = [vI H0]:=E0; subst A0
 refine Ab (Bq 1 b0 rfl z0 rfl rfl B0)<|AP rfl (C0 0 _ rfl)<|bk h fun I0 G0 h=>RG.callq' (v:=.bool I0) (fst:=[]) (cap:=[vP c0]) .plain (bd 186) rfl (e1 rfl) (fun w9 hw9=>dw_c n (d0.hL0 hL hw9) (mem_keep hw9 (d0.memA .hd)) G0) rfl<|Aa<|MX.ifb rfl h (fun u0 h=>?_) (fun u0 h=>?_)
 refine Ac<|Ae rfl<|Af rfl<|Aa ?_
 have h:=thn_inl h q0
 refine Al rfl<|Am (u:=vI ((b0:Nat):Int)) p0 Tryz.func201 rfl (.cons (.tmp rfl) .nil) rfl<|Ab (FV.geqN (i:=b0) (j:=0) rfl rfl)<|Af rfl<|Aa<|Al rfl<|Am (u:=.bool (decide (0 <= b0))) k0 Tryz.func185 rfl (.cons (.tmp rfl) .nil) rfl<|AE (Bp rfl)<|Bh rfl rfl<|Af rfl<|Aa<|Al rfl<|AW hb0 Tryz.func155 rfl rfl ?_
 cases h
 exact d0.gv
 refine Au<|AC<|Av<|Ab (Bw (i:=b0) (j:=1) rfl rfl (by omega))<|Ae rfl<|Aa<|x0 (b0 + 1) d0 y0 h
 refine Bd rfl ?_
 have h:=thn_inr h q0
 try dsimp only at h
 refine Ac<|Af rfl<|Aa<|Al rfl<|Am (u:=vI (-1)) p0 Tryz.func201 rfl (.cons (.tmp rfl) .nil) rfl<|Ab (FV.geq (i:=(-1)) (j:=0) rfl rfl)<|Af rfl<|Aa<|Al rfl<|Am (u:=.bool (decide (0 <= (-1)))) k0 Tryz.func185 rfl (.cons (.tmp rfl) .nil) rfl<|AE (Bp rfl)<|Bh rfl rfl<|Af rfl<|Aa<|Al rfl<|AW hb0 Tryz.func155 rfl rfl ?_
 cases h
 exact d0.gv
 refine Ap<|Ap<|Ap<|Ap<|Bv rfl rfl<|Af rfl<|Aa<|Al rfl<|AW hb0 Tryz.func155 rfl rfl ?_
 cases h
 exact g0.gv
structure Tb where
  fx:ByteArray
  fv:Int
  fe:List Int
  fF:List Int
  fC:List Int
  fu:Bool
  deriving DecidableEq
instance:Rep Tb:=Rep.via (β:=ByteArray × Int × (List Int) × (List Int) × (List Int) × Bool) fun x=>(x.fx,x.fv,x.fe,x.fF,x.fC,x.fu)
structure Td where
  fe:Int
  fh:Int
  fj:Int
  fo:List Tb
  deriving DecidableEq
instance:Rep Td:=Rep.via (β:=Int × Int × Int × (List Tb)) fun x=>(x.fe,x.fh,x.fj,x.fo)
theorem el142:ElT Tryz.prog 142 4 (Rep.size Bool) 1 (.bool false) [.bool false]:=⟨Tryz.underlying142,by kernel_rfl,rfl,rfl,rfl,rfl⟩
def dC_p (n:Nat) (a0:Td) (a1:Tb):Option Bool:=
  jn (fun (c0,d0)=>(aP_p n a1.fx ⟨#[65,66,67,68,69,70,71,72,73,74,75,76,77,78,79,80,81,82,83,84,85,86,87,88,89,90,97,98,99,100,101,102,103,104,105,106,107,108,109,110,111,112,113,114,115,116,117,118,119,120,121,122,48,49,50,51,52,53,54,55,56,57,45,95]⟩).bind fun g0=>(bF_p n a1.fe a0.fe a1.fv).bind fun j0=>(bF_p n a1.fF a0.fh ((c0:Nat):Int)).bind fun k0=>(bF_p n a1.fC a0.fj ((d0:Nat):Int)).bind fun p0=>(bG_p n ([(!(decide (a1.fx = ⟨#[]⟩))),(decide (a1.fx.size <= 12)),(decide (g0 = ⟨#[]⟩)),(decide (0 <= a1.fv)),(decide (a1.fv <= ((c0:Nat):Int))),j0,k0,p0]:List Bool)).bind fun q0=>some q0) (fun b0=>(if a1.fu = true then b0 (0,0) else b0 (1000000000,63)))
theorem dC_c (n:Nat) {L w} (hL:hl L w) (a0:Td) {v0_3:Value} (_h0_3:Rep.R w L [v0_3] a0.fo) (a1:Tb) {v1_2:Value} (h1_2:Rep.R w L [v1_2] a1.fe) {v1_3:Value} (h1_3:Rep.R w L [v1_3] a1.fF) {v1_4:Value} (h1_4:Rep.R w L [v1_4] a1.fC)  {r:Bool} (h:dC_p n a0 a1 = some r) :
 Cl 117 #[.agg #[vI a0.fe,vI a0.fh,vI a0.fj,v0_3],.agg #[.string a1.fx,vI a1.fv,v1_2,v1_3,v1_4,.bool a1.fu]] w (Gives w fun _ u=>u = .bool r):=by
 unfold dC_p at h
 refine AD Tryz.func117 rfl rfl rfl fun _ cs0 hb0=>Ac<|RG.bx (Az w) rfl rfl fun R0 x0 B0 K0=>RG.bx B0 rfl rfl fun U0 y0 u0 M0=>Af rfl<|Aa<|Ac<|Af rfl<|Af rfl<|Aa<|Aj<|Ac<|AR 5 rfl<|AP rfl ((u0.memA .hd) 5 _ rfl)<|Aa<|MX.jo (α:=Nat × Nat) (fun ⟨g0,t0⟩=>[(2,vP x0),(3,vP y0),(5,vI ((g0:Nat):Int)),(6,vI ((t0:Nat):Int))]) (fun ⟨g0,t0⟩=>[.cells y0 [.string a1.fx,vI a1.fv,v1_2,v1_3,v1_4,.bool a1.fu] 101,.cells x0 [vI a0.fe,vI a0.fh,vI a0.fj,v0_3] 44]) (fun ⟨g0,t0⟩=>(g0,t0)) u0 h ?_ ?_
 rintro ⟨g0,t0⟩ W0 d0 P0 h
 try dsimp only at h
 refine Aj<|du 40 fun b0 c0=>Rv 0 b0 rfl c0 (fun _=>Bb 0 rfl)<|Rx 1 962072674308 b0 rfl c0 (AL rfl ((d0.memA .hd) 0 _ rfl))<|Rv 2 b0 rfl c0 (fun _=>FV.neqS rfl rfl)<|Rv 3 b0 rfl c0 (fun _=>Bb 0 rfl)<|Rx 4 962072674400 b0 rfl c0 (AL rfl ((d0.memA .hd) 0 _ rfl))<|Rx 5 962072674368 b0 rfl c0 (BI Tryz.underlying9 rfl)<|Rv 6 b0 rfl c0 (fun _=>FV.leqN (i:=a1.fx.size) (j:=12) rfl rfl)<|Rv 7 b0 rfl c0 (fun _=>Bb 0 rfl)<|Rx 8 1031882671616 b0 rfl c0 (AL rfl ((d0.memA .hd) 0 _ rfl))<|bk h fun s0 C0 h=>BO 9 1023 1031882671104 (.string s0) b0 rfl c0 (bd 154) rfl (e2 rfl rfl) (fun w9 hw9=>aP_c n (d0.hL0 hL hw9)  C0) rfl<|Rv 10 b0 rfl c0 (fun _=>FV.eqlS rfl rfl)<|Rv 11 b0 rfl c0 (fun _=>Bb 1 rfl)<|Rx 12 962072682496 b0 rfl c0 (AL rfl ((d0.memA .hd) 1 _ rfl))<|Rv 13 b0 rfl c0 (fun _=>FV.geq (i:=a1.fv) (j:=0) rfl rfl)<|Rv 14 b0 rfl c0 (fun _=>Bb 1 rfl)<|Rx 15 962072805376 b0 rfl c0 (AL rfl ((d0.memA .hd) 1 _ rfl))<|Rv 16 b0 rfl c0 (fun _=>Ai rfl)<|Rv 17 b0 rfl c0 (fun _=>FV.leq (i:=a1.fv) (j:=((g0:Nat):Int)) rfl rfl)<|Rv 18 b0 rfl c0 (fun _=>Bb 2 rfl)<|Rx 19 1031882670080 b0 rfl c0 (AL rfl ((d0.memA .hd) 2 _ rfl))<|Rv 20 b0 rfl c0 (fun _=>Bb 0 rfl)<|Rx 21 1031882670080 b0 rfl c0 (AL rfl ((d0.memA .t1) 0 _ rfl))<|Rv 22 b0 rfl c0 (fun _=>Bb 1 rfl)<|Rx 23 1031882670080 b0 rfl c0 (AL rfl ((d0.memA .hd) 1 _ rfl))<|bk h fun q0 D0 h=>BO 24 33554431 1031865892864 (.bool q0) b0 rfl c0 (bd 155) rfl (e3 rfl rfl rfl) (fun w9 hw9=>bF_c n (d0.hL0 hL hw9) (d0.k0 h1_2 hw9) D0) rfl<|Rv 25 b0 rfl c0 (fun _=>Bb 3 rfl)<|Rx 26 1031865892864 b0 rfl c0 (AL rfl ((d0.memA .hd) 3 _ rfl))<|Rv 27 b0 rfl c0 (fun _=>Bb 1 rfl)<|Rx 28 1031865892864 b0 rfl c0 (AL rfl ((d0.memA .t1) 1 _ rfl))<|Rv 29 b0 rfl c0 (fun _=>Ai rfl)<|bk h fun p0 E0 h=>BO 30 2147483647 1030792151040 (.bool p0) b0 rfl c0 (bd 155) rfl (e3 rfl rfl rfl) (fun w9 hw9=>bF_c n (d0.hL0 hL hw9) (d0.k0 h1_3 hw9) E0) rfl<|Rv 31 b0 rfl c0 (fun _=>Bb 4 rfl)<|Rx 32 1030792151040 b0 rfl c0 (AL rfl ((d0.memA .hd) 4 _ rfl))<|Rv 33 b0 rfl c0 (fun _=>Bb 2 rfl)<|Rx 34 1030792151040 b0 rfl c0 (AL rfl ((d0.memA .t1) 2 _ rfl))<|Rv 35 b0 rfl c0 (fun _=>Ai rfl)<|bk h fun j0 F0 h=>BO 36 137438953471 962072674304 (.bool j0) b0 rfl c0 (bd 155) rfl (e3 rfl rfl rfl) (fun w9 hw9=>bF_c n (d0.hL0 hL hw9) (d0.k0 h1_4 hw9) F0) rfl<|BN 37 274877906943 b0 rfl .plain rfl (AK (α:=Bool) (xs:=([(!(decide (a1.fx = ⟨#[]⟩))),(decide (a1.fx.size <= 12)),(decide (s0 = ⟨#[]⟩)),(decide (0 <= a1.fv)),(decide (a1.fv <= ((g0:Nat):Int))),q0,p0,j0]:List Bool)) (vs:=[.bool (!(decide (a1.fx = ⟨#[]⟩))),.bool (decide (a1.fx.size <= 12)),.bool (decide (s0 = ⟨#[]⟩)),.bool (decide (0 <= a1.fv)),.bool (decide (a1.fv <= ((g0:Nat):Int))),.bool q0,.bool p0,.bool j0]) (ds' :=[.bool (!(decide (a1.fx = ⟨#[]⟩))),.bool (decide (a1.fx.size <= 12)),.bool (decide (s0 = ⟨#[]⟩)),.bool (decide (0 <= a1.fv)),.bool (decide (a1.fv <= ((g0:Nat):Int))),.bool q0,.bool p0,.bool j0]) rfl d0 el142 rfl (e8 rfl rfl rfl rfl rfl rfl rfl rfl) (by kernel_rfl) rfl) fun V0 J0 v0 Q0=>?_
 refine bk h fun H0 G0 h=>BO 38 549755813887 549755813888 (.bool H0) b0 rfl c0 (bd 116) rfl (e1 rfl) (fun w9 hw9=>bG_c n (v0.hL0 hL hw9) (Aq (St.lend (α:=Bool) (L:=L) v0 .hd (AB (cs:=[.bool (!(decide (a1.fx = ⟨#[]⟩))),.bool (decide (a1.fx.size <= 12)),.bool (decide (s0 = ⟨#[]⟩)),.bool (decide (0 <= a1.fv)),.bool (decide (a1.fv <= ((g0:Nat):Int))),.bool q0,.bool p0,.bool j0]) (xs:=(([(!(decide (a1.fx = ⟨#[]⟩))),(decide (a1.fx.size <= 12)),(decide (s0 = ⟨#[]⟩)),(decide (0 <= a1.fv)),(decide (a1.fv <= ((g0:Nat):Int))),q0,p0,j0]:List Bool):List Bool)) v0 L (Ar (cs:=[.bool (!(decide (a1.fx = ⟨#[]⟩)))]) (ds:=[.bool (decide (a1.fx.size <= 12)),.bool (decide (s0 = ⟨#[]⟩)),.bool (decide (0 <= a1.fv)),.bool (decide (a1.fv <= ((g0:Nat):Int))),.bool q0,.bool p0,.bool j0]) rfl (Ar (cs:=[.bool (decide (a1.fx.size <= 12))]) (ds:=[.bool (decide (s0 = ⟨#[]⟩)),.bool (decide (0 <= a1.fv)),.bool (decide (a1.fv <= ((g0:Nat):Int))),.bool q0,.bool p0,.bool j0]) rfl (Ar (cs:=[.bool (decide (s0 = ⟨#[]⟩))]) (ds:=[.bool (decide (0 <= a1.fv)),.bool (decide (a1.fv <= ((g0:Nat):Int))),.bool q0,.bool p0,.bool j0]) rfl (Ar (cs:=[.bool (decide (0 <= a1.fv))]) (ds:=[.bool (decide (a1.fv <= ((g0:Nat):Int))),.bool q0,.bool p0,.bool j0]) rfl (Ar (cs:=[.bool (decide (a1.fv <= ((g0:Nat):Int)))]) (ds:=[.bool q0,.bool p0,.bool j0]) rfl (Ar (cs:=[.bool q0]) (ds:=[.bool p0,.bool j0]) rfl (Ar (cs:=[.bool p0]) (ds:=[.bool j0]) rfl (Ar (cs:=[.bool j0]) (ds:=[]) rfl (AJ _ _)))))))))) hL) hw9) G0) rfl<|Rv 39 b0 rfl c0 (fun _=>AV rfl)<|AN (dk b0)<|Al rfl<|AW hb0 Tryz.func117 rfl rfl ?_
 cases h
 exact v0.gv
 intro I0 z0 h
 try dsimp only at h
 refine MX.ifb rfl h (fun A0 h=>?_) (fun A0 h=>?_)
 refine Av<|Af rfl<|Af rfl<|Aa<|z0 (0,0) u0 (By _ _) h
 refine Au<|z0 (1000000000,63) u0 (By _ _) h
theorem op_Tb {w:World} {L:List Nat} {cs:List Value} {x:Tb} (h:Rep.R w L cs x):∃ v2 v3 v4:Value,cs = [.string x.fx,vI x.fv,v2,v3,v4,.bool x.fu]/\Rep.R w L [v2] x.fe/\Rep.R w L [v3] x.fF/\Rep.R w L [v4] x.fC:=by
  obtain ⟨c0,r0,rfl,h0,h⟩:=h
  have e0:c0 = [.string x.fx]:=h0; subst e0
  obtain ⟨c1,r1,rfl,h1,h⟩:=h
  have e1:c1 = [vI x.fv]:=h1; subst e1
  obtain ⟨c2,r2,rfl,h2,h⟩:=h
  obtain ⟨v2,rfl,kv2⟩:=lst_one (xs:=x.fe) h2
  obtain ⟨c3,r3,rfl,h3,h⟩:=h
  obtain ⟨v3,rfl,kv3⟩:=lst_one (xs:=x.fF) h3
  obtain ⟨c4,r4,rfl,h4,h⟩:=h
  obtain ⟨v4,rfl,kv4⟩:=lst_one (xs:=x.fC) h4
  have e5:r4 = [.bool x.fu]:=h; subst e5
  exact ⟨v2,v3,v4,rfl,kv2,kv3,kv4⟩
theorem mk_Tb {w:World} {L:List Nat} (a0:ByteArray) (a1:Int) (a2:List Int) {u2:Value} (h2:Rep.R w L [u2] a2) (a3:List Int) {u3:Value} (h3:Rep.R w L [u3] a3) (a4:List Int) {u4:Value} (h4:Rep.R w L [u4] a4) (a5:Bool):Rep.R w L [.string a0,vI a1,u2,u3,u4,.bool a5] (⟨a0,a1,a2,a3,a4,a5⟩:Tb):=⟨[.string a0],[vI a1,u2,u3,u4,.bool a5],rfl,rfl,⟨[vI a1],[u2,u3,u4,.bool a5],rfl,rfl,⟨[u2],[u3,u4,.bool a5],rfl,h2,⟨[u3],[u4,.bool a5],rfl,h3,⟨[u4],[.bool a5],rfl,h4,rfl⟩⟩⟩⟩⟩
def bV_l1 (n:Nat) (a0:Td) (g0:Bool × Nat × (List (ByteArray × Bool)) -> Option (Int ⊕ Unit)):Bool × Nat × (List (ByteArray × Bool)) -> Option (Int ⊕ Unit)
  | (k0,d0,c0)=>(if d0 < a0.fo.length then (a0.fo[d0]?).bind fun b0=>(dC_p n a0 b0).bind fun j0=>(if b0.fu = true then (if 0 < d0 then (bG_p n ([j0,(!(mgetD c0 b0.fx false)),true,true]:List Bool)).bind fun p0=>(if p0 = true then g0 (b0.fu,d0 + 1,mset c0 b0.fx true) else some (.inl (161:Int))) else (bG_p n ([j0,(!(mgetD c0 b0.fx false)),true,(!b0.fu)]:List Bool)).bind fun q0=>(if q0 = true then g0 (b0.fu,d0 + 1,mset c0 b0.fx true) else some (.inl (161:Int)))) else (if 0 < d0 then (bG_p n ([j0,(!(mgetD c0 b0.fx false)),(!k0),true]:List Bool)).bind fun s0=>(if s0 = true then g0 (b0.fu,d0 + 1,mset c0 b0.fx true) else some (.inl (161:Int))) else (bG_p n ([j0,(!(mgetD c0 b0.fx false)),(!k0),(!b0.fu)]:List Bool)).bind fun t0=>(if t0 = true then g0 (b0.fu,d0 + 1,mset c0 b0.fx true) else some (.inl (161:Int))))) else some (.inr ()))
def bV_p (n:Nat) (a0:Td):Option Int:=
  (bG_p n ([(decide (0 <= a0.fe)),(decide (a0.fe <= 6)),(decide (0 <= a0.fh)),(decide (a0.fh <= 12)),(decide (0 <= a0.fj)),(decide (a0.fj <= 3)),(decide (0 < a0.fo.length)),(decide (a0.fo.length <= 64))]:List Bool)).bind fun b0=>(if b0 = true then thn (loopF (bV_l1 n a0) n (false,0,([]:List (ByteArray × Bool)))) (fun _=>some (0:Int)) else some (161:Int))
theorem bV_c (n:Nat) {L w} (hL:hl L w) (a0:Td) {v0_3:Value} (h0_3:Rep.R w L [v0_3] a0.fo)  {r:Int} (h:bV_p n a0 = some r) :
 Cl 80 #[.agg #[vI a0.fe,vI a0.fh,vI a0.fj,v0_3]] w (Gives w fun _ u=>u = vI r):=by
 unfold bV_p at h
 refine AD Tryz.func80 rfl rfl rfl fun _ cs0 hb0=>Ac<|RG.bx (Az w) rfl rfl fun P2 H0 u0 G2=>Af rfl<|Aa<|Ac<|AR 3 rfl<|AP rfl ((u0.memA .hd) 3 _ rfl) ?_
 have Q0:=AS h0_3 u0
 have K2:a0.fo.length <= 281474976710656:=AY Q0
 refine Ab (Be (xs:=a0.fo) Tryz.underlying42 rfl Q0)<|Af rfl<|Aa<|Aj<|Ac<|AR 0 rfl<|AP rfl ((u0.memA .hd) 0 _ rfl)<|Ab (FV.geq (i:=a0.fe) (j:=0) rfl rfl)<|AR 0 rfl<|AP rfl ((u0.memA .hd) 0 _ rfl)<|Ab (FV.leq (i:=a0.fe) (j:=6) rfl rfl)<|AR 1 rfl<|AP rfl ((u0.memA .hd) 1 _ rfl)<|Ab (FV.geq (i:=a0.fh) (j:=0) rfl rfl)<|AR 1 rfl<|AP rfl ((u0.memA .hd) 1 _ rfl)<|Ab (FV.leq (i:=a0.fh) (j:=12) rfl rfl)<|AR 2 rfl<|AP rfl ((u0.memA .hd) 2 _ rfl)<|Ab (FV.geq (i:=a0.fj) (j:=0) rfl rfl)<|AR 2 rfl<|AP rfl ((u0.memA .hd) 2 _ rfl)<|Ab (FV.leq (i:=a0.fj) (j:=3) rfl rfl)<|Ae rfl<|Ab (FV.gtrN (i:=a0.fo.length) (j:=0) rfl rfl)<|Ae rfl<|Ab (FV.leqN (i:=a0.fo.length) (j:=64) rfl rfl)<|Ak .plain rfl (AK (α:=Bool) (xs:=([(decide (0 <= a0.fe)),(decide (a0.fe <= 6)),(decide (0 <= a0.fh)),(decide (a0.fh <= 12)),(decide (0 <= a0.fj)),(decide (a0.fj <= 3)),(decide (0 < a0.fo.length)),(decide (a0.fo.length <= 64))]:List Bool)) (vs:=[.bool (decide (0 <= a0.fe)),.bool (decide (a0.fe <= 6)),.bool (decide (0 <= a0.fh)),.bool (decide (a0.fh <= 12)),.bool (decide (0 <= a0.fj)),.bool (decide (a0.fj <= 3)),.bool (decide (0 < a0.fo.length)),.bool (decide (a0.fo.length <= 64))]) (ds' :=[.bool (decide (0 <= a0.fe)),.bool (decide (a0.fe <= 6)),.bool (decide (0 <= a0.fh)),.bool (decide (a0.fh <= 12)),.bool (decide (0 <= a0.fj)),.bool (decide (a0.fj <= 3)),.bool (decide (0 < a0.fo.length)),.bool (decide (a0.fo.length <= 64))]) rfl u0 el142 rfl (e8 rfl rfl rfl rfl rfl rfl rfl rfl) (by kernel_rfl) rfl) fun Q2 y2 B0 H2=>bk h fun k2 V1 h=>Ba (.bool k2) (bd 116) rfl (e1 rfl) (fun w9 hw9=>bG_c n (B0.hL0 hL hw9) (Aq (St.lend (α:=Bool) (L:=L) B0 .hd (AB (cs:=[.bool (decide (0 <= a0.fe)),.bool (decide (a0.fe <= 6)),.bool (decide (0 <= a0.fh)),.bool (decide (a0.fh <= 12)),.bool (decide (0 <= a0.fj)),.bool (decide (a0.fj <= 3)),.bool (decide (0 < a0.fo.length)),.bool (decide (a0.fo.length <= 64))]) (xs:=(([(decide (0 <= a0.fe)),(decide (a0.fe <= 6)),(decide (0 <= a0.fh)),(decide (a0.fh <= 12)),(decide (0 <= a0.fj)),(decide (a0.fj <= 3)),(decide (0 < a0.fo.length)),(decide (a0.fo.length <= 64))]:List Bool):List Bool)) B0 L (Ar (cs:=[.bool (decide (0 <= a0.fe))]) (ds:=[.bool (decide (a0.fe <= 6)),.bool (decide (0 <= a0.fh)),.bool (decide (a0.fh <= 12)),.bool (decide (0 <= a0.fj)),.bool (decide (a0.fj <= 3)),.bool (decide (0 < a0.fo.length)),.bool (decide (a0.fo.length <= 64))]) rfl (Ar (cs:=[.bool (decide (a0.fe <= 6))]) (ds:=[.bool (decide (0 <= a0.fh)),.bool (decide (a0.fh <= 12)),.bool (decide (0 <= a0.fj)),.bool (decide (a0.fj <= 3)),.bool (decide (0 < a0.fo.length)),.bool (decide (a0.fo.length <= 64))]) rfl (Ar (cs:=[.bool (decide (0 <= a0.fh))]) (ds:=[.bool (decide (a0.fh <= 12)),.bool (decide (0 <= a0.fj)),.bool (decide (a0.fj <= 3)),.bool (decide (0 < a0.fo.length)),.bool (decide (a0.fo.length <= 64))]) rfl (Ar (cs:=[.bool (decide (a0.fh <= 12))]) (ds:=[.bool (decide (0 <= a0.fj)),.bool (decide (a0.fj <= 3)),.bool (decide (0 < a0.fo.length)),.bool (decide (a0.fo.length <= 64))]) rfl (Ar (cs:=[.bool (decide (0 <= a0.fj))]) (ds:=[.bool (decide (a0.fj <= 3)),.bool (decide (0 < a0.fo.length)),.bool (decide (a0.fo.length <= 64))]) rfl (Ar (cs:=[.bool (decide (a0.fj <= 3))]) (ds:=[.bool (decide (0 < a0.fo.length)),.bool (decide (a0.fo.length <= 64))]) rfl (Ar (cs:=[.bool (decide (0 < a0.fo.length))]) (ds:=[.bool (decide (a0.fo.length <= 64))]) rfl (Ar (cs:=[.bool (decide (a0.fo.length <= 64))]) (ds:=[]) rfl (AJ _ _)))))))))) hL) hw9) V1) rfl<|Ab (Bp rfl)<|Aa<|BU rfl h (fun X0 h=>?_) (fun X0 h=>?_)
 refine Au<|Ac<|Ak .plain rfl (Does.makeMap (κ:=ByteArray) (ν:=Bool) B0) fun X2 I0 G0 J2=>Af rfl<|Aa<|Ac<|Af rfl<|Aa<|Aj<|Ac<|AR 3 rfl<|AP rfl ((G0.memA .t2) 3 _ rfl)<|Ab (Be (xs:=a0.fo) Tryz.underlying42 rfl (AS h0_3 G0))<|Ae rfl<|Aa<|AA ?_
 obtain ⟨p1,I2⟩:=AG G0 (.a0 .d1)
 refine tn h fun M2 Q1 C0=>MX.lo (α:=Bool × Nat × (List (ByteArray × Bool))) (fun ⟨p0,q0,g0⟩=>[(1,vP H0),(4,.map (some I0)),(5,.bool p0),(38,v0_3),(39,vI ((a0.fo.length:Nat):Int)),(40,vI ((q0:Nat):Int))]) (fun ⟨p0,q0,g0⟩=>[.obj I0 (mapO (g0:List (ByteArray × Bool))),.cells H0 [vI a0.fe,vI a0.fh,vI a0.fj,v0_3] 44]) (fun ⟨p0,q0,g0⟩=>(p0,q0,g0)) (false,0,([]:List (ByteArray × Bool))) Q1 p1 ?_
 rintro x2 ⟨p0,q0,g0⟩ j3 D0 F0 E0 h
 unfold bV_l1 at h
 try dsimp only at h
 refine Ac<|Ab (Bu (i:=q0) (j:=a0.fo.length) rfl rfl)<|Aa<|Aj<|AT rfl h (fun W0 h=>?_) (fun W0 h=>?_)
 refine Au<|Aj<|AA<|Ac<|Ae rfl<|bk h fun b0 U1 h=>?_
 obtain ⟨v2,E2,K1,M1,F2,R1,P1⟩:=Br (AS h0_3 F0) U1
 obtain ⟨c2,g2,j2,rfl,R0,U0,V0⟩:=op_Tb R1
 refine Ab (Bq 6 q0 rfl K1 rfl rfl M1)<|Ab (AH rfl P1)<|RG.nl [.string ⟨#[]⟩,vI 0,vN,vN,vN,.bool false] F0 fun R2 z2 q1 t0=>Af rfl<|AQ [.string b0.fx,vI b0.fv,c2,g2,j2,.bool b0.fu] q1 .hd (o6 rfl rfl (AO (Ao R0 t0)) (AO (Ao U0 t0)) (AO (Ao V0 t0)) rfl) fun U2 s0 v0=>Aa<|Aj<|Aj<|du 24 fun c0 d0=>Rx 0 16727044 c0 rfl d0 (AH rfl (s0.memA .t2))<|Rx 1 16727044 c0 rfl d0 (AH rfl (s0.memA .hd))<|bk h fun j0 W1 h=>BO 2 7 16727040 (.bool j0) c0 rfl d0 (bd 117) rfl (e2 rfl rfl) (fun w9 hw9=>dC_c n (s0.hL0 hL hw9) a0 (s0.k0 h0_3 hw9) b0 (s0.kd (Ao R0 (Tt t0 v0)) hw9) (s0.kd (Ao U0 (Tt t0 v0)) hw9) (s0.kd (Ao V0 (Tt t0 v0)) hw9) W1) rfl<|Rv 3 c0 rfl d0 (fun _=>Ai rfl)<|Rv 4 c0 rfl d0 (fun _=>Bb 0 rfl)<|Rx 5 14680256 c0 rfl d0 (AL rfl ((s0.memA .hd) 0 _ rfl))<|Rx 6 14680192 c0 rfl d0 (FV.lookup (kv:=b0.fx) (z:=false) s0 .t1 Tryz.underlying160 Tryz.underlying9 rfl (by kernel_rfl) rfl rfl)<|Rv 7 c0 rfl d0 (fun _=>Bp rfl)<|Rv 8 c0 rfl d0 (fun _=>Bb 5 rfl)<|Rx 9 16727040 c0 rfl d0 (AL rfl ((s0.memA .hd) 5 _ rfl))<|Rv 10 c0 rfl d0 (fun _=>Ai rfl)<|RD.ifb (s:=55) rfl h (fun Y0 h=>?_) (fun Y0 h=>?_)
 refine BK 8191 11 [(11,56),(12,57)] (F:=[(55,true)]) (U:=[]) c0 d0 (.cons rfl .nil) .nil ?_
 dsimp only [offS,List.map]
 refine Rv 13 c0 rfl d0 (fun _=>BM rfl rfl)<|Rv 14 c0 rfl d0 (fun _=>Ai rfl)<|Rv 15 c0 rfl d0 (fun _=>FV.gtrN (i:=q0) (j:=0) rfl rfl)<|Rv 16 c0 rfl d0 (fun _=>Ai rfl)<|RD.ifd (s:=61) rfl h (fun Z0 h=>?_) (fun Z0 h=>?_)
 refine BK 1048575 4 [(17,62),(18,63),(19,64)] (F:=[(61,true)]) (U:=[]) c0 d0 (.cons rfl .nil) .nil ?_
 dsimp only [offS,List.map]
 refine Rv 20 c0 rfl d0 (fun _=>BM rfl rfl)<|BN 21 4194303 c0 rfl .plain rfl (AK (α:=Bool) (xs:=([j0,(!(mgetD g0 b0.fx false)),true,true]:List Bool)) (vs:=[.bool j0,.bool (!(mgetD g0 b0.fx false)),.bool true,.bool true]) (ds' :=[.bool j0,.bool (!(mgetD g0 b0.fx false)),.bool true,.bool true]) rfl s0 el142 rfl (e4 rfl rfl rfl rfl) (by kernel_rfl) rfl) fun V2 A2 x0 y1=>bk h fun p2 X1 h=>BO 22 8388607 8388608 (.bool p2) c0 rfl d0 (bd 116) rfl (e1 rfl) (fun w9 hw9=>bG_c n (x0.hL0 hL hw9) (Aq (St.lend (α:=Bool) (L:=L) x0 .hd (AB (cs:=[.bool j0,.bool (!(mgetD g0 b0.fx false)),.bool true,.bool true]) (xs:=(([j0,(!(mgetD g0 b0.fx false)),true,true]:List Bool):List Bool)) x0 L (Ar (cs:=[.bool j0]) (ds:=[.bool (!(mgetD g0 b0.fx false)),.bool true,.bool true]) rfl (Ar (cs:=[.bool (!(mgetD g0 b0.fx false))]) (ds:=[.bool true,.bool true]) rfl (Ar (cs:=[.bool true]) (ds:=[.bool true]) rfl (Ar (cs:=[.bool true]) (ds:=[]) rfl (AJ _ _)))))) hL) hw9) X1) rfl<|Rv 23 c0 rfl d0 (fun _=>Bp rfl)<|AN (dk c0)<|BU rfl h (fun b1 h=>?_) (fun b1 h=>?_)
 refine Au<|Ac<|Ae rfl<|AR 0 rfl<|AP rfl ((x0.memA .t1) 0 _ rfl)<|RG.now .plain (Acts.mapUpdate (kv:=b0.fx) (vv:=true) x0 .t2 Tryz.underlying160 Tryz.underlying9 rfl rfl rfl rfl) fun W2 J0 z1=>Aa<|Av<|AR 5 rfl<|AP rfl ((J0.memA .t1) 5 _ rfl)<|Af rfl<|Aa<|AC<|Av<|Ab (Bw (i:=q0) (j:=1) rfl rfl (by omega))<|Ae rfl<|Aa ?_
 obtain ⟨s1,A1⟩:=AG J0 .d2
 exact D0 (b0.fu,q0 + 1,mset g0 b0.fx true) s1 (Tt E0 (Tt t0 (Tt v0 (Tt y1 (Tt z1 A1))))) h
 refine Ac<|Af rfl<|Aa ?_
 have h:=thn_inl h C0
 refine Al rfl<|AW hb0 Tryz.func80 rfl rfl ?_
 cases h
 exact x0.gv
 refine BX 17 262143 c0 rfl d0 (.yes rfl rfl) (fun _=>Bb 5 rfl) rfl<|RD.val (i:=18) (m' :=524287) (W:=16252928) (tk c0) rfl d0 (.yes rfl rfl) (AL rfl ((s0.memA .hd) 5 _ rfl)) rfl<|BX 19 1048575 c0 rfl d0 (.yes rfl rfl) (fun _=>Bp rfl) rfl<|Rv 20 c0 rfl d0 (fun _=>Bo rfl rfl)<|BN 21 4194303 c0 rfl .plain rfl (AK (α:=Bool) (xs:=([j0,(!(mgetD g0 b0.fx false)),true,(!b0.fu)]:List Bool)) (vs:=[.bool j0,.bool (!(mgetD g0 b0.fx false)),.bool true,.bool (!b0.fu)]) (ds' :=[.bool j0,.bool (!(mgetD g0 b0.fx false)),.bool true,.bool (!b0.fu)]) rfl s0 el142 rfl (e4 rfl rfl rfl rfl) (by kernel_rfl) rfl) fun Y2 B2 y0 B1=>bk h fun q2 Y1 h=>BO 22 8388607 8388608 (.bool q2) c0 rfl d0 (bd 116) rfl (e1 rfl) (fun w9 hw9=>bG_c n (y0.hL0 hL hw9) (Aq (St.lend (α:=Bool) (L:=L) y0 .hd (AB (cs:=[.bool j0,.bool (!(mgetD g0 b0.fx false)),.bool true,.bool (!b0.fu)]) (xs:=(([j0,(!(mgetD g0 b0.fx false)),true,(!b0.fu)]:List Bool):List Bool)) y0 L (Ar (cs:=[.bool j0]) (ds:=[.bool (!(mgetD g0 b0.fx false)),.bool true,.bool (!b0.fu)]) rfl (Ar (cs:=[.bool (!(mgetD g0 b0.fx false))]) (ds:=[.bool true,.bool (!b0.fu)]) rfl (Ar (cs:=[.bool true]) (ds:=[.bool (!b0.fu)]) rfl (Ar (cs:=[.bool (!b0.fu)]) (ds:=[]) rfl (AJ _ _)))))) hL) hw9) Y1) rfl<|Rv 23 c0 rfl d0 (fun _=>Bp rfl)<|AN (dk c0)<|BU rfl h (fun c1 h=>?_) (fun c1 h=>?_)
 refine Au<|Ac<|Ae rfl<|AR 0 rfl<|AP rfl ((y0.memA .t1) 0 _ rfl)<|RG.now .plain (Acts.mapUpdate (kv:=b0.fx) (vv:=true) y0 .t2 Tryz.underlying160 Tryz.underlying9 rfl rfl rfl rfl) fun Z2 K0 C1=>Aa<|Av<|AR 5 rfl<|AP rfl ((K0.memA .t1) 5 _ rfl)<|Af rfl<|Aa<|AC<|Av<|Ab (Bw (i:=q0) (j:=1) rfl rfl (by omega))<|Ae rfl<|Aa ?_
 obtain ⟨u1,D1⟩:=AG K0 .d2
 exact D0 (b0.fu,q0 + 1,mset g0 b0.fx true) u1 (Tt E0 (Tt t0 (Tt v0 (Tt B1 (Tt C1 D1))))) h
 refine Ac<|Af rfl<|Aa ?_
 have h:=thn_inl h C0
 refine Al rfl<|AW hb0 Tryz.func80 rfl rfl ?_
 cases h
 exact y0.gv
 refine BX 11 4095 c0 rfl d0 (.yes rfl rfl) (fun _=>Ai rfl) rfl<|BX 12 8191 c0 rfl d0 (.yes rfl rfl) (fun _=>Bp rfl) rfl<|Rv 13 c0 rfl d0 (fun _=>Bo rfl rfl)<|Rv 14 c0 rfl d0 (fun _=>Ai rfl)<|Rv 15 c0 rfl d0 (fun _=>FV.gtrN (i:=q0) (j:=0) rfl rfl)<|Rv 16 c0 rfl d0 (fun _=>Ai rfl)<|RD.ifd (s:=61) rfl h (fun g1 h=>?_) (fun g1 h=>?_)
 refine BK 1048575 4 [(17,62),(18,63),(19,64)] (F:=[(61,true)]) (U:=[]) c0 d0 (.cons rfl .nil) .nil ?_
 dsimp only [offS,List.map]
 refine Rv 20 c0 rfl d0 (fun _=>BM rfl rfl)<|BN 21 4194303 c0 rfl .plain rfl (AK (α:=Bool) (xs:=([j0,(!(mgetD g0 b0.fx false)),(!p0),true]:List Bool)) (vs:=[.bool j0,.bool (!(mgetD g0 b0.fx false)),.bool (!p0),.bool true]) (ds' :=[.bool j0,.bool (!(mgetD g0 b0.fx false)),.bool (!p0),.bool true]) rfl s0 el142 rfl (e4 rfl rfl rfl rfl) (by kernel_rfl) rfl) fun b3 C2 z0 E1=>bk h fun s2 Z1 h=>BO 22 8388607 8388608 (.bool s2) c0 rfl d0 (bd 116) rfl (e1 rfl) (fun w9 hw9=>bG_c n (z0.hL0 hL hw9) (Aq (St.lend (α:=Bool) (L:=L) z0 .hd (AB (cs:=[.bool j0,.bool (!(mgetD g0 b0.fx false)),.bool (!p0),.bool true]) (xs:=(([j0,(!(mgetD g0 b0.fx false)),(!p0),true]:List Bool):List Bool)) z0 L (Ar (cs:=[.bool j0]) (ds:=[.bool (!(mgetD g0 b0.fx false)),.bool (!p0),.bool true]) rfl (Ar (cs:=[.bool (!(mgetD g0 b0.fx false))]) (ds:=[.bool (!p0),.bool true]) rfl (Ar (cs:=[.bool (!p0)]) (ds:=[.bool true]) rfl (Ar (cs:=[.bool true]) (ds:=[]) rfl (AJ _ _)))))) hL) hw9) Z1) rfl<|Rv 23 c0 rfl d0 (fun _=>Bp rfl)<|AN (dk c0)<|BU rfl h (fun j1 h=>?_) (fun j1 h=>?_)
 refine Au<|Ac<|Ae rfl<|AR 0 rfl<|AP rfl ((z0.memA .t1) 0 _ rfl)<|RG.now .plain (Acts.mapUpdate (kv:=b0.fx) (vv:=true) z0 .t2 Tryz.underlying160 Tryz.underlying9 rfl rfl rfl rfl) fun c3 M0 F1=>Aa<|Av<|AR 5 rfl<|AP rfl ((M0.memA .t1) 5 _ rfl)<|Af rfl<|Aa<|AC<|Av<|Ab (Bw (i:=q0) (j:=1) rfl rfl (by omega))<|Ae rfl<|Aa ?_
 obtain ⟨v1,G1⟩:=AG M0 .d2
 exact D0 (b0.fu,q0 + 1,mset g0 b0.fx true) v1 (Tt E0 (Tt t0 (Tt v0 (Tt E1 (Tt F1 G1))))) h
 refine Ac<|Af rfl<|Aa ?_
 have h:=thn_inl h C0
 refine Al rfl<|AW hb0 Tryz.func80 rfl rfl ?_
 cases h
 exact z0.gv
 refine BX 17 262143 c0 rfl d0 (.yes rfl rfl) (fun _=>Bb 5 rfl) rfl<|RD.val (i:=18) (m' :=524287) (W:=16252928) (tk c0) rfl d0 (.yes rfl rfl) (AL rfl ((s0.memA .hd) 5 _ rfl)) rfl<|BX 19 1048575 c0 rfl d0 (.yes rfl rfl) (fun _=>Bp rfl) rfl<|Rv 20 c0 rfl d0 (fun _=>Bo rfl rfl)<|BN 21 4194303 c0 rfl .plain rfl (AK (α:=Bool) (xs:=([j0,(!(mgetD g0 b0.fx false)),(!p0),(!b0.fu)]:List Bool)) (vs:=[.bool j0,.bool (!(mgetD g0 b0.fx false)),.bool (!p0),.bool (!b0.fu)]) (ds' :=[.bool j0,.bool (!(mgetD g0 b0.fx false)),.bool (!p0),.bool (!b0.fu)]) rfl s0 el142 rfl (e4 rfl rfl rfl rfl) (by kernel_rfl) rfl) fun d3 D2 A0 H1=>bk h fun u2 b2 h=>BO 22 8388607 8388608 (.bool u2) c0 rfl d0 (bd 116) rfl (e1 rfl) (fun w9 hw9=>bG_c n (A0.hL0 hL hw9) (Aq (St.lend (α:=Bool) (L:=L) A0 .hd (AB (cs:=[.bool j0,.bool (!(mgetD g0 b0.fx false)),.bool (!p0),.bool (!b0.fu)]) (xs:=(([j0,(!(mgetD g0 b0.fx false)),(!p0),(!b0.fu)]:List Bool):List Bool)) A0 L (Ar (cs:=[.bool j0]) (ds:=[.bool (!(mgetD g0 b0.fx false)),.bool (!p0),.bool (!b0.fu)]) rfl (Ar (cs:=[.bool (!(mgetD g0 b0.fx false))]) (ds:=[.bool (!p0),.bool (!b0.fu)]) rfl (Ar (cs:=[.bool (!p0)]) (ds:=[.bool (!b0.fu)]) rfl (Ar (cs:=[.bool (!b0.fu)]) (ds:=[]) rfl (AJ _ _)))))) hL) hw9) b2) rfl<|Rv 23 c0 rfl d0 (fun _=>Bp rfl)<|AN (dk c0)<|BU rfl h (fun k1 h=>?_) (fun k1 h=>?_)
 refine Au<|Ac<|Ae rfl<|AR 0 rfl<|AP rfl ((A0.memA .t1) 0 _ rfl)<|RG.now .plain (Acts.mapUpdate (kv:=b0.fx) (vv:=true) A0 .t2 Tryz.underlying160 Tryz.underlying9 rfl rfl rfl rfl) fun g3 P0 I1=>Aa<|Av<|AR 5 rfl<|AP rfl ((P0.memA .t1) 5 _ rfl)<|Af rfl<|Aa<|AC<|Av<|Ab (Bw (i:=q0) (j:=1) rfl rfl (by omega))<|Ae rfl<|Aa ?_
 obtain ⟨x1,J1⟩:=AG P0 .d2
 exact D0 (b0.fu,q0 + 1,mset g0 b0.fx true) x1 (Tt E0 (Tt t0 (Tt v0 (Tt H1 (Tt I1 J1))))) h
 refine Ac<|Af rfl<|Aa ?_
 have h:=thn_inl h C0
 refine Al rfl<|AW hb0 Tryz.func80 rfl rfl ?_
 cases h
 exact A0.gv
 refine Bd rfl ?_
 have h:=thn_inr h C0
 try dsimp only at h
 refine Ac<|Af rfl<|Aa<|Al rfl<|AW hb0 Tryz.func80 rfl rfl ?_
 cases h
 exact F0.gv
 refine Ac<|Af rfl<|Aa<|Al rfl<|AW hb0 Tryz.func80 rfl rfl ?_
 cases h
 exact B0.gv
structure Tl where
  fA:Td
  fk:Int
  deriving DecidableEq
instance:Rep Tl:=Rep.via (β:=Td × Int) fun x=>(x.fA,x.fk)
def aB_p (n:Nat) (a0:Td) (a1:Int):Option (Except Tg Tl):=
  (bV_p n a0).bind fun g0=>(cT_p n g0).bind fun j0=>exc j0 (fun _y23=>(if a1 < 1 then (ae_p n true (2:Int)).bind fun k0=>exc k0 (fun _y32=>some (.ok (⟨a0,a1⟩:Tl))) (fun c0=>some (.error c0)) else (ae_p n (decide (8 < a1)) (2:Int)).bind fun p0=>exc p0 (fun _y47=>some (.ok (⟨a0,a1⟩:Tl))) (fun d0=>some (.error d0)))) (fun b0=>some (.error b0))
theorem aB_c (n:Nat) {L w} (hL:hl L w) (a0:Td) {v0_3:Value} (h0_3:Rep.R w L [v0_3] a0.fo) {a1:Int}  {r:Except Tg Tl} (h:aB_p n a0 a1 = some r) :
 Cl 38 #[.agg #[vI a0.fe,vI a0.fh,vI a0.fj,v0_3],vI a1] w (PGives w (fun (y:Tl) w' u=>∃ v0_3:Value,u = .agg #[vI y.fA.fe,vI y.fA.fh,vI y.fA.fj,v0_3,vI y.fk]/\Rep.R w' L [v0_3] y.fA.fo) (fun e=>.iface 120 (.agg #[vI e.fB])) r):=by
 unfold aB_p at h
 refine MX.startP Tryz.func38 rfl rfl rfl fun _ cs0 hb0 hp0=>Ac<|RG.bx (Az w) rfl rfl fun c1 I0 u0 U0=>RG.nl [vI 0,vI 0,vI 0,vN,vI 0] u0 fun d1 J0 b0 V0=>Aa<|Ac<|Ab (AH rfl (b0.memA .t1))<|bk h fun F0 E0 h=>Ba (vI F0) (bd 80) rfl (e1 rfl) (fun w9 hw9=>bV_c n (b0.hL0 hL hw9) a0 (b0.k0 h0_3 hw9) E0) rfl<|xk h (fun P0 g0 h=>?_) (fun s1 g0 h=>?_)
 refine BH (fst:=[]) (cap:=[]) .plain (bd 79) rfl (e1 rfl) (fun w9 hw9=>cT_c n (b0.hL0 hL hw9)  g0) fun g1 z0=>?_
 obtain ⟨v0,W0⟩:=b0.agr z0
 cases h
 exact Bl hp0 Tryz.func38 ⟨v0.ag,rfl⟩
 refine Ba (.tuple #[]) (bd 79) rfl (e1 rfl) (fun w9 hw9=>Bi (cT_c n (b0.hL0 hL hw9)  g0)) rfl<|Aa<|Ac<|Ae rfl<|Ab (BS (i:=a1) (j:=1) rfl rfl)<|Ae rfl<|BD (s:=10) rfl h (fun t0 h=>?_) (fun t0 h=>?_)
 refine Ap<|Ap<|Bh rfl rfl<|xk h (fun Q0 j0 h=>?_) (fun u1 j0 h=>?_)
 refine BH (fst:=[]) (cap:=[]) .plain (bd 63) rfl (e2 rfl rfl) (fun w9 hw9=>ae_c n (b0.hL0 hL hw9)  j0) fun j1 A0=>?_
 obtain ⟨x0,X0⟩:=b0.agr A0
 cases h
 exact Bl hp0 Tryz.func38 ⟨x0.ag,rfl⟩
 refine Ba (.tuple #[]) (bd 63) rfl (e2 rfl rfl) (fun w9 hw9=>Bi (ae_c n (b0.hL0 hL hw9)  j0)) rfl<|Aa<|Ac<|Ab (AH rfl (b0.memA .t1))<|Ae rfl ?_
 have q0:=AS h0_3 b0
 obtain ⟨G0,K0,C0,_⟩:=BV q0
 refine Ab (AU (vs:=[.agg #[vI a0.fe,vI a0.fh,vI a0.fj,v0_3],vI a1]) (u:=.agg #[vI a0.fe,vI a0.fh,vI a0.fj,v0_3,vI a1]) (e2 rfl rfl) (fun w9=>by rw [C0]; try kernel_rfl))<|AQ [vI a0.fe,vI a0.fh,vI a0.fj,v0_3,vI a1] b0 .hd (o5 rfl rfl rfl (AO q0) rfl) fun k1 c0 Y0=>Aa<|Al rfl<|Am hb0 Tryz.func38 rfl (.cons (.many (cs:=[vI a0.fe,vI a0.fh,vI a0.fj,v0_3,vI a1]) (by kernel_rfl) rfl (c0.memA .hd)) .nil) rfl ?_
 cases h
 exact ⟨c0.ag,fun w9 hw9=>okOf_in ⟨v0_3,rfl,c0.k0 h0_3 hw9⟩⟩
 refine AE (Ai rfl)<|AE (FV.gtr (i:=a1) (j:=8) rfl rfl)<|Bv rfl rfl<|xk h (fun R0 p0 h=>?_) (fun v1 p0 h=>?_)
 refine BH (fst:=[]) (cap:=[]) .plain (bd 63) rfl (e2 rfl rfl) (fun w9 hw9=>ae_c n (b0.hL0 hL hw9)  p0) fun p1 B0=>?_
 obtain ⟨y0,Z0⟩:=b0.agr B0
 cases h
 exact Bl hp0 Tryz.func38 ⟨y0.ag,rfl⟩
 refine Ba (.tuple #[]) (bd 63) rfl (e2 rfl rfl) (fun w9 hw9=>Bi (ae_c n (b0.hL0 hL hw9)  p0)) rfl<|Aa<|Ac<|Ab (AH rfl (b0.memA .t1))<|Ae rfl ?_
 have s0:=AS h0_3 b0
 obtain ⟨H0,M0,D0,_⟩:=BV s0
 refine Ab (AU (vs:=[.agg #[vI a0.fe,vI a0.fh,vI a0.fj,v0_3],vI a1]) (u:=.agg #[vI a0.fe,vI a0.fh,vI a0.fj,v0_3,vI a1]) (e2 rfl rfl) (fun w9=>by rw [D0]; try kernel_rfl))<|AQ [vI a0.fe,vI a0.fh,vI a0.fj,v0_3,vI a1] b0 .hd (o5 rfl rfl rfl (AO s0) rfl) fun q1 d0 b1=>Aa<|Al rfl<|Am hb0 Tryz.func38 rfl (.cons (.many (cs:=[vI a0.fe,vI a0.fh,vI a0.fj,v0_3,vI a1]) (by kernel_rfl) rfl (d0.memA .hd)) .nil) rfl ?_
 cases h
 exact ⟨d0.ag,fun w9 hw9=>okOf_in ⟨v0_3,rfl,d0.k0 h0_3 hw9⟩⟩
structure Ta where
  fN:UInt64 × UInt64 × UInt64 × UInt64 × UInt64 × UInt64 × UInt64 × UInt64
  fD:UInt64 × UInt64 × UInt64 × UInt64 × UInt64 × UInt64 × UInt64 × UInt64
  deriving DecidableEq
instance:Rep Ta:=Rep.via (β:=(UInt64 × UInt64 × UInt64 × UInt64 × UInt64 × UInt64 × UInt64 × UInt64) × (UInt64 × UInt64 × UInt64 × UInt64 × UInt64 × UInt64 × UInt64 × UInt64)) fun x=>(x.fN,x.fD)
def cs_Ta (x:Ta):List Value:=[vU x.fN.1,vU x.fN.2.1,vU x.fN.2.2.1,vU x.fN.2.2.2.1,vU x.fN.2.2.2.2.1,vU x.fN.2.2.2.2.2.1,vU x.fN.2.2.2.2.2.2.1,vU x.fN.2.2.2.2.2.2.2,vU x.fD.1,vU x.fD.2.1,vU x.fD.2.2.1,vU x.fD.2.2.2.1,vU x.fD.2.2.2.2.1,vU x.fD.2.2.2.2.2.1,vU x.fD.2.2.2.2.2.2.1,vU x.fD.2.2.2.2.2.2.2]
def ab_p (_n:Nat) (a0:Ta) (a1:Int):Option (Except Tg Ta):=
  (if a1 = 0 then some (.ok a0) else some (.error (⟨a1⟩:Tg)))
theorem ab_c (n:Nat) {L w} (_hL:hl L w) (a0:Ta) {a1:Int}  {r:Except Tg Ta} (h:ab_p n a0 a1 = some r) :
 Cl 64 #[.agg ((cs_Ta a0)).toArray,vI a1] w (PGives w (fun (y:Ta) _ u=>u = .agg ((cs_Ta y)).toArray) (fun e=>.iface 120 (.agg #[vI e.fB])) r):=by
 unfold ab_p at h
 refine MX.startP Tryz.func64 rfl rfl rfl fun _ cs0 hb0 hp0=>Ac<|RG.bx (Az w) rfl rfl fun t0 j0 g0 p0=>RG.nl zL g0 fun u0 k0 b0 q0=>Aa<|Aj<|Ac<|Ae rfl<|Ab (BP (i:=a1) (j:=0) rfl rfl)<|Aa<|MX.ifn rfl h (fun d0 h=>?_) (fun d0 h=>?_)
 refine Au<|Ac<|Ab (AH rfl (b0.memA .t1))<|AQ (cs_Ta a0) b0 .hd (onesB rfl) fun v0 c0 s0=>Aa<|Al rfl<|Am hb0 Tryz.func64 rfl (.cons (.many (cs:=(cs_Ta a0)) (by kernel_rfl) rfl (c0.memA .hd)) .nil) rfl ?_
 cases h
 exact ⟨c0.ag,fun w9 hw9=>okOf_in rfl⟩
 refine Av<|Ae rfl<|Ab (AU (vs:=[vI a1]) (u:=.agg #[vI a1]) (e1 rfl) (fun w9=>by kernel_rfl))<|Ab (FV.makeInterface (by kernel_rfl) rfl)<|RG.panic .plain rfl ?_
 cases h
 exact Bl hp0 Tryz.func64 ⟨b0.ag,rfl⟩
def cs_A34 (x:UInt64 × UInt64 × UInt64 × UInt64 × UInt64 × UInt64 × UInt64 × UInt64):List Value:=[vU x.1,vU x.2.1,vU x.2.2.1,vU x.2.2.2.1,vU x.2.2.2.2.1,vU x.2.2.2.2.2.1,vU x.2.2.2.2.2.2.1,vU x.2.2.2.2.2.2.2]
def bL_p (_n:Nat) (a0:UInt64 × UInt64 × UInt64 × UInt64 × UInt64 × UInt64 × UInt64 × UInt64) (a1:UInt64 × UInt64 × UInt64 × UInt64 × UInt64 × UInt64 × UInt64 × UInt64):Option ((UInt64 × UInt64 × UInt64 × UInt64 × UInt64 × UInt64 × UInt64 × UInt64) × UInt64):=
  (sub64 a0.1 a1.1 (0:UInt64)).bind fun b0=>(sub64 a0.2.1 a1.2.1 b0.2).bind fun c0=>(sub64 a0.2.2.1 a1.2.2.1 c0.2).bind fun d0=>(sub64 a0.2.2.2.1 a1.2.2.2.1 d0.2).bind fun g0=>(sub64 a0.2.2.2.2.1 a1.2.2.2.2.1 g0.2).bind fun j0=>(sub64 a0.2.2.2.2.2.1 a1.2.2.2.2.2.1 j0.2).bind fun k0=>(sub64 a0.2.2.2.2.2.2.1 a1.2.2.2.2.2.2.1 k0.2).bind fun p0=>(sub64 a0.2.2.2.2.2.2.2 a1.2.2.2.2.2.2.2 p0.2).bind fun q0=>some ((b0.1,c0.1,d0.1,g0.1,j0.1,k0.1,p0.1,q0.1),q0.2)
theorem bL_c (n:Nat) {L w} (_hL:hl L w) (a0:UInt64 × UInt64 × UInt64 × UInt64 × UInt64 × UInt64 × UInt64 × UInt64) (a1:UInt64 × UInt64 × UInt64 × UInt64 × UInt64 × UInt64 × UInt64 × UInt64)  {r:(UInt64 × UInt64 × UInt64 × UInt64 × UInt64 × UInt64 × UInt64 × UInt64) × UInt64} (h:bL_p n a0 a1 = some r) :
 Cl 196 #[.agg ((cs_A34 a0)).toArray,.agg ((cs_A34 a1)).toArray] w (Gives w fun _ u=>u = .tuple #[.agg ((cs_A34 r.1)).toArray,vU r.2]):=by
 unfold bL_p at h
 refine AD Tryz.func196 rfl rfl rfl fun _ cs0 hb0=>Ac<|RG.bx (Az w) rfl rfl fun J1 s1 Y0 x1=>RG.bx Y0 rfl rfl fun K1 u1 Z0 y1=>RG.nl zP Z0 fun M1 v1 J0 z1=>Af rfl<|Aa<|Ac<|Af rfl<|Aa<|Aj<|Ac<|Ae rfl<|Aa<|AA<|MX.loop1<|Ac<|Ab (Bu (i:=0) (j:=8) rfl rfl)<|Aa<|Aj<|Bk rfl<|Au<|Aj<|AA<|Ac<|Ae rfl<|Af rfl<|Aa<|du 13 fun c0 v0=>Rv 0 c0 rfl v0 (fun _=>Ai rfl)<|Rv 1 c0 rfl v0 (fun _=>Ai rfl)<|Rv 2 c0 rfl v0 (fun _=>Bg (m:=1) (k:=0) (len:=8) (by kernel_rfl) rfl rfl rfl (by omega))<|Rx 3 32512 c0 rfl v0 (AL rfl ((J0.memA .t2) 0 _ rfl))<|Rv 4 c0 rfl v0 (fun _=>Ai rfl)<|Rv 5 c0 rfl v0 (fun _=>Bg (m:=1) (k:=0) (len:=8) (by kernel_rfl) rfl rfl rfl (by omega))<|Rx 6 32512 c0 rfl v0 (AL rfl ((J0.memA .t1) 0 _ rfl))<|Rv 7 c0 rfl v0 (fun _=>Ai rfl)<|bk h fun b0 b1 h=>Rv 8 c0 rfl v0 (fun _=>FV.sub64 (a:=a0.1) (b:=a1.1) (c:=(0:UInt64)) Tryz.func206 rfl (by kernel_rfl) (by kernel_rfl) (by kernel_rfl) rfl rfl rfl b1)<|Rv 9 c0 rfl v0 (fun _=>Ai rfl)<|Rv 10 c0 rfl v0 (fun _=>Ag rfl rfl) ?_
 refine Rv 11 c0 rfl v0 (fun _=>Ag rfl rfl)<|Rv 12 c0 rfl v0 (fun _=>Bg (m:=1) (k:=0) (len:=8) (by kernel_rfl) rfl rfl rfl (by omega))<|BE 13 16383 c0 rfl rfl .plain (BQ (j:=0) (old:=(cs_A34 a0)) (news:=[vU b0.1]) (new' :=[vU b0.1,vU a0.2.1,vU a0.2.2.1,vU a0.2.2.2.1,vU a0.2.2.2.2.1,vU a0.2.2.2.2.2.1,vU a0.2.2.2.2.2.2.1,vU a0.2.2.2.2.2.2.2]) J0 .t2 rfl rfl rfl rfl rfl rfl (o1 rfl) rfl) fun P1 K0 A1=>Bf (i:=14) (rk c0) (Bs (m' :=32767) (sk c0) rfl .plain rfl (AV rfl) ?_)
 refine AN (dk c0)<|AC<|Av<|Ab (FV.add (i:=0) (j:=1) (r:=1) rfl rfl (by decide))<|Ae rfl<|Aa<|MX.again1<|Ac<|Ab (Bu (i:=1) (j:=8) rfl rfl)<|Aa<|Aj<|Bk rfl<|Au<|Aj<|AA<|Ac<|Ae rfl<|Af rfl<|Aa<|du 13 fun d0 x0=>Rv 0 d0 rfl x0 (fun _=>Ai rfl)<|Rv 1 d0 rfl x0 (fun _=>Ai rfl)<|Rv 2 d0 rfl x0 (fun _=>Bg (m:=1) (k:=1) (len:=8) (by kernel_rfl) rfl rfl rfl (by omega))<|Rx 3 32512 d0 rfl x0 (AL rfl ((K0.memA .t2) 1 _ rfl))<|Rv 4 d0 rfl x0 (fun _=>Ai rfl)<|Rv 5 d0 rfl x0 (fun _=>Bg (m:=1) (k:=1) (len:=8) (by kernel_rfl) rfl rfl rfl (by omega))<|Rx 6 32512 d0 rfl x0 (AL rfl ((K0.memA .t1) 1 _ rfl))<|Rv 7 d0 rfl x0 (fun _=>Ai rfl)<|bk h fun t0 c1 h=>Rv 8 d0 rfl x0 (fun _=>FV.sub64 (a:=a0.2.1) (b:=a1.2.1) (c:=b0.2) Tryz.func206 rfl (by kernel_rfl) (by kernel_rfl) (by kernel_rfl) rfl rfl rfl c1)<|Rv 9 d0 rfl x0 (fun _=>Ai rfl)<|Rv 10 d0 rfl x0 (fun _=>Ag rfl rfl)<|Rv 11 d0 rfl x0 (fun _=>Ag rfl rfl)<|Rv 12 d0 rfl x0 (fun _=>Bg (m:=1) (k:=1) (len:=8) (by kernel_rfl) rfl rfl rfl (by omega))<|BE 13 16383 d0 rfl rfl .plain (BQ (j:=1) (old:=[vU b0.1,vU a0.2.1,vU a0.2.2.1,vU a0.2.2.2.1,vU a0.2.2.2.2.1,vU a0.2.2.2.2.2.1,vU a0.2.2.2.2.2.2.1,vU a0.2.2.2.2.2.2.2]) (news:=[vU t0.1]) (new' :=[vU b0.1,vU t0.1,vU a0.2.2.1,vU a0.2.2.2.1,vU a0.2.2.2.2.1,vU a0.2.2.2.2.2.1,vU a0.2.2.2.2.2.2.1,vU a0.2.2.2.2.2.2.2]) K0 .t2 rfl rfl rfl rfl rfl rfl (o1 rfl) rfl) fun Q1 M0 B1=>Bf (i:=14) (rk d0) (Bs (m' :=32767) (sk d0) rfl .plain rfl (AV rfl) ?_)
 refine AN (dk d0)<|AC<|Av<|Ab (FV.add (i:=1) (j:=1) (r:=2) rfl rfl (by decide))<|Ae rfl<|Aa<|MX.again1<|Ac<|Ab (Bu (i:=2) (j:=8) rfl rfl)<|Aa<|Aj<|Bk rfl<|Au<|Aj<|AA<|Ac<|Ae rfl<|Af rfl<|Aa<|du 13 fun g0 y0=>Rv 0 g0 rfl y0 (fun _=>Ai rfl)<|Rv 1 g0 rfl y0 (fun _=>Ai rfl)<|Rv 2 g0 rfl y0 (fun _=>Bg (m:=1) (k:=2) (len:=8) (by kernel_rfl) rfl rfl rfl (by omega))<|Rx 3 32512 g0 rfl y0 (AL rfl ((M0.memA .t2) 2 _ rfl))<|Rv 4 g0 rfl y0 (fun _=>Ai rfl)<|Rv 5 g0 rfl y0 (fun _=>Bg (m:=1) (k:=2) (len:=8) (by kernel_rfl) rfl rfl rfl (by omega))<|Rx 6 32512 g0 rfl y0 (AL rfl ((M0.memA .t1) 2 _ rfl))<|Rv 7 g0 rfl y0 (fun _=>Ai rfl)<|bk h fun u0 d1 h=>Rv 8 g0 rfl y0 (fun _=>FV.sub64 (a:=a0.2.2.1) (b:=a1.2.2.1) (c:=t0.2) Tryz.func206 rfl (by kernel_rfl) (by kernel_rfl) (by kernel_rfl) rfl rfl rfl d1)<|Rv 9 g0 rfl y0 (fun _=>Ai rfl)<|Rv 10 g0 rfl y0 (fun _=>Ag rfl rfl)<|Rv 11 g0 rfl y0 (fun _=>Ag rfl rfl)<|Rv 12 g0 rfl y0 (fun _=>Bg (m:=1) (k:=2) (len:=8) (by kernel_rfl) rfl rfl rfl (by omega))<|BE 13 16383 g0 rfl rfl .plain (BQ (j:=2) (old:=[vU b0.1,vU t0.1,vU a0.2.2.1,vU a0.2.2.2.1,vU a0.2.2.2.2.1,vU a0.2.2.2.2.2.1,vU a0.2.2.2.2.2.2.1,vU a0.2.2.2.2.2.2.2]) (news:=[vU u0.1]) (new' :=[vU b0.1,vU t0.1,vU u0.1,vU a0.2.2.2.1,vU a0.2.2.2.2.1,vU a0.2.2.2.2.2.1,vU a0.2.2.2.2.2.2.1,vU a0.2.2.2.2.2.2.2]) M0 .t2 rfl rfl rfl rfl rfl rfl (o1 rfl) rfl) fun R1 P0 C1=>Bf (i:=14) (rk g0) (Bs (m' :=32767) (sk g0) rfl .plain rfl (AV rfl) ?_)
 refine AN (dk g0)<|AC<|Av<|Ab (FV.add (i:=2) (j:=1) (r:=3) rfl rfl (by decide))<|Ae rfl<|Aa<|MX.again1<|Ac<|Ab (Bu (i:=3) (j:=8) rfl rfl)<|Aa<|Aj<|Bk rfl<|Au<|Aj<|AA<|Ac<|Ae rfl<|Af rfl<|Aa<|du 13 fun j0 z0=>Rv 0 j0 rfl z0 (fun _=>Ai rfl)<|Rv 1 j0 rfl z0 (fun _=>Ai rfl)<|Rv 2 j0 rfl z0 (fun _=>Bg (m:=1) (k:=3) (len:=8) (by kernel_rfl) rfl rfl rfl (by omega))<|Rx 3 32512 j0 rfl z0 (AL rfl ((P0.memA .t2) 3 _ rfl))<|Rv 4 j0 rfl z0 (fun _=>Ai rfl)<|Rv 5 j0 rfl z0 (fun _=>Bg (m:=1) (k:=3) (len:=8) (by kernel_rfl) rfl rfl rfl (by omega))<|Rx 6 32512 j0 rfl z0 (AL rfl ((P0.memA .t1) 3 _ rfl))<|Rv 7 j0 rfl z0 (fun _=>Ai rfl)<|bk h fun E0 g1 h=>Rv 8 j0 rfl z0 (fun _=>FV.sub64 (a:=a0.2.2.2.1) (b:=a1.2.2.2.1) (c:=u0.2) Tryz.func206 rfl (by kernel_rfl) (by kernel_rfl) (by kernel_rfl) rfl rfl rfl g1)<|Rv 9 j0 rfl z0 (fun _=>Ai rfl)<|Rv 10 j0 rfl z0 (fun _=>Ag rfl rfl)<|Rv 11 j0 rfl z0 (fun _=>Ag rfl rfl)<|Rv 12 j0 rfl z0 (fun _=>Bg (m:=1) (k:=3) (len:=8) (by kernel_rfl) rfl rfl rfl (by omega))<|BE 13 16383 j0 rfl rfl .plain (BQ (j:=3) (old:=[vU b0.1,vU t0.1,vU u0.1,vU a0.2.2.2.1,vU a0.2.2.2.2.1,vU a0.2.2.2.2.2.1,vU a0.2.2.2.2.2.2.1,vU a0.2.2.2.2.2.2.2]) (news:=[vU E0.1]) (new' :=[vU b0.1,vU t0.1,vU u0.1,vU E0.1,vU a0.2.2.2.2.1,vU a0.2.2.2.2.2.1,vU a0.2.2.2.2.2.2.1,vU a0.2.2.2.2.2.2.2]) P0 .t2 rfl rfl rfl rfl rfl rfl (o1 rfl) rfl) fun U1 Q0 D1=>Bf (i:=14) (rk j0) (Bs (m' :=32767) (sk j0) rfl .plain rfl (AV rfl) ?_)
 refine AN (dk j0)<|AC<|Av<|Ab (FV.add (i:=3) (j:=1) (r:=4) rfl rfl (by decide))<|Ae rfl<|Aa<|MX.again1<|Ac<|Ab (Bu (i:=4) (j:=8) rfl rfl)<|Aa<|Aj<|Bk rfl<|Au<|Aj<|AA<|Ac<|Ae rfl<|Af rfl<|Aa<|du 13 fun k0 A0=>Rv 0 k0 rfl A0 (fun _=>Ai rfl)<|Rv 1 k0 rfl A0 (fun _=>Ai rfl)<|Rv 2 k0 rfl A0 (fun _=>Bg (m:=1) (k:=4) (len:=8) (by kernel_rfl) rfl rfl rfl (by omega))<|Rx 3 32512 k0 rfl A0 (AL rfl ((Q0.memA .t2) 4 _ rfl))<|Rv 4 k0 rfl A0 (fun _=>Ai rfl)<|Rv 5 k0 rfl A0 (fun _=>Bg (m:=1) (k:=4) (len:=8) (by kernel_rfl) rfl rfl rfl (by omega))<|Rx 6 32512 k0 rfl A0 (AL rfl ((Q0.memA .t1) 4 _ rfl))<|Rv 7 k0 rfl A0 (fun _=>Ai rfl)<|bk h fun F0 j1 h=>Rv 8 k0 rfl A0 (fun _=>FV.sub64 (a:=a0.2.2.2.2.1) (b:=a1.2.2.2.2.1) (c:=E0.2) Tryz.func206 rfl (by kernel_rfl) (by kernel_rfl) (by kernel_rfl) rfl rfl rfl j1)<|Rv 9 k0 rfl A0 (fun _=>Ai rfl)<|Rv 10 k0 rfl A0 (fun _=>Ag rfl rfl)<|Rv 11 k0 rfl A0 (fun _=>Ag rfl rfl)<|Rv 12 k0 rfl A0 (fun _=>Bg (m:=1) (k:=4) (len:=8) (by kernel_rfl) rfl rfl rfl (by omega))<|BE 13 16383 k0 rfl rfl .plain (BQ (j:=4) (old:=[vU b0.1,vU t0.1,vU u0.1,vU E0.1,vU a0.2.2.2.2.1,vU a0.2.2.2.2.2.1,vU a0.2.2.2.2.2.2.1,vU a0.2.2.2.2.2.2.2]) (news:=[vU F0.1]) (new' :=[vU b0.1,vU t0.1,vU u0.1,vU E0.1,vU F0.1,vU a0.2.2.2.2.2.1,vU a0.2.2.2.2.2.2.1,vU a0.2.2.2.2.2.2.2]) Q0 .t2 rfl rfl rfl rfl rfl rfl (o1 rfl) rfl) fun V1 R0 E1=>Bf (i:=14) (rk k0) (Bs (m' :=32767) (sk k0) rfl .plain rfl (AV rfl) ?_)
 refine AN (dk k0)<|AC<|Av<|Ab (FV.add (i:=4) (j:=1) (r:=5) rfl rfl (by decide))<|Ae rfl<|Aa<|MX.again1<|Ac<|Ab (Bu (i:=5) (j:=8) rfl rfl)<|Aa<|Aj<|Bk rfl<|Au<|Aj<|AA<|Ac<|Ae rfl<|Af rfl<|Aa<|du 13 fun p0 B0=>Rv 0 p0 rfl B0 (fun _=>Ai rfl)<|Rv 1 p0 rfl B0 (fun _=>Ai rfl)<|Rv 2 p0 rfl B0 (fun _=>Bg (m:=1) (k:=5) (len:=8) (by kernel_rfl) rfl rfl rfl (by omega))<|Rx 3 32512 p0 rfl B0 (AL rfl ((R0.memA .t2) 5 _ rfl))<|Rv 4 p0 rfl B0 (fun _=>Ai rfl)<|Rv 5 p0 rfl B0 (fun _=>Bg (m:=1) (k:=5) (len:=8) (by kernel_rfl) rfl rfl rfl (by omega))<|Rx 6 32512 p0 rfl B0 (AL rfl ((R0.memA .t1) 5 _ rfl))<|Rv 7 p0 rfl B0 (fun _=>Ai rfl)<|bk h fun G0 k1 h=>Rv 8 p0 rfl B0 (fun _=>FV.sub64 (a:=a0.2.2.2.2.2.1) (b:=a1.2.2.2.2.2.1) (c:=F0.2) Tryz.func206 rfl (by kernel_rfl) (by kernel_rfl) (by kernel_rfl) rfl rfl rfl k1)<|Rv 9 p0 rfl B0 (fun _=>Ai rfl)<|Rv 10 p0 rfl B0 (fun _=>Ag rfl rfl)<|Rv 11 p0 rfl B0 (fun _=>Ag rfl rfl)<|Rv 12 p0 rfl B0 (fun _=>Bg (m:=1) (k:=5) (len:=8) (by kernel_rfl) rfl rfl rfl (by omega))<|BE 13 16383 p0 rfl rfl .plain (BQ (j:=5) (old:=[vU b0.1,vU t0.1,vU u0.1,vU E0.1,vU F0.1,vU a0.2.2.2.2.2.1,vU a0.2.2.2.2.2.2.1,vU a0.2.2.2.2.2.2.2]) (news:=[vU G0.1]) (new' :=[vU b0.1,vU t0.1,vU u0.1,vU E0.1,vU F0.1,vU G0.1,vU a0.2.2.2.2.2.2.1,vU a0.2.2.2.2.2.2.2]) R0 .t2 rfl rfl rfl rfl rfl rfl (o1 rfl) rfl) fun W1 U0 F1=>Bf (i:=14) (rk p0) (Bs (m' :=32767) (sk p0) rfl .plain rfl (AV rfl) ?_)
 refine AN (dk p0)<|AC<|Av<|Ab (FV.add (i:=5) (j:=1) (r:=6) rfl rfl (by decide))<|Ae rfl<|Aa<|MX.again1<|Ac<|Ab (Bu (i:=6) (j:=8) rfl rfl)<|Aa<|Aj<|Bk rfl<|Au<|Aj<|AA<|Ac<|Ae rfl<|Af rfl<|Aa<|du 13 fun q0 C0=>Rv 0 q0 rfl C0 (fun _=>Ai rfl)<|Rv 1 q0 rfl C0 (fun _=>Ai rfl)<|Rv 2 q0 rfl C0 (fun _=>Bg (m:=1) (k:=6) (len:=8) (by kernel_rfl) rfl rfl rfl (by omega))<|Rx 3 32512 q0 rfl C0 (AL rfl ((U0.memA .t2) 6 _ rfl))<|Rv 4 q0 rfl C0 (fun _=>Ai rfl)<|Rv 5 q0 rfl C0 (fun _=>Bg (m:=1) (k:=6) (len:=8) (by kernel_rfl) rfl rfl rfl (by omega))<|Rx 6 32512 q0 rfl C0 (AL rfl ((U0.memA .t1) 6 _ rfl))<|Rv 7 q0 rfl C0 (fun _=>Ai rfl)<|bk h fun H0 p1 h=>Rv 8 q0 rfl C0 (fun _=>FV.sub64 (a:=a0.2.2.2.2.2.2.1) (b:=a1.2.2.2.2.2.2.1) (c:=G0.2) Tryz.func206 rfl (by kernel_rfl) (by kernel_rfl) (by kernel_rfl) rfl rfl rfl p1)<|Rv 9 q0 rfl C0 (fun _=>Ai rfl)<|Rv 10 q0 rfl C0 (fun _=>Ag rfl rfl)<|Rv 11 q0 rfl C0 (fun _=>Ag rfl rfl)<|Rv 12 q0 rfl C0 (fun _=>Bg (m:=1) (k:=6) (len:=8) (by kernel_rfl) rfl rfl rfl (by omega))<|BE 13 16383 q0 rfl rfl .plain (BQ (j:=6) (old:=[vU b0.1,vU t0.1,vU u0.1,vU E0.1,vU F0.1,vU G0.1,vU a0.2.2.2.2.2.2.1,vU a0.2.2.2.2.2.2.2]) (news:=[vU H0.1]) (new' :=[vU b0.1,vU t0.1,vU u0.1,vU E0.1,vU F0.1,vU G0.1,vU H0.1,vU a0.2.2.2.2.2.2.2]) U0 .t2 rfl rfl rfl rfl rfl rfl (o1 rfl) rfl) fun X1 V0 G1=>Bf (i:=14) (rk q0) (Bs (m' :=32767) (sk q0) rfl .plain rfl (AV rfl) ?_)
 refine AN (dk q0)<|AC<|Av<|Ab (FV.add (i:=6) (j:=1) (r:=7) rfl rfl (by decide))<|Ae rfl<|Aa<|MX.again1<|Ac<|Ab (Bu (i:=7) (j:=8) rfl rfl)<|Aa<|Aj<|Bk rfl<|Au<|Aj<|AA<|Ac<|Ae rfl<|Af rfl<|Aa<|du 13 fun s0 D0=>Rv 0 s0 rfl D0 (fun _=>Ai rfl)<|Rv 1 s0 rfl D0 (fun _=>Ai rfl)<|Rv 2 s0 rfl D0 (fun _=>Bg (m:=1) (k:=7) (len:=8) (by kernel_rfl) rfl rfl rfl (by omega))<|Rx 3 32512 s0 rfl D0 (AL rfl ((V0.memA .t2) 7 _ rfl))<|Rv 4 s0 rfl D0 (fun _=>Ai rfl)<|Rv 5 s0 rfl D0 (fun _=>Bg (m:=1) (k:=7) (len:=8) (by kernel_rfl) rfl rfl rfl (by omega))<|Rx 6 32512 s0 rfl D0 (AL rfl ((V0.memA .t1) 7 _ rfl))<|Rv 7 s0 rfl D0 (fun _=>Ai rfl)<|bk h fun I0 q1 h=>Rv 8 s0 rfl D0 (fun _=>FV.sub64 (a:=a0.2.2.2.2.2.2.2) (b:=a1.2.2.2.2.2.2.2) (c:=H0.2) Tryz.func206 rfl (by kernel_rfl) (by kernel_rfl) (by kernel_rfl) rfl rfl rfl q1)<|Rv 9 s0 rfl D0 (fun _=>Ai rfl)<|Rv 10 s0 rfl D0 (fun _=>Ag rfl rfl)<|Rv 11 s0 rfl D0 (fun _=>Ag rfl rfl)<|Rv 12 s0 rfl D0 (fun _=>Bg (m:=1) (k:=7) (len:=8) (by kernel_rfl) rfl rfl rfl (by omega))<|BE 13 16383 s0 rfl rfl .plain (BQ (j:=7) (old:=[vU b0.1,vU t0.1,vU u0.1,vU E0.1,vU F0.1,vU G0.1,vU H0.1,vU a0.2.2.2.2.2.2.2]) (news:=[vU I0.1]) (new' :=[vU b0.1,vU t0.1,vU u0.1,vU E0.1,vU F0.1,vU G0.1,vU H0.1,vU I0.1]) V0 .t2 rfl rfl rfl rfl rfl rfl (o1 rfl) rfl) fun Y1 W0 H1=>Bf (i:=14) (rk s0) (Bs (m' :=32767) (sk s0) rfl .plain rfl (AV rfl) ?_)
 refine AN (dk s0)<|AC<|Av<|Ab (FV.add (i:=7) (j:=1) (r:=8) rfl rfl (by decide))<|Ae rfl<|Aa<|MX.again1<|Ac<|Ab (Bu (i:=8) (j:=8) rfl rfl)<|Aa<|Aj<|BF rfl<|Bd rfl<|Ac<|Ab (AH rfl (W0.memA .t2))<|Ae rfl<|AQ [vU b0.1,vU t0.1,vU u0.1,vU E0.1,vU F0.1,vU G0.1,vU H0.1,vU I0.1] W0 .hd (onesB rfl) fun Z1 X0 I1=>Af rfl<|Aa<|Al rfl<|Am hb0 Tryz.func196 rfl (.cons (.many (cs:=[vU b0.1,vU t0.1,vU u0.1,vU E0.1,vU F0.1,vU G0.1,vU H0.1,vU I0.1]) (by kernel_rfl) rfl (X0.memA .hd)) (.cons (.tmp rfl) .nil)) rfl ?_
 cases h
 exact X0.gv
def bp_l1 (_n:Nat) (a0:UInt64 × UInt64 × UInt64 × UInt64 × UInt64 × UInt64 × UInt64 × UInt64) (a1:UInt64 × UInt64 × UInt64 × UInt64 × UInt64 × UInt64 × UInt64 × UInt64) (g0:Int -> Option (Int ⊕ Unit)):Int -> Option (Int ⊕ Unit)
  | b0=>(if 0 <= b0 then (idx ([a0.1,a0.2.1,a0.2.2.1,a0.2.2.2.1,a0.2.2.2.2.1,a0.2.2.2.2.2.1,a0.2.2.2.2.2.2.1,a0.2.2.2.2.2.2.2]:List UInt64) b0).bind fun c0=>(idx ([a1.1,a1.2.1,a1.2.2.1,a1.2.2.2.1,a1.2.2.2.2.1,a1.2.2.2.2.2.1,a1.2.2.2.2.2.2.1,a1.2.2.2.2.2.2.2]:List UInt64) b0).bind fun d0=>(if c0 = d0 then (chk (b0 - 1)).bind fun j0=>g0 j0 else (if c0 < d0 then some (.inl (-1:Int)) else some (.inl (1:Int)))) else some (.inr ()))
def bp_p (n:Nat) (a0:UInt64 × UInt64 × UInt64 × UInt64 × UInt64 × UInt64 × UInt64 × UInt64) (a1:UInt64 × UInt64 × UInt64 × UInt64 × UInt64 × UInt64 × UInt64 × UInt64):Option Int:=
  thn (loopF (bp_l1 n a0 a1) n 7) (fun _=>some (0:Int))
theorem bp_c (n:Nat) {L w} (_hL:hl L w) (a0:UInt64 × UInt64 × UInt64 × UInt64 × UInt64 × UInt64 × UInt64 × UInt64) (a1:UInt64 × UInt64 × UInt64 × UInt64 × UInt64 × UInt64 × UInt64 × UInt64)  {r:Int} (h:bp_p n a0 a1 = some r) :
 Cl 202 #[.agg ((cs_A34 a0)).toArray,.agg ((cs_A34 a1)).toArray] w (Gives w fun _ u=>u = vI r):=by
 unfold bp_p at h
 refine AD Tryz.func202 rfl rfl rfl fun _ cs0 hb0=>Ac<|RG.bx (Az w) rfl rfl fun V0 p0 E0 Q0=>RG.bx E0 rfl rfl fun W0 q0 F0 R0=>Af rfl<|Aa<|Aj<|Ac<|Af rfl<|Aa<|AA<|tn h fun U0 H0 u0=>MX.lo (α:=Int) (fun b0=>[(2,vP p0),(3,vP q0),(5,vI b0)]) (fun b0=>[.cells q0 (cs_A34 a1) 207,.cells p0 (cs_A34 a0) 207]) (fun b0=>b0) 7 H0 F0 ?_
 rintro P0 b0 X0 D0 c0 G0 h
 unfold bp_l1 at h
 try dsimp only at h
 refine Aj<|Ac<|Ae rfl<|Ab (FV.geq (i:=b0) (j:=0) rfl rfl)<|Aa<|AT rfl h (fun A0 h=>?_) (fun A0 h=>?_)
 refine Au<|Aj<|AA<|Aj<|du 7 fun d0 j0=>Rv 0 d0 rfl j0 (fun _=>Ai rfl)<|bk h fun y0 J0 h=>?_
 obtain ⟨v0,s0⟩:=idx_in J0
 refine Rv 1 d0 rfl j0 (fun _=>Bg (m:=1) (k:=b0.toNat) (len:=8) (by kernel_rfl) rfl rfl v0 (arr_lt s0 rfl))<|Rx 2 64 d0 rfl j0 (AL rfl ((mem_elem1 (p:=⟨p0,0,none⟩) (cs:=([a0.1,a0.2.1,a0.2.2.1,a0.2.2.2.1,a0.2.2.2.2.1,a0.2.2.2.2.2.1,a0.2.2.2.2.2.2.1,a0.2.2.2.2.2.2.2]:List UInt64).map (fun z9:UInt64=>(vU z9:Value)) ++ []) (i:=b0.toNat) (c0.memA .t1) (arr_get (fun z9:UInt64=>(vU z9:Value)) s0)) 0 _ rfl))<|Rv 3 d0 rfl j0 (fun _=>Ai rfl)<|bk h fun z0 K0 h=>?_
 obtain ⟨x0,t0⟩:=idx_in K0
 refine Rv 4 d0 rfl j0 (fun _=>Bg (m:=1) (k:=b0.toNat) (len:=8) (by kernel_rfl) rfl rfl x0 (arr_lt t0 rfl))<|Rx 5 64 d0 rfl j0 (AL rfl ((mem_elem1 (p:=⟨q0,0,none⟩) (cs:=([a1.1,a1.2.1,a1.2.2.1,a1.2.2.2.1,a1.2.2.2.2.1,a1.2.2.2.2.2.1,a1.2.2.2.2.2.2.1,a1.2.2.2.2.2.2.2]:List UInt64).map (fun z9:UInt64=>(vU z9:Value)) ++ []) (i:=b0.toNat) (c0.memA .hd) (arr_get (fun z9:UInt64=>(vU z9:Value)) t0)) 0 _ rfl))<|Rv 6 d0 rfl j0 (fun _=>FV.neqU (a:=y0) (b:=z0) rfl rfl)<|AN (dk d0)<|MX.ifn rfl h (fun B0 h=>?_) (fun B0 h=>?_)
 refine Au<|AC<|Av<|Ae rfl<|bk h fun M0 I0 h=>Ab (FV.subc (i:=b0) (j:=1) rfl rfl I0)<|Af rfl<|Aa<|D0 M0 c0 G0 h
 refine Aj<|Aj<|du 7 fun g0 k0=>Rv 0 g0 rfl k0 (fun _=>Ai rfl)<|Rv 1 g0 rfl k0 (fun _=>Bg (m:=1) (k:=b0.toNat) (len:=8) (by kernel_rfl) rfl rfl v0 (arr_lt s0 rfl))<|Rx 2 64 g0 rfl k0 (AL rfl ((mem_elem1 (p:=⟨p0,0,none⟩) (cs:=([a0.1,a0.2.1,a0.2.2.1,a0.2.2.2.1,a0.2.2.2.2.1,a0.2.2.2.2.2.1,a0.2.2.2.2.2.2.1,a0.2.2.2.2.2.2.2]:List UInt64).map (fun z9:UInt64=>(vU z9:Value)) ++ []) (i:=b0.toNat) (c0.memA .t1) (arr_get (fun z9:UInt64=>(vU z9:Value)) s0)) 0 _ rfl))<|Rv 3 g0 rfl k0 (fun _=>Ai rfl)<|Rv 4 g0 rfl k0 (fun _=>Bg (m:=1) (k:=b0.toNat) (len:=8) (by kernel_rfl) rfl rfl x0 (arr_lt t0 rfl))<|Rx 5 64 g0 rfl k0 (AL rfl ((mem_elem1 (p:=⟨q0,0,none⟩) (cs:=([a1.1,a1.2.1,a1.2.2.1,a1.2.2.2.1,a1.2.2.2.2.1,a1.2.2.2.2.2.1,a1.2.2.2.2.2.2.1,a1.2.2.2.2.2.2.2]:List UInt64).map (fun z9:UInt64=>(vU z9:Value)) ++ []) (i:=b0.toNat) (c0.memA .hd) (arr_get (fun z9:UInt64=>(vU z9:Value)) t0)) 0 _ rfl))<|Rv 6 g0 rfl k0 (fun _=>FV.lssU (a:=y0) (b:=z0) rfl rfl)<|AN (dk g0)<|AT rfl h (fun C0 h=>?_) (fun C0 h=>?_)
 refine Ac<|Af rfl<|Aa ?_
 have h:=thn_inl h u0
 refine Al rfl<|AW hb0 Tryz.func202 rfl rfl ?_
 cases h
 exact c0.gv
 refine Au<|Ac<|Af rfl<|Aa ?_
 have h:=thn_inl h u0
 refine Al rfl<|AW hb0 Tryz.func202 rfl rfl ?_
 cases h
 exact c0.gv
 refine Bd rfl ?_
 have h:=thn_inr h u0
 try dsimp only at h
 refine Ac<|Af rfl<|Aa<|Al rfl<|AW hb0 Tryz.func202 rfl rfl ?_
 cases h
 exact c0.gv
structure To where
  fc:Bool
  fl:UInt64 × UInt64 × UInt64 × UInt64 × UInt64 × UInt64 × UInt64 × UInt64
  deriving DecidableEq
instance:Rep To:=Rep.via (β:=Bool × (UInt64 × UInt64 × UInt64 × UInt64 × UInt64 × UInt64 × UInt64 × UInt64)) fun x=>(x.fc,x.fl)
def cs_To (x:To):List Value:=[.bool x.fc,vU x.fl.1,vU x.fl.2.1,vU x.fl.2.2.1,vU x.fl.2.2.2.1,vU x.fl.2.2.2.2.1,vU x.fl.2.2.2.2.2.1,vU x.fl.2.2.2.2.2.2.1,vU x.fl.2.2.2.2.2.2.2]
def cE_p (n:Nat) (a0:To):Option ((UInt64 × UInt64 × UInt64 × UInt64 × UInt64 × UInt64 × UInt64 × UInt64) × Int):=
  (bp_p n a0.fl ((0:UInt64),(0:UInt64),(0:UInt64),(0:UInt64),(0:UInt64),(0:UInt64),(0:UInt64),(9223372036854775808:UInt64))).bind fun b0=>(if 0 < b0 then some (((0:UInt64),(0:UInt64),(0:UInt64),(0:UInt64),(0:UInt64),(0:UInt64),(0:UInt64),(0:UInt64)),(6:Int)) else (if b0 = 0 then (if a0.fc = true then (bL_p n ((0:UInt64),(0:UInt64),(0:UInt64),(0:UInt64),(0:UInt64),(0:UInt64),(0:UInt64),(0:UInt64)) a0.fl).bind fun c0=>some (c0.1,(0:Int)) else some (((0:UInt64),(0:UInt64),(0:UInt64),(0:UInt64),(0:UInt64),(0:UInt64),(0:UInt64),(0:UInt64)),(6:Int))) else (if a0.fc = true then (bL_p n ((0:UInt64),(0:UInt64),(0:UInt64),(0:UInt64),(0:UInt64),(0:UInt64),(0:UInt64),(0:UInt64)) a0.fl).bind fun d0=>some (d0.1,(0:Int)) else some (a0.fl,(0:Int)))))
theorem cE_c (n:Nat) {L w} (hL:hl L w) (a0:To)  {r:(UInt64 × UInt64 × UInt64 × UInt64 × UInt64 × UInt64 × UInt64 × UInt64) × Int} (h:cE_p n a0 = some r) :
 Cl 187 #[.agg ((cs_To a0)).toArray] w (Gives w fun _ u=>u = .tuple #[.agg ((cs_A34 r.1)).toArray,vI r.2]):=by
 unfold cE_p at h
 refine AD Tryz.func187 rfl rfl rfl fun _ cs0 hb0=>Ac<|RG.bx (Az w) rfl rfl fun Z0 G0 A0 J0=>RG.nl zP A0 fun b1 H0 B0 K0=>Af rfl<|Aa<|Ac<|Ab (AU (vs:=[vW 9223372036854775808]) (u:=.agg #[vW 0,vW 0,vW 0,vW 0,vW 0,vW 0,vW 0,vW 9223372036854775808]) (e1 rfl) (fun w9=>by kernel_rfl))<|RG.nl zP B0 fun c1 I0 C0 M0=>AQ [vW 0,vW 0,vW 0,vW 0,vW 0,vW 0,vW 0,vW 9223372036854775808] C0 .hd (onesB rfl) fun d1 b0 P0=>Aa<|Aj<|Ac<|AR 1 rfl<|Ab (Bc (cs:=(cs_A34 a0.fl)) (by kernel_rfl) rfl (mem_part (b0.memA .t2) 1 8))<|Ab (AH rfl (b0.memA .hd))<|bk h fun g0 D0 h=>Ba (vI g0) (bd 202) rfl (e2 rfl rfl) (fun w9 hw9=>bp_c n (b0.hL0 hL hw9) a0.fl ((0:UInt64),(0:UInt64),(0:UInt64),(0:UInt64),(0:UInt64),(0:UInt64),(0:UInt64),(9223372036854775808:UInt64)) D0) rfl<|Af rfl<|Aa<|Ac<|Ae rfl<|Ab (FV.gtr (i:=g0) (j:=0) rfl rfl)<|Ae rfl<|BD (s:=13) rfl h (fun x0 h=>?_) (fun x0 h=>?_)
 refine Ap<|Ap<|Ap<|RG.un<|RG.un<|RG.un<|Ap<|Bh rfl rfl<|Aa<|Bk rfl<|Ac<|Ab (AU (vs:=[]) (u:=.agg zQ) evs_nil (fun w9=>by kernel_rfl))<|AQ zP b0 .t1 (onesB rfl) fun g1 k0 Q0=>Af rfl<|Aa<|Al rfl<|Am hb0 Tryz.func187 rfl (.cons (.many (cs:=zP) (by kernel_rfl) rfl (k0.memA .t1)) (.cons (.tmp rfl) .nil)) rfl ?_
 cases h
 exact k0.gv
 refine AE (Ai rfl)<|AE (FV.eql (i:=g0) (j:=0) rfl rfl)<|AE (Ai rfl)<|BD (s:=16) rfl h (fun y0 h=>?_) (fun y0 h=>?_)
 refine RG.fg 0 rfl<|AE (AL rfl ((b0.memA .t2) 0 _ rfl))<|AE (Bp rfl)<|AE (BM rfl rfl)<|Bv rfl rfl<|Aa<|BU rfl h (fun j0 h=>?_) (fun j0 h=>?_)
 refine Au<|Aj<|Ac<|AR 0 rfl<|AP rfl ((b0.memA .t2) 0 _ rfl)<|Aa<|MX.cond_kt rfl j0<|Av<|Ab (AU (vs:=[]) (u:=.agg zQ) evs_nil (fun w9=>by kernel_rfl))<|AR 1 rfl<|Ab (Bc (cs:=(cs_A34 a0.fl)) (by kernel_rfl) rfl (mem_part (b0.memA .t2) 1 8))<|bk h fun c0 E0 h=>Ba (.tuple #[.agg ((cs_A34 c0.1)).toArray,vU c0.2]) (bd 196) rfl (e2 rfl rfl) (fun w9 hw9=>bL_c n (b0.hL0 hL hw9) ((0:UInt64),(0:UInt64),(0:UInt64),(0:UInt64),(0:UInt64),(0:UInt64),(0:UInt64),(0:UInt64)) a0.fl E0) rfl<|Ae rfl<|Ab (Ag rfl rfl)<|Ab (Ag rfl rfl)<|AR 1 rfl<|RG.now .plain (BQ (j:=1) (old:=(cs_To a0)) (news:=(cs_A34 c0.1)) (new' :=(([.bool a0.fc]:List Value) ++ cs_A34 c0.1)) b0 .t2 rfl rfl rfl rfl rfl rfl (onesB rfl) rfl) fun j1 p0 R0=>Aa<|Ac<|AR 1 rfl<|Ab (Bc (cs:=(cs_A34 c0.1)) (by kernel_rfl) rfl (mem_part (p0.memA .t2) 1 8))<|AQ (cs_A34 c0.1) p0 .t1 (onesB rfl) fun k1 q0 U0=>Af rfl<|Aa<|Al rfl<|Am hb0 Tryz.func187 rfl (.cons (.many (cs:=(cs_A34 c0.1)) (by kernel_rfl) rfl (q0.memA .t1)) (.cons (.tmp rfl) .nil)) rfl ?_
 cases h
 exact q0.gv
 refine Ac<|Ab (AU (vs:=[]) (u:=.agg zQ) evs_nil (fun w9=>by kernel_rfl))<|AQ zP b0 .t1 (onesB rfl) fun p1 s0 V0=>Af rfl<|Aa<|Al rfl<|Am hb0 Tryz.func187 rfl (.cons (.many (cs:=zP) (by kernel_rfl) rfl (s0.memA .t1)) (.cons (.tmp rfl) .nil)) rfl ?_
 cases h
 exact s0.gv
 refine Ap<|Ap<|Ap<|AE (Bo rfl rfl)<|Bv rfl rfl<|Aa<|BF rfl<|Au<|Aj<|Ac<|AR 0 rfl<|AP rfl ((b0.memA .t2) 0 _ rfl)<|Aa<|MX.ifb rfl h (fun z0 h=>?_) (fun z0 h=>?_)
 refine Av<|Ab (AU (vs:=[]) (u:=.agg zQ) evs_nil (fun w9=>by kernel_rfl))<|AR 1 rfl<|Ab (Bc (cs:=(cs_A34 a0.fl)) (by kernel_rfl) rfl (mem_part (b0.memA .t2) 1 8))<|bk h fun d0 F0 h=>Ba (.tuple #[.agg ((cs_A34 d0.1)).toArray,vU d0.2]) (bd 196) rfl (e2 rfl rfl) (fun w9 hw9=>bL_c n (b0.hL0 hL hw9) ((0:UInt64),(0:UInt64),(0:UInt64),(0:UInt64),(0:UInt64),(0:UInt64),(0:UInt64),(0:UInt64)) a0.fl F0) rfl<|Ae rfl<|Ab (Ag rfl rfl)<|Ab (Ag rfl rfl)<|AR 1 rfl<|RG.now .plain (BQ (j:=1) (old:=(cs_To a0)) (news:=(cs_A34 d0.1)) (new' :=(([.bool a0.fc]:List Value) ++ cs_A34 d0.1)) b0 .t2 rfl rfl rfl rfl rfl rfl (onesB rfl) rfl) fun q1 t0 W0=>Aa<|Ac<|AR 1 rfl<|Ab (Bc (cs:=(cs_A34 d0.1)) (by kernel_rfl) rfl (mem_part (t0.memA .t2) 1 8))<|AQ (cs_A34 d0.1) t0 .t1 (onesB rfl) fun s1 u0 X0=>Af rfl<|Aa<|Al rfl<|Am hb0 Tryz.func187 rfl (.cons (.many (cs:=(cs_A34 d0.1)) (by kernel_rfl) rfl (u0.memA .t1)) (.cons (.tmp rfl) .nil)) rfl ?_
 cases h
 exact u0.gv
 refine Au<|Ac<|AR 1 rfl<|Ab (Bc (cs:=(cs_A34 a0.fl)) (by kernel_rfl) rfl (mem_part (b0.memA .t2) 1 8))<|AQ (cs_A34 a0.fl) b0 .t1 (onesB rfl) fun u1 v0 Y0=>Af rfl<|Aa<|Al rfl<|Am hb0 Tryz.func187 rfl (.cons (.many (cs:=(cs_A34 a0.fl)) (by kernel_rfl) rfl (v0.memA .t1)) (.cons (.tmp rfl) .nil)) rfl ?_
 cases h
 exact v0.gv
structure Te where
  fc:Bool
  fm:List UInt64
  deriving DecidableEq
instance:Rep Te:=Rep.via (β:=Bool × (List UInt64)) fun x=>(x.fc,x.fm)
def bH_p (n:Nat) (a0:Te):Option ((UInt64 × UInt64 × UInt64 × UInt64 × UInt64 × UInt64 × UInt64 × UInt64) × Int):=
  (if 8 < a0.fm.length then some (((0:UInt64),(0:UInt64),(0:UInt64),(0:UInt64),(0:UInt64),(0:UInt64),(0:UInt64),(0:UInt64)),(6:Int)) else (cE_p n (⟨a0.fc,(getA a0.fm 0 (0:UInt64),getA a0.fm 1 (0:UInt64),getA a0.fm 2 (0:UInt64),getA a0.fm 3 (0:UInt64),getA a0.fm 4 (0:UInt64),getA a0.fm 5 (0:UInt64),getA a0.fm 6 (0:UInt64),getA a0.fm 7 (0:UInt64))⟩:To)).bind fun b0=>some (b0.1,b0.2))
theorem bH_c (n:Nat) {L w} (hL:hl L w) (a0:Te) {v0_1:Value} (h0_1:Rep.R w L [v0_1] a0.fm)  {r:(UInt64 × UInt64 × UInt64 × UInt64 × UInt64 × UInt64 × UInt64 × UInt64) × Int} (h:bH_p n a0 = some r) :
 Cl 156 #[.agg #[.bool a0.fc,v0_1]] w (Gives w fun _ u=>u = .tuple #[.agg ((cs_A34 r.1)).toArray,vI r.2]):=by
 unfold bH_p at h
 refine AD Tryz.func156 rfl rfl rfl fun _ cs0 hb0=>Ac<|RG.bx (Az w) rfl rfl fun M0 A0 v0 C0=>RG.nl zP v0 fun P0 B0 c0 D0=>Af rfl<|Aa<|Aj<|Ac<|AR 1 rfl<|AP rfl ((c0.memA .t1) 1 _ rfl) ?_
 have s0:=AS h0_1 c0
 have J0:a0.fm.length <= 281474976710656:=AY s0
 refine Ab (Be (xs:=a0.fm) Tryz.underlying146 rfl s0)<|Ab (FV.gtrN (i:=a0.fm.length) (j:=8) rfl rfl)<|Aa<|AT rfl h (fun u0 h=>?_) (fun u0 h=>?_)
 refine Ac<|Ab (AU (vs:=[]) (u:=.agg zQ) evs_nil (fun w9=>by kernel_rfl))<|AQ zP c0 .hd (onesB rfl) fun Q0 p0 E0=>Af rfl<|Aa<|Al rfl<|Am hb0 Tryz.func156 rfl (.cons (.many (cs:=zP) (by kernel_rfl) rfl (p0.memA .hd)) (.cons (.tmp rfl) .nil)) rfl ?_
 cases h
 exact p0.gv
 refine Au<|Ac<|AR 0 rfl<|AP rfl ((c0.memA .t1) 0 _ rfl)<|Ab (AU (vs:=[.bool a0.fc]) (u:=.agg #[.bool a0.fc,vW 0,vW 0,vW 0,vW 0,vW 0,vW 0,vW 0,vW 0]) (e1 rfl) (fun w9=>by kernel_rfl))<|RG.nl [.bool false,vW 0,vW 0,vW 0,vW 0,vW 0,vW 0,vW 0,vW 0] c0 fun R0 t0 x0 F0=>AQ [.bool a0.fc,vW 0,vW 0,vW 0,vW 0,vW 0,vW 0,vW 0,vW 0] x0 .hd (onesB rfl) fun U0 j0 G0=>Aa<|Aj<|du 4 fun b0 d0=>Rv 0 b0 rfl d0 (fun _=>Bb 1 rfl)<|Rx 1 16 b0 rfl d0 (FV.sliceA (len:=8) (m:=1) (p:=Addr.add ⟨t0,0,none⟩ 1) (by kernel_rfl) rfl)<|Rv 2 b0 rfl d0 (fun _=>Bb 1 rfl)<|Rx 3 16 b0 rfl d0 (AL rfl ((j0.memA .t2) 1 _ rfl))<|Bf (i:=4) (rk b0) (Bx (m' :=31) (sk b0) rfl rfl .plain rfl (DoesL.copyArr (fun z9:UInt64=>(vU z9:Value)) (olds:=([(0:UInt64),(0:UInt64),(0:UInt64),(0:UInt64),(0:UInt64),(0:UInt64),(0:UInt64),(0:UInt64)]:List UInt64)) (ys:=a0.fm) (pre:=[.bool a0.fc]) (post:=[]) (old:=[.bool a0.fc,vW 0,vW 0,vW 0,vW 0,vW 0,vW 0,vW 0,vW 0]) (new' :=[.bool a0.fc,vW ((getA a0.fm 0 (0:UInt64)).toNat:Int),vW ((getA a0.fm 1 (0:UInt64)).toNat:Int),vW ((getA a0.fm 2 (0:UInt64)).toNat:Int),vW ((getA a0.fm 3 (0:UInt64)).toNat:Int),vW ((getA a0.fm 4 (0:UInt64)).toNat:Int),vW ((getA a0.fm 5 (0:UInt64)).toNat:Int),vW ((getA a0.fm 6 (0:UInt64)).toNat:Int),vW ((getA a0.fm 7 (0:UInt64)).toNat:Int)]) rfl (fun _ _ _ _ h9=>h9) j0 .hd (by kernel_rfl) rfl rfl rfl rfl rfl rfl rfl (BG (AS h0_1 j0))) (fun K0 V0 ⟨y0,k0,H0⟩=>?_))
 subst y0
 refine AN (dk b0)<|Ac<|Ab (AH rfl (k0.memA .hd))<|bk h fun g0 z0 h=>Ba (.tuple #[.agg ((cs_A34 g0.1)).toArray,vI g0.2]) (bd 187) rfl (e1 rfl) (fun w9 hw9=>cE_c n (k0.hL0 hL hw9) (⟨a0.fc,(getA a0.fm 0 (0:UInt64),getA a0.fm 1 (0:UInt64),getA a0.fm 2 (0:UInt64),getA a0.fm 3 (0:UInt64),getA a0.fm 4 (0:UInt64),getA a0.fm 5 (0:UInt64),getA a0.fm 6 (0:UInt64),getA a0.fm 7 (0:UInt64))⟩:To) z0) rfl<|Ab (Ag rfl rfl)<|Ab (Ag rfl rfl)<|AQ (cs_A34 g0.1) k0 .t1 (onesB rfl) fun W0 q0 I0=>Af rfl<|Aa<|Al rfl<|Am hb0 Tryz.func156 rfl (.cons (.many (cs:=(cs_A34 g0.1)) (by kernel_rfl) rfl (q0.memA .t1)) (.cons (.tmp rfl) .nil)) rfl ?_
 cases h
 exact q0.gv
end Go.Proofs.YtgejkdheojkfiaaGreatDoor
/- Functions of the program, and what they give: part 2. -/
namespace Go.Proofs.YtgejkdheojkfiaaGreatDoor
open Go Go.RowKit
set_option maxRecDepth 4000
set_option maxHeartbeats 4000000

structure Th where
  fy:Te
  ft:Te
  deriving DecidableEq
instance:Rep Th:=Rep.via (β:=Te × Te) fun x=>(x.fy,x.ft)
def bW_p (n:Nat) (a0:Th):Option (Ta × Int):=
  (bH_p n a0.fy).bind fun b0=>(bH_p n a0.ft).bind fun c0=>(if b0.2 = 0 then (if c0.2 = 0 then some ((⟨b0.1,c0.1⟩:Ta),(0:Int)) else some ((⟨((0:UInt64),(0:UInt64),(0:UInt64),(0:UInt64),(0:UInt64),(0:UInt64),(0:UInt64),(0:UInt64)),((0:UInt64),(0:UInt64),(0:UInt64),(0:UInt64),(0:UInt64),(0:UInt64),(0:UInt64),(0:UInt64))⟩:Ta),(6:Int))) else some ((⟨((0:UInt64),(0:UInt64),(0:UInt64),(0:UInt64),(0:UInt64),(0:UInt64),(0:UInt64),(0:UInt64)),((0:UInt64),(0:UInt64),(0:UInt64),(0:UInt64),(0:UInt64),(0:UInt64),(0:UInt64),(0:UInt64))⟩:Ta),(6:Int)))
theorem bW_c (n:Nat) {L w} (hL:hl L w) (a0:Th) {v0_1:Value} (h0_1:Rep.R w L [v0_1] a0.fy.fm) {v0_3:Value} (h0_3:Rep.R w L [v0_3] a0.ft.fm)  {r:Ta × Int} (h:bW_p n a0 = some r) :
 Cl 147 #[.agg #[.bool a0.fy.fc,v0_1,.bool a0.ft.fc,v0_3]] w (Gives w fun _ u=>u = .tuple #[.agg ((cs_Ta r.1)).toArray,vI r.2]):=by
 unfold bW_p at h
 refine AD Tryz.func147 rfl rfl rfl fun _ cs0 hb0=>Ac<|RG.bx (Az w) rfl rfl fun R0 B0 v0 F0=>RG.nl zL v0 fun U0 C0 g0 G0=>Af rfl<|Aa<|Ac<|AR 0 rfl<|Ab (Bc (cs:=[.bool a0.fy.fc,v0_1]) (by kernel_rfl) rfl (mem_part (g0.memA .t1) 0 2))<|bk h fun b0 z0 h=>Ba (.tuple #[.agg ((cs_A34 b0.1)).toArray,vI b0.2]) (bd 156) rfl (e1 rfl) (fun w9 hw9=>bH_c n (g0.hL0 hL hw9) a0.fy (g0.k0 h0_1 hw9) z0) rfl<|Ae rfl<|Ab (Ag rfl rfl)<|Ab (Ag rfl rfl)<|RG.nl zP g0 fun V0 D0 x0 H0=>AQ (cs_A34 b0.1) x0 .hd (onesB rfl) fun W0 j0 I0=>Af rfl<|Aa<|Ac<|AR 2 rfl<|Ab (Bc (cs:=[.bool a0.ft.fc,v0_3]) (by kernel_rfl) rfl (mem_part (j0.memA .t2) 2 2))<|bk h fun c0 A0 h=>Ba (.tuple #[.agg ((cs_A34 c0.1)).toArray,vI c0.2]) (bd 156) rfl (e1 rfl) (fun w9 hw9=>bH_c n (j0.hL0 hL hw9) a0.ft (j0.k0 h0_3 hw9) A0) rfl<|Ae rfl<|Ab (Ag rfl rfl)<|Ab (Ag rfl rfl)<|RG.nl zP j0 fun X0 E0 y0 J0=>AQ (cs_A34 c0.1) y0 .hd (onesB rfl) fun Y0 d0 K0=>Af rfl<|Aa<|Aj<|Ac<|Ae rfl<|Ab (BP (i:=b0.2) (j:=0) rfl rfl) ?_
 refine Ae rfl<|RG.ifn (s:=22) rfl h (fun t0 h=>?_) (fun t0 h=>?_)
 refine AE (Ai rfl)<|AE (BP (i:=c0.2) (j:=0) rfl rfl)<|Bv rfl rfl<|Aa<|MX.ifn rfl h (fun u0 h=>?_) (fun u0 h=>?_)
 refine Au<|Ac<|Ab (AH rfl (d0.memA .t1))<|Ab (AH rfl (d0.memA .hd))<|Ab (AU (vs:=[.agg ((cs_A34 b0.1)).toArray,.agg ((cs_A34 c0.1)).toArray]) (u:=.agg ((cs_A34 b0.1 ++ cs_A34 c0.1)).toArray) (e2 rfl rfl) (fun w9=>by kernel_rfl))<|AQ (cs_A34 b0.1 ++ cs_A34 c0.1) d0 .t2 (onesB rfl) fun Z0 p0 M0=>Af rfl<|Aa<|Al rfl<|Am hb0 Tryz.func147 rfl (.cons (.many (cs:=(cs_A34 b0.1 ++ cs_A34 c0.1)) (by kernel_rfl) rfl (p0.memA .t2)) (.cons (.tmp rfl) .nil)) rfl ?_
 cases h
 exact p0.gv
 refine Ac<|Ab (AU (vs:=[]) (u:=.agg zM) evs_nil (fun w9=>by kernel_rfl))<|AQ zL d0 .t2 (onesB rfl) fun b1 q0 P0=>Af rfl<|Aa<|Al rfl<|Am hb0 Tryz.func147 rfl (.cons (.many (cs:=zL) (by kernel_rfl) rfl (q0.memA .t2)) (.cons (.tmp rfl) .nil)) rfl ?_
 cases h
 exact q0.gv
 refine Ap<|Ap<|Bh rfl rfl<|Aa<|Bk rfl<|Ac<|Ab (AU (vs:=[]) (u:=.agg zM) evs_nil (fun w9=>by kernel_rfl))<|AQ zL d0 .t2 (onesB rfl) fun c1 s0 Q0=>Af rfl<|Aa<|Al rfl<|Am hb0 Tryz.func147 rfl (.cons (.many (cs:=zL) (by kernel_rfl) rfl (s0.memA .t2)) (.cons (.tmp rfl) .nil)) rfl ?_
 cases h
 exact s0.gv
def au_l1 (_n:Nat) (a1:List UInt64) (c0:Int -> Option Int):Int -> Option Int
  | b0=>(if 0 < b0 then (chk (b0 - 1)).bind fun d0=>(idx a1 d0).bind fun j0=>(if j0 = (0:UInt64) then (chk (b0 - 1)).bind fun g0=>c0 g0 else some b0) else some b0)
def au_p (n:Nat) (a0:Bool) (a1:List UInt64):Option Te:=
  jn (fun b0=>(if a0 = true then (cut a1 0 b0).bind fun d0=>some (⟨(decide (0 < b0)),d0⟩:Te) else (cut a1 0 b0).bind fun g0=>some (⟨false,g0⟩:Te))) (fun c0=>Option.bind (loopF (au_l1 n a1) n ((a1.length:Nat):Int)) (c0))
theorem au_c (n:Nat) {L w} (_hL:hl L w) {a0:Bool} {a1:List UInt64} {v1_0:Value} (h1_0:Rep.R w L [v1_0] a1)  {r:Te} (h:au_p n a0 a1 = some r) :
 Cl 158 #[.bool a0,v1_0] w (Gives w fun w' u=>∃ v0_1:Value,u = .agg #[.bool r.fc,v0_1]/\Rep.R w' L [v0_1] r.fm):=by
 unfold au_p at h
 refine AD Tryz.func158 rfl rfl rfl fun _ cs0 hb0=>Ac<|RG.nl [.bool false,vN] (Az w) fun C1 j0 q0 z1=>Aa<|Ac<|Ae rfl ?_
 have A0:=AS h1_0 q0
 have A1:a1.length <= 281474976710656:=AY A0
 refine Ab (Be (xs:=a1) Tryz.underlying146 rfl A0)<|Af rfl<|Aa<|Aj<|AA<|MX.xo (α:=Int) 0 (fun b0=>[(0,.bool a0),(1,v1_0),(4,vP j0),(5,vI b0)]) (fun b0=>[.cells j0 [.bool false,vN] 148]) (fun b0=>b0) q0 rfl h ?_ ?_
 rintro b0 F1 k0 y1 h
 try dsimp only at h
 refine Ac<|Ae rfl<|Ae rfl<|RG.ifb (s:=21) rfl h (fun C0 h=>?_) (fun C0 h=>?_)
 refine AE (Ai rfl)<|AE (FV.gtr (i:=b0) (j:=0) rfl rfl)<|Bh rfl rfl<|Ae rfl<|Ae rfl<|bk h fun H1 c1 h=>RG.valE .plain rfl (FV.cutL (α:=UInt64) c1 (by kernel_rfl) rfl (AS h1_0 k0) rfl ⟨_,rfl⟩) fun d0 v0=>?_
 obtain ⟨k1,u1,X0,_⟩:=BV v0
 refine Ab (AU (vs:=[.bool (decide (0 < b0)),d0]) (u:=.agg #[.bool (decide (0 < b0)),d0]) (e2 rfl rfl) (fun w9=>by rw [X0]; try kernel_rfl))<|AQ [.bool (decide (0 < b0)),d0] k0 .hd (o2 rfl (AO v0)) fun D1 s0 H0=>Aa<|Al rfl<|Am hb0 Tryz.func158 rfl (.cons (.many (cs:=[.bool (decide (0 < b0)),d0]) (by kernel_rfl) rfl (s0.memA .hd)) .nil) rfl ?_
 cases h
 exact ⟨s0.ag,fun w9 hw9=>⟨d0,rfl,s0.kd (Ao v0 H0) hw9⟩⟩
 refine Ap<|Ap<|Bv rfl rfl<|Ae rfl<|Ae rfl<|bk h fun I1 d1 h=>RG.valE .plain rfl (FV.cutL (α:=UInt64) d1 (by kernel_rfl) rfl (AS h1_0 k0) rfl ⟨_,rfl⟩) fun g0 x0=>?_
 obtain ⟨p1,v1,Y0,_⟩:=BV x0
 refine Ab (AU (vs:=[.bool false,g0]) (u:=.agg #[.bool false,g0]) (e2 rfl rfl) (fun w9=>by rw [Y0]; try kernel_rfl))<|AQ [.bool false,g0] k0 .hd (o2 rfl (AO x0)) fun E1 t0 I0=>Aa<|Al rfl<|Am hb0 Tryz.func158 rfl (.cons (.many (cs:=[.bool false,g0]) (by kernel_rfl) rfl (t0.memA .hd)) .nil) rfl ?_
 cases h
 exact ⟨t0.ag,fun w9 hw9=>⟨g0,rfl,t0.kd (Ao x0 I0) hw9⟩⟩
 intro s1 y0 h
 try dsimp only at h
 obtain ⟨B1,R0,z0⟩:=bind_in2 h
 refine MX.lo (α:=Int) (fun c0=>[(0,.bool a0),(1,v1_0),(4,vP j0),(5,vI c0)]) (fun c0=>[.cells j0 [.bool false,vN] 148]) (fun c0=>c0) ((a1.length:Nat):Int) R0 q0 ?_
 rintro t1 c0 G1 G0 p0 u0 h
 unfold au_l1 at h
 try dsimp only at h
 refine Aj<|Ac<|Ae rfl<|Ab (FV.gtr (i:=c0) (j:=0) rfl rfl)<|Ae rfl<|BD (s:=10) rfl h (fun D0 h=>?_) (fun D0 h=>?_)
 refine AE (Ai rfl)<|AE (Ai rfl)<|bk h fun g1 V0 h=>AE (FV.subc (i:=c0) (j:=1) rfl rfl V0)<|bk h fun B0 Z0 h=>?_
 obtain ⟨M0,b1⟩:=idx_in Z0
 obtain ⟨q1,x1,J0,P0,F0,U0,Q0⟩:=Br (AS h1_0 p0) b1
 have K0:F0 = [vU B0]:=U0; subst K0
 refine AE (Bq 1 (g1.toNat) rfl J0 rfl M0 P0)<|AE (AL rfl (Q0 0 _ rfl))<|AE (FV.eqlU (a:=B0) (b:=(0:UInt64)) rfl rfl)<|Bh rfl rfl<|Aa<|AT rfl h (fun E0 h=>?_) (fun E0 h=>?_)
 refine Au<|AA<|Av<|Ae rfl<|bk h fun j1 W0 h=>Ab (FV.subc (i:=c0) (j:=1) rfl rfl W0)<|Af rfl<|Aa<|AC<|G0 j1 p0 u0 h
 refine Bd rfl ?_
 have h:=z0 _ h
 try dsimp only at h
 exact y0 c0 p0 u0 h
 refine Ap<|Ap<|Ap<|Ap<|Ap<|Ap<|Bv rfl rfl<|Aa<|BF rfl<|Bd rfl ?_
 have h:=z0 _ h
 try dsimp only at h
 exact y0 c0 p0 u0 h
def bh_p (n:Nat) (a0:Te):Option Te:=
  (au_p n (!a0.fc) a0.fm).bind fun b0=>some b0
theorem bh_c (n:Nat) {L w} (hL:hl L w) (a0:Te) {v0_1:Value} (h0_1:Rep.R w L [v0_1] a0.fm)  {r:Te} (h:bh_p n a0 = some r) :
 Cl 126 #[.agg #[.bool a0.fc,v0_1]] w (Gives w fun w' u=>∃ v0_1:Value,u = .agg #[.bool r.fc,v0_1]/\Rep.R w' L [v0_1] r.fm):=by
 unfold bh_p at h
 refine AD Tryz.func126 rfl rfl rfl fun _ cs0 hb0=>Ac<|RG.bx (Az w) rfl rfl fun B0 u0 k0 x0=>RG.nl [.bool false,vN] k0 fun C0 v0 b0 y0=>Aa<|Ac<|AR 0 rfl<|AP rfl ((b0.memA .t1) 0 _ rfl)<|Ab (Bp rfl)<|AR 1 rfl<|AP rfl ((b0.memA .t1) 1 _ rfl)<|bk h fun j0 t0 h=>AX (fst:=[]) (cap:=[]) .plain (bd 158) rfl (e2 rfl rfl) (fun w9 hw9=>au_c n (b0.hL hL hw9) (b0.km h0_1 hw9) t0) rfl fun D0 A0 s0 ⟨d0,hu_,g0⟩=>?_
 subst hu_
 obtain ⟨p0,z0⟩:=b0.agr s0
 refine AQ [.bool j0.fc,d0] p0 .hd (o2 rfl (AO g0)) fun E0 c0 q0=>Aa<|Al rfl<|Am hb0 Tryz.func126 rfl (.cons (.many (cs:=[.bool j0.fc,d0]) (by kernel_rfl) rfl (c0.memA .hd)) .nil) rfl ?_
 cases h
 exact ⟨c0.ag,fun w9 hw9=>⟨d0,rfl,c0.kd (Ao g0 q0) hw9⟩⟩
theorem el146:ElT Tryz.prog 146 33 (Rep.size UInt64) 8 (vW 0) [vW 0]:=⟨Tryz.underlying146,by kernel_rfl,rfl,rfl,rfl,rfl⟩
def cG_l1 (_n:Nat) (xs4:List UInt64) (xs7:List UInt64) (k0:UInt64 × Nat × (List UInt64) -> Option ((List UInt64) × UInt64)):UInt64 × Nat × (List UInt64) -> Option ((List UInt64) × UInt64)
  | (g0,b0,c0)=>(if b0 < xs4.length then (xs4[b0]?).bind fun q0=>jn (fun p0=>(add64 q0 p0 g0).bind fun j0=>(c0[b0]?).bind fun _x199=>(put c0 ((b0:Nat):Int) j0.1).bind fun t0=>k0 (j0.2,b0 + 1,t0)) (fun d0=>(if b0 < xs7.length then (xs7[b0]?).bind fun s0=>d0 s0 else d0 (0:UInt64))) else some (c0,g0))
def cG_p (n:Nat) (a0:List UInt64) (a1:List UInt64):Option (List UInt64):=
  jn (fun (xs4,xs7)=>(mk ((xs4.length + 1:Nat):Int) (0:UInt64)).bind fun g0=>Option.bind (loopF (cG_l1 n xs4 xs7) n ((0:UInt64),0,g0)) (fun (c0,d0)=>(c0[xs4.length]?).bind fun _x229=>(put c0 ((xs4.length:Nat):Int) d0).bind fun j0=>some j0)) (fun b0=>(if a0.length < a1.length then b0 (a1,a0) else b0 (a0,a1)))
theorem cG_c (n:Nat) {L w} (hL:hl L w) {a0:List UInt64} {v0_0:Value} (h0_0:Rep.R w L [v0_0] a0) {a1:List UInt64} {v1_0:Value} (h1_0:Rep.R w L [v1_0] a1)  {r:List UInt64} (h:cG_p n a0 a1 = some r) :
 Cl 189 #[v0_0,v1_0] w (Gives w fun w' u=>∃ v0_0:Value,u = v0_0/\Rep.R w' L [v0_0] r):=by
 unfold cG_p at h
 have hS0:=Az w
 refine AD Tryz.func189 rfl rfl rfl fun _ cs0 hb0=>Ac<|Af rfl<|Aa<|Aj<|Ac<|Ae rfl ?_
 have hl1:a0.length <= 281474976710656:=AY h0_0
 refine Ab (Be (xs:=a0) Tryz.underlying146 rfl h0_0)<|Ae rfl ?_
 have hl2:a1.length <= 281474976710656:=AY h1_0
 refine Ab (Be (xs:=a1) Tryz.underlying146 rfl h1_0)<|Ab (Bu (i:=a0.length) (j:=a1.length) rfl rfl)<|Aa<|MX.jf (α:=(List UInt64) × (List UInt64) × Value × Value) (fun ⟨xs4,xs7,v5,v8⟩=>[(0,v5),(1,v8)]) (fun ⟨xs4,xs7,v5,v8⟩=>[]) (fun ⟨xs4,xs7,v5,v8⟩ wx9=>Rep.R wx9 (bl [] ++ L) [v5] xs4/\Rep.R wx9 (bl [] ++ L) [v8] xs7) (fun ⟨xs4,xs7,v5,v8⟩=>(xs4,xs7)) hS0 h ?_ ?_
 rintro ⟨xs4,xs7,v5,v8⟩ wx9 q1 D2 ⟨hr6,hr9⟩ h
 try dsimp only at h
 refine Ac<|Ae rfl ?_
 have G2:xs4.length <= 281474976710656:=AY hr6
 refine Ab (Be (xs:=xs4) Tryz.underlying146 rfl hr6)<|Ab (Bw (i:=xs4.length) (j:=1) rfl rfl (by omega))<|bk h fun R0 M0 h=>Ak .plain rfl (Does.mk (α:=UInt64) M0 q1 el146 rfl) fun M2 j0 E0 s0=>Af rfl<|Aa<|Ac<|Af rfl<|Aa<|Aj<|Ac<|Ae rfl<|Ab (Be (xs:=xs4) Tryz.underlying146 rfl (Ao hr6 s0))<|Ae rfl<|Aa<|AA ?_
 obtain ⟨K2,J1,E1⟩:=bind_in2 h
 refine MX.lf (α:=UInt64 × Nat × (List UInt64) × (List Value)) (fun ⟨g0,b0,c0,d0⟩=>[(0,v5),(1,v8),(5,(.slice (some ⟨j0,0,none⟩) ((xs4.length + 1:Nat):Int).toNat ((xs4.length + 1:Nat):Int).toNat)),(6,vU g0),(21,v5),(22,vI ((xs4.length:Nat):Int)),(23,vI ((b0:Nat):Int))]) (fun ⟨g0,b0,c0,d0⟩=>[rr w 33 UInt64 (.slice (some ⟨j0,0,none⟩) ((xs4.length + 1:Nat):Int).toNat ((xs4.length + 1:Nat):Int).toNat) c0.length d0]) (fun ⟨g0,b0,c0,d0⟩ P0=>Cells P0 (bl [rr w 33 UInt64 (.slice (some ⟨j0,0,none⟩) ((xs4.length + 1:Nat):Int).toNat ((xs4.length + 1:Nat):Int).toNat) c0.length d0] ++ L) d0 c0) (fun ⟨g0,b0,c0,d0⟩=>(g0,b0,c0)) ((0:UInt64),0,R0,(List.replicate ((xs4.length + 1:Nat):Int).toNat [vW 0]).flatten) J1 E0 (AB (cs:=(List.replicate ((xs4.length + 1:Nat):Int).toNat [vW 0]).flatten) (xs:=R0) E0 L (Cells.mk M0 rfl)) ?_
 rintro t2 ⟨g0,b0,c0,d0⟩ P0 p1 k0 q0 x0 h
 unfold cG_l1 at h
 try dsimp only at h
 refine Ac<|Ab (Bu (i:=b0) (j:=xs4.length) rfl rfl)<|Aa<|Aj<|AT rfl h (fun Y0 h=>?_) (fun Y0 h=>?_)
 refine Au<|Aj<|AA<|Ac<|Ae rfl<|bk h fun B0 U1 h=>?_
 obtain ⟨p2,v2,y1,F1,c1,K1,H1⟩:=Br (Ao hr6 (Tt s0 q0)) U1
 have z1:c1 = [vU B0]:=K1; subst z1
 refine Ab (Bq 1 b0 rfl y1 rfl rfl F1)<|AP rfl (H1 0 _ rfl)<|Af rfl<|Af rfl<|Aa<|Ac<|Af rfl<|Aa<|Aj<|Ac<|Ae rfl<|Ae rfl ?_
 have A0:=Ao hr9 (Tt s0 q0)
 have H2:xs7.length <= 281474976710656:=AY A0
 refine Ab (Be (xs:=xs7) Tryz.underlying146 rfl A0)<|Ab (Bu (i:=b0) (j:=xs7.length) rfl rfl)<|Aa<|MX.jo (α:=UInt64) (fun p0=>[(0,v5),(1,v8),(5,(.slice (some ⟨j0,0,none⟩) ((xs4.length + 1:Nat):Int).toNat ((xs4.length + 1:Nat):Int).toNat)),(6,vU g0),(21,v5),(22,vI ((xs4.length:Nat):Int)),(23,vI ((b0:Nat):Int)),(7,vI ((b0:Nat):Int)),(8,vU B0),(9,vU p0)]) (fun p0=>[rr w 33 UInt64 (.slice (some ⟨j0,0,none⟩) ((xs4.length + 1:Nat):Int).toNat ((xs4.length + 1:Nat):Int).toNat) c0.length d0]) (fun p0=>p0) k0 h ?_ ?_
 rintro p0 R2 t0 F0 h
 try dsimp only at h
 refine Av<|Ae rfl<|Ae rfl<|Ae rfl<|Ae rfl<|Ae rfl<|bk h fun k2 b2 h=>Ab (FV.add64 (a:=B0) (b:=p0) (c:=g0) Tryz.func195 rfl (by kernel_rfl) (by kernel_rfl) (by kernel_rfl) rfl rfl rfl b2)<|Ae rfl<|Ab (Ag rfl rfl)<|Ab (Ag rfl rfl)<|bk h fun c2 V1 h=>?_
 have K0:=Aw x0 F0
 obtain ⟨U0,x2,y0,I0,d1,M1,I2⟩:=St.nth (α:=UInt64) t0 .hd K0 V1
 obtain ⟨W0,y2,G0⟩:=BR (α:=UInt64) t0 .hd I0
 obtain rfl:U0 = ⟨W0,0,none⟩:=by rw [G0] at y0; cases y0; rfl
 have A1:d1 = [vU c2]:=M1; subst A1
 refine Ab (Bq 1 b0 rfl y0 rfl rfl I0)<|bk h fun g2 Y1 h=>RG.acts' .plain (Acts.set (α:=UInt64) (i:=b0) Y1 t0 G0 (fun _=>.hd) K0 rfl rfl rfl rfl rfl (by kernel_rfl)) fun P2 ⟨g1,s1,u1,v1⟩=>Af rfl<|Aa<|AC<|Av<|Ab (Bw (i:=b0) (j:=1) rfl rfl (by omega))<|Ae rfl<|Aa<|p1 (k2.2,b0 + 1,g2,g1) s1 (Tt q0 (Tt F0 u1)) v1 h
 intro u2 D0 h
 try dsimp only at h
 refine AT rfl h (fun Z0 h=>?_) (fun Z0 h=>?_)
 refine Av<|Ae rfl<|Ae rfl<|bk h fun Q0 W1 h=>?_
 obtain ⟨q2,z2,B1,G1,j1,P1,I1⟩:=Br A0 W1
 have C1:j1 = [vU Q0]:=P1; subst C1
 refine Ab (Bq 1 b0 rfl B1 rfl rfl G1)<|AP rfl (I1 0 _ rfl)<|Af rfl<|Aa<|D0 Q0 k0 (By _ _) h
 refine Au<|D0 (0:UInt64) k0 (By _ _) h
 refine Bd rfl ?_
 have h:=E1 _ h
 try dsimp only at h
 refine Ac<|Ae rfl<|Ae rfl<|Ab (Be (xs:=xs4) Tryz.underlying146 rfl (Ao hr6 (Tt s0 q0)))<|Ae rfl<|bk h fun d2 X1 h=>?_
 obtain ⟨V0,A2,z0,J0,k1,Q1,J2⟩:=St.nth (α:=UInt64) k0 .hd x0 X1
 obtain ⟨X0,B2,H0⟩:=BR (α:=UInt64) k0 .hd J0
 obtain rfl:V0 = ⟨X0,0,none⟩:=by rw [H0] at z0; cases z0; rfl
 have D1:k1 = [vU d2]:=Q1; subst D1
 refine Ab (Bq 1 (xs4.length) rfl z0 rfl rfl J0)<|bk h fun j2 Z1 h=>RG.acts' .plain (Acts.set (α:=UInt64) (i:=xs4.length) Z1 k0 H0 (fun _=>.hd) x0 rfl rfl rfl rfl rfl (by kernel_rfl)) fun Q2 ⟨C2,u0,E2,x1⟩=>Aa<|Ac<|Ae rfl<|Af rfl<|Aa<|Al rfl ?_
 have v0:=Bz u0 .hd
 have F2:=BA u0 .hd
 have R1:=BB (α:=UInt64) (v:=(.slice (some ⟨j0,0,none⟩) ((xs4.length + 1:Nat):Int).toNat ((xs4.length + 1:Nat):Int).toNat)) (xs:=j2) v0 L (Bj (α:=UInt64) u0 .hd x1 hL)
 refine AW hb0 Tryz.func189 rfl rfl ?_
 cases h
 exact ⟨v0.ag,fun w9 hw9=>⟨(.slice (some ⟨j0,0,none⟩) ((xs4.length + 1:Nat):Int).toNat ((xs4.length + 1:Nat):Int).toNat),rfl,v0.kd R1 hw9⟩⟩
 intro s2 C0 h
 try dsimp only at h
 refine AT rfl h (fun b1 h=>?_) (fun b1 h=>?_)
 refine Av<|Ae rfl<|Ae rfl<|Af rfl<|Af rfl<|Aa<|C0 (a1,a0,v1_0,v0_0) hS0 (By _ _) ⟨h1_0,h0_0⟩ h
 refine Au<|C0 (a0,a1,v0_0,v1_0) hS0 (By _ _) ⟨h0_0,h1_0⟩ h
def bZ_l1 (_n:Nat) (a0:List UInt64) (a1:List UInt64) (g0:Int -> Option (Int ⊕ Unit)):Int -> Option (Int ⊕ Unit)
  | b0=>(if 0 <= b0 then (idx a0 b0).bind fun c0=>(idx a1 b0).bind fun d0=>(if c0 < d0 then some (.inl (-1:Int)) else (if d0 < c0 then some (.inl (1:Int)) else (chk (b0 - 1)).bind fun j0=>g0 j0)) else some (.inr ()))
def bZ_p (n:Nat) (a0:List UInt64) (a1:List UInt64):Option Int:=
  (if a0.length = a1.length then thn (loopF (bZ_l1 n a0 a1) n (((a0.length:Nat):Int) - 1)) (fun _=>some (0:Int)) else some (((a0.length:Nat):Int) - ((a1.length:Nat):Int)))
theorem bZ_c (n:Nat) {L w} (_hL:hl L w) {a0:List UInt64} {v0_0:Value} (h0_0:Rep.R w L [v0_0] a0) {a1:List UInt64} {v1_0:Value} (h1_0:Rep.R w L [v1_0] a1)  {r:Int} (h:bZ_p n a0 a1 = some r) :
 Cl 190 #[v0_0,v1_0] w (Gives w fun _ u=>u = vI r):=by
 unfold bZ_p at h
 have hS0:=Az w
 refine AD Tryz.func190 rfl rfl rfl fun _ cs0 hb0=>Ac<|Af rfl<|Aa<|Aj<|Ac<|Ae rfl ?_
 have hl1:a0.length <= 281474976710656:=AY h0_0
 refine Ab (Be (xs:=a0) Tryz.underlying146 rfl h0_0)<|Ae rfl ?_
 have hl2:a1.length <= 281474976710656:=AY h1_0
 refine Ab (Be (xs:=a1) Tryz.underlying146 rfl h1_0)<|Ab (FV.neqN (i:=a0.length) (j:=a1.length) rfl rfl)<|Aa<|MX.ifn rfl h (fun c3 h=>?_) (fun c3 h=>?_)
 refine Au<|Aj<|Ac<|Ae rfl<|Ab (Be (xs:=a0) Tryz.underlying146 rfl h0_0)<|Ab (FV.subI (i:=((a0.length:Nat):Int)) (j:=1) rfl rfl (by omega))<|Af rfl<|Aa<|AA<|tn h fun j1 M0 p0=>MX.lo (α:=Int) (fun d0=>[(0,v0_0),(1,v1_0),(5,vI d0)]) (fun d0=>[]) (fun d0=>d0) (((a0.length:Nat):Int) - 1) M0 hS0 ?_
 rintro c1 d0 k1 H0 k0 I0 h
 unfold bZ_l1 at h
 try dsimp only at h
 refine Aj<|Ac<|Ae rfl<|Ab (FV.geq (i:=d0) (j:=0) rfl rfl)<|Aa<|AT rfl h (fun C0 h=>?_) (fun C0 h=>?_)
 refine Au<|Aj<|AA<|AA<|Aj<|du 10 fun b0 g0=>Rv 0 b0 rfl g0 (fun _=>Ai rfl)<|Rv 1 b0 rfl g0 (fun _=>Ai rfl)<|bk h fun q0 U0 h=>?_
 obtain ⟨v0,V0⟩:=idx_in U0
 obtain ⟨Z0,d1,t0,y0,F0,P0,A0⟩:=Br (AS h0_0 k0) V0
 have J0:F0 = [vU q0]:=P0; subst J0
 refine Rv 2 b0 rfl g0 (fun _=>Bq 1 (d0.toNat) rfl t0 rfl v0 y0)<|Rx 3 768 b0 rfl g0 (AL rfl (A0 0 _ rfl))<|Rv 4 b0 rfl g0 (fun _=>Ai rfl)<|Rv 5 b0 rfl g0 (fun _=>Ai rfl)<|bk h fun s0 W0 h=>?_
 obtain ⟨x0,X0⟩:=idx_in W0
 obtain ⟨b1,g1,u0,z0,G0,Q0,B0⟩:=Br (AS h1_0 k0) X0
 have K0:G0 = [vU s0]:=Q0; subst K0
 refine Rv 6 b0 rfl g0 (fun _=>Bq 1 (d0.toNat) rfl u0 rfl x0 z0)<|Rx 7 768 b0 rfl g0 (AL rfl (B0 0 _ rfl))<|Rv 8 b0 rfl g0 (fun _=>FV.lssU (a:=q0) (b:=s0) rfl rfl)<|Rv 9 b0 rfl g0 (fun _=>AV rfl)<|AN (dk b0)<|AT rfl h (fun D0 h=>?_) (fun D0 h=>?_)
 refine Ac<|Af rfl<|Aa ?_
 have h:=thn_inl h p0
 refine Al rfl<|AW hb0 Tryz.func190 rfl rfl ?_
 cases h
 exact k0.gv
 refine Aj<|du 10 fun c0 j0=>Rv 0 c0 rfl j0 (fun _=>Ai rfl)<|Rv 1 c0 rfl j0 (fun _=>Ai rfl)<|Rv 2 c0 rfl j0 (fun _=>Bq 1 (d0.toNat) rfl t0 rfl v0 y0)<|Rx 3 768 c0 rfl j0 (AL rfl (A0 0 _ rfl))<|Rv 4 c0 rfl j0 (fun _=>Ai rfl)<|Rv 5 c0 rfl j0 (fun _=>Ai rfl)<|Rv 6 c0 rfl j0 (fun _=>Bq 1 (d0.toNat) rfl u0 rfl x0 z0)<|Rx 7 768 c0 rfl j0 (AL rfl (B0 0 _ rfl))<|Rv 8 c0 rfl j0 (fun _=>FV.gtrU (a:=q0) (b:=s0) rfl rfl)<|Rv 9 c0 rfl j0 (fun _=>AV rfl)<|AN (dk c0)<|AT rfl h (fun E0 h=>?_) (fun E0 h=>?_)
 refine Ac<|Af rfl<|Aa ?_
 have h:=thn_inl h p0
 refine Al rfl<|AW hb0 Tryz.func190 rfl rfl ?_
 cases h
 exact k0.gv
 refine Au<|AC<|AC<|Av<|Ae rfl<|bk h fun Y0 R0 h=>Ab (FV.subc (i:=d0) (j:=1) rfl rfl R0)<|Af rfl<|Aa<|H0 Y0 k0 I0 h
 refine Bd rfl ?_
 have h:=thn_inr h p0
 try dsimp only at h
 refine Ac<|Af rfl<|Aa<|Al rfl<|AW hb0 Tryz.func190 rfl rfl ?_
 cases h
 exact k0.gv
 refine Ac<|Ae rfl<|Ab (Be (xs:=a0) Tryz.underlying146 rfl h0_0)<|Ae rfl<|Ab (Be (xs:=a1) Tryz.underlying146 rfl h1_0)<|Ab (FV.subI (i:=((a0.length:Nat):Int)) (j:=((a1.length:Nat):Int)) rfl rfl (by omega))<|Af rfl<|Aa<|Al rfl<|AW hb0 Tryz.func190 rfl rfl ?_
 cases h
 exact hS0.gv
def ct_l1 (_n:Nat) (a0:List UInt64) (a1:List UInt64) (j0:UInt64 × Nat × (List UInt64) -> Option (List UInt64)):UInt64 × Nat × (List UInt64) -> Option (List UInt64)
  | (k0,b0,c0)=>(if b0 < a0.length then (a0[b0]?).bind fun q0=>jn (fun p0=>(sub64 q0 p0 k0).bind fun g0=>(c0[b0]?).bind fun _x193=>(put c0 ((b0:Nat):Int) g0.1).bind fun t0=>j0 (g0.2,b0 + 1,t0)) (fun d0=>(if b0 < a1.length then (a1[b0]?).bind fun s0=>d0 s0 else d0 (0:UInt64))) else some c0)
def ct_p (n:Nat) (a0:List UInt64) (a1:List UInt64):Option (List UInt64):=
  (mk ((a0.length:Nat):Int) (0:UInt64)).bind fun b0=>Option.bind (loopF (ct_l1 n a0 a1) n ((0:UInt64),0,b0)) (fun c0=>some c0)
theorem ct_c (n:Nat) {L w} (hL:hl L w) {a0:List UInt64} {v0_0:Value} (h0_0:Rep.R w L [v0_0] a0) {a1:List UInt64} {v1_0:Value} (h1_0:Rep.R w L [v1_0] a1)  {r:List UInt64} (h:ct_p n a0 a1 = some r) :
 Cl 191 #[v0_0,v1_0] w (Gives w fun w' u=>∃ v0_0:Value,u = v0_0/\Rep.R w' L [v0_0] r):=by
 unfold ct_p at h
 refine AD Tryz.func191 rfl rfl rfl fun _ cs0 hb0=>Ac<|Af rfl<|Aa<|Ac<|Ae rfl ?_
 have hl1:a0.length <= 281474976710656:=AY h0_0
 refine Ab (Be (xs:=a0) Tryz.underlying146 rfl h0_0)<|bk h fun H0 E0 h=>Ak .plain rfl (Does.mk (α:=UInt64) E0 (Az w) el146 rfl) fun c2 k0 q0 W1=>Af rfl<|Aa<|Ac<|Af rfl<|Aa<|Aj<|Ac<|Ae rfl<|Ab (Be (xs:=a0) Tryz.underlying146 rfl (AS h0_0 q0))<|Ae rfl<|Aa<|AA ?_
 obtain ⟨b2,v1,k1⟩:=bind_in2 h
 refine MX.lf (α:=UInt64 × Nat × (List UInt64) × (List Value)) (fun ⟨j0,b0,c0,d0⟩=>[(1,v1_0),(5,(.slice (some ⟨k0,0,none⟩) ((a0.length:Nat):Int).toNat ((a0.length:Nat):Int).toNat)),(6,vU j0),(13,v0_0),(14,vI ((a0.length:Nat):Int)),(15,vI ((b0:Nat):Int))]) (fun ⟨j0,b0,c0,d0⟩=>[rr w 33 UInt64 (.slice (some ⟨k0,0,none⟩) ((a0.length:Nat):Int).toNat ((a0.length:Nat):Int).toNat) c0.length d0]) (fun ⟨j0,b0,c0,d0⟩ F0=>Cells F0 (bl [rr w 33 UInt64 (.slice (some ⟨k0,0,none⟩) ((a0.length:Nat):Int).toNat ((a0.length:Nat):Int).toNat) c0.length d0] ++ L) d0 c0) (fun ⟨j0,b0,c0,d0⟩=>(j0,b0,c0)) ((0:UInt64),0,H0,(List.replicate ((a0.length:Nat):Int).toNat [vW 0]).flatten) v1 q0 (AB (cs:=(List.replicate ((a0.length:Nat):Int).toNat [vW 0]).flatten) (xs:=H0) q0 L (Cells.mk E0 rfl)) ?_
 rintro M1 ⟨j0,b0,c0,d0⟩ F0 V0 g0 X0 A0 h
 unfold ct_l1 at h
 try dsimp only at h
 refine Ac<|Ab (Bu (i:=b0) (j:=a0.length) rfl rfl)<|Aa<|Aj<|AT rfl h (fun K0 h=>?_) (fun K0 h=>?_)
 refine Au<|Aj<|AA<|Ac<|Ae rfl<|bk h fun x0 B1 h=>?_
 obtain ⟨J1,Q1,b1,p1,P0,x1,s1⟩:=Br (AS h0_0 g0) B1
 have c1:P0 = [vU x0]:=x1; subst c1
 refine Ab (Bq 1 b0 rfl b1 rfl rfl p1)<|AP rfl (s1 0 _ rfl)<|Af rfl<|Af rfl<|Aa<|Ac<|Af rfl<|Aa<|Aj<|Ac<|Ae rfl<|Ae rfl ?_
 have v0:=AS h1_0 g0
 have Y1:a1.length <= 281474976710656:=AY v0
 refine Ab (Be (xs:=a1) Tryz.underlying146 rfl v0)<|Ab (Bu (i:=b0) (j:=a1.length) rfl rfl)<|Aa<|MX.jo (α:=UInt64) (fun p0=>[(1,v1_0),(5,(.slice (some ⟨k0,0,none⟩) ((a0.length:Nat):Int).toNat ((a0.length:Nat):Int).toNat)),(6,vU j0),(13,v0_0),(14,vI ((a0.length:Nat):Int)),(15,vI ((b0:Nat):Int)),(7,vI ((b0:Nat):Int)),(8,vU x0),(9,vU p0)]) (fun p0=>[rr w 33 UInt64 (.slice (some ⟨k0,0,none⟩) ((a0.length:Nat):Int).toNat ((a0.length:Nat):Int).toNat) c0.length d0]) (fun p0=>p0) g0 h ?_ ?_
 rintro p0 g2 s0 z0 h
 try dsimp only at h
 refine Av<|Ae rfl<|Ae rfl<|Ae rfl<|Ae rfl<|Ae rfl<|bk h fun I1 F1 h=>Ab (FV.sub64 (a:=x0) (b:=p0) (c:=j0) Tryz.func206 rfl (by kernel_rfl) (by kernel_rfl) (by kernel_rfl) rfl rfl rfl F1)<|Ae rfl<|Ab (Ag rfl rfl)<|Ab (Ag rfl rfl)<|bk h fun G1 C1 h=>?_
 have D0:=Aw A0 z0
 obtain ⟨I0,R1,u0,C0,Q0,y1,Z1⟩:=St.nth (α:=UInt64) s0 .hd D0 C1
 obtain ⟨J0,U1,B0⟩:=BR (α:=UInt64) s0 .hd C0
 obtain rfl:I0 = ⟨J0,0,none⟩:=by rw [B0] at u0; cases u0; rfl
 have d1:Q0 = [vU G1]:=y1; subst d1
 refine Ab (Bq 1 b0 rfl u0 rfl rfl C0)<|bk h fun H1 E1 h=>RG.acts' .plain (Acts.set (α:=UInt64) (i:=b0) E1 s0 B0 (fun _=>.hd) D0 rfl rfl rfl rfl rfl (by kernel_rfl)) fun d2 ⟨R0,W0,Y0,Z0⟩=>Af rfl<|Aa<|AC<|Av<|Ab (Bw (i:=b0) (j:=1) rfl rfl (by omega))<|Ae rfl<|Aa<|V0 (I1.2,b0 + 1,H1,R0) W0 (Tt X0 (Tt z0 Y0)) Z0 h
 intro P1 y0 h
 try dsimp only at h
 refine AT rfl h (fun M0 h=>?_) (fun M0 h=>?_)
 refine Av<|Ae rfl<|Ae rfl<|bk h fun G0 D1 h=>?_
 obtain ⟨K1,V1,g1,q1,U0,z1,u1⟩:=Br v0 D1
 have j1:U0 = [vU G0]:=z1; subst j1
 refine Ab (Bq 1 b0 rfl g1 rfl rfl q1)<|AP rfl (u1 0 _ rfl)<|Af rfl<|Aa<|y0 G0 g0 (By _ _) h
 refine Au<|y0 (0:UInt64) g0 (By _ _) h
 refine Bd rfl ?_
 have h:=k1 _ h
 try dsimp only at h
 refine Ac<|Ae rfl<|Af rfl<|Aa<|Al rfl ?_
 have t0:=Bz g0 .hd
 have X1:=BA g0 .hd
 have A1:=BB (α:=UInt64) (v:=(.slice (some ⟨k0,0,none⟩) ((a0.length:Nat):Int).toNat ((a0.length:Nat):Int).toNat)) (xs:=c0) t0 L (Bj (α:=UInt64) g0 .hd A0 hL)
 refine AW hb0 Tryz.func191 rfl rfl ?_
 cases h
 exact ⟨t0.ag,fun w9 hw9=>⟨(.slice (some ⟨k0,0,none⟩) ((a0.length:Nat):Int).toNat ((a0.length:Nat):Int).toNat),rfl,t0.kd A1 hw9⟩⟩
def bX_p (n:Nat) (a0:Te) (a1:Te):Option Te:=
  (if (a0.fc == a1.fc) = true then (cG_p n a0.fm a1.fm).bind fun j0=>(au_p n a0.fc j0).bind fun k0=>some k0 else (bZ_p n a0.fm a1.fm).bind fun p0=>jn (fun (_q58,d0,c0,g0)=>(ct_p n g0 d0).bind fun q0=>(au_p n c0 q0).bind fun s0=>some s0) (fun b0=>(if p0 < 0 then b0 (a0.fc,a0.fm,a1.fc,a1.fm) else b0 (a1.fc,a1.fm,a0.fc,a0.fm))))
theorem bX_c (n:Nat) {L w} (hL:hl L w) (a0:Te) {v0_1:Value} (h0_1:Rep.R w L [v0_1] a0.fm) (a1:Te) {v1_1:Value} (h1_1:Rep.R w L [v1_1] a1.fm)  {r:Te} (h:bX_p n a0 a1 = some r) :
 Cl 159 #[.agg #[.bool a0.fc,v0_1],.agg #[.bool a1.fc,v1_1]] w (Gives w fun w' u=>∃ v0_1:Value,u = .agg #[.bool r.fc,v0_1]/\Rep.R w' L [v0_1] r.fm):=by
 unfold bX_p at h
 refine AD Tryz.func159 rfl rfl rfl fun _ cs0 hb0=>Ac<|RG.bx (Az w) rfl rfl fun Y1 y0 X0 F1=>RG.bx X0 rfl rfl fun Z1 z0 Y0 G1=>RG.nl [.bool false,vN] Y0 fun b2 A0 b0 H1=>Aa<|Aj<|Ac<|AR 0 rfl<|AP rfl ((b0.memA .t2) 0 _ rfl)<|AR 0 rfl<|AP rfl ((b0.memA .t1) 0 _ rfl)<|Ab (FV.eqlB (a:=a0.fc) (b:=a1.fc) Tryz.underlying4 rfl rfl)<|Aa<|MX.ifb rfl h (fun V0 h=>?_) (fun V0 h=>?_)
 refine Aj<|du 8 fun c0 s0=>Rv 0 c0 rfl s0 (fun _=>Bb 0 rfl)<|Rx 1 384 c0 rfl s0 (AL rfl ((b0.memA .t2) 0 _ rfl))<|Rv 2 c0 rfl s0 (fun _=>Bb 1 rfl)<|Rx 3 448 c0 rfl s0 (AL rfl ((b0.memA .t2) 1 _ rfl))<|Rv 4 c0 rfl s0 (fun _=>Bb 1 rfl)<|Rx 5 448 c0 rfl s0 (AL rfl ((b0.memA .t1) 1 _ rfl))<|bk h fun u2 z1 h=>Bn 6 127 c0 rfl .plain (bd 189) rfl (e2 rfl rfl) (fun w9 hw9=>cG_c n (b0.hL hL hw9) (b0.km h0_1 hw9) (b0.km h1_1 hw9) z1) rfl fun c2 U1 k1 ⟨Q1,hu_,u1⟩=>?_
 subst hu_
 obtain ⟨I0,I1⟩:=b0.agr k1
 refine bk h fun Q0 A1 h=>Bn 7 255 c0 rfl .plain (bd 158) rfl (e2 rfl rfl) (fun w9 hw9=>au_c n (I0.hL hL hw9) (Aq u1 hw9) A1) rfl fun d2 V1 p1 ⟨E0,hu_,M0⟩=>?_
 subst hu_
 obtain ⟨Z0,J1⟩:=I0.agr p1
 refine BE 8 511 c0 rfl rfl .plain (AF (news:=[.bool Q0.fc,E0]) Z0 .hd rfl rfl rfl rfl rfl rfl (o2 rfl (AO M0))) fun g2 C0 d1=>AN (dk c0)<|Al rfl<|Am hb0 Tryz.func159 rfl (.cons (.many (cs:=[.bool Q0.fc,E0]) (by kernel_rfl) rfl (C0.memA .hd)) .nil) rfl ?_
 cases h
 exact ⟨C0.ag,fun w9 hw9=>⟨E0,rfl,C0.kd (Ao M0 d1) hw9⟩⟩
 refine Au<|Aj<|Ac<|AR 1 rfl<|AP rfl ((b0.memA .t2) 1 _ rfl)<|AR 1 rfl<|AP rfl ((b0.memA .t1) 1 _ rfl)<|bk h fun R0 B1 h=>Ba (vI R0) (bd 190) rfl (e2 rfl rfl) (fun w9 hw9=>bZ_c n (b0.hL0 hL hw9) (b0.k0 h0_1 hw9) (b0.k0 h1_1 hw9) B1) rfl<|Ab (BS (i:=R0) (j:=0) rfl rfl)<|Aa<|MX.jf (α:=Bool × (List UInt64) × Bool × (List UInt64) × Value × Value) (fun ⟨g0,u0,j0,v0,p0,q0⟩=>[(2,vP y0),(3,vP z0),(4,vP A0)]) (fun ⟨g0,u0,j0,v0,p0,q0⟩=>[.cells A0 [.bool false,vN] 148,.cells z0 [.bool g0,p0] 148,.cells y0 [.bool j0,q0] 148]) (fun ⟨g0,u0,j0,v0,p0,q0⟩ G0=>Rep.R G0 (bl [.cells A0 [.bool false,vN] 148,.cells z0 [.bool g0,p0] 148,.cells y0 [.bool j0,q0] 148] ++ L) [p0] u0/\Rep.R G0 (bl [.cells A0 [.bool false,vN] 148,.cells z0 [.bool g0,p0] 148,.cells y0 [.bool j0,q0] 148] ++ L) [q0] v0) (fun ⟨g0,u0,j0,v0,p0,q0⟩=>(g0,u0,j0,v0)) b0 h ?_ ?_
 rintro ⟨g0,u0,j0,v0,p0,q0⟩ G0 x0 K1 ⟨v1,x1⟩ h
 try dsimp only at h
 refine Aj<|du 8 fun d0 t0=>Rv 0 d0 rfl t0 (fun _=>Bb 0 rfl)<|Rx 1 384 d0 rfl t0 (AL rfl ((x0.memA .t2) 0 _ rfl))<|Rv 2 d0 rfl t0 (fun _=>Bb 1 rfl)<|Rx 3 448 d0 rfl t0 (AL rfl ((x0.memA .t2) 1 _ rfl))<|Rv 4 d0 rfl t0 (fun _=>Bb 1 rfl)<|Rx 5 448 d0 rfl t0 (AL rfl ((x0.memA .t1) 1 _ rfl))<|bk h fun v2 C1 h=>Bn 6 127 d0 rfl .plain (bd 191) rfl (e2 rfl rfl) (fun w9 hw9=>ct_c n (x0.hL hL hw9) (Aq x1 hw9) (Aq v1 hw9) C1) rfl fun j2 W1 q1 ⟨R1,hu_,y1⟩=>?_
 subst hu_
 obtain ⟨J0,M1⟩:=x0.agr q1
 refine bk h fun U0 D1 h=>Bn 7 255 d0 rfl .plain (bd 158) rfl (e2 rfl rfl) (fun w9 hw9=>au_c n (J0.hL hL hw9) (Aq y1 hw9) D1) rfl fun k2 X1 s1 ⟨F0,hu_,P0⟩=>?_
 subst hu_
 obtain ⟨b1,P1⟩:=J0.agr s1
 refine BE 8 511 d0 rfl rfl .plain (AF (news:=[.bool U0.fc,F0]) b1 .hd rfl rfl rfl rfl rfl rfl (o2 rfl (AO P0))) fun p2 D0 g1=>AN (dk d0)<|Al rfl<|Am hb0 Tryz.func159 rfl (.cons (.many (cs:=[.bool U0.fc,F0]) (by kernel_rfl) rfl (D0.memA .hd)) .nil) rfl ?_
 cases h
 exact ⟨D0.ag,fun w9 hw9=>⟨F0,rfl,D0.kd (Ao P0 g1) hw9⟩⟩
 intro E1 H0 h
 try dsimp only at h
 refine AT rfl h (fun W0 h=>?_) (fun W0 h=>?_)
 refine Av<|Ab (AH rfl (b0.memA .t1))<|Ab (AH rfl (b0.memA .t2))<|AQ [.bool a1.fc,v1_1] b0 .t2 (o2 rfl (AO (AS h1_1 b0))) fun q2 K0 j1=>AQ [.bool a0.fc,v0_1] K0 .t1 (o2 rfl (AO (AS h0_1 K0))) fun s2 B0 c1=>Aa<|H0 (a0.fc,a0.fm,a1.fc,a1.fm,v0_1,v1_1) B0 (Tt j1 c1) ⟨(AS h0_1 B0),(AS h1_1 B0)⟩ h
 refine Au<|H0 (a1.fc,a1.fm,a0.fc,a0.fm,v1_1,v0_1) b0 (By _ _) ⟨(AS h1_1 b0),(AS h0_1 b0)⟩ h
def stab0:List UInt8:=[0,1,2,2,3,3,3,3,4,4,4,4,4,4,4,4,5,5,5,5,5,5,5,5,5,5,5,5,5,5,5,5,6,6,6,6,6,6,6,6,6,6,6,6,6,6,6,6,6,6,6,6,6,6,6,6,6,6,6,6,6,6,6,6,7,7,7,7,7,7,7,7,7,7,7,7,7,7,7,7,7,7,7,7,7,7,7,7,7,7,7,7,7,7,7,7,7,7,7,7,7,7,7,7,7,7,7,7,7,7,7,7,7,7,7,7,7,7,7,7,7,7,7,7,7,7,7,7,8,8,8,8,8,8,8,8,8,8,8,8,8,8,8,8,8,8,8,8,8,8,8,8,8,8,8,8,8,8,8,8,8,8,8,8,8,8,8,8,8,8,8,8,8,8,8,8,8,8,8,8,8,8,8,8,8,8,8,8,8,8,8,8,8,8,8,8,8,8,8,8,8,8,8,8,8,8,8,8,8,8,8,8,8,8,8,8,8,8,8,8,8,8,8,8,8,8,8,8,8,8,8,8,8,8,8,8,8,8,8,8,8,8,8,8,8,8,8,8,8,8,8,8,8,8,8,8]
def cW_p (_n:Nat) (a0:UInt64):Option Int:=
  jn (fun (u2,i3)=>jn (fun (b0,g0)=>jn (fun (q0,s0)=>(stab0[(u8of q0).toNat]?).bind fun t0=>(chk (s0 + ((t0.toNat:Nat):Int))).bind fun j0=>some j0) (fun d0=>(if (256:UInt64) <= b0 then (chk (g0 + 8)).bind fun k0=>d0 (shrU b0 8,k0) else d0 (b0,g0)))) (fun c0=>(if (65536:UInt64) <= u2 then (chk (((i3:Nat):Int) + 16)).bind fun p0=>c0 (shrU u2 16,p0) else c0 (u2,((i3:Nat):Int))))) (fun J7=>(if (4294967296:UInt64) <= a0 then J7 (shrU a0 32,32) else J7 (a0,0)))
theorem cW_c (n:Nat) {L w} (_hL:hl L w) (a0:UInt64)  {r:Int} (h:cW_p n a0 = some r) :
 Cl 215 #[vU a0] w (Gives w fun _ u=>u = vI r):=by
 unfold cW_p at h
 have hS0:=Az w
 refine AD Tryz.func215 rfl rfl rfl fun _ cs0 hb0=>Ac<|Af rfl<|Aa<|Aj<|Ac<|Ae rfl<|Ab (FV.geqU (a:=a0) (b:=(4294967296:UInt64)) rfl rfl)<|Aa<|MX.jo (α:=UInt64 × Nat) (fun ⟨u2,i3⟩=>[(0,vU u2),(2,vI ((i3:Nat):Int))]) (fun ⟨u2,i3⟩=>[]) (fun ⟨u2,i3⟩=>(u2,i3)) hS0 h ?_ ?_
 rintro ⟨u2,i3⟩ wx3 hS4 hT5 h
 try dsimp only at h
 refine Aj<|Ac<|Ae rfl<|Ab (FV.geqU (a:=u2) (b:=(65536:UInt64)) rfl rfl)<|Aa<|MX.jo (α:=UInt64 × Int) (fun ⟨b0,d0⟩=>[(0,vU b0),(2,vI d0)]) (fun ⟨b0,d0⟩=>[]) (fun ⟨b0,d0⟩=>(b0,d0)) hS4 h ?_ ?_
 rintro ⟨b0,d0⟩ J0 j0 F0 h
 try dsimp only at h
 refine Aj<|Ac<|Ae rfl<|Ab (FV.geqU (a:=b0) (b:=(256:UInt64)) rfl rfl)<|Aa<|MX.jo (α:=UInt64 × Int) (fun ⟨c0,g0⟩=>[(0,vU c0),(2,vI g0)]) (fun ⟨c0,g0⟩=>[]) (fun ⟨c0,g0⟩=>(c0,g0)) j0 h ?_ ?_
 rintro ⟨c0,g0⟩ K0 v0 G0 h
 try dsimp only at h
 refine Ac<|Ae rfl<|Ae rfl<|Ab (FV.conv8 (a:=c0) Tryz.underlying33 Tryz.underlying5 rfl)<|bk h fun k0 A0 h=>Ab (FV.strIdx (k:=(u8of c0).toNat) (tab:=stab0) Tryz.underlying9 rfl rfl rfl rfl A0) ?_
 have H0:=k0.toNat_lt
 refine Ab (FV.convN (i:=k0.toNat) Tryz.underlying5 Tryz.underlying3 rfl (by omega))<|bk h fun I0 x0 h=>Ab (BJ (i:=g0) (j:=((k0.toNat:Nat):Int)) rfl rfl x0)<|Af rfl<|Aa<|Al rfl<|AW hb0 Tryz.func215 rfl rfl ?_
 cases h
 exact v0.gv
 intro E0 q0 h
 try dsimp only at h
 refine AT rfl h (fun s0 h=>?_) (fun s0 h=>?_)
 refine Ac<|Ae rfl<|Ab (FV.shrU (a:=b0) (j:=8) rfl rfl)<|Af rfl<|Aa<|Av<|Ae rfl<|bk h fun B0 y0 h=>Ab (BJ (i:=d0) (j:=8) rfl rfl y0)<|Af rfl<|Aa<|q0 (shrU b0 8,B0) j0 (By _ _) h
 refine Au<|q0 (b0,d0) j0 (By _ _) h
 intro D0 p0 h
 try dsimp only at h
 refine AT rfl h (fun t0 h=>?_) (fun t0 h=>?_)
 refine Ac<|Ae rfl<|Ab (FV.shrU (a:=u2) (j:=16) rfl rfl)<|Af rfl<|Aa<|Av<|Ae rfl<|bk h fun C0 z0 h=>Ab (BJ (i:=((i3:Nat):Int)) (j:=16) rfl rfl z0)<|Af rfl<|Aa<|p0 (shrU u2 16,C0) hS4 (By _ _) h
 refine Au<|p0 (u2,((i3:Nat):Int)) hS4 (By _ _) h
 intro J7 hJ8 h
 try dsimp only at h
 refine AT rfl h (fun u0 h=>?_) (fun u0 h=>?_)
 refine Ac<|Ae rfl<|Ab (FV.shrU (a:=a0) (j:=32) rfl rfl)<|Af rfl<|Aa<|Av<|Af rfl<|Aa<|hJ8 (shrU a0 32,32) hS0 (By _ _) h
 refine Au<|hJ8 (a0,0) hS0 (By _ _) h
def bt_p (n:Nat) (a0:UInt64):Option Int:=
  (cW_p n a0).bind fun y1=>(chk (64 - y1)).bind fun s2=>some s2
theorem bt_c (n:Nat) {L w} (hL:hl L w) (a0:UInt64)  {r:Int} (h:bt_p n a0 = some r) :
 Cl 210 #[vU a0] w (Gives w fun _ u=>u = vI r):=by
 unfold bt_p at h
 have hS0:=Az w
 refine AD Tryz.func210 rfl rfl rfl fun _ cs0 hb0=>Ac<|Af rfl<|Aa<|Ac<|Ae rfl<|bk h fun y1 hy1 h=>Ba (vI y1) (bd 215) rfl (e1 rfl) (fun w9 hw9=>cW_c n (hS0.hL0 hL hw9) a0 hy1) rfl<|bk h fun s2 hs2 h=>Ab (FV.subc (i:=64) (j:=y1) rfl rfl hs2)<|Af rfl<|Aa<|Al rfl<|AW hb0 Tryz.func210 rfl rfl ?_
 cases h
 exact hS0.gv
def aM_l1 (_n:Nat) (a2:UInt64) (y8:Int) (a1:UInt64) (d0:UInt64 × UInt64 -> Option UInt64):UInt64 × UInt64 -> Option UInt64
  | (b0,c0)=>(if (4294967296:UInt64) <= b0 then (if (4294967296:UInt64) <= (c0 + (shrU (shlU a2 (u64of y8).toNat) 32)) then some (b0 - (1:UInt64)) else d0 (b0 - (1:UInt64),c0 + (shrU (shlU a2 (u64of y8).toNat) 32))) else (if (((4294967296:UInt64) * c0) + ((shlU a1 (u64of y8).toNat) &&& (4294967295:UInt64))) < (b0 * ((shlU a2 (u64of y8).toNat) &&& (4294967295:UInt64))) then (if (4294967296:UInt64) <= (c0 + (shrU (shlU a2 (u64of y8).toNat) 32)) then some (b0 - (1:UInt64)) else d0 (b0 - (1:UInt64),c0 + (shrU (shlU a2 (u64of y8).toNat) 32))) else some b0))
def aM_l2 (_n:Nat) (a2:UInt64) (y8:Int) (a1:UInt64) (d0:UInt64 × UInt64 -> Option UInt64):UInt64 × UInt64 -> Option UInt64
  | (b0,c0)=>(if (4294967296:UInt64) <= b0 then (if (4294967296:UInt64) <= (c0 + (shrU (shlU a2 (u64of y8).toNat) 32)) then some (b0 - (1:UInt64)) else d0 (b0 - (1:UInt64),c0 + (shrU (shlU a2 (u64of y8).toNat) 32))) else (if (((4294967296:UInt64) * c0) + (shrU (shlU a1 (u64of y8).toNat) 32)) < (b0 * ((shlU a2 (u64of y8).toNat) &&& (4294967295:UInt64))) then (if (4294967296:UInt64) <= (c0 + (shrU (shlU a2 (u64of y8).toNat) 32)) then some (b0 - (1:UInt64)) else d0 (b0 - (1:UInt64),c0 + (shrU (shlU a2 (u64of y8).toNat) 32))) else some b0))
def aM_p (n:Nat) (a0:UInt64) (a1:UInt64) (a2:UInt64):Option (UInt64 × UInt64):=
  (if a2 = (0:UInt64) then none else (if a2 <= a0 then none else (if a0 = (0:UInt64) then (quoW a1 a2).bind fun s6=>(remW a1 a2).bind fun s7=>some (s6,s7) else (bt_p n a2).bind fun y8=>(quoW ((shlU a0 (u64of y8).toNat) ||| (shrU a1 ((64:UInt64) - (u64of y8)).toNat)) (shrU (shlU a2 (u64of y8).toNat) 32)).bind fun s9=>(some (((shlU a0 (u64of y8).toNat) ||| (shrU a1 ((64:UInt64) - (u64of y8)).toNat)) - (s9 * (shrU (shlU a2 (u64of y8).toNat) 32)))).bind fun p0=>jn (fun b0=>(some (((shlU a0 (u64of y8).toNat) ||| (shrU a1 ((64:UInt64) - (u64of y8)).toNat)) * (4294967296:UInt64))).bind fun c0=>(quoW ((c0 + (shrU (shlU a1 (u64of y8).toNat) 32)) - (b0 * (shlU a2 (u64of y8).toNat))) (shrU (shlU a2 (u64of y8).toNat) 32)).bind fun d0=>(some (((c0 + (shrU (shlU a1 (u64of y8).toNat) 32)) - (b0 * (shlU a2 (u64of y8).toNat))) - (d0 * (shrU (shlU a2 (u64of y8).toNat) 32)))).bind fun q0=>jn (fun g0=>(some (((c0 + (shrU (shlU a1 (u64of y8).toNat) 32)) - (b0 * (shlU a2 (u64of y8).toNat))) * (4294967296:UInt64))).bind fun s0=>(some ((s0 + ((shlU a1 (u64of y8).toNat) &&& (4294967295:UInt64))) - (g0 * (shlU a2 (u64of y8).toNat)))).bind fun t0=>some ((b0 * (4294967296:UInt64)) + g0,shrU t0 (u64of y8).toNat)) (fun k0=>Option.bind (loopF (aM_l1 n a2 y8 a1) n (d0,q0)) (k0))) (fun j0=>Option.bind (loopF (aM_l2 n a2 y8 a1) n (s9,p0)) (j0)))))
theorem aM_c (n:Nat) {L w} (hL:hl L w) (a0:UInt64) (a1:UInt64) (a2:UInt64)  {r:UInt64 × UInt64} (h:aM_p n a0 a1 a2 = some r) :
 Cl 203 #[vU a0,vU a1,vU a2] w (Gives w fun _ u=>u = .tuple #[vU r.1,vU r.2]):=by
 unfold aM_p at h
 have hS0:=Az w
 refine AD Tryz.func203 rfl rfl rfl fun _ cs0 hb0=>Ac<|Af rfl<|Af rfl<|Aa<|Aj<|Ac<|Ae rfl<|Ab (FV.eqlU (a:=a2) (b:=(0:UInt64)) rfl rfl)<|Aa<|AT rfl h (fun c1 h=>?_) (fun c1 h=>?_)
 refine Av ?_
 cases h
 refine Au<|Aj<|Ac<|Ae rfl<|Ae rfl<|Ab (FV.leqU (a:=a2) (b:=a0) rfl rfl)<|Aa<|AT rfl h (fun c2 h=>?_) (fun c2 h=>?_)
 refine Av ?_
 cases h
 refine Au<|Aj<|Ac<|Ae rfl<|Ab (FV.eqlU (a:=a0) (b:=(0:UInt64)) rfl rfl)<|Aa<|AT rfl h (fun c3 h=>?_) (fun c3 h=>?_)
 refine Aj<|du 8 fun kt4 kp5=>Rv 0 kt4 rfl kp5 (fun _=>Ai rfl)<|Rv 1 kt4 rfl kp5 (fun _=>Ai rfl)<|bk h fun s6 hs6 h=>Rv 2 kt4 rfl kp5 (fun _=>FV.quoV (a:=a1) (b:=a2) rfl rfl hs6)<|Rv 3 kt4 rfl kp5 (fun _=>Ai rfl)<|Rv 4 kt4 rfl kp5 (fun _=>Ai rfl)<|bk h fun s7 hs7 h=>Rv 5 kt4 rfl kp5 (fun _=>FV.remV (a:=a1) (b:=a2) rfl rfl hs7)<|Rv 6 kt4 rfl kp5 (fun _=>AV rfl)<|Rv 7 kt4 rfl kp5 (fun _=>AV rfl)<|AN (dk kt4)<|Al rfl<|Am hb0 Tryz.func203 rfl (.cons (.tmp rfl) (.cons (.tmp rfl) .nil)) rfl ?_
 cases h
 exact hS0.gv
 refine Au<|Ac<|Ae rfl<|bk h fun y8 hy8 h=>Ba (vI y8) (bd 210) rfl (e1 rfl) (fun w9 hw9=>bt_c n (hS0.hL0 hL hw9) a2 hy8) rfl<|Ab (FV.convU (i:=y8) Tryz.underlying3 Tryz.underlying228 rfl)<|Af rfl<|Aa<|Ac<|Ae rfl<|Ae rfl<|Ab (FV.shlU (a:=a2) (j:=(u64of y8).toNat) rfl rfl)<|Af rfl<|Aa<|Ac<|Ae rfl<|Ab (FV.shrU (a:=shlU a2 (u64of y8).toNat) (j:=32) rfl rfl)<|Af rfl<|Aa<|Ac<|Ae rfl<|Ab (FV.andU (a:=shlU a2 (u64of y8).toNat) (b:=(4294967295:UInt64)) rfl rfl)<|Af rfl<|Aa<|Ac<|Ae rfl<|Ae rfl<|Ab (FV.shlU (a:=a0) (j:=(u64of y8).toNat) rfl rfl)<|Ae rfl<|Ae rfl<|Ab (FV.subU (a:=(64:UInt64)) (b:=u64of y8) rfl rfl)<|Ab (FV.shrU (a:=a1) (j:=((64:UInt64) - (u64of y8)).toNat) rfl rfl)<|Ab (FV.orU (a:=shlU a0 (u64of y8).toNat) (b:=shrU a1 ((64:UInt64) - (u64of y8)).toNat) rfl rfl)<|Af rfl<|Aa<|Ac<|Ae rfl<|Ae rfl<|Ab (FV.shlU (a:=a1) (j:=(u64of y8).toNat) rfl rfl)<|Af rfl<|Aa<|Ac<|Ae rfl<|Ab (FV.shrU (a:=shlU a1 (u64of y8).toNat) (j:=32) rfl rfl)<|Af rfl<|Aa<|Ac<|Ae rfl<|Ab (FV.andU (a:=shlU a1 (u64of y8).toNat) (b:=(4294967295:UInt64)) rfl rfl)<|Af rfl<|Aa<|Ac<|Ae rfl<|Ae rfl<|bk h fun s9 hs9 h=>Ab (FV.quoV (a:=(shlU a0 (u64of y8).toNat) ||| (shrU a1 ((64:UInt64) - (u64of y8)).toNat)) (b:=shrU (shlU a2 (u64of y8).toNat) 32) rfl rfl hs9)<|Af rfl<|Aa<|Ac<|Ae rfl ?_
 refine Ae rfl<|Ae rfl<|Ab (FV.mulU (a:=s9) (b:=shrU (shlU a2 (u64of y8).toNat) 32) rfl rfl)<|bk h fun d1 W0 h=>Ab (FV.as (FV.subU (a:=(shlU a0 (u64of y8).toNat) ||| (shrU a1 ((64:UInt64) - (u64of y8)).toNat)) (b:=s9 * (shrU (shlU a2 (u64of y8).toNat) 32)) rfl rfl) (congrArg (fun z:UInt64=>Value.int .u64 (z.toNat:Int)) (Option.some.inj W0)))<|Af rfl<|Aa<|Aj<|AA<|MX.xo (α:=UInt64) 0 (fun b0=>[(2,vW ((shlU a2 (u64of y8).toNat).toNat:Int)),(8,vW ((u64of y8).toNat:Int)),(9,vW ((shrU (shlU a2 (u64of y8).toNat) 32).toNat:Int)),(10,vW (((shlU a2 (u64of y8).toNat) &&& (4294967295:UInt64)).toNat:Int)),(11,vW (((shlU a0 (u64of y8).toNat) ||| (shrU a1 ((64:UInt64) - (u64of y8)).toNat)).toNat:Int)),(13,vW ((shrU (shlU a1 (u64of y8).toNat) 32).toNat:Int)),(14,vW (((shlU a1 (u64of y8).toNat) &&& (4294967295:UInt64)).toNat:Int)),(15,vU b0)]) (fun b0=>[]) (fun b0=>b0) hS0 rfl h ?_ ?_
 rintro b0 A1 D0 t1 h
 try dsimp only at h
 refine Ac<|Ae rfl<|bk h fun p0 X0 h=>Ab (FV.as (FV.mulU (a:=(shlU a0 (u64of y8).toNat) ||| (shrU a1 ((64:UInt64) - (u64of y8)).toNat)) (b:=(4294967296:UInt64)) rfl rfl) (congrArg (fun z:UInt64=>Value.int .u64 (z.toNat:Int)) (Option.some.inj X0)))<|Ae rfl<|Ab (FV.addU (a:=p0) (b:=shrU (shlU a1 (u64of y8).toNat) 32) rfl rfl)<|Ae rfl<|Ae rfl<|Ab (FV.mulU (a:=b0) (b:=shlU a2 (u64of y8).toNat) rfl rfl)<|Ab (FV.subU (a:=p0 + (shrU (shlU a1 (u64of y8).toNat) 32)) (b:=b0 * (shlU a2 (u64of y8).toNat)) rfl rfl)<|Af rfl<|Aa<|Ac<|Ae rfl<|Ae rfl<|bk h fun A0 V0 h=>Ab (FV.quoV (a:=(p0 + (shrU (shlU a1 (u64of y8).toNat) 32)) - (b0 * (shlU a2 (u64of y8).toNat))) (b:=shrU (shlU a2 (u64of y8).toNat) 32) rfl rfl V0)<|Af rfl<|Aa<|Ac<|Ae rfl<|Ae rfl<|Ae rfl<|Ab (FV.mulU (a:=A0) (b:=shrU (shlU a2 (u64of y8).toNat) 32) rfl rfl)<|bk h fun g1 Y0 h=>Ab (FV.as (FV.subU (a:=(p0 + (shrU (shlU a1 (u64of y8).toNat) 32)) - (b0 * (shlU a2 (u64of y8).toNat))) (b:=A0 * (shrU (shlU a2 (u64of y8).toNat) 32)) rfl rfl) (congrArg (fun z:UInt64=>Value.int .u64 (z.toNat:Int)) (Option.some.inj Y0)))<|Af rfl<|Aa<|Aj<|AA<|MX.xo (α:=UInt64) 2 (fun k0=>[(2,vW ((shlU a2 (u64of y8).toNat).toNat:Int)),(8,vW ((u64of y8).toNat:Int)),(14,vW (((shlU a1 (u64of y8).toNat) &&& (4294967295:UInt64)).toNat:Int)),(15,vU b0),(17,vW (((p0 + (shrU (shlU a1 (u64of y8).toNat) 32)) - (b0 * (shlU a2 (u64of y8).toNat))).toNat:Int)),(18,vU k0)]) (fun k0=>[]) (fun k0=>k0) D0 rfl h ?_ ?_
 rintro k0 B1 Q0 u1 h
 try dsimp only at h
 refine Ac<|Ae rfl<|Ab (FV.mulU (a:=b0) (b:=(4294967296:UInt64)) rfl rfl)<|Ae rfl<|Ab (FV.addU (a:=b0 * (4294967296:UInt64)) (b:=k0) rfl rfl)<|Ae rfl<|bk h fun E0 Z0 h=>Ab (FV.as (FV.mulU (a:=(p0 + (shrU (shlU a1 (u64of y8).toNat) 32)) - (b0 * (shlU a2 (u64of y8).toNat))) (b:=(4294967296:UInt64)) rfl rfl) (congrArg (fun z:UInt64=>Value.int .u64 (z.toNat:Int)) (Option.some.inj Z0)))<|Ae rfl<|Ab (FV.addU (a:=E0) (b:=(shlU a1 (u64of y8).toNat) &&& (4294967295:UInt64)) rfl rfl)<|Ae rfl<|Ae rfl<|Ab (FV.mulU (a:=k0) (b:=shlU a2 (u64of y8).toNat) rfl rfl)<|bk h fun j1 b1 h=>Ab (FV.as (FV.subU (a:=E0 + ((shlU a1 (u64of y8).toNat) &&& (4294967295:UInt64))) (b:=k0 * (shlU a2 (u64of y8).toNat)) rfl rfl) (congrArg (fun z:UInt64=>Value.int .u64 (z.toNat:Int)) (Option.some.inj b1)))<|Ae rfl<|Ab (FV.shrU (a:=j1) (j:=(u64of y8).toNat) rfl rfl)<|Af rfl<|Af rfl<|Aa<|Al rfl<|Am hb0 Tryz.func203 rfl (.cons (.tmp rfl) (.cons (.tmp rfl) .nil)) rfl ?_
 cases h
 exact Q0.gv
 intro s1 x0 h
 try dsimp only at h
 obtain ⟨v1,R0,y0⟩:=bind_in2 h
 refine MX.lo (α:=UInt64 × UInt64) (fun ⟨c0,g0⟩=>[(2,vW ((shlU a2 (u64of y8).toNat).toNat:Int)),(8,vW ((u64of y8).toNat:Int)),(9,vW ((shrU (shlU a2 (u64of y8).toNat) 32).toNat:Int)),(10,vW (((shlU a2 (u64of y8).toNat) &&& (4294967295:UInt64)).toNat:Int)),(14,vW (((shlU a1 (u64of y8).toNat) &&& (4294967295:UInt64)).toNat:Int)),(15,vU b0),(17,vW (((p0 + (shrU (shlU a1 (u64of y8).toNat) 32)) - (b0 * (shlU a2 (u64of y8).toNat))).toNat:Int)),(18,vU c0),(16,vU g0)]) (fun ⟨c0,g0⟩=>[]) (fun ⟨c0,g0⟩=>(c0,g0)) (A0,g1) R0 D0 ?_
 rintro k1 ⟨c0,g0⟩ y1 B0 q0 t0 h
 unfold aM_l1 at h
 try dsimp only at h
 refine Aj<|Ac<|Ae rfl<|Ab (FV.geqU (a:=c0) (b:=(4294967296:UInt64)) rfl rfl)<|Ae rfl<|BD (s:=104) rfl h (fun F0 h=>?_) (fun F0 h=>?_)
 refine Ap<|Ap<|Ap<|Ap<|Ap<|Ap<|Ap<|Ap<|Bh rfl rfl<|Aa<|Bk rfl<|Au<|AA<|Ac<|Ae rfl<|Ab (FV.subU (a:=c0) (b:=(1:UInt64)) rfl rfl)<|Af rfl<|Aa<|Ac<|Ae rfl<|Ae rfl<|Ab (FV.addU (a:=g0) (b:=shrU (shlU a2 (u64of y8).toNat) 32) rfl rfl)<|Af rfl<|Aa<|Ac<|Ae rfl<|Ab (FV.geqU (a:=g0 + (shrU (shlU a2 (u64of y8).toNat) 32)) (b:=(4294967296:UInt64)) rfl rfl)<|Aa<|AT rfl h (fun G0 h=>?_) (fun G0 h=>?_)
 refine Bd rfl ?_
 have h:=y0 _ h
 try dsimp only at h
 exact x0 (c0 - (1:UInt64)) q0 t0 h
 refine Au<|AC<|B0 (c0 - (1:UInt64),g0 + (shrU (shlU a2 (u64of y8).toNat) 32)) q0 t0 h
 refine AE (Ai rfl)<|AE (Ai rfl)<|AE (FV.mulU (a:=c0) (b:=(shlU a2 (u64of y8).toNat) &&& (4294967295:UInt64)) rfl rfl)<|AE (Ai rfl)<|AE (FV.mulU (a:=(4294967296:UInt64)) (b:=g0) rfl rfl)<|AE (Ai rfl)<|AE (FV.addU (a:=(4294967296:UInt64) * g0) (b:=(shlU a1 (u64of y8).toNat) &&& (4294967295:UInt64)) rfl rfl)<|AE (FV.gtrU (a:=c0 * ((shlU a2 (u64of y8).toNat) &&& (4294967295:UInt64))) (b:=((4294967296:UInt64) * g0) + ((shlU a1 (u64of y8).toNat) &&& (4294967295:UInt64))) rfl rfl)<|Bv rfl rfl<|Aa<|AT rfl h (fun H0 h=>?_) (fun H0 h=>?_)
 refine Au<|AA<|Ac<|Ae rfl<|Ab (FV.subU (a:=c0) (b:=(1:UInt64)) rfl rfl)<|Af rfl<|Aa<|Ac<|Ae rfl<|Ae rfl<|Ab (FV.addU (a:=g0) (b:=shrU (shlU a2 (u64of y8).toNat) 32) rfl rfl)<|Af rfl<|Aa<|Ac<|Ae rfl<|Ab (FV.geqU (a:=g0 + (shrU (shlU a2 (u64of y8).toNat) 32)) (b:=(4294967296:UInt64)) rfl rfl)<|Aa<|AT rfl h (fun I0 h=>?_) (fun I0 h=>?_)
 refine Bd rfl ?_
 have h:=y0 _ h
 try dsimp only at h
 exact x0 (c0 - (1:UInt64)) q0 t0 h
 refine Au<|AC<|B0 (c0 - (1:UInt64),g0 + (shrU (shlU a2 (u64of y8).toNat) 32)) q0 t0 h
 refine Bd rfl ?_
 have h:=y0 _ h
 try dsimp only at h
 exact x0 c0 q0 t0 h
 intro q1 v0 h
 try dsimp only at h
 obtain ⟨x1,U0,z0⟩:=bind_in2 h
 refine MX.lo (α:=UInt64 × UInt64) (fun ⟨d0,j0⟩=>[(2,vW ((shlU a2 (u64of y8).toNat).toNat:Int)),(8,vW ((u64of y8).toNat:Int)),(9,vW ((shrU (shlU a2 (u64of y8).toNat) 32).toNat:Int)),(10,vW (((shlU a2 (u64of y8).toNat) &&& (4294967295:UInt64)).toNat:Int)),(11,vW (((shlU a0 (u64of y8).toNat) ||| (shrU a1 ((64:UInt64) - (u64of y8)).toNat)).toNat:Int)),(13,vW ((shrU (shlU a1 (u64of y8).toNat) 32).toNat:Int)),(14,vW (((shlU a1 (u64of y8).toNat) &&& (4294967295:UInt64)).toNat:Int)),(15,vU d0),(16,vU j0)]) (fun ⟨d0,j0⟩=>[]) (fun ⟨d0,j0⟩=>(d0,j0)) (s9,d1) U0 hS0 ?_
 rintro p1 ⟨d0,j0⟩ z1 C0 s0 u0 h
 unfold aM_l2 at h
 try dsimp only at h
 refine Aj<|Ac<|Ae rfl<|Ab (FV.geqU (a:=d0) (b:=(4294967296:UInt64)) rfl rfl)<|Ae rfl<|BD (s:=69) rfl h (fun J0 h=>?_) (fun J0 h=>?_)
 refine Ap<|Ap<|Ap<|Ap<|Ap<|Ap<|Ap<|Ap<|Bh rfl rfl<|Aa<|Bk rfl<|Au<|AA<|Ac<|Ae rfl<|Ab (FV.subU (a:=d0) (b:=(1:UInt64)) rfl rfl)<|Af rfl<|Aa<|Ac<|Ae rfl<|Ae rfl<|Ab (FV.addU (a:=j0) (b:=shrU (shlU a2 (u64of y8).toNat) 32) rfl rfl)<|Af rfl<|Aa<|Ac<|Ae rfl<|Ab (FV.geqU (a:=j0 + (shrU (shlU a2 (u64of y8).toNat) 32)) (b:=(4294967296:UInt64)) rfl rfl)<|Aa<|AT rfl h (fun K0 h=>?_) (fun K0 h=>?_)
 refine Bd rfl ?_
 have h:=z0 _ h
 try dsimp only at h
 exact v0 (d0 - (1:UInt64)) s0 u0 h
 refine Au<|AC<|C0 (d0 - (1:UInt64),j0 + (shrU (shlU a2 (u64of y8).toNat) 32)) s0 u0 h
 refine AE (Ai rfl)<|AE (Ai rfl)<|AE (FV.mulU (a:=d0) (b:=(shlU a2 (u64of y8).toNat) &&& (4294967295:UInt64)) rfl rfl)<|AE (Ai rfl)<|AE (FV.mulU (a:=(4294967296:UInt64)) (b:=j0) rfl rfl)<|AE (Ai rfl)<|AE (FV.addU (a:=(4294967296:UInt64) * j0) (b:=shrU (shlU a1 (u64of y8).toNat) 32) rfl rfl)<|AE (FV.gtrU (a:=d0 * ((shlU a2 (u64of y8).toNat) &&& (4294967295:UInt64))) (b:=((4294967296:UInt64) * j0) + (shrU (shlU a1 (u64of y8).toNat) 32)) rfl rfl)<|Bv rfl rfl<|Aa<|AT rfl h (fun M0 h=>?_) (fun M0 h=>?_)
 refine Au<|AA<|Ac<|Ae rfl<|Ab (FV.subU (a:=d0) (b:=(1:UInt64)) rfl rfl)<|Af rfl<|Aa<|Ac<|Ae rfl<|Ae rfl<|Ab (FV.addU (a:=j0) (b:=shrU (shlU a2 (u64of y8).toNat) 32) rfl rfl)<|Af rfl<|Aa<|Ac<|Ae rfl<|Ab (FV.geqU (a:=j0 + (shrU (shlU a2 (u64of y8).toNat) 32)) (b:=(4294967296:UInt64)) rfl rfl)<|Aa<|AT rfl h (fun P0 h=>?_) (fun P0 h=>?_)
 refine Bd rfl ?_
 have h:=z0 _ h
 try dsimp only at h
 exact v0 (d0 - (1:UInt64)) s0 u0 h
 refine Au<|AC<|C0 (d0 - (1:UInt64),j0 + (shrU (shlU a2 (u64of y8).toNat) 32)) s0 u0 h
 refine Bd rfl ?_
 have h:=z0 _ h
 try dsimp only at h
 exact v0 d0 s0 u0 h
def dp_p (n:Nat) (a0:List UInt64):Option Int:=
  (if a0.length = 0 then some (0:Int) else (chk (64 * ((a0.length:Nat):Int))).bind fun s3=>(idx a0 (((a0.length:Nat):Int) - 1)).bind fun x4=>(bt_p n x4).bind fun c0=>(chk (s3 - c0)).bind fun b0=>some b0)
theorem dp_c (n:Nat) {L w} (hL:hl L w) {a0:List UInt64} {v0_0:Value} (h0_0:Rep.R w L [v0_0] a0)  {r:Int} (h:dp_p n a0 = some r) :
 Cl 204 #[v0_0] w (Gives w fun _ u=>u = vI r):=by
 unfold dp_p at h
 have hS0:=Az w
 refine AD Tryz.func204 rfl rfl rfl fun _ cs0 hb0=>Ac<|Af rfl<|Aa<|Aj<|Ac<|Ae rfl ?_
 have hl1:a0.length <= 281474976710656:=AY h0_0
 refine Ab (Be (xs:=a0) Tryz.underlying146 rfl h0_0)<|Ab (BT (i:=a0.length) (j:=0) rfl rfl)<|Aa<|AT rfl h (fun c2 h=>?_) (fun c2 h=>?_)
 refine Ac<|Af rfl<|Aa<|Al rfl<|AW hb0 Tryz.func204 rfl rfl ?_
 cases h
 exact hS0.gv
 refine Au<|Ac<|Ae rfl<|Ab (Be (xs:=a0) Tryz.underlying146 rfl h0_0)<|bk h fun s3 hs3 h=>Ab (FV.mulc (i:=64) (j:=((a0.length:Nat):Int)) rfl rfl hs3)<|Ae rfl<|Ae rfl<|Ab (Be (xs:=a0) Tryz.underlying146 rfl h0_0)<|Ab (FV.subI (i:=((a0.length:Nat):Int)) (j:=1) rfl rfl (by omega))<|bk h fun x4 hx4 h=>?_
 obtain ⟨hi5,hx6⟩:=idx_in hx4
 obtain ⟨A7,c8,he9,g0,c0,k0,j0⟩:=Br h0_0 hx6
 have d0:c0 = [vU x4]:=k0; subst d0
 refine Ab (FV.idxAddr (m:=1) (i:=(((a0.length:Nat):Int) - 1).toNat) (by kernel_rfl) rfl he9 rfl hi5 g0)<|AP rfl (j0 0 _ rfl)<|bk h fun b0 q0 h=>Ba (vI b0) (bd 210) rfl (e1 rfl) (fun w9 hw9=>bt_c n (hS0.hL0 hL hw9) x4 q0) rfl<|bk h fun s0 p0 h=>Ab (FV.subc (i:=s3) (j:=b0) rfl rfl p0)<|Af rfl<|Aa<|Al rfl<|AW hb0 Tryz.func204 rfl rfl ?_
 cases h
 exact hS0.gv
def cX_l1 (_n:Nat) (a0:List UInt64) (a1:Int) (g0:Nat × (List UInt64) -> Option (List UInt64)):Nat × (List UInt64) -> Option (List UInt64)
  | (b0,c0)=>(if b0 < a0.length then (a0[b0]?).bind fun p0=>(quoI a1 64).bind fun t0=>(chk (((b0:Nat):Int) + t0)).bind fun j0=>(idx c0 j0).bind fun B0=>(remI a1 64).bind fun u0=>(natOf u0).bind fun q0=>(put c0 ((j0.toNat:Nat):Int) (B0 ||| (shlU p0 q0))).bind fun d0=>(remI a1 64).bind fun v0=>(if 0 < v0 then (quoI a1 64).bind fun x0=>(chk (((b0:Nat):Int) + x0)).bind fun y0=>(chk (y0 + 1)).bind fun k0=>(remI a1 64).bind fun z0=>(chk (64 - z0)).bind fun A0=>(natOf A0).bind fun s0=>(idx d0 k0).bind fun _x218=>(put d0 ((k0.toNat:Nat):Int) (shrU p0 s0)).bind fun C0=>g0 (b0 + 1,C0) else g0 (b0 + 1,d0)) else some c0)
def cX_p (n:Nat) (a0:List UInt64) (a1:Int):Option (List UInt64):=
  (quoI a1 64).bind fun s2=>(chk (((a0.length:Nat):Int) + s2)).bind fun s3=>(chk (s3 + 1)).bind fun s4=>(mk s4 (0:UInt64)).bind fun b0=>Option.bind (loopF (cX_l1 n a0 a1) n (0,b0)) (fun c0=>(au_p n false c0).bind fun d0=>some d0.fm)
theorem cX_c (n:Nat) {L w} (hL:hl L w) {a0:List UInt64} {v0_0:Value} (h0_0:Rep.R w L [v0_0] a0) {a1:Int}  {r:List UInt64} (h:cX_p n a0 a1 = some r) :
 Cl 205 #[v0_0,vI a1] w (Gives w fun w' u=>∃ v0_0:Value,u = v0_0/\Rep.R w' L [v0_0] r):=by
 unfold cX_p at h
 refine AD Tryz.func205 rfl rfl rfl fun _ cs0 hb0=>Ac<|Af rfl<|Aa<|Ac<|Ae rfl ?_
 have hl1:a0.length <= 281474976710656:=AY h0_0
 refine Ab (Be (xs:=a0) Tryz.underlying146 rfl h0_0)<|Ae rfl<|bk h fun s2 hs2 h=>Ab (FV.quoc (i:=a1) (j:=64) rfl rfl hs2)<|bk h fun s3 hs3 h=>Ab (BJ (i:=((a0.length:Nat):Int)) (j:=s2) rfl rfl hs3)<|bk h fun s4 hs4 h=>Ab (BJ (i:=s3) (j:=1) rfl rfl hs4)<|bk h fun U0 K0 h=>Ak .plain rfl (Does.mk (α:=UInt64) K0 (Az w) el146 rfl) fun Z2 p0 u0 Q2=>Af rfl<|Aa<|Aj<|Ac<|Ae rfl<|Ab (Be (xs:=a0) Tryz.underlying146 rfl (AS h0_0 u0))<|Ae rfl<|Aa<|AA ?_
 obtain ⟨X2,H1,A1⟩:=bind_in2 h
 refine MX.lf (α:=Nat × (List UInt64) × (List Value)) (fun ⟨c0,g0,j0⟩=>[(1,vI a1),(5,(.slice (some ⟨p0,0,none⟩) s4.toNat s4.toNat)),(15,v0_0),(16,vI ((a0.length:Nat):Int)),(17,vI ((c0:Nat):Int))]) (fun ⟨c0,g0,j0⟩=>[rr w 33 UInt64 (.slice (some ⟨p0,0,none⟩) s4.toNat s4.toNat) g0.length j0]) (fun ⟨c0,g0,j0⟩ Q0=>Cells Q0 (bl [rr w 33 UInt64 (.slice (some ⟨p0,0,none⟩) s4.toNat s4.toNat) g0.length j0] ++ L) j0 g0) (fun ⟨c0,g0,j0⟩=>(c0,g0)) (0,U0,(List.replicate s4.toNat [vW 0]).flatten) H1 u0 (AB (cs:=(List.replicate s4.toNat [vW 0]).flatten) (xs:=U0) u0 L (Cells.mk K0 rfl)) ?_
 rintro H2 ⟨c0,g0,j0⟩ Q0 C0 k0 E0 x0 h
 unfold cX_l1 at h
 try dsimp only at h
 refine Ac<|Ab (Bu (i:=c0) (j:=a0.length) rfl rfl)<|Aa<|Aj<|AT rfl h (fun Z0 h=>?_) (fun Z0 h=>?_)
 refine Au<|Aj<|AA<|Ac<|Ae rfl<|bk h fun t0 b2 h=>?_
 obtain ⟨G2,I2,v1,C1,c1,I1,F1⟩:=Br (AS h0_0 k0) b2
 have x1:c1 = [vU t0]:=I1; subst x1
 refine Ab (Bq 1 c0 rfl v1 rfl rfl C1)<|AP rfl (F1 0 _ rfl)<|Af rfl<|Af rfl<|Aa<|Aj<|du 13 fun b0 d0=>Rv 0 b0 rfl d0 (fun _=>Ai rfl)<|Rv 1 b0 rfl d0 (fun _=>Ai rfl)<|Rv 2 b0 rfl d0 (fun _=>Ai rfl)<|bk h fun u2 P1 h=>Rv 3 b0 rfl d0 (fun _=>FV.quoc (i:=a1) (j:=64) rfl rfl P1)<|bk h fun B0 Q1 h=>Rv 4 b0 rfl d0 (fun _=>BJ (i:=((c0:Nat):Int)) (j:=u2) rfl rfl Q1)<|bk h fun R0 c2 h=>?_
 obtain ⟨I0,d2⟩:=idx_in c2
 obtain ⟨V0,J2,s0,A0,d1,J1,G1⟩:=St.nth (α:=UInt64) k0 .hd x0 d2
 obtain ⟨X0,K2,G0⟩:=BR (α:=UInt64) k0 .hd A0
 obtain rfl:V0 = ⟨X0,0,none⟩:=by rw [G0] at s0; cases s0; rfl
 have y1:d1 = [vU R0]:=J1; subst y1
 refine Rv 5 b0 rfl d0 (fun _=>Bq 1 (B0.toNat) rfl s0 rfl I0 A0)<|Rx 6 14336 b0 rfl d0 (AL rfl (G1 0 _ rfl))<|Rv 7 b0 rfl d0 (fun _=>Ai rfl)<|Rv 8 b0 rfl d0 (fun _=>Ai rfl)<|bk h fun v2 R1 h=>Rv 9 b0 rfl d0 (fun _=>FV.remc (i:=a1) (j:=64) rfl rfl R1)<|bk h fun t2 D1 h=>Rv 10 b0 rfl d0 (fun _=>FV.shlI (a:=t0) (i:=v2) rfl rfl D1)<|Rv 11 b0 rfl d0 (fun _=>FV.orU (a:=R0) (b:=shlU t0 t2) rfl rfl)<|Rv 12 b0 rfl d0 (fun _=>Bq 1 (B0.toNat) rfl s0 rfl I0 A0)<|bk h fun D2 k2 h=>Bf (i:=13) (rk b0) (RO.acts (m' :=16383) (sk b0) rfl rfl .plain (Acts.set (α:=UInt64) (i:=B0.toNat) k2 k0 G0 (fun _=>.hd) x0 rfl rfl rfl rfl rfl (by kernel_rfl)) (fun b3 ⟨g1,q0,F0,y0⟩=>?_))
 refine AN (dk b0)<|Ac<|Ae rfl<|bk h fun x2 U1 h=>Ab (FV.remc (i:=a1) (j:=64) rfl rfl U1)<|Ab (FV.gtr (i:=x2) (j:=0) rfl rfl)<|Aa<|AT rfl h (fun b1 h=>?_) (fun b1 h=>?_)
 refine Av<|Ae rfl<|Ae rfl<|Ae rfl<|bk h fun y2 V1 h=>Ab (FV.quoc (i:=a1) (j:=64) rfl rfl V1)<|bk h fun z2 W1 h=>Ab (BJ (i:=((c0:Nat):Int)) (j:=y2) rfl rfl W1)<|bk h fun M0 X1 h=>Ab (BJ (i:=z2) (j:=1) rfl rfl X1)<|Ae rfl<|Ae rfl<|bk h fun A2 Y1 h=>Ab (FV.remc (i:=a1) (j:=64) rfl rfl Y1)<|bk h fun B2 Z1 h=>Ab (FV.subc (i:=64) (j:=A2) rfl rfl Z1)<|bk h fun W2 E1 h=>Ab (FV.shrI (a:=t0) (i:=B2) rfl rfl E1)<|bk h fun C2 g2 h=>?_
 obtain ⟨B1,j2⟩:=idx_in g2
 obtain ⟨W0,M2,z0,J0,j1,K1,V2⟩:=St.nth (α:=UInt64) q0 .hd y0 j2
 obtain ⟨Y0,P2,H0⟩:=BR (α:=UInt64) q0 .hd J0
 obtain rfl:W0 = ⟨Y0,0,none⟩:=by rw [H0] at z0; cases z0; rfl
 have z1:j1 = [vU C2]:=K1; subst z1
 refine Ab (Bq 1 (M0.toNat) rfl z0 rfl B1 J0)<|bk h fun E2 p2 h=>RG.acts' .plain (Acts.set (α:=UInt64) (i:=M0.toNat) p2 q0 H0 (fun _=>.hd) y0 rfl rfl rfl rfl rfl (by kernel_rfl)) fun c3 ⟨k1,p1,q1,u1⟩=>Aa<|AC<|Av<|Ab (Bw (i:=c0) (j:=1) rfl rfl (by omega))<|Ae rfl<|Aa<|C0 (c0 + 1,E2,k1) p1 (Tt E0 (Tt F0 q1)) u1 h
 refine Au<|AC<|Av<|Ab (Bw (i:=c0) (j:=1) rfl rfl (by omega))<|Ae rfl<|Aa<|C0 (c0 + 1,D2,g1) q0 (Tt E0 F0) y0 h
 refine Bd rfl ?_
 have h:=A1 _ h
 try dsimp only at h
 refine Ac<|Ae rfl ?_
 have v0:=Bz k0 .hd
 have R2:=BA k0 .hd
 refine bk h fun F2 q2 h=>AX (fst:=[]) (cap:=[]) .plain (bd 158) rfl (e2 rfl rfl) (fun w9 hw9=>au_c n (v0.hL hL hw9) (Aq (BB (α:=UInt64) (v:=(.slice (some ⟨p0,0,none⟩) s4.toNat s4.toNat)) (xs:=g0) v0 L (Bj (α:=UInt64) k0 .hd x0 hL)) hw9) q2) rfl fun d3 Y2 s1 ⟨P0,hu_,M1⟩=>?_
 subst hu_
 obtain ⟨D0,U2⟩:=v0.agr s1
 refine Ab (FV.field1 (cs:=[.bool F2.fc,P0]) (off:=1) (m:=1) (by kernel_rfl) (by kernel_rfl) rfl rfl)<|Af rfl<|Aa<|Al rfl<|AW hb0 Tryz.func205 rfl rfl ?_
 cases h
 exact ⟨D0.ag,fun w9 hw9=>⟨P0,rfl,D0.kd M1 hw9⟩⟩
def aU_l1 (n:Nat) (a0:List UInt64) (a1:List UInt64) (j0:UInt64 × Int × (List UInt64) -> Option (UInt64 × (List UInt64))):UInt64 × Int × (List UInt64) -> Option (UInt64 × (List UInt64))
  | (d0,b0,c0)=>(if 0 <= b0 then (idx a0 b0).bind fun p0=>(a1[0]?).bind fun q0=>(aM_p n d0 p0 q0).bind fun g0=>(idx c0 b0).bind fun _x169=>(put c0 ((b0.toNat:Nat):Int) g0.1).bind fun s0=>(chk (b0 - 1)).bind fun k0=>j0 (g0.2,k0,s0) else some (d0,c0))
def aU_l2 (n:Nat) (a1:List UInt64) (p0:(List UInt64) × Int × (List UInt64) -> Option ((List UInt64) × (List UInt64))):(List UInt64) × Int × (List UInt64) -> Option ((List UInt64) × (List UInt64))
  | (c0,b0,d0)=>(if 0 <= b0 then (cX_p n a1 b0).bind fun k0=>(bZ_p n c0 k0).bind fun z0=>jn (fun (v0,x0)=>(chk (b0 - 1)).bind fun s0=>p0 (v0,s0,x0)) (fun g0=>(if 0 <= z0 then (ct_p n c0 k0).bind fun A0=>(au_p n false A0).bind fun B0=>(quoI b0 64).bind fun j0=>(idx d0 j0).bind fun u0=>(remI b0 64).bind fun t0=>(natOf t0).bind fun q0=>(put d0 ((j0.toNat:Nat):Int) (u0 ||| (shlU (1:UInt64) q0))).bind fun y0=>g0 (B0.fm,y0) else g0 (c0,d0))) else some (d0,c0))
def aU_p (n:Nat) (a0:List UInt64) (a1:List UInt64):Option ((List UInt64) × (List UInt64)):=
  (mk ((a0.length:Nat):Int) (0:UInt64)).bind fun b0=>(if a1.length = 1 then Option.bind (loopF (aU_l1 n a0 a1) n ((0:UInt64),((a0.length:Nat):Int) - 1,b0)) (fun (d0,g0)=>(au_p n false ([d0]:List UInt64)).bind fun p0=>some (g0,p0.fm)) else (dp_p n a0).bind fun q0=>(dp_p n a1).bind fun s0=>(chk (q0 - s0)).bind fun c0=>Option.bind (loopF (aU_l2 n a1) n (a0,c0,b0)) (fun (k0,j0)=>some (k0,j0)))
theorem aU_c (n:Nat) {L w} (hL:hl L w) {a0:List UInt64} {v0_0:Value} (h0_0:Rep.R w L [v0_0] a0) {a1:List UInt64} {v1_0:Value} (h1_0:Rep.R w L [v1_0] a1)  {r:(List UInt64) × (List UInt64)} (h:aU_p n a0 a1 = some r) :
 Cl 188 #[v0_0,v1_0] w (Gives w fun w' u=>∃ v0_0 v1_0:Value,u = .tuple #[v0_0,v1_0]/\Rep.R w' L [v0_0] r.1/\Rep.R w' L [v1_0] r.2):=by
 unfold aU_p at h
 refine AD Tryz.func188 rfl rfl rfl fun _ cs0 hb0=>Ac<|Af rfl<|Af rfl<|Aa<|Ac<|Ae rfl ?_
 have hl1:a0.length <= 281474976710656:=AY h0_0
 refine Ab (Be (xs:=a0) Tryz.underlying146 rfl h0_0)<|bk h fun g1 E1 h=>Ak .plain rfl (Does.mk (α:=UInt64) E1 (Az w) el146 rfl) fun g5 c0 t0 Q4=>?_
 have u1:=AB (cs:=(List.replicate ((a0.length:Nat):Int).toNat [vW 0]).flatten) (xs:=g1) t0 L (Cells.mk E1 rfl)
 refine Af rfl<|Aa<|Aj<|Ac<|Ae rfl ?_
 have A1:=AS h1_0 t0
 have R4:a1.length <= 281474976710656:=AY A1
 refine Ab (Be (xs:=a1) Tryz.underlying146 rfl A1)<|Ab (BT (i:=a1.length) (j:=1) rfl rfl)<|Aa<|AT rfl h (fun b2 h=>?_) (fun b2 h=>?_)
 refine Ac<|Af rfl<|Aa<|Aj<|Ac<|Ae rfl<|Ab (Be (xs:=a0) Tryz.underlying146 rfl (AS h0_0 t0))<|Ab (FV.subI (i:=((a0.length:Nat):Int)) (j:=1) rfl rfl (by omega))<|Af rfl<|Aa<|AA ?_
 obtain ⟨V4,u3,b3⟩:=bind_in2 h
 refine MX.lf (α:=UInt64 × Int × (List UInt64) × (List Value)) (fun ⟨g0,q0,z0,B0⟩=>[(0,v0_0),(1,v1_0),(4,(.slice (some ⟨c0,0,none⟩) ((a0.length:Nat):Int).toNat ((a0.length:Nat):Int).toNat)),(6,vU g0),(7,vI q0)]) (fun ⟨g0,q0,z0,B0⟩=>[rr w 33 UInt64 (.slice (some ⟨c0,0,none⟩) ((a0.length:Nat):Int).toNat ((a0.length:Nat):Int).toNat) z0.length B0]) (fun ⟨g0,q0,z0,B0⟩ H1=>Cells H1 (bl [rr w 33 UInt64 (.slice (some ⟨c0,0,none⟩) ((a0.length:Nat):Int).toNat ((a0.length:Nat):Int).toNat) z0.length B0] ++ L) B0 z0) (fun ⟨g0,q0,z0,B0⟩=>(g0,q0,z0)) ((0:UInt64),((a0.length:Nat):Int) - 1,g1,(List.replicate ((a0.length:Nat):Int).toNat [vW 0]).flatten) u3 t0 u1 ?_
 rintro E4 ⟨g0,q0,z0,B0⟩ H1 t2 C0 z2 V0 h
 unfold aU_l1 at h
 try dsimp only at h
 refine Aj<|Ac<|Ae rfl<|Ab (FV.geq (i:=q0) (j:=0) rfl rfl)<|Aa<|AT rfl h (fun Z1 h=>?_) (fun Z1 h=>?_)
 refine Au<|Aj<|AA<|du 15 fun b0 d0=>Rv 0 b0 rfl d0 (fun _=>Ai rfl)<|Rv 1 b0 rfl d0 (fun _=>Ai rfl)<|Rv 2 b0 rfl d0 (fun _=>Ai rfl)<|Rv 3 b0 rfl d0 (fun _=>Ai rfl)<|Rv 4 b0 rfl d0 (fun _=>Ai rfl)<|bk h fun I1 P3 h=>?_
 obtain ⟨d3,Q3⟩:=idx_in P3
 obtain ⟨C4,H4,U2,j3,g2,x3,q3⟩:=Br (AS h0_0 C0) Q3
 have V2:g2 = [vU I1]:=x3; subst V2
 refine Rv 5 b0 rfl d0 (fun _=>Bq 1 (q0.toNat) rfl U2 rfl d3 j3)<|Rx 6 130048 b0 rfl d0 (AL rfl (q3 0 _ rfl))<|Rv 7 b0 rfl d0 (fun _=>Ai rfl)<|bk h fun J1 R3 h=>?_
 obtain ⟨D4,I4,W2,k3,j2,y3,s3⟩:=Br (AS h1_0 C0) R3
 have X2:j2 = [vU J1]:=y3; subst X2
 refine Rv 8 b0 rfl d0 (fun _=>Bq 1 0 rfl W2 rfl rfl k3)<|Rx 9 130048 b0 rfl d0 (AL rfl (s3 0 _ rfl))<|bk h fun j1 b4 h=>BO 10 2047 129024 (.tuple #[vU j1.1,vU j1.2]) b0 rfl d0 (bd 203) rfl (e3 rfl rfl rfl) (fun w9 hw9=>aM_c n (C0.hL0 hL hw9) g0 I1 J1 b4) rfl<|Rv 11 b0 rfl d0 (fun _=>Ai rfl)<|Rv 12 b0 rfl d0 (fun _=>Ag rfl rfl)<|Rv 13 b0 rfl d0 (fun _=>Ag rfl rfl)<|bk h fun y4 U3 h=>?_
 obtain ⟨g3,V3⟩:=idx_in U3
 obtain ⟨U1,J4,X0,z1,k2,z3,U4⟩:=St.nth (α:=UInt64) C0 .hd V0 V3
 obtain ⟨W1,K4,v1⟩:=BR (α:=UInt64) C0 .hd z1
 obtain rfl:U1 = ⟨W1,0,none⟩:=by rw [v1] at X0; cases X0; rfl
 have Y2:k2 = [vU y4]:=z3; subst Y2
 refine Rv 14 b0 rfl d0 (fun _=>Bq 1 (q0.toNat) rfl X0 rfl g3 z1)<|bk h fun z4 Y3 h=>Bf (i:=15) (rk b0) (RO.acts (m' :=65535) (sk b0) rfl rfl .plain (Acts.set (α:=UInt64) (i:=q0.toNat) Y3 C0 v1 (fun _=>.hd) V0 rfl rfl rfl rfl rfl (by kernel_rfl)) (fun j5 ⟨p2,v2,A2,P2⟩=>?_))
 refine Bf (i:=16) (rk b0) (Bs (m' :=131071) (sk b0) rfl .plain rfl (AV rfl) ?_)
 refine AN (dk b0)<|AC<|Av<|Ae rfl<|bk h fun t4 H3 h=>Ab (FV.subc (i:=q0) (j:=1) rfl rfl H3)<|Af rfl<|Aa<|t2 (j1.2,t4,z4,p2) v2 (Tt z2 A2) P2 h
 refine Bd rfl ?_
 have h:=b3 _ h
 try dsimp only at h
 refine Ac<|Ae rfl<|Ae rfl<|Ak .plain rfl (AK (α:=UInt64) (xs:=([g0]:List UInt64)) (vs:=[vU g0]) (ds' :=[vU g0]) rfl C0 el146 rfl (e1 rfl) (by kernel_rfl) rfl) fun k5 X1 I0 B2=>?_
 have Q0:=Bz I0 .hd
 have C2:=BA I0 .hd
 refine bk h fun B4 c4 h=>AX (fst:=[]) (cap:=[]) .plain (bd 158) rfl (e2 rfl rfl) (fun w9 hw9=>au_c n (Q0.hL hL hw9) (Aq (BB (α:=UInt64) (v:=(vS X1 1)) (xs:=([g0]:List UInt64)) Q0 L (Bj (α:=UInt64) I0 .hd (AB (cs:=[vU g0]) (xs:=(([g0]:List UInt64):List UInt64)) I0 L (Ar (cs:=[vU g0]) (ds:=[]) rfl (AJ _ _))) hL)) hw9) c4) rfl fun p5 Z4 I2 ⟨F1,hu_,A3⟩=>?_
 subst hu_
 obtain ⟨R0,D2⟩:=Q0.agr I2
 refine Ab (FV.field1 (cs:=[.bool B4.fc,F1]) (off:=1) (m:=1) (by kernel_rfl) (by kernel_rfl) rfl rfl)<|Af rfl<|Af rfl<|Aa<|Al rfl ?_
 have J0:=Bz R0 .hd
 have E2:=BA R0 .hd
 have B3:=BB (α:=UInt64) (v:=(.slice (some ⟨c0,0,none⟩) ((a0.length:Nat):Int).toNat ((a0.length:Nat):Int).toNat)) (xs:=z0) J0 L (Bj (α:=UInt64) R0 .hd (Aw V0 (Tt B2 (Tt C2 D2))) hL)
 refine Am hb0 Tryz.func188 rfl (.cons (.tmp rfl) (.cons (.tmp rfl) .nil)) rfl ?_
 cases h
 exact ⟨J0.ag,fun w9 hw9=>⟨(.slice (some ⟨c0,0,none⟩) ((a0.length:Nat):Int).toNat ((a0.length:Nat):Int).toNat),F1,rfl,J0.kd B3 hw9,J0.kd (Ao A3 E2) hw9⟩⟩
 refine Au<|Ac<|Ae rfl<|Af rfl<|Aa<|Aj<|Ac<|Ae rfl<|bk h fun M1 d4 h=>Ba (vI M1) (bd 204) rfl (e1 rfl) (fun w9 hw9=>dp_c n (t0.hL0 hL hw9) (t0.k0 h0_0 hw9) d4) rfl<|Ae rfl<|bk h fun P1 g4 h=>Ba (vI P1) (bd 204) rfl (e1 rfl) (fun w9 hw9=>dp_c n (t0.hL0 hL hw9) (t0.k0 h1_0 hw9) g4) rfl<|bk h fun u4 I3 h=>Ab (FV.subc (i:=M1) (j:=P1) rfl rfl I3)<|Af rfl<|Aa<|AA ?_
 obtain ⟨W4,v3,c3⟩:=bind_in2 h
 refine MX.lf (α:=(List UInt64) × Int × (List UInt64) × Value × (List Value)) (fun ⟨F0,s0,p0,A0,x0⟩=>[(1,v1_0),(4,(.slice (some ⟨c0,0,none⟩) ((a0.length:Nat):Int).toNat ((a0.length:Nat):Int).toNat)),(5,A0),(8,vI s0)]) (fun ⟨F0,s0,p0,A0,x0⟩=>[rr w 33 UInt64 (.slice (some ⟨c0,0,none⟩) ((a0.length:Nat):Int).toNat ((a0.length:Nat):Int).toNat) p0.length x0]) (fun ⟨F0,s0,p0,A0,x0⟩ c1=>Rep.R c1 (bl [rr w 33 UInt64 (.slice (some ⟨c0,0,none⟩) ((a0.length:Nat):Int).toNat ((a0.length:Nat):Int).toNat) p0.length x0] ++ L) [A0] F0/\Cells c1 (bl [rr w 33 UInt64 (.slice (some ⟨c0,0,none⟩) ((a0.length:Nat):Int).toNat ((a0.length:Nat):Int).toNat) p0.length x0] ++ L) x0 p0) (fun ⟨F0,s0,p0,A0,x0⟩=>(F0,s0,p0)) (a0,u4,g1,v0_0,(List.replicate ((a0.length:Nat):Int).toNat [vW 0]).flatten) v3 t0 ⟨(AS h0_0 t0),u1⟩ ?_
 rintro F4 ⟨F0,s0,p0,A0,x0⟩ c1 u2 H0 F2 ⟨C1,W0⟩ h
 unfold aU_l2 at h
 try dsimp only at h
 refine Aj<|Ac<|Ae rfl<|Ab (FV.geq (i:=s0) (j:=0) rfl rfl)<|Aa<|AT rfl h (fun c2 h=>?_) (fun c2 h=>?_)
 refine Au<|Aj<|AA<|Ac<|Ae rfl<|Ae rfl<|bk h fun v5 j4 h=>AX (fst:=[]) (cap:=[]) .plain (bd 205) rfl (e2 rfl rfl) (fun w9 hw9=>cX_c n (H0.hL hL hw9) (H0.km h1_0 hw9) j4) rfl fun q5 b5 J2 ⟨X4,hu_,D1⟩=>?_
 subst hu_
 obtain ⟨D0,M0⟩:=H0.agr J2
 refine Af rfl<|Aa<|Ac<|Ae rfl<|Ae rfl<|bk h fun Q1 k4 h=>?_
 have Z0:=Ao C1 M0
 refine Ba (vI Q1) (bd 190) rfl (e2 rfl rfl) (fun w9 hw9=>bZ_c n (D0.hL0 hL hw9) (D0.kd Z0 hw9) (D0.kd D1 hw9) k4) rfl<|Ab (FV.geq (i:=Q1) (j:=0) rfl rfl)<|Aa<|MX.jf (α:=(List UInt64) × (List UInt64) × Value × (List Value)) (fun ⟨G0,v0,E0,y0⟩=>[(1,v1_0),(4,(.slice (some ⟨c0,0,none⟩) ((a0.length:Nat):Int).toNat ((a0.length:Nat):Int).toNat)),(5,E0),(8,vI s0)]) (fun ⟨G0,v0,E0,y0⟩=>[rr w 33 UInt64 (.slice (some ⟨c0,0,none⟩) ((a0.length:Nat):Int).toNat ((a0.length:Nat):Int).toNat) v0.length y0]) (fun ⟨G0,v0,E0,y0⟩ d1=>Rep.R d1 (bl [rr w 33 UInt64 (.slice (some ⟨c0,0,none⟩) ((a0.length:Nat):Int).toNat ((a0.length:Nat):Int).toNat) v0.length y0] ++ L) [E0] G0/\Cells d1 (bl [rr w 33 UInt64 (.slice (some ⟨c0,0,none⟩) ((a0.length:Nat):Int).toNat ((a0.length:Nat):Int).toNat) v0.length y0] ++ L) y0 v0) (fun ⟨G0,v0,E0,y0⟩=>(G0,v0)) D0 h ?_ ?_
 rintro ⟨G0,v0,E0,y0⟩ d1 x2 G2 ⟨C3,Q2⟩ h
 try dsimp only at h
 refine AC<|Av<|Ae rfl<|bk h fun v4 J3 h=>Ab (FV.subc (i:=s0) (j:=1) rfl rfl J3)<|Af rfl<|Aa<|u2 (G0,v4,v0,E0,y0) x2 (Tt F2 (Tt M0 G2)) ⟨C3,Q2⟩ h
 intro G4 k1 h
 try dsimp only at h
 refine AT rfl h (fun d2 h=>?_) (fun d2 h=>?_)
 refine Ac<|Ae rfl<|Ae rfl<|bk h fun x5 p4 h=>AX (fst:=[]) (cap:=[]) .plain (bd 191) rfl (e2 rfl rfl) (fun w9 hw9=>ct_c n (D0.hL hL hw9) (Aq Z0 hw9) (Aq D1 hw9) p4) rfl fun s5 c5 K2 ⟨Y4,hu_,D3⟩=>?_
 subst hu_
 obtain ⟨p1,q1⟩:=D0.agr K2
 refine bk h fun R1 q4 h=>AX (fst:=[]) (cap:=[]) .plain (bd 158) rfl (e2 rfl rfl) (fun w9 hw9=>au_c n (p1.hL hL hw9) (Aq D3 hw9) q4) rfl fun t5 d5 M2 ⟨G1,hu_,E3⟩=>?_
 subst hu_
 obtain ⟨U0,s1⟩:=p1.agr M2
 refine Ab (FV.field1 (cs:=[.bool R1.fc,G1]) (off:=1) (m:=1) (by kernel_rfl) (by kernel_rfl) rfl rfl)<|Af rfl<|Aa<|du 10 fun j0 u0=>Rv 0 j0 rfl u0 (fun _=>Ai rfl)<|Rv 1 j0 rfl u0 (fun _=>Ai rfl)<|bk h fun b1 K3 h=>Rv 2 j0 rfl u0 (fun _=>FV.quoc (i:=s0) (j:=64) rfl rfl K3)<|bk h fun K1 W3 h=>?_
 obtain ⟨y1,X3⟩:=idx_in W3
 have B1:=Aw W0 (Tt M0 (Tt q1 s1))
 obtain ⟨V1,M4,P0,Y0,q2,F3,t3⟩:=St.nth (α:=UInt64) U0 .hd B1 X3
 obtain ⟨Y1,P4,x1⟩:=BR (α:=UInt64) U0 .hd Y0
 obtain rfl:V1 = ⟨Y1,0,none⟩:=by rw [x1] at P0; cases P0; rfl
 have Z2:q2 = [vU K1]:=F3; subst Z2
 refine Rv 3 j0 rfl u0 (fun _=>Bq 1 (b1.toNat) rfl P0 rfl y1 Y0)<|Rx 4 1792 j0 rfl u0 (AL rfl (t3 0 _ rfl))<|Rv 5 j0 rfl u0 (fun _=>Ai rfl)<|bk h fun x4 M3 h=>Rv 6 j0 rfl u0 (fun _=>FV.remc (i:=s0) (j:=64) rfl rfl M3)<|bk h fun s4 p3 h=>Rv 7 j0 rfl u0 (fun _=>FV.shlI (a:=(1:UInt64)) (i:=x4) rfl rfl p3)<|Rv 8 j0 rfl u0 (fun _=>FV.orU (a:=K1) (b:=shlU (1:UInt64) s4) rfl rfl)<|Rv 9 j0 rfl u0 (fun _=>Bq 1 (b1.toNat) rfl P0 rfl y1 Y0)<|bk h fun A4 Z3 h=>Bf (i:=10) (rk j0) (RO.acts (m' :=2047) (sk j0) rfl rfl .plain (Acts.set (α:=UInt64) (i:=b1.toNat) Z3 U0 x1 (fun _=>.hd) B1 rfl rfl rfl rfl rfl (by kernel_rfl)) (fun u5 ⟨s2,y2,t1,R2⟩=>?_))
 refine AN (dk j0)<|k1 (R1.fm,A4,G1,s2) y2 (Tt q1 (Tt s1 t1)) ⟨(Ao E3 t1),R2⟩ h
 refine Au<|k1 (F0,p0,A0,x0) D0 (By _ _) ⟨Z0,(Aw W0 M0)⟩ h
 refine Bd rfl ?_
 have h:=c3 _ h
 try dsimp only at h
 refine Ac<|Ae rfl<|Ae rfl<|Af rfl<|Af rfl<|Aa<|Al rfl ?_
 have K0:=Bz H0 .hd
 have H2:=BA H0 .hd
 have G3:=BB (α:=UInt64) (v:=(.slice (some ⟨c0,0,none⟩) ((a0.length:Nat):Int).toNat ((a0.length:Nat):Int).toNat)) (xs:=p0) K0 L (Bj (α:=UInt64) H0 .hd W0 hL)
 refine Am hb0 Tryz.func188 rfl (.cons (.tmp rfl) (.cons (.tmp rfl) .nil)) rfl ?_
 cases h
 exact ⟨K0.ag,fun w9 hw9=>⟨(.slice (some ⟨c0,0,none⟩) ((a0.length:Nat):Int).toNat ((a0.length:Nat):Int).toNat),A0,rfl,K0.kd G3 hw9,K0.kd (Ao C1 H2) hw9⟩⟩
def bM_p (n:Nat) (a0:Te) (a1:Te):Option (Te × Te):=
  (aU_p n a0.fm a1.fm).bind fun c0=>(au_p n (!(a0.fc == a1.fc)) c0.1).bind fun d0=>(au_p n a0.fc c0.2).bind fun b0=>(if b0.fc = true then (bX_p n b0 (⟨false,a1.fm⟩:Te)).bind fun j0=>(bX_p n d0 (⟨(!a1.fc),([(1:UInt64)]:List UInt64)⟩:Te)).bind fun g0=>some (g0,j0) else some (d0,b0))
theorem bM_c (n:Nat) {L w} (hL:hl L w) (a0:Te) {v0_1:Value} (h0_1:Rep.R w L [v0_1] a0.fm) (a1:Te) {v1_1:Value} (h1_1:Rep.R w L [v1_1] a1.fm)  {r:Te × Te} (h:bM_p n a0 a1 = some r) :
 Cl 157 #[.agg #[.bool a0.fc,v0_1],.agg #[.bool a1.fc,v1_1]] w (Gives w fun w' u=>∃ v0_1 v1_1:Value,u = .tuple #[.agg #[.bool r.1.fc,v0_1],.agg #[.bool r.2.fc,v1_1]]/\Rep.R w' L [v0_1] r.1.fm/\Rep.R w' L [v1_1] r.2.fm):=by
 unfold bM_p at h
 refine AD Tryz.func157 rfl rfl rfl fun _ cs0 hb0=>Ac<|RG.bx (Az w) rfl rfl fun x3 R2 K1 X2=>RG.bx K1 rfl rfl fun B3 U2 R1 Y2=>RG.nl [.bool false,vN] R1 fun C3 J0 U1 Z2=>RG.nl [.bool false,vN] U1 fun E3 K0 p0 b3=>Aa<|Ac<|AR 1 rfl<|AP rfl ((p0.memA .t3) 1 _ rfl)<|AR 1 rfl<|AP rfl ((p0.memA .t2) 1 _ rfl)<|bk h fun W3 G2 h=>AX (fst:=[]) (cap:=[]) .plain (bd 188) rfl (e2 rfl rfl) (fun w9 hw9=>aU_c n (p0.hL hL hw9) (p0.km h0_1 hw9) (p0.km h1_1 hw9) G2) rfl fun F3 k3 u2 ⟨d3,g3,hu_,C2,D2⟩=>?_
 subst hu_
 obtain ⟨D0,c3⟩:=p0.agr u2
 refine Ae rfl<|Ab (Ag rfl rfl)<|Ab (Ag rfl rfl)<|Af rfl<|Af rfl<|Aa<|Aj<|du 11 fun b0 d0=>Rv 0 b0 rfl d0 (fun _=>Bb 0 rfl)<|Rx 1 7248 b0 rfl d0 (AL rfl ((D0.memA .t3) 0 _ rfl))<|Rv 2 b0 rfl d0 (fun _=>Bb 0 rfl)<|Rx 3 7248 b0 rfl d0 (AL rfl ((D0.memA .t2) 0 _ rfl))<|Rv 4 b0 rfl d0 (fun _=>FV.neqB (a:=a0.fc) (b:=a1.fc) Tryz.underlying4 rfl rfl)<|Rv 5 b0 rfl d0 (fun _=>Ai rfl)<|Rv 7 b0 rfl d0 (fun _=>Bb 0 rfl)<|Rx 8 7168 b0 rfl d0 (AL rfl ((D0.memA .t3) 0 _ rfl))<|Rv 9 b0 rfl d0 (fun _=>Ai rfl)<|bk h fun x0 H2 h=>Bn 6 1023 b0 rfl .plain (bd 158) rfl (e2 rfl rfl) (fun w9 hw9=>au_c n (D0.hL hL hw9) (Aq C2 hw9) H2) rfl fun G3 p3 v2 ⟨t0,hu_,G0⟩=>?_
 subst hu_
 obtain ⟨s1,p2⟩:=D0.agr v2
 refine bk h fun y0 I2 h=>Bn 10 2047 b0 rfl .plain (bd 158) rfl (e2 rfl rfl) (fun w9 hw9=>au_c n (s1.hL hL hw9) (Aq (Ao D2 p2) hw9) I2) rfl fun H3 q3 x2 ⟨u0,hu_,X0⟩=>?_
 subst hu_
 obtain ⟨Y1,F0⟩:=s1.agr x2
 refine BE 11 4095 b0 rfl rfl .plain (AF (news:=[.bool x0.fc,t0]) Y1 .t1 rfl rfl rfl rfl rfl rfl (o2 rfl (AO (Ao G0 F0)))) fun I3 Z1 k0=>BE 12 8191 b0 rfl rfl .plain (AF (news:=[.bool y0.fc,u0]) Z1 .hd rfl rfl rfl rfl rfl rfl (o2 rfl (AO (Ao X0 k0)))) fun J3 c0 q0=>AN (dk b0)<|Aj<|Ac<|AR 0 rfl<|AP rfl ((c0.memA .hd) 0 _ rfl)<|Aa<|MX.ifb rfl h (fun I1 h=>?_) (fun I1 h=>?_)
 refine Ac<|AR 1 rfl<|AP rfl ((c0.memA .t2) 1 _ rfl) ?_
 obtain ⟨P2,W2,E2,_⟩:=BV (AS h1_1 c0)
 refine Ab (AU (vs:=[v1_1]) (u:=.agg #[.bool false,v1_1]) (e1 rfl) (fun w9=>by rw [E2]; try kernel_rfl))<|RG.nl [.bool false,vN] c0 fun K3 V2 u1 C1=>AQ [.bool false,v1_1] u1 .hd (o2 rfl (AO (AS h1_1 u1))) fun M3 E0 D1=>Aa<|Ac<|Ab (AH rfl (E0.memA .t1))<|Ab (AH rfl (E0.memA .hd))<|bk h fun I0 J2 h=>AX (fst:=[]) (cap:=[]) .plain (bd 159) rfl (e2 rfl rfl) (fun w9 hw9=>bX_c n (E0.hL hL hw9) y0 (Aq (Ao X0 (Tt k0 (Tt q0 (Tt C1 D1)))) hw9) (⟨false,a1.fm⟩:Te) (E0.km h1_1 hw9) J2) rfl fun P3 s3 y2 ⟨v0,hu_,j1⟩=>?_
 subst hu_
 obtain ⟨b2,q2⟩:=E0.agr y2
 refine AQ [.bool I0.fc,v0] b2 .t1 (o2 rfl (AO j1)) fun Q3 v1 d1=>Aa<|Ac<|AR 0 rfl<|AP rfl ((v1.memA .t3) 0 _ rfl)<|Ab (Bp rfl)<|Ak .plain rfl (AK (α:=UInt64) (xs:=([(1:UInt64)]:List UInt64)) (vs:=[vW 1]) (ds' :=[vW 1]) rfl v1 el146 rfl (e1 rfl) (by kernel_rfl) rfl) fun R3 M0 x1 g1=>Ab (AU (vs:=[.bool (!a1.fc),(vS M0 1)]) (u:=.agg #[.bool (!a1.fc),(vS M0 1)]) (e2 rfl rfl) (fun w9=>by kernel_rfl))<|RG.nl [.bool false,vN] x1 fun u3 Q2 q1 R0=>AQ [.bool (!a1.fc),(vS M0 1)] q1 .hd (o2 rfl (St.o1 (α:=UInt64) q1 .t1)) fun v3 z0 U0=>Aa<|Av<|Ab (AH rfl (z0.memA .t4))<|Ab (AH rfl (z0.memA .hd)) ?_
 have Y0:=Bz z0 .t1
 have Z0:=BA z0 .t1
 refine bk h fun H0 F2 h=>AX (fst:=[]) (cap:=[]) .plain (bd 159) rfl (e2 rfl rfl) (fun w9 hw9=>bX_c n (Y0.hL hL hw9) x0 (Aq (Ao G0 (Tt F0 (Tt k0 (Tt q0 (Tt C1 (Tt D1 (Tt q2 (Tt d1 (Tt g1 (Tt R0 (Tt U0 Z0))))))))))) hw9) (⟨(!a1.fc),([(1:UInt64)]:List UInt64)⟩:Te) (Aq (BB (α:=UInt64) (v:=(vS M0 1)) (xs:=([(1:UInt64)]:List UInt64)) Y0 L (Bj (α:=UInt64) z0 .t1 (Aw (AB (cs:=[vW 1]) (xs:=(([(1:UInt64)]:List UInt64):List UInt64)) x1 L (Ar (cs:=[vW 1]) (ds:=[]) rfl (AJ _ _))) (Tt R0 U0)) hL)) hw9) F2) rfl fun y3 j3 s2 ⟨s0,hu_,W0⟩=>?_
 subst hu_
 obtain ⟨J1,y1⟩:=Y0.agr s2
 refine AQ [.bool H0.fc,s0] J1 .t3 (o2 rfl (AO W0)) fun z3 A0 V0=>Aa<|Aj<|du 2 fun g0 G1=>Rx 0 12 g0 rfl G1 (AH rfl (A0.memA .t3))<|RD.mo (α:=Unit) (fun ()=>[(4,vP J0),(5,vP K0),(46,.agg #[.bool I0.fc,v0])]) (fun ()=>[.cells K0 [.bool I0.fc,v0] 148,.cells J0 [.bool H0.fc,s0] 148]) A0 1 7 ?_ ?_
 rintro ⟨⟩ U3 M1 z1
 try dsimp only
 refine BE 3 15 g0 rfl rfl .plain (AF (news:=[.bool I0.fc,v0]) M1 .hd rfl rfl rfl rfl rfl rfl (o2 rfl (AO (Ao j1 (Tt d1 (Tt g1 (Tt R0 (Tt U0 (Tt Z0 (Tt y1 (Tt V0 z1))))))))))) fun A3 B0 c2=>AN (dk g0)<|Al rfl<|Am hb0 Tryz.func157 rfl (.cons (.many (cs:=[.bool H0.fc,s0]) (by kernel_rfl) rfl (B0.memA .t1)) (.cons (.many (cs:=[.bool I0.fc,v0]) (by kernel_rfl) rfl (B0.memA .hd)) .nil)) rfl ?_
 cases h
 have E1:=Tt V0 (Tt z1 c2)
 exact ⟨B0.ag,fun w9 hw9=>⟨s0,v0,rfl,B0.kd (Ao W0 E1) hw9,B0.kd (Ao j1 (Tt d1 (Tt g1 (Tt R0 (Tt U0 (Tt Z0 (Tt y1 E1))))))) hw9⟩⟩
 intro k1
 refine Bm [1,2] (rk g0) ⟨?_,?_,trivial⟩
 refine Bs (m' :=3) (sk g0) rfl .plain rfl (AH rfl (A0.memA .t2)) ?_
 have A2:=Ao W0 V0
 refine BE 2 7 g0 rfl rfl .plain (AF (news:=[.bool H0.fc,s0]) A0 .t3 rfl rfl rfl rfl rfl rfl (o2 rfl (AO A2))) fun M2 Q0 c1=>?_
 obtain ⟨P1,d2⟩:=AG Q0 (.a2 (.a2 .done))
 exact k1 () P1 (Tt c1 d2)
 refine RO.now (m' :=5) (sk g0) rfl rfl .plain (AF (news:=[.bool H0.fc,s0]) A0 .t3 rfl rfl rfl rfl rfl rfl (o2 rfl (AO (Ao W0 V0)))) fun M2 Q0 c1=>Rx 1 8 g0 rfl G1 (AH rfl (Q0.memA .t2)) ?_
 obtain ⟨Q1,g2⟩:=AG Q0 (.a2 (.a2 .done))
 exact k1 () Q1 (Tt c1 g2)
 refine Au<|Aj<|du 2 fun j0 H1=>Rx 0 12 j0 rfl H1 (AH rfl (c0.memA .t1))<|RD.mo (α:=Unit) (fun ()=>[(4,vP J0),(5,vP K0),(46,.agg #[.bool y0.fc,u0])]) (fun ()=>[.cells K0 [.bool y0.fc,u0] 148,.cells J0 [.bool x0.fc,t0] 148]) c0 1 7 ?_ ?_
 rintro ⟨⟩ V3 V1 A1
 try dsimp only
 have F1:=Tt k0 (Tt q0 A1)
 refine BE 3 15 j0 rfl rfl .plain (AF (news:=[.bool y0.fc,u0]) V1 .hd rfl rfl rfl rfl rfl rfl (o2 rfl (AO (Ao X0 F1)))) fun D3 C0 B1=>AN (dk j0)<|Al rfl<|Am hb0 Tryz.func157 rfl (.cons (.many (cs:=[.bool x0.fc,t0]) (by kernel_rfl) rfl (C0.memA .t1)) (.cons (.many (cs:=[.bool y0.fc,u0]) (by kernel_rfl) rfl (C0.memA .hd)) .nil)) rfl ?_
 cases h
 exact ⟨C0.ag,fun w9 hw9=>⟨t0,u0,rfl,C0.kd (Ao G0 (Tt F0 (Tt k0 (Tt q0 (Tt A1 B1))))) hw9,C0.kd (Ao X0 (Tt F1 B1)) hw9⟩⟩
 intro p1
 refine Bm [1,2] (rk j0) ⟨?_,?_,trivial⟩
 refine Bs (m' :=3) (sk j0) rfl .plain rfl (AH rfl (c0.memA .hd)) ?_
 have B2:=Tt F0 (Tt k0 q0)
 have z2:=Ao G0 B2
 refine BE 2 7 j0 rfl rfl .plain (AF (news:=[.bool x0.fc,t0]) c0 .t1 rfl rfl rfl rfl rfl rfl (o2 rfl (AO z2))) fun K2 P0 b1=>?_
 obtain ⟨W1,j2⟩:=AG P0 (.a0 (.a0 .done))
 exact p1 () W1 (Tt b1 j2)
 refine RO.now (m' :=5) (sk j0) rfl rfl .plain (AF (news:=[.bool x0.fc,t0]) c0 .t1 rfl rfl rfl rfl rfl rfl (o2 rfl (AO (Ao G0 (Tt F0 (Tt k0 q0)))))) fun K2 P0 b1=>Rx 1 8 j0 rfl H1 (AH rfl (P0.memA .hd)) ?_
 obtain ⟨X1,k2⟩:=AG P0 (.a0 (.a0 .done))
 exact p1 () X1 (Tt b1 k2)
def aH_l1 (n:Nat) (d0:(List UInt64) × (List UInt64) -> Option (List UInt64)):(List UInt64) × (List UInt64) -> Option (List UInt64)
  | (c0,b0)=>(if 0 < b0.length then (aU_p n c0 b0).bind fun g0=>d0 (b0,g0.2) else some c0)
def aH_p (n:Nat) (a0:Te) (a1:Te):Option Te:=
  Option.bind (loopF (aH_l1 n) n (a0.fm,a1.fm)) (fun b0=>some (⟨false,b0⟩:Te))
theorem aH_c (n:Nat) {L w} (hL:hl L w) (a0:Te) {v0_1:Value} (h0_1:Rep.R w L [v0_1] a0.fm) (a1:Te) {v1_1:Value} (h1_1:Rep.R w L [v1_1] a1.fm)  {r:Te} (h:aH_p n a0 a1 = some r) :
 Cl 173 #[.agg #[.bool a0.fc,v0_1],.agg #[.bool a1.fc,v1_1]] w (Gives w fun w' u=>∃ v0_1:Value,u = .agg #[.bool r.fc,v0_1]/\Rep.R w' L [v0_1] r.fm):=by
 unfold aH_p at h
 refine AD Tryz.func173 rfl rfl rfl fun _ cs0 hb0=>Ac<|RG.bx (Az w) rfl rfl fun s1 W0 C0 Z0=>RG.bx C0 rfl rfl fun u1 X0 D0 b1=>RG.nl [.bool false,vN] D0 fun v1 p0 t0 c1=>Aa<|Aj<|du 6 fun d0 j0=>Rv 0 d0 rfl j0 (fun _=>Bb 1 rfl)<|Rx 1 48 d0 rfl j0 (AL rfl ((t0.memA .t2) 1 _ rfl))<|Rv 2 d0 rfl j0 (fun _=>Bb 1 rfl)<|Rx 3 32 d0 rfl j0 (AL rfl ((t0.memA .t1) 1 _ rfl))<|Rv 4 d0 rfl j0 (fun _=>AV rfl)<|Rv 5 d0 rfl j0 (fun _=>AV rfl)<|AN (dk d0)<|Aj<|AA ?_
 obtain ⟨u0,d1⟩:=AG t0 (.a0 .done)
 obtain ⟨k1,J0,I0⟩:=bind_in2 h
 refine MX.lf (α:=(List UInt64) × (List UInt64) × Value × Value) (fun ⟨k0,c0,b0,g0⟩=>[(4,vP p0),(5,b0),(6,g0)]) (fun ⟨k0,c0,b0,g0⟩=>[.cells p0 [.bool false,vN] 148]) (fun ⟨k0,c0,b0,g0⟩ y0=>Rep.R y0 (bl [.cells p0 [.bool false,vN] 148] ++ L) [b0] k0/\Rep.R y0 (bl [.cells p0 [.bool false,vN] 148] ++ L) [g0] c0) (fun ⟨k0,c0,b0,g0⟩=>(k0,c0)) (a0.fm,a1.fm,v0_1,v1_1) J0 u0 ⟨(AS h0_1 u0),(AS h1_1 u0)⟩ ?_
 rintro V0 ⟨k0,c0,b0,g0⟩ y0 B0 v0 F0 ⟨q0,s0⟩ h
 unfold aH_l1 at h
 try dsimp only at h
 refine Aj<|Ac<|Ae rfl ?_
 have g1:c0.length <= 281474976710656:=AY s0
 refine Ab (Be (xs:=c0) Tryz.underlying146 rfl s0)<|Ab (FV.gtrN (i:=c0.length) (j:=0) rfl rfl)<|Aa<|AT rfl h (fun A0 h=>?_) (fun A0 h=>?_)
 refine Au<|AA<|Ac<|Ae rfl<|Ae rfl<|bk h fun R0 P0 h=>AX (fst:=[]) (cap:=[]) .plain (bd 188) rfl (e2 rfl rfl) (fun w9 hw9=>aU_c n (v0.hL hL hw9) (Aq q0 hw9) (Aq s0 hw9) P0) rfl fun x1 q1 H0 ⟨p1,Q0,hu_,j1,K0⟩=>?_
 subst hu_
 obtain ⟨E0,z0⟩:=v0.agr H0
 refine Ae rfl<|Ab (Ag rfl rfl)<|Ab (Ag rfl rfl)<|Af rfl<|Af rfl<|Aa<|Av<|Ae rfl<|Ae rfl<|Af rfl<|Af rfl<|Aa<|AC<|B0 (c0,R0.2,g0,Q0) E0 (Tt F0 z0) ⟨(Ao s0 z0),K0⟩ h
 refine Bd rfl ?_
 have h:=I0 _ h
 try dsimp only at h
 refine Ac<|Ae rfl ?_
 obtain ⟨U0,Y0,M0,_⟩:=BV q0
 refine Ab (AU (vs:=[b0]) (u:=.agg #[.bool false,b0]) (e1 rfl) (fun w9=>by rw [M0]; try kernel_rfl))<|AQ [.bool false,b0] v0 .hd (o2 rfl (AO q0)) fun y1 x0 G0=>Aa<|Al rfl<|Am hb0 Tryz.func173 rfl (.cons (.many (cs:=[.bool false,b0]) (by kernel_rfl) rfl (x0.memA .hd)) .nil) rfl ?_
 cases h
 exact ⟨x0.ag,fun w9 hw9=>⟨b0,rfl,x0.kd (Ao q0 G0) hw9⟩⟩
def ci_p (n:Nat) (a0:Te) (a1:Te):Option Th:=
  (aH_p n a0 a1).bind fun c0=>(bM_p n a0 c0).bind fun d0=>(bM_p n a1 c0).bind fun b0=>(if b0.1.fc = true then (bh_p n d0.1).bind fun g0=>(bh_p n b0.1).bind fun j0=>some (⟨g0,j0⟩:Th) else some (⟨d0.1,b0.1⟩:Th))
theorem ci_c (n:Nat) {L w} (hL:hl L w) (a0:Te) {v0_1:Value} (h0_1:Rep.R w L [v0_1] a0.fm) (a1:Te) {v1_1:Value} (h1_1:Rep.R w L [v1_1] a1.fm)  {r:Th} (h:ci_p n a0 a1 = some r) :
 Cl 149 #[.agg #[.bool a0.fc,v0_1],.agg #[.bool a1.fc,v1_1]] w (Gives w fun w' u=>∃ v0_1 v0_3:Value,u = .agg #[.bool r.fy.fc,v0_1,.bool r.ft.fc,v0_3]/\Rep.R w' L [v0_1] r.fy.fm/\Rep.R w' L [v0_3] r.ft.fm):=by
 unfold ci_p at h
 refine AD Tryz.func149 rfl rfl rfl fun _ cs0 hb0=>Ac<|RG.bx (Az w) rfl rfl fun k3 D2 z1 U2=>RG.bx z1 rfl rfl fun x3 E2 C1 V2=>RG.nl [.bool false,vN,.bool false,vN] C1 fun y3 F2 j0 W2=>Aa<|Ac<|Ab (AH rfl (j0.memA .t2))<|Ab (AH rfl (j0.memA .t1))<|bk h fun X0 q2 h=>AX (fst:=[]) (cap:=[]) .plain (bd 173) rfl (e2 rfl rfl) (fun w9 hw9=>aH_c n (j0.hL hL hw9) a0 (j0.km h0_1 hw9) a1 (j0.km h1_1 hw9) q2) rfl fun z3 b3 W1 ⟨v2,hu_,W0⟩=>?_
 subst hu_
 obtain ⟨D1,X2⟩:=j0.agr W1
 refine RG.nl [.bool false,vN] D1 fun A3 G2 E1 J0=>AQ [.bool X0.fc,v2] E1 .hd (o2 rfl (AO (Ao W0 J0))) fun B3 t0 d1=>Aa<|Ac<|Ab (AH rfl (t0.memA .t3))<|Ab (AH rfl (t0.memA .hd))<|bk h fun d0 s2 h=>AX (fst:=[]) (cap:=[]) .plain (bd 157) rfl (e2 rfl rfl) (fun w9 hw9=>bM_c n (t0.hL hL hw9) a0 (t0.km h0_1 hw9) X0 (Aq (Ao W0 (Tt J0 d1)) hw9) s2) rfl fun C3 c3 X1 ⟨q0,x2,hu_,F0,Z1⟩=>?_
 subst hu_
 obtain ⟨F1,R1⟩:=t0.agr X1
 refine Ae rfl<|Ab (Ag rfl rfl)<|Ab (Ag rfl rfl)<|RG.nl [.bool false,vN] F1 fun D3 H2 G1 K0=>RG.nl [.bool false,vN] G1 fun E3 I2 H1 M0=>AQ [.bool d0.1.fc,q0] H1 .t1 (o2 rfl (AO (Ao F0 (Tt K0 M0)))) fun F3 I1 g1=>?_
 have R0:=Tt K0 (Tt M0 g1)
 refine AQ [.bool d0.2.fc,x2] I1 .hd (o2 rfl (AO (Ao Z1 R0))) fun G3 u0 P0=>Aa<|Ac<|Ab (AH rfl (u0.memA .t4))<|Ab (AH rfl (u0.memA .t2))<|bk h fun g0 u2 h=>AX (fst:=[]) (cap:=[]) .plain (bd 157) rfl (e2 rfl rfl) (fun w9 hw9=>bM_c n (u0.hL hL hw9) a1 (u0.km h1_1 hw9) X0 (Aq (Ao W0 (Tt J0 (Tt d1 (Tt R1 (Tt K0 (Tt M0 (Tt g1 P0))))))) hw9) u2) rfl fun H3 d3 Y1 ⟨s0,y2,hu_,G0,b2⟩=>?_
 subst hu_
 obtain ⟨J1,j1⟩:=u0.agr Y1
 refine Ae rfl<|Ab (Ag rfl rfl)<|Ab (Ag rfl rfl)<|RG.nl [.bool false,vN] J1 fun I3 J2 K1 C0=>RG.nl [.bool false,vN] K1 fun J3 K2 M1 D0=>AQ [.bool g0.1.fc,s0] M1 .t1 (o2 rfl (AO (Ao G0 (Tt C0 D0)))) fun K3 P1 Q0=>?_
 have E0:=Tt C0 (Tt D0 Q0)
 refine AQ [.bool g0.2.fc,y2] P1 .hd (o2 rfl (AO (Ao b2 E0))) fun g3 b0 v0=>Aa<|Aj<|Ac<|AR 0 rfl<|AP rfl ((b0.memA .t1) 0 _ rfl)<|Aa<|MX.ifb rfl h (fun y1 h=>?_) (fun y1 h=>?_)
 refine du 4 fun c0 x1=>Rx 0 58 c0 rfl x1 (AH rfl (b0.memA .t3))<|Rx 2 56 c0 rfl x1 (AH rfl (b0.memA .t1))<|bk h fun x0 k2 h=>Bn 1 7 c0 rfl .plain (bd 126) rfl (e1 rfl) (fun w9 hw9=>bh_c n (b0.hL hL hw9) d0.1 (Aq (Ao F0 (Tt R0 (Tt P0 (Tt j1 (Tt C0 (Tt D0 (Tt Q0 v0))))))) hw9) k2) rfl fun j3 Y2 U1 ⟨k0,hu_,U0⟩=>?_
 subst hu_
 obtain ⟨Y0,Q1⟩:=b0.agr U1
 refine bk h fun y0 p2 h=>Bn 3 15 c0 rfl .plain (bd 126) rfl (e1 rfl) (fun w9 hw9=>bh_c n (Y0.hL hL hw9) g0.1 (Aq (Ao G0 (Tt E0 (Tt v0 Q1))) hw9) p2) rfl fun p3 Z2 V1 ⟨p0,hu_,V0⟩=>?_
 subst hu_
 obtain ⟨A1,Z0⟩:=Y0.agr V1
 refine BE 4 31 c0 rfl rfl .plain (AF (news:=[.bool x0.fc,k0]) A1 .t3 rfl rfl rfl rfl rfl rfl (o2 rfl (AO (Ao U0 Z0)))) fun q3 B1 B0=>BE 5 63 c0 rfl rfl .plain (AF (news:=[.bool y0.fc,p0]) B1 .t1 rfl rfl rfl rfl rfl rfl (o2 rfl (AO (Ao V0 B0)))) fun s3 H0 I0=>AN (dk c0)<|Ac<|Ab (AH rfl (H0.memA .t3))<|Ab (AH rfl (H0.memA .t1)) ?_
 have u1:=Tt Z0 (Tt B0 I0)
 have k1:=Ao U0 u1
 obtain ⟨z2,M2,c2,_⟩:=BV k1
 have p1:=Ao V0 (Tt B0 I0)
 obtain ⟨A2,P2,d2,_⟩:=BV p1
 refine Ab (AU (vs:=[.agg #[.bool x0.fc,k0],.agg #[.bool y0.fc,p0]]) (u:=.agg #[.bool x0.fc,k0,.bool y0.fc,p0]) (e2 rfl rfl) (fun w9=>by rw [c2,d2]; try kernel_rfl))<|AQ [.bool x0.fc,k0,.bool y0.fc,p0] H0 .t5 (o4 rfl (AO k1) rfl (AO p1)) fun u3 z0 b1=>Aa<|Al rfl<|Am hb0 Tryz.func149 rfl (.cons (.many (cs:=[.bool x0.fc,k0,.bool y0.fc,p0]) (by kernel_rfl) rfl (z0.memA .t5)) .nil) rfl ?_
 cases h
 exact ⟨z0.ag,fun w9 hw9=>⟨k0,p0,rfl,z0.kd (Ao U0 (Tt u1 b1)) hw9,z0.kd (Ao V0 (Tt B0 (Tt I0 b1))) hw9⟩⟩
 refine Au<|Ac<|Ab (AH rfl (b0.memA .t3))<|Ab (AH rfl (b0.memA .t1)) ?_
 have v1:=Tt R0 (Tt P0 (Tt j1 (Tt C0 (Tt D0 (Tt Q0 v0)))))
 have q1:=Ao F0 v1
 obtain ⟨B2,Q2,g2,_⟩:=BV q1
 have s1:=Ao G0 (Tt E0 v0)
 obtain ⟨C2,R2,j2,_⟩:=BV s1
 refine Ab (AU (vs:=[.agg #[.bool d0.1.fc,q0],.agg #[.bool g0.1.fc,s0]]) (u:=.agg #[.bool d0.1.fc,q0,.bool g0.1.fc,s0]) (e2 rfl rfl) (fun w9=>by rw [g2,j2]; try kernel_rfl))<|AQ [.bool d0.1.fc,q0,.bool g0.1.fc,s0] b0 .t5 (o4 rfl (AO q1) rfl (AO s1)) fun v3 A0 c1=>Aa<|Al rfl<|Am hb0 Tryz.func149 rfl (.cons (.many (cs:=[.bool d0.1.fc,q0,.bool g0.1.fc,s0]) (by kernel_rfl) rfl (A0.memA .t5)) .nil) rfl ?_
 cases h
 exact ⟨A0.ag,fun w9 hw9=>⟨q0,s0,rfl,A0.kd (Ao F0 (Tt v1 c1)) hw9,A0.kd (Ao G0 (Tt E0 (Tt v0 c1))) hw9⟩⟩
def dM_p (n:Nat) (a0:UInt64 × UInt64 × UInt64 × UInt64 × UInt64 × UInt64 × UInt64 × UInt64):Option To:=
  (if (shrU a0.2.2.2.2.2.2.2 63) = (1:UInt64) then (bL_p n ((0:UInt64),(0:UInt64),(0:UInt64),(0:UInt64),(0:UInt64),(0:UInt64),(0:UInt64),(0:UInt64)) a0).bind fun b0=>some (⟨(decide ((shrU a0.2.2.2.2.2.2.2 63) = (1:UInt64))),b0.1⟩:To) else some (⟨(decide ((shrU a0.2.2.2.2.2.2.2 63) = (1:UInt64))),a0⟩:To))
theorem dM_c (n:Nat) {L w} (hL:hl L w) (a0:UInt64 × UInt64 × UInt64 × UInt64 × UInt64 × UInt64 × UInt64 × UInt64)  {r:To} (h:dM_p n a0 = some r) :
 Cl 176 #[.agg ((cs_A34 a0)).toArray] w (Gives w fun _ u=>u = .agg ((cs_To r)).toArray):=by
 unfold dM_p at h
 refine AD Tryz.func176 rfl rfl rfl fun _ cs0 hb0=>Ac<|RG.bx (Az w) rfl rfl fun F0 u0 q0 y0=>RG.nl [.bool false,vW 0,vW 0,vW 0,vW 0,vW 0,vW 0,vW 0,vW 0] q0 fun G0 v0 d0 z0=>Aa<|Ac<|Ab (Bg (m:=1) (k:=7) (len:=8) (by kernel_rfl) rfl rfl rfl (by omega))<|AP rfl ((d0.memA .t1) 7 _ rfl)<|Ab (FV.shrU (a:=a0.2.2.2.2.2.2.2) (j:=63) rfl rfl)<|Ab (FV.eqlU (a:=shrU a0.2.2.2.2.2.2.2 63) (b:=(1:UInt64)) rfl rfl)<|Ab (AH rfl (d0.memA .t1))<|Ab (AU (vs:=[.bool (decide ((shrU a0.2.2.2.2.2.2.2 63) = (1:UInt64))),.agg ((cs_A34 a0)).toArray]) (u:=.agg ((([.bool (decide ((shrU a0.2.2.2.2.2.2.2 63) = (1:UInt64)))]:List Value) ++ cs_A34 a0)).toArray) (e2 rfl rfl) (fun w9=>by kernel_rfl))<|RG.nl [.bool false,vW 0,vW 0,vW 0,vW 0,vW 0,vW 0,vW 0,vW 0] d0 fun H0 x0 s0 A0=>AQ (([.bool (decide ((shrU a0.2.2.2.2.2.2.2 63) = (1:UInt64)))]:List Value) ++ cs_A34 a0) s0 .hd (onesB rfl) fun I0 b0 B0=>Aa<|Aj<|Ac<|AR 0 rfl<|AP rfl ((b0.memA .hd) 0 _ rfl)<|Aa<|AT rfl h (fun p0 h=>?_) (fun p0 h=>?_)
 refine Av<|Ab (AU (vs:=[]) (u:=.agg zQ) evs_nil (fun w9=>by kernel_rfl))<|AR 1 rfl<|Ab (Bc (cs:=(cs_A34 a0)) (by kernel_rfl) rfl (mem_part (b0.memA .hd) 1 8))<|bk h fun c0 t0 h=>Ba (.tuple #[.agg ((cs_A34 c0.1)).toArray,vU c0.2]) (bd 196) rfl (e2 rfl rfl) (fun w9 hw9=>bL_c n (b0.hL0 hL hw9) ((0:UInt64),(0:UInt64),(0:UInt64),(0:UInt64),(0:UInt64),(0:UInt64),(0:UInt64),(0:UInt64)) a0 t0) rfl<|Ae rfl<|Ab (Ag rfl rfl)<|Ab (Ag rfl rfl)<|AR 1 rfl<|RG.now .plain (BQ (j:=1) (old:=(([.bool (decide ((shrU a0.2.2.2.2.2.2.2 63) = (1:UInt64)))]:List Value) ++ cs_A34 a0)) (news:=(cs_A34 c0.1)) (new' :=(([.bool (decide ((shrU a0.2.2.2.2.2.2.2 63) = (1:UInt64)))]:List Value) ++ cs_A34 c0.1)) b0 .hd rfl rfl rfl rfl rfl rfl (onesB rfl) rfl) fun J0 g0 C0=>Aa<|Ac<|Ab (AH rfl (g0.memA .hd))<|AQ (([.bool (decide ((shrU a0.2.2.2.2.2.2.2 63) = (1:UInt64)))]:List Value) ++ cs_A34 c0.1) g0 .t1 (onesB rfl) fun K0 j0 D0=>Aa<|Al rfl<|Am hb0 Tryz.func176 rfl (.cons (.many (cs:=(([.bool (decide ((shrU a0.2.2.2.2.2.2.2 63) = (1:UInt64)))]:List Value) ++ cs_A34 c0.1)) (by kernel_rfl) rfl (j0.memA .t1)) .nil) rfl ?_
 cases h
 exact j0.gv
 refine Au<|Ac<|Ab (AH rfl (b0.memA .hd))<|AQ (([.bool (decide ((shrU a0.2.2.2.2.2.2.2 63) = (1:UInt64)))]:List Value) ++ cs_A34 a0) b0 .t1 (onesB rfl) fun M0 k0 E0=>Aa<|Al rfl<|Am hb0 Tryz.func176 rfl (.cons (.many (cs:=(([.bool (decide ((shrU a0.2.2.2.2.2.2.2 63) = (1:UInt64)))]:List Value) ++ cs_A34 a0)) (by kernel_rfl) rfl (k0.memA .t1)) .nil) rfl ?_
 cases h
 exact k0.gv
def cd_p (n:Nat) (a0:UInt64 × UInt64 × UInt64 × UInt64 × UInt64 × UInt64 × UInt64 × UInt64):Option Te:=
  (dM_p n a0).bind fun b0=>(app ([]:List UInt64) ([b0.fl.1,b0.fl.2.1,b0.fl.2.2.1,b0.fl.2.2.2.1,b0.fl.2.2.2.2.1,b0.fl.2.2.2.2.2.1,b0.fl.2.2.2.2.2.2.1,b0.fl.2.2.2.2.2.2.2]:List UInt64)).bind fun c0=>(au_p n b0.fc c0).bind fun d0=>some d0
theorem cd_c (n:Nat) {L w} (hL:hl L w) (a0:UInt64 × UInt64 × UInt64 × UInt64 × UInt64 × UInt64 × UInt64 × UInt64)  {r:Te} (h:cd_p n a0 = some r) :
 Cl 151 #[.agg ((cs_A34 a0)).toArray] w (Gives w fun w' u=>∃ v0_1:Value,u = .agg #[.bool r.fc,v0_1]/\Rep.R w' L [v0_1] r.fm):=by
 unfold cd_p at h
 refine AD Tryz.func151 rfl rfl rfl fun _ cs0 hb0=>Ac<|RG.bx (Az w) rfl rfl fun D1 s1 W0 u1=>RG.nl [.bool false,vN] W0 fun G1 A0 F0 z1=>Aa<|Ac<|Ab (AH rfl (F0.memA .t1))<|bk h fun b0 p1 h=>Ba (.agg ((cs_To b0)).toArray) (bd 176) rfl (e1 rfl) (fun w9 hw9=>dM_c n (F0.hL0 hL hw9) a0 p1) rfl<|RG.nl [.bool false,vW 0,vW 0,vW 0,vW 0,vW 0,vW 0,vW 0,vW 0] F0 fun H1 U0 c1 A1=>AQ (cs_To b0) c1 .hd (onesB rfl) fun I1 u0 B1=>Aa<|Aj<|du 5 fun c0 y0=>Rv 0 c0 rfl y0 (fun _=>Bb 0 rfl)<|Rv 3 c0 rfl y0 (fun _=>Bb 1 rfl)<|Rx 4 224 c0 rfl y0 (FV.sliceA (len:=8) (m:=1) (p:=Addr.add ⟨U0,0,none⟩ 1) (by kernel_rfl) rfl)<|bk h fun z0 G0 h=>RD.mf (α:=Value × (List Value)) (fun ⟨g0,j0⟩=>[(2,vP A0),(7,.bool b0.fc),(11,g0)]) (fun ⟨g0,j0⟩=>[rr w 33 UInt64 g0 z0.length j0,.cells A0 [.bool false,vN] 148]) (fun ⟨g0,j0⟩ Q0=>Cells Q0 (bl [rr w 33 UInt64 g0 z0.length j0,.cells A0 [.bool false,vN] 148] ++ L) j0 (z0:List UInt64)) u0 2 63 ?_ ?_
 rintro ⟨g0,j0⟩ Q0 C0 v1 j1
 try dsimp only
 have D0:=Bz C0 .hd
 have x1:=BA C0 .hd
 refine bk h fun R0 k1 h=>Bn 6 127 c0 rfl .plain (bd 158) rfl (e2 rfl rfl) (fun w9 hw9=>au_c n (D0.hL hL hw9) (Aq (BB (α:=UInt64) (v:=g0) (xs:=z0) D0 L (Bj (α:=UInt64) C0 .hd j1 hL)) hw9) k1) rfl fun E1 C1 g1 ⟨H0,hu_,M0⟩=>?_
 subst hu_
 obtain ⟨X0,y1⟩:=D0.agr g1
 refine BE 7 255 c0 rfl rfl .plain (AF (news:=[.bool R0.fc,H0]) X0 .hd rfl rfl rfl rfl rfl rfl (o2 rfl (AO M0))) fun F1 E0 d1=>AN (dk c0)<|Al rfl<|Am hb0 Tryz.func151 rfl (.cons (.many (cs:=[.bool R0.fc,H0]) (by kernel_rfl) rfl (E0.memA .hd)) .nil) rfl ?_
 cases h
 exact ⟨E0.ag,fun w9 hw9=>⟨H0,rfl,E0.kd (Ao M0 d1) hw9⟩⟩
 intro B0
 refine Bm [1,2] (rk c0) ⟨?_,?_,trivial⟩
 refine Bs (m' :=27) (sk c0) rfl .plain rfl (AL rfl ((u0.memA .hd) 0 _ rfl))<|BN 2 31 c0 rfl .plain rfl (AK (α:=UInt64) (xs:=([]:List UInt64)) (vs:=[]) (ds' :=[]) rfl u0 el146 rfl evs_nil (by kernel_rfl) rfl) fun q1 V0 d0 v0=>?_
 have x0:=AB (cs:=[]) (xs:=(([]:List UInt64):List UInt64)) d0 L (AJ _ _)
 refine Bf (i:=5) (rk c0) (Bx (m' :=63) (sk c0) rfl rfl .plain rfl (AZ (α:=UInt64) (ys:=([b0.fl.1,b0.fl.2.1,b0.fl.2.2.1,b0.fl.2.2.2.1,b0.fl.2.2.2.2.1,b0.fl.2.2.2.2.2.1,b0.fl.2.2.2.2.2.2.1,b0.fl.2.2.2.2.2.2.2]:List UInt64)) G0 d0 (fun _ _=>.hd) el146 rfl rfl x0 (Src.arr (ds:=[vU b0.fl.1,vU b0.fl.2.1,vU b0.fl.2.2.1,vU b0.fl.2.2.2.1,vU b0.fl.2.2.2.2.1,vU b0.fl.2.2.2.2.2.1,vU b0.fl.2.2.2.2.2.2.1,vU b0.fl.2.2.2.2.2.2.2]) (ys:=([b0.fl.1,b0.fl.2.1,b0.fl.2.2.1,b0.fl.2.2.2.1,b0.fl.2.2.2.2.1,b0.fl.2.2.2.2.2.1,b0.fl.2.2.2.2.2.2.1,b0.fl.2.2.2.2.2.2.2]:List UInt64)) (n:=8) (mem_part (d0.memA .t1) 1 8) (Ar (cs:=[vU b0.fl.1]) (ds:=[vU b0.fl.2.1,vU b0.fl.2.2.1,vU b0.fl.2.2.2.1,vU b0.fl.2.2.2.2.1,vU b0.fl.2.2.2.2.2.1,vU b0.fl.2.2.2.2.2.2.1,vU b0.fl.2.2.2.2.2.2.2]) rfl (Ar (cs:=[vU b0.fl.2.1]) (ds:=[vU b0.fl.2.2.1,vU b0.fl.2.2.2.1,vU b0.fl.2.2.2.2.1,vU b0.fl.2.2.2.2.2.1,vU b0.fl.2.2.2.2.2.2.1,vU b0.fl.2.2.2.2.2.2.2]) rfl (Ar (cs:=[vU b0.fl.2.2.1]) (ds:=[vU b0.fl.2.2.2.1,vU b0.fl.2.2.2.2.1,vU b0.fl.2.2.2.2.2.1,vU b0.fl.2.2.2.2.2.2.1,vU b0.fl.2.2.2.2.2.2.2]) rfl (Ar (cs:=[vU b0.fl.2.2.2.1]) (ds:=[vU b0.fl.2.2.2.2.1,vU b0.fl.2.2.2.2.2.1,vU b0.fl.2.2.2.2.2.2.1,vU b0.fl.2.2.2.2.2.2.2]) rfl (Ar (cs:=[vU b0.fl.2.2.2.2.1]) (ds:=[vU b0.fl.2.2.2.2.2.1,vU b0.fl.2.2.2.2.2.2.1,vU b0.fl.2.2.2.2.2.2.2]) rfl (Ar (cs:=[vU b0.fl.2.2.2.2.2.1]) (ds:=[vU b0.fl.2.2.2.2.2.2.1,vU b0.fl.2.2.2.2.2.2.2]) rfl (Ar (cs:=[vU b0.fl.2.2.2.2.2.2.1]) (ds:=[vU b0.fl.2.2.2.2.2.2.2]) rfl (Ar (cs:=[vU b0.fl.2.2.2.2.2.2.2]) (ds:=[]) rfl (AJ _ _))))))))) rfl)) (fun t0 P0 ⟨p0,k0,q0,s0⟩=>?_))
 obtain ⟨Y0,I0⟩:=AG k0 (.a0 (.a1 .done))
 exact B0 (t0,p0) Y0 (Tt v0 (Tt q0 I0)) (Aw s0 I0)
 refine BC (m' :=29) (sk c0) rfl .plain rfl (AK (α:=UInt64) (xs:=([]:List UInt64)) (vs:=[]) (ds' :=[]) rfl u0 el146 rfl evs_nil (by kernel_rfl) rfl) fun q1 V0 d0 v0=>?_
 have x0:=AB (cs:=[]) (xs:=(([]:List UInt64):List UInt64)) d0 L (AJ _ _)
 refine Bm [1,5] (rk c0) ⟨?_,?_,trivial⟩
 refine Bs (m' :=31) (sk c0) rfl .plain rfl (AL rfl ((d0.memA .t1) 0 _ rfl))<|Bf (i:=5) (rk c0) (Bx (m' :=63) (sk c0) rfl rfl .plain rfl (AZ (α:=UInt64) (ys:=([b0.fl.1,b0.fl.2.1,b0.fl.2.2.1,b0.fl.2.2.2.1,b0.fl.2.2.2.2.1,b0.fl.2.2.2.2.2.1,b0.fl.2.2.2.2.2.2.1,b0.fl.2.2.2.2.2.2.2]:List UInt64)) G0 d0 (fun _ _=>.hd) el146 rfl rfl x0 (Src.arr (ds:=[vU b0.fl.1,vU b0.fl.2.1,vU b0.fl.2.2.1,vU b0.fl.2.2.2.1,vU b0.fl.2.2.2.2.1,vU b0.fl.2.2.2.2.2.1,vU b0.fl.2.2.2.2.2.2.1,vU b0.fl.2.2.2.2.2.2.2]) (ys:=([b0.fl.1,b0.fl.2.1,b0.fl.2.2.1,b0.fl.2.2.2.1,b0.fl.2.2.2.2.1,b0.fl.2.2.2.2.2.1,b0.fl.2.2.2.2.2.2.1,b0.fl.2.2.2.2.2.2.2]:List UInt64)) (n:=8) (mem_part (d0.memA .t1) 1 8) (Ar (cs:=[vU b0.fl.1]) (ds:=[vU b0.fl.2.1,vU b0.fl.2.2.1,vU b0.fl.2.2.2.1,vU b0.fl.2.2.2.2.1,vU b0.fl.2.2.2.2.2.1,vU b0.fl.2.2.2.2.2.2.1,vU b0.fl.2.2.2.2.2.2.2]) rfl (Ar (cs:=[vU b0.fl.2.1]) (ds:=[vU b0.fl.2.2.1,vU b0.fl.2.2.2.1,vU b0.fl.2.2.2.2.1,vU b0.fl.2.2.2.2.2.1,vU b0.fl.2.2.2.2.2.2.1,vU b0.fl.2.2.2.2.2.2.2]) rfl (Ar (cs:=[vU b0.fl.2.2.1]) (ds:=[vU b0.fl.2.2.2.1,vU b0.fl.2.2.2.2.1,vU b0.fl.2.2.2.2.2.1,vU b0.fl.2.2.2.2.2.2.1,vU b0.fl.2.2.2.2.2.2.2]) rfl (Ar (cs:=[vU b0.fl.2.2.2.1]) (ds:=[vU b0.fl.2.2.2.2.1,vU b0.fl.2.2.2.2.2.1,vU b0.fl.2.2.2.2.2.2.1,vU b0.fl.2.2.2.2.2.2.2]) rfl (Ar (cs:=[vU b0.fl.2.2.2.2.1]) (ds:=[vU b0.fl.2.2.2.2.2.1,vU b0.fl.2.2.2.2.2.2.1,vU b0.fl.2.2.2.2.2.2.2]) rfl (Ar (cs:=[vU b0.fl.2.2.2.2.2.1]) (ds:=[vU b0.fl.2.2.2.2.2.2.1,vU b0.fl.2.2.2.2.2.2.2]) rfl (Ar (cs:=[vU b0.fl.2.2.2.2.2.2.1]) (ds:=[vU b0.fl.2.2.2.2.2.2.2]) rfl (Ar (cs:=[vU b0.fl.2.2.2.2.2.2.2]) (ds:=[]) rfl (AJ _ _))))))))) rfl)) (fun t0 P0 ⟨p0,k0,q0,s0⟩=>?_))
 obtain ⟨Z0,J0⟩:=AG k0 (.a0 (.a1 .done))
 exact B0 (t0,p0) Z0 (Tt v0 (Tt q0 J0)) (Aw s0 J0)
 refine Bx (m' :=61) (sk c0) rfl rfl .plain rfl (AZ (α:=UInt64) (ys:=([b0.fl.1,b0.fl.2.1,b0.fl.2.2.1,b0.fl.2.2.2.1,b0.fl.2.2.2.2.1,b0.fl.2.2.2.2.2.1,b0.fl.2.2.2.2.2.2.1,b0.fl.2.2.2.2.2.2.2]:List UInt64)) G0 d0 (fun _ _=>.hd) el146 rfl rfl x0 (Src.arr (ds:=[vU b0.fl.1,vU b0.fl.2.1,vU b0.fl.2.2.1,vU b0.fl.2.2.2.1,vU b0.fl.2.2.2.2.1,vU b0.fl.2.2.2.2.2.1,vU b0.fl.2.2.2.2.2.2.1,vU b0.fl.2.2.2.2.2.2.2]) (ys:=([b0.fl.1,b0.fl.2.1,b0.fl.2.2.1,b0.fl.2.2.2.1,b0.fl.2.2.2.2.1,b0.fl.2.2.2.2.2.1,b0.fl.2.2.2.2.2.2.1,b0.fl.2.2.2.2.2.2.2]:List UInt64)) (n:=8) (mem_part (d0.memA .t1) 1 8) (Ar (cs:=[vU b0.fl.1]) (ds:=[vU b0.fl.2.1,vU b0.fl.2.2.1,vU b0.fl.2.2.2.1,vU b0.fl.2.2.2.2.1,vU b0.fl.2.2.2.2.2.1,vU b0.fl.2.2.2.2.2.2.1,vU b0.fl.2.2.2.2.2.2.2]) rfl (Ar (cs:=[vU b0.fl.2.1]) (ds:=[vU b0.fl.2.2.1,vU b0.fl.2.2.2.1,vU b0.fl.2.2.2.2.1,vU b0.fl.2.2.2.2.2.1,vU b0.fl.2.2.2.2.2.2.1,vU b0.fl.2.2.2.2.2.2.2]) rfl (Ar (cs:=[vU b0.fl.2.2.1]) (ds:=[vU b0.fl.2.2.2.1,vU b0.fl.2.2.2.2.1,vU b0.fl.2.2.2.2.2.1,vU b0.fl.2.2.2.2.2.2.1,vU b0.fl.2.2.2.2.2.2.2]) rfl (Ar (cs:=[vU b0.fl.2.2.2.1]) (ds:=[vU b0.fl.2.2.2.2.1,vU b0.fl.2.2.2.2.2.1,vU b0.fl.2.2.2.2.2.2.1,vU b0.fl.2.2.2.2.2.2.2]) rfl (Ar (cs:=[vU b0.fl.2.2.2.2.1]) (ds:=[vU b0.fl.2.2.2.2.2.1,vU b0.fl.2.2.2.2.2.2.1,vU b0.fl.2.2.2.2.2.2.2]) rfl (Ar (cs:=[vU b0.fl.2.2.2.2.2.1]) (ds:=[vU b0.fl.2.2.2.2.2.2.1,vU b0.fl.2.2.2.2.2.2.2]) rfl (Ar (cs:=[vU b0.fl.2.2.2.2.2.2.1]) (ds:=[vU b0.fl.2.2.2.2.2.2.2]) rfl (Ar (cs:=[vU b0.fl.2.2.2.2.2.2.2]) (ds:=[]) rfl (AJ _ _))))))))) rfl)) fun t0 P0 ⟨p0,k0,q0,s0⟩=>Rx 1 192 c0 rfl y0 (AL rfl ((k0.memA .t1) 0 _ rfl)) ?_
 obtain ⟨b1,K0⟩:=AG k0 (.a0 (.a1 .done))
 exact B0 (t0,p0) b1 (Tt v0 (Tt q0 K0)) (Aw s0 K0)
end Go.Proofs.YtgejkdheojkfiaaGreatDoor
