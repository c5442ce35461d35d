import Derived.Test.YtdolpanbfpjnmaaGreatDoorProg
import Derived.Test.YtdolpanbfpjnmaaGreatDoorPMr
namespace Go.Proofs.YtdolpanbfpjnmaaGreatDoor
open Go Go.RowKit Tryz
set_option maxRecDepth 4000
set_option maxHeartbeats 4000000
abbrev Cl := Calls Tryz.prog
theorem bd (k:Nat) (h:bB Tryz.prog k = true:=by kernel_rfl):bB Tryz.prog k = true:=h

structure Ta where
  fN:U8
  fD:U8
  deriving DecidableEq
instance:Rep Ta:=Rep.via (β:=(U8) × (U8)) fun x=>(x.fN,x.fD)
def aK_l1 (_n:Nat) (a0:List Bool) (a1:Bool) (c0:Nat -> Option (Int ⊕ Unit)):Nat -> Option (Int ⊕ Unit)
  | b0=>(if b0 < a0.length then (a0[b0]?).bind fun d0=>(if (a1 == d0) = true then some (.inl ((b0:Nat):Int)) else c0 (b0 + 1)) else some (.inr ()))
def aK_p (n:Nat) (a0:List Bool) (a1:Bool):Option Int:=
  thn (am (aK_l1 n a0 a1) n 0) (fun _=>some (-1:Int))
theorem aK_c (n:Nat) {L w} (_hL:hl L w) {a0:List Bool} {v0_0:Value} (h0_0:Rep.R w L [v0_0] a0) {a1:Bool}  {r:Int} (h:aK_p n a0 a1 = some r) :
 Cl 207 #[v0_0,.bool a1] w (ah w fun _ u=>u = vI r):=by
 unfold aK_p at h
 refine AG func207 rfl rfl rfl fun _ cs0 hb0=>Ac<|Af rfl<|Aa<|Ai<|Ac<|Ae rfl ?_
 have hl1:a0.length <= 281474976710656:=Ba h0_0
 refine Ab (Bg (xs:=a0) underlying242 rfl h0_0)<|Ae rfl<|Aa<|AA<|tn h fun E0 y0 d0=>MX.lo (α:=Nat) (fun b0=>[(0,v0_0),(1,.bool a1),(7,vI ((a0.length:Nat):Int)),(8,vI ((b0:Nat):Int))]) (fun b0=>[]) (fun b0=>b0) 0 y0 (Az w) ?_
 rintro C0 b0 F0 q0 c0 s0 h
 unfold aK_l1 at h
 try dsimp only at h
 refine Ac<|Ab (Bq (i:=b0) (j:=a0.length) rfl rfl)<|Aa<|Ai<|AT rfl h (fun j0 h=>?_) (fun j0 h=>?_)
 refine Ar<|Ai<|AA<|Ac<|Ae rfl<|Af rfl<|Aa<|Ac<|Ae rfl<|Ae rfl<|Ae rfl<|bk h fun g0 A0 h=>?_
 obtain ⟨B0,D0,t0,v0,p0,z0,x0⟩:=Bk (AS h0_0 c0) A0
 have u0:p0 = [.bool g0]:=z0; subst u0
 refine Ab (Bj 1 b0 rfl t0 rfl rfl v0)<|AR rfl (x0 0 _ rfl)<|Ab (FV.eqlB (a:=a1) (b:=g0) underlying4 rfl rfl)<|Aa<|MX.ifb rfl h (fun k0 h=>?_) (fun k0 h=>?_)
 refine Ac<|Ae rfl<|Af rfl<|Aa ?_
 have h:=au h d0
 refine Al rfl<|AY hb0 func207 rfl rfl ?_
 cases h
 exact c0.gv
 refine Ar<|AC<|Ao<|Ab (Bn (i:=b0) (j:=1) rfl rfl (by omega))<|Ae rfl<|Aa<|q0 (b0 + 1) c0 s0 h
 refine Be rfl ?_
 have h:=aF h d0
 try dsimp only at h
 refine Ac<|Af rfl<|Aa<|Al rfl<|AY hb0 func207 rfl rfl ?_
 cases h
 exact c0.gv
def bJ_p (n:Nat) (a0:List Bool) (a1:Bool):Option Bool:=
  (aK_p n a0 a1).bind fun y1=>some (decide (0 <= y1))
theorem bJ_c (n:Nat) {L w} (hL:hl L w) {a0:List Bool} {v0_0:Value} (h0_0:Rep.R w L [v0_0] a0) {a1:Bool}  {r:Bool} (h:bJ_p n a0 a1 = some r) :
 Cl 192 #[v0_0,.bool a1] w (ah w fun _ u=>u = .bool r):=by
 unfold bJ_p at h
 have hS0:=Az w
 refine AG func192 rfl rfl rfl fun _ cs0 hb0=>Ac<|Af rfl<|Aa<|Ac<|Ae rfl<|Ae rfl<|bk h fun y1 hy1 h=>Bi (vI y1) (bd 207) rfl (e2 rfl rfl) (fun w9 hw9=>aK_c n (hS0.hL0 hL hw9) (hS0.kd h0_0 hw9) hy1) rfl<|Ab (FV.geq (i:=y1) (j:=0) rfl rfl)<|Af rfl<|Aa<|Al rfl<|AY hb0 func192 rfl rfl ?_
 cases h
 exact hS0.gv
def bD_p (n:Nat) (a0:List Bool):Option Bool:=
  (bJ_p n a0 false).bind fun y1=>some (!y1)
theorem bD_c (n:Nat) {L w} (hL:hl L w) {a0:List Bool} {v0_0:Value} (h0_0:Rep.R w L [v0_0] a0)  {r:Bool} (h:bD_p n a0 = some r) :
 Cl 156 #[v0_0] w (ah w fun _ u=>u = .bool r):=by
 unfold bD_p at h
 have hS0:=Az w
 refine AG func156 rfl rfl rfl fun _ cs0 hb0=>Ac<|Af rfl<|Aa<|Ac<|Ae rfl<|bk h fun y1 hy1 h=>Bi (.bool y1) (bd 192) rfl (e2 rfl rfl) (fun w9 hw9=>bJ_c n (hS0.hL0 hL hw9) (hS0.kd h0_0 hw9) hy1) rfl<|Ab (Bp rfl)<|Af rfl<|Aa<|Al rfl<|AY hb0 func156 rfl rfl ?_
 cases h
 exact hS0.gv
def bY_l1 (_n:Nat) (a1:UInt8) (c0:ByteArray -> Option ByteArray):ByteArray -> Option ByteArray
  | b0=>(if 0 < b0.size then (b0.data[0]?).bind fun g0=>(if g0.toNat = a1.toNat then (mA b0 1 (b0.size:Int)).bind fun d0=>c0 d0 else some b0) else some b0)
def bY_p (n:Nat) (a0:ByteArray) (a1:UInt8):Option ByteArray:=
  jn (fun c0=>some c0) (fun b0=>Option.bind (am (bY_l1 n a1) n a0) (b0))
theorem bY_c (n:Nat) {L w} (_hL:hl L w) {a0:ByteArray} (a1:UInt8)  {r:ByteArray} (h:bY_p n a0 a1 = some r) :
 Cl 208 #[.string a0,.int .u8 (a1.toNat:Int)] w (ah w fun _ u=>u = .string r):=by
 unfold bY_p at h
 have hS0:=Az w
 refine AG func208 rfl rfl rfl fun _ cs0 hb0=>Ac<|Af rfl<|Aa<|Ai<|AA<|MX.xo (α:=ByteArray) 0 (fun c0=>[(0,.string c0)]) (fun c0=>[]) (fun c0=>c0) hS0 rfl h ?_ ?_
 rintro c0 E0 t0 C0 h
 try dsimp only at h
 refine Ac<|Ae rfl<|Af rfl<|Aa<|Al rfl<|AY hb0 func208 rfl rfl ?_
 cases h
 exact t0.gv
 intro A0 j0 h
 try dsimp only at h
 obtain ⟨D0,u0,k0⟩:=aq h
 refine MX.lo (α:=ByteArray) (fun b0=>[(0,.string b0),(1,.int .u8 (a1.toNat:Int))]) (fun b0=>[]) (fun b0=>b0) a0 u0 hS0 ?_
 rintro B0 b0 F0 s0 d0 g0 h
 unfold bY_l1 at h
 try dsimp only at h
 refine Ai<|Ac<|Ae rfl<|Ab (BX underlying9 rfl)<|Ab (FV.gtrN (i:=b0.size) (j:=0) rfl rfl)<|Ae rfl<|BA (s:=8) rfl h (fun p0 h=>?_) (fun p0 h=>?_)
 refine AH (Ak rfl)<|bk h fun z0 x0 h=>AH (FV.strAt (k:=0) underlying9 rfl rfl rfl x0)<|AH (Ak rfl)<|AH (BM (i:=z0.toNat) (j:=a1.toNat) rfl rfl)<|Bm rfl rfl<|Aa<|AT rfl h (fun q0 h=>?_) (fun q0 h=>?_)
 refine Ar<|AA<|Ao<|Ae rfl<|bk h fun y0 v0 h=>Ab (FV.strCut v0 underlying9 rfl ⟨_,rfl⟩ rfl)<|Af rfl<|Aa<|AC<|s0 y0 d0 g0 h
 refine Be rfl ?_
 have h:=k0 _ h
 try dsimp only at h
 exact j0 b0 d0 g0 h
 refine Au<|Au<|Au<|Au<|Bv rfl rfl<|Aa<|BI rfl<|Be rfl ?_
 have h:=k0 _ h
 try dsimp only at h
 exact j0 b0 d0 g0 h
def bQ_l1 (_n:Nat) (a1:UInt8) (c0:ByteArray -> Option ByteArray):ByteArray -> Option ByteArray
  | b0=>(if 0 < b0.size then (chk (((b0.size:Nat):Int) - 1)).bind fun d0=>(mP b0 d0).bind fun k0=>(if k0.toNat = a1.toNat then (chk (((b0.size:Nat):Int) - 1)).bind fun g0=>(mA b0 0 g0).bind fun j0=>c0 j0 else some b0) else some b0)
def bQ_p (n:Nat) (a0:ByteArray) (a1:UInt8):Option ByteArray:=
  jn (fun c0=>some c0) (fun b0=>Option.bind (am (bQ_l1 n a1) n a0) (b0))
theorem bQ_c (n:Nat) {L w} (_hL:hl L w) {a0:ByteArray} (a1:UInt8)  {r:ByteArray} (h:bQ_p n a0 a1 = some r) :
 Cl 209 #[.string a0,.int .u8 (a1.toNat:Int)] w (ah w fun _ u=>u = .string r):=by
 unfold bQ_p at h
 have hS0:=Az w
 refine AG func209 rfl rfl rfl fun _ cs0 hb0=>Ac<|Af rfl<|Aa<|Ai<|AA<|MX.xo (α:=ByteArray) 0 (fun c0=>[(0,.string c0)]) (fun c0=>[]) (fun c0=>c0) hS0 rfl h ?_ ?_
 rintro c0 K0 t0 H0 h
 try dsimp only at h
 refine Ac<|Ae rfl<|Af rfl<|Aa<|Al rfl<|AY hb0 func209 rfl rfl ?_
 cases h
 exact t0.gv
 intro F0 j0 h
 try dsimp only at h
 obtain ⟨I0,v0,k0⟩:=aq h
 refine MX.lo (α:=ByteArray) (fun b0=>[(0,.string b0),(1,.int .u8 (a1.toNat:Int))]) (fun b0=>[]) (fun b0=>b0) a0 v0 hS0 ?_
 rintro G0 b0 M0 s0 d0 g0 h
 unfold bQ_l1 at h
 try dsimp only at h
 refine Ai<|Ac<|Ae rfl<|Ab (BX underlying9 rfl)<|Ab (FV.gtrN (i:=b0.size) (j:=0) rfl rfl)<|Ae rfl<|BA (s:=8) rfl h (fun p0 h=>?_) (fun p0 h=>?_)
 refine AH (Ak rfl)<|AH (Ak rfl)<|AH (BX underlying9 rfl)<|bk h fun C0 x0 h=>AH (FV.subc (i:=((b0.size:Nat):Int)) (j:=1) rfl rfl x0)<|bk h fun E0 B0 h=>?_
 obtain ⟨u0,A0⟩:=gj B0
 refine AH (FV.strAt (k:=C0.toNat) underlying9 rfl rfl u0 A0)<|AH (Ak rfl)<|AH (BM (i:=E0.toNat) (j:=a1.toNat) rfl rfl)<|Bm rfl rfl<|Aa<|AT rfl h (fun q0 h=>?_) (fun q0 h=>?_)
 refine Ar<|AA<|Ao<|Ae rfl<|Ae rfl<|Ab (BX underlying9 rfl)<|bk h fun J0 y0 h=>Ab (FV.subc (i:=((b0.size:Nat):Int)) (j:=1) rfl rfl y0)<|bk h fun D0 z0 h=>Ab (FV.strCut z0 underlying9 rfl rfl ⟨_,rfl⟩)<|Af rfl<|Aa<|AC<|s0 D0 d0 g0 h
 refine Be rfl ?_
 have h:=k0 _ h
 try dsimp only at h
 exact j0 b0 d0 g0 h
 refine Au<|Au<|Au<|Au<|Au<|Au<|Au<|Bv rfl rfl<|Aa<|BI rfl<|Be rfl ?_
 have h:=k0 _ h
 try dsimp only at h
 exact j0 b0 d0 g0 h
def bM_l1 (_n:Nat) (g0:List Bool) (c0:ByteArray -> Option ByteArray):ByteArray -> Option ByteArray
  | b0=>(if 0 < b0.size then (b0.data[0]?).bind fun j0=>(g0[j0.toNat]?).bind fun k0=>(if k0 = true then (mA b0 1 (b0.size:Int)).bind fun d0=>c0 d0 else some b0) else some b0)
def bM_l2 (_n:Nat) (k0:List Bool) (c0:ByteArray -> Option ByteArray):ByteArray -> Option ByteArray
  | b0=>(if 0 < b0.size then (chk (((b0.size:Nat):Int) - 1)).bind fun d0=>(mP b0 d0).bind fun p0=>(k0[p0.toNat]?).bind fun q0=>(if q0 = true then (chk (((b0.size:Nat):Int) - 1)).bind fun g0=>(mA b0 0 g0).bind fun j0=>c0 j0 else some b0) else some b0)
def bM_l3 (_n:Nat) (a1:ByteArray) (g0:Int × (List Bool) -> Option (ByteArray ⊕ (List Bool))):Int × (List Bool) -> Option (ByteArray ⊕ (List Bool))
  | (c0,b0)=>(if c0 < ((a1.size:Nat):Int) then (mP a1 c0).bind fun d0=>(if 128 <= d0.toNat then (none).map .inl else (b0[d0.toNat]?).bind fun _z100=>(chk (c0 + 1)).bind fun j0=>g0 (j0,(b0.set d0.toNat true))) else some (.inr b0))
def bM_p (n:Nat) (a0:ByteArray) (a1:ByteArray):Option ByteArray:=
  jn (fun q2=>(if q2 = true then some a0 else jn (fun j0=>(if j0 = true then (a1.data[0]?).bind fun t0=>(bQ_p n a0 t0).bind fun q0=>(a1.data[0]?).bind fun u0=>(bY_p n q0 u0).bind fun s0=>some s0 else thn (am (bM_l3 n a1) n (0,(List.replicate 256 false))) (fun c0=>jn (fun k0=>jn (fun p0=>some p0) (fun g0=>Option.bind (am (bM_l1 n c0) n k0) (g0))) (fun d0=>Option.bind (am (bM_l2 n c0) n a0) (d0))))) (fun b0=>(if a1.size = 1 then (a1.data[0]?).bind fun v0=>b0 (decide (v0.toNat < 128)) else b0 false)))) (fun J6=>(if a0 = ⟨#[]⟩ then J6 true else J6 (decide (a1 = ⟨#[]⟩))))
theorem bM_c (n:Nat) {L w} (hL:hl L w) {a0:ByteArray} {a1:ByteArray}  {r:ByteArray} (h:bM_p n a0 a1 = some r) :
 Cl 193 #[.string a0,.string a1] w (ah w fun _ u=>u = .string r):=by
 unfold bM_p at h
 have hS0:=Az w
 refine AG func193 rfl rfl rfl fun _ cs0 hb0=>Ac<|Af rfl<|Aa<|Ai<|Ai<|MX.jo (α:=Bool) (fun q2=>[(0,.string a0),(1,.string a1),(12,.bool q2)]) (fun q2=>[]) (fun q2=>q2) hS0 h ?_ ?_
 rintro q2 wx2 hS3 hT4 h
 try dsimp only at h
 refine MX.ifb rfl h (fun c8 h=>?_) (fun c8 h=>?_)
 refine Ac<|Ae rfl<|Af rfl<|Aa<|Al rfl<|AY hb0 func193 rfl rfl ?_
 cases h
 exact hS3.gv
 refine Ar<|Ai<|Ai<|MX.jo (α:=Bool) (fun x0=>[(0,.string a0),(1,.string a1),(21,.bool x0)]) (fun x0=>[]) (fun x0=>x0) hS3 h ?_ ?_
 rintro x0 V3 y0 p3 h
 try dsimp only at h
 refine MX.ifb rfl h (fun c1 h=>?_) (fun c1 h=>?_)
 refine Ai<|du 8 fun j0 p0=>Rv 0 j0 rfl p0 (fun _=>Ak rfl)<|Rv 1 j0 rfl p0 (fun _=>Ak rfl)<|bk h fun H2 t2 h=>Rv 2 j0 rfl p0 (fun _=>FV.strAt (k:=0) underlying9 rfl rfl rfl t2)<|bk h fun F2 p2 h=>BG 3 15 192 (.string F2) j0 rfl p0 (bd 209) rfl (e2 rfl rfl) (fun w9 hw9=>bQ_c n (y0.hL0 hL hw9) H2 p2) rfl<|Rv 4 j0 rfl p0 (fun _=>Ak rfl)<|bk h fun I2 u2 h=>Rv 5 j0 rfl p0 (fun _=>FV.strAt (k:=0) underlying9 rfl rfl rfl u2)<|bk h fun G2 s2 h=>BG 6 127 128 (.string G2) j0 rfl p0 (bd 208) rfl (e2 rfl rfl) (fun w9 hw9=>bY_c n (y0.hL0 hL hw9) I2 s2) rfl<|Rv 7 j0 rfl p0 (fun _=>Bh rfl)<|AM (dk j0)<|Al rfl<|AY hb0 func193 rfl rfl ?_
 cases h
 exact y0.gv
 refine Ar<|Ai<|Ac<|Ae rfl<|By (fst:=[]) (cap:=[]) (vs:=[.string a1]) .plain (bd 210) func210 rfl rfl rfl rfl (e1 rfl) rfl fun Z2 U0 B3=>Ac ?_
 have U1:(List.replicate 256 false).length = 256:=List.length_replicate
 refine RG.nl ((List.replicate 256 false).map (fun z9:Bool=>(.bool z9:Value))) y0 fun P3 B0 D1 t3=>Af rfl<|Aa<|Ai<|Ac<|Af rfl<|Aa<|AA<|tn h fun G3 Y1 X0=>MX.lf (α:=Int × (List Bool)) (fun ⟨k0,b0⟩=>[(0,.string a1),(2,vP B0),(4,vI k0)]) (fun ⟨k0,b0⟩=>[.cells B0 (b0.map (fun z9:Bool=>(.bool z9:Value))) 260]) (fun ⟨k0,b0⟩ E2=>b0.length = 256) (fun ⟨k0,b0⟩=>(k0,b0)) (0,(List.replicate 256 false)) Y1 D1 U1 ?_
 rintro V2 ⟨k0,b0⟩ E2 y1 t0 G1 c0 h
 unfold bM_l3 at h
 try dsimp only at h
 refine Ai<|Ac<|Ae rfl<|Ae rfl<|Ab (BX underlying9 rfl)<|Ab (BK (i:=k0) (j:=((a1.size:Nat):Int)) rfl rfl)<|Aa<|AT rfl h (fun s1 h=>?_) (fun s1 h=>?_)
 refine Ar<|Ai<|AA<|Ac<|Ae rfl<|Ae rfl<|bk h fun v0 z2 h=>?_
 obtain ⟨P1,k2⟩:=gj z2
 refine Ab (FV.strAt (k:=k0.toNat) underlying9 rfl rfl P1 k2)<|Af rfl<|Aa<|Ai<|Ac<|Ae rfl<|Ab (FV.geqN (i:=v0.toNat) (j:=128) rfl rfl)<|Aa<|AT rfl h (fun u1 h=>?_) (fun u1 h=>?_)
 refine Ac<|Ab (AW (cs:=b0.map (fun z9:Bool=>(.bool z9:Value))) (by rw [List.length_map,c0]; kernel_rfl) rfl (t0.memA .hd))<|BU .plain (Acts.storeBig (fun z9:Bool=>(.bool z9:Value)) (m:=256) c0 c0 t0 .hd rfl rfl rfl (fun _=>rfl)) fun Q3 Q0 u3=>Af rfl<|Aa ?_
 have h:=lA h X0
 refine Al rfl<|Ap (u:=.tuple #[.agg (b0.map (fun z9:Bool=>(.bool z9:Value))).toArray,.bool false]) U0 func210 rfl (.cons (.many (cs:=b0.map (fun z9:Bool=>(.bool z9:Value))) (by rw [List.length_map,c0]; kernel_rfl) rfl (Q0.memA .hd)) (.cons (.tmp rfl) .nil)) rfl<|Ae rfl<|Ab (Ah rfl rfl)<|Ab (Ah rfl rfl) ?_
 have V1:(List.replicate 256 false).length = 256:=List.length_replicate
 refine RG.nl ((List.replicate 256 false).map (fun z9:Bool=>(.bool z9:Value))) Q0 fun R3 W2 E1 v3=>BU .plain (Acts.storeBig (fun z9:Bool=>(.bool z9:Value)) (m:=256) V1 c0 E1 .hd rfl rfl rfl (fun _=>rfl)) fun U3 d3 x3=>Af rfl<|Aa<|Ac<|Ae rfl<|Aa<|BI rfl<|Ar<|Ac<|Ae rfl<|Ae rfl ?_
 cases h
 refine Ar<|Ao<|Ae rfl<|bk h fun b4 E0 h=>?_
 have y3:=aQ (p:=⟨B0,0,none⟩) (cs:=b0.map (fun z9:Bool=>(.bool z9:Value))) (i:=v0.toNat) (t0.memA .hd) (dY (fun z9:Bool=>(.bool z9:Value)) E0)
 refine Ab (Bc (m:=1) (k:=v0.toNat) (len:=256) rfl rfl rfl rfl (bb E0 c0)) ?_
 have Q1:(b0.set v0.toNat true).length = 256:=by rw [List.length_set]; exact c0
 refine BU .plain (Acts.setBig (fun z9:Bool=>(.bool z9:Value)) (i:=v0.toNat) (x:=true) (m:=256) c0 (bb E0 c0) t0 .hd rfl (gm _ _ _) rfl rfl (fun _=>⟨rfl,rfl⟩)) fun I3 z1 F1=>Aa<|AC<|Ao<|Ae rfl<|bk h fun A2 Z1 h=>Ab (BE (i:=k0) (j:=1) rfl rfl Z1)<|Af rfl<|Aa<|y1 (A2,(b0.set v0.toNat true)) z1 (Tt G1 F1) Q1 h
 refine Be rfl ?_
 have h:=aF h X0
 try dsimp only at h
 refine Ac<|Ab (AW (cs:=b0.map (fun z9:Bool=>(.bool z9:Value))) (by rw [List.length_map,c0]; kernel_rfl) rfl (t0.memA .hd))<|BU .plain (Acts.storeBig (fun z9:Bool=>(.bool z9:Value)) (m:=256) c0 c0 t0 .hd rfl rfl rfl (fun _=>rfl)) fun J3 K0 g3=>Af rfl<|Aa<|Al rfl<|Ap (u:=.tuple #[.agg (b0.map (fun z9:Bool=>(.bool z9:Value))).toArray,.bool true]) U0 func210 rfl (.cons (.many (cs:=b0.map (fun z9:Bool=>(.bool z9:Value))) (by rw [List.length_map,c0]; kernel_rfl) rfl (K0.memA .hd)) (.cons (.tmp rfl) .nil)) rfl<|Ae rfl<|Ab (Ah rfl rfl)<|Ab (Ah rfl rfl) ?_
 have R1:(List.replicate 256 false).length = 256:=List.length_replicate
 refine RG.nl ((List.replicate 256 false).map (fun z9:Bool=>(.bool z9:Value))) K0 fun K3 d0 A1 j3=>BU .plain (Acts.storeBig (fun z9:Bool=>(.bool z9:Value)) (m:=256) R1 c0 A1 .hd rfl rfl rfl (fun _=>rfl)) fun M3 M0 k3=>Af rfl<|Aa<|Ac<|Ae rfl<|Aa<|Bb rfl<|Ac<|Ae rfl<|By (fst:=[]) (cap:=[]) (vs:=[.string a0,vP d0]) .plain (bd 212) func212 rfl rfl rfl rfl (e2 rfl rfl) rfl fun X2 H1 z3=>Ac<|Af rfl<|Aa<|Ai<|AA<|MX.xo (α:=ByteArray) 0 (fun q0=>[(0,.string q0)]) (fun q0=>[.cells d0 (b0.map (fun z9:Bool=>(.bool z9:Value))) 260]) (fun q0=>q0) M0 rfl h ?_ ?_
 rintro q0 W3 P0 q3 h
 try dsimp only at h
 refine Ac<|Ae rfl<|Af rfl<|Aa<|Al rfl<|Ap (u:=.string q0) H1 func212 rfl (.cons (.tmp rfl) .nil) rfl<|By (fst:=[]) (cap:=[]) (vs:=[.string q0,vP d0]) .plain (bd 211) func211 rfl rfl rfl rfl (e2 rfl rfl) rfl fun Y2 I1 A3=>Ac<|Af rfl<|Aa<|Ai<|AA<|MX.xo (α:=ByteArray) 0 (fun u0=>[(0,.string u0)]) (fun u0=>[.cells d0 (b0.map (fun z9:Bool=>(.bool z9:Value))) 260]) (fun u0=>u0) P0 rfl h ?_ ?_
 rintro u0 X3 B1 s3 h
 try dsimp only at h
 refine Ac<|Ae rfl<|Af rfl<|Aa<|Al rfl<|Ap (u:=.string u0) I1 func211 rfl (.cons (.tmp rfl) .nil) rfl<|Af rfl<|Aa<|Al rfl<|AY hb0 func193 rfl rfl ?_
 cases h
 exact B1.gv
 intro Q2 J0 h
 try dsimp only at h
 obtain ⟨E3,W1,V0⟩:=aq h
 refine MX.lo (α:=ByteArray) (fun s0=>[(0,.string s0),(1,vP d0)]) (fun s0=>[.cells d0 (b0.map (fun z9:Bool=>(.bool z9:Value))) 260]) (fun s0=>s0) q0 W1 P0 ?_
 rintro R2 s0 Y3 v1 z0 C0 h
 unfold bM_l1 at h
 try dsimp only at h
 refine Ai<|Ac<|Ae rfl<|Ab (BX underlying9 rfl)<|Ab (FV.gtrN (i:=s0.size) (j:=0) rfl rfl)<|Aa<|AT rfl h (fun d1 h=>?_) (fun d1 h=>?_)
 refine Ar<|AA<|Ai<|Ac<|Ae rfl<|Ae rfl<|bk h fun F0 v2 h=>Ab (FV.strAt (k:=0) underlying9 rfl rfl rfl v2)<|By (fst:=[]) (cap:=[]) (vs:=[vP d0,.int .u8 (F0.toNat:Int)]) .plain (bd 219) func219 rfl rfl rfl rfl (e2 rfl rfl) rfl fun b3 J1 C3=>Ac<|Af rfl<|Aa<|Ac<|Ae rfl<|Ae rfl<|Ab (FV.nilCheck rfl)<|bk h fun J2 Y0 h=>Ab (Bc (m:=1) (k:=F0.toNat) (len:=256) rfl rfl rfl rfl (bb Y0 c0))<|AR rfl ((aQ (p:=⟨d0,0,none⟩) (cs:=b0.map (fun z9:Bool=>(.bool z9:Value))) (i:=F0.toNat) (z0.memA .hd) (dY (fun z9:Bool=>(.bool z9:Value)) Y0)) 0 _ rfl)<|Af rfl<|Aa<|Al rfl<|Ap (u:=.bool J2) J1 func219 rfl (.cons (.tmp rfl) .nil) rfl<|Ab (Bp rfl)<|Aa<|BW rfl h (fun g1 h=>?_) (fun g1 h=>?_)
 refine Ar<|Ao<|Ae rfl<|bk h fun B2 b2 h=>Ab (FV.strCut b2 underlying9 rfl ⟨_,rfl⟩ rfl)<|Af rfl<|Aa<|AC<|v1 B2 z0 C0 h
 refine Be rfl ?_
 have h:=V0 _ h
 try dsimp only at h
 exact J0 s0 z0 C0 h
 refine Be rfl ?_
 have h:=V0 _ h
 try dsimp only at h
 exact J0 s0 z0 C0 h
 intro P2 I0 h
 try dsimp only at h
 obtain ⟨C1,R0⟩:=AI M0 (.a0 .done)
 obtain ⟨F3,X1,W0⟩:=aq h
 refine MX.lo (α:=ByteArray) (fun g0=>[(0,.string g0),(1,vP d0)]) (fun g0=>[.cells d0 (b0.map (fun z9:Bool=>(.bool z9:Value))) 260]) (fun g0=>g0) a0 X1 C1 ?_
 rintro U2 g0 Z3 x1 A0 D0 h
 unfold bM_l2 at h
 try dsimp only at h
 refine Ai<|Ac<|Ae rfl<|Ab (BX underlying9 rfl)<|Ab (FV.gtrN (i:=g0.size) (j:=0) rfl rfl)<|Aa<|AT rfl h (fun j1 h=>?_) (fun j1 h=>?_)
 refine Ar<|AA<|Ai<|Ac<|Ae rfl<|Ae rfl<|Ae rfl<|Ab (BX underlying9 rfl)<|bk h fun C2 c2 h=>Ab (FV.subc (i:=((g0.size:Nat):Int)) (j:=1) rfl rfl c2)<|bk h fun G0 x2 h=>?_
 obtain ⟨M1,j2⟩:=gj x2
 refine Ab (FV.strAt (k:=C2.toNat) underlying9 rfl rfl M1 j2)<|By (fst:=[]) (cap:=[]) (vs:=[vP d0,.int .u8 (G0.toNat:Int)]) .plain (bd 219) func219 rfl rfl rfl rfl (e2 rfl rfl) rfl fun c3 K1 D3=>Ac<|Af rfl<|Aa<|Ac<|Ae rfl<|Ae rfl<|Ab (FV.nilCheck rfl)<|bk h fun K2 Z0 h=>Ab (Bc (m:=1) (k:=G0.toNat) (len:=256) rfl rfl rfl rfl (bb Z0 c0))<|AR rfl ((aQ (p:=⟨d0,0,none⟩) (cs:=b0.map (fun z9:Bool=>(.bool z9:Value))) (i:=G0.toNat) (A0.memA .hd) (dY (fun z9:Bool=>(.bool z9:Value)) Z0)) 0 _ rfl)<|Af rfl<|Aa<|Al rfl<|Ap (u:=.bool K2) K1 func219 rfl (.cons (.tmp rfl) .nil) rfl<|Ab (Bp rfl)<|Aa<|BW rfl h (fun k1 h=>?_) (fun k1 h=>?_)
 refine Ar<|Ao<|Ae rfl<|Ae rfl<|Ab (BX underlying9 rfl)<|bk h fun H3 d2 h=>Ab (FV.subc (i:=((g0.size:Nat):Int)) (j:=1) rfl rfl d2)<|bk h fun D2 g2 h=>Ab (FV.strCut g2 underlying9 rfl rfl ⟨_,rfl⟩)<|Af rfl<|Aa<|AC<|x1 D2 A0 D0 h
 refine Be rfl ?_
 have h:=W0 _ h
 try dsimp only at h
 exact I0 g0 A0 (Tt R0 D0) h
 refine Be rfl ?_
 have h:=W0 _ h
 try dsimp only at h
 exact I0 g0 A0 (Tt R0 D0) h
 intro M2 H0 h
 try dsimp only at h
 refine Ao<|Ae rfl<|Ab (BX underlying9 rfl)<|Ab (BM (i:=a1.size) (j:=1) rfl rfl)<|Ae rfl<|BA (s:=17) rfl h (fun p1 h=>?_) (fun p1 h=>?_)
 refine AH (Ak rfl)<|bk h fun b1 y2 h=>AH (FV.strAt (k:=0) underlying9 rfl rfl rfl y2)<|AH (Bq (i:=b1.toNat) (j:=128) rfl rfl)<|Bm rfl rfl<|Aa<|H0 (decide (b1.toNat < 128)) hS3 (Bw _ _) h
 refine Au<|Au<|Au<|Bv rfl rfl<|Aa<|H0 false hS3 (Bw _ _) h
 intro J6 hJ7 h
 try dsimp only at h
 refine Ao<|Ae rfl<|Ab (FV.eqlS rfl rfl)<|Ae rfl<|BA (s:=9) rfl h (fun q1 h=>?_) (fun q1 h=>?_)
 refine Au<|Au<|Bm rfl rfl<|Aa<|hJ7 true hS0 (Bw _ _) h
 refine AH (Ak rfl)<|AH (FV.eqlS rfl rfl)<|Bv rfl rfl<|Aa<|hJ7 (decide (a1 = ⟨#[]⟩)) hS0 (Bw _ _) h
def dC_p (_n:Nat) (a0:Int) (a1:Int):Option Bool:=
  (if a0 < 0 then some true else some (decide (a1 < a0)))
theorem dC_c (n:Nat) {L w} (_hL:hl L w) {a0:Int} {a1:Int} {p1:Nat} (m1:∀ j9 v9,([vI a1]:List Value)[j9]? = some v9 -> w.cell? ((⟨p1,0,none⟩:Addr).add j9) = some v9)  {r:Bool} (h:dC_p n a0 a1 = some r) :
 Cl 216 #[vI a0,.pointer (some ⟨p1,0,none⟩)] w (ah w fun _ u=>u = .bool r):=by
 unfold dC_p at h
 have hS0:=Az w
 refine AG func216 rfl rfl rfl fun _ cs0 hb0=>Ac<|Af rfl<|Aa<|Ac<|Ae rfl<|Ab (BK (i:=a0) (j:=0) rfl rfl)<|Ae rfl<|BA (s:=6) rfl h (fun c1 h=>?_) (fun c1 h=>?_)
 refine Au<|Au<|Au<|Bm rfl rfl<|Af rfl<|Aa<|Al rfl<|AY hb0 func216 rfl rfl ?_
 cases h
 exact hS0.gv
 refine AH (Ak rfl)<|AH (AL rfl ((fun j9 v9 h9=>hS0.ag.cell0 (m1 j9 v9 h9)) 0 _ rfl))<|AH (FV.gtr (i:=a0) (j:=a1) rfl rfl)<|Bv rfl rfl<|Af rfl<|Aa<|Al rfl<|AY hb0 func216 rfl rfl ?_
 cases h
 exact hS0.gv
def bC_l1 (n:Nat) (a0:List Int) (a2:Int) (c0:Nat -> Option (Bool ⊕ Unit)):Nat -> Option (Bool ⊕ Unit)
  | b0=>(if b0 < a0.length then (a0[b0]?).bind fun d0=>(dC_p n d0 a2).bind fun g0=>(if g0 = true then some (.inl (!(decide (0 <= b0)))) else c0 (b0 + 1)) else some (.inr ()))
def bC_p (n:Nat) (a0:List Int) (a1:Int) (a2:Int):Option Bool:=
  (if ((a0.length:Nat):Int) = a1 then thn (am (bC_l1 n a0 a2) n 0) (fun _=>some (!(decide (0 <= (-1))))) else some false)
theorem bC_c (n:Nat) {L w} (hL:hl L w) {a0:List Int} {v0_0:Value} (h0_0:Rep.R w L [v0_0] a0) {a1:Int} {a2:Int}  {r:Bool} (h:bC_p n a0 a1 a2 = some r) :
 Cl 194 #[v0_0,vI a1,vI a2] w (ah w fun _ u=>u = .bool r):=by
 unfold bC_p at h
 refine AG func194 rfl rfl rfl fun _ cs0 hb0=>Ac<|RG.bx (Az w) rfl rfl fun Y0 c0 g0 R0=>Af rfl<|Aa<|Ac<|Ae rfl ?_
 have j0:=AS h0_0 g0
 have U0:a0.length <= 281474976710656:=Ba j0
 refine Ab (Bg (xs:=a0) underlying40 rfl j0)<|Ae rfl<|Ab (FV.eql (i:=((a0.length:Nat):Int)) (j:=a1) rfl rfl)<|Ae rfl<|BA (s:=11) rfl h (fun s0 h=>?_) (fun s0 h=>?_)
 refine AH (Ak rfl)<|AH (BP (vs:=[]) (us:=[vP c0]) aj (e1 rfl))<|By (fst:=[]) (cap:=[]) (vs:=[v0_0,.func (.func 216) #[] #[vP c0]]) (.yes rfl rfl) (bd 215) func215 rfl rfl rfl rfl (e2 rfl rfl) rfl fun P0 k0 V0=>Ac<|Af rfl<|Aa<|Ac<|Ae rfl<|Ae rfl<|By (fst:=[]) (cap:=[]) (vs:=[v0_0,.func (.func 216) #[] #[vP c0]]) .plain (bd 223) func223 rfl rfl rfl rfl (e2 rfl rfl) rfl fun Q0 p0 W0=>Ac<|Af rfl<|Aa<|Ai<|Ac<|Ae rfl<|Ab (Bg (xs:=a0) underlying40 rfl j0)<|Ae rfl<|Aa<|AA<|tn h fun X0 D0 q0=>MX.lo (α:=Nat) (fun b0=>[(0,v0_0),(1,.func (.func 216) #[] #[vP c0]),(7,vI ((a0.length:Nat):Int)),(8,vI ((b0:Nat):Int))]) (fun b0=>[.cells c0 [vI a2] 3]) (fun b0=>b0) 0 D0 g0 ?_
 rintro K0 b0 Z0 x0 d0 y0 h
 unfold bC_l1 at h
 try dsimp only at h
 refine Ac<|Ab (Bq (i:=b0) (j:=a0.length) rfl rfl)<|Aa<|Ai<|AT rfl h (fun t0 h=>?_) (fun t0 h=>?_)
 refine Ar<|Ai<|AA<|Ac<|Ae rfl<|Af rfl<|Aa<|Ac<|Ae rfl<|Ae rfl<|Ae rfl<|bk h fun H0 F0 h=>?_
 obtain ⟨J0,M0,z0,B0,v0,E0,C0⟩:=Bk (AS h0_0 d0) F0
 have A0:v0 = [vI H0]:=E0; subst A0
 refine Ab (Bj 1 b0 rfl z0 rfl rfl B0)<|AR rfl (C0 0 _ rfl)<|bk h fun I0 G0 h=>RG.callq' (v:=.bool I0) (fst:=[]) (cap:=[vP c0]) .plain (bd 216) rfl (e1 rfl) (fun w9 hw9=>dC_c n (d0.hL0 hL hw9) (ao hw9 (d0.memA .hd)) G0) rfl<|Aa<|MX.ifb rfl h (fun u0 h=>?_) (fun u0 h=>?_)
 refine Ac<|Ae rfl<|Af rfl<|Aa ?_
 have h:=au h q0
 refine Al rfl<|Ap (u:=vI ((b0:Nat):Int)) p0 func223 rfl (.cons (.tmp rfl) .nil) rfl<|Ab (FV.geqN (i:=b0) (j:=0) rfl rfl)<|Af rfl<|Aa<|Al rfl<|Ap (u:=.bool (decide (0 <= b0))) k0 func215 rfl (.cons (.tmp rfl) .nil) rfl<|AH (Bp rfl)<|Bm rfl rfl<|Af rfl<|Aa<|Al rfl<|AY hb0 func194 rfl rfl ?_
 cases h
 exact d0.gv
 refine Ar<|AC<|Ao<|Ab (Bn (i:=b0) (j:=1) rfl rfl (by omega))<|Ae rfl<|Aa<|x0 (b0 + 1) d0 y0 h
 refine Be rfl ?_
 have h:=aF h q0
 try dsimp only at h
 refine Ac<|Af rfl<|Aa<|Al rfl<|Ap (u:=vI (-1)) p0 func223 rfl (.cons (.tmp rfl) .nil) rfl<|Ab (FV.geq (i:=(-1)) (j:=0) rfl rfl)<|Af rfl<|Aa<|Al rfl<|Ap (u:=.bool (decide (0 <= (-1)))) k0 func215 rfl (.cons (.tmp rfl) .nil) rfl<|AH (Bp rfl)<|Bm rfl rfl<|Af rfl<|Aa<|Al rfl<|AY hb0 func194 rfl rfl ?_
 cases h
 exact d0.gv
 refine Au<|Au<|Au<|Au<|Bv rfl rfl<|Af rfl<|Aa<|Al rfl<|AY hb0 func194 rfl rfl ?_
 cases h
 exact g0.gv
structure Tb where
  fC:ByteArray
  fA:Int
  fj:List Int
  fJ:List Int
  fG:List Int
  fv:Bool
  deriving DecidableEq
instance:Rep Tb:=Rep.via (β:=ByteArray × Int × (List Int) × (List Int) × (List Int) × Bool) fun x=>(x.fC,x.fA,x.fj,x.fJ,x.fG,x.fv)
structure Td where
  fj:Int
  fh:Int
  fl:Int
  fu:List Tb
  deriving DecidableEq
instance:Rep Td:=Rep.via (β:=Int × Int × Int × (List Tb)) fun x=>(x.fj,x.fh,x.fl,x.fu)
theorem hH:ElT Tryz.prog 242 4 (Rep.size Bool) 1 (.bool false) [.bool false]:=⟨underlying242,by kernel_rfl,rfl,rfl,rfl,rfl⟩
def dF_p (n:Nat) (a0:Td) (a1:Tb):Option Bool:=
  jn (fun (c0,d0)=>(bM_p n a1.fC ⟨#[65,66,67,68,69,70,71,72,73,74,75,76,77,78,79,80,81,82,83,84,85,86,87,88,89,90,97,98,99,100,101,102,103,104,105,106,107,108,109,110,111,112,113,114,115,116,117,118,119,120,121,122,48,49,50,51,52,53,54,55,56,57,45,95]⟩).bind fun g0=>(bC_p n a1.fj a0.fj a1.fA).bind fun j0=>(bC_p n a1.fJ a0.fh ((c0:Nat):Int)).bind fun k0=>(bC_p n a1.fG a0.fl ((d0:Nat):Int)).bind fun p0=>(bD_p n ([(!(decide (a1.fC = ⟨#[]⟩))),(decide (a1.fC.size <= 12)),(decide (g0 = ⟨#[]⟩)),(decide (0 <= a1.fA)),(decide (a1.fA <= ((c0:Nat):Int))),j0,k0,p0]:List Bool)).bind fun q0=>some q0) (fun b0=>(if a1.fv = true then b0 (0,0) else b0 (1000000000,63)))
theorem dF_c (n:Nat) {L w} (hL:hl L w) (a0:Td) {v0_3:Value} (_h0_3:Rep.R w L [v0_3] a0.fu) (a1:Tb) {v1_2:Value} (h1_2:Rep.R w L [v1_2] a1.fj) {v1_3:Value} (h1_3:Rep.R w L [v1_3] a1.fJ) {v1_4:Value} (h1_4:Rep.R w L [v1_4] a1.fG)  {r:Bool} (h:dF_p n a0 a1 = some r) :
 Cl 157 #[.agg #[vI a0.fj,vI a0.fh,vI a0.fl,v0_3],.agg #[.string a1.fC,vI a1.fA,v1_2,v1_3,v1_4,.bool a1.fv]] w (ah w fun _ u=>u = .bool r):=by
 unfold dF_p at h
 refine AG func157 rfl rfl rfl fun _ cs0 hb0=>Ac<|RG.bx (Az w) rfl rfl fun R0 x0 B0 K0=>RG.bx B0 rfl rfl fun U0 y0 u0 M0=>Af rfl<|Aa<|Ac<|Af rfl<|Af rfl<|Aa<|Ai<|Ac<|AX 5 rfl<|AR rfl ((u0.memA .hd) 5 _ rfl)<|Aa<|MX.jo (α:=Nat × Nat) (fun ⟨g0,t0⟩=>[(2,vP x0),(3,vP y0),(5,vI ((g0:Nat):Int)),(6,vI ((t0:Nat):Int))]) (fun ⟨g0,t0⟩=>[.cells y0 [.string a1.fC,vI a1.fA,v1_2,v1_3,v1_4,.bool a1.fv] 69,.cells x0 [vI a0.fj,vI a0.fh,vI a0.fl,v0_3] 46]) (fun ⟨g0,t0⟩=>(g0,t0)) u0 h ?_ ?_
 rintro ⟨g0,t0⟩ W0 d0 P0 h
 try dsimp only at h
 refine Ai<|du 40 fun b0 c0=>Rv 0 b0 rfl c0 (fun _=>AU 0 rfl)<|Rx 1 962072674308 b0 rfl c0 (AL rfl ((d0.memA .hd) 0 _ rfl))<|Rv 2 b0 rfl c0 (fun _=>FV.neqS rfl rfl)<|Rv 3 b0 rfl c0 (fun _=>AU 0 rfl)<|Rx 4 962072674400 b0 rfl c0 (AL rfl ((d0.memA .hd) 0 _ rfl))<|Rx 5 962072674368 b0 rfl c0 (BX underlying9 rfl)<|Rv 6 b0 rfl c0 (fun _=>FV.leqN (i:=a1.fC.size) (j:=12) rfl rfl)<|Rv 7 b0 rfl c0 (fun _=>AU 0 rfl)<|Rx 8 1031882671616 b0 rfl c0 (AL rfl ((d0.memA .hd) 0 _ rfl))<|bk h fun s0 C0 h=>BG 9 1023 1031882671104 (.string s0) b0 rfl c0 (bd 193) rfl (e2 rfl rfl) (fun w9 hw9=>bM_c n (d0.hL0 hL hw9)  C0) rfl<|Rv 10 b0 rfl c0 (fun _=>FV.eqlS rfl rfl)<|Rv 11 b0 rfl c0 (fun _=>AU 1 rfl)<|Rx 12 962072682496 b0 rfl c0 (AL rfl ((d0.memA .hd) 1 _ rfl))<|Rv 13 b0 rfl c0 (fun _=>FV.geq (i:=a1.fA) (j:=0) rfl rfl)<|Rv 14 b0 rfl c0 (fun _=>AU 1 rfl)<|Rx 15 962072805376 b0 rfl c0 (AL rfl ((d0.memA .hd) 1 _ rfl))<|Rv 16 b0 rfl c0 (fun _=>Ak rfl)<|Rv 17 b0 rfl c0 (fun _=>FV.leq (i:=a1.fA) (j:=((g0:Nat):Int)) rfl rfl)<|Rv 18 b0 rfl c0 (fun _=>AU 2 rfl)<|Rx 19 1031882670080 b0 rfl c0 (AL rfl ((d0.memA .hd) 2 _ rfl))<|Rv 20 b0 rfl c0 (fun _=>AU 0 rfl)<|Rx 21 1031882670080 b0 rfl c0 (AL rfl ((d0.memA .t1) 0 _ rfl))<|Rv 22 b0 rfl c0 (fun _=>AU 1 rfl)<|Rx 23 1031882670080 b0 rfl c0 (AL rfl ((d0.memA .hd) 1 _ rfl))<|bk h fun q0 D0 h=>BG 24 33554431 1031865892864 (.bool q0) b0 rfl c0 (bd 194) rfl (e3 rfl rfl rfl) (fun w9 hw9=>bC_c n (d0.hL0 hL hw9) (d0.k0 h1_2 hw9) D0) rfl<|Rv 25 b0 rfl c0 (fun _=>AU 3 rfl)<|Rx 26 1031865892864 b0 rfl c0 (AL rfl ((d0.memA .hd) 3 _ rfl))<|Rv 27 b0 rfl c0 (fun _=>AU 1 rfl)<|Rx 28 1031865892864 b0 rfl c0 (AL rfl ((d0.memA .t1) 1 _ rfl))<|Rv 29 b0 rfl c0 (fun _=>Ak rfl)<|bk h fun p0 E0 h=>BG 30 2147483647 1030792151040 (.bool p0) b0 rfl c0 (bd 194) rfl (e3 rfl rfl rfl) (fun w9 hw9=>bC_c n (d0.hL0 hL hw9) (d0.k0 h1_3 hw9) E0) rfl<|Rv 31 b0 rfl c0 (fun _=>AU 4 rfl)<|Rx 32 1030792151040 b0 rfl c0 (AL rfl ((d0.memA .hd) 4 _ rfl))<|Rv 33 b0 rfl c0 (fun _=>AU 2 rfl)<|Rx 34 1030792151040 b0 rfl c0 (AL rfl ((d0.memA .t1) 2 _ rfl))<|Rv 35 b0 rfl c0 (fun _=>Ak rfl)<|bk h fun j0 F0 h=>BG 36 137438953471 962072674304 (.bool j0) b0 rfl c0 (bd 194) rfl (e3 rfl rfl rfl) (fun w9 hw9=>bC_c n (d0.hL0 hL hw9) (d0.k0 h1_4 hw9) F0) rfl<|BV 37 274877906943 b0 rfl .plain rfl (AN (α:=Bool) (xs:=([(!(decide (a1.fC = ⟨#[]⟩))),(decide (a1.fC.size <= 12)),(decide (s0 = ⟨#[]⟩)),(decide (0 <= a1.fA)),(decide (a1.fA <= ((g0:Nat):Int))),q0,p0,j0]:List Bool)) (vs:=[.bool (!(decide (a1.fC = ⟨#[]⟩))),.bool (decide (a1.fC.size <= 12)),.bool (decide (s0 = ⟨#[]⟩)),.bool (decide (0 <= a1.fA)),.bool (decide (a1.fA <= ((g0:Nat):Int))),.bool q0,.bool p0,.bool j0]) (ds' :=[.bool (!(decide (a1.fC = ⟨#[]⟩))),.bool (decide (a1.fC.size <= 12)),.bool (decide (s0 = ⟨#[]⟩)),.bool (decide (0 <= a1.fA)),.bool (decide (a1.fA <= ((g0:Nat):Int))),.bool q0,.bool p0,.bool j0]) rfl d0 hH rfl (e8 rfl rfl rfl rfl rfl rfl rfl rfl) (by kernel_rfl) rfl) fun V0 J0 v0 Q0=>?_
 refine bk h fun H0 G0 h=>BG 38 549755813887 549755813888 (.bool H0) b0 rfl c0 (bd 156) rfl (e1 rfl) (fun w9 hw9=>bD_c n (v0.hL0 hL hw9) (Aq (St.lend (α:=Bool) (L:=L) v0 .hd (AE (cs:=[.bool (!(decide (a1.fC = ⟨#[]⟩))),.bool (decide (a1.fC.size <= 12)),.bool (decide (s0 = ⟨#[]⟩)),.bool (decide (0 <= a1.fA)),.bool (decide (a1.fA <= ((g0:Nat):Int))),.bool q0,.bool p0,.bool j0]) (xs:=(([(!(decide (a1.fC = ⟨#[]⟩))),(decide (a1.fC.size <= 12)),(decide (s0 = ⟨#[]⟩)),(decide (0 <= a1.fA)),(decide (a1.fA <= ((g0:Nat):Int))),q0,p0,j0]:List Bool):List Bool)) v0 L (Aw (cs:=[.bool (!(decide (a1.fC = ⟨#[]⟩)))]) (ds:=[.bool (decide (a1.fC.size <= 12)),.bool (decide (s0 = ⟨#[]⟩)),.bool (decide (0 <= a1.fA)),.bool (decide (a1.fA <= ((g0:Nat):Int))),.bool q0,.bool p0,.bool j0]) rfl (Aw (cs:=[.bool (decide (a1.fC.size <= 12))]) (ds:=[.bool (decide (s0 = ⟨#[]⟩)),.bool (decide (0 <= a1.fA)),.bool (decide (a1.fA <= ((g0:Nat):Int))),.bool q0,.bool p0,.bool j0]) rfl (Aw (cs:=[.bool (decide (s0 = ⟨#[]⟩))]) (ds:=[.bool (decide (0 <= a1.fA)),.bool (decide (a1.fA <= ((g0:Nat):Int))),.bool q0,.bool p0,.bool j0]) rfl (Aw (cs:=[.bool (decide (0 <= a1.fA))]) (ds:=[.bool (decide (a1.fA <= ((g0:Nat):Int))),.bool q0,.bool p0,.bool j0]) rfl (Aw (cs:=[.bool (decide (a1.fA <= ((g0:Nat):Int)))]) (ds:=[.bool q0,.bool p0,.bool j0]) rfl (Aw (cs:=[.bool q0]) (ds:=[.bool p0,.bool j0]) rfl (Aw (cs:=[.bool p0]) (ds:=[.bool j0]) rfl (Aw (cs:=[.bool j0]) (ds:=[]) rfl (AK _ _)))))))))) hL) hw9) G0) rfl<|Rv 39 b0 rfl c0 (fun _=>Bh rfl)<|AM (dk b0)<|Al rfl<|AY hb0 func157 rfl rfl ?_
 cases h
 exact v0.gv
 intro I0 z0 h
 try dsimp only at h
 refine MX.ifb rfl h (fun A0 h=>?_) (fun A0 h=>?_)
 refine Ao<|Af rfl<|Af rfl<|Aa<|z0 (0,0) u0 (Bw _ _) h
 refine Ar<|z0 (1000000000,63) u0 (Bw _ _) h
theorem ba {w:World} {L:List Nat} {cs:List Value} {x:Tb} (h:Rep.R w L cs x):∃ v2 v3 v4:Value,cs = [.string x.fC,vI x.fA,v2,v3,v4,.bool x.fv]/\Rep.R w L [v2] x.fj/\Rep.R w L [v3] x.fJ/\Rep.R w L [v4] x.fG:=by
  obtain ⟨c0,r0,rfl,h0,h⟩:=h
  have e0:c0 = [.string x.fC]:=h0; subst e0
  obtain ⟨c1,r1,rfl,h1,h⟩:=h
  have e1:c1 = [vI x.fA]:=h1; subst e1
  obtain ⟨c2,r2,rfl,h2,h⟩:=h
  obtain ⟨v2,rfl,kv2⟩:=bZ (xs:=x.fj) h2
  obtain ⟨c3,r3,rfl,h3,h⟩:=h
  obtain ⟨v3,rfl,kv3⟩:=bZ (xs:=x.fJ) h3
  obtain ⟨c4,r4,rfl,h4,h⟩:=h
  obtain ⟨v4,rfl,kv4⟩:=bZ (xs:=x.fG) h4
  have e5:r4 = [.bool x.fv]:=h; subst e5
  exact ⟨v2,v3,v4,rfl,kv2,kv3,kv4⟩
theorem cx {w:World} {L:List Nat} (a0:ByteArray) (a1:Int) (a2:List Int) {u2:Value} (h2:Rep.R w L [u2] a2) (a3:List Int) {u3:Value} (h3:Rep.R w L [u3] a3) (a4:List Int) {u4:Value} (h4:Rep.R w L [u4] a4) (a5:Bool):Rep.R w L [.string a0,vI a1,u2,u3,u4,.bool a5] (⟨a0,a1,a2,a3,a4,a5⟩:Tb):=⟨[.string a0],[vI a1,u2,u3,u4,.bool a5],rfl,rfl,⟨[vI a1],[u2,u3,u4,.bool a5],rfl,rfl,⟨[u2],[u3,u4,.bool a5],rfl,h2,⟨[u3],[u4,.bool a5],rfl,h3,⟨[u4],[.bool a5],rfl,h4,rfl⟩⟩⟩⟩⟩
def bF_l1 (n:Nat) (a0:Td) (g0:Bool × Nat × (List (ByteArray × Bool)) -> Option (Int ⊕ Unit)):Bool × Nat × (List (ByteArray × Bool)) -> Option (Int ⊕ Unit)
  | (k0,d0,c0)=>(if d0 < a0.fu.length then (a0.fu[d0]?).bind fun b0=>(dF_p n a0 b0).bind fun j0=>(if b0.fv = true then (if 0 < d0 then (bD_p n ([j0,(!(aH c0 b0.fC false)),true,true]:List Bool)).bind fun p0=>(if p0 = true then g0 (b0.fv,d0 + 1,bz c0 b0.fC true) else some (.inl (161:Int))) else (bD_p n ([j0,(!(aH c0 b0.fC false)),true,(!b0.fv)]:List Bool)).bind fun q0=>(if q0 = true then g0 (b0.fv,d0 + 1,bz c0 b0.fC true) else some (.inl (161:Int)))) else (if 0 < d0 then (bD_p n ([j0,(!(aH c0 b0.fC false)),(!k0),true]:List Bool)).bind fun s0=>(if s0 = true then g0 (b0.fv,d0 + 1,bz c0 b0.fC true) else some (.inl (161:Int))) else (bD_p n ([j0,(!(aH c0 b0.fC false)),(!k0),(!b0.fv)]:List Bool)).bind fun t0=>(if t0 = true then g0 (b0.fv,d0 + 1,bz c0 b0.fC true) else some (.inl (161:Int))))) else some (.inr ()))
def bF_p (n:Nat) (a0:Td):Option Int:=
  (bD_p n ([(decide (0 <= a0.fj)),(decide (a0.fj <= 6)),(decide (0 <= a0.fh)),(decide (a0.fh <= 12)),(decide (0 <= a0.fl)),(decide (a0.fl <= 3)),(decide (0 < a0.fu.length)),(decide (a0.fu.length <= 64))]:List Bool)).bind fun b0=>(if b0 = true then thn (am (bF_l1 n a0) n (false,0,([]:List (ByteArray × Bool)))) (fun _=>some (0:Int)) else some (161:Int))
theorem bF_c (n:Nat) {L w} (hL:hl L w) (a0:Td) {v0_3:Value} (h0_3:Rep.R w L [v0_3] a0.fu)  {r:Int} (h:bF_p n a0 = some r) :
 Cl 118 #[.agg #[vI a0.fj,vI a0.fh,vI a0.fl,v0_3]] w (ah w fun _ u=>u = vI r):=by
 unfold bF_p at h
 refine AG func118 rfl rfl rfl fun _ cs0 hb0=>Ac<|RG.bx (Az w) rfl rfl fun P2 H0 u0 G2=>Af rfl<|Aa<|Ac<|AX 3 rfl<|AR rfl ((u0.memA .hd) 3 _ rfl) ?_
 have Q0:=AS h0_3 u0
 have K2:a0.fu.length <= 281474976710656:=Ba Q0
 refine Ab (Bg (xs:=a0.fu) underlying44 rfl Q0)<|Af rfl<|Aa<|Ai<|Ac<|AX 0 rfl<|AR rfl ((u0.memA .hd) 0 _ rfl)<|Ab (FV.geq (i:=a0.fj) (j:=0) rfl rfl)<|AX 0 rfl<|AR rfl ((u0.memA .hd) 0 _ rfl)<|Ab (FV.leq (i:=a0.fj) (j:=6) rfl rfl)<|AX 1 rfl<|AR rfl ((u0.memA .hd) 1 _ rfl)<|Ab (FV.geq (i:=a0.fh) (j:=0) rfl rfl)<|AX 1 rfl<|AR rfl ((u0.memA .hd) 1 _ rfl)<|Ab (FV.leq (i:=a0.fh) (j:=12) rfl rfl)<|AX 2 rfl<|AR rfl ((u0.memA .hd) 2 _ rfl)<|Ab (FV.geq (i:=a0.fl) (j:=0) rfl rfl)<|AX 2 rfl<|AR rfl ((u0.memA .hd) 2 _ rfl)<|Ab (FV.leq (i:=a0.fl) (j:=3) rfl rfl)<|Ae rfl<|Ab (FV.gtrN (i:=a0.fu.length) (j:=0) rfl rfl)<|Ae rfl<|Ab (FV.leqN (i:=a0.fu.length) (j:=64) rfl rfl)<|Aj .plain rfl (AN (α:=Bool) (xs:=([(decide (0 <= a0.fj)),(decide (a0.fj <= 6)),(decide (0 <= a0.fh)),(decide (a0.fh <= 12)),(decide (0 <= a0.fl)),(decide (a0.fl <= 3)),(decide (0 < a0.fu.length)),(decide (a0.fu.length <= 64))]:List Bool)) (vs:=[.bool (decide (0 <= a0.fj)),.bool (decide (a0.fj <= 6)),.bool (decide (0 <= a0.fh)),.bool (decide (a0.fh <= 12)),.bool (decide (0 <= a0.fl)),.bool (decide (a0.fl <= 3)),.bool (decide (0 < a0.fu.length)),.bool (decide (a0.fu.length <= 64))]) (ds' :=[.bool (decide (0 <= a0.fj)),.bool (decide (a0.fj <= 6)),.bool (decide (0 <= a0.fh)),.bool (decide (a0.fh <= 12)),.bool (decide (0 <= a0.fl)),.bool (decide (a0.fl <= 3)),.bool (decide (0 < a0.fu.length)),.bool (decide (a0.fu.length <= 64))]) rfl u0 hH rfl (e8 rfl rfl rfl rfl rfl rfl rfl rfl) (by kernel_rfl) rfl) fun Q2 y2 B0 H2=>bk h fun k2 V1 h=>Bi (.bool k2) (bd 156) rfl (e1 rfl) (fun w9 hw9=>bD_c n (B0.hL0 hL hw9) (Aq (St.lend (α:=Bool) (L:=L) B0 .hd (AE (cs:=[.bool (decide (0 <= a0.fj)),.bool (decide (a0.fj <= 6)),.bool (decide (0 <= a0.fh)),.bool (decide (a0.fh <= 12)),.bool (decide (0 <= a0.fl)),.bool (decide (a0.fl <= 3)),.bool (decide (0 < a0.fu.length)),.bool (decide (a0.fu.length <= 64))]) (xs:=(([(decide (0 <= a0.fj)),(decide (a0.fj <= 6)),(decide (0 <= a0.fh)),(decide (a0.fh <= 12)),(decide (0 <= a0.fl)),(decide (a0.fl <= 3)),(decide (0 < a0.fu.length)),(decide (a0.fu.length <= 64))]:List Bool):List Bool)) B0 L (Aw (cs:=[.bool (decide (0 <= a0.fj))]) (ds:=[.bool (decide (a0.fj <= 6)),.bool (decide (0 <= a0.fh)),.bool (decide (a0.fh <= 12)),.bool (decide (0 <= a0.fl)),.bool (decide (a0.fl <= 3)),.bool (decide (0 < a0.fu.length)),.bool (decide (a0.fu.length <= 64))]) rfl (Aw (cs:=[.bool (decide (a0.fj <= 6))]) (ds:=[.bool (decide (0 <= a0.fh)),.bool (decide (a0.fh <= 12)),.bool (decide (0 <= a0.fl)),.bool (decide (a0.fl <= 3)),.bool (decide (0 < a0.fu.length)),.bool (decide (a0.fu.length <= 64))]) rfl (Aw (cs:=[.bool (decide (0 <= a0.fh))]) (ds:=[.bool (decide (a0.fh <= 12)),.bool (decide (0 <= a0.fl)),.bool (decide (a0.fl <= 3)),.bool (decide (0 < a0.fu.length)),.bool (decide (a0.fu.length <= 64))]) rfl (Aw (cs:=[.bool (decide (a0.fh <= 12))]) (ds:=[.bool (decide (0 <= a0.fl)),.bool (decide (a0.fl <= 3)),.bool (decide (0 < a0.fu.length)),.bool (decide (a0.fu.length <= 64))]) rfl (Aw (cs:=[.bool (decide (0 <= a0.fl))]) (ds:=[.bool (decide (a0.fl <= 3)),.bool (decide (0 < a0.fu.length)),.bool (decide (a0.fu.length <= 64))]) rfl (Aw (cs:=[.bool (decide (a0.fl <= 3))]) (ds:=[.bool (decide (0 < a0.fu.length)),.bool (decide (a0.fu.length <= 64))]) rfl (Aw (cs:=[.bool (decide (0 < a0.fu.length))]) (ds:=[.bool (decide (a0.fu.length <= 64))]) rfl (Aw (cs:=[.bool (decide (a0.fu.length <= 64))]) (ds:=[]) rfl (AK _ _)))))))))) hL) hw9) V1) rfl<|Ab (Bp rfl)<|Aa<|BW rfl h (fun X0 h=>?_) (fun X0 h=>?_)
 refine Ar<|Ac<|Aj .plain rfl (Does.makeMap (κ:=ByteArray) (ν:=Bool) B0) fun X2 I0 G0 J2=>Af rfl<|Aa<|Ac<|Af rfl<|Aa<|Ai<|Ac<|AX 3 rfl<|AR rfl ((G0.memA .t2) 3 _ rfl)<|Ab (Bg (xs:=a0.fu) underlying44 rfl (AS h0_3 G0))<|Ae rfl<|Aa<|AA ?_
 obtain ⟨p1,I2⟩:=AI G0 (.a0 .d1)
 refine tn h fun M2 Q1 C0=>MX.lo (α:=Bool × Nat × (List (ByteArray × Bool))) (fun ⟨p0,q0,g0⟩=>[(1,vP H0),(4,.map (some I0)),(5,.bool p0),(38,v0_3),(39,vI ((a0.fu.length:Nat):Int)),(40,vI ((q0:Nat):Int))]) (fun ⟨p0,q0,g0⟩=>[.obj I0 (cv (g0:List (ByteArray × Bool))),.cells H0 [vI a0.fj,vI a0.fh,vI a0.fl,v0_3] 46]) (fun ⟨p0,q0,g0⟩=>(p0,q0,g0)) (false,0,([]:List (ByteArray × Bool))) Q1 p1 ?_
 rintro x2 ⟨p0,q0,g0⟩ j3 D0 F0 E0 h
 unfold bF_l1 at h
 try dsimp only at h
 refine Ac<|Ab (Bq (i:=q0) (j:=a0.fu.length) rfl rfl)<|Aa<|Ai<|AT rfl h (fun W0 h=>?_) (fun W0 h=>?_)
 refine Ar<|Ai<|AA<|Ac<|Ae rfl<|bk h fun b0 U1 h=>?_
 obtain ⟨v2,E2,K1,M1,F2,R1,P1⟩:=Bk (AS h0_3 F0) U1
 obtain ⟨c2,g2,j2,rfl,R0,U0,V0⟩:=ba R1
 refine Ab (Bj 6 q0 rfl K1 rfl rfl M1)<|Ab (AF rfl P1)<|RG.nl [.string ⟨#[]⟩,vI 0,vN,vN,vN,.bool false] F0 fun R2 z2 q1 t0=>Af rfl<|AQ [.string b0.fC,vI b0.fA,c2,g2,j2,.bool b0.fv] q1 .hd (o6 rfl rfl (AP (Am R0 t0)) (AP (Am U0 t0)) (AP (Am V0 t0)) rfl) fun U2 s0 v0=>Aa<|Ai<|Ai<|du 24 fun c0 d0=>Rx 0 16727044 c0 rfl d0 (AF rfl (s0.memA .t2))<|Rx 1 16727044 c0 rfl d0 (AF rfl (s0.memA .hd))<|bk h fun j0 W1 h=>BG 2 7 16727040 (.bool j0) c0 rfl d0 (bd 157) rfl (e2 rfl rfl) (fun w9 hw9=>dF_c n (s0.hL0 hL hw9) a0 (s0.k0 h0_3 hw9) b0 (s0.kd (Am R0 (Tt t0 v0)) hw9) (s0.kd (Am U0 (Tt t0 v0)) hw9) (s0.kd (Am V0 (Tt t0 v0)) hw9) W1) rfl<|Rv 3 c0 rfl d0 (fun _=>Ak rfl)<|Rv 4 c0 rfl d0 (fun _=>AU 0 rfl)<|Rx 5 14680256 c0 rfl d0 (AL rfl ((s0.memA .hd) 0 _ rfl))<|Rx 6 14680192 c0 rfl d0 (FV.lookup (kv:=b0.fC) (z:=false) s0 .t1 underlying209 underlying9 rfl rfl rfl rfl)<|Rv 7 c0 rfl d0 (fun _=>Bp rfl)<|Rv 8 c0 rfl d0 (fun _=>AU 5 rfl)<|Rx 9 16727040 c0 rfl d0 (AL rfl ((s0.memA .hd) 5 _ rfl))<|Rv 10 c0 rfl d0 (fun _=>Ak rfl)<|RD.ifb (s:=55) rfl h (fun Y0 h=>?_) (fun Y0 h=>?_)
 refine BN 8191 11 [(11,56),(12,57)] (F:=[(55,true)]) (U:=[]) c0 d0 (.cons rfl .nil) .nil ?_
 dsimp only [bf,List.map]
 refine Rv 13 c0 rfl d0 (fun _=>BY rfl rfl)<|Rv 14 c0 rfl d0 (fun _=>Ak rfl)<|Rv 15 c0 rfl d0 (fun _=>FV.gtrN (i:=q0) (j:=0) rfl rfl)<|Rv 16 c0 rfl d0 (fun _=>Ak rfl)<|RD.ifd (s:=61) rfl h (fun Z0 h=>?_) (fun Z0 h=>?_)
 refine BN 1048575 4 [(17,62),(18,63),(19,64)] (F:=[(61,true)]) (U:=[]) c0 d0 (.cons rfl .nil) .nil ?_
 dsimp only [bf,List.map]
 refine Rv 20 c0 rfl d0 (fun _=>BY rfl rfl)<|BV 21 4194303 c0 rfl .plain rfl (AN (α:=Bool) (xs:=([j0,(!(aH g0 b0.fC false)),true,true]:List Bool)) (vs:=[.bool j0,.bool (!(aH g0 b0.fC false)),.bool true,.bool true]) (ds' :=[.bool j0,.bool (!(aH g0 b0.fC false)),.bool true,.bool true]) rfl s0 hH rfl (e4 rfl rfl rfl rfl) (by kernel_rfl) rfl) fun V2 A2 x0 y1=>bk h fun p2 X1 h=>BG 22 8388607 8388608 (.bool p2) c0 rfl d0 (bd 156) rfl (e1 rfl) (fun w9 hw9=>bD_c n (x0.hL0 hL hw9) (Aq (St.lend (α:=Bool) (L:=L) x0 .hd (AE (cs:=[.bool j0,.bool (!(aH g0 b0.fC false)),.bool true,.bool true]) (xs:=(([j0,(!(aH g0 b0.fC false)),true,true]:List Bool):List Bool)) x0 L (Aw (cs:=[.bool j0]) (ds:=[.bool (!(aH g0 b0.fC false)),.bool true,.bool true]) rfl (Aw (cs:=[.bool (!(aH g0 b0.fC false))]) (ds:=[.bool true,.bool true]) rfl (Aw (cs:=[.bool true]) (ds:=[.bool true]) rfl (Aw (cs:=[.bool true]) (ds:=[]) rfl (AK _ _)))))) hL) hw9) X1) rfl<|Rv 23 c0 rfl d0 (fun _=>Bp rfl)<|AM (dk c0)<|BW rfl h (fun b1 h=>?_) (fun b1 h=>?_)
 refine Ar<|Ac<|Ae rfl<|AX 0 rfl<|AR rfl ((x0.memA .t1) 0 _ rfl)<|BU .plain (Acts.mapUpdate (kv:=b0.fC) (vv:=true) x0 .t2 underlying209 underlying9 rfl rfl rfl rfl) fun W2 J0 z1=>Aa<|Ao<|AX 5 rfl<|AR rfl ((J0.memA .t1) 5 _ rfl)<|Af rfl<|Aa<|AC<|Ao<|Ab (Bn (i:=q0) (j:=1) rfl rfl (by omega))<|Ae rfl<|Aa ?_
 obtain ⟨s1,A1⟩:=AI J0 .d2
 exact D0 (b0.fv,q0 + 1,bz g0 b0.fC true) s1 (Tt E0 (Tt t0 (Tt v0 (Tt y1 (Tt z1 A1))))) h
 refine Ac<|Af rfl<|Aa ?_
 have h:=au h C0
 refine Al rfl<|AY hb0 func118 rfl rfl ?_
 cases h
 exact x0.gv
 refine RD.vP 17 262143 c0 rfl d0 (.yes rfl rfl) (fun _=>AU 5 rfl) rfl<|RD.val (i:=18) (m' :=524287) (W:=16252928) (tk c0) rfl d0 (.yes rfl rfl) (AL rfl ((s0.memA .hd) 5 _ rfl)) rfl<|RD.vP 19 1048575 c0 rfl d0 (.yes rfl rfl) (fun _=>Bp rfl) rfl<|Rv 20 c0 rfl d0 (fun _=>Bx rfl rfl)<|BV 21 4194303 c0 rfl .plain rfl (AN (α:=Bool) (xs:=([j0,(!(aH g0 b0.fC false)),true,(!b0.fv)]:List Bool)) (vs:=[.bool j0,.bool (!(aH g0 b0.fC false)),.bool true,.bool (!b0.fv)]) (ds' :=[.bool j0,.bool (!(aH g0 b0.fC false)),.bool true,.bool (!b0.fv)]) rfl s0 hH rfl (e4 rfl rfl rfl rfl) (by kernel_rfl) rfl) fun Y2 B2 y0 B1=>bk h fun q2 Y1 h=>BG 22 8388607 8388608 (.bool q2) c0 rfl d0 (bd 156) rfl (e1 rfl) (fun w9 hw9=>bD_c n (y0.hL0 hL hw9) (Aq (St.lend (α:=Bool) (L:=L) y0 .hd (AE (cs:=[.bool j0,.bool (!(aH g0 b0.fC false)),.bool true,.bool (!b0.fv)]) (xs:=(([j0,(!(aH g0 b0.fC false)),true,(!b0.fv)]:List Bool):List Bool)) y0 L (Aw (cs:=[.bool j0]) (ds:=[.bool (!(aH g0 b0.fC false)),.bool true,.bool (!b0.fv)]) rfl (Aw (cs:=[.bool (!(aH g0 b0.fC false))]) (ds:=[.bool true,.bool (!b0.fv)]) rfl (Aw (cs:=[.bool true]) (ds:=[.bool (!b0.fv)]) rfl (Aw (cs:=[.bool (!b0.fv)]) (ds:=[]) rfl (AK _ _)))))) hL) hw9) Y1) rfl<|Rv 23 c0 rfl d0 (fun _=>Bp rfl)<|AM (dk c0)<|BW rfl h (fun c1 h=>?_) (fun c1 h=>?_)
 refine Ar<|Ac<|Ae rfl<|AX 0 rfl<|AR rfl ((y0.memA .t1) 0 _ rfl)<|BU .plain (Acts.mapUpdate (kv:=b0.fC) (vv:=true) y0 .t2 underlying209 underlying9 rfl rfl rfl rfl) fun Z2 K0 C1=>Aa<|Ao<|AX 5 rfl<|AR rfl ((K0.memA .t1) 5 _ rfl)<|Af rfl<|Aa<|AC<|Ao<|Ab (Bn (i:=q0) (j:=1) rfl rfl (by omega))<|Ae rfl<|Aa ?_
 obtain ⟨u1,D1⟩:=AI K0 .d2
 exact D0 (b0.fv,q0 + 1,bz g0 b0.fC true) u1 (Tt E0 (Tt t0 (Tt v0 (Tt B1 (Tt C1 D1))))) h
 refine Ac<|Af rfl<|Aa ?_
 have h:=au h C0
 refine Al rfl<|AY hb0 func118 rfl rfl ?_
 cases h
 exact y0.gv
 refine RD.vP 11 4095 c0 rfl d0 (.yes rfl rfl) (fun _=>Ak rfl) rfl<|RD.vP 12 8191 c0 rfl d0 (.yes rfl rfl) (fun _=>Bp rfl) rfl<|Rv 13 c0 rfl d0 (fun _=>Bx rfl rfl)<|Rv 14 c0 rfl d0 (fun _=>Ak rfl)<|Rv 15 c0 rfl d0 (fun _=>FV.gtrN (i:=q0) (j:=0) rfl rfl)<|Rv 16 c0 rfl d0 (fun _=>Ak rfl)<|RD.ifd (s:=61) rfl h (fun g1 h=>?_) (fun g1 h=>?_)
 refine BN 1048575 4 [(17,62),(18,63),(19,64)] (F:=[(61,true)]) (U:=[]) c0 d0 (.cons rfl .nil) .nil ?_
 dsimp only [bf,List.map]
 refine Rv 20 c0 rfl d0 (fun _=>BY rfl rfl)<|BV 21 4194303 c0 rfl .plain rfl (AN (α:=Bool) (xs:=([j0,(!(aH g0 b0.fC false)),(!p0),true]:List Bool)) (vs:=[.bool j0,.bool (!(aH g0 b0.fC false)),.bool (!p0),.bool true]) (ds' :=[.bool j0,.bool (!(aH g0 b0.fC false)),.bool (!p0),.bool true]) rfl s0 hH rfl (e4 rfl rfl rfl rfl) (by kernel_rfl) rfl) fun b3 C2 z0 E1=>bk h fun s2 Z1 h=>BG 22 8388607 8388608 (.bool s2) c0 rfl d0 (bd 156) rfl (e1 rfl) (fun w9 hw9=>bD_c n (z0.hL0 hL hw9) (Aq (St.lend (α:=Bool) (L:=L) z0 .hd (AE (cs:=[.bool j0,.bool (!(aH g0 b0.fC false)),.bool (!p0),.bool true]) (xs:=(([j0,(!(aH g0 b0.fC false)),(!p0),true]:List Bool):List Bool)) z0 L (Aw (cs:=[.bool j0]) (ds:=[.bool (!(aH g0 b0.fC false)),.bool (!p0),.bool true]) rfl (Aw (cs:=[.bool (!(aH g0 b0.fC false))]) (ds:=[.bool (!p0),.bool true]) rfl (Aw (cs:=[.bool (!p0)]) (ds:=[.bool true]) rfl (Aw (cs:=[.bool true]) (ds:=[]) rfl (AK _ _)))))) hL) hw9) Z1) rfl<|Rv 23 c0 rfl d0 (fun _=>Bp rfl)<|AM (dk c0)<|BW rfl h (fun j1 h=>?_) (fun j1 h=>?_)
 refine Ar<|Ac<|Ae rfl<|AX 0 rfl<|AR rfl ((z0.memA .t1) 0 _ rfl)<|BU .plain (Acts.mapUpdate (kv:=b0.fC) (vv:=true) z0 .t2 underlying209 underlying9 rfl rfl rfl rfl) fun c3 M0 F1=>Aa<|Ao<|AX 5 rfl<|AR rfl ((M0.memA .t1) 5 _ rfl)<|Af rfl<|Aa<|AC<|Ao<|Ab (Bn (i:=q0) (j:=1) rfl rfl (by omega))<|Ae rfl<|Aa ?_
 obtain ⟨v1,G1⟩:=AI M0 .d2
 exact D0 (b0.fv,q0 + 1,bz g0 b0.fC true) v1 (Tt E0 (Tt t0 (Tt v0 (Tt E1 (Tt F1 G1))))) h
 refine Ac<|Af rfl<|Aa ?_
 have h:=au h C0
 refine Al rfl<|AY hb0 func118 rfl rfl ?_
 cases h
 exact z0.gv
 refine RD.vP 17 262143 c0 rfl d0 (.yes rfl rfl) (fun _=>AU 5 rfl) rfl<|RD.val (i:=18) (m' :=524287) (W:=16252928) (tk c0) rfl d0 (.yes rfl rfl) (AL rfl ((s0.memA .hd) 5 _ rfl)) rfl<|RD.vP 19 1048575 c0 rfl d0 (.yes rfl rfl) (fun _=>Bp rfl) rfl<|Rv 20 c0 rfl d0 (fun _=>Bx rfl rfl)<|BV 21 4194303 c0 rfl .plain rfl (AN (α:=Bool) (xs:=([j0,(!(aH g0 b0.fC false)),(!p0),(!b0.fv)]:List Bool)) (vs:=[.bool j0,.bool (!(aH g0 b0.fC false)),.bool (!p0),.bool (!b0.fv)]) (ds' :=[.bool j0,.bool (!(aH g0 b0.fC false)),.bool (!p0),.bool (!b0.fv)]) rfl s0 hH rfl (e4 rfl rfl rfl rfl) (by kernel_rfl) rfl) fun d3 D2 A0 H1=>bk h fun u2 b2 h=>BG 22 8388607 8388608 (.bool u2) c0 rfl d0 (bd 156) rfl (e1 rfl) (fun w9 hw9=>bD_c n (A0.hL0 hL hw9) (Aq (St.lend (α:=Bool) (L:=L) A0 .hd (AE (cs:=[.bool j0,.bool (!(aH g0 b0.fC false)),.bool (!p0),.bool (!b0.fv)]) (xs:=(([j0,(!(aH g0 b0.fC false)),(!p0),(!b0.fv)]:List Bool):List Bool)) A0 L (Aw (cs:=[.bool j0]) (ds:=[.bool (!(aH g0 b0.fC false)),.bool (!p0),.bool (!b0.fv)]) rfl (Aw (cs:=[.bool (!(aH g0 b0.fC false))]) (ds:=[.bool (!p0),.bool (!b0.fv)]) rfl (Aw (cs:=[.bool (!p0)]) (ds:=[.bool (!b0.fv)]) rfl (Aw (cs:=[.bool (!b0.fv)]) (ds:=[]) rfl (AK _ _)))))) hL) hw9) b2) rfl<|Rv 23 c0 rfl d0 (fun _=>Bp rfl)<|AM (dk c0)<|BW rfl h (fun k1 h=>?_) (fun k1 h=>?_)
 refine Ar<|Ac<|Ae rfl<|AX 0 rfl<|AR rfl ((A0.memA .t1) 0 _ rfl)<|BU .plain (Acts.mapUpdate (kv:=b0.fC) (vv:=true) A0 .t2 underlying209 underlying9 rfl rfl rfl rfl) fun g3 P0 I1=>Aa<|Ao<|AX 5 rfl<|AR rfl ((P0.memA .t1) 5 _ rfl)<|Af rfl<|Aa<|AC<|Ao<|Ab (Bn (i:=q0) (j:=1) rfl rfl (by omega))<|Ae rfl<|Aa ?_
 obtain ⟨x1,J1⟩:=AI P0 .d2
 exact D0 (b0.fv,q0 + 1,bz g0 b0.fC true) x1 (Tt E0 (Tt t0 (Tt v0 (Tt H1 (Tt I1 J1))))) h
 refine Ac<|Af rfl<|Aa ?_
 have h:=au h C0
 refine Al rfl<|AY hb0 func118 rfl rfl ?_
 cases h
 exact A0.gv
 refine Be rfl ?_
 have h:=aF h C0
 try dsimp only at h
 refine Ac<|Af rfl<|Aa<|Al rfl<|AY hb0 func118 rfl rfl ?_
 cases h
 exact F0.gv
 refine Ac<|Af rfl<|Aa<|Al rfl<|AY hb0 func118 rfl rfl ?_
 cases h
 exact B0.gv
structure Te where
  fE:Int
  deriving DecidableEq
instance:Rep Te:=Rep.via (β:=Int) fun x=>x.fE
def dh_p (_n:Nat) (a0:Int):Option (Except Te Unit):=
  (if a0 = 0 then some (.ok ()) else some (.error (⟨a0⟩:Te)))
theorem dh_c (n:Nat) {L w} (_hL:hl L w) {a0:Int}  {r:Except Te Unit} (h:dh_p n a0 = some r) :
 Cl 128 #[vI a0] w (aK w (fun (_y:Unit) _ u=>u = .tuple #[]) (fun e=>.iface 185 (.agg #[vI e.fE])) r):=by
 unfold dh_p at h
 have hS0:=Az w
 refine BO func128 rfl rfl rfl fun _ cs0 hb0 hp0=>Ac<|Ae rfl<|Ab (FV.neq (i:=a0) (j:=0) rfl rfl)<|Aa<|MX.ifn rfl h (fun c1 h=>?_) (fun c1 h=>?_)
 refine Ar<|MX.fin rfl<|Ap hb0 func128 rfl .nil rfl ?_
 cases h
 exact ⟨hS0.ag,fun w9 hw9=>aC rfl⟩
 refine Ao<|Ae rfl<|Ab (AO (vs:=[vI a0]) (u:=.agg #[vI a0]) (e1 rfl) (fun w9=>by kernel_rfl))<|Ab (BF rfl rfl)<|RG.panic .plain rfl ?_
 cases h
 exact AZ hp0 func128 ⟨hS0.ag,rfl⟩
def aq_p (n:Nat) (a0:Bool) (a1:Int):Option (Except Te Unit):=
  (if a0 = true then (dh_p n a1).bind fun y2=>exc y2 (fun _y11=>some (.ok ())) (fun b0=>some (.error b0)) else some (.ok ()))
theorem aq_c (n:Nat) {L w} (hL:hl L w) {a0:Bool} {a1:Int}  {r:Except Te Unit} (h:aq_p n a0 a1 = some r) :
 Cl 129 #[.bool a0,vI a1] w (aK w (fun (_y:Unit) _ u=>u = .tuple #[]) (fun e=>.iface 185 (.agg #[vI e.fE])) r):=by
 unfold aq_p at h
 have hS0:=Az w
 refine BO func129 rfl rfl rfl fun _ cs0 hb0 hp0=>Ac<|Ae rfl<|Aa<|MX.ifb rfl h (fun c1 h=>?_) (fun c1 h=>?_)
 refine Ao<|Ae rfl<|xk h (fun d0 hy2 h=>?_) (fun k0 hy2 h=>?_)
 refine BC (fst:=[]) (cap:=[]) .plain (bd 128) rfl (e1 rfl) (fun w9 hw9=>dh_c n (hS0.hL0 hL hw9)  hy2) fun j0 c0=>?_
 obtain ⟨b0,g0⟩:=hS0.agr c0
 cases h
 exact AZ hp0 func129 ⟨b0.ag,rfl⟩
 refine Bi (.tuple #[]) (bd 128) rfl (e1 rfl) (fun w9 hw9=>AV (dh_c n (hS0.hL0 hL hw9)  hy2)) rfl<|Aa<|MX.fin rfl<|Ap hb0 func129 rfl .nil rfl ?_
 cases h
 exact ⟨hS0.ag,fun w9 hw9=>aC rfl⟩
 refine Ar<|MX.fin rfl<|Ap hb0 func129 rfl .nil rfl ?_
 cases h
 exact ⟨hS0.ag,fun w9 hw9=>aC rfl⟩
structure Tl where
  fF:Td
  fk:Int
  deriving DecidableEq
instance:Rep Tl:=Rep.via (β:=Td × Int) fun x=>(x.fF,x.fk)
def cC_p (n:Nat) (a0:Td) (a1:Int):Option (Except Te Tl):=
  (bF_p n a0).bind fun g0=>(dh_p n g0).bind fun j0=>exc j0 (fun _y23=>(if a1 < 1 then (aq_p n true (2:Int)).bind fun k0=>exc k0 (fun _y32=>some (.ok (⟨a0,a1⟩:Tl))) (fun c0=>some (.error c0)) else (aq_p n (decide (8 < a1)) (2:Int)).bind fun p0=>exc p0 (fun _y47=>some (.ok (⟨a0,a1⟩:Tl))) (fun d0=>some (.error d0)))) (fun b0=>some (.error b0))
theorem cC_c (n:Nat) {L w} (hL:hl L w) (a0:Td) {v0_3:Value} (h0_3:Rep.R w L [v0_3] a0.fu) {a1:Int}  {r:Except Te Tl} (h:cC_p n a0 a1 = some r) :
 Cl 81 #[.agg #[vI a0.fj,vI a0.fh,vI a0.fl,v0_3],vI a1] w (aK w (fun (y:Tl) w' u=>∃ v0_3:Value,u = .agg #[vI y.fF.fj,vI y.fF.fh,vI y.fF.fl,v0_3,vI y.fk]/\Rep.R w' L [v0_3] y.fF.fu) (fun e=>.iface 185 (.agg #[vI e.fE])) r):=by
 unfold cC_p at h
 refine BO func81 rfl rfl rfl fun _ cs0 hb0 hp0=>Ac<|RG.bx (Az w) rfl rfl fun c1 I0 u0 U0=>RG.nl [vI 0,vI 0,vI 0,vN,vI 0] u0 fun d1 J0 b0 V0=>Aa<|Ac<|Ab (AF rfl (b0.memA .t1))<|bk h fun F0 E0 h=>Bi (vI F0) (bd 118) rfl (e1 rfl) (fun w9 hw9=>bF_c n (b0.hL0 hL hw9) a0 (b0.k0 h0_3 hw9) E0) rfl<|xk h (fun P0 g0 h=>?_) (fun s1 g0 h=>?_)
 refine BC (fst:=[]) (cap:=[]) .plain (bd 128) rfl (e1 rfl) (fun w9 hw9=>dh_c n (b0.hL0 hL hw9)  g0) fun g1 z0=>?_
 obtain ⟨v0,W0⟩:=b0.agr z0
 cases h
 exact AZ hp0 func81 ⟨v0.ag,rfl⟩
 refine Bi (.tuple #[]) (bd 128) rfl (e1 rfl) (fun w9 hw9=>AV (dh_c n (b0.hL0 hL hw9)  g0)) rfl<|Aa<|Ac<|Ae rfl<|Ab (BK (i:=a1) (j:=1) rfl rfl)<|Ae rfl<|BA (s:=10) rfl h (fun t0 h=>?_) (fun t0 h=>?_)
 refine Au<|Au<|Bm rfl rfl<|xk h (fun Q0 j0 h=>?_) (fun u1 j0 h=>?_)
 refine BC (fst:=[]) (cap:=[]) .plain (bd 129) rfl (e2 rfl rfl) (fun w9 hw9=>aq_c n (b0.hL0 hL hw9)  j0) fun j1 A0=>?_
 obtain ⟨x0,X0⟩:=b0.agr A0
 cases h
 exact AZ hp0 func81 ⟨x0.ag,rfl⟩
 refine Bi (.tuple #[]) (bd 129) rfl (e2 rfl rfl) (fun w9 hw9=>AV (aq_c n (b0.hL0 hL hw9)  j0)) rfl<|Aa<|Ac<|Ab (AF rfl (b0.memA .t1))<|Ae rfl ?_
 have q0:=AS h0_3 b0
 obtain ⟨G0,K0,C0,_⟩:=BQ q0
 refine Ab (AO (vs:=[.agg #[vI a0.fj,vI a0.fh,vI a0.fl,v0_3],vI a1]) (u:=.agg #[vI a0.fj,vI a0.fh,vI a0.fl,v0_3,vI a1]) (e2 rfl rfl) (fun w9=>by rw [C0]; try kernel_rfl))<|AQ [vI a0.fj,vI a0.fh,vI a0.fl,v0_3,vI a1] b0 .hd (o5 rfl rfl rfl (AP q0) rfl) fun k1 c0 Y0=>Aa<|Al rfl<|Ap hb0 func81 rfl (.cons (.many (cs:=[vI a0.fj,vI a0.fh,vI a0.fl,v0_3,vI a1]) rfl rfl (c0.memA .hd)) .nil) rfl ?_
 cases h
 exact ⟨c0.ag,fun w9 hw9=>aC ⟨v0_3,rfl,c0.k0 h0_3 hw9⟩⟩
 refine AH (Ak rfl)<|AH (FV.gtr (i:=a1) (j:=8) rfl rfl)<|Bv rfl rfl<|xk h (fun R0 p0 h=>?_) (fun v1 p0 h=>?_)
 refine BC (fst:=[]) (cap:=[]) .plain (bd 129) rfl (e2 rfl rfl) (fun w9 hw9=>aq_c n (b0.hL0 hL hw9)  p0) fun p1 B0=>?_
 obtain ⟨y0,Z0⟩:=b0.agr B0
 cases h
 exact AZ hp0 func81 ⟨y0.ag,rfl⟩
 refine Bi (.tuple #[]) (bd 129) rfl (e2 rfl rfl) (fun w9 hw9=>AV (aq_c n (b0.hL0 hL hw9)  p0)) rfl<|Aa<|Ac<|Ab (AF rfl (b0.memA .t1))<|Ae rfl ?_
 have s0:=AS h0_3 b0
 obtain ⟨H0,M0,D0,_⟩:=BQ s0
 refine Ab (AO (vs:=[.agg #[vI a0.fj,vI a0.fh,vI a0.fl,v0_3],vI a1]) (u:=.agg #[vI a0.fj,vI a0.fh,vI a0.fl,v0_3,vI a1]) (e2 rfl rfl) (fun w9=>by rw [D0]; try kernel_rfl))<|AQ [vI a0.fj,vI a0.fh,vI a0.fl,v0_3,vI a1] b0 .hd (o5 rfl rfl rfl (AP s0) rfl) fun q1 d0 b1=>Aa<|Al rfl<|Ap hb0 func81 rfl (.cons (.many (cs:=[vI a0.fj,vI a0.fh,vI a0.fl,v0_3,vI a1]) rfl rfl (d0.memA .hd)) .nil) rfl ?_
 cases h
 exact ⟨d0.ag,fun w9 hw9=>aC ⟨v0_3,rfl,d0.k0 h0_3 hw9⟩⟩
theorem dR_c (_n:Nat) {L w} (_hL:hl L w) (a0:Tl) {v0_3:Value} (_h0_3:Rep.R w L [v0_3] a0.fF.fu)  :
 Cl 131 #[.agg #[vI a0.fF.fj,vI a0.fF.fh,vI a0.fF.fl,v0_3,vI a0.fk]] w (ah w fun w' u=>∃ b0:Nat,u = .func (.func 163) #[] #[vP b0]/\St w w' [.cells b0 [vI a0.fF.fj,vI a0.fF.fh,vI a0.fF.fl,v0_3,vI a0.fk] 137]):=by
 refine AG func131 rfl rfl rfl fun _ cs0 hb0=>Ac<|RG.bx (Az w) rfl rfl fun g0 b0 c0 d0=>Af rfl<|Aa<|Ac<|Ab (BP (vs:=[]) (us:=[vP b0]) aj (e1 rfl))<|Af rfl<|Aa<|Al rfl<|Ap (u:=.func (.func 163) #[] #[vP b0]) hb0 func131 rfl (.cons (.tmp rfl) .nil) rfl<|⟨c0.ag,fun w9 hw9=>⟨b0,rfl,c0.agree hw9⟩⟩
def ak_l1 (n:Nat) (a1:List Int) (a0:Tl) (g0:Nat × (List (Int × Bool)) -> Option ((Except Te Unit) ⊕ (List (Int × Bool)))):Nat × (List (Int × Bool)) -> Option ((Except Te Unit) ⊕ (List (Int × Bool)))
  | (b0,d0)=>(if b0 < a1.length then (a1[b0]?).bind fun c0=>(if c0 < 0 then (aq_p n true (220:Int)).bind fun p0=>exc p0 (fun _y289=>g0 (b0 + 1,bz d0 c0 true)) (fun j0=>some (.inl (.error j0))) else (aq_p n (decide (a0.fk <= c0)) (220:Int)).bind fun q0=>exc q0 (fun _y305=>g0 (b0 + 1,bz d0 c0 true)) (fun k0=>some (.inl (.error k0)))) else some (.inr d0))
def ak_l2 (n:Nat) (a1:List Int) (a0:Tl) (g0:Nat × (List (Int × Bool)) -> Option ((Except Te Unit) ⊕ (List (Int × Bool)))):Nat × (List (Int × Bool)) -> Option ((Except Te Unit) ⊕ (List (Int × Bool)))
  | (b0,d0)=>(if b0 < a1.length then (a1[b0]?).bind fun c0=>(if c0 < 0 then (aq_p n true (220:Int)).bind fun p0=>exc p0 (fun _y467=>g0 (b0 + 1,bz d0 c0 true)) (fun j0=>some (.inl (.error j0))) else (aq_p n (decide (a0.fk <= c0)) (220:Int)).bind fun q0=>exc q0 (fun _y483=>g0 (b0 + 1,bz d0 c0 true)) (fun k0=>some (.inl (.error k0)))) else some (.inr d0))
def ak_l3 (n:Nat) (a0:Tl) (a1:List Int) (g0:Nat × Int -> Option ((Except Te Unit) ⊕ Int)):Nat × Int -> Option ((Except Te Unit) ⊕ Int)
  | (b0,c0)=>(if b0 < a0.fF.fu.length then (a0.fF.fu[b0]?).bind fun q0=>(if q0.fv = true then ((aq_p n (!(decide (((a1.length:Nat):Int) = c0))) (220:Int)).bind fun s0=>exc s0 (fun _y184=>thn (am (ak_l1 n a1 a0) n (0,([]:List (Int × Bool)))) (fun d0=>(aq_p n (!(decide (((d0.length:Nat):Int) = a0.fk))) (220:Int)).bind fun t0=>exc t0 (fun _y321=>some (.ok ())) (fun k0=>some (.error k0)))) (fun j0=>some (.error j0))).map .inl else (chk (c0 + 1)).bind fun p0=>g0 (b0 + 1,p0)) else some (.inr c0))
def ak_p (n:Nat) (a0:Tl) (a1:List Int):Option (Except Te Unit):=
  thn (am (ak_l3 n a0 a1) n (0,0)) (fun k0=>(aq_p n (!(decide (((a1.length:Nat):Int) = k0))) (220:Int)).bind fun g0=>exc g0 (fun _y362=>thn (am (ak_l2 n a1 a0) n (0,([]:List (Int × Bool)))) (fun b0=>(aq_p n (!(decide (((b0.length:Nat):Int) = a0.fk))) (220:Int)).bind fun j0=>exc j0 (fun _y499=>some (.ok ())) (fun d0=>some (.error d0)))) (fun c0=>some (.error c0)))
theorem ak_c (n:Nat) {L w} (hL:hl L w) (a0:Tl) {v0_3:Value} (h0_3:Rep.R w L [v0_3] a0.fF.fu) {a1:List Int} {v1_0:Value} (h1_0:Rep.R w L [v1_0] a1)  {r:Except Te Unit} (h:ak_p n a0 a1 = some r) :
 Cl 130 #[.agg #[vI a0.fF.fj,vI a0.fF.fh,vI a0.fF.fl,v0_3,vI a0.fk],v1_0] w (aK w (fun (_y:Unit) _ u=>u = .tuple #[]) (fun e=>.iface 185 (.agg #[vI e.fE])) r):=by
 unfold ak_p at h
 refine BO func130 rfl rfl rfl fun _ cs0 hb0 hp0=>Ac<|RG.bx (Az w) rfl rfl fun y6 y0 P1 Y4=>Aa<|Ac<|RG.nl [vI 0] P1 fun z6 C1 R1 c5=>AQ [vI 0] R1 .hd (o1 rfl) fun x4 B0 p5=>Aa<|Ai<|Ac<|Ab (AF rfl (B0.memA .t1))<|jE (bd 131) rfl (e1 rfl) (fun w9 hw9=>Calls.gives (dR_c n (B0.hL hL hw9) a0 (B0.km h0_3 hw9)) fun (w8:World) (u8:Value) ⟨b0_,hu_,s_⟩=>(⟨b0_,hu_,s_.from hw9⟩:∃ z0:Nat,u8 = Value.func (.func 163) #[] #[vP z0]/\St x4 w8 [.cells z0 [vI a0.fF.fj,vI a0.fF.fh,vI a0.fF.fl,v0_3,vI a0.fk] 137])) rfl fun G6 x6 g6 ⟨z0,k4,x1⟩=>?_
 subst k4
 have x5:=jc B0 x1
 refine Aa<|AA<|MX.rangeP (lb:=[vP z0]) rfl (ea B0 x1) rfl (bd 163) func163 rfl rfl rfl fun w32 v1 D0 u4 K4 F0 F5 v4 k1 s6=>Ac<|AX 0 rfl<|AX 3 rfl<|AR rfl ((aX (F0.memA .t2) 0) 3 _ rfl) ?_
 have u1:=AS h0_3 F0
 have p6:a0.fF.fu.length <= 281474976710656:=Ba u1
 refine Ab (Bg (xs:=a0.fF.fu) underlying44 rfl u1)<|Ae rfl<|Aa<|AA<|tn h fun t6 V3 p1=>MX.lo (α:=Nat × Int) (fun ⟨j0,q0⟩=>[(0,.func (.yield v1) #[] #[]),(7,v0_3),(8,vI ((a0.fF.fu.length:Nat):Int)),(9,vI ((j0:Nat):Int))]) (fun ⟨j0,q0⟩=>[.obj v1 (lpO u4 .ready none),.obj D0 (.deferred (some [])),.cells z0 [vI a0.fF.fj,vI a0.fF.fh,vI a0.fF.fl,v0_3,vI a0.fk] 137,.cells C1 [vI q0] 3,.cells y0 [vI a0.fF.fj,vI a0.fF.fh,vI a0.fF.fl,v0_3,vI a0.fk] 137]) (fun ⟨j0,q0⟩=>(j0,q0)) (0,0) V3 F0 ?_
 rintro B4 ⟨j0,q0⟩ v7 M1 E0 Z2 h
 unfold ak_l3 at h
 try dsimp only at h
 refine Ac<|Ab (Bq (i:=j0) (j:=a0.fF.fu.length) rfl rfl)<|Aa<|Ai<|AT rfl h (fun D1 h=>?_) (fun D1 h=>?_)
 refine Ar<|Ai<|AA<|Ac<|Ae rfl<|bk h fun x0 p4 h=>?_
 obtain ⟨y4,F4,F3,K3,I4,Y3,Q3⟩:=Bk (AS h0_3 E0) p4
 obtain ⟨z1,A1,B1,rfl,Z3,b4,c4⟩:=ba Y3
 refine Ab (Bj 6 j0 rfl F3 rfl rfl K3)<|Ab (AF rfl Q3)<|RG.nl [.string ⟨#[]⟩,vI 0,vN,vN,vN,.bool false] E0 fun A6 E4 Q1 C0=>Af rfl<|AQ [.string x0.fC,vI x0.fA,z1,A1,B1,.bool x0.fv] Q1 .hd (o6 rfl rfl (AP (Am Z3 C0)) (AP (Am b4 C0)) (AP (Am c4 C0)) rfl) fun B6 A0 b3=>Aa<|Ac<|AX 5 rfl<|AR rfl ((A0.memA .hd) 5 _ rfl)<|Ae rfl<|RG.ifb (s:=16) rfl h (fun E1 h=>?_) (fun E1 h=>?_)
 refine Au<|Au<|Au<|Au<|Au<|Bm rfl rfl<|Aa<|Bb rfl ?_
 have h:=lA h p1
 refine Al rfl<|Ap (u:=.tuple #[]) k1 func163 rfl .nil rfl<|MX.endRange0 A0 .t1 (by intro h9; cases h9) fun C6 U1 Z4=>?_
 obtain ⟨u0,b5⟩:=AI U1 (.a0 .d1)
 refine AC<|Ac<|Ae rfl ?_
 have q1:=AS h1_0 u0
 have j6:a1.length <= 281474976710656:=Ba q1
 refine Ab (Bg (xs:=a1) underlying41 rfl q1)<|AR rfl ((u0.memA .t3) 0 _ rfl)<|Ab (FV.neq (i:=((a1.length:Nat):Int)) (j:=q0) rfl rfl)<|xk h (fun M4 I0 h=>?_) (fun z7 I0 h=>?_)
 refine BC (fst:=[]) (cap:=[]) .plain (bd 129) rfl (e2 rfl rfl) (fun w9 hw9=>aq_c n (u0.hL0 hL hw9)  I0) fun D6 v3=>?_
 obtain ⟨V1,d5⟩:=u0.agr v3
 refine PN.take V1 .t1 fun E6 W1 g5=>?_
 obtain ⟨X1,j5⟩:=AI W1 (.a0 .d1)
 cases h
 exact AZ hp0 func130 ⟨X1.ag,rfl⟩
 refine Bi (.tuple #[]) (bd 129) rfl (e2 rfl rfl) (fun w9 hw9=>AV (aq_c n (u0.hL0 hL hw9)  I0)) rfl<|Aa<|Ac<|Aj .plain rfl (Does.makeMap (κ:=Int) (ν:=Bool) u0) fun F6 V0 Z0 k5=>Af rfl<|Aa<|Ai<|Ac<|Ae rfl<|Ab (Bg (xs:=a1) underlying41 rfl (AS h1_0 Z0))<|Ae rfl<|Aa<|AA ?_
 obtain ⟨Y1,q5⟩:=AI Z0 (.a0 (.a1 .d3))
 refine tn h fun u6 W3 G0=>MX.lo (α:=Nat × (List (Int × Bool))) (fun ⟨d0,k0⟩=>[(2,vP y0),(5,.map (some V0)),(20,v1_0),(21,vI ((a1.length:Nat):Int)),(22,vI ((d0:Nat):Int))]) (fun ⟨d0,k0⟩=>[.obj V0 (cv (k0:List (Int × Bool))),.obj D0 (.deferred (some [])),.cells y0 [vI a0.fF.fj,vI a0.fF.fh,vI a0.fF.fl,v0_3,vI a0.fk] 137]) (fun ⟨d0,k0⟩=>(d0,k0)) (0,([]:List (Int × Bool))) W3 Y1 ?_
 rintro C4 ⟨d0,k0⟩ x7 X0 b0 g1 h
 unfold ak_l1 at h
 try dsimp only at h
 refine Ac<|Ab (Bq (i:=d0) (j:=a1.length) rfl rfl)<|Aa<|Ai<|AT rfl h (fun F1 h=>?_) (fun F1 h=>?_)
 refine Ar<|Ai<|AA<|Ac<|bk h fun s0 q4 h=>?_
 obtain ⟨z4,G4,G3,M3,J1,d4,R3⟩:=Bk (AS h1_0 b0) q4
 have H3:J1 = [vI s0]:=d4; subst H3
 refine Ab (Bj 1 d0 rfl G3 rfl rfl M3)<|AR rfl (R3 0 _ rfl)<|Af rfl<|Aa<|Ac<|Ae rfl<|Ab (BK (i:=s0) (j:=0) rfl rfl)<|Ae rfl<|BA (s:=28) rfl h (fun G1 h=>?_) (fun G1 h=>?_)
 refine Au<|Au<|Au<|Au<|Bm rfl rfl<|xk h (fun P4 J0 h=>?_) (fun A7 J0 h=>?_)
 have h:=au h G0
 refine BC (fst:=[]) (cap:=[]) .plain (bd 129) rfl (e2 rfl rfl) (fun w9 hw9=>aq_c n (b0.hL0 hL hw9)  J0) fun H6 x3=>?_
 obtain ⟨Z1,s5⟩:=b0.agr x3
 refine PN.take Z1 .t1 fun I6 b2 t5=>?_
 obtain ⟨c2,u5⟩:=AI b2 (.a0 .d1)
 cases h
 exact AZ hp0 func130 ⟨c2.ag,rfl⟩
 refine Bi (.tuple #[]) (bd 129) rfl (e2 rfl rfl) (fun w9 hw9=>AV (aq_c n (b0.hL0 hL hw9)  J0)) rfl<|Aa<|Ao<|Ae rfl<|Ae rfl<|BU .plain (Acts.mapUpdate (kv:=s0) (vv:=true) b0 .hd underlying213 underlying3 rfl rfl rfl rfl) fun J6 g2 c3=>Aa<|AC<|Ao<|Ab (Bn (i:=d0) (j:=1) rfl rfl (by omega))<|Ae rfl<|Aa<|X0 (d0 + 1,bz k0 s0 true) g2 (Tt g1 c3) h
 refine AH (Ak rfl)<|RG.fg 4 rfl<|AH (AL rfl ((b0.memA .t2) 4 _ rfl))<|AH (FV.geq (i:=s0) (j:=a0.fk) rfl rfl)<|Bv rfl rfl<|xk h (fun Q4 K0 h=>?_) (fun B7 K0 h=>?_)
 have h:=au h G0
 refine BC (fst:=[]) (cap:=[]) .plain (bd 129) rfl (e2 rfl rfl) (fun w9 hw9=>aq_c n (b0.hL0 hL hw9)  K0) fun K6 y3=>?_
 obtain ⟨j2,v5⟩:=b0.agr y3
 refine PN.take j2 .t1 fun M6 k2 y5=>?_
 obtain ⟨p2,z5⟩:=AI k2 (.a0 .d1)
 cases h
 exact AZ hp0 func130 ⟨p2.ag,rfl⟩
 refine Bi (.tuple #[]) (bd 129) rfl (e2 rfl rfl) (fun w9 hw9=>AV (aq_c n (b0.hL0 hL hw9)  K0)) rfl<|Aa<|Ao<|Ae rfl<|Ae rfl<|BU .plain (Acts.mapUpdate (kv:=s0) (vv:=true) b0 .hd underlying213 underlying3 rfl rfl rfl rfl) fun P6 q2 g3=>Aa<|AC<|Ao<|Ab (Bn (i:=d0) (j:=1) rfl rfl (by omega))<|Ae rfl<|Aa<|X0 (d0 + 1,bz k0 s0 true) q2 (Tt g1 g3) h
 refine Be rfl ?_
 have h:=aF h G0
 try dsimp only at h
 refine Ao<|Ae rfl<|Ab (FV.len_map (D:=k0) b0 .hd underlying213 rfl)<|AX 4 rfl<|AR rfl ((b0.memA .t2) 4 _ rfl)<|Ab (FV.neq (i:=((k0.length:Nat):Int)) (j:=a0.fk) rfl rfl)<|xk h (fun R4 M0 h=>?_) (fun C7 M0 h=>?_)
 refine BC (fst:=[]) (cap:=[]) .plain (bd 129) rfl (e2 rfl rfl) (fun w9 hw9=>aq_c n (b0.hL0 hL hw9)  M0) fun Q6 z3=>?_
 obtain ⟨s2,A5⟩:=b0.agr z3
 refine PN.take s2 .t1 fun R6 u2 B5=>?_
 obtain ⟨v2,C5⟩:=AI u2 (.a0 .d1)
 cases h
 exact AZ hp0 func130 ⟨v2.ag,rfl⟩
 refine Bi (.tuple #[]) (bd 129) rfl (e2 rfl rfl) (fun w9 hw9=>AV (aq_c n (b0.hL0 hL hw9)  M0)) rfl<|Aa<|MX.fin rfl<|RT.take b0 .t1 fun U6 x2 D5=>?_
 obtain ⟨y2,E5⟩:=AI x2 (.a0 .d1)
 refine Ap hb0 func130 rfl .nil rfl ?_
 cases h
 exact ⟨y2.ag,fun w9 hw9=>aC rfl⟩
 refine AH (Ak rfl)<|AH (Ak rfl)<|AH (AF rfl (A0.memA .hd))<|RG.yieldP (fd:=130) (vs:=[vI ((j0:Nat):Int),.agg #[.string x0.fC,vI x0.fA,z1,A1,B1,.bool x0.fv]]) (.yes rfl rfl) rfl (e2 rfl rfl) A0 .t1 v4 rfl rfl rfl fun J4 E3 q6=>Ar<|MX.begin A0 .t1 fun V6 b1 j3=>AA<|Ao<|AR rfl ((b1.memA .t4) 0 _ rfl)<|bk h fun y1 j4 h=>Ab (BE (i:=q0) (j:=1) rfl rfl j4)<|AQ [vI y1] b1 .t4 (o1 rfl) fun W6 z2 k3=>Aa<|AC<|MX.roundEnd E3 z2 .t1 fun X6 A2 p3=>AH (Bp rfl)<|Bv rfl rfl<|Aa<|BI rfl<|Ar<|AC<|Ao<|Ab (Bn (i:=j0) (j:=1) rfl rfl (by omega))<|Ae rfl<|Aa ?_
 obtain ⟨B2,q3⟩:=AI A2 .d1
 exact M1 (j0 + 1,y1) B2 (Tt Z2 (Tt C0 (Tt b3 (Tt j3 (Tt k3 (Tt p3 q3)))))) h
 refine Be rfl ?_
 have h:=aF h p1
 try dsimp only at h
 refine MX.fin rfl<|Ap (u:=.tuple #[]) k1 func163 rfl .nil rfl<|MX.endRange0 E0 .hd (by intro h9; cases h9) fun Y6 C2 G5=>?_
 obtain ⟨v0,H5⟩:=AI C2 .d1
 refine AC<|Ac<|Ae rfl ?_
 have s1:=AS h1_0 v0
 have k6:a1.length <= 281474976710656:=Ba s1
 refine Ab (Bg (xs:=a1) underlying41 rfl s1)<|AR rfl ((v0.memA .t2) 0 _ rfl)<|Ab (FV.neq (i:=((a1.length:Nat):Int)) (j:=q0) rfl rfl)<|xk h (fun U4 P0 h=>?_) (fun D7 P0 h=>?_)
 refine BC (fst:=[]) (cap:=[]) .plain (bd 129) rfl (e2 rfl rfl) (fun w9 hw9=>aq_c n (v0.hL0 hL hw9)  P0) fun Z6 A3=>?_
 obtain ⟨D2,I5⟩:=v0.agr A3
 refine PN.take D2 .hd fun b7 E2 J5=>?_
 obtain ⟨F2,K5⟩:=AI E2 .d1
 cases h
 exact AZ hp0 func130 ⟨F2.ag,rfl⟩
 refine Bi (.tuple #[]) (bd 129) rfl (e2 rfl rfl) (fun w9 hw9=>AV (aq_c n (v0.hL0 hL hw9)  P0)) rfl<|Aa<|Ac<|Aj .plain rfl (Does.makeMap (κ:=Int) (ν:=Bool) v0) fun c7 W0 c1 M5=>Af rfl<|Aa<|Ai<|Ac<|Ae rfl<|Ab (Bg (xs:=a1) underlying41 rfl (AS h1_0 c1))<|Ae rfl<|Aa<|AA ?_
 obtain ⟨G2,P5⟩:=AI c1 (.a0 (.a0 .d2))
 refine tn h fun v6 X3 H0=>MX.lo (α:=Nat × (List (Int × Bool))) (fun ⟨g0,p0⟩=>[(2,vP y0),(5,.map (some W0)),(20,v1_0),(21,vI ((a1.length:Nat):Int)),(22,vI ((g0:Nat):Int))]) (fun ⟨g0,p0⟩=>[.obj W0 (cv (p0:List (Int × Bool))),.obj D0 (.deferred (some [])),.cells y0 [vI a0.fF.fj,vI a0.fF.fh,vI a0.fF.fl,v0_3,vI a0.fk] 137]) (fun ⟨g0,p0⟩=>(g0,p0)) (0,([]:List (Int × Bool))) X3 G2 ?_
 rintro D4 ⟨g0,p0⟩ y7 Y0 c0 j1 h
 unfold ak_l2 at h
 try dsimp only at h
 refine Ac<|Ab (Bq (i:=g0) (j:=a1.length) rfl rfl)<|Aa<|Ai<|AT rfl h (fun H1 h=>?_) (fun H1 h=>?_)
 refine Ar<|Ai<|AA<|Ac<|bk h fun t0 s4 h=>?_
 obtain ⟨A4,H4,I3,P3,K1,g4,U3⟩:=Bk (AS h1_0 c0) s4
 have J3:K1 = [vI t0]:=g4; subst J3
 refine Ab (Bj 1 g0 rfl I3 rfl rfl P3)<|AR rfl (U3 0 _ rfl)<|Af rfl<|Aa<|Ac<|Ae rfl<|Ab (BK (i:=t0) (j:=0) rfl rfl)<|Ae rfl<|BA (s:=28) rfl h (fun I1 h=>?_) (fun I1 h=>?_)
 refine Au<|Au<|Au<|Au<|Bm rfl rfl<|xk h (fun V4 Q0 h=>?_) (fun E7 Q0 h=>?_)
 have h:=au h H0
 refine BC (fst:=[]) (cap:=[]) .plain (bd 129) rfl (e2 rfl rfl) (fun w9 hw9=>aq_c n (c0.hL0 hL hw9)  Q0) fun d7 B3=>?_
 obtain ⟨H2,Q5⟩:=c0.agr B3
 refine PN.take H2 .t1 fun g7 I2 R5=>?_
 obtain ⟨J2,U5⟩:=AI I2 (.a0 .d1)
 cases h
 exact AZ hp0 func130 ⟨J2.ag,rfl⟩
 refine Bi (.tuple #[]) (bd 129) rfl (e2 rfl rfl) (fun w9 hw9=>AV (aq_c n (c0.hL0 hL hw9)  Q0)) rfl<|Aa<|Ao<|Ae rfl<|Ae rfl<|BU .plain (Acts.mapUpdate (kv:=t0) (vv:=true) c0 .hd underlying213 underlying3 rfl rfl rfl rfl) fun j7 K2 s3=>Aa<|AC<|Ao<|Ab (Bn (i:=g0) (j:=1) rfl rfl (by omega))<|Ae rfl<|Aa<|Y0 (g0 + 1,bz p0 t0 true) K2 (Tt j1 s3) h
 refine AH (Ak rfl)<|RG.fg 4 rfl<|AH (AL rfl ((c0.memA .t2) 4 _ rfl))<|AH (FV.geq (i:=t0) (j:=a0.fk) rfl rfl)<|Bv rfl rfl<|xk h (fun W4 R0 h=>?_) (fun F7 R0 h=>?_)
 have h:=au h H0
 refine BC (fst:=[]) (cap:=[]) .plain (bd 129) rfl (e2 rfl rfl) (fun w9 hw9=>aq_c n (c0.hL0 hL hw9)  R0) fun k7 C3=>?_
 obtain ⟨M2,V5⟩:=c0.agr C3
 refine PN.take M2 .t1 fun p7 P2 W5=>?_
 obtain ⟨Q2,X5⟩:=AI P2 (.a0 .d1)
 cases h
 exact AZ hp0 func130 ⟨Q2.ag,rfl⟩
 refine Bi (.tuple #[]) (bd 129) rfl (e2 rfl rfl) (fun w9 hw9=>AV (aq_c n (c0.hL0 hL hw9)  R0)) rfl<|Aa<|Ao<|Ae rfl<|Ae rfl<|BU .plain (Acts.mapUpdate (kv:=t0) (vv:=true) c0 .hd underlying213 underlying3 rfl rfl rfl rfl) fun q7 R2 u3=>Aa<|AC<|Ao<|Ab (Bn (i:=g0) (j:=1) rfl rfl (by omega))<|Ae rfl<|Aa<|Y0 (g0 + 1,bz p0 t0 true) R2 (Tt j1 u3) h
 refine Be rfl ?_
 have h:=aF h H0
 try dsimp only at h
 refine Ao<|Ae rfl<|Ab (FV.len_map (D:=p0) c0 .hd underlying213 rfl)<|AX 4 rfl<|AR rfl ((c0.memA .t2) 4 _ rfl)<|Ab (FV.neq (i:=((p0.length:Nat):Int)) (j:=a0.fk) rfl rfl)<|xk h (fun X4 U0 h=>?_) (fun G7 U0 h=>?_)
 refine BC (fst:=[]) (cap:=[]) .plain (bd 129) rfl (e2 rfl rfl) (fun w9 hw9=>aq_c n (c0.hL0 hL hw9)  U0) fun s7 D3=>?_
 obtain ⟨U2,Y5⟩:=c0.agr D3
 refine PN.take U2 .t1 fun t7 V2 Z5=>?_
 obtain ⟨W2,b6⟩:=AI V2 (.a0 .d1)
 cases h
 exact AZ hp0 func130 ⟨W2.ag,rfl⟩
 refine Bi (.tuple #[]) (bd 129) rfl (e2 rfl rfl) (fun w9 hw9=>AV (aq_c n (c0.hL0 hL hw9)  U0)) rfl<|Aa<|MX.fin rfl<|RT.take c0 .t1 fun u7 X2 c6=>?_
 obtain ⟨Y2,d6⟩:=AI X2 (.a0 .d1)
 refine Ap hb0 func130 rfl .nil rfl ?_
 cases h
 exact ⟨Y2.ag,fun w9 hw9=>aC rfl⟩
theorem aw:ElT Tryz.prog 40 3 (Rep.size Int) 8 (vI 0) [vI 0]:=⟨underlying40,by kernel_rfl,rfl,rfl,rfl,rfl⟩
def aW_l1 (_n:Nat) (a0:Tl) (a1:List Int) (j0:Nat × (List Int) -> Option ((Except Te (List Int)) ⊕ (List Int))):Nat × (List Int) -> Option ((Except Te (List Int)) ⊕ (List Int))
  | (b0,c0)=>(if b0 < a0.fF.fu.length then (a0.fF.fu[b0]?).bind fun d0=>(if d0.fv = true then some (.inl (.ok c0)) else (a1[b0]?).bind fun g0=>(idx c0 g0).bind fun p0=>(chk (p0 + d0.fA)).bind fun k0=>(put c0 ((g0.toNat:Nat):Int) k0).bind fun q0=>j0 (b0 + 1,q0)) else some (.inr c0))
def aW_p (n:Nat) (a0:Tl) (a1:List Int):Option (Except Te (List Int)):=
  (ak_p n a0 a1).bind fun g0=>exc g0 (fun _y23=>(mk a0.fk (0:Int)).bind fun d0=>thn (am (aW_l1 n a0 a1) n (0,d0)) (fun c0=>some (.ok c0))) (fun b0=>some (.error b0))
theorem aW_c (n:Nat) {L w} (hL:hl L w) (a0:Tl) {v0_3:Value} (h0_3:Rep.R w L [v0_3] a0.fF.fu) {a1:List Int} {v1_0:Value} (h1_0:Rep.R w L [v1_0] a1)  {r:Except Te (List Int)} (h:aW_p n a0 a1 = some r) :
 Cl 82 #[.agg #[vI a0.fF.fj,vI a0.fF.fh,vI a0.fF.fl,v0_3,vI a0.fk],v1_0] w (aK w (fun (y:List Int) w' u=>∃ v0_0:Value,u = v0_0/\Rep.R w' L [v0_0] y) (fun e=>.iface 185 (.agg #[vI e.fE])) r):=by
 unfold aW_p at h
 refine BO func82 rfl rfl rfl fun _ cs0 hb0 hp0=>Ac<|RG.bx (Az w) rfl rfl fun u4 W0 Z0 X3=>RG.bx Z0 rfl (Rep.c1 (AS h1_0 Z0)) fun v4 X0 d0 Y3=>Af rfl<|Aa<|Ac<|Ab (AF rfl (d0.memA .t1))<|AR rfl ((d0.memA .hd) 0 _ rfl)<|xk h (fun W3 M0 h=>?_) (fun Q4 M0 h=>?_)
 refine BC (fst:=[]) (cap:=[]) .plain (bd 130) rfl (e2 rfl rfl) (fun w9 hw9=>ak_c n (d0.hL0 hL hw9) a0 (d0.k0 h0_3 hw9) (d0.k0 h1_0 hw9) M0) fun x4 M2=>?_
 obtain ⟨X1,Z3⟩:=d0.agr M2
 cases h
 exact AZ hp0 func82 ⟨X1.ag,rfl⟩
 refine Bi (.tuple #[]) (bd 130) rfl (e2 rfl rfl) (fun w9 hw9=>AV (ak_c n (d0.hL0 hL hw9) a0 (d0.k0 h0_3 hw9) (d0.k0 h1_0 hw9) M0)) rfl<|Aa<|Ac<|AX 4 rfl<|AR rfl ((d0.memA .t1) 4 _ rfl)<|bk h fun J1 E1 h=>Aj .plain rfl (Does.mk (α:=Int) E1 d0 aw rfl) fun D4 q0 g1 c4=>?_
 have Q2:=AE (cs:=(List.replicate a0.fk.toNat [vI 0]).flatten) (xs:=J1) g1 L (BR E1 rfl)
 refine RG.nl [vN] g1 fun J4 Y0 H0 I2=>BU .plain (Ay (news:=[(.slice (some ⟨q0,0,none⟩) a0.fk.toNat a0.fk.toNat)]) H0 .hd rfl rfl rfl (St.c1 (α:=Int) H0 .t1) rfl rfl (o1 (St.o1 (α:=Int) H0 .t1))) fun D3 x0 J2=>Aa<|Ai<|Ac<|Ab (AF rfl (x0.memA .t3))<|jE (bd 131) rfl (e1 rfl) (fun w9 hw9=>Calls.gives (dR_c n (x0.hL hL hw9) a0 (x0.km h0_3 hw9)) fun (w8:World) (u8:Value) ⟨b0_,hu_,s_⟩=>(⟨b0_,hu_,s_.from hw9⟩:∃ u0:Nat,u8 = Value.func (.func 163) #[] #[vP u0]/\St D3 w8 [.cells u0 [vI a0.fF.fj,vI a0.fF.fh,vI a0.fF.fl,v0_3,vI a0.fk] 137])) rfl fun M4 t4 g4 ⟨u0,v3,G1⟩=>?_
 subst v3
 refine Aa<|AA<|MX.rangeP (lb:=[vP u0]) rfl (ea x0 G1) rfl (bd 163) func163 rfl rfl rfl fun P4 P0 V0 F1 V3 I0 K2 C3 s1 p4=>Ac<|AX 0 rfl<|AX 3 rfl<|AR rfl ((aX (I0.memA .t2) 0) 3 _ rfl) ?_
 have z1:=AS h0_3 I0
 have j4:a0.fF.fu.length <= 281474976710656:=Ba z1
 refine Ab (Bg (xs:=a0.fF.fu) underlying44 rfl z1)<|Ae rfl<|Aa<|AA<|tn h fun q4 g3 v1=>MX.lf (α:=Nat × (List Int) × (List Value)) (fun ⟨c0,p0,s0⟩=>[(0,.func (.yield P0) #[] #[]),(7,v0_3),(8,vI ((a0.fF.fu.length:Nat):Int)),(9,vI ((c0:Nat):Int))]) (fun ⟨c0,p0,s0⟩=>[.obj P0 (lpO F1 .ready none),.obj V0 (.deferred (some [])),.cells u0 [vI a0.fF.fj,vI a0.fF.fh,vI a0.fF.fl,v0_3,vI a0.fk] 137,.cells Y0 [(.slice (some ⟨q0,0,none⟩) a0.fk.toNat a0.fk.toNat)] 40,rr w 3 Int (.slice (some ⟨q0,0,none⟩) a0.fk.toNat a0.fk.toNat) p0.length s0,.cells X0 [v1_0] 41,.cells W0 [vI a0.fF.fj,vI a0.fF.fh,vI a0.fF.fl,v0_3,vI a0.fk] 137]) (fun ⟨c0,p0,s0⟩ H1=>Cells H1 (bl [.obj P0 (lpO F1 .ready none),.obj V0 (.deferred (some [])),.cells u0 [vI a0.fF.fj,vI a0.fF.fh,vI a0.fF.fl,v0_3,vI a0.fk] 137,.cells Y0 [(.slice (some ⟨q0,0,none⟩) a0.fk.toNat a0.fk.toNat)] 40,rr w 3 Int (.slice (some ⟨q0,0,none⟩) a0.fk.toNat a0.fk.toNat) p0.length s0,.cells X0 [v1_0] 41,.cells W0 [vI a0.fF.fj,vI a0.fF.fh,vI a0.fF.fl,v0_3,vI a0.fk] 137] ++ L) s0 p0) (fun ⟨c0,p0,s0⟩=>(c0,p0)) (0,J1,(List.replicate a0.fk.toNat [vI 0]).flatten) g3 I0 (AD Q2 (Tt I2 (Tt J2 (Tt (jc x0 G1) K2)))) ?_
 rintro H3 ⟨c0,p0,s0⟩ H1 W1 C0 u2 J0 h
 unfold aW_l1 at h
 try dsimp only at h
 refine Ac<|Ab (Bq (i:=c0) (j:=a0.fF.fu.length) rfl rfl)<|Aa<|Ai<|AT rfl h (fun P1 h=>?_) (fun P1 h=>?_)
 refine Ar<|Ai<|AA<|Ac<|Ae rfl<|bk h fun j0 x3 h=>?_
 obtain ⟨F3,K3,U2,Y2,R3,j3,b3⟩:=Bk (AS h0_3 C0) x3
 obtain ⟨Q0,R0,U0,rfl,B1,C1,D1⟩:=ba j3
 refine Ab (Bj 6 c0 rfl U2 rfl rfl Y2)<|Ab (AF rfl b3)<|RG.nl [.string ⟨#[]⟩,vI 0,vN,vN,vN,.bool false] C0 fun y4 I3 Y1 y0=>Af rfl<|AQ [.string j0.fC,vI j0.fA,Q0,R0,U0,.bool j0.fv] Y1 .hd (o6 rfl rfl (AP (Am B1 y0)) (AP (Am C1 y0)) (AP (Am D1 y0)) rfl) fun z4 v0 k1=>Aa<|Ac<|AX 5 rfl<|AR rfl ((v0.memA .hd) 5 _ rfl)<|Ae rfl<|RG.ifb (s:=16) rfl h (fun Q1 h=>?_) (fun Q1 h=>?_)
 refine Au<|Au<|Au<|Au<|Au<|Bm rfl rfl<|Aa<|Bb rfl ?_
 have h:=au h v1
 refine Al rfl<|Ap (u:=.tuple #[]) s1 func163 rfl .nil rfl<|MX.endRange0 v0 .t1 (by intro h9; cases h9) fun A4 Z1 v2=>?_
 obtain ⟨b1,x2⟩:=AI Z1 (.a0 .d1)
 refine AC<|Ac<|AR rfl ((b1.memA .t3) 0 _ rfl)<|Af rfl<|Aa<|Al rfl<|RT.take b1 .t1 fun B4 b2 y2=>?_
 obtain ⟨D0,z2⟩:=AI b2 (.a0 .d1)
 have E0:=Br D0 .t3
 have b4:=Bs D0 .t3
 have k3:=Bu (α:=Int) (v:=(.slice (some ⟨q0,0,none⟩) a0.fk.toNat a0.fk.toNat)) (xs:=p0) E0 L (Bf (α:=Int) D0 .t3 (AD J0 (Tt y0 (Tt k1 (Tt v2 (Tt x2 (Tt y2 z2)))))) hL)
 refine AY hb0 func82 rfl rfl ?_
 cases h
 exact ⟨E0.ag,fun w9 hw9=>aC ⟨(.slice (some ⟨q0,0,none⟩) a0.fk.toNat a0.fk.toNat),rfl,E0.kd k3 hw9⟩⟩
 refine AH (Ak rfl)<|AH (Ak rfl)<|AH (AF rfl (v0.memA .hd))<|RG.yieldP (fd:=82) (vs:=[vI ((c0:Nat):Int),.agg #[.string j0.fC,vI j0.fA,Q0,R0,U0,.bool j0.fv]]) (.yes rfl rfl) rfl (e2 rfl rfl) v0 .t1 C3 rfl rfl rfl fun U3 P2 k4=>Ac<|Af rfl<|Aa<|Ao<|RG.nl [.string ⟨#[]⟩,vI 0,vN,vN,vN,.bool false] v0 fun C4 J3 c2 A2=>?_
 have A0:=Tt y0 (Tt k1 A2)
 refine AQ [.string j0.fC,vI j0.fA,Q0,R0,U0,.bool j0.fv] c2 .hd (o6 rfl rfl (AP (Am B1 A0)) (AP (Am C1 A0)) (AP (Am D1 A0)) rfl) fun E4 g2 B2=>Aa<|MX.begin g2 .t2 fun F4 t0 C2=>AA<|du 11 fun b0 g0=>Rx 0 3680 b0 rfl g0 (AL rfl ((t0.memA .t5) 0 _ rfl))<|Rx 1 3704 b0 rfl g0 (AL rfl ((t0.memA .t7) 0 _ rfl))<|Rv 2 b0 rfl g0 (fun _=>Ak rfl)<|bk h fun B0 y3 h=>?_
 obtain ⟨G3,M3,V2,Z2,R1,p3,c3⟩:=Bk (AS h1_0 t0) y3
 have W2:R1 = [vI B0]:=p3; subst W2
 refine Rv 3 b0 rfl g0 (fun _=>Bj 1 c0 rfl V2 rfl rfl Z2)<|Rx 4 3680 b0 rfl g0 (AL rfl (c3 0 _ rfl))<|bk h fun I1 z3 h=>?_
 obtain ⟨x1,A3⟩:=aA z3
 have A1:=Tt A0 (Tt B2 C2)
 have y1:=AD J0 A1
 obtain ⟨K1,P3,z0,K0,U1,q3,d3⟩:=St.nth (α:=Int) t0 .t6 y1 A3
 obtain ⟨M1,Q3,u1⟩:=BJ (α:=Int) t0 .t6 K0
 obtain rfl:K1 = ⟨M1,0,none⟩:=by rw [u1] at z0; cases z0; rfl
 have X2:U1 = [vI I1]:=q3; subst X2
 refine Rv 5 b0 rfl g0 (fun _=>Bj 1 (B0.toNat) rfl z0 rfl x1 K0)<|Rx 6 3584 b0 rfl g0 (AL rfl (d3 0 _ rfl))<|Rv 7 b0 rfl g0 (fun _=>AU 1 rfl)<|Rx 8 3584 b0 rfl g0 (AL rfl ((t0.memA .hd) 1 _ rfl))<|bk h fun s4 u3 h=>Rv 9 b0 rfl g0 (fun _=>BE (i:=I1) (j:=j0.fA) rfl rfl u3)<|Rv 10 b0 rfl g0 (fun _=>Bj 1 (B0.toNat) rfl z0 rfl x1 K0)<|bk h fun E3 B3 h=>BT (i:=11) (rk b0) (RO.acts (m' :=4095) (sk b0) rfl rfl .plain (Acts.set (α:=Int) (i:=B0.toNat) B3 t0 u1 (fun _=>.t6) y1 rfl rfl rfl rfl rfl rfl) (fun G4 ⟨V1,j2,D2,R2⟩=>?_))
 refine AM (dk b0)<|AC<|MX.roundEnd P2 j2 .t2 fun H4 k2 p1=>AH (Bp rfl)<|Bv rfl rfl<|Aa<|BI rfl<|Ar<|AC<|Ao<|Ab (Bn (i:=c0) (j:=1) rfl rfl (by omega))<|Ae rfl<|Aa ?_
 obtain ⟨p2,q1⟩:=AI k2 .d2
 exact W1 (c0 + 1,E3,V1) p2 (Tt u2 (Tt A1 (Tt D2 (Tt p1 q1)))) (AD R2 (Tt p1 q1)) h
 refine Be rfl ?_
 have h:=aF h v1
 try dsimp only at h
 refine MX.fin rfl<|Ap (u:=.tuple #[]) s1 func163 rfl .nil rfl<|MX.endRange0 C0 .hd (by intro h9; cases h9) fun I4 q2 E2=>?_
 obtain ⟨j1,F2⟩:=AI q2 .d1
 refine AC<|Ac<|AR rfl ((j1.memA .t2) 0 _ rfl)<|Af rfl<|Aa<|Al rfl<|RT.take j1 .hd fun K4 s2 G2=>?_
 obtain ⟨F0,H2⟩:=AI s2 .d1
 have G0:=Br F0 .t2
 have d4:=Bs F0 .t2
 have s3:=Bu (α:=Int) (v:=(.slice (some ⟨q0,0,none⟩) a0.fk.toNat a0.fk.toNat)) (xs:=p0) G0 L (Bf (α:=Int) F0 .t2 (AD J0 (Tt E2 (Tt F2 (Tt G2 H2)))) hL)
 refine AY hb0 func82 rfl rfl ?_
 cases h
 exact ⟨G0.ag,fun w9 hw9=>aC ⟨(.slice (some ⟨q0,0,none⟩) a0.fk.toNat a0.fk.toNat),rfl,G0.kd s3 hw9⟩⟩
def ct_p (n:Nat) (a0:Td) (a1:Int) (a2:List Int):Option (Except Te (List Int)):=
  (cC_p n a0 a1).bind fun y3=>exc y3 (fun d0=>(aW_p n d0 a2).bind fun g0=>exc g0 (fun j0=>some (.ok j0)) (fun c0=>some (.error c0))) (fun b0=>some (.error b0))
theorem ct_c (n:Nat) {L w} (hL:hl L w) (a0:Td) {v0_3:Value} (h0_3:Rep.R w L [v0_3] a0.fu) {p0:Nat} (m0:∀ j9 v9,([vI a0.fj,vI a0.fh,vI a0.fl,v0_3]:List Value)[j9]? = some v9 -> w.cell? ((⟨p0,0,none⟩:Addr).add j9) = some v9) {a1:Int} {p1:Nat} (m1:∀ j9 v9,([vI a1]:List Value)[j9]? = some v9 -> w.cell? ((⟨p1,0,none⟩:Addr).add j9) = some v9) {a2:List Int} {v2_0:Value} (h2_0:Rep.R w L [v2_0] a2) {p2:Nat} (m2:∀ j9 v9,([v2_0]:List Value)[j9]? = some v9 -> w.cell? ((⟨p2,0,none⟩:Addr).add j9) = some v9)  {r:Except Te (List Int)} (h:ct_p n a0 a1 a2 = some r) :
 Cl 80 #[.pointer (some ⟨p0,0,none⟩),.pointer (some ⟨p1,0,none⟩),.pointer (some ⟨p2,0,none⟩)] w (aK w (fun (y:List Int) w' u=>∃ v0_0:Value,u = v0_0/\Rep.R w' L [v0_0] y) (fun e=>.iface 185 (.agg #[vI e.fE])) r):=by
 unfold ct_p at h
 have hS0:=Az w
 refine BO func80 rfl rfl rfl fun _ cs0 hb0 hp0=>Ac<|Af rfl<|Aa<|Ai<|du 6 fun kt1 kp2=>Rx 0 52 kt1 rfl kp2 (AF rfl (fun j9 v9 h9=>hS0.ag.cell0 (m0 j9 v9 h9)))<|Rx 1 52 kt1 rfl kp2 (AL rfl ((fun j9 v9 h9=>hS0.ag.cell0 (m1 j9 v9 h9)) 0 _ rfl))<|xk h (fun z0 hy3 h=>?_) (fun j0 hy3 h=>?_)
 refine Rx 3 48 kt1 rfl kp2 (AL rfl ((fun j9 v9 h9=>hS0.ag.cell0 (m2 j9 v9 h9)) 0 _ rfl))<|BT (i:=2) (rk kt1) (RO.callE (fst:=[]) (cap:=[]) rfl .plain (bd 81) rfl (e2 rfl rfl) (fun w9 hw9=>cC_c n (hS0.hL hL hw9) a0 (Aq h0_3 hw9) hy3) (fun I0 s0=>?_))
 obtain ⟨k0,B0⟩:=hS0.agr s0
 cases h
 exact AZ hp0 func80 ⟨k0.ag,rfl⟩
 refine Rx 3 48 kt1 rfl kp2 (AL rfl ((fun j9 v9 h9=>hS0.ag.cell0 (m2 j9 v9 h9)) 0 _ rfl))<|Bl 2 15 kt1 rfl .plain (bd 81) rfl (e2 rfl rfl) (fun w9 hw9=>AV (cC_c n (hS0.hL hL hw9) a0 (Aq h0_3 hw9) hy3)) rfl fun J0 H0 t0 ⟨F0,hu_,g0⟩=>?_
 subst hu_
 obtain ⟨b0,C0⟩:=hS0.agr t0
 refine xk h (fun A0 c0 h=>?_) (fun M0 c0 h=>?_)
 refine BT (i:=4) (rk kt1) (RO.callE (fst:=[]) (cap:=[]) rfl .plain (bd 82) rfl (e2 rfl rfl) (fun w9 hw9=>aW_c n (b0.hL hL hw9) j0 (Aq g0 hw9) (b0.km h2_0 hw9) c0) (fun K0 u0=>?_))
 obtain ⟨q0,D0⟩:=b0.agr u0
 cases h
 exact AZ hp0 func80 ⟨q0.ag,rfl⟩
 refine Bl 4 31 kt1 rfl .plain (bd 82) rfl (e2 rfl rfl) (fun w9 hw9=>AV (aW_c n (b0.hL hL hw9) j0 (Aq g0 hw9) (b0.km h2_0 hw9) c0)) rfl fun w32 y0 v0 ⟨G0,hu_,x0⟩=>?_
 subst hu_
 obtain ⟨d0,E0⟩:=b0.agr v0
 refine Rv 5 kt1 rfl kp2 (fun _=>Bh rfl)<|AM (dk kt1)<|Al rfl<|AY hb0 func80 rfl rfl ?_
 cases h
 exact ⟨d0.ag,fun w9 hw9=>aC ⟨y0,rfl,d0.kd x0 hw9⟩⟩
def cA_p (n:Nat) (a0:Td) (a1:List Int) (a2:Int):Option ((List Int) × Int):=
  (ct_p n a0 a2 a1).bind fun c0=>exc c0 (fun d0=>some (d0,(0:Int))) (fun b0=>some (([]:List Int),b0.fE))
theorem cA_c (n:Nat) {L w} (hL:hl L w) (a0:Td) {v0_3:Value} (h0_3:Rep.R w L [v0_3] a0.fu) {a1:List Int} {v1_0:Value} (h1_0:Rep.R w L [v1_0] a1) {a2:Int}  {r:(List Int) × Int} (h:cA_p n a0 a1 a2 = some r) :
 Cl 26 #[.agg #[vI a0.fj,vI a0.fh,vI a0.fl,v0_3],v1_0,vI a2] w (ah w fun w' u=>∃ v0_0:Value,u = .tuple #[v0_0,vI r.2]/\Rep.R w' L [v0_0] r.1):=by
 unfold cA_p at h
 refine AG func26 rfl rfl rfl fun _ cs0 hb0=>Ac<|RG.bx (Az w) rfl rfl fun M1 g0 D0 B1=>RG.bx D0 rfl (Rep.c1 (AS h1_0 D0)) fun V1 j0 M0 C1=>RG.bx M0 rfl rfl fun W1 k0 P0 D1=>Af rfl<|Af rfl<|Aa<|Ac<|Ab (BP (vs:=[]) (us:=[vP g0,vP k0,vP j0]) aj (e3 rfl rfl rfl))<|By (fst:=[]) (cap:=[]) (vs:=[.func (.func 80) #[] #[vP g0,vP k0,vP j0]]) .plain (bd 79) func79 rfl rfl rfl rfl (e1 rfl) rfl fun x1 E0 J1=>Ac<|RG.nl [vN] P0 fun X1 p0 Q0 E1=>RG.nl [vI 0] Q0 fun Y1 d0 b0 F1=>Aa<|Ac<|Ab (BP (vs:=[]) (us:=[vP p0,vP d0]) aj (e2 rfl rfl))<|RG.defer (fst:=[]) (cap:=[vP p0,vP d0]) (vs:=[]) rfl .plain rfl aj<|Aa<|Ac<|Ae rfl<|xk h (fun s0 z0 h=>?_) (fun g2 z0 h=>?_)
 refine BC (fst:=[]) (cap:=[vP g0,vP k0,vP j0]) .plain (bd 80) rfl aj (fun w9 hw9=>ct_c n (b0.hL hL hw9) a0 (b0.km h0_3 hw9) (ao hw9 (b0.memA .t4)) (ao hw9 (b0.memA .t2)) (b0.km h1_0 hw9) (ao hw9 (b0.memA .t3)) z0) fun Z1 b1=>?_
 obtain ⟨R0,G1⟩:=b0.agr b1
 refine PN.callD (vs:=[]) (cap:=[vP p0,vP d0]) (bd 127) func127 rfl rfl rfl fun v1 g1 k1=>Ac<|RG.recover1 .plain g1 rfl<|Af rfl<|Aa<|Ac<|Ae rfl<|Ab (FV.neqI underlying20 rfl rfl)<|Aa<|Bb rfl<|Ac<|Ae rfl<|Ab (FV.assertT rfl rfl)<|Ae rfl<|Ab (Ah rfl rfl)<|Ab (Ah rfl rfl)<|RG.nl [vI 0] R0 fun b2 s1 U0 H1=>AQ [vI s0.fE] U0 .hd (o1 rfl) fun c2 u0 I1=>Af rfl<|Aa<|Ai<|Ac<|Ae rfl<|Ab (Bp rfl)<|Aa<|BI rfl<|Ar<|Ac<|Af rfl<|Aa<|du 3 fun c0 A0=>Rv 0 c0 rfl A0 (fun _=>Ak rfl)<|Rv 1 c0 rfl A0 (fun _=>AU 0 rfl)<|RD.mo (α:=Unit) (fun ()=>[(1,vP d0),(19,vI s0.fE)]) (fun ()=>[.cells d0 [vI 0] 54,.cells p0 [vN] 40,.cells k0 [vI a2] 3,.cells j0 [v1_0] 41,.cells g0 [vI a0.fj,vI a0.fh,vI a0.fl,v0_3] 46]) u0 1 15 ?_ ?_
 rintro ⟨⟩ d2 G0 y1
 try dsimp only
 refine Bz 4 31 c0 rfl rfl .plain (Ay (news:=[vI s0.fE]) G0 .hd rfl rfl rfl rfl rfl rfl (o1 rfl)) fun P1 q0 z1=>AM (dk c0)<|MX.fin rfl<|RT.leaveD1 k1 func127 rfl .nil<|Ap (u:=.tuple #[vN,vI s0.fE]) E0 func79 rfl (.cons (.one rfl rfl ((q0.memA .t1) 0 _ rfl)) (.cons (.one rfl rfl ((q0.memA .hd) 0 _ rfl)) .nil)) rfl<|Ab (Ah rfl rfl)<|Ab (Ah rfl rfl)<|Af rfl<|Af rfl<|Aa<|Al rfl ?_
 have p1:=BS (α:=Int) q0 L
 refine Ap hb0 func26 rfl (.cons (.tmp rfl) (.cons (.tmp rfl) .nil)) rfl ?_
 cases h
 exact ⟨q0.ag,fun w9 hw9=>⟨vN,rfl,q0.kd p1 hw9⟩⟩
 intro C0
 refine BB [2,3] (rk c0) ⟨?_,?_,trivial⟩
 refine RO.val (m' :=7) (sk c0) rfl .plain rfl (AL rfl ((u0.memA .hd) 0 _ rfl))<|Bz 3 15 c0 rfl rfl .plain (Ay (news:=[vN]) u0 .t2 rfl rfl rfl rfl rfl rfl (o1 rfl)) fun q1 v0 x0=>?_
 obtain ⟨H0,V0⟩:=AI v0 .d1
 exact C0 () H0 (Tt x0 V0)
 refine RO.now (m' :=11) (sk c0) rfl rfl .plain (Ay (news:=[vN]) u0 .t2 rfl rfl rfl rfl rfl rfl (o1 rfl)) fun q1 v0 x0=>Rx 2 16 c0 rfl A0 (AL rfl ((v0.memA .hd) 0 _ rfl)) ?_
 obtain ⟨I0,W0⟩:=AI v0 .d1
 exact C0 () I0 (Tt x0 W0)
 refine Bd (fst:=[]) (cap:=[vP g0,vP k0,vP j0]) .plain (bd 80) rfl aj (fun w9 hw9=>AV (ct_c n (b0.hL hL hw9) a0 (b0.km h0_3 hw9) (ao hw9 (b0.memA .t4)) (ao hw9 (b0.memA .t2)) (b0.km h1_0 hw9) (ao hw9 (b0.memA .t3)) z0)) rfl fun Q1 B0 Z0 ⟨K1,hu_,y0⟩=>?_
 subst hu_
 obtain ⟨J0,A1⟩:=b0.agr Z0
 refine BU .plain (Ay (news:=[B0]) J0 .t1 rfl rfl rfl (Rep.c1 y0) rfl rfl (o1 (AP y0))) fun R1 K0 X0=>AQ [vI 0] K0 .hd (o1 rfl) fun U1 t0 Y0=>Aa<|Al rfl<|RT.callD (vs:=[]) (cap:=[vP p0,vP d0]) (bd 127) func127 rfl rfl rfl fun u1 F0 j1=>Ac<|RG.recover0 .plain F0 rfl<|Af rfl<|Aa<|Ac<|Ae rfl<|Ab (FV.neqI0 underlying20 rfl rfl)<|Aa<|BI rfl<|Ar<|MX.fin rfl<|RT.leaveD0 F0 j1 func127 rfl .nil<|Ap (u:=.tuple #[B0,vI 0]) E0 func79 rfl (.cons (.one rfl rfl ((t0.memA .t1) 0 _ rfl)) (.cons (.one rfl rfl ((t0.memA .hd) 0 _ rfl)) .nil)) rfl<|Ab (Ah rfl rfl)<|Ab (Ah rfl rfl)<|Af rfl<|Af rfl<|Aa<|Al rfl<|Ap hb0 func26 rfl (.cons (.tmp rfl) (.cons (.tmp rfl) .nil)) rfl ?_
 cases h
 exact ⟨t0.ag,fun w9 hw9=>⟨B0,rfl,t0.kd (Am y0 (Tt X0 Y0)) hw9⟩⟩
def bt_p (_n:Nat) (a0:List Int) (a1:Int):Option (Except Te (List Int)):=
  (if a1 = 0 then some (.ok a0) else some (.error (⟨a1⟩:Te)))
theorem bt_c (n:Nat) {L w} (_hL:hl L w) {a0:List Int} {v0_0:Value} (h0_0:Rep.R w L [v0_0] a0) {a1:Int}  {r:Except Te (List Int)} (h:bt_p n a0 a1 = some r) :
 Cl 89 #[v0_0,vI a1] w (aK w (fun (y:List Int) w' u=>∃ v0_0:Value,u = v0_0/\Rep.R w' L [v0_0] y) (fun e=>.iface 145 (.agg #[vI e.fE])) r):=by
 unfold bt_p at h
 have hS0:=Az w
 refine BO func89 rfl rfl rfl fun _ cs0 hb0 hp0=>Ac<|Af rfl<|Aa<|Ai<|Ac<|Ae rfl<|Ab (FV.neq (i:=a1) (j:=0) rfl rfl)<|Aa<|MX.ifn rfl h (fun c1 h=>?_) (fun c1 h=>?_)
 refine Ar<|Ac<|Ae rfl<|Af rfl<|Aa<|Al rfl<|AY hb0 func89 rfl rfl ?_
 cases h
 exact ⟨hS0.ag,fun w9 hw9=>aC ⟨v0_0,rfl,hS0.kd h0_0 hw9⟩⟩
 refine Ao<|Ae rfl<|Ab (AO (vs:=[vI a1]) (u:=.agg #[vI a1]) (e1 rfl) (fun w9=>by kernel_rfl))<|Ab (BF rfl rfl)<|RG.panic .plain rfl ?_
 cases h
 exact AZ hp0 func89 ⟨hS0.ag,rfl⟩
structure Tj where
  fL:Int
  fall:Int
  deriving DecidableEq
instance:Rep Tj:=Rep.via (β:=Int × Int) fun x=>(x.fL,x.fall)
theorem fX {w:World} {L:List Nat} {cs:List Value} {x:Tj} (h:Rep.R w L cs x):cs = [vI x.fL,vI x.fall]:=by
  obtain ⟨c0,r0,rfl,h0,h⟩:=h
  have e0:c0 = [vI x.fL]:=h0; subst e0
  have e1:r0 = [vI x.fall]:=h; subst e1
  rfl
theorem oh {w:World} {L:List Nat} (a0:Int) (a1:Int):Rep.R w L [vI a0,vI a1] (⟨a0,a1⟩:Tj):=⟨[vI a0],[vI a1],rfl,rfl,rfl⟩
theorem el96:ElT Tryz.prog 96 99 (Rep.size Tj) 16 (.agg #[vI 0,vI 0]) [vI 0,vI 0]:=⟨underlying96,by kernel_rfl,rfl,rfl,rfl,rfl⟩
def ap_l1 (_n:Nat) (a1:List Int) (a0:Td) (a3:Int) (j0:Nat × (List Tj) -> Option (List Tj)):Nat × (List Tj) -> Option (List Tj)
  | (b0,c0)=>(if b0 < a1.length then (a1[b0]?).bind fun d0=>(idx c0 d0).bind fun g0=>(a0.fu[b0]?).bind fun p0=>(idx p0.fj a3).bind fun q0=>(chk (g0.fL + q0)).bind fun k0=>(put c0 ((d0.toNat:Nat):Int) (⟨k0,g0.fall⟩:Tj)).bind fun s0=>j0 (b0 + 1,s0) else some c0)
def ap_l2 (_n:Nat) (d0:List Int) (g0:Nat × (List Tj) -> Option (List Tj)):Nat × (List Tj) -> Option (List Tj)
  | (b0,c0)=>(if b0 < d0.length then (d0[b0]?).bind fun j0=>(c0[b0]?).bind fun k0=>(put c0 ((b0:Nat):Int) (⟨k0.fL,j0⟩:Tj)).bind fun p0=>g0 (b0 + 1,p0) else some c0)
def ap_p (n:Nat) (a0:Td) (a1:List Int) (a2:Int) (a3:Int):Option (Except Te (List Tj)):=
  (cA_p n a0 a1 a2).bind fun b0=>(bt_p n b0.1 b0.2).bind fun k0=>exc k0 (fun p0=>(if a3 < 0 then some (.error (⟨(2:Int)⟩:Te)) else (if a0.fj <= a3 then some (.error (⟨(2:Int)⟩:Te)) else (mk a2 (⟨(0:Int),(0:Int)⟩:Tj)).bind fun j0=>Option.bind (am (ap_l2 n p0) n (0,j0)) (fun d0=>Option.bind (am (ap_l1 n a1 a0 a3) n (0,d0)) (fun g0=>some (.ok g0)))))) (fun c0=>some (.error c0))
theorem ap_c (n:Nat) {L w} (hL:hl L w) (a0:Td) {v0_3:Value} (h0_3:Rep.R w L [v0_3] a0.fu) {a1:List Int} {v1_0:Value} (h1_0:Rep.R w L [v1_0] a1) {a2:Int} {a3:Int}  {r:Except Te (List Tj)} (h:ap_p n a0 a1 a2 a3 = some r) :
 Cl 41 #[.agg #[vI a0.fj,vI a0.fh,vI a0.fl,v0_3],v1_0,vI a2,vI a3] w (aK w (fun (y:List Tj) w' u=>∃ v0_0:Value,u = v0_0/\Rep.R w' L [v0_0] y) (fun e=>.iface 145 (.agg #[vI e.fE])) r):=by
 unfold ap_p at h
 refine BO func41 rfl rfl rfl fun _ cs0 hb0 hp0=>Ac<|RG.bx (Az w) rfl rfl fun X4 u0 x0 s4=>Af rfl<|Aa<|Ac<|Ab (AF rfl (x0.memA .hd))<|Ae rfl<|Ae rfl<|bk h fun k5 z3 h=>jE (bd 26) rfl (e3 rfl rfl rfl) (fun w9 hw9=>cA_c n (x0.hL hL hw9) a0 (x0.km h0_3 hw9) (x0.km h1_0 hw9) z3) rfl fun Y4 W4 W1 ⟨P4,hu_,c1⟩=>?_
 subst hu_
 obtain ⟨z0,t4⟩:=x0.agr W1
 refine Ab (Ah rfl rfl)<|Ab (Ah rfl rfl)<|xk h (fun q4 M0 h=>?_) (fun H0 M0 h=>?_)
 refine BC (fst:=[]) (cap:=[]) .plain (bd 89) rfl (e2 rfl rfl) (fun w9 hw9=>bt_c n (z0.hL hL hw9) (Aq c1 hw9) M0) fun b5 X1=>?_
 obtain ⟨P1,u4⟩:=z0.agr X1
 cases h
 exact AZ hp0 func41 ⟨P1.ag,rfl⟩
 refine jE (bd 89) rfl (e2 rfl rfl) (fun w9 hw9=>AV (bt_c n (z0.hL hL hw9) (Aq c1 hw9) M0)) rfl fun c5 A3 Y1 ⟨Q4,hu_,d1⟩=>?_
 subst hu_
 obtain ⟨A0,v4⟩:=z0.agr Y1
 refine Af rfl<|Aa<|Ac<|Ae rfl<|Ab (BK (i:=a3) (j:=0) rfl rfl)<|Ae rfl<|BA (s:=24) rfl h (fun C1 h=>?_) (fun C1 h=>?_)
 refine Au<|Au<|Au<|Au<|Bm rfl rfl<|By (fst:=[]) (cap:=[]) (vs:=[.bool true,vI 2]) .plain (bd 47) func47 rfl rfl rfl rfl (e2 rfl rfl) rfl fun d4 y4 P2=>Ac<|Ae rfl<|Aa<|Bb rfl<|Ao<|Ae rfl<|By (fst:=[]) (cap:=[]) (vs:=[vI 2]) .plain (bd 61) func61 rfl rfl rfl rfl (e1 rfl) rfl fun j4 z4 Q2=>Ac<|Ae rfl<|Ab (FV.neqN (i:=2) (j:=0) rfl rfl)<|Aa<|Bb rfl<|Ao<|Ae rfl<|Ab (AO (vs:=[vI 2]) (u:=.agg #[vI 2]) (e1 rfl) (fun w9=>by kernel_rfl))<|Ab (BF rfl rfl)<|RG.panic .plain rfl<|AZ Q2 func61<|AZ P2 func47 ?_
 cases h
 exact AZ hp0 func41 ⟨A0.ag,rfl⟩
 refine AH (Ak rfl)<|RG.fg 0 rfl<|AH (AL rfl ((A0.memA .hd) 0 _ rfl))<|AH (FV.geq (i:=a3) (j:=a0.fj) rfl rfl)<|Bv rfl rfl<|By (fst:=[]) (cap:=[]) (vs:=[.bool (decide (a0.fj <= a3)),vI 2]) .plain (bd 47) func47 rfl rfl rfl rfl (e2 rfl rfl) rfl fun k4 Z1 R2=>Ac<|Ae rfl<|Aa<|AT rfl h (fun D1 h=>?_) (fun D1 h=>?_)
 refine Ao<|Ae rfl<|By (fst:=[]) (cap:=[]) (vs:=[vI 2]) .plain (bd 61) func61 rfl rfl rfl rfl (e1 rfl) rfl fun p4 A4 U2=>Ac<|Ae rfl<|Ab (FV.neqN (i:=2) (j:=0) rfl rfl)<|Aa<|Bb rfl<|Ao<|Ae rfl<|Ab (AO (vs:=[vI 2]) (u:=.agg #[vI 2]) (e1 rfl) (fun w9=>by kernel_rfl))<|Ab (BF rfl rfl)<|RG.panic .plain rfl<|AZ U2 func61<|AZ R2 func47 ?_
 cases h
 exact AZ hp0 func41 ⟨A0.ag,rfl⟩
 refine Ar<|MX.fin rfl<|Ap (u:=.tuple #[]) Z1 func47 rfl .nil rfl<|Aa<|Ac<|Ae rfl<|bk h fun u1 k1 h=>Aj .plain rfl (Does.mk (α:=Tj) k1 A0 el96 rfl) fun g5 q0 Q0 U0=>Af rfl<|Aa<|Ai<|Ac<|Ae rfl ?_
 have b1:=Am d1 U0
 have E4:H0.length <= 281474976710656:=Ba b1
 refine Ab (Bg (xs:=H0) underlying40 rfl b1)<|Ae rfl<|Aa<|AA ?_
 obtain ⟨K4,K2,y2⟩:=aq h
 refine MX.lf (α:=Nat × (List Tj) × (List Value)) (fun ⟨d0,k0,s0⟩=>[(1,v1_0),(3,vI a3),(4,vP u0),(10,(.slice (some ⟨q0,0,none⟩) a2.toNat a2.toNat)),(33,A3),(34,vI ((H0.length:Nat):Int)),(35,vI ((d0:Nat):Int))]) (fun ⟨d0,k0,s0⟩=>[rr w 99 Tj (.slice (some ⟨q0,0,none⟩) a2.toNat a2.toNat) k0.length s0,.cells u0 [vI a0.fj,vI a0.fh,vI a0.fl,v0_3] 46]) (fun ⟨d0,k0,s0⟩ p1=>Cells p1 (bl [rr w 99 Tj (.slice (some ⟨q0,0,none⟩) a2.toNat a2.toNat) k0.length s0,.cells u0 [vI a0.fj,vI a0.fh,vI a0.fl,v0_3] 46] ++ L) s0 k0) (fun ⟨d0,k0,s0⟩=>(d0,k0)) (0,u1,(List.replicate a2.toNat [vI 0,vI 0]).flatten) K2 Q0 (AE (cs:=(List.replicate a2.toNat [vI 0,vI 0]).flatten) (xs:=u1) Q0 L (BR k1 (oh (0:Int) (0:Int)))) ?_
 rintro H3 ⟨d0,k0,s0⟩ p1 J1 v0 R0 B0 h
 unfold ap_l2 at h
 try dsimp only at h
 refine Ac<|Ab (Bq (i:=d0) (j:=H0.length) rfl rfl)<|Aa<|Ai<|AT rfl h (fun A1 h=>?_) (fun A1 h=>?_)
 refine Ar<|Ai<|AA<|Ac<|Ae rfl<|bk h fun E0 p3 h=>?_
 obtain ⟨D3,J3,j2,B2,E1,V2,F2⟩:=Bk (Am d1 (Tt U0 R0)) p3
 have k2:E1 = [vI E0]:=V2; subst k2
 refine Ab (Bj 1 d0 rfl j2 rfl rfl B2)<|AR rfl (F2 0 _ rfl)<|Af rfl<|Af rfl<|Aa<|Ao<|Ae rfl<|Ae rfl<|Ae rfl<|bk h fun F0 g1 h=>?_
 obtain ⟨v1,K3,J0,Y0,Y3,W2,F4⟩:=St.nth (α:=Tj) v0 .hd B0 g1
 obtain ⟨y1,M3,V0⟩:=BJ (α:=Tj) v0 .hd Y0
 obtain rfl:v1 = ⟨y1,0,none⟩:=by rw [V0] at J0; cases J0; rfl
 obtain rfl:=fX W2
 refine Ab (Bj 2 d0 rfl J0 rfl rfl Y0)<|AX 1 rfl ?_
 obtain ⟨P3,p2,B4,Z3,X2,G4,d2⟩:=St.nthAt (α:=Tj) v0 .hd B0 g1 V0
 obtain rfl:=fX X2
 refine bk h fun B3 x3 h=>RG.acts' .plain (Acts.setPart (α:=Tj) (i:=d0) (tot:=1) (ds:=[vI F0.fL,vI F0.fall]) (news:=[vI E0]) (full:=[vI F0.fL,vI E0]) x3 v0 p2 (fun _=>.hd) B0 d2 rfl rfl rfl rfl rfl rfl (oh F0.fL E0) rfl (o1 rfl)) fun Z4 ⟨F1,M1,R1,b2⟩=>Aa<|AC<|Ao<|Ab (Bn (i:=d0) (j:=1) rfl rfl (by omega))<|Ae rfl<|Aa<|J1 (d0 + 1,B3,F1) M1 (Tt R0 R1) b2 h
 refine Be rfl ?_
 have h:=y2 _ h
 try dsimp only at h
 refine Ai<|Ac<|Ae rfl ?_
 have Z0:=AS h1_0 v0
 have D4:a1.length <= 281474976710656:=Ba Z0
 refine Ab (Bg (xs:=a1) underlying41 rfl Z0)<|Ae rfl<|Aa<|AA ?_
 obtain ⟨M4,M2,z2⟩:=aq h
 refine MX.lf (α:=Nat × (List Tj) × (List Value)) (fun ⟨g0,p0,t0⟩=>[(3,vI a3),(4,vP u0),(10,(.slice (some ⟨q0,0,none⟩) a2.toNat a2.toNat)),(46,v1_0),(47,vI ((a1.length:Nat):Int)),(48,vI ((g0:Nat):Int))]) (fun ⟨g0,p0,t0⟩=>[rr w 99 Tj (.slice (some ⟨q0,0,none⟩) a2.toNat a2.toNat) p0.length t0,.cells u0 [vI a0.fj,vI a0.fh,vI a0.fl,v0_3] 46]) (fun ⟨g0,p0,t0⟩ q1=>Cells q1 (bl [rr w 99 Tj (.slice (some ⟨q0,0,none⟩) a2.toNat a2.toNat) p0.length t0,.cells u0 [vI a0.fj,vI a0.fh,vI a0.fl,v0_3] 46] ++ L) t0 p0) (fun ⟨g0,p0,t0⟩=>(g0,p0)) (0,k0,s0) M2 v0 B0 ?_
 rintro I3 ⟨g0,p0,t0⟩ q1 K1 j0 U1 C0 h
 unfold ap_l1 at h
 try dsimp only at h
 refine Ac<|Ab (Bq (i:=g0) (j:=a1.length) rfl rfl)<|Aa<|Ai<|AT rfl h (fun B1 h=>?_) (fun B1 h=>?_)
 refine Ar<|Ai<|AA<|Ac<|Ae rfl<|bk h fun G0 q3 h=>?_
 obtain ⟨E3,Q3,q2,C2,G1,Y2,G2⟩:=Bk (AS h1_0 j0) q3
 have s2:G1 = [vI G0]:=Y2; subst s2
 refine Ab (Bj 1 g0 rfl q2 rfl rfl C2)<|AR rfl (G2 0 _ rfl)<|Af rfl<|Af rfl<|Aa<|du 17 fun b0 c0=>Rv 0 b0 rfl c0 (fun _=>Ak rfl)<|Rv 1 b0 rfl c0 (fun _=>Ak rfl)<|bk h fun y0 s3 h=>?_
 obtain ⟨X0,j1⟩:=aA s3
 obtain ⟨x1,R3,D0,K0,b4,Z2,H2⟩:=St.nth (α:=Tj) j0 .hd C0 j1
 obtain ⟨z1,U3,W0⟩:=BJ (α:=Tj) j0 .hd K0
 obtain rfl:x1 = ⟨z1,0,none⟩:=by rw [W0] at D0; cases D0; rfl
 obtain rfl:=fX Z2
 refine Rv 2 b0 rfl c0 (fun _=>Bj 2 (G0.toNat) rfl D0 rfl X0 K0)<|Rv 3 b0 rfl c0 (fun _=>AU 0 rfl)<|Rx 4 245760 b0 rfl c0 (AL rfl (H2 0 _ rfl))<|Rv 5 b0 rfl c0 (fun _=>AU 3 rfl)<|Rx 6 259840 b0 rfl c0 (AL rfl ((j0.memA .t1) 3 _ rfl))<|Rv 7 b0 rfl c0 (fun _=>Ak rfl)<|bk h fun j5 t3 h=>?_
 obtain ⟨F3,V3,t2,D2,c4,b3,I2⟩:=Bk (AS h0_3 j0) t3
 obtain ⟨R4,U4,V4,rfl,c3,I4,J4⟩:=ba b3
 refine Rv 8 b0 rfl c0 (fun _=>Bj 6 g0 rfl t2 rfl rfl D2)<|Rv 9 b0 rfl c0 (fun _=>AU 2 rfl)<|Rx 10 258048 b0 rfl c0 (AL rfl (I2 2 _ rfl))<|Rv 11 b0 rfl c0 (fun _=>Ak rfl)<|bk h fun s1 u3 h=>?_
 obtain ⟨A2,v3⟩:=aA u3
 obtain ⟨G3,W3,u2,E2,H1,d3,J2⟩:=Bk c3 v3
 have v2:H1 = [vI s1]:=d3; subst v2
 refine Rv 12 b0 rfl c0 (fun _=>Bj 1 (a3.toNat) rfl u2 rfl A2 E2)<|Rx 13 245760 b0 rfl c0 (AL rfl (J2 0 _ rfl))<|bk h fun P0 k3 h=>Rv 14 b0 rfl c0 (fun _=>BE (i:=y0.fL) (j:=s1) rfl rfl k3)<|Rv 15 b0 rfl c0 (fun _=>Bj 2 (G0.toNat) rfl D0 rfl X0 K0)<|Rv 16 b0 rfl c0 (fun _=>AU 0 rfl) ?_
 obtain ⟨X3,x2,C4,g4,g3,H4,g2⟩:=St.nthAt (α:=Tj) j0 .hd C0 j1 W0
 obtain rfl:=fX g3
 refine bk h fun C3 y3 h=>BT (i:=17) (rk b0) (RO.acts (m' :=262143) (sk b0) rfl rfl .plain (Acts.setPart (α:=Tj) (i:=G0.toNat) (tot:=0) (ds:=[vI y0.fL,vI y0.fall]) (news:=[vI P0]) (full:=[vI P0,vI y0.fall]) y3 j0 x2 (fun _=>.hd) C0 g2 rfl rfl rfl rfl rfl rfl (oh P0 y0.fall) rfl (o1 rfl)) (fun d5 ⟨I1,Q1,V1,c2⟩=>?_))
 refine AM (dk b0)<|AC<|Ao<|Ab (Bn (i:=g0) (j:=1) rfl rfl (by omega))<|Ae rfl<|Aa<|K1 (g0 + 1,C3,I1) Q1 (Tt U1 V1) c2 h
 refine Be rfl ?_
 have h:=z2 _ h
 try dsimp only at h
 refine Ac<|Ae rfl<|Af rfl<|Aa<|Al rfl ?_
 have I0:=Br j0 .hd
 have x4:=Bs j0 .hd
 have j3:=Bu (α:=Tj) (v:=(.slice (some ⟨q0,0,none⟩) a2.toNat a2.toNat)) (xs:=p0) I0 L (Bf (α:=Tj) j0 .hd C0 hL)
 refine AY hb0 func41 rfl rfl ?_
 cases h
 exact ⟨I0.ag,fun w9 hw9=>aC ⟨(.slice (some ⟨q0,0,none⟩) a2.toNat a2.toNat),rfl,I0.kd j3 hw9⟩⟩

def ab (x:Ta):List Value:=[vU x.fN.1,vU x.fN.2.1,vU x.fN.2.2.1,vU x.fN.2.2.2.1,vU x.fN.2.2.2.2.1,vU x.fN.2.2.2.2.2.1,vU x.fN.2.2.2.2.2.2.1,vU x.fN.2.2.2.2.2.2.2,vU x.fD.1,vU x.fD.2.1,vU x.fD.2.2.1,vU x.fD.2.2.2.1,vU x.fD.2.2.2.2.1,vU x.fD.2.2.2.2.2.1,vU x.fD.2.2.2.2.2.2.1,vU x.fD.2.2.2.2.2.2.2]
def ae_p (_n:Nat) (a0:Ta) (a1:Int):Option (Except Te Ta):=
  (if a1 = 0 then some (.ok a0) else some (.error (⟨a1⟩:Te)))
theorem ae_c (n:Nat) {L w} (_hL:hl L w) (a0:Ta) {a1:Int}  {r:Except Te Ta} (h:ae_p n a0 a1 = some r) :
 Cl 48 #[.agg ((ab a0)).toArray,vI a1] w (aK w (fun (y:Ta) _ u=>u = .agg ((ab y)).toArray) (fun e=>.iface 145 (.agg #[vI e.fE])) r):=by
 unfold ae_p at h
 refine BO func48 rfl rfl rfl fun _ cs0 hb0 hp0=>Ac<|RG.bx (Az w) rfl rfl fun t0 j0 g0 p0=>RG.nl zL g0 fun u0 k0 b0 q0=>Aa<|Ai<|Ac<|Ae rfl<|Ab (FV.neq (i:=a1) (j:=0) rfl rfl)<|Aa<|MX.ifn rfl h (fun d0 h=>?_) (fun d0 h=>?_)
 refine Ar<|Ac<|Ab (AF rfl (b0.memA .t1))<|AQ (ab a0) b0 .hd (ai rfl) fun v0 c0 s0=>Aa<|Al rfl<|Ap hb0 func48 rfl (.cons (.many (cs:=(ab a0)) rfl rfl (c0.memA .hd)) .nil) rfl ?_
 cases h
 exact ⟨c0.ag,fun w9 hw9=>aC rfl⟩
 refine Ao<|Ae rfl<|Ab (AO (vs:=[vI a1]) (u:=.agg #[vI a1]) (e1 rfl) (fun w9=>by kernel_rfl))<|Ab (BF rfl rfl)<|RG.panic .plain rfl ?_
 cases h
 exact AZ hp0 func48 ⟨b0.ag,rfl⟩
def ak (x:U8):List Value:=[vU x.1,vU x.2.1,vU x.2.2.1,vU x.2.2.2.1,vU x.2.2.2.2.1,vU x.2.2.2.2.2.1,vU x.2.2.2.2.2.2.1,vU x.2.2.2.2.2.2.2]
def bL_p (_n:Nat) (a0:U8) (a1:U8):Option ((U8) × UInt64):=
  (sub64 a0.1 a1.1 (0:UInt64)).bind fun b0=>(sub64 a0.2.1 a1.2.1 b0.2).bind fun c0=>(sub64 a0.2.2.1 a1.2.2.1 c0.2).bind fun d0=>(sub64 a0.2.2.2.1 a1.2.2.2.1 d0.2).bind fun g0=>(sub64 a0.2.2.2.2.1 a1.2.2.2.2.1 g0.2).bind fun j0=>(sub64 a0.2.2.2.2.2.1 a1.2.2.2.2.2.1 j0.2).bind fun k0=>(sub64 a0.2.2.2.2.2.2.1 a1.2.2.2.2.2.2.1 k0.2).bind fun p0=>(sub64 a0.2.2.2.2.2.2.2 a1.2.2.2.2.2.2.2 p0.2).bind fun q0=>some ((b0.1,c0.1,d0.1,g0.1,j0.1,k0.1,p0.1,q0.1),q0.2)
theorem bL_c (n:Nat) {L w} (_hL:hl L w) (a0:U8) (a1:U8)  {r:(U8) × UInt64} (h:bL_p n a0 a1 = some r) :
 Cl 201 #[.agg ((ak a0)).toArray,.agg ((ak a1)).toArray] w (ah w fun _ u=>u = .tuple #[.agg ((ak r.1)).toArray,vU r.2]):=by
 unfold bL_p at h
 refine AG func201 rfl rfl rfl fun _ cs0 hb0=>Ac<|RG.bx (Az w) rfl rfl fun J1 s1 Y0 x1=>RG.bx Y0 rfl rfl fun K1 u1 Z0 y1=>RG.nl zP Z0 fun M1 v1 J0 z1=>Af rfl<|Aa<|Ac<|Af rfl<|Aa<|Ai<|Ac<|Ae rfl<|Aa<|AA<|MX.loop1<|Ac<|Ab (Bq (i:=0) (j:=8) rfl rfl)<|Aa<|Ai<|Bb rfl<|Ar<|Ai<|AA<|Ac<|Ae rfl<|Af rfl<|Aa<|du 13 fun d0 v0=>Rv 0 d0 rfl v0 (fun _=>Ak rfl)<|Rv 1 d0 rfl v0 (fun _=>Ak rfl)<|Rv 2 d0 rfl v0 (fun _=>Bc (m:=1) (k:=0) (len:=8) rfl rfl rfl rfl (by omega))<|Rx 3 32512 d0 rfl v0 (AL rfl ((J0.memA .t2) 0 _ rfl))<|Rv 4 d0 rfl v0 (fun _=>Ak rfl)<|Rv 5 d0 rfl v0 (fun _=>Bc (m:=1) (k:=0) (len:=8) rfl rfl rfl rfl (by omega))<|Rx 6 32512 d0 rfl v0 (AL rfl ((J0.memA .t1) 0 _ rfl))<|Rv 7 d0 rfl v0 (fun _=>Ak rfl)<|bk h fun b0 b1 h=>Rv 8 d0 rfl v0 (fun _=>FV.sub64 (a:=a0.1) (b:=a1.1) (c:=(0:UInt64)) func203 rfl rfl rfl rfl rfl rfl rfl b1)<|Rv 9 d0 rfl v0 (fun _=>Ak rfl)<|Rv 10 d0 rfl v0 (fun _=>Ah rfl rfl) ?_
 refine Rv 11 d0 rfl v0 (fun _=>Ah rfl rfl)<|Rv 12 d0 rfl v0 (fun _=>Bc (m:=1) (k:=0) (len:=8) rfl rfl rfl rfl (by omega))<|Bz 13 16383 d0 rfl rfl .plain (BD (j:=0) (old:=(ak a0)) (news:=[vU b0.1]) (new' :=[vU b0.1,vU a0.2.1,vU a0.2.2.1,vU a0.2.2.2.1,vU a0.2.2.2.2.1,vU a0.2.2.2.2.2.1,vU a0.2.2.2.2.2.2.1,vU a0.2.2.2.2.2.2.2]) J0 .t2 rfl rfl rfl rfl rfl rfl (o1 rfl) rfl) fun P1 K0 A1=>Rv 14 d0 rfl v0 (fun _=>Bh rfl)<|AM (dk d0)<|AC<|Ao<|Ab (FV.add (i:=0) (j:=1) (r:=1) rfl rfl (by decide))<|Ae rfl<|Aa<|MX.again1<|Ac<|Ab (Bq (i:=1) (j:=8) rfl rfl)<|Aa<|Ai<|Bb rfl<|Ar<|Ai<|AA<|Ac<|Ae rfl<|Af rfl<|Aa<|du 13 fun g0 x0=>Rv 0 g0 rfl x0 (fun _=>Ak rfl)<|Rv 1 g0 rfl x0 (fun _=>Ak rfl)<|Rv 2 g0 rfl x0 (fun _=>Bc (m:=1) (k:=1) (len:=8) rfl rfl rfl rfl (by omega))<|Rx 3 32512 g0 rfl x0 (AL rfl ((K0.memA .t2) 1 _ rfl))<|Rv 4 g0 rfl x0 (fun _=>Ak rfl)<|Rv 5 g0 rfl x0 (fun _=>Bc (m:=1) (k:=1) (len:=8) rfl rfl rfl rfl (by omega))<|Rx 6 32512 g0 rfl x0 (AL rfl ((K0.memA .t1) 1 _ rfl))<|Rv 7 g0 rfl x0 (fun _=>Ak rfl)<|bk h fun c0 c1 h=>Rv 8 g0 rfl x0 (fun _=>FV.sub64 (a:=a0.2.1) (b:=a1.2.1) (c:=b0.2) func203 rfl rfl rfl rfl rfl rfl rfl c1)<|Rv 9 g0 rfl x0 (fun _=>Ak rfl)<|Rv 10 g0 rfl x0 (fun _=>Ah rfl rfl)<|Rv 11 g0 rfl x0 (fun _=>Ah rfl rfl)<|Rv 12 g0 rfl x0 (fun _=>Bc (m:=1) (k:=1) (len:=8) rfl rfl rfl rfl (by omega))<|Bz 13 16383 g0 rfl rfl .plain (BD (j:=1) (old:=[vU b0.1,vU a0.2.1,vU a0.2.2.1,vU a0.2.2.2.1,vU a0.2.2.2.2.1,vU a0.2.2.2.2.2.1,vU a0.2.2.2.2.2.2.1,vU a0.2.2.2.2.2.2.2]) (news:=[vU c0.1]) (new' :=[vU b0.1,vU c0.1,vU a0.2.2.1,vU a0.2.2.2.1,vU a0.2.2.2.2.1,vU a0.2.2.2.2.2.1,vU a0.2.2.2.2.2.2.1,vU a0.2.2.2.2.2.2.2]) K0 .t2 rfl rfl rfl rfl rfl rfl (o1 rfl) rfl) fun Q1 M0 B1=>Rv 14 g0 rfl x0 (fun _=>Bh rfl)<|AM (dk g0)<|AC<|Ao<|Ab (FV.add (i:=1) (j:=1) (r:=2) rfl rfl (by decide))<|Ae rfl<|Aa<|MX.again1<|Ac<|Ab (Bq (i:=2) (j:=8) rfl rfl)<|Aa<|Ai ?_
 refine Bb rfl<|Ar<|Ai<|AA<|Ac<|Ae rfl<|Af rfl<|Aa<|du 13 fun j0 y0=>Rv 0 j0 rfl y0 (fun _=>Ak rfl)<|Rv 1 j0 rfl y0 (fun _=>Ak rfl)<|Rv 2 j0 rfl y0 (fun _=>Bc (m:=1) (k:=2) (len:=8) rfl rfl rfl rfl (by omega))<|Rx 3 32512 j0 rfl y0 (AL rfl ((M0.memA .t2) 2 _ rfl))<|Rv 4 j0 rfl y0 (fun _=>Ak rfl)<|Rv 5 j0 rfl y0 (fun _=>Bc (m:=1) (k:=2) (len:=8) rfl rfl rfl rfl (by omega))<|Rx 6 32512 j0 rfl y0 (AL rfl ((M0.memA .t1) 2 _ rfl))<|Rv 7 j0 rfl y0 (fun _=>Ak rfl)<|bk h fun u0 d1 h=>Rv 8 j0 rfl y0 (fun _=>FV.sub64 (a:=a0.2.2.1) (b:=a1.2.2.1) (c:=c0.2) func203 rfl rfl rfl rfl rfl rfl rfl d1)<|Rv 9 j0 rfl y0 (fun _=>Ak rfl)<|Rv 10 j0 rfl y0 (fun _=>Ah rfl rfl)<|Rv 11 j0 rfl y0 (fun _=>Ah rfl rfl)<|Rv 12 j0 rfl y0 (fun _=>Bc (m:=1) (k:=2) (len:=8) rfl rfl rfl rfl (by omega))<|Bz 13 16383 j0 rfl rfl .plain (BD (j:=2) (old:=[vU b0.1,vU c0.1,vU a0.2.2.1,vU a0.2.2.2.1,vU a0.2.2.2.2.1,vU a0.2.2.2.2.2.1,vU a0.2.2.2.2.2.2.1,vU a0.2.2.2.2.2.2.2]) (news:=[vU u0.1]) (new' :=[vU b0.1,vU c0.1,vU u0.1,vU a0.2.2.2.1,vU a0.2.2.2.2.1,vU a0.2.2.2.2.2.1,vU a0.2.2.2.2.2.2.1,vU a0.2.2.2.2.2.2.2]) M0 .t2 rfl rfl rfl rfl rfl rfl (o1 rfl) rfl) fun R1 P0 C1=>Rv 14 j0 rfl y0 (fun _=>Bh rfl)<|AM (dk j0)<|AC<|Ao<|Ab (FV.add (i:=2) (j:=1) (r:=3) rfl rfl (by decide))<|Ae rfl<|Aa<|MX.again1<|Ac<|Ab (Bq (i:=3) (j:=8) rfl rfl)<|Aa<|Ai<|Bb rfl<|Ar<|Ai<|AA<|Ac<|Ae rfl<|Af rfl<|Aa<|du 13 fun k0 z0=>Rv 0 k0 rfl z0 (fun _=>Ak rfl)<|Rv 1 k0 rfl z0 (fun _=>Ak rfl)<|Rv 2 k0 rfl z0 (fun _=>Bc (m:=1) (k:=3) (len:=8) rfl rfl rfl rfl (by omega))<|Rx 3 32512 k0 rfl z0 (AL rfl ((P0.memA .t2) 3 _ rfl))<|Rv 4 k0 rfl z0 (fun _=>Ak rfl)<|Rv 5 k0 rfl z0 (fun _=>Bc (m:=1) (k:=3) (len:=8) rfl rfl rfl rfl (by omega)) ?_
 refine Rx 6 32512 k0 rfl z0 (AL rfl ((P0.memA .t1) 3 _ rfl))<|Rv 7 k0 rfl z0 (fun _=>Ak rfl)<|bk h fun E0 g1 h=>Rv 8 k0 rfl z0 (fun _=>FV.sub64 (a:=a0.2.2.2.1) (b:=a1.2.2.2.1) (c:=u0.2) func203 rfl rfl rfl rfl rfl rfl rfl g1)<|Rv 9 k0 rfl z0 (fun _=>Ak rfl)<|Rv 10 k0 rfl z0 (fun _=>Ah rfl rfl)<|Rv 11 k0 rfl z0 (fun _=>Ah rfl rfl)<|Rv 12 k0 rfl z0 (fun _=>Bc (m:=1) (k:=3) (len:=8) rfl rfl rfl rfl (by omega))<|Bz 13 16383 k0 rfl rfl .plain (BD (j:=3) (old:=[vU b0.1,vU c0.1,vU u0.1,vU a0.2.2.2.1,vU a0.2.2.2.2.1,vU a0.2.2.2.2.2.1,vU a0.2.2.2.2.2.2.1,vU a0.2.2.2.2.2.2.2]) (news:=[vU E0.1]) (new' :=[vU b0.1,vU c0.1,vU u0.1,vU E0.1,vU a0.2.2.2.2.1,vU a0.2.2.2.2.2.1,vU a0.2.2.2.2.2.2.1,vU a0.2.2.2.2.2.2.2]) P0 .t2 rfl rfl rfl rfl rfl rfl (o1 rfl) rfl) fun U1 Q0 D1=>Rv 14 k0 rfl z0 (fun _=>Bh rfl)<|AM (dk k0)<|AC<|Ao<|Ab (FV.add (i:=3) (j:=1) (r:=4) rfl rfl (by decide))<|Ae rfl<|Aa<|MX.again1<|Ac<|Ab (Bq (i:=4) (j:=8) rfl rfl)<|Aa<|Ai<|Bb rfl<|Ar<|Ai<|AA<|Ac<|Ae rfl<|Af rfl<|Aa<|du 13 fun p0 A0=>Rv 0 p0 rfl A0 (fun _=>Ak rfl)<|Rv 1 p0 rfl A0 (fun _=>Ak rfl)<|Rv 2 p0 rfl A0 (fun _=>Bc (m:=1) (k:=4) (len:=8) rfl rfl rfl rfl (by omega))<|Rx 3 32512 p0 rfl A0 (AL rfl ((Q0.memA .t2) 4 _ rfl))<|Rv 4 p0 rfl A0 (fun _=>Ak rfl)<|Rv 5 p0 rfl A0 (fun _=>Bc (m:=1) (k:=4) (len:=8) rfl rfl rfl rfl (by omega))<|Rx 6 32512 p0 rfl A0 (AL rfl ((Q0.memA .t1) 4 _ rfl))<|Rv 7 p0 rfl A0 (fun _=>Ak rfl)<|bk h fun F0 j1 h=>Rv 8 p0 rfl A0 (fun _=>FV.sub64 (a:=a0.2.2.2.2.1) (b:=a1.2.2.2.2.1) (c:=E0.2) func203 rfl rfl rfl rfl rfl rfl rfl j1)<|Rv 9 p0 rfl A0 (fun _=>Ak rfl)<|Rv 10 p0 rfl A0 (fun _=>Ah rfl rfl)<|Rv 11 p0 rfl A0 (fun _=>Ah rfl rfl)<|Rv 12 p0 rfl A0 (fun _=>Bc (m:=1) (k:=4) (len:=8) rfl rfl rfl rfl (by omega))<|Bz 13 16383 p0 rfl rfl .plain (BD (j:=4) (old:=[vU b0.1,vU c0.1,vU u0.1,vU E0.1,vU a0.2.2.2.2.1,vU a0.2.2.2.2.2.1,vU a0.2.2.2.2.2.2.1,vU a0.2.2.2.2.2.2.2]) (news:=[vU F0.1]) (new' :=[vU b0.1,vU c0.1,vU u0.1,vU E0.1,vU F0.1,vU a0.2.2.2.2.2.1,vU a0.2.2.2.2.2.2.1,vU a0.2.2.2.2.2.2.2]) Q0 .t2 rfl rfl rfl rfl rfl rfl (o1 rfl) rfl) fun V1 R0 E1=>?_
 refine Rv 14 p0 rfl A0 (fun _=>Bh rfl)<|AM (dk p0)<|AC<|Ao<|Ab (FV.add (i:=4) (j:=1) (r:=5) rfl rfl (by decide))<|Ae rfl<|Aa<|MX.again1<|Ac<|Ab (Bq (i:=5) (j:=8) rfl rfl)<|Aa<|Ai<|Bb rfl<|Ar<|Ai<|AA<|Ac<|Ae rfl<|Af rfl<|Aa<|du 13 fun q0 B0=>Rv 0 q0 rfl B0 (fun _=>Ak rfl)<|Rv 1 q0 rfl B0 (fun _=>Ak rfl)<|Rv 2 q0 rfl B0 (fun _=>Bc (m:=1) (k:=5) (len:=8) rfl rfl rfl rfl (by omega))<|Rx 3 32512 q0 rfl B0 (AL rfl ((R0.memA .t2) 5 _ rfl))<|Rv 4 q0 rfl B0 (fun _=>Ak rfl)<|Rv 5 q0 rfl B0 (fun _=>Bc (m:=1) (k:=5) (len:=8) rfl rfl rfl rfl (by omega))<|Rx 6 32512 q0 rfl B0 (AL rfl ((R0.memA .t1) 5 _ rfl))<|Rv 7 q0 rfl B0 (fun _=>Ak rfl)<|bk h fun G0 k1 h=>Rv 8 q0 rfl B0 (fun _=>FV.sub64 (a:=a0.2.2.2.2.2.1) (b:=a1.2.2.2.2.2.1) (c:=F0.2) func203 rfl rfl rfl rfl rfl rfl rfl k1)<|Rv 9 q0 rfl B0 (fun _=>Ak rfl)<|Rv 10 q0 rfl B0 (fun _=>Ah rfl rfl)<|Rv 11 q0 rfl B0 (fun _=>Ah rfl rfl)<|Rv 12 q0 rfl B0 (fun _=>Bc (m:=1) (k:=5) (len:=8) rfl rfl rfl rfl (by omega))<|Bz 13 16383 q0 rfl rfl .plain (BD (j:=5) (old:=[vU b0.1,vU c0.1,vU u0.1,vU E0.1,vU F0.1,vU a0.2.2.2.2.2.1,vU a0.2.2.2.2.2.2.1,vU a0.2.2.2.2.2.2.2]) (news:=[vU G0.1]) (new' :=[vU b0.1,vU c0.1,vU u0.1,vU E0.1,vU F0.1,vU G0.1,vU a0.2.2.2.2.2.2.1,vU a0.2.2.2.2.2.2.2]) R0 .t2 rfl rfl rfl rfl rfl rfl (o1 rfl) rfl) fun W1 U0 F1=>Rv 14 q0 rfl B0 (fun _=>Bh rfl)<|AM (dk q0)<|AC<|Ao<|Ab (FV.add (i:=5) (j:=1) (r:=6) rfl rfl (by decide))<|Ae rfl<|Aa<|MX.again1<|Ac<|Ab (Bq (i:=6) (j:=8) rfl rfl)<|Aa<|Ai<|Bb rfl<|Ar<|Ai<|AA<|Ac<|Ae rfl ?_
 refine Af rfl<|Aa<|du 13 fun s0 C0=>Rv 0 s0 rfl C0 (fun _=>Ak rfl)<|Rv 1 s0 rfl C0 (fun _=>Ak rfl)<|Rv 2 s0 rfl C0 (fun _=>Bc (m:=1) (k:=6) (len:=8) rfl rfl rfl rfl (by omega))<|Rx 3 32512 s0 rfl C0 (AL rfl ((U0.memA .t2) 6 _ rfl))<|Rv 4 s0 rfl C0 (fun _=>Ak rfl)<|Rv 5 s0 rfl C0 (fun _=>Bc (m:=1) (k:=6) (len:=8) rfl rfl rfl rfl (by omega))<|Rx 6 32512 s0 rfl C0 (AL rfl ((U0.memA .t1) 6 _ rfl))<|Rv 7 s0 rfl C0 (fun _=>Ak rfl)<|bk h fun H0 p1 h=>Rv 8 s0 rfl C0 (fun _=>FV.sub64 (a:=a0.2.2.2.2.2.2.1) (b:=a1.2.2.2.2.2.2.1) (c:=G0.2) func203 rfl rfl rfl rfl rfl rfl rfl p1)<|Rv 9 s0 rfl C0 (fun _=>Ak rfl)<|Rv 10 s0 rfl C0 (fun _=>Ah rfl rfl)<|Rv 11 s0 rfl C0 (fun _=>Ah rfl rfl)<|Rv 12 s0 rfl C0 (fun _=>Bc (m:=1) (k:=6) (len:=8) rfl rfl rfl rfl (by omega))<|Bz 13 16383 s0 rfl rfl .plain (BD (j:=6) (old:=[vU b0.1,vU c0.1,vU u0.1,vU E0.1,vU F0.1,vU G0.1,vU a0.2.2.2.2.2.2.1,vU a0.2.2.2.2.2.2.2]) (news:=[vU H0.1]) (new' :=[vU b0.1,vU c0.1,vU u0.1,vU E0.1,vU F0.1,vU G0.1,vU H0.1,vU a0.2.2.2.2.2.2.2]) U0 .t2 rfl rfl rfl rfl rfl rfl (o1 rfl) rfl) fun X1 V0 G1=>Rv 14 s0 rfl C0 (fun _=>Bh rfl)<|AM (dk s0)<|AC<|Ao<|Ab (FV.add (i:=6) (j:=1) (r:=7) rfl rfl (by decide))<|Ae rfl<|Aa<|MX.again1<|Ac<|Ab (Bq (i:=7) (j:=8) rfl rfl)<|Aa<|Ai<|Bb rfl<|Ar<|Ai<|AA<|Ac<|Ae rfl<|Af rfl<|Aa<|du 13 fun t0 D0=>Rv 0 t0 rfl D0 (fun _=>Ak rfl)<|Rv 1 t0 rfl D0 (fun _=>Ak rfl)<|Rv 2 t0 rfl D0 (fun _=>Bc (m:=1) (k:=7) (len:=8) rfl rfl rfl rfl (by omega))<|Rx 3 32512 t0 rfl D0 (AL rfl ((V0.memA .t2) 7 _ rfl))<|Rv 4 t0 rfl D0 (fun _=>Ak rfl)<|Rv 5 t0 rfl D0 (fun _=>Bc (m:=1) (k:=7) (len:=8) rfl rfl rfl rfl (by omega))<|Rx 6 32512 t0 rfl D0 (AL rfl ((V0.memA .t1) 7 _ rfl))<|Rv 7 t0 rfl D0 (fun _=>Ak rfl)<|bk h fun I0 q1 h=>Rv 8 t0 rfl D0 (fun _=>FV.sub64 (a:=a0.2.2.2.2.2.2.2) (b:=a1.2.2.2.2.2.2.2) (c:=H0.2) func203 rfl rfl rfl rfl rfl rfl rfl q1)<|Rv 9 t0 rfl D0 (fun _=>Ak rfl)<|Rv 10 t0 rfl D0 (fun _=>Ah rfl rfl) ?_
 refine Rv 11 t0 rfl D0 (fun _=>Ah rfl rfl)<|Rv 12 t0 rfl D0 (fun _=>Bc (m:=1) (k:=7) (len:=8) rfl rfl rfl rfl (by omega))<|Bz 13 16383 t0 rfl rfl .plain (BD (j:=7) (old:=[vU b0.1,vU c0.1,vU u0.1,vU E0.1,vU F0.1,vU G0.1,vU H0.1,vU a0.2.2.2.2.2.2.2]) (news:=[vU I0.1]) (new' :=[vU b0.1,vU c0.1,vU u0.1,vU E0.1,vU F0.1,vU G0.1,vU H0.1,vU I0.1]) V0 .t2 rfl rfl rfl rfl rfl rfl (o1 rfl) rfl) fun Y1 W0 H1=>Rv 14 t0 rfl D0 (fun _=>Bh rfl)<|AM (dk t0)<|AC<|Ao<|Ab (FV.add (i:=7) (j:=1) (r:=8) rfl rfl (by decide))<|Ae rfl<|Aa<|MX.again1<|Ac<|Ab (Bq (i:=8) (j:=8) rfl rfl)<|Aa<|Ai<|BI rfl<|Be rfl<|Ac<|Ab (AF rfl (W0.memA .t2))<|Ae rfl<|AQ [vU b0.1,vU c0.1,vU u0.1,vU E0.1,vU F0.1,vU G0.1,vU H0.1,vU I0.1] W0 .hd (ai rfl) fun Z1 X0 I1=>Af rfl<|Aa<|Al rfl<|Ap hb0 func201 rfl (.cons (.many (cs:=[vU b0.1,vU c0.1,vU u0.1,vU E0.1,vU F0.1,vU G0.1,vU H0.1,vU I0.1]) rfl rfl (X0.memA .hd)) (.cons (.tmp rfl) .nil)) rfl ?_
 cases h
 exact X0.gv
def bp_l1 (_n:Nat) (a0:U8) (a1:U8) (g0:Int -> Option (Int ⊕ Unit)):Int -> Option (Int ⊕ Unit)
  | b0=>(if 0 <= b0 then (idx ([a0.1,a0.2.1,a0.2.2.1,a0.2.2.2.1,a0.2.2.2.2.1,a0.2.2.2.2.2.1,a0.2.2.2.2.2.2.1,a0.2.2.2.2.2.2.2]:List UInt64) b0).bind fun c0=>(idx ([a1.1,a1.2.1,a1.2.2.1,a1.2.2.2.1,a1.2.2.2.2.1,a1.2.2.2.2.2.1,a1.2.2.2.2.2.2.1,a1.2.2.2.2.2.2.2]:List UInt64) b0).bind fun d0=>(if c0 = d0 then (chk (b0 - 1)).bind fun j0=>g0 j0 else (if c0 < d0 then some (.inl (-1:Int)) else some (.inl (1:Int)))) else some (.inr ()))
def bp_p (n:Nat) (a0:U8) (a1:U8):Option Int:=
  thn (am (bp_l1 n a0 a1) n 7) (fun _=>some (0:Int))
theorem bp_c (n:Nat) {L w} (_hL:hl L w) (a0:U8) (a1:U8)  {r:Int} (h:bp_p n a0 a1 = some r) :
 Cl 217 #[.agg ((ak a0)).toArray,.agg ((ak a1)).toArray] w (ah w fun _ u=>u = vI r):=by
 unfold bp_p at h
 refine AG func217 rfl rfl rfl fun _ cs0 hb0=>Ac<|RG.bx (Az w) rfl rfl fun V0 p0 E0 Q0=>RG.bx E0 rfl rfl fun W0 q0 F0 R0=>Af rfl<|Aa<|Ai<|Ac<|Af rfl<|Aa<|AA<|tn h fun U0 H0 u0=>MX.lo (α:=Int) (fun b0=>[(2,vP p0),(3,vP q0),(5,vI b0)]) (fun b0=>[.cells q0 (ak a1) 232,.cells p0 (ak a0) 232]) (fun b0=>b0) 7 H0 F0 ?_
 rintro P0 b0 X0 D0 c0 G0 h
 unfold bp_l1 at h
 try dsimp only at h
 refine Ai<|Ac<|Ae rfl<|Ab (FV.geq (i:=b0) (j:=0) rfl rfl)<|Aa<|AT rfl h (fun A0 h=>?_) (fun A0 h=>?_)
 refine Ar<|Ai<|AA<|Ai<|du 7 fun d0 j0=>Rv 0 d0 rfl j0 (fun _=>Ak rfl)<|bk h fun y0 J0 h=>?_
 obtain ⟨v0,s0⟩:=aA J0
 refine Rv 1 d0 rfl j0 (fun _=>Bc (m:=1) (k:=b0.toNat) (len:=8) rfl rfl rfl v0 (bb s0 rfl))<|Rx 2 64 d0 rfl j0 (AL rfl ((aQ (p:=⟨p0,0,none⟩) (cs:=([a0.1,a0.2.1,a0.2.2.1,a0.2.2.2.1,a0.2.2.2.2.1,a0.2.2.2.2.2.1,a0.2.2.2.2.2.2.1,a0.2.2.2.2.2.2.2]:List UInt64).map (fun z9:UInt64=>(vU z9:Value)) ++ []) (i:=b0.toNat) (c0.memA .t1) (bI (fun z9:UInt64=>(vU z9:Value)) s0)) 0 _ rfl))<|Rv 3 d0 rfl j0 (fun _=>Ak rfl)<|bk h fun z0 K0 h=>?_
 obtain ⟨x0,t0⟩:=aA K0
 refine Rv 4 d0 rfl j0 (fun _=>Bc (m:=1) (k:=b0.toNat) (len:=8) rfl rfl rfl x0 (bb t0 rfl))<|Rx 5 64 d0 rfl j0 (AL rfl ((aQ (p:=⟨q0,0,none⟩) (cs:=([a1.1,a1.2.1,a1.2.2.1,a1.2.2.2.1,a1.2.2.2.2.1,a1.2.2.2.2.2.1,a1.2.2.2.2.2.2.1,a1.2.2.2.2.2.2.2]:List UInt64).map (fun z9:UInt64=>(vU z9:Value)) ++ []) (i:=b0.toNat) (c0.memA .hd) (bI (fun z9:UInt64=>(vU z9:Value)) t0)) 0 _ rfl))<|Rv 6 d0 rfl j0 (fun _=>FV.neqU (a:=y0) (b:=z0) rfl rfl)<|AM (dk d0)<|MX.ifn rfl h (fun B0 h=>?_) (fun B0 h=>?_)
 refine Ar<|AC<|Ao<|Ae rfl<|bk h fun M0 I0 h=>Ab (FV.subc (i:=b0) (j:=1) rfl rfl I0)<|Af rfl<|Aa<|D0 M0 c0 G0 h
 refine Ai<|Ai<|du 7 fun g0 k0=>Rv 0 g0 rfl k0 (fun _=>Ak rfl)<|Rv 1 g0 rfl k0 (fun _=>Bc (m:=1) (k:=b0.toNat) (len:=8) rfl rfl rfl v0 (bb s0 rfl))<|Rx 2 64 g0 rfl k0 (AL rfl ((aQ (p:=⟨p0,0,none⟩) (cs:=([a0.1,a0.2.1,a0.2.2.1,a0.2.2.2.1,a0.2.2.2.2.1,a0.2.2.2.2.2.1,a0.2.2.2.2.2.2.1,a0.2.2.2.2.2.2.2]:List UInt64).map (fun z9:UInt64=>(vU z9:Value)) ++ []) (i:=b0.toNat) (c0.memA .t1) (bI (fun z9:UInt64=>(vU z9:Value)) s0)) 0 _ rfl))<|Rv 3 g0 rfl k0 (fun _=>Ak rfl)<|Rv 4 g0 rfl k0 (fun _=>Bc (m:=1) (k:=b0.toNat) (len:=8) rfl rfl rfl x0 (bb t0 rfl))<|Rx 5 64 g0 rfl k0 (AL rfl ((aQ (p:=⟨q0,0,none⟩) (cs:=([a1.1,a1.2.1,a1.2.2.1,a1.2.2.2.1,a1.2.2.2.2.1,a1.2.2.2.2.2.1,a1.2.2.2.2.2.2.1,a1.2.2.2.2.2.2.2]:List UInt64).map (fun z9:UInt64=>(vU z9:Value)) ++ []) (i:=b0.toNat) (c0.memA .hd) (bI (fun z9:UInt64=>(vU z9:Value)) t0)) 0 _ rfl))<|Rv 6 g0 rfl k0 (fun _=>FV.lssU (a:=y0) (b:=z0) rfl rfl)<|AM (dk g0)<|AT rfl h (fun C0 h=>?_) (fun C0 h=>?_)
 refine Ac<|Af rfl<|Aa ?_
 have h:=au h u0
 refine Al rfl<|AY hb0 func217 rfl rfl ?_
 cases h
 exact c0.gv
 refine Ar<|Ac<|Af rfl<|Aa ?_
 have h:=au h u0
 refine Al rfl<|AY hb0 func217 rfl rfl ?_
 cases h
 exact c0.gv
 refine Be rfl ?_
 have h:=aF h u0
 try dsimp only at h
 refine Ac<|Af rfl<|Aa<|Al rfl<|AY hb0 func217 rfl rfl ?_
 cases h
 exact c0.gv
structure Tn where
  fe:Bool
  fm:U8
  deriving DecidableEq
instance:Rep Tn:=Rep.via (β:=Bool × (U8)) fun x=>(x.fe,x.fm)
def iM (x:Tn):List Value:=[.bool x.fe,vU x.fm.1,vU x.fm.2.1,vU x.fm.2.2.1,vU x.fm.2.2.2.1,vU x.fm.2.2.2.2.1,vU x.fm.2.2.2.2.2.1,vU x.fm.2.2.2.2.2.2.1,vU x.fm.2.2.2.2.2.2.2]
def cG_p (n:Nat) (a0:Tn):Option ((U8) × Int):=
  (bp_p n a0.fm (0,0,0,0,0,0,0,9223372036854775808)).bind fun b0=>(if 0 < b0 then some ((0,0,0,0,0,0,0,0),(6:Int)) else (if b0 = 0 then (if a0.fe = true then (bL_p n (0,0,0,0,0,0,0,0) a0.fm).bind fun c0=>some (c0.1,(0:Int)) else some ((0,0,0,0,0,0,0,0),(6:Int))) else (if a0.fe = true then (bL_p n (0,0,0,0,0,0,0,0) a0.fm).bind fun d0=>some (d0.1,(0:Int)) else some (a0.fm,(0:Int)))))
theorem cG_c (n:Nat) {L w} (hL:hl L w) (a0:Tn)  {r:(U8) × Int} (h:cG_p n a0 = some r) :
 Cl 199 #[.agg ((iM a0)).toArray] w (ah w fun _ u=>u = .tuple #[.agg ((ak r.1)).toArray,vI r.2]):=by
 unfold cG_p at h
 refine AG func199 rfl rfl rfl fun _ cs0 hb0=>Ac<|RG.bx (Az w) rfl rfl fun Z0 G0 A0 J0=>RG.nl zP A0 fun b1 H0 B0 K0=>Af rfl<|Aa<|Ac<|Ab (AO (vs:=[vW 9223372036854775808]) (u:=.agg #[vW 0,vW 0,vW 0,vW 0,vW 0,vW 0,vW 0,vW 9223372036854775808]) (e1 rfl) (fun w9=>by kernel_rfl))<|RG.nl zP B0 fun c1 I0 C0 M0=>BU .plain (Ay (news:=[vW 0,vW 0,vW 0,vW 0,vW 0,vW 0,vW 0,vW 9223372036854775808]) C0 .hd rfl rfl rfl rfl rfl (.refl 8) (ai rfl)) fun d1 b0 P0=>Aa<|Ai<|Ac<|AX 1 rfl<|Ab (AW (cs:=(ak a0.fm)) rfl rfl (ae (b0.memA .t2) 1 8))<|Ab (AF rfl (b0.memA .hd))<|bk h fun g0 D0 h=>Bi (vI g0) (bd 217) rfl (e2 rfl rfl) (fun w9 hw9=>bp_c n (b0.hL0 hL hw9) a0.fm (0,0,0,0,0,0,0,9223372036854775808) D0) rfl<|Af rfl<|Aa<|Ac<|Ae rfl<|Ab (FV.gtr (i:=g0) (j:=0) rfl rfl)<|Ae rfl<|BA (s:=13) rfl h (fun x0 h=>?_) (fun x0 h=>?_)
 refine Au<|Au<|Au<|RG.un<|RG.un<|RG.un<|Au<|Bm rfl rfl<|Aa<|Bb rfl<|Ac<|Ab (AO (vs:=[]) (u:=.agg zQ) aj (fun w9=>by kernel_rfl))<|AQ zP b0 .t1 (ai rfl) fun g1 k0 Q0=>Af rfl<|Aa<|Al rfl<|Ap hb0 func199 rfl (.cons (.many (cs:=zP) rfl rfl (k0.memA .t1)) (.cons (.tmp rfl) .nil)) rfl ?_
 cases h
 exact k0.gv
 refine AH (Ak rfl)<|AH (FV.eql (i:=g0) (j:=0) rfl rfl)<|AH (Ak rfl)<|BA (s:=16) rfl h (fun y0 h=>?_) (fun y0 h=>?_)
 refine RG.fg 0 rfl<|AH (AL rfl ((b0.memA .t2) 0 _ rfl))<|AH (Bp rfl)<|AH (BY rfl rfl)<|Bv rfl rfl<|Aa<|BW rfl h (fun j0 h=>?_) (fun j0 h=>?_)
 refine Ar<|Ai<|Ac<|AX 0 rfl<|AR rfl ((b0.memA .t2) 0 _ rfl)<|Aa<|MX.cond_kt rfl j0<|Ao<|Ab (AO (vs:=[]) (u:=.agg zQ) aj (fun w9=>by kernel_rfl))<|AX 1 rfl<|Ab (AW (cs:=(ak a0.fm)) rfl rfl (ae (b0.memA .t2) 1 8))<|bk h fun c0 E0 h=>Bi (.tuple #[.agg ((ak c0.1)).toArray,vU c0.2]) (bd 201) rfl (e2 rfl rfl) (fun w9 hw9=>bL_c n (b0.hL0 hL hw9) (0,0,0,0,0,0,0,0) a0.fm E0) rfl<|Ae rfl<|Ab (Ah rfl rfl)<|Ab (Ah rfl rfl)<|AX 1 rfl<|BU .plain (BD (j:=1) (old:=(iM a0)) (news:=(ak c0.1)) (new' :=(([.bool a0.fe]:List Value) ++ ak c0.1)) b0 .t2 rfl rfl rfl rfl rfl rfl (ai rfl) rfl) fun j1 p0 R0=>Aa<|Ac<|AX 1 rfl<|Ab (AW (cs:=(ak c0.1)) rfl rfl (ae (p0.memA .t2) 1 8))<|AQ (ak c0.1) p0 .t1 (ai rfl) fun k1 q0 U0=>Af rfl<|Aa<|Al rfl<|Ap hb0 func199 rfl (.cons (.many (cs:=(ak c0.1)) rfl rfl (q0.memA .t1)) (.cons (.tmp rfl) .nil)) rfl ?_
 cases h
 exact q0.gv
 refine Ac<|Ab (AO (vs:=[]) (u:=.agg zQ) aj (fun w9=>by kernel_rfl))<|AQ zP b0 .t1 (ai rfl) fun p1 s0 V0=>Af rfl<|Aa<|Al rfl<|Ap hb0 func199 rfl (.cons (.many (cs:=zP) rfl rfl (s0.memA .t1)) (.cons (.tmp rfl) .nil)) rfl ?_
 cases h
 exact s0.gv
 refine Au<|Au<|Au<|AH (Bx rfl rfl)<|Bv rfl rfl<|Aa<|BI rfl<|Ar<|Ai<|Ac<|AX 0 rfl<|AR rfl ((b0.memA .t2) 0 _ rfl)<|Aa<|MX.ifb rfl h (fun z0 h=>?_) (fun z0 h=>?_)
 refine Ao<|Ab (AO (vs:=[]) (u:=.agg zQ) aj (fun w9=>by kernel_rfl))<|AX 1 rfl<|Ab (AW (cs:=(ak a0.fm)) rfl rfl (ae (b0.memA .t2) 1 8))<|bk h fun d0 F0 h=>Bi (.tuple #[.agg ((ak d0.1)).toArray,vU d0.2]) (bd 201) rfl (e2 rfl rfl) (fun w9 hw9=>bL_c n (b0.hL0 hL hw9) (0,0,0,0,0,0,0,0) a0.fm F0) rfl<|Ae rfl<|Ab (Ah rfl rfl)<|Ab (Ah rfl rfl)<|AX 1 rfl<|BU .plain (BD (j:=1) (old:=(iM a0)) (news:=(ak d0.1)) (new' :=(([.bool a0.fe]:List Value) ++ ak d0.1)) b0 .t2 rfl rfl rfl rfl rfl rfl (ai rfl) rfl) fun q1 t0 W0=>Aa<|Ac<|AX 1 rfl<|Ab (AW (cs:=(ak d0.1)) rfl rfl (ae (t0.memA .t2) 1 8))<|AQ (ak d0.1) t0 .t1 (ai rfl) fun s1 u0 X0=>Af rfl<|Aa<|Al rfl<|Ap hb0 func199 rfl (.cons (.many (cs:=(ak d0.1)) rfl rfl (u0.memA .t1)) (.cons (.tmp rfl) .nil)) rfl ?_
 cases h
 exact u0.gv
 refine Ar<|Ac<|AX 1 rfl<|Ab (AW (cs:=(ak a0.fm)) rfl rfl (ae (b0.memA .t2) 1 8))<|AQ (ak a0.fm) b0 .t1 (ai rfl) fun u1 v0 Y0=>Af rfl<|Aa<|Al rfl<|Ap hb0 func199 rfl (.cons (.many (cs:=(ak a0.fm)) rfl rfl (v0.memA .t1)) (.cons (.tmp rfl) .nil)) rfl ?_
 cases h
 exact v0.gv
structure Th where
  fe:Bool
  fo:List UInt64
  deriving DecidableEq
instance:Rep Th:=Rep.via (β:=Bool × (List UInt64)) fun x=>(x.fe,x.fo)
def cp_p (n:Nat) (a0:Th):Option ((U8) × Int):=
  (if 8 < a0.fo.length then some ((0,0,0,0,0,0,0,0),(6:Int)) else (cG_p n (⟨a0.fe,(aP a0.fo 0 (0:UInt64),aP a0.fo 1 (0:UInt64),aP a0.fo 2 (0:UInt64),aP a0.fo 3 (0:UInt64),aP a0.fo 4 (0:UInt64),aP a0.fo 5 (0:UInt64),aP a0.fo 6 (0:UInt64),aP a0.fo 7 (0:UInt64))⟩:Tn)).bind fun b0=>some (b0.1,b0.2))
theorem cp_c (n:Nat) {L w} (hL:hl L w) (a0:Th) {v0_1:Value} (h0_1:Rep.R w L [v0_1] a0.fo)  {r:(U8) × Int} (h:cp_p n a0 = some r) :
 Cl 167 #[.agg #[.bool a0.fe,v0_1]] w (ah w fun _ u=>u = .tuple #[.agg ((ak r.1)).toArray,vI r.2]):=by
 unfold cp_p at h
 refine AG func167 rfl rfl rfl fun _ cs0 hb0=>Ac<|RG.bx (Az w) rfl rfl fun M0 A0 v0 C0=>RG.nl zP v0 fun P0 B0 c0 D0=>Af rfl<|Aa<|Ai<|Ac<|AX 1 rfl<|AR rfl ((c0.memA .t1) 1 _ rfl) ?_
 have s0:=AS h0_1 c0
 have J0:a0.fo.length <= 281474976710656:=Ba s0
 refine Ab (Bg (xs:=a0.fo) underlying149 rfl s0)<|Ab (FV.gtrN (i:=a0.fo.length) (j:=8) rfl rfl)<|Aa<|AT rfl h (fun u0 h=>?_) (fun u0 h=>?_)
 refine Ac<|Ab (AO (vs:=[]) (u:=.agg zQ) aj (fun w9=>by kernel_rfl))<|AQ zP c0 .hd (ai rfl) fun Q0 p0 E0=>Af rfl<|Aa<|Al rfl<|Ap hb0 func167 rfl (.cons (.many (cs:=zP) rfl rfl (p0.memA .hd)) (.cons (.tmp rfl) .nil)) rfl ?_
 cases h
 exact p0.gv
 refine Ar<|Ac<|AX 0 rfl<|AR rfl ((c0.memA .t1) 0 _ rfl)<|Ab (AO (vs:=[.bool a0.fe]) (u:=.agg #[.bool a0.fe,vW 0,vW 0,vW 0,vW 0,vW 0,vW 0,vW 0,vW 0]) (e1 rfl) (fun w9=>by kernel_rfl))<|RG.nl [.bool false,vW 0,vW 0,vW 0,vW 0,vW 0,vW 0,vW 0,vW 0] c0 fun R0 t0 x0 F0=>AQ [.bool a0.fe,vW 0,vW 0,vW 0,vW 0,vW 0,vW 0,vW 0,vW 0] x0 .hd (ai rfl) fun U0 j0 G0=>Aa<|Ai<|du 4 fun b0 d0=>Rv 0 b0 rfl d0 (fun _=>AU 1 rfl)<|Rx 1 16 b0 rfl d0 (FV.sliceA (len:=8) (m:=1) (p:=Addr.add ⟨t0,0,none⟩ 1) rfl rfl)<|Rv 2 b0 rfl d0 (fun _=>AU 1 rfl)<|Rx 3 16 b0 rfl d0 (AL rfl ((j0.memA .t2) 1 _ rfl))<|BT (i:=4) (rk b0) (BL (m' :=31) (sk b0) rfl rfl .plain rfl (DoesL.copyArr (fun z9:UInt64=>(vU z9:Value)) (olds:=([(0:UInt64),0,0,0,0,0,0,(0:UInt64)]:List UInt64)) (ys:=a0.fo) (pre:=[.bool a0.fe]) (post:=[]) (old:=[.bool a0.fe,vW 0,vW 0,vW 0,vW 0,vW 0,vW 0,vW 0,vW 0]) (new' :=[.bool a0.fe,vW ((aP a0.fo 0 (0:UInt64)).toNat:Int),vW ((aP a0.fo 1 (0:UInt64)).toNat:Int),vW ((aP a0.fo 2 (0:UInt64)).toNat:Int),vW ((aP a0.fo 3 (0:UInt64)).toNat:Int),vW ((aP a0.fo 4 (0:UInt64)).toNat:Int),vW ((aP a0.fo 5 (0:UInt64)).toNat:Int),vW ((aP a0.fo 6 (0:UInt64)).toNat:Int),vW ((aP a0.fo 7 (0:UInt64)).toNat:Int)]) rfl (fun _ _ _ _ h9=>h9) j0 .hd rfl rfl rfl rfl rfl rfl rfl rfl (Src.rep (AS h0_1 j0))) (fun K0 V0 ⟨y0,k0,H0⟩=>?_))
 subst y0
 refine AM (dk b0)<|Ac<|Ab (AF rfl (k0.memA .hd))<|bk h fun g0 z0 h=>Bi (.tuple #[.agg ((ak g0.1)).toArray,vI g0.2]) (bd 199) rfl (e1 rfl) (fun w9 hw9=>cG_c n (k0.hL0 hL hw9) (⟨a0.fe,(aP a0.fo 0 (0:UInt64),aP a0.fo 1 (0:UInt64),aP a0.fo 2 (0:UInt64),aP a0.fo 3 (0:UInt64),aP a0.fo 4 (0:UInt64),aP a0.fo 5 (0:UInt64),aP a0.fo 6 (0:UInt64),aP a0.fo 7 (0:UInt64))⟩:Tn) z0) rfl<|Ab (Ah rfl rfl)<|Ab (Ah rfl rfl)<|AQ (ak g0.1) k0 .t1 (ai rfl) fun W0 q0 I0=>Af rfl<|Aa<|Al rfl<|Ap hb0 func167 rfl (.cons (.many (cs:=(ak g0.1)) rfl rfl (q0.memA .t1)) (.cons (.tmp rfl) .nil)) rfl ?_
 cases h
 exact q0.gv
structure Tg where
  fB:Th
  ft:Th
  deriving DecidableEq
instance:Rep Tg:=Rep.via (β:=Th × Th) fun x=>(x.fB,x.ft)
def bU_p (n:Nat) (a0:Tg):Option (Ta × Int):=
  (cp_p n a0.fB).bind fun b0=>(cp_p n a0.ft).bind fun c0=>(if b0.2 = 0 then (if c0.2 = 0 then some ((⟨b0.1,c0.1⟩:Ta),(0:Int)) else some ((⟨(0,0,0,0,0,0,0,0),(0,0,0,0,0,0,0,0)⟩:Ta),(6:Int))) else some ((⟨(0,0,0,0,0,0,0,0),(0,0,0,0,0,0,0,0)⟩:Ta),(6:Int)))
theorem bU_c (n:Nat) {L w} (hL:hl L w) (a0:Tg) {v0_1:Value} (h0_1:Rep.R w L [v0_1] a0.fB.fo) {v0_3:Value} (h0_3:Rep.R w L [v0_3] a0.ft.fo)  {r:Ta × Int} (h:bU_p n a0 = some r) :
 Cl 135 #[.agg #[.bool a0.fB.fe,v0_1,.bool a0.ft.fe,v0_3]] w (ah w fun _ u=>u = .tuple #[.agg ((ab r.1)).toArray,vI r.2]):=by
 unfold bU_p at h
 refine AG func135 rfl rfl rfl fun _ cs0 hb0=>Ac<|RG.bx (Az w) rfl rfl fun R0 B0 v0 F0=>RG.nl zL v0 fun U0 C0 g0 G0=>Af rfl<|Aa<|Ac<|AX 0 rfl<|Ab (AW (cs:=[.bool a0.fB.fe,v0_1]) rfl rfl (ae (g0.memA .t1) 0 2))<|bk h fun b0 z0 h=>Bi (.tuple #[.agg ((ak b0.1)).toArray,vI b0.2]) (bd 167) rfl (e1 rfl) (fun w9 hw9=>cp_c n (g0.hL0 hL hw9) a0.fB (g0.k0 h0_1 hw9) z0) rfl<|Ae rfl<|Ab (Ah rfl rfl)<|Ab (Ah rfl rfl)<|RG.nl zP g0 fun V0 D0 x0 H0=>AQ (ak b0.1) x0 .hd (ai rfl) fun W0 j0 I0=>Af rfl<|Aa<|Ac<|AX 2 rfl<|Ab (AW (cs:=[.bool a0.ft.fe,v0_3]) rfl rfl (ae (j0.memA .t2) 2 2))<|bk h fun c0 A0 h=>Bi (.tuple #[.agg ((ak c0.1)).toArray,vI c0.2]) (bd 167) rfl (e1 rfl) (fun w9 hw9=>cp_c n (j0.hL0 hL hw9) a0.ft (j0.k0 h0_3 hw9) A0) rfl<|Ae rfl<|Ab (Ah rfl rfl)<|Ab (Ah rfl rfl)<|RG.nl zP j0 fun X0 E0 y0 J0=>AQ (ak c0.1) y0 .hd (ai rfl) fun Y0 d0 K0=>Af rfl<|Aa<|Ai<|Ac<|Ae rfl<|Ab (FV.neq (i:=b0.2) (j:=0) rfl rfl) ?_
 refine Ae rfl<|RG.ifn (s:=22) rfl h (fun t0 h=>?_) (fun t0 h=>?_)
 refine AH (Ak rfl)<|AH (FV.neq (i:=c0.2) (j:=0) rfl rfl)<|Bv rfl rfl<|Aa<|MX.ifn rfl h (fun u0 h=>?_) (fun u0 h=>?_)
 refine Ar<|Ac<|Ab (AF rfl (d0.memA .t1))<|Ab (AF rfl (d0.memA .hd))<|Ab (AO (vs:=[.agg ((ak b0.1)).toArray,.agg ((ak c0.1)).toArray]) (u:=.agg ((ak b0.1 ++ ak c0.1)).toArray) (e2 rfl rfl) (fun w9=>by kernel_rfl))<|AQ (ak b0.1 ++ ak c0.1) d0 .t2 (ai rfl) fun Z0 p0 M0=>Af rfl<|Aa<|Al rfl<|Ap hb0 func135 rfl (.cons (.many (cs:=(ak b0.1 ++ ak c0.1)) rfl rfl (p0.memA .t2)) (.cons (.tmp rfl) .nil)) rfl ?_
 cases h
 exact p0.gv
 refine Ac<|Ab (AO (vs:=[]) (u:=.agg zM) aj (fun w9=>by kernel_rfl))<|AQ zL d0 .t2 (ai rfl) fun b1 q0 P0=>Af rfl<|Aa<|Al rfl<|Ap hb0 func135 rfl (.cons (.many (cs:=zL) rfl rfl (q0.memA .t2)) (.cons (.tmp rfl) .nil)) rfl ?_
 cases h
 exact q0.gv
 refine Au<|Au<|Bm rfl rfl<|Aa<|Bb rfl<|Ac<|Ab (AO (vs:=[]) (u:=.agg zM) aj (fun w9=>by kernel_rfl))<|AQ zL d0 .t2 (ai rfl) fun c1 s0 Q0=>Af rfl<|Aa<|Al rfl<|Ap hb0 func135 rfl (.cons (.many (cs:=zL) rfl rfl (s0.memA .t2)) (.cons (.tmp rfl) .nil)) rfl ?_
 cases h
 exact s0.gv
def ay_l1 (_n:Nat) (a1:List UInt64) (c0:Int -> Option Int):Int -> Option Int
  | b0=>(if 0 < b0 then (chk (b0 - 1)).bind fun d0=>(idx a1 d0).bind fun j0=>(if j0 = (0:UInt64) then (chk (b0 - 1)).bind fun g0=>c0 g0 else some b0) else some b0)
def ay_p (n:Nat) (a0:Bool) (a1:List UInt64):Option Th:=
  jn (fun b0=>(if a0 = true then (cut a1 0 b0).bind fun d0=>some (⟨(decide (0 < b0)),d0⟩:Th) else (cut a1 0 b0).bind fun g0=>some (⟨false,g0⟩:Th))) (fun c0=>Option.bind (am (ay_l1 n a1) n ((a1.length:Nat):Int)) (c0))
theorem ay_c (n:Nat) {L w} (_hL:hl L w) {a0:Bool} {a1:List UInt64} {v1_0:Value} (h1_0:Rep.R w L [v1_0] a1)  {r:Th} (h:ay_p n a0 a1 = some r) :
 Cl 170 #[.bool a0,v1_0] w (ah w fun w' u=>∃ v0_1:Value,u = .agg #[.bool r.fe,v0_1]/\Rep.R w' L [v0_1] r.fo):=by
 unfold ay_p at h
 refine AG func170 rfl rfl rfl fun _ cs0 hb0=>Ac<|RG.nl [.bool false,vN] (Az w) fun C1 j0 q0 z1=>Aa<|Ac<|Ae rfl ?_
 have A0:=AS h1_0 q0
 have A1:a1.length <= 281474976710656:=Ba A0
 refine Ab (Bg (xs:=a1) underlying149 rfl A0)<|Af rfl<|Aa<|Ai<|AA<|MX.xo (α:=Int) 0 (fun b0=>[(0,.bool a0),(1,v1_0),(4,vP j0),(5,vI b0)]) (fun b0=>[.cells j0 [.bool false,vN] 151]) (fun b0=>b0) q0 rfl h ?_ ?_
 rintro b0 F1 k0 y1 h
 try dsimp only at h
 refine Ac<|Ae rfl<|Ae rfl<|RG.ifb (s:=21) rfl h (fun C0 h=>?_) (fun C0 h=>?_)
 refine AH (Ak rfl)<|AH (FV.gtr (i:=b0) (j:=0) rfl rfl)<|Bm rfl rfl<|Ae rfl<|Ae rfl<|bk h fun H1 c1 h=>RG.valE .plain rfl (FV.cutL (α:=UInt64) c1 rfl rfl (AS h1_0 k0) rfl ⟨_,rfl⟩) fun d0 v0=>?_
 obtain ⟨k1,u1,X0,_⟩:=BQ v0
 refine Ab (AO (vs:=[.bool (decide (0 < b0)),d0]) (u:=.agg #[.bool (decide (0 < b0)),d0]) (e2 rfl rfl) (fun w9=>by rw [X0]; try kernel_rfl))<|AQ [.bool (decide (0 < b0)),d0] k0 .hd (o2 rfl (AP v0)) fun D1 s0 H0=>Aa<|Al rfl<|Ap hb0 func170 rfl (.cons (.many (cs:=[.bool (decide (0 < b0)),d0]) rfl rfl (s0.memA .hd)) .nil) rfl ?_
 cases h
 exact ⟨s0.ag,fun w9 hw9=>⟨d0,rfl,s0.kd (Am v0 H0) hw9⟩⟩
 refine Au<|Au<|Bv rfl rfl<|Ae rfl<|Ae rfl<|bk h fun I1 d1 h=>RG.valE .plain rfl (FV.cutL (α:=UInt64) d1 rfl rfl (AS h1_0 k0) rfl ⟨_,rfl⟩) fun g0 x0=>?_
 obtain ⟨p1,v1,Y0,_⟩:=BQ x0
 refine Ab (AO (vs:=[.bool false,g0]) (u:=.agg #[.bool false,g0]) (e2 rfl rfl) (fun w9=>by rw [Y0]; try kernel_rfl))<|AQ [.bool false,g0] k0 .hd (o2 rfl (AP x0)) fun E1 t0 I0=>Aa<|Al rfl<|Ap hb0 func170 rfl (.cons (.many (cs:=[.bool false,g0]) rfl rfl (t0.memA .hd)) .nil) rfl ?_
 cases h
 exact ⟨t0.ag,fun w9 hw9=>⟨g0,rfl,t0.kd (Am x0 I0) hw9⟩⟩
 intro s1 y0 h
 try dsimp only at h
 obtain ⟨B1,R0,z0⟩:=aq h
 refine MX.lo (α:=Int) (fun c0=>[(0,.bool a0),(1,v1_0),(4,vP j0),(5,vI c0)]) (fun c0=>[.cells j0 [.bool false,vN] 151]) (fun c0=>c0) ((a1.length:Nat):Int) R0 q0 ?_
 rintro t1 c0 G1 G0 p0 u0 h
 unfold ay_l1 at h
 try dsimp only at h
 refine Ai<|Ac<|Ae rfl<|Ab (FV.gtr (i:=c0) (j:=0) rfl rfl)<|Ae rfl<|BA (s:=10) rfl h (fun D0 h=>?_) (fun D0 h=>?_)
 refine AH (Ak rfl)<|AH (Ak rfl)<|bk h fun g1 V0 h=>AH (FV.subc (i:=c0) (j:=1) rfl rfl V0)<|bk h fun B0 Z0 h=>?_
 obtain ⟨M0,b1⟩:=aA Z0
 obtain ⟨q1,x1,J0,P0,F0,U0,Q0⟩:=Bk (AS h1_0 p0) b1
 have K0:F0 = [vU B0]:=U0; subst K0
 refine AH (Bj 1 (g1.toNat) rfl J0 rfl M0 P0)<|AH (AL rfl (Q0 0 _ rfl))<|AH (FV.eqlU (a:=B0) (b:=(0:UInt64)) rfl rfl)<|Bm rfl rfl<|Aa<|AT rfl h (fun E0 h=>?_) (fun E0 h=>?_)
 refine Ar<|AA<|Ao<|Ae rfl<|bk h fun j1 W0 h=>Ab (FV.subc (i:=c0) (j:=1) rfl rfl W0)<|Af rfl<|Aa<|AC<|G0 j1 p0 u0 h
 refine Be rfl ?_
 have h:=z0 _ h
 try dsimp only at h
 exact y0 c0 p0 u0 h
 refine Au<|Au<|Au<|Au<|Au<|Au<|Bv rfl rfl<|Aa<|BI rfl<|Be rfl ?_
 have h:=z0 _ h
 try dsimp only at h
 exact y0 c0 p0 u0 h
def dH_p (n:Nat) (a0:U8):Option Tn:=
  (if (shrU a0.2.2.2.2.2.2.2 63) = (1:UInt64) then (bL_p n (0,0,0,0,0,0,0,0) a0).bind fun b0=>some (⟨(decide ((shrU a0.2.2.2.2.2.2.2 63) = (1:UInt64))),b0.1⟩:Tn) else some (⟨(decide ((shrU a0.2.2.2.2.2.2.2 63) = (1:UInt64))),a0⟩:Tn))
theorem dH_c (n:Nat) {L w} (hL:hl L w) (a0:U8)  {r:Tn} (h:dH_p n a0 = some r) :
 Cl 183 #[.agg ((ak a0)).toArray] w (ah w fun _ u=>u = .agg ((iM r)).toArray):=by
 unfold dH_p at h
 refine AG func183 rfl rfl rfl fun _ cs0 hb0=>Ac<|RG.bx (Az w) rfl rfl fun F0 u0 q0 y0=>RG.nl [.bool false,vW 0,vW 0,vW 0,vW 0,vW 0,vW 0,vW 0,vW 0] q0 fun G0 v0 d0 z0=>Aa<|Ac<|Ab (Bc (m:=1) (k:=7) (len:=8) rfl rfl rfl rfl (by omega))<|AR rfl ((d0.memA .t1) 7 _ rfl)<|Ab (FV.shrU (a:=a0.2.2.2.2.2.2.2) (j:=63) rfl rfl)<|Ab (FV.eqlU (a:=shrU a0.2.2.2.2.2.2.2 63) (b:=(1:UInt64)) rfl rfl)<|Ab (AF rfl (d0.memA .t1))<|Ab (AO (vs:=[.bool (decide ((shrU a0.2.2.2.2.2.2.2 63) = (1:UInt64))),.agg ((ak a0)).toArray]) (u:=.agg ((([.bool (decide ((shrU a0.2.2.2.2.2.2.2 63) = (1:UInt64)))]:List Value) ++ ak a0)).toArray) (e2 rfl rfl) (fun w9=>by kernel_rfl))<|RG.nl [.bool false,vW 0,vW 0,vW 0,vW 0,vW 0,vW 0,vW 0,vW 0] d0 fun H0 x0 s0 A0=>AQ (([.bool (decide ((shrU a0.2.2.2.2.2.2.2 63) = (1:UInt64)))]:List Value) ++ ak a0) s0 .hd (ai rfl) fun I0 b0 B0=>Aa<|Ai<|Ac<|AX 0 rfl<|AR rfl ((b0.memA .hd) 0 _ rfl)<|Aa<|AT rfl h (fun p0 h=>?_) (fun p0 h=>?_)
 refine Ao<|Ab (AO (vs:=[]) (u:=.agg zQ) aj (fun w9=>by kernel_rfl))<|AX 1 rfl<|Ab (AW (cs:=(ak a0)) rfl rfl (ae (b0.memA .hd) 1 8))<|bk h fun c0 t0 h=>Bi (.tuple #[.agg ((ak c0.1)).toArray,vU c0.2]) (bd 201) rfl (e2 rfl rfl) (fun w9 hw9=>bL_c n (b0.hL0 hL hw9) (0,0,0,0,0,0,0,0) a0 t0) rfl<|Ae rfl<|Ab (Ah rfl rfl)<|Ab (Ah rfl rfl)<|AX 1 rfl<|BU .plain (BD (j:=1) (old:=(([.bool (decide ((shrU a0.2.2.2.2.2.2.2 63) = (1:UInt64)))]:List Value) ++ ak a0)) (news:=(ak c0.1)) (new' :=(([.bool (decide ((shrU a0.2.2.2.2.2.2.2 63) = (1:UInt64)))]:List Value) ++ ak c0.1)) b0 .hd rfl rfl rfl rfl rfl rfl (ai rfl) rfl) fun J0 g0 C0=>Aa<|Ac<|Ab (AF rfl (g0.memA .hd))<|AQ (([.bool (decide ((shrU a0.2.2.2.2.2.2.2 63) = (1:UInt64)))]:List Value) ++ ak c0.1) g0 .t1 (ai rfl) fun K0 j0 D0=>Aa<|Al rfl<|Ap hb0 func183 rfl (.cons (.many (cs:=(([.bool (decide ((shrU a0.2.2.2.2.2.2.2 63) = (1:UInt64)))]:List Value) ++ ak c0.1)) rfl rfl (j0.memA .t1)) .nil) rfl ?_
 cases h
 exact j0.gv
 refine Ar<|Ac<|Ab (AF rfl (b0.memA .hd))<|AQ (([.bool (decide ((shrU a0.2.2.2.2.2.2.2 63) = (1:UInt64)))]:List Value) ++ ak a0) b0 .t1 (ai rfl) fun M0 k0 E0=>Aa<|Al rfl<|Ap hb0 func183 rfl (.cons (.many (cs:=(([.bool (decide ((shrU a0.2.2.2.2.2.2.2 63) = (1:UInt64)))]:List Value) ++ ak a0)) rfl rfl (k0.memA .t1)) .nil) rfl ?_
 cases h
 exact k0.gv
theorem cP:ElT Tryz.prog 149 34 (Rep.size UInt64) 8 (vW 0) [vW 0]:=⟨underlying149,by kernel_rfl,rfl,rfl,rfl,rfl⟩
def bZ_p (n:Nat) (a0:U8):Option Th:=
  (dH_p n a0).bind fun b0=>(app ([]:List UInt64) ([b0.fm.1,b0.fm.2.1,b0.fm.2.2.1,b0.fm.2.2.2.1,b0.fm.2.2.2.2.1,b0.fm.2.2.2.2.2.1,b0.fm.2.2.2.2.2.2.1,b0.fm.2.2.2.2.2.2.2]:List UInt64)).bind fun c0=>(ay_p n b0.fe c0).bind fun d0=>some d0
theorem bZ_c (n:Nat) {L w} (hL:hl L w) (a0:U8)  {r:Th} (h:bZ_p n a0 = some r) :
 Cl 151 #[.agg ((ak a0)).toArray] w (ah w fun w' u=>∃ v0_1:Value,u = .agg #[.bool r.fe,v0_1]/\Rep.R w' L [v0_1] r.fo):=by
 unfold bZ_p at h
 refine AG func151 rfl rfl rfl fun _ cs0 hb0=>Ac<|RG.bx (Az w) rfl rfl fun D1 s1 W0 u1=>RG.nl [.bool false,vN] W0 fun G1 A0 F0 z1=>Aa<|Ac<|Ab (AF rfl (F0.memA .t1))<|bk h fun b0 p1 h=>Bi (.agg ((iM b0)).toArray) (bd 183) rfl (e1 rfl) (fun w9 hw9=>dH_c n (F0.hL0 hL hw9) a0 p1) rfl<|RG.nl [.bool false,vW 0,vW 0,vW 0,vW 0,vW 0,vW 0,vW 0,vW 0] F0 fun H1 U0 c1 A1=>AQ (iM b0) c1 .hd (ai rfl) fun I1 u0 B1=>Aa<|Ai<|du 5 fun c0 y0=>Rv 0 c0 rfl y0 (fun _=>AU 0 rfl)<|Rv 3 c0 rfl y0 (fun _=>AU 1 rfl)<|Rx 4 224 c0 rfl y0 (FV.sliceA (len:=8) (m:=1) (p:=Addr.add ⟨U0,0,none⟩ 1) rfl rfl)<|bk h fun z0 G0 h=>RD.mf (α:=Value × (List Value)) (fun ⟨g0,j0⟩=>[(2,vP A0),(7,.bool b0.fe),(11,g0)]) (fun ⟨g0,j0⟩=>[rr w 34 UInt64 g0 z0.length j0,.cells A0 [.bool false,vN] 151]) (fun ⟨g0,j0⟩ Q0=>Cells Q0 (bl [rr w 34 UInt64 g0 z0.length j0,.cells A0 [.bool false,vN] 151] ++ L) j0 (z0:List UInt64)) u0 2 63 ?_ ?_
 rintro ⟨g0,j0⟩ Q0 C0 v1 j1
 try dsimp only
 have D0:=Br C0 .hd
 have x1:=Bs C0 .hd
 refine bk h fun R0 k1 h=>Bl 6 127 c0 rfl .plain (bd 170) rfl (e2 rfl rfl) (fun w9 hw9=>ay_c n (D0.hL hL hw9) (Aq (Bu (α:=UInt64) (v:=g0) (xs:=z0) D0 L (Bf (α:=UInt64) C0 .hd j1 hL)) hw9) k1) rfl fun E1 C1 g1 ⟨H0,hu_,M0⟩=>?_
 subst hu_
 obtain ⟨X0,y1⟩:=D0.agr g1
 refine Bz 7 255 c0 rfl rfl .plain (Ay (news:=[.bool R0.fe,H0]) X0 .hd rfl rfl rfl rfl rfl rfl (o2 rfl (AP M0))) fun F1 E0 d1=>AM (dk c0)<|Al rfl<|Ap hb0 func151 rfl (.cons (.many (cs:=[.bool R0.fe,H0]) rfl rfl (E0.memA .hd)) .nil) rfl ?_
 cases h
 exact ⟨E0.ag,fun w9 hw9=>⟨H0,rfl,E0.kd (Am M0 d1) hw9⟩⟩
 intro B0
 refine BB [1,2] (rk c0) ⟨?_,?_,trivial⟩
 refine RO.val (m' :=27) (sk c0) rfl .plain rfl (AL rfl ((u0.memA .hd) 0 _ rfl))<|BV 2 31 c0 rfl .plain rfl (jB UInt64 u0 cP) fun q1 V0 d0 v0=>?_
 have x0:=jD UInt64 d0 L
 refine BT (i:=5) (rk c0) (BL (m' :=63) (sk c0) rfl rfl .plain rfl (Bo (α:=UInt64) (ys:=([b0.fm.1,b0.fm.2.1,b0.fm.2.2.1,b0.fm.2.2.2.1,b0.fm.2.2.2.2.1,b0.fm.2.2.2.2.2.1,b0.fm.2.2.2.2.2.2.1,b0.fm.2.2.2.2.2.2.2]:List UInt64)) G0 d0 (fun _ _=>.hd) cP rfl rfl x0 (Src.arr (ds:=[vU b0.fm.1,vU b0.fm.2.1,vU b0.fm.2.2.1,vU b0.fm.2.2.2.1,vU b0.fm.2.2.2.2.1,vU b0.fm.2.2.2.2.2.1,vU b0.fm.2.2.2.2.2.2.1,vU b0.fm.2.2.2.2.2.2.2]) (ys:=([b0.fm.1,b0.fm.2.1,b0.fm.2.2.1,b0.fm.2.2.2.1,b0.fm.2.2.2.2.1,b0.fm.2.2.2.2.2.1,b0.fm.2.2.2.2.2.2.1,b0.fm.2.2.2.2.2.2.2]:List UInt64)) (n:=8) (ae (d0.memA .t1) 1 8) (Aw (cs:=[vU b0.fm.1]) (ds:=[vU b0.fm.2.1,vU b0.fm.2.2.1,vU b0.fm.2.2.2.1,vU b0.fm.2.2.2.2.1,vU b0.fm.2.2.2.2.2.1,vU b0.fm.2.2.2.2.2.2.1,vU b0.fm.2.2.2.2.2.2.2]) rfl (Aw (cs:=[vU b0.fm.2.1]) (ds:=[vU b0.fm.2.2.1,vU b0.fm.2.2.2.1,vU b0.fm.2.2.2.2.1,vU b0.fm.2.2.2.2.2.1,vU b0.fm.2.2.2.2.2.2.1,vU b0.fm.2.2.2.2.2.2.2]) rfl (Aw (cs:=[vU b0.fm.2.2.1]) (ds:=[vU b0.fm.2.2.2.1,vU b0.fm.2.2.2.2.1,vU b0.fm.2.2.2.2.2.1,vU b0.fm.2.2.2.2.2.2.1,vU b0.fm.2.2.2.2.2.2.2]) rfl (Aw (cs:=[vU b0.fm.2.2.2.1]) (ds:=[vU b0.fm.2.2.2.2.1,vU b0.fm.2.2.2.2.2.1,vU b0.fm.2.2.2.2.2.2.1,vU b0.fm.2.2.2.2.2.2.2]) rfl (Aw (cs:=[vU b0.fm.2.2.2.2.1]) (ds:=[vU b0.fm.2.2.2.2.2.1,vU b0.fm.2.2.2.2.2.2.1,vU b0.fm.2.2.2.2.2.2.2]) rfl (Aw (cs:=[vU b0.fm.2.2.2.2.2.1]) (ds:=[vU b0.fm.2.2.2.2.2.2.1,vU b0.fm.2.2.2.2.2.2.2]) rfl (Aw (cs:=[vU b0.fm.2.2.2.2.2.2.1]) (ds:=[vU b0.fm.2.2.2.2.2.2.2]) rfl (Aw (cs:=[vU b0.fm.2.2.2.2.2.2.2]) (ds:=[]) rfl (AK _ _))))))))) rfl)) (fun t0 P0 ⟨p0,k0,q0,s0⟩=>?_))
 obtain ⟨Y0,I0⟩:=AI k0 (.a0 (.a1 .done))
 exact B0 (t0,p0) Y0 (Tt v0 (Tt q0 I0)) (AD s0 I0)
 refine BH (m' :=29) (sk c0) rfl .plain rfl (jB UInt64 u0 cP) fun q1 V0 d0 v0=>?_
 have x0:=jD UInt64 d0 L
 refine BB [1,5] (rk c0) ⟨?_,?_,trivial⟩
 refine RO.val (m' :=31) (sk c0) rfl .plain rfl (AL rfl ((d0.memA .t1) 0 _ rfl))<|BT (i:=5) (rk c0) (BL (m' :=63) (sk c0) rfl rfl .plain rfl (Bo (α:=UInt64) (ys:=([b0.fm.1,b0.fm.2.1,b0.fm.2.2.1,b0.fm.2.2.2.1,b0.fm.2.2.2.2.1,b0.fm.2.2.2.2.2.1,b0.fm.2.2.2.2.2.2.1,b0.fm.2.2.2.2.2.2.2]:List UInt64)) G0 d0 (fun _ _=>.hd) cP rfl rfl x0 (Src.arr (ds:=[vU b0.fm.1,vU b0.fm.2.1,vU b0.fm.2.2.1,vU b0.fm.2.2.2.1,vU b0.fm.2.2.2.2.1,vU b0.fm.2.2.2.2.2.1,vU b0.fm.2.2.2.2.2.2.1,vU b0.fm.2.2.2.2.2.2.2]) (ys:=([b0.fm.1,b0.fm.2.1,b0.fm.2.2.1,b0.fm.2.2.2.1,b0.fm.2.2.2.2.1,b0.fm.2.2.2.2.2.1,b0.fm.2.2.2.2.2.2.1,b0.fm.2.2.2.2.2.2.2]:List UInt64)) (n:=8) (ae (d0.memA .t1) 1 8) (Aw (cs:=[vU b0.fm.1]) (ds:=[vU b0.fm.2.1,vU b0.fm.2.2.1,vU b0.fm.2.2.2.1,vU b0.fm.2.2.2.2.1,vU b0.fm.2.2.2.2.2.1,vU b0.fm.2.2.2.2.2.2.1,vU b0.fm.2.2.2.2.2.2.2]) rfl (Aw (cs:=[vU b0.fm.2.1]) (ds:=[vU b0.fm.2.2.1,vU b0.fm.2.2.2.1,vU b0.fm.2.2.2.2.1,vU b0.fm.2.2.2.2.2.1,vU b0.fm.2.2.2.2.2.2.1,vU b0.fm.2.2.2.2.2.2.2]) rfl (Aw (cs:=[vU b0.fm.2.2.1]) (ds:=[vU b0.fm.2.2.2.1,vU b0.fm.2.2.2.2.1,vU b0.fm.2.2.2.2.2.1,vU b0.fm.2.2.2.2.2.2.1,vU b0.fm.2.2.2.2.2.2.2]) rfl (Aw (cs:=[vU b0.fm.2.2.2.1]) (ds:=[vU b0.fm.2.2.2.2.1,vU b0.fm.2.2.2.2.2.1,vU b0.fm.2.2.2.2.2.2.1,vU b0.fm.2.2.2.2.2.2.2]) rfl (Aw (cs:=[vU b0.fm.2.2.2.2.1]) (ds:=[vU b0.fm.2.2.2.2.2.1,vU b0.fm.2.2.2.2.2.2.1,vU b0.fm.2.2.2.2.2.2.2]) rfl (Aw (cs:=[vU b0.fm.2.2.2.2.2.1]) (ds:=[vU b0.fm.2.2.2.2.2.2.1,vU b0.fm.2.2.2.2.2.2.2]) rfl (Aw (cs:=[vU b0.fm.2.2.2.2.2.2.1]) (ds:=[vU b0.fm.2.2.2.2.2.2.2]) rfl (Aw (cs:=[vU b0.fm.2.2.2.2.2.2.2]) (ds:=[]) rfl (AK _ _))))))))) rfl)) (fun t0 P0 ⟨p0,k0,q0,s0⟩=>?_))
 obtain ⟨Z0,J0⟩:=AI k0 (.a0 (.a1 .done))
 exact B0 (t0,p0) Z0 (Tt v0 (Tt q0 J0)) (AD s0 J0)
 refine BL (m' :=61) (sk c0) rfl rfl .plain rfl (Bo (α:=UInt64) (ys:=([b0.fm.1,b0.fm.2.1,b0.fm.2.2.1,b0.fm.2.2.2.1,b0.fm.2.2.2.2.1,b0.fm.2.2.2.2.2.1,b0.fm.2.2.2.2.2.2.1,b0.fm.2.2.2.2.2.2.2]:List UInt64)) G0 d0 (fun _ _=>.hd) cP rfl rfl x0 (Src.arr (ds:=[vU b0.fm.1,vU b0.fm.2.1,vU b0.fm.2.2.1,vU b0.fm.2.2.2.1,vU b0.fm.2.2.2.2.1,vU b0.fm.2.2.2.2.2.1,vU b0.fm.2.2.2.2.2.2.1,vU b0.fm.2.2.2.2.2.2.2]) (ys:=([b0.fm.1,b0.fm.2.1,b0.fm.2.2.1,b0.fm.2.2.2.1,b0.fm.2.2.2.2.1,b0.fm.2.2.2.2.2.1,b0.fm.2.2.2.2.2.2.1,b0.fm.2.2.2.2.2.2.2]:List UInt64)) (n:=8) (ae (d0.memA .t1) 1 8) (Aw (cs:=[vU b0.fm.1]) (ds:=[vU b0.fm.2.1,vU b0.fm.2.2.1,vU b0.fm.2.2.2.1,vU b0.fm.2.2.2.2.1,vU b0.fm.2.2.2.2.2.1,vU b0.fm.2.2.2.2.2.2.1,vU b0.fm.2.2.2.2.2.2.2]) rfl (Aw (cs:=[vU b0.fm.2.1]) (ds:=[vU b0.fm.2.2.1,vU b0.fm.2.2.2.1,vU b0.fm.2.2.2.2.1,vU b0.fm.2.2.2.2.2.1,vU b0.fm.2.2.2.2.2.2.1,vU b0.fm.2.2.2.2.2.2.2]) rfl (Aw (cs:=[vU b0.fm.2.2.1]) (ds:=[vU b0.fm.2.2.2.1,vU b0.fm.2.2.2.2.1,vU b0.fm.2.2.2.2.2.1,vU b0.fm.2.2.2.2.2.2.1,vU b0.fm.2.2.2.2.2.2.2]) rfl (Aw (cs:=[vU b0.fm.2.2.2.1]) (ds:=[vU b0.fm.2.2.2.2.1,vU b0.fm.2.2.2.2.2.1,vU b0.fm.2.2.2.2.2.2.1,vU b0.fm.2.2.2.2.2.2.2]) rfl (Aw (cs:=[vU b0.fm.2.2.2.2.1]) (ds:=[vU b0.fm.2.2.2.2.2.1,vU b0.fm.2.2.2.2.2.2.1,vU b0.fm.2.2.2.2.2.2.2]) rfl (Aw (cs:=[vU b0.fm.2.2.2.2.2.1]) (ds:=[vU b0.fm.2.2.2.2.2.2.1,vU b0.fm.2.2.2.2.2.2.2]) rfl (Aw (cs:=[vU b0.fm.2.2.2.2.2.2.1]) (ds:=[vU b0.fm.2.2.2.2.2.2.2]) rfl (Aw (cs:=[vU b0.fm.2.2.2.2.2.2.2]) (ds:=[]) rfl (AK _ _))))))))) rfl)) fun t0 P0 ⟨p0,k0,q0,s0⟩=>Rx 1 192 c0 rfl y0 (AL rfl ((k0.memA .t1) 0 _ rfl)) ?_
 obtain ⟨b1,K0⟩:=AI k0 (.a0 (.a1 .done))
 exact B0 (t0,p0) b1 (Tt v0 (Tt q0 K0)) (AD s0 K0)
def df:List UInt8:=[0,1,2,2,3,3,3,3,4,4,4,4,4,4,4,4,5,5,5,5,5,5,5,5,5,5,5,5,5,5,5,5,6,6,6,6,6,6,6,6,6,6,6,6,6,6,6,6,6,6,6,6,6,6,6,6,6,6,6,6,6,6,6,6,7,7,7,7,7,7,7,7,7,7,7,7,7,7,7,7,7,7,7,7,7,7,7,7,7,7,7,7,7,7,7,7,7,7,7,7,7,7,7,7,7,7,7,7,7,7,7,7,7,7,7,7,7,7,7,7,7,7,7,7,7,7,7,7,8,8,8,8,8,8,8,8,8,8,8,8,8,8,8,8,8,8,8,8,8,8,8,8,8,8,8,8,8,8,8,8,8,8,8,8,8,8,8,8,8,8,8,8,8,8,8,8,8,8,8,8,8,8,8,8,8,8,8,8,8,8,8,8,8,8,8,8,8,8,8,8,8,8,8,8,8,8,8,8,8,8,8,8,8,8,8,8,8,8,8,8,8,8,8,8,8,8,8,8,8,8,8,8,8,8,8,8,8,8,8,8,8,8,8,8,8,8,8,8,8,8,8,8,8,8,8,8]
def dl_p (_n:Nat) (a0:UInt64):Option Int:=
  jn (fun (u2,i3)=>jn (fun (b0,g0)=>jn (fun (q0,s0)=>(df[(eU q0).toNat]?).bind fun t0=>(chk (s0 + ((t0.toNat:Nat):Int))).bind fun j0=>some j0) (fun d0=>(if (256:UInt64) <= b0 then (chk (g0 + 8)).bind fun k0=>d0 (shrU b0 8,k0) else d0 (b0,g0)))) (fun c0=>(if (65536:UInt64) <= u2 then (chk (((i3:Nat):Int) + 16)).bind fun p0=>c0 (shrU u2 16,p0) else c0 (u2,((i3:Nat):Int))))) (fun J7=>(if (4294967296:UInt64) <= a0 then J7 (shrU a0 32,32) else J7 (a0,0)))
theorem dl_c (n:Nat) {L w} (_hL:hl L w) (a0:UInt64)  {r:Int} (h:dl_p n a0 = some r) :
 Cl 218 #[vU a0] w (ah w fun _ u=>u = vI r):=by
 unfold dl_p at h
 have hS0:=Az w
 refine AG func218 rfl rfl rfl fun _ cs0 hb0=>Ac<|Af rfl<|Aa<|Ai<|Ac<|Ae rfl<|Ab (FV.geqU (a:=a0) (b:=(4294967296:UInt64)) rfl rfl)<|Aa<|MX.jo (α:=UInt64 × Nat) (fun ⟨u2,i3⟩=>[(0,vU u2),(2,vI ((i3:Nat):Int))]) (fun ⟨u2,i3⟩=>[]) (fun ⟨u2,i3⟩=>(u2,i3)) hS0 h ?_ ?_
 rintro ⟨u2,i3⟩ wx3 hS4 hT5 h
 try dsimp only at h
 refine Ai<|Ac<|Ae rfl<|Ab (FV.geqU (a:=u2) (b:=(65536:UInt64)) rfl rfl)<|Aa<|MX.jo (α:=UInt64 × Int) (fun ⟨b0,d0⟩=>[(0,vU b0),(2,vI d0)]) (fun ⟨b0,d0⟩=>[]) (fun ⟨b0,d0⟩=>(b0,d0)) hS4 h ?_ ?_
 rintro ⟨b0,d0⟩ J0 j0 F0 h
 try dsimp only at h
 refine Ai<|Ac<|Ae rfl<|Ab (FV.geqU (a:=b0) (b:=(256:UInt64)) rfl rfl)<|Aa<|MX.jo (α:=UInt64 × Int) (fun ⟨c0,g0⟩=>[(0,vU c0),(2,vI g0)]) (fun ⟨c0,g0⟩=>[]) (fun ⟨c0,g0⟩=>(c0,g0)) j0 h ?_ ?_
 rintro ⟨c0,g0⟩ K0 v0 G0 h
 try dsimp only at h
 refine Ac<|Ae rfl<|Ae rfl<|Ab (FV.conv8 (a:=c0) underlying34 underlying5 rfl)<|bk h fun k0 A0 h=>Ab (FV.strIdx (k:=(eU c0).toNat) (tab:=df) underlying9 rfl rfl rfl rfl A0) ?_
 have H0:=k0.toNat_lt
 refine Ab (FV.convN (i:=k0.toNat) underlying5 underlying3 rfl (by omega))<|bk h fun I0 x0 h=>Ab (BE (i:=g0) (j:=((k0.toNat:Nat):Int)) rfl rfl x0)<|Af rfl<|Aa<|Al rfl<|AY hb0 func218 rfl rfl ?_
 cases h
 exact v0.gv
 intro E0 q0 h
 try dsimp only at h
 refine AT rfl h (fun s0 h=>?_) (fun s0 h=>?_)
 refine Ac<|Ae rfl<|Ab (FV.shrU (a:=b0) (j:=8) rfl rfl)<|Af rfl<|Aa<|Ao<|Ae rfl<|bk h fun B0 y0 h=>Ab (BE (i:=d0) (j:=8) rfl rfl y0)<|Af rfl<|Aa<|q0 (shrU b0 8,B0) j0 (Bw _ _) h
 refine Ar<|q0 (b0,d0) j0 (Bw _ _) h
 intro D0 p0 h
 try dsimp only at h
 refine AT rfl h (fun t0 h=>?_) (fun t0 h=>?_)
 refine Ac<|Ae rfl<|Ab (FV.shrU (a:=u2) (j:=16) rfl rfl)<|Af rfl<|Aa<|Ao<|Ae rfl<|bk h fun C0 z0 h=>Ab (BE (i:=((i3:Nat):Int)) (j:=16) rfl rfl z0)<|Af rfl<|Aa<|p0 (shrU u2 16,C0) hS4 (Bw _ _) h
 refine Ar<|p0 (u2,((i3:Nat):Int)) hS4 (Bw _ _) h
 intro J7 hJ8 h
 try dsimp only at h
 refine AT rfl h (fun u0 h=>?_) (fun u0 h=>?_)
 refine Ac<|Ae rfl<|Ab (FV.shrU (a:=a0) (j:=32) rfl rfl)<|Af rfl<|Aa<|Ao<|Af rfl<|Aa<|hJ8 (shrU a0 32,32) hS0 (Bw _ _) h
 refine Ar<|hJ8 (a0,0) hS0 (Bw _ _) h
def bv_p (n:Nat) (a0:UInt64):Option Int:=
  (dl_p n a0).bind fun y1=>(chk (64 - y1)).bind fun s2=>some s2
theorem bv_c (n:Nat) {L w} (hL:hl L w) (a0:UInt64)  {r:Int} (h:bv_p n a0 = some r) :
 Cl 202 #[vU a0] w (ah w fun _ u=>u = vI r):=by
 unfold bv_p at h
 have hS0:=Az w
 refine AG func202 rfl rfl rfl fun _ cs0 hb0=>Ac<|Af rfl<|Aa<|Ac<|Ae rfl<|bk h fun y1 hy1 h=>Bi (vI y1) (bd 218) rfl (e1 rfl) (fun w9 hw9=>dl_c n (hS0.hL0 hL hw9) a0 hy1) rfl<|bk h fun s2 hs2 h=>Ab (FV.subc (i:=64) (j:=y1) rfl rfl hs2)<|Af rfl<|Aa<|Al rfl<|AY hb0 func202 rfl rfl ?_
 cases h
 exact hS0.gv
def aQ_l1 (_n:Nat) (a2:UInt64) (y8:Int) (a1:UInt64) (d0:UInt64 × UInt64 -> Option UInt64):UInt64 × UInt64 -> Option UInt64
  | (b0,c0)=>(if (4294967296:UInt64) <= b0 then (if (4294967296:UInt64) <= (c0 + (shrU (shlU a2 (ac y8).toNat) 32)) then some (b0 - (1:UInt64)) else d0 (b0 - (1:UInt64),c0 + (shrU (shlU a2 (ac y8).toNat) 32))) else (if (((4294967296:UInt64) * c0) + ((shlU a1 (ac y8).toNat) &&& (4294967295:UInt64))) < (b0 * ((shlU a2 (ac y8).toNat) &&& (4294967295:UInt64))) then (if (4294967296:UInt64) <= (c0 + (shrU (shlU a2 (ac y8).toNat) 32)) then some (b0 - (1:UInt64)) else d0 (b0 - (1:UInt64),c0 + (shrU (shlU a2 (ac y8).toNat) 32))) else some b0))
def aQ_l2 (_n:Nat) (a2:UInt64) (y8:Int) (a1:UInt64) (d0:UInt64 × UInt64 -> Option UInt64):UInt64 × UInt64 -> Option UInt64
  | (b0,c0)=>(if (4294967296:UInt64) <= b0 then (if (4294967296:UInt64) <= (c0 + (shrU (shlU a2 (ac y8).toNat) 32)) then some (b0 - (1:UInt64)) else d0 (b0 - (1:UInt64),c0 + (shrU (shlU a2 (ac y8).toNat) 32))) else (if (((4294967296:UInt64) * c0) + (shrU (shlU a1 (ac y8).toNat) 32)) < (b0 * ((shlU a2 (ac y8).toNat) &&& (4294967295:UInt64))) then (if (4294967296:UInt64) <= (c0 + (shrU (shlU a2 (ac y8).toNat) 32)) then some (b0 - (1:UInt64)) else d0 (b0 - (1:UInt64),c0 + (shrU (shlU a2 (ac y8).toNat) 32))) else some b0))
def aQ_p (n:Nat) (a0:UInt64) (a1:UInt64) (a2:UInt64):Option (UInt64 × UInt64):=
  (if a2 = (0:UInt64) then none else (if a2 <= a0 then none else (if a0 = (0:UInt64) then (ju a1 a2).bind fun s6=>(mO a1 a2).bind fun s7=>some (s6,s7) else (bv_p n a2).bind fun y8=>(ju ((shlU a0 (ac y8).toNat) ||| (shrU a1 ((64:UInt64) - (ac y8)).toNat)) (shrU (shlU a2 (ac y8).toNat) 32)).bind fun s9=>(some (((shlU a0 (ac y8).toNat) ||| (shrU a1 ((64:UInt64) - (ac y8)).toNat)) - (s9 * (shrU (shlU a2 (ac y8).toNat) 32)))).bind fun p0=>jn (fun b0=>(some (((shlU a0 (ac y8).toNat) ||| (shrU a1 ((64:UInt64) - (ac y8)).toNat)) * (4294967296:UInt64))).bind fun c0=>(ju ((c0 + (shrU (shlU a1 (ac y8).toNat) 32)) - (b0 * (shlU a2 (ac y8).toNat))) (shrU (shlU a2 (ac y8).toNat) 32)).bind fun d0=>(some (((c0 + (shrU (shlU a1 (ac y8).toNat) 32)) - (b0 * (shlU a2 (ac y8).toNat))) - (d0 * (shrU (shlU a2 (ac y8).toNat) 32)))).bind fun q0=>jn (fun g0=>(some (((c0 + (shrU (shlU a1 (ac y8).toNat) 32)) - (b0 * (shlU a2 (ac y8).toNat))) * (4294967296:UInt64))).bind fun s0=>(some ((s0 + ((shlU a1 (ac y8).toNat) &&& (4294967295:UInt64))) - (g0 * (shlU a2 (ac y8).toNat)))).bind fun t0=>some ((b0 * (4294967296:UInt64)) + g0,shrU t0 (ac y8).toNat)) (fun k0=>Option.bind (am (aQ_l1 n a2 y8 a1) n (d0,q0)) (k0))) (fun j0=>Option.bind (am (aQ_l2 n a2 y8 a1) n (s9,p0)) (j0)))))
theorem aQ_c (n:Nat) {L w} (hL:hl L w) (a0:UInt64) (a1:UInt64) (a2:UInt64)  {r:UInt64 × UInt64} (h:aQ_p n a0 a1 a2 = some r) :
 Cl 184 #[vU a0,vU a1,vU a2] w (ah w fun _ u=>u = .tuple #[vU r.1,vU r.2]):=by
 unfold aQ_p at h
 have hS0:=Az w
 refine AG func184 rfl rfl rfl fun _ cs0 hb0=>Ac<|Af rfl<|Af rfl<|Aa<|Ai<|Ac<|Ae rfl<|Ab (FV.eqlU (a:=a2) (b:=(0:UInt64)) rfl rfl)<|Aa<|AT rfl h (fun c1 h=>?_) (fun c1 h=>?_)
 refine Ao ?_
 cases h
 refine Ar<|Ai<|Ac<|Ae rfl<|Ae rfl<|Ab (FV.leqU (a:=a2) (b:=a0) rfl rfl)<|Aa<|AT rfl h (fun c2 h=>?_) (fun c2 h=>?_)
 refine Ao ?_
 cases h
 refine Ar<|Ai<|Ac<|Ae rfl<|Ab (FV.eqlU (a:=a0) (b:=(0:UInt64)) rfl rfl)<|Aa<|AT rfl h (fun c3 h=>?_) (fun c3 h=>?_)
 refine Ai<|du 8 fun kt4 kp5=>Rv 0 kt4 rfl kp5 (fun _=>Ak rfl)<|Rv 1 kt4 rfl kp5 (fun _=>Ak rfl)<|bk h fun s6 hs6 h=>Rv 2 kt4 rfl kp5 (fun _=>FV.quoV (a:=a1) (b:=a2) rfl rfl hs6)<|Rv 3 kt4 rfl kp5 (fun _=>Ak rfl)<|Rv 4 kt4 rfl kp5 (fun _=>Ak rfl)<|bk h fun s7 hs7 h=>Rv 5 kt4 rfl kp5 (fun _=>FV.remV (a:=a1) (b:=a2) rfl rfl hs7)<|Rv 6 kt4 rfl kp5 (fun _=>Bh rfl)<|Rv 7 kt4 rfl kp5 (fun _=>Bh rfl)<|AM (dk kt4)<|Al rfl<|Ap hb0 func184 rfl (.cons (.tmp rfl) (.cons (.tmp rfl) .nil)) rfl ?_
 cases h
 exact hS0.gv
 refine Ar<|Ac<|Ae rfl<|bk h fun y8 hy8 h=>Bi (vI y8) (bd 202) rfl (e1 rfl) (fun w9 hw9=>bv_c n (hS0.hL0 hL hw9) a2 hy8) rfl<|Ab (FV.convU (i:=y8) underlying3 underlying250 rfl)<|Af rfl<|Aa<|Ac<|Ae rfl<|Ae rfl<|Ab (FV.shlU (a:=a2) (j:=(ac y8).toNat) rfl rfl)<|Af rfl<|Aa<|Ac<|Ae rfl<|Ab (FV.shrU (a:=shlU a2 (ac y8).toNat) (j:=32) rfl rfl)<|Af rfl<|Aa<|Ac<|Ae rfl<|Ab (FV.andU (a:=shlU a2 (ac y8).toNat) (b:=(4294967295:UInt64)) rfl rfl)<|Af rfl<|Aa<|Ac<|Ae rfl<|Ae rfl<|Ab (FV.shlU (a:=a0) (j:=(ac y8).toNat) rfl rfl)<|Ae rfl<|Ae rfl<|Ab (FV.subU (a:=(64:UInt64)) (b:=ac y8) rfl rfl)<|Ab (FV.shrU (a:=a1) (j:=((64:UInt64) - (ac y8)).toNat) rfl rfl)<|Ab (FV.orU (a:=shlU a0 (ac y8).toNat) (b:=shrU a1 ((64:UInt64) - (ac y8)).toNat) rfl rfl)<|Af rfl<|Aa<|Ac<|Ae rfl<|Ae rfl<|Ab (FV.shlU (a:=a1) (j:=(ac y8).toNat) rfl rfl)<|Af rfl<|Aa<|Ac<|Ae rfl<|Ab (FV.shrU (a:=shlU a1 (ac y8).toNat) (j:=32) rfl rfl)<|Af rfl<|Aa<|Ac<|Ae rfl<|Ab (FV.andU (a:=shlU a1 (ac y8).toNat) (b:=(4294967295:UInt64)) rfl rfl)<|Af rfl<|Aa<|Ac<|Ae rfl<|Ae rfl<|bk h fun s9 hs9 h=>Ab (FV.quoV (a:=(shlU a0 (ac y8).toNat) ||| (shrU a1 ((64:UInt64) - (ac y8)).toNat)) (b:=shrU (shlU a2 (ac y8).toNat) 32) rfl rfl hs9)<|Af rfl<|Aa<|Ac<|Ae rfl ?_
 refine Ae rfl<|Ae rfl<|Ab (FV.mulU (a:=s9) (b:=shrU (shlU a2 (ac y8).toNat) 32) rfl rfl)<|bk h fun d1 W0 h=>Ab (FV.as (FV.subU (a:=(shlU a0 (ac y8).toNat) ||| (shrU a1 ((64:UInt64) - (ac y8)).toNat)) (b:=s9 * (shrU (shlU a2 (ac y8).toNat) 32)) rfl rfl) (congrArg (fun z:UInt64=>Value.int .u64 (z.toNat:Int)) (Option.some.inj W0)))<|Af rfl<|Aa<|Ai<|AA<|MX.xo (α:=UInt64) 0 (fun b0=>[(2,vW ((shlU a2 (ac y8).toNat).toNat:Int)),(8,vW ((ac y8).toNat:Int)),(9,vW ((shrU (shlU a2 (ac y8).toNat) 32).toNat:Int)),(10,vW (((shlU a2 (ac y8).toNat) &&& (4294967295:UInt64)).toNat:Int)),(11,vW (((shlU a0 (ac y8).toNat) ||| (shrU a1 ((64:UInt64) - (ac y8)).toNat)).toNat:Int)),(13,vW ((shrU (shlU a1 (ac y8).toNat) 32).toNat:Int)),(14,vW (((shlU a1 (ac y8).toNat) &&& (4294967295:UInt64)).toNat:Int)),(15,vU b0)]) (fun b0=>[]) (fun b0=>b0) hS0 rfl h ?_ ?_
 rintro b0 A1 D0 t1 h
 try dsimp only at h
 refine Ac<|Ae rfl<|bk h fun p0 X0 h=>Ab (FV.as (FV.mulU (a:=(shlU a0 (ac y8).toNat) ||| (shrU a1 ((64:UInt64) - (ac y8)).toNat)) (b:=(4294967296:UInt64)) rfl rfl) (congrArg (fun z:UInt64=>Value.int .u64 (z.toNat:Int)) (Option.some.inj X0)))<|Ae rfl<|Ab (FV.addU (a:=p0) (b:=shrU (shlU a1 (ac y8).toNat) 32) rfl rfl)<|Ae rfl<|Ae rfl<|Ab (FV.mulU (a:=b0) (b:=shlU a2 (ac y8).toNat) rfl rfl)<|Ab (FV.subU (a:=p0 + (shrU (shlU a1 (ac y8).toNat) 32)) (b:=b0 * (shlU a2 (ac y8).toNat)) rfl rfl)<|Af rfl<|Aa<|Ac<|Ae rfl<|Ae rfl<|bk h fun A0 V0 h=>Ab (FV.quoV (a:=(p0 + (shrU (shlU a1 (ac y8).toNat) 32)) - (b0 * (shlU a2 (ac y8).toNat))) (b:=shrU (shlU a2 (ac y8).toNat) 32) rfl rfl V0)<|Af rfl<|Aa<|Ac<|Ae rfl<|Ae rfl<|Ae rfl<|Ab (FV.mulU (a:=A0) (b:=shrU (shlU a2 (ac y8).toNat) 32) rfl rfl)<|bk h fun g1 Y0 h=>Ab (FV.as (FV.subU (a:=(p0 + (shrU (shlU a1 (ac y8).toNat) 32)) - (b0 * (shlU a2 (ac y8).toNat))) (b:=A0 * (shrU (shlU a2 (ac y8).toNat) 32)) rfl rfl) (congrArg (fun z:UInt64=>Value.int .u64 (z.toNat:Int)) (Option.some.inj Y0)))<|Af rfl<|Aa<|Ai<|AA<|MX.xo (α:=UInt64) 2 (fun k0=>[(2,vW ((shlU a2 (ac y8).toNat).toNat:Int)),(8,vW ((ac y8).toNat:Int)),(14,vW (((shlU a1 (ac y8).toNat) &&& (4294967295:UInt64)).toNat:Int)),(15,vU b0),(17,vW (((p0 + (shrU (shlU a1 (ac y8).toNat) 32)) - (b0 * (shlU a2 (ac y8).toNat))).toNat:Int)),(18,vU k0)]) (fun k0=>[]) (fun k0=>k0) D0 rfl h ?_ ?_
 rintro k0 B1 Q0 u1 h
 try dsimp only at h
 refine Ac<|Ae rfl<|Ab (FV.mulU (a:=b0) (b:=(4294967296:UInt64)) rfl rfl)<|Ae rfl<|Ab (FV.addU (a:=b0 * (4294967296:UInt64)) (b:=k0) rfl rfl)<|Ae rfl<|bk h fun E0 Z0 h=>Ab (FV.as (FV.mulU (a:=(p0 + (shrU (shlU a1 (ac y8).toNat) 32)) - (b0 * (shlU a2 (ac y8).toNat))) (b:=(4294967296:UInt64)) rfl rfl) (congrArg (fun z:UInt64=>Value.int .u64 (z.toNat:Int)) (Option.some.inj Z0)))<|Ae rfl<|Ab (FV.addU (a:=E0) (b:=(shlU a1 (ac y8).toNat) &&& (4294967295:UInt64)) rfl rfl)<|Ae rfl<|Ae rfl<|Ab (FV.mulU (a:=k0) (b:=shlU a2 (ac y8).toNat) rfl rfl)<|bk h fun j1 b1 h=>Ab (FV.as (FV.subU (a:=E0 + ((shlU a1 (ac y8).toNat) &&& (4294967295:UInt64))) (b:=k0 * (shlU a2 (ac y8).toNat)) rfl rfl) (congrArg (fun z:UInt64=>Value.int .u64 (z.toNat:Int)) (Option.some.inj b1)))<|Ae rfl<|Ab (FV.shrU (a:=j1) (j:=(ac y8).toNat) rfl rfl)<|Af rfl<|Af rfl<|Aa<|Al rfl<|Ap hb0 func184 rfl (.cons (.tmp rfl) (.cons (.tmp rfl) .nil)) rfl ?_
 cases h
 exact Q0.gv
 intro s1 x0 h
 try dsimp only at h
 obtain ⟨v1,R0,y0⟩:=aq h
 refine MX.lo (α:=UInt64 × UInt64) (fun ⟨c0,g0⟩=>[(2,vW ((shlU a2 (ac y8).toNat).toNat:Int)),(8,vW ((ac y8).toNat:Int)),(9,vW ((shrU (shlU a2 (ac y8).toNat) 32).toNat:Int)),(10,vW (((shlU a2 (ac y8).toNat) &&& (4294967295:UInt64)).toNat:Int)),(14,vW (((shlU a1 (ac y8).toNat) &&& (4294967295:UInt64)).toNat:Int)),(15,vU b0),(17,vW (((p0 + (shrU (shlU a1 (ac y8).toNat) 32)) - (b0 * (shlU a2 (ac y8).toNat))).toNat:Int)),(18,vU c0),(16,vU g0)]) (fun ⟨c0,g0⟩=>[]) (fun ⟨c0,g0⟩=>(c0,g0)) (A0,g1) R0 D0 ?_
 rintro k1 ⟨c0,g0⟩ y1 B0 q0 t0 h
 unfold aQ_l1 at h
 try dsimp only at h
 refine Ai<|Ac<|Ae rfl<|Ab (FV.geqU (a:=c0) (b:=(4294967296:UInt64)) rfl rfl)<|Ae rfl<|BA (s:=104) rfl h (fun F0 h=>?_) (fun F0 h=>?_)
 refine Au<|Au<|Au<|Au<|Au<|Au<|Au<|Au<|Bm rfl rfl<|Aa<|Bb rfl<|Ar<|AA<|Ac<|Ae rfl<|Ab (FV.subU (a:=c0) (b:=(1:UInt64)) rfl rfl)<|Af rfl<|Aa<|Ac<|Ae rfl<|Ae rfl<|Ab (FV.addU (a:=g0) (b:=shrU (shlU a2 (ac y8).toNat) 32) rfl rfl)<|Af rfl<|Aa<|Ac<|Ae rfl<|Ab (FV.geqU (a:=g0 + (shrU (shlU a2 (ac y8).toNat) 32)) (b:=(4294967296:UInt64)) rfl rfl)<|Aa<|AT rfl h (fun G0 h=>?_) (fun G0 h=>?_)
 refine Be rfl ?_
 have h:=y0 _ h
 try dsimp only at h
 exact x0 (c0 - (1:UInt64)) q0 t0 h
 refine Ar<|AC<|B0 (c0 - (1:UInt64),g0 + (shrU (shlU a2 (ac y8).toNat) 32)) q0 t0 h
 refine AH (Ak rfl)<|AH (Ak rfl)<|AH (FV.mulU (a:=c0) (b:=(shlU a2 (ac y8).toNat) &&& (4294967295:UInt64)) rfl rfl)<|AH (Ak rfl)<|AH (FV.mulU (a:=(4294967296:UInt64)) (b:=g0) rfl rfl)<|AH (Ak rfl)<|AH (FV.addU (a:=(4294967296:UInt64) * g0) (b:=(shlU a1 (ac y8).toNat) &&& (4294967295:UInt64)) rfl rfl)<|AH (FV.gtrU (a:=c0 * ((shlU a2 (ac y8).toNat) &&& (4294967295:UInt64))) (b:=((4294967296:UInt64) * g0) + ((shlU a1 (ac y8).toNat) &&& (4294967295:UInt64))) rfl rfl)<|Bv rfl rfl<|Aa<|AT rfl h (fun H0 h=>?_) (fun H0 h=>?_)
 refine Ar<|AA<|Ac<|Ae rfl<|Ab (FV.subU (a:=c0) (b:=(1:UInt64)) rfl rfl)<|Af rfl<|Aa<|Ac<|Ae rfl<|Ae rfl<|Ab (FV.addU (a:=g0) (b:=shrU (shlU a2 (ac y8).toNat) 32) rfl rfl)<|Af rfl<|Aa<|Ac<|Ae rfl<|Ab (FV.geqU (a:=g0 + (shrU (shlU a2 (ac y8).toNat) 32)) (b:=(4294967296:UInt64)) rfl rfl)<|Aa<|AT rfl h (fun I0 h=>?_) (fun I0 h=>?_)
 refine Be rfl ?_
 have h:=y0 _ h
 try dsimp only at h
 exact x0 (c0 - (1:UInt64)) q0 t0 h
 refine Ar<|AC<|B0 (c0 - (1:UInt64),g0 + (shrU (shlU a2 (ac y8).toNat) 32)) q0 t0 h
 refine Be rfl ?_
 have h:=y0 _ h
 try dsimp only at h
 exact x0 c0 q0 t0 h
 intro q1 v0 h
 try dsimp only at h
 obtain ⟨x1,U0,z0⟩:=aq h
 refine MX.lo (α:=UInt64 × UInt64) (fun ⟨d0,j0⟩=>[(2,vW ((shlU a2 (ac y8).toNat).toNat:Int)),(8,vW ((ac y8).toNat:Int)),(9,vW ((shrU (shlU a2 (ac y8).toNat) 32).toNat:Int)),(10,vW (((shlU a2 (ac y8).toNat) &&& (4294967295:UInt64)).toNat:Int)),(11,vW (((shlU a0 (ac y8).toNat) ||| (shrU a1 ((64:UInt64) - (ac y8)).toNat)).toNat:Int)),(13,vW ((shrU (shlU a1 (ac y8).toNat) 32).toNat:Int)),(14,vW (((shlU a1 (ac y8).toNat) &&& (4294967295:UInt64)).toNat:Int)),(15,vU d0),(16,vU j0)]) (fun ⟨d0,j0⟩=>[]) (fun ⟨d0,j0⟩=>(d0,j0)) (s9,d1) U0 hS0 ?_
 rintro p1 ⟨d0,j0⟩ z1 C0 s0 u0 h
 unfold aQ_l2 at h
 try dsimp only at h
 refine Ai<|Ac<|Ae rfl<|Ab (FV.geqU (a:=d0) (b:=(4294967296:UInt64)) rfl rfl)<|Ae rfl<|BA (s:=69) rfl h (fun J0 h=>?_) (fun J0 h=>?_)
 refine Au<|Au<|Au<|Au<|Au<|Au<|Au<|Au<|Bm rfl rfl<|Aa<|Bb rfl<|Ar<|AA<|Ac<|Ae rfl<|Ab (FV.subU (a:=d0) (b:=(1:UInt64)) rfl rfl)<|Af rfl<|Aa<|Ac<|Ae rfl<|Ae rfl<|Ab (FV.addU (a:=j0) (b:=shrU (shlU a2 (ac y8).toNat) 32) rfl rfl)<|Af rfl<|Aa<|Ac<|Ae rfl<|Ab (FV.geqU (a:=j0 + (shrU (shlU a2 (ac y8).toNat) 32)) (b:=(4294967296:UInt64)) rfl rfl)<|Aa<|AT rfl h (fun K0 h=>?_) (fun K0 h=>?_)
 refine Be rfl ?_
 have h:=z0 _ h
 try dsimp only at h
 exact v0 (d0 - (1:UInt64)) s0 u0 h
 refine Ar<|AC<|C0 (d0 - (1:UInt64),j0 + (shrU (shlU a2 (ac y8).toNat) 32)) s0 u0 h
 refine AH (Ak rfl)<|AH (Ak rfl)<|AH (FV.mulU (a:=d0) (b:=(shlU a2 (ac y8).toNat) &&& (4294967295:UInt64)) rfl rfl)<|AH (Ak rfl)<|AH (FV.mulU (a:=(4294967296:UInt64)) (b:=j0) rfl rfl)<|AH (Ak rfl)<|AH (FV.addU (a:=(4294967296:UInt64) * j0) (b:=shrU (shlU a1 (ac y8).toNat) 32) rfl rfl)<|AH (FV.gtrU (a:=d0 * ((shlU a2 (ac y8).toNat) &&& (4294967295:UInt64))) (b:=((4294967296:UInt64) * j0) + (shrU (shlU a1 (ac y8).toNat) 32)) rfl rfl)<|Bv rfl rfl<|Aa<|AT rfl h (fun M0 h=>?_) (fun M0 h=>?_)
 refine Ar<|AA<|Ac<|Ae rfl<|Ab (FV.subU (a:=d0) (b:=(1:UInt64)) rfl rfl)<|Af rfl<|Aa<|Ac<|Ae rfl<|Ae rfl<|Ab (FV.addU (a:=j0) (b:=shrU (shlU a2 (ac y8).toNat) 32) rfl rfl)<|Af rfl<|Aa<|Ac<|Ae rfl<|Ab (FV.geqU (a:=j0 + (shrU (shlU a2 (ac y8).toNat) 32)) (b:=(4294967296:UInt64)) rfl rfl)<|Aa<|AT rfl h (fun P0 h=>?_) (fun P0 h=>?_)
 refine Be rfl ?_
 have h:=z0 _ h
 try dsimp only at h
 exact v0 (d0 - (1:UInt64)) s0 u0 h
 refine Ar<|AC<|C0 (d0 - (1:UInt64),j0 + (shrU (shlU a2 (ac y8).toNat) 32)) s0 u0 h
 refine Be rfl ?_
 have h:=z0 _ h
 try dsimp only at h
 exact v0 d0 s0 u0 h
def dw_p (n:Nat) (a0:List UInt64):Option Int:=
  (if a0.length = 0 then some (0:Int) else (chk (64 * ((a0.length:Nat):Int))).bind fun s3=>(idx a0 (((a0.length:Nat):Int) - 1)).bind fun x4=>(bv_p n x4).bind fun c0=>(chk (s3 - c0)).bind fun b0=>some b0)
theorem dw_c (n:Nat) {L w} (hL:hl L w) {a0:List UInt64} {v0_0:Value} (h0_0:Rep.R w L [v0_0] a0)  {r:Int} (h:dw_p n a0 = some r) :
 Cl 185 #[v0_0] w (ah w fun _ u=>u = vI r):=by
 unfold dw_p at h
 have hS0:=Az w
 refine AG func185 rfl rfl rfl fun _ cs0 hb0=>Ac<|Af rfl<|Aa<|Ai<|Ac<|Ae rfl ?_
 have hl1:a0.length <= 281474976710656:=Ba h0_0
 refine Ab (Bg (xs:=a0) underlying149 rfl h0_0)<|Ab (BM (i:=a0.length) (j:=0) rfl rfl)<|Aa<|AT rfl h (fun c2 h=>?_) (fun c2 h=>?_)
 refine Ac<|Af rfl<|Aa<|Al rfl<|AY hb0 func185 rfl rfl ?_
 cases h
 exact hS0.gv
 refine Ar<|Ac<|Ae rfl<|Ab (Bg (xs:=a0) underlying149 rfl h0_0)<|bk h fun s3 hs3 h=>Ab (FV.mulc (i:=64) (j:=((a0.length:Nat):Int)) rfl rfl hs3)<|Ae rfl<|Ae rfl<|Ab (Bg (xs:=a0) underlying149 rfl h0_0)<|Ab (FV.subI (i:=((a0.length:Nat):Int)) (j:=1) rfl rfl (by omega))<|bk h fun x4 hx4 h=>?_
 obtain ⟨hi5,hx6⟩:=aA hx4
 obtain ⟨A7,c8,he9,g0,c0,k0,j0⟩:=Bk h0_0 hx6
 have d0:c0 = [vU x4]:=k0; subst d0
 refine Ab (FV.idxAddr (m:=1) (i:=(((a0.length:Nat):Int) - 1).toNat) rfl rfl he9 rfl hi5 g0)<|AR rfl (j0 0 _ rfl)<|bk h fun b0 q0 h=>Bi (vI b0) (bd 202) rfl (e1 rfl) (fun w9 hw9=>bv_c n (hS0.hL0 hL hw9) x4 q0) rfl<|bk h fun s0 p0 h=>Ab (FV.subc (i:=s3) (j:=b0) rfl rfl p0)<|Af rfl<|Aa<|Al rfl<|AY hb0 func185 rfl rfl ?_
 cases h
 exact hS0.gv
def dm_l1 (_n:Nat) (a0:List UInt64) (a1:Int) (g0:Nat × (List UInt64) -> Option (List UInt64)):Nat × (List UInt64) -> Option (List UInt64)
  | (b0,c0)=>(if b0 < a0.length then (a0[b0]?).bind fun p0=>(cJ a1 64).bind fun t0=>(chk (((b0:Nat):Int) + t0)).bind fun j0=>(idx c0 j0).bind fun B0=>(bQ a1 64).bind fun u0=>(bC u0).bind fun q0=>(put c0 ((j0.toNat:Nat):Int) (B0 ||| (shlU p0 q0))).bind fun d0=>(bQ a1 64).bind fun v0=>(if 0 < v0 then (cJ a1 64).bind fun x0=>(chk (((b0:Nat):Int) + x0)).bind fun y0=>(chk (y0 + 1)).bind fun k0=>(bQ a1 64).bind fun z0=>(chk (64 - z0)).bind fun A0=>(bC A0).bind fun s0=>(idx d0 k0).bind fun _x218=>(put d0 ((k0.toNat:Nat):Int) (shrU p0 s0)).bind fun C0=>g0 (b0 + 1,C0) else g0 (b0 + 1,d0)) else some c0)
def dm_p (n:Nat) (a0:List UInt64) (a1:Int):Option (List UInt64):=
  (cJ a1 64).bind fun s2=>(chk (((a0.length:Nat):Int) + s2)).bind fun s3=>(chk (s3 + 1)).bind fun s4=>(mk s4 (0:UInt64)).bind fun b0=>Option.bind (am (dm_l1 n a0 a1) n (0,b0)) (fun c0=>(ay_p n false c0).bind fun d0=>some d0.fo)
theorem dm_c (n:Nat) {L w} (hL:hl L w) {a0:List UInt64} {v0_0:Value} (h0_0:Rep.R w L [v0_0] a0) {a1:Int}  {r:List UInt64} (h:dm_p n a0 a1 = some r) :
 Cl 186 #[v0_0,vI a1] w (ah w fun w' u=>∃ v0_0:Value,u = v0_0/\Rep.R w' L [v0_0] r):=by
 unfold dm_p at h
 refine AG func186 rfl rfl rfl fun _ cs0 hb0=>Ac<|Af rfl<|Aa<|Ac<|Ae rfl ?_
 have hl1:a0.length <= 281474976710656:=Ba h0_0
 refine Ab (Bg (xs:=a0) underlying149 rfl h0_0)<|Ae rfl<|bk h fun s2 hs2 h=>Ab (FV.quoc (i:=a1) (j:=64) rfl rfl hs2)<|bk h fun s3 hs3 h=>Ab (BE (i:=((a0.length:Nat):Int)) (j:=s2) rfl rfl hs3)<|bk h fun s4 hs4 h=>Ab (BE (i:=s3) (j:=1) rfl rfl hs4)<|bk h fun U0 K0 h=>Aj .plain rfl (Does.mk (α:=UInt64) K0 (Az w) cP rfl) fun Z2 p0 u0 Q2=>Af rfl<|Aa<|Ai<|Ac<|Ae rfl<|Ab (Bg (xs:=a0) underlying149 rfl (AS h0_0 u0))<|Ae rfl<|Aa<|AA ?_
 obtain ⟨X2,H1,A1⟩:=aq h
 refine MX.lf (α:=Nat × (List UInt64) × (List Value)) (fun ⟨c0,g0,j0⟩=>[(1,vI a1),(5,(.slice (some ⟨p0,0,none⟩) s4.toNat s4.toNat)),(15,v0_0),(16,vI ((a0.length:Nat):Int)),(17,vI ((c0:Nat):Int))]) (fun ⟨c0,g0,j0⟩=>[rr w 34 UInt64 (.slice (some ⟨p0,0,none⟩) s4.toNat s4.toNat) g0.length j0]) (fun ⟨c0,g0,j0⟩ Q0=>Cells Q0 (bl [rr w 34 UInt64 (.slice (some ⟨p0,0,none⟩) s4.toNat s4.toNat) g0.length j0] ++ L) j0 g0) (fun ⟨c0,g0,j0⟩=>(c0,g0)) (0,U0,(List.replicate s4.toNat [vW 0]).flatten) H1 u0 (AE (cs:=(List.replicate s4.toNat [vW 0]).flatten) (xs:=U0) u0 L (BR K0 rfl)) ?_
 rintro H2 ⟨c0,g0,j0⟩ Q0 C0 k0 E0 x0 h
 unfold dm_l1 at h
 try dsimp only at h
 refine Ac<|Ab (Bq (i:=c0) (j:=a0.length) rfl rfl)<|Aa<|Ai<|AT rfl h (fun Z0 h=>?_) (fun Z0 h=>?_)
 refine Ar<|Ai<|AA<|Ac<|Ae rfl<|bk h fun t0 b2 h=>?_
 obtain ⟨G2,I2,v1,C1,c1,I1,F1⟩:=Bk (AS h0_0 k0) b2
 have x1:c1 = [vU t0]:=I1; subst x1
 refine Ab (Bj 1 c0 rfl v1 rfl rfl C1)<|AR rfl (F1 0 _ rfl)<|Af rfl<|Af rfl<|Aa<|Ai<|du 13 fun b0 d0=>Rv 0 b0 rfl d0 (fun _=>Ak rfl)<|Rv 1 b0 rfl d0 (fun _=>Ak rfl)<|Rv 2 b0 rfl d0 (fun _=>Ak rfl)<|bk h fun u2 P1 h=>Rv 3 b0 rfl d0 (fun _=>FV.quoc (i:=a1) (j:=64) rfl rfl P1)<|bk h fun B0 Q1 h=>Rv 4 b0 rfl d0 (fun _=>BE (i:=((c0:Nat):Int)) (j:=u2) rfl rfl Q1)<|bk h fun R0 c2 h=>?_
 obtain ⟨I0,d2⟩:=aA c2
 obtain ⟨V0,J2,s0,A0,d1,J1,G1⟩:=St.nth (α:=UInt64) k0 .hd x0 d2
 obtain ⟨X0,K2,G0⟩:=BJ (α:=UInt64) k0 .hd A0
 obtain rfl:V0 = ⟨X0,0,none⟩:=by rw [G0] at s0; cases s0; rfl
 have y1:d1 = [vU R0]:=J1; subst y1
 refine Rv 5 b0 rfl d0 (fun _=>Bj 1 (B0.toNat) rfl s0 rfl I0 A0)<|Rx 6 14336 b0 rfl d0 (AL rfl (G1 0 _ rfl))<|Rv 7 b0 rfl d0 (fun _=>Ak rfl)<|Rv 8 b0 rfl d0 (fun _=>Ak rfl)<|bk h fun v2 R1 h=>Rv 9 b0 rfl d0 (fun _=>FV.remc (i:=a1) (j:=64) rfl rfl R1)<|bk h fun t2 D1 h=>Rv 10 b0 rfl d0 (fun _=>FV.shlI (a:=t0) (i:=v2) rfl rfl D1)<|Rv 11 b0 rfl d0 (fun _=>FV.orU (a:=R0) (b:=shlU t0 t2) rfl rfl)<|Rv 12 b0 rfl d0 (fun _=>Bj 1 (B0.toNat) rfl s0 rfl I0 A0)<|bk h fun D2 k2 h=>BT (i:=13) (rk b0) (RO.acts (m' :=16383) (sk b0) rfl rfl .plain (Acts.set (α:=UInt64) (i:=B0.toNat) k2 k0 G0 (fun _=>.hd) x0 rfl rfl rfl rfl rfl rfl) (fun b3 ⟨g1,q0,F0,y0⟩=>?_))
 refine AM (dk b0)<|Ac<|Ae rfl<|bk h fun x2 U1 h=>Ab (FV.remc (i:=a1) (j:=64) rfl rfl U1)<|Ab (FV.gtr (i:=x2) (j:=0) rfl rfl)<|Aa<|AT rfl h (fun b1 h=>?_) (fun b1 h=>?_)
 refine Ao<|Ae rfl<|Ae rfl<|Ae rfl<|bk h fun y2 V1 h=>Ab (FV.quoc (i:=a1) (j:=64) rfl rfl V1)<|bk h fun z2 W1 h=>Ab (BE (i:=((c0:Nat):Int)) (j:=y2) rfl rfl W1)<|bk h fun M0 X1 h=>Ab (BE (i:=z2) (j:=1) rfl rfl X1)<|Ae rfl<|Ae rfl<|bk h fun A2 Y1 h=>Ab (FV.remc (i:=a1) (j:=64) rfl rfl Y1)<|bk h fun B2 Z1 h=>Ab (FV.subc (i:=64) (j:=A2) rfl rfl Z1)<|bk h fun W2 E1 h=>Ab (FV.shrI (a:=t0) (i:=B2) rfl rfl E1)<|bk h fun C2 g2 h=>?_
 obtain ⟨B1,j2⟩:=aA g2
 obtain ⟨W0,M2,z0,J0,j1,K1,V2⟩:=St.nth (α:=UInt64) q0 .hd y0 j2
 obtain ⟨Y0,P2,H0⟩:=BJ (α:=UInt64) q0 .hd J0
 obtain rfl:W0 = ⟨Y0,0,none⟩:=by rw [H0] at z0; cases z0; rfl
 have z1:j1 = [vU C2]:=K1; subst z1
 refine Ab (Bj 1 (M0.toNat) rfl z0 rfl B1 J0)<|bk h fun E2 p2 h=>RG.acts' .plain (Acts.set (α:=UInt64) (i:=M0.toNat) p2 q0 H0 (fun _=>.hd) y0 rfl rfl rfl rfl rfl rfl) fun c3 ⟨k1,p1,q1,u1⟩=>Aa<|AC<|Ao<|Ab (Bn (i:=c0) (j:=1) rfl rfl (by omega))<|Ae rfl<|Aa<|C0 (c0 + 1,E2,k1) p1 (Tt E0 (Tt F0 q1)) u1 h
 refine Ar<|AC<|Ao<|Ab (Bn (i:=c0) (j:=1) rfl rfl (by omega))<|Ae rfl<|Aa<|C0 (c0 + 1,D2,g1) q0 (Tt E0 F0) y0 h
 refine Be rfl ?_
 have h:=A1 _ h
 try dsimp only at h
 refine Ac<|Ae rfl ?_
 have v0:=Br k0 .hd
 have R2:=Bs k0 .hd
 refine bk h fun F2 q2 h=>jE (bd 170) rfl (e2 rfl rfl) (fun w9 hw9=>ay_c n (v0.hL hL hw9) (Aq (Bu (α:=UInt64) (v:=(.slice (some ⟨p0,0,none⟩) s4.toNat s4.toNat)) (xs:=g0) v0 L (Bf (α:=UInt64) k0 .hd x0 hL)) hw9) q2) rfl fun d3 Y2 s1 ⟨P0,hu_,M1⟩=>?_
 subst hu_
 obtain ⟨D0,U2⟩:=v0.agr s1
 refine Ab (FV.field1 (cs:=[.bool F2.fe,P0]) (off:=1) (m:=1) rfl rfl rfl rfl)<|Af rfl<|Aa<|Al rfl<|AY hb0 func186 rfl rfl ?_
 cases h
 exact ⟨D0.ag,fun w9 hw9=>⟨P0,rfl,D0.kd M1 hw9⟩⟩
def bX_l1 (_n:Nat) (a0:List UInt64) (a1:List UInt64) (g0:Int -> Option (Int ⊕ Unit)):Int -> Option (Int ⊕ Unit)
  | b0=>(if 0 <= b0 then (idx a0 b0).bind fun c0=>(idx a1 b0).bind fun d0=>(if c0 < d0 then some (.inl (-1:Int)) else (if d0 < c0 then some (.inl (1:Int)) else (chk (b0 - 1)).bind fun j0=>g0 j0)) else some (.inr ()))
def bX_p (n:Nat) (a0:List UInt64) (a1:List UInt64):Option Int:=
  (if a0.length = a1.length then thn (am (bX_l1 n a0 a1) n (((a0.length:Nat):Int) - 1)) (fun _=>some (0:Int)) else some (((a0.length:Nat):Int) - ((a1.length:Nat):Int)))
theorem bX_c (n:Nat) {L w} (_hL:hl L w) {a0:List UInt64} {v0_0:Value} (h0_0:Rep.R w L [v0_0] a0) {a1:List UInt64} {v1_0:Value} (h1_0:Rep.R w L [v1_0] a1)  {r:Int} (h:bX_p n a0 a1 = some r) :
 Cl 187 #[v0_0,v1_0] w (ah w fun _ u=>u = vI r):=by
 unfold bX_p at h
 have hS0:=Az w
 refine AG func187 rfl rfl rfl fun _ cs0 hb0=>Ac<|Af rfl<|Aa<|Ai<|Ac<|Ae rfl ?_
 have hl1:a0.length <= 281474976710656:=Ba h0_0
 refine Ab (Bg (xs:=a0) underlying149 rfl h0_0)<|Ae rfl ?_
 have hl2:a1.length <= 281474976710656:=Ba h1_0
 refine Ab (Bg (xs:=a1) underlying149 rfl h1_0)<|Ab (FV.neqN (i:=a0.length) (j:=a1.length) rfl rfl)<|Aa<|MX.ifn rfl h (fun c3 h=>?_) (fun c3 h=>?_)
 refine Ar<|Ai<|Ac<|Ae rfl<|Ab (Bg (xs:=a0) underlying149 rfl h0_0)<|Ab (FV.subI (i:=((a0.length:Nat):Int)) (j:=1) rfl rfl (by omega))<|Af rfl<|Aa<|AA<|tn h fun j1 M0 p0=>MX.lo (α:=Int) (fun d0=>[(0,v0_0),(1,v1_0),(5,vI d0)]) (fun d0=>[]) (fun d0=>d0) (((a0.length:Nat):Int) - 1) M0 hS0 ?_
 rintro c1 d0 k1 H0 k0 I0 h
 unfold bX_l1 at h
 try dsimp only at h
 refine Ai<|Ac<|Ae rfl<|Ab (FV.geq (i:=d0) (j:=0) rfl rfl)<|Aa<|AT rfl h (fun C0 h=>?_) (fun C0 h=>?_)
 refine Ar<|Ai<|AA<|AA<|Ai<|du 10 fun b0 g0=>Rv 0 b0 rfl g0 (fun _=>Ak rfl)<|Rv 1 b0 rfl g0 (fun _=>Ak rfl)<|bk h fun q0 U0 h=>?_
 obtain ⟨v0,V0⟩:=aA U0
 obtain ⟨Z0,d1,t0,y0,F0,P0,A0⟩:=Bk (AS h0_0 k0) V0
 have J0:F0 = [vU q0]:=P0; subst J0
 refine Rv 2 b0 rfl g0 (fun _=>Bj 1 (d0.toNat) rfl t0 rfl v0 y0)<|Rx 3 768 b0 rfl g0 (AL rfl (A0 0 _ rfl))<|Rv 4 b0 rfl g0 (fun _=>Ak rfl)<|Rv 5 b0 rfl g0 (fun _=>Ak rfl)<|bk h fun s0 W0 h=>?_
 obtain ⟨x0,X0⟩:=aA W0
 obtain ⟨b1,g1,u0,z0,G0,Q0,B0⟩:=Bk (AS h1_0 k0) X0
 have K0:G0 = [vU s0]:=Q0; subst K0
 refine Rv 6 b0 rfl g0 (fun _=>Bj 1 (d0.toNat) rfl u0 rfl x0 z0)<|Rx 7 768 b0 rfl g0 (AL rfl (B0 0 _ rfl))<|Rv 8 b0 rfl g0 (fun _=>FV.lssU (a:=q0) (b:=s0) rfl rfl)<|Rv 9 b0 rfl g0 (fun _=>Bh rfl)<|AM (dk b0)<|AT rfl h (fun D0 h=>?_) (fun D0 h=>?_)
 refine Ac<|Af rfl<|Aa ?_
 have h:=au h p0
 refine Al rfl<|AY hb0 func187 rfl rfl ?_
 cases h
 exact k0.gv
 refine Ai<|du 10 fun c0 j0=>Rv 0 c0 rfl j0 (fun _=>Ak rfl)<|Rv 1 c0 rfl j0 (fun _=>Ak rfl)<|Rv 2 c0 rfl j0 (fun _=>Bj 1 (d0.toNat) rfl t0 rfl v0 y0)<|Rx 3 768 c0 rfl j0 (AL rfl (A0 0 _ rfl))<|Rv 4 c0 rfl j0 (fun _=>Ak rfl)<|Rv 5 c0 rfl j0 (fun _=>Ak rfl)<|Rv 6 c0 rfl j0 (fun _=>Bj 1 (d0.toNat) rfl u0 rfl x0 z0)<|Rx 7 768 c0 rfl j0 (AL rfl (B0 0 _ rfl))<|Rv 8 c0 rfl j0 (fun _=>FV.gtrU (a:=q0) (b:=s0) rfl rfl)<|Rv 9 c0 rfl j0 (fun _=>Bh rfl)<|AM (dk c0)<|AT rfl h (fun E0 h=>?_) (fun E0 h=>?_)
 refine Ac<|Af rfl<|Aa ?_
 have h:=au h p0
 refine Al rfl<|AY hb0 func187 rfl rfl ?_
 cases h
 exact k0.gv
 refine Ar<|AC<|AC<|Ao<|Ae rfl<|bk h fun Y0 R0 h=>Ab (FV.subc (i:=d0) (j:=1) rfl rfl R0)<|Af rfl<|Aa<|H0 Y0 k0 I0 h
 refine Be rfl ?_
 have h:=aF h p0
 try dsimp only at h
 refine Ac<|Af rfl<|Aa<|Al rfl<|AY hb0 func187 rfl rfl ?_
 cases h
 exact k0.gv
 refine Ac<|Ae rfl<|Ab (Bg (xs:=a0) underlying149 rfl h0_0)<|Ae rfl<|Ab (Bg (xs:=a1) underlying149 rfl h1_0)<|Ab (FV.subI (i:=((a0.length:Nat):Int)) (j:=((a1.length:Nat):Int)) rfl rfl (by omega))<|Af rfl<|Aa<|Al rfl<|AY hb0 func187 rfl rfl ?_
 cases h
 exact hS0.gv
def cq_l1 (_n:Nat) (a0:List UInt64) (a1:List UInt64) (j0:UInt64 × Nat × (List UInt64) -> Option (List UInt64)):UInt64 × Nat × (List UInt64) -> Option (List UInt64)
  | (k0,b0,c0)=>(if b0 < a0.length then (a0[b0]?).bind fun q0=>jn (fun p0=>(sub64 q0 p0 k0).bind fun g0=>(c0[b0]?).bind fun _x193=>(put c0 ((b0:Nat):Int) g0.1).bind fun t0=>j0 (g0.2,b0 + 1,t0)) (fun d0=>(if b0 < a1.length then (a1[b0]?).bind fun s0=>d0 s0 else d0 (0:UInt64))) else some c0)
def cq_p (n:Nat) (a0:List UInt64) (a1:List UInt64):Option (List UInt64):=
  (mk ((a0.length:Nat):Int) (0:UInt64)).bind fun b0=>Option.bind (am (cq_l1 n a0 a1) n (0,0,b0)) (fun c0=>some c0)
theorem cq_c (n:Nat) {L w} (hL:hl L w) {a0:List UInt64} {v0_0:Value} (h0_0:Rep.R w L [v0_0] a0) {a1:List UInt64} {v1_0:Value} (h1_0:Rep.R w L [v1_0] a1)  {r:List UInt64} (h:cq_p n a0 a1 = some r) :
 Cl 188 #[v0_0,v1_0] w (ah w fun w' u=>∃ v0_0:Value,u = v0_0/\Rep.R w' L [v0_0] r):=by
 unfold cq_p at h
 refine AG func188 rfl rfl rfl fun _ cs0 hb0=>Ac<|Af rfl<|Aa<|Ac<|Ae rfl ?_
 have hl1:a0.length <= 281474976710656:=Ba h0_0
 refine Ab (Bg (xs:=a0) underlying149 rfl h0_0)<|bk h fun H0 E0 h=>Aj .plain rfl (Does.mk (α:=UInt64) E0 (Az w) cP rfl) fun c2 k0 q0 W1=>Af rfl<|Aa<|Ac<|Af rfl<|Aa<|Ai<|Ac<|Ae rfl<|Ab (Bg (xs:=a0) underlying149 rfl (AS h0_0 q0))<|Ae rfl<|Aa<|AA ?_
 obtain ⟨b2,v1,k1⟩:=aq h
 refine MX.lf (α:=UInt64 × Nat × (List UInt64) × (List Value)) (fun ⟨j0,b0,c0,d0⟩=>[(1,v1_0),(5,(.slice (some ⟨k0,0,none⟩) ((a0.length:Nat):Int).toNat ((a0.length:Nat):Int).toNat)),(6,vU j0),(13,v0_0),(14,vI ((a0.length:Nat):Int)),(15,vI ((b0:Nat):Int))]) (fun ⟨j0,b0,c0,d0⟩=>[rr w 34 UInt64 (.slice (some ⟨k0,0,none⟩) ((a0.length:Nat):Int).toNat ((a0.length:Nat):Int).toNat) c0.length d0]) (fun ⟨j0,b0,c0,d0⟩ F0=>Cells F0 (bl [rr w 34 UInt64 (.slice (some ⟨k0,0,none⟩) ((a0.length:Nat):Int).toNat ((a0.length:Nat):Int).toNat) c0.length d0] ++ L) d0 c0) (fun ⟨j0,b0,c0,d0⟩=>(j0,b0,c0)) (0,0,H0,(List.replicate ((a0.length:Nat):Int).toNat [vW 0]).flatten) v1 q0 (AE (cs:=(List.replicate ((a0.length:Nat):Int).toNat [vW 0]).flatten) (xs:=H0) q0 L (BR E0 rfl)) ?_
 rintro M1 ⟨j0,b0,c0,d0⟩ F0 V0 g0 X0 A0 h
 unfold cq_l1 at h
 try dsimp only at h
 refine Ac<|Ab (Bq (i:=b0) (j:=a0.length) rfl rfl)<|Aa<|Ai<|AT rfl h (fun K0 h=>?_) (fun K0 h=>?_)
 refine Ar<|Ai<|AA<|Ac<|Ae rfl<|bk h fun x0 B1 h=>?_
 obtain ⟨J1,Q1,b1,p1,P0,x1,s1⟩:=Bk (AS h0_0 g0) B1
 have c1:P0 = [vU x0]:=x1; subst c1
 refine Ab (Bj 1 b0 rfl b1 rfl rfl p1)<|AR rfl (s1 0 _ rfl)<|Af rfl<|Af rfl<|Aa<|Ac<|Af rfl<|Aa<|Ai<|Ac<|Ae rfl<|Ae rfl ?_
 have v0:=AS h1_0 g0
 have Y1:a1.length <= 281474976710656:=Ba v0
 refine Ab (Bg (xs:=a1) underlying149 rfl v0)<|Ab (Bq (i:=b0) (j:=a1.length) rfl rfl)<|Aa<|MX.jo (α:=UInt64) (fun p0=>[(1,v1_0),(5,(.slice (some ⟨k0,0,none⟩) ((a0.length:Nat):Int).toNat ((a0.length:Nat):Int).toNat)),(6,vU j0),(13,v0_0),(14,vI ((a0.length:Nat):Int)),(15,vI ((b0:Nat):Int)),(7,vI ((b0:Nat):Int)),(8,vU x0),(9,vU p0)]) (fun p0=>[rr w 34 UInt64 (.slice (some ⟨k0,0,none⟩) ((a0.length:Nat):Int).toNat ((a0.length:Nat):Int).toNat) c0.length d0]) (fun p0=>p0) g0 h ?_ ?_
 rintro p0 g2 s0 z0 h
 try dsimp only at h
 refine Ao<|Ae rfl<|Ae rfl<|Ae rfl<|Ae rfl<|Ae rfl<|bk h fun I1 F1 h=>Ab (FV.sub64 (a:=x0) (b:=p0) (c:=j0) func203 rfl rfl rfl rfl rfl rfl rfl F1)<|Ae rfl<|Ab (Ah rfl rfl)<|Ab (Ah rfl rfl)<|bk h fun G1 C1 h=>?_
 have D0:=AD A0 z0
 obtain ⟨I0,R1,u0,C0,Q0,y1,Z1⟩:=St.nth (α:=UInt64) s0 .hd D0 C1
 obtain ⟨J0,U1,B0⟩:=BJ (α:=UInt64) s0 .hd C0
 obtain rfl:I0 = ⟨J0,0,none⟩:=by rw [B0] at u0; cases u0; rfl
 have d1:Q0 = [vU G1]:=y1; subst d1
 refine Ab (Bj 1 b0 rfl u0 rfl rfl C0)<|bk h fun H1 E1 h=>RG.acts' .plain (Acts.set (α:=UInt64) (i:=b0) E1 s0 B0 (fun _=>.hd) D0 rfl rfl rfl rfl rfl rfl) fun d2 ⟨R0,W0,Y0,Z0⟩=>Af rfl<|Aa<|AC<|Ao<|Ab (Bn (i:=b0) (j:=1) rfl rfl (by omega))<|Ae rfl<|Aa<|V0 (I1.2,b0 + 1,H1,R0) W0 (Tt X0 (Tt z0 Y0)) Z0 h
 intro P1 y0 h
 try dsimp only at h
 refine AT rfl h (fun M0 h=>?_) (fun M0 h=>?_)
 refine Ao<|Ae rfl<|Ae rfl<|bk h fun G0 D1 h=>?_
 obtain ⟨K1,V1,g1,q1,U0,z1,u1⟩:=Bk v0 D1
 have j1:U0 = [vU G0]:=z1; subst j1
 refine Ab (Bj 1 b0 rfl g1 rfl rfl q1)<|AR rfl (u1 0 _ rfl)<|Af rfl<|Aa<|y0 G0 g0 (Bw _ _) h
 refine Ar<|y0 (0:UInt64) g0 (Bw _ _) h
 refine Be rfl ?_
 have h:=k1 _ h
 try dsimp only at h
 refine Ac<|Ae rfl<|Af rfl<|Aa<|Al rfl ?_
 have t0:=Br g0 .hd
 have X1:=Bs g0 .hd
 have A1:=Bu (α:=UInt64) (v:=(.slice (some ⟨k0,0,none⟩) ((a0.length:Nat):Int).toNat ((a0.length:Nat):Int).toNat)) (xs:=c0) t0 L (Bf (α:=UInt64) g0 .hd A0 hL)
 refine AY hb0 func188 rfl rfl ?_
 cases h
 exact ⟨t0.ag,fun w9 hw9=>⟨(.slice (some ⟨k0,0,none⟩) ((a0.length:Nat):Int).toNat ((a0.length:Nat):Int).toNat),rfl,t0.kd A1 hw9⟩⟩
def aU_l1 (n:Nat) (a0:List UInt64) (a1:List UInt64) (j0:UInt64 × Int × (List UInt64) -> Option (UInt64 × (List UInt64))):UInt64 × Int × (List UInt64) -> Option (UInt64 × (List UInt64))
  | (d0,b0,c0)=>(if 0 <= b0 then (idx a0 b0).bind fun p0=>(a1[0]?).bind fun q0=>(aQ_p n d0 p0 q0).bind fun g0=>(idx c0 b0).bind fun _x169=>(put c0 ((b0.toNat:Nat):Int) g0.1).bind fun s0=>(chk (b0 - 1)).bind fun k0=>j0 (g0.2,k0,s0) else some (d0,c0))
def aU_l2 (n:Nat) (a1:List UInt64) (p0:(List UInt64) × Int × (List UInt64) -> Option ((List UInt64) × (List UInt64))):(List UInt64) × Int × (List UInt64) -> Option ((List UInt64) × (List UInt64))
  | (c0,b0,d0)=>(if 0 <= b0 then (dm_p n a1 b0).bind fun k0=>(bX_p n c0 k0).bind fun z0=>jn (fun (v0,x0)=>(chk (b0 - 1)).bind fun s0=>p0 (v0,s0,x0)) (fun g0=>(if 0 <= z0 then (cq_p n c0 k0).bind fun A0=>(ay_p n false A0).bind fun B0=>(cJ b0 64).bind fun j0=>(idx d0 j0).bind fun u0=>(bQ b0 64).bind fun t0=>(bC t0).bind fun q0=>(put d0 ((j0.toNat:Nat):Int) (u0 ||| (shlU (1:UInt64) q0))).bind fun y0=>g0 (B0.fo,y0) else g0 (c0,d0))) else some (d0,c0))
def aU_p (n:Nat) (a0:List UInt64) (a1:List UInt64):Option ((List UInt64) × (List UInt64)):=
  (mk ((a0.length:Nat):Int) (0:UInt64)).bind fun b0=>(if a1.length = 1 then Option.bind (am (aU_l1 n a0 a1) n (0,((a0.length:Nat):Int) - 1,b0)) (fun (d0,g0)=>(ay_p n false ([d0]:List UInt64)).bind fun p0=>some (g0,p0.fo)) else (dw_p n a0).bind fun q0=>(dw_p n a1).bind fun s0=>(chk (q0 - s0)).bind fun c0=>Option.bind (am (aU_l2 n a1) n (a0,c0,b0)) (fun (k0,j0)=>some (k0,j0)))
theorem aU_c (n:Nat) {L w} (hL:hl L w) {a0:List UInt64} {v0_0:Value} (h0_0:Rep.R w L [v0_0] a0) {a1:List UInt64} {v1_0:Value} (h1_0:Rep.R w L [v1_0] a1)  {r:(List UInt64) × (List UInt64)} (h:aU_p n a0 a1 = some r) :
 Cl 152 #[v0_0,v1_0] w (ah w fun w' u=>∃ v0_0 v1_0:Value,u = .tuple #[v0_0,v1_0]/\Rep.R w' L [v0_0] r.1/\Rep.R w' L [v1_0] r.2):=by
 unfold aU_p at h
 refine AG func152 rfl rfl rfl fun _ cs0 hb0=>Ac<|Af rfl<|Af rfl<|Aa<|Ac<|Ae rfl ?_
 have hl1:a0.length <= 281474976710656:=Ba h0_0
 refine Ab (Bg (xs:=a0) underlying149 rfl h0_0)<|bk h fun g1 E1 h=>Aj .plain rfl (Does.mk (α:=UInt64) E1 (Az w) cP rfl) fun g5 d0 t0 Q4=>?_
 have u1:=AE (cs:=(List.replicate ((a0.length:Nat):Int).toNat [vW 0]).flatten) (xs:=g1) t0 L (BR E1 rfl)
 refine Af rfl<|Aa<|Ai<|Ac<|Ae rfl ?_
 have A1:=AS h1_0 t0
 have R4:a1.length <= 281474976710656:=Ba A1
 refine Ab (Bg (xs:=a1) underlying149 rfl A1)<|Ab (BM (i:=a1.length) (j:=1) rfl rfl)<|Aa<|AT rfl h (fun b2 h=>?_) (fun b2 h=>?_)
 refine Ac<|Af rfl<|Aa<|Ai<|Ac<|Ae rfl<|Ab (Bg (xs:=a0) underlying149 rfl (AS h0_0 t0))<|Ab (FV.subI (i:=((a0.length:Nat):Int)) (j:=1) rfl rfl (by omega))<|Af rfl<|Aa<|AA ?_
 obtain ⟨V4,u3,b3⟩:=aq h
 refine MX.lf (α:=UInt64 × Int × (List UInt64) × (List Value)) (fun ⟨g0,q0,z0,B0⟩=>[(0,v0_0),(1,v1_0),(4,(.slice (some ⟨d0,0,none⟩) ((a0.length:Nat):Int).toNat ((a0.length:Nat):Int).toNat)),(6,vU g0),(7,vI q0)]) (fun ⟨g0,q0,z0,B0⟩=>[rr w 34 UInt64 (.slice (some ⟨d0,0,none⟩) ((a0.length:Nat):Int).toNat ((a0.length:Nat):Int).toNat) z0.length B0]) (fun ⟨g0,q0,z0,B0⟩ H1=>Cells H1 (bl [rr w 34 UInt64 (.slice (some ⟨d0,0,none⟩) ((a0.length:Nat):Int).toNat ((a0.length:Nat):Int).toNat) z0.length B0] ++ L) B0 z0) (fun ⟨g0,q0,z0,B0⟩=>(g0,q0,z0)) (0,((a0.length:Nat):Int) - 1,g1,(List.replicate ((a0.length:Nat):Int).toNat [vW 0]).flatten) u3 t0 u1 ?_
 rintro E4 ⟨g0,q0,z0,B0⟩ H1 t2 C0 z2 V0 h
 unfold aU_l1 at h
 try dsimp only at h
 refine Ai<|Ac<|Ae rfl<|Ab (FV.geq (i:=q0) (j:=0) rfl rfl)<|Aa<|AT rfl h (fun Z1 h=>?_) (fun Z1 h=>?_)
 refine Ar<|Ai<|AA<|du 15 fun b0 c0=>Rv 0 b0 rfl c0 (fun _=>Ak rfl)<|Rv 1 b0 rfl c0 (fun _=>Ak rfl)<|Rv 2 b0 rfl c0 (fun _=>Ak rfl)<|Rv 3 b0 rfl c0 (fun _=>Ak rfl)<|Rv 4 b0 rfl c0 (fun _=>Ak rfl)<|bk h fun I1 P3 h=>?_
 obtain ⟨d3,Q3⟩:=aA P3
 obtain ⟨C4,H4,U2,j3,g2,x3,q3⟩:=Bk (AS h0_0 C0) Q3
 have V2:g2 = [vU I1]:=x3; subst V2
 refine Rv 5 b0 rfl c0 (fun _=>Bj 1 (q0.toNat) rfl U2 rfl d3 j3)<|Rx 6 130048 b0 rfl c0 (AL rfl (q3 0 _ rfl))<|Rv 7 b0 rfl c0 (fun _=>Ak rfl)<|bk h fun J1 R3 h=>?_
 obtain ⟨D4,I4,W2,k3,j2,y3,s3⟩:=Bk (AS h1_0 C0) R3
 have X2:j2 = [vU J1]:=y3; subst X2
 refine Rv 8 b0 rfl c0 (fun _=>Bj 1 0 rfl W2 rfl rfl k3)<|Rx 9 130048 b0 rfl c0 (AL rfl (s3 0 _ rfl))<|bk h fun j1 b4 h=>BG 10 2047 129024 (.tuple #[vU j1.1,vU j1.2]) b0 rfl c0 (bd 184) rfl (e3 rfl rfl rfl) (fun w9 hw9=>aQ_c n (C0.hL0 hL hw9) g0 I1 J1 b4) rfl<|Rv 11 b0 rfl c0 (fun _=>Ak rfl)<|Rv 12 b0 rfl c0 (fun _=>Ah rfl rfl)<|Rv 13 b0 rfl c0 (fun _=>Ah rfl rfl)<|bk h fun y4 U3 h=>?_
 obtain ⟨g3,V3⟩:=aA U3
 obtain ⟨U1,J4,X0,z1,k2,z3,U4⟩:=St.nth (α:=UInt64) C0 .hd V0 V3
 obtain ⟨W1,K4,v1⟩:=BJ (α:=UInt64) C0 .hd z1
 obtain rfl:U1 = ⟨W1,0,none⟩:=by rw [v1] at X0; cases X0; rfl
 have Y2:k2 = [vU y4]:=z3; subst Y2
 refine Rv 14 b0 rfl c0 (fun _=>Bj 1 (q0.toNat) rfl X0 rfl g3 z1)<|bk h fun z4 Y3 h=>BT (i:=15) (rk b0) (RO.acts (m' :=65535) (sk b0) rfl rfl .plain (Acts.set (α:=UInt64) (i:=q0.toNat) Y3 C0 v1 (fun _=>.hd) V0 rfl rfl rfl rfl rfl rfl) (fun j5 ⟨p2,v2,A2,P2⟩=>?_))
 refine Rv 16 b0 rfl c0 (fun _=>Bh rfl)<|AM (dk b0)<|AC<|Ao<|Ae rfl<|bk h fun t4 H3 h=>Ab (FV.subc (i:=q0) (j:=1) rfl rfl H3)<|Af rfl<|Aa<|t2 (j1.2,t4,z4,p2) v2 (Tt z2 A2) P2 h
 refine Be rfl ?_
 have h:=b3 _ h
 try dsimp only at h
 refine Ac<|Ae rfl<|Ae rfl<|Aj .plain rfl (jA g0 (vU g0) C0 cP (e1 rfl)) fun k5 X1 I0 B2=>?_
 have Q0:=Br I0 .hd
 have C2:=Bs I0 .hd
 refine bk h fun B4 c4 h=>jE (bd 170) rfl (e2 rfl rfl) (fun w9 hw9=>ay_c n (Q0.hL hL hw9) (Aq (Bu (α:=UInt64) (v:=(vS X1 1)) (xs:=([g0]:List UInt64)) Q0 L (Bf (α:=UInt64) I0 .hd (jC g0 (vU g0) I0 L rfl) hL)) hw9) c4) rfl fun p5 Z4 I2 ⟨F1,hu_,A3⟩=>?_
 subst hu_
 obtain ⟨R0,D2⟩:=Q0.agr I2
 refine Ab (FV.field1 (cs:=[.bool B4.fe,F1]) (off:=1) (m:=1) rfl rfl rfl rfl)<|Af rfl<|Af rfl<|Aa<|Al rfl ?_
 have J0:=Br R0 .hd
 have E2:=Bs R0 .hd
 have B3:=Bu (α:=UInt64) (v:=(.slice (some ⟨d0,0,none⟩) ((a0.length:Nat):Int).toNat ((a0.length:Nat):Int).toNat)) (xs:=z0) J0 L (Bf (α:=UInt64) R0 .hd (AD V0 (Tt B2 (Tt C2 D2))) hL)
 refine Ap hb0 func152 rfl (.cons (.tmp rfl) (.cons (.tmp rfl) .nil)) rfl ?_
 cases h
 exact ⟨J0.ag,fun w9 hw9=>⟨(.slice (some ⟨d0,0,none⟩) ((a0.length:Nat):Int).toNat ((a0.length:Nat):Int).toNat),F1,rfl,J0.kd B3 hw9,J0.kd (Am A3 E2) hw9⟩⟩
 refine Ar<|Ac<|Ae rfl<|Af rfl<|Aa<|Ai<|Ac<|Ae rfl<|bk h fun M1 d4 h=>Bi (vI M1) (bd 185) rfl (e1 rfl) (fun w9 hw9=>dw_c n (t0.hL0 hL hw9) (t0.k0 h0_0 hw9) d4) rfl<|Ae rfl<|bk h fun P1 g4 h=>Bi (vI P1) (bd 185) rfl (e1 rfl) (fun w9 hw9=>dw_c n (t0.hL0 hL hw9) (t0.k0 h1_0 hw9) g4) rfl<|bk h fun u4 I3 h=>Ab (FV.subc (i:=M1) (j:=P1) rfl rfl I3)<|Af rfl<|Aa<|AA ?_
 obtain ⟨W4,v3,c3⟩:=aq h
 refine MX.lf (α:=(List UInt64) × Int × (List UInt64) × Value × (List Value)) (fun ⟨F0,s0,p0,A0,x0⟩=>[(1,v1_0),(4,(.slice (some ⟨d0,0,none⟩) ((a0.length:Nat):Int).toNat ((a0.length:Nat):Int).toNat)),(5,A0),(8,vI s0)]) (fun ⟨F0,s0,p0,A0,x0⟩=>[rr w 34 UInt64 (.slice (some ⟨d0,0,none⟩) ((a0.length:Nat):Int).toNat ((a0.length:Nat):Int).toNat) p0.length x0]) (fun ⟨F0,s0,p0,A0,x0⟩ c1=>Rep.R c1 (bl [rr w 34 UInt64 (.slice (some ⟨d0,0,none⟩) ((a0.length:Nat):Int).toNat ((a0.length:Nat):Int).toNat) p0.length x0] ++ L) [A0] F0/\Cells c1 (bl [rr w 34 UInt64 (.slice (some ⟨d0,0,none⟩) ((a0.length:Nat):Int).toNat ((a0.length:Nat):Int).toNat) p0.length x0] ++ L) x0 p0) (fun ⟨F0,s0,p0,A0,x0⟩=>(F0,s0,p0)) (a0,u4,g1,v0_0,(List.replicate ((a0.length:Nat):Int).toNat [vW 0]).flatten) v3 t0 ⟨(AS h0_0 t0),u1⟩ ?_
 rintro F4 ⟨F0,s0,p0,A0,x0⟩ c1 u2 H0 F2 ⟨C1,W0⟩ h
 unfold aU_l2 at h
 try dsimp only at h
 refine Ai<|Ac<|Ae rfl<|Ab (FV.geq (i:=s0) (j:=0) rfl rfl)<|Aa<|AT rfl h (fun c2 h=>?_) (fun c2 h=>?_)
 refine Ar<|Ai<|AA<|Ac<|Ae rfl<|Ae rfl<|bk h fun v5 j4 h=>jE (bd 186) rfl (e2 rfl rfl) (fun w9 hw9=>dm_c n (H0.hL hL hw9) (H0.km h1_0 hw9) j4) rfl fun q5 b5 J2 ⟨X4,hu_,D1⟩=>?_
 subst hu_
 obtain ⟨D0,M0⟩:=H0.agr J2
 refine Af rfl<|Aa<|Ac<|Ae rfl<|Ae rfl<|bk h fun Q1 k4 h=>?_
 have Z0:=Am C1 M0
 refine Bi (vI Q1) (bd 187) rfl (e2 rfl rfl) (fun w9 hw9=>bX_c n (D0.hL0 hL hw9) (D0.kd Z0 hw9) (D0.kd D1 hw9) k4) rfl<|Ab (FV.geq (i:=Q1) (j:=0) rfl rfl)<|Aa<|MX.jf (α:=(List UInt64) × (List UInt64) × Value × (List Value)) (fun ⟨G0,v0,E0,y0⟩=>[(1,v1_0),(4,(.slice (some ⟨d0,0,none⟩) ((a0.length:Nat):Int).toNat ((a0.length:Nat):Int).toNat)),(5,E0),(8,vI s0)]) (fun ⟨G0,v0,E0,y0⟩=>[rr w 34 UInt64 (.slice (some ⟨d0,0,none⟩) ((a0.length:Nat):Int).toNat ((a0.length:Nat):Int).toNat) v0.length y0]) (fun ⟨G0,v0,E0,y0⟩ d1=>Rep.R d1 (bl [rr w 34 UInt64 (.slice (some ⟨d0,0,none⟩) ((a0.length:Nat):Int).toNat ((a0.length:Nat):Int).toNat) v0.length y0] ++ L) [E0] G0/\Cells d1 (bl [rr w 34 UInt64 (.slice (some ⟨d0,0,none⟩) ((a0.length:Nat):Int).toNat ((a0.length:Nat):Int).toNat) v0.length y0] ++ L) y0 v0) (fun ⟨G0,v0,E0,y0⟩=>(G0,v0)) D0 h ?_ ?_
 rintro ⟨G0,v0,E0,y0⟩ d1 x2 G2 ⟨C3,Q2⟩ h
 try dsimp only at h
 refine AC<|Ao<|Ae rfl<|bk h fun v4 J3 h=>Ab (FV.subc (i:=s0) (j:=1) rfl rfl J3)<|Af rfl<|Aa<|u2 (G0,v4,v0,E0,y0) x2 (Tt F2 (Tt M0 G2)) ⟨C3,Q2⟩ h
 intro G4 k1 h
 try dsimp only at h
 refine AT rfl h (fun d2 h=>?_) (fun d2 h=>?_)
 refine Ac<|Ae rfl<|Ae rfl<|bk h fun x5 p4 h=>jE (bd 188) rfl (e2 rfl rfl) (fun w9 hw9=>cq_c n (D0.hL hL hw9) (Aq Z0 hw9) (Aq D1 hw9) p4) rfl fun s5 c5 K2 ⟨Y4,hu_,D3⟩=>?_
 subst hu_
 obtain ⟨p1,q1⟩:=D0.agr K2
 refine bk h fun R1 q4 h=>jE (bd 170) rfl (e2 rfl rfl) (fun w9 hw9=>ay_c n (p1.hL hL hw9) (Aq D3 hw9) q4) rfl fun t5 d5 M2 ⟨G1,hu_,E3⟩=>?_
 subst hu_
 obtain ⟨U0,s1⟩:=p1.agr M2
 refine Ab (FV.field1 (cs:=[.bool R1.fe,G1]) (off:=1) (m:=1) rfl rfl rfl rfl)<|Af rfl<|Aa<|du 10 fun j0 u0=>Rv 0 j0 rfl u0 (fun _=>Ak rfl)<|Rv 1 j0 rfl u0 (fun _=>Ak rfl)<|bk h fun b1 K3 h=>Rv 2 j0 rfl u0 (fun _=>FV.quoc (i:=s0) (j:=64) rfl rfl K3)<|bk h fun K1 W3 h=>?_
 obtain ⟨y1,X3⟩:=aA W3
 have B1:=AD W0 (Tt M0 (Tt q1 s1))
 obtain ⟨V1,M4,P0,Y0,q2,F3,t3⟩:=St.nth (α:=UInt64) U0 .hd B1 X3
 obtain ⟨Y1,P4,x1⟩:=BJ (α:=UInt64) U0 .hd Y0
 obtain rfl:V1 = ⟨Y1,0,none⟩:=by rw [x1] at P0; cases P0; rfl
 have Z2:q2 = [vU K1]:=F3; subst Z2
 refine Rv 3 j0 rfl u0 (fun _=>Bj 1 (b1.toNat) rfl P0 rfl y1 Y0)<|Rx 4 1792 j0 rfl u0 (AL rfl (t3 0 _ rfl))<|Rv 5 j0 rfl u0 (fun _=>Ak rfl)<|bk h fun x4 M3 h=>Rv 6 j0 rfl u0 (fun _=>FV.remc (i:=s0) (j:=64) rfl rfl M3)<|bk h fun s4 p3 h=>Rv 7 j0 rfl u0 (fun _=>FV.shlI (a:=(1:UInt64)) (i:=x4) rfl rfl p3)<|Rv 8 j0 rfl u0 (fun _=>FV.orU (a:=K1) (b:=shlU (1:UInt64) s4) rfl rfl)<|Rv 9 j0 rfl u0 (fun _=>Bj 1 (b1.toNat) rfl P0 rfl y1 Y0)<|bk h fun A4 Z3 h=>BT (i:=10) (rk j0) (RO.acts (m' :=2047) (sk j0) rfl rfl .plain (Acts.set (α:=UInt64) (i:=b1.toNat) Z3 U0 x1 (fun _=>.hd) B1 rfl rfl rfl rfl rfl rfl) (fun u5 ⟨s2,y2,t1,R2⟩=>?_))
 refine AM (dk j0)<|k1 (R1.fo,A4,G1,s2) y2 (Tt q1 (Tt s1 t1)) ⟨(Am E3 t1),R2⟩ h
 refine Ar<|k1 (F0,p0,A0,x0) D0 (Bw _ _) ⟨Z0,(AD W0 M0)⟩ h
 refine Be rfl ?_
 have h:=c3 _ h
 try dsimp only at h
 refine Ac<|Ae rfl<|Ae rfl<|Af rfl<|Af rfl<|Aa<|Al rfl ?_
 have K0:=Br H0 .hd
 have H2:=Bs H0 .hd
 have G3:=Bu (α:=UInt64) (v:=(.slice (some ⟨d0,0,none⟩) ((a0.length:Nat):Int).toNat ((a0.length:Nat):Int).toNat)) (xs:=p0) K0 L (Bf (α:=UInt64) H0 .hd W0 hL)
 refine Ap hb0 func152 rfl (.cons (.tmp rfl) (.cons (.tmp rfl) .nil)) rfl ?_
 cases h
 exact ⟨K0.ag,fun w9 hw9=>⟨(.slice (some ⟨d0,0,none⟩) ((a0.length:Nat):Int).toNat ((a0.length:Nat):Int).toNat),A0,rfl,K0.kd G3 hw9,K0.kd (Am C1 H2) hw9⟩⟩
end Go.Proofs.YtdolpanbfpjnmaaGreatDoor
