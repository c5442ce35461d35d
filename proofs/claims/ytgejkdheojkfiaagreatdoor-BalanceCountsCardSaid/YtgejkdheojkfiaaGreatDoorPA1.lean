/- Functions of the program, and what they give: part 1. -/
import Derived.Test.YtgejkdheojkfiaaGreatDoorProg
import Derived.Test.YtgejkdheojkfiaaGreatDoorPMr
namespace Go.Proofs.YtgejkdheojkfiaaGreatDoor
open Go Go.RowKit
set_option maxRecDepth 4000
set_option maxHeartbeats 4000000

structure To where
  flow:Int
  fhigh:Int
  deriving DecidableEq
instance:Rep To:=Rep.via (β:=Int × Int) fun x=>(x.flow,x.fhigh)
structure Tf where
  fA:Int
  deriving DecidableEq
instance:Rep Tf:=Rep.via (β:=Int) fun x=>x.fA
def co_p (_n:Nat) (a0:Int):Option (Except Tf Unit):=
  (if a0 = 0 then some (.ok ()) else some (.error (⟨a0⟩:Tf)))
theorem co_c (n:Nat) (L:List Nat) (w:World) (_hL:∀ b ∈ L,b < w.heap.size) {a0:Int}  {r:Except Tf Unit} (h:co_p n a0 = some r) :
    Calls Tryz.prog 79 #[vI a0] w (PGives w (fun (_y:Unit) _ u=>u = .tuple #[]) (fun e=>.iface 120 (.agg #[vI e.fA])) r):=by
 unfold co_p at h
 have hS0:=AB w
 refine MX.startP Tryz.func79 rfl rfl rfl fun _ cs0 hb0 hp0=>Ac<|Ae rfl<|Ab (FV.neq (i:=a0) (j:=0) rfl rfl)<|Aa<|MX.ifn rfl h (fun c1 h=>?_) (fun c1 h=>?_)
 refine Aq<|MX.fin rfl<|Ap hb0 Tryz.func79 rfl .nil rfl ?_
 cases h
 exact ⟨hS0.ag,fun w9 hw9=>okOf_in rfl⟩
 refine Av<|Ae rfl<|Ab (AX (vs:=[vI a0]) (u:=.agg #[vI a0]) (e1 rfl) (fun w9=>by kernel_rfl))<|Ab (FV.makeInterface (by kernel_rfl) rfl)<|RG.panic .plain rfl ?_
 cases h
 exact Bf hp0 Tryz.func79 ⟨hS0.ag,rfl⟩
theorem body79:bodyB Tryz.prog 79 = true:=by kernel_rfl
def ae_p (n:Nat) (a0:Bool) (a1:Int):Option (Except Tf Unit):=
  (if a0 = true then (co_p n a1).bind fun y2=>exc y2 (fun _y11=>some (.ok ())) (fun b0=>some (.error b0)) else some (.ok ()))
theorem ae_c (n:Nat) (L:List Nat) (w:World) (hL:∀ b ∈ L,b < w.heap.size) {a0:Bool} {a1:Int}  {r:Except Tf Unit} (h:ae_p n a0 a1 = some r) :
    Calls Tryz.prog 63 #[.bool a0,vI a1] w (PGives w (fun (_y:Unit) _ u=>u = .tuple #[]) (fun e=>.iface 120 (.agg #[vI e.fA])) r):=by
 unfold ae_p at h
 have hS0:=AB w
 refine MX.startP Tryz.func63 rfl rfl rfl fun _ cs0 hb0 hp0=>Ac<|Ae rfl<|Aa<|MX.ifb rfl h (fun c1 h=>?_) (fun c1 h=>?_)
 refine Av<|Ae rfl<|xk h (fun d0 hy2 h=>?_) (fun k0 hy2 h=>?_)
 refine BH (fst:=[]) (cap:=[]) .plain body79 rfl (e1 rfl) (fun w9 hw9=>co_c n _ w9 (hS0.hL0 hL hw9)  hy2) fun j0 c0=>?_
 obtain ⟨b0,g0⟩:=hS0.agr c0
 cases h
 exact Bf hp0 Tryz.func63 ⟨b0.ag,rfl⟩
 refine Bi (.tuple #[]) body79 rfl (e1 rfl) (fun w9 hw9=>Bb (co_c n _ w9 (hS0.hL0 hL hw9)  hy2)) rfl<|Aa<|MX.fin rfl<|Ap hb0 Tryz.func63 rfl .nil rfl ?_
 cases h
 exact ⟨hS0.ag,fun w9 hw9=>okOf_in rfl⟩
 refine Aq<|MX.fin rfl<|Ap hb0 Tryz.func63 rfl .nil rfl ?_
 cases h
 exact ⟨hS0.ag,fun w9 hw9=>okOf_in rfl⟩
def aA_l1 (_n:Nat) (a0:List Bool) (a1:Bool) (c0:Nat -> Option (Int ⊕ Unit)):Nat -> Option (Int ⊕ Unit)
  | b0=>(if b0 < a0.length then (a0[b0]?).bind fun d0=>(if (a1 == d0) = true then some (.inl ((b0:Nat):Int)) else c0 (b0 + 1)) else some (.inr ()))
def aA_p (n:Nat) (a0:List Bool) (a1:Bool):Option Int:=
  thn (loopF (aA_l1 n a0 a1) n 0) (fun _=>some (-1:Int))
theorem aA_c (n:Nat) (L:List Nat) (w:World) (_hL:∀ b ∈ L,b < w.heap.size) {a0:List Bool} {v0_0:Value} (h0_0:Rep.R w L [v0_0] a0) {a1:Bool}  {r:Int} (h:aA_p n a0 a1 = some r) :
    Calls Tryz.prog 177 #[v0_0,.bool a1] w (Gives w fun _ u=>u = vI r):=by
 unfold aA_p at h
 refine AF Tryz.func177 rfl rfl rfl fun _ cs0 hb0=>Ac<|Af rfl<|Aa<|Aj<|Ac<|Ae rfl ?_
 have hl1:a0.length <= 281474976710656:=AY h0_0
 refine Ab (Bc (xs:=a0) Tryz.underlying142 rfl h0_0)<|Ae rfl<|Aa<|Ay<|tn h fun E0 y0 d0=>MX.lo (α:=Nat) (fun b0=>[(0,v0_0),(1,.bool a1),(7,vI ((a0.length:Nat):Int)),(8,vI ((b0:Nat):Int))]) (fun b0=>[]) (fun b0=>b0) 0 y0 (AB w) ?_
 rintro C0 b0 F0 q0 c0 s0 h
 unfold aA_l1 at h
 try dsimp only at h
 refine Ac<|Ab (Bu (i:=b0) (j:=a0.length) rfl rfl)<|Aa<|Aj<|AS rfl h (fun j0 h=>?_) (fun j0 h=>?_)
 refine Aq<|Aj<|Ay<|Ac<|Ae rfl<|Af rfl<|Aa<|Ac<|Ae rfl<|Ae rfl<|Ae rfl<|bk h fun g0 A0 h=>?_
 obtain ⟨B0,D0,t0,v0,p0,z0,x0⟩:=Bl (AO h0_0 c0) A0
 have u0:p0 = [.bool g0]:=z0; subst u0
 refine Ab (Bm 1 b0 rfl t0 rfl rfl v0)<|AP rfl (x0 0 _ rfl)<|Ab (FV.eqlB (a:=a1) (b:=g0) Tryz.underlying4 rfl rfl)<|Aa<|MX.ifb rfl h (fun k0 h=>?_) (fun k0 h=>?_)
 refine Ac<|Ae rfl<|Af rfl<|Aa ?_
 have h:=thn_inl h d0
 refine Al rfl<|AT hb0 Tryz.func177 rfl rfl ?_
 cases h
 exact c0.gv
 refine Aq<|AA<|Av<|Ab (Bw (i:=b0) (j:=1) rfl rfl (by omega))<|Ae rfl<|Aa<|q0 (b0 + 1) c0 s0 h
 refine Ba rfl ?_
 have h:=thn_inr h d0
 try dsimp only at h
 refine Ac<|Af rfl<|Aa<|Al rfl<|AT hb0 Tryz.func177 rfl rfl ?_
 cases h
 exact c0.gv
theorem body177:bodyB Tryz.prog 177 = true:=by kernel_rfl
def bs_p (n:Nat) (a0:List Bool) (a1:Bool):Option Bool:=
  (aA_p n a0 a1).bind fun y1=>some (decide (0 <= y1))
theorem bs_c (n:Nat) (L:List Nat) (w:World) (hL:∀ b ∈ L,b < w.heap.size) {a0:List Bool} {v0_0:Value} (h0_0:Rep.R w L [v0_0] a0) {a1:Bool}  {r:Bool} (h:bs_p n a0 a1 = some r) :
    Calls Tryz.prog 153 #[v0_0,.bool a1] w (Gives w fun _ u=>u = .bool r):=by
 unfold bs_p at h
 have hS0:=AB w
 refine AF Tryz.func153 rfl rfl rfl fun _ cs0 hb0=>Ac<|Af rfl<|Aa<|Ac<|Ae rfl<|Ae rfl<|bk h fun y1 hy1 h=>Bi (vI y1) body177 rfl (e2 rfl rfl) (fun w9 hw9=>aA_c n _ w9 (hS0.hL0 hL hw9) (hS0.kd h0_0 hw9) hy1) rfl<|Ab (FV.geq (i:=y1) (j:=0) rfl rfl)<|Af rfl<|Aa<|Al rfl<|AT hb0 Tryz.func153 rfl rfl ?_
 cases h
 exact hS0.gv
theorem body153:bodyB Tryz.prog 153 = true:=by kernel_rfl
def bm_p (n:Nat) (a0:List Bool):Option Bool:=
  (bs_p n a0 false).bind fun y1=>some (!y1)
theorem bm_c (n:Nat) (L:List Nat) (w:World) (hL:∀ b ∈ L,b < w.heap.size) {a0:List Bool} {v0_0:Value} (h0_0:Rep.R w L [v0_0] a0)  {r:Bool} (h:bm_p n a0 = some r) :
    Calls Tryz.prog 116 #[v0_0] w (Gives w fun _ u=>u = .bool r):=by
 unfold bm_p at h
 have hS0:=AB w
 refine AF Tryz.func116 rfl rfl rfl fun _ cs0 hb0=>Ac<|Af rfl<|Aa<|Ac<|Ae rfl<|bk h fun y1 hy1 h=>Bi (.bool y1) body153 rfl (e2 rfl rfl) (fun w9 hw9=>bs_c n _ w9 (hS0.hL0 hL hw9) (hS0.kd h0_0 hw9) hy1) rfl<|Ab (Bo rfl)<|Af rfl<|Aa<|Al rfl<|AT hb0 Tryz.func116 rfl rfl ?_
 cases h
 exact hS0.gv
def bL_l1 (_n:Nat) (a1:UInt8) (c0:ByteArray -> Option ByteArray):ByteArray -> Option ByteArray
  | b0=>(if 0 < b0.size then (b0.data[0]?).bind fun g0=>(if g0.toNat = a1.toNat then (scut b0 1 (b0.size:Int)).bind fun d0=>c0 d0 else some b0) else some b0)
def bL_p (n:Nat) (a0:ByteArray) (a1:UInt8):Option ByteArray:=
  jn (fun c0=>some c0) (fun b0=>Option.bind (loopF (bL_l1 n a1) n a0) (b0))
theorem bL_c (n:Nat) (L:List Nat) (w:World) (_hL:∀ b ∈ L,b < w.heap.size) {a0:ByteArray} (a1:UInt8)  {r:ByteArray} (h:bL_p n a0 a1 = some r) :
    Calls Tryz.prog 178 #[.string a0,.int .u8 (a1.toNat:Int)] w (Gives w fun _ u=>u = .string r):=by
 unfold bL_p at h
 have hS0:=AB w
 refine AF Tryz.func178 rfl rfl rfl fun _ cs0 hb0=>Ac<|Af rfl<|Aa<|Aj<|Ay<|MX.xo (α:=ByteArray) 0 (fun c0=>[(0,.string c0)]) (fun c0=>[]) (fun c0=>c0) hS0 rfl h ?_ ?_
 rintro c0 E0 t0 C0 h
 try dsimp only at h
 refine Ac<|Ae rfl<|Af rfl<|Aa<|Al rfl<|AT hb0 Tryz.func178 rfl rfl ?_
 cases h
 exact t0.gv
 intro A0 j0 h
 try dsimp only at h
 obtain ⟨D0,u0,k0⟩:=bind_in2 h
 refine MX.lo (α:=ByteArray) (fun b0=>[(0,.string b0),(1,.int .u8 (a1.toNat:Int))]) (fun b0=>[]) (fun b0=>b0) a0 u0 hS0 ?_
 rintro B0 b0 F0 s0 d0 g0 h
 unfold bL_l1 at h
 try dsimp only at h
 refine Aj<|Ac<|Ae rfl<|Ab (BK Tryz.underlying9 rfl)<|Ab (FV.gtrN (i:=b0.size) (j:=0) rfl rfl)<|Ae rfl<|BE (s:=8) rfl h (fun p0 h=>?_) (fun p0 h=>?_)
 refine AJ (Ai rfl)<|bk h fun z0 x0 h=>AJ (FV.strAt (k:=0) Tryz.underlying9 rfl rfl rfl x0)<|AJ (Ai rfl)<|AJ (BQ (i:=z0.toNat) (j:=a1.toNat) rfl rfl)<|Br rfl rfl<|Aa<|AS rfl h (fun q0 h=>?_) (fun q0 h=>?_)
 refine Aq<|Ay<|Av<|Ae rfl<|bk h fun y0 v0 h=>Ab (FV.strCut v0 Tryz.underlying9 rfl ⟨_,rfl⟩ rfl)<|Af rfl<|Aa<|AA<|s0 y0 d0 g0 h
 refine Ba rfl ?_
 have h:=k0 _ h
 try dsimp only at h
 exact j0 b0 d0 g0 h
 refine Aw<|Aw<|Aw<|Aw<|Bx rfl rfl<|Aa<|BF rfl<|Ba rfl ?_
 have h:=k0 _ h
 try dsimp only at h
 exact j0 b0 d0 g0 h
def bD_l1 (_n:Nat) (a1:UInt8) (c0:ByteArray -> Option ByteArray):ByteArray -> Option ByteArray
  | b0=>(if 0 < b0.size then (chk (((b0.size:Nat):Int) - 1)).bind fun d0=>(sidx b0 d0).bind fun k0=>(if k0.toNat = a1.toNat then (chk (((b0.size:Nat):Int) - 1)).bind fun g0=>(scut b0 0 g0).bind fun j0=>c0 j0 else some b0) else some b0)
def bD_p (n:Nat) (a0:ByteArray) (a1:UInt8):Option ByteArray:=
  jn (fun c0=>some c0) (fun b0=>Option.bind (loopF (bD_l1 n a1) n a0) (b0))
theorem bD_c (n:Nat) (L:List Nat) (w:World) (_hL:∀ b ∈ L,b < w.heap.size) {a0:ByteArray} (a1:UInt8)  {r:ByteArray} (h:bD_p n a0 a1 = some r) :
    Calls Tryz.prog 179 #[.string a0,.int .u8 (a1.toNat:Int)] w (Gives w fun _ u=>u = .string r):=by
 unfold bD_p at h
 have hS0:=AB w
 refine AF Tryz.func179 rfl rfl rfl fun _ cs0 hb0=>Ac<|Af rfl<|Aa<|Aj<|Ay<|MX.xo (α:=ByteArray) 0 (fun c0=>[(0,.string c0)]) (fun c0=>[]) (fun c0=>c0) hS0 rfl h ?_ ?_
 rintro c0 K0 t0 H0 h
 try dsimp only at h
 refine Ac<|Ae rfl<|Af rfl<|Aa<|Al rfl<|AT hb0 Tryz.func179 rfl rfl ?_
 cases h
 exact t0.gv
 intro F0 j0 h
 try dsimp only at h
 obtain ⟨I0,v0,k0⟩:=bind_in2 h
 refine MX.lo (α:=ByteArray) (fun b0=>[(0,.string b0),(1,.int .u8 (a1.toNat:Int))]) (fun b0=>[]) (fun b0=>b0) a0 v0 hS0 ?_
 rintro G0 b0 M0 s0 d0 g0 h
 unfold bD_l1 at h
 try dsimp only at h
 refine Aj<|Ac<|Ae rfl<|Ab (BK Tryz.underlying9 rfl)<|Ab (FV.gtrN (i:=b0.size) (j:=0) rfl rfl)<|Ae rfl<|BE (s:=8) rfl h (fun p0 h=>?_) (fun p0 h=>?_)
 refine AJ (Ai rfl)<|AJ (Ai rfl)<|AJ (BK Tryz.underlying9 rfl)<|bk h fun C0 x0 h=>AJ (FV.subc (i:=((b0.size:Nat):Int)) (j:=1) rfl rfl x0)<|bk h fun E0 B0 h=>?_
 obtain ⟨u0,A0⟩:=sidx_in B0
 refine AJ (FV.strAt (k:=C0.toNat) Tryz.underlying9 rfl rfl u0 A0)<|AJ (Ai rfl)<|AJ (BQ (i:=E0.toNat) (j:=a1.toNat) rfl rfl)<|Br rfl rfl<|Aa<|AS rfl h (fun q0 h=>?_) (fun q0 h=>?_)
 refine Aq<|Ay<|Av<|Ae rfl<|Ae rfl<|Ab (BK Tryz.underlying9 rfl)<|bk h fun J0 y0 h=>Ab (FV.subc (i:=((b0.size:Nat):Int)) (j:=1) rfl rfl y0)<|bk h fun D0 z0 h=>Ab (FV.strCut z0 Tryz.underlying9 rfl rfl ⟨_,rfl⟩)<|Af rfl<|Aa<|AA<|s0 D0 d0 g0 h
 refine Ba rfl ?_
 have h:=k0 _ h
 try dsimp only at h
 exact j0 b0 d0 g0 h
 refine Aw<|Aw<|Aw<|Aw<|Aw<|Aw<|Aw<|Bx rfl rfl<|Aa<|BF rfl<|Ba rfl ?_
 have h:=k0 _ h
 try dsimp only at h
 exact j0 b0 d0 g0 h
def tb154_4:List (Nat × Nat × Nat):=[(0,4194304,1),(0,8388608,2),(2,16777216,8388608),(5,33554432,20971520),(0,67108864,2),(16,134217728,67108864),(40,268435456,167772160),(127,16,268435456)]
theorem body178:bodyB Tryz.prog 178 = true:=by kernel_rfl
theorem body179:bodyB Tryz.prog 179 = true:=by kernel_rfl
theorem body180:bodyB Tryz.prog 180 = true:=by kernel_rfl
theorem body181:bodyB Tryz.prog 181 = true:=by kernel_rfl
theorem body182:bodyB Tryz.prog 182 = true:=by kernel_rfl
theorem body197:bodyB Tryz.prog 197 = true:=by kernel_rfl
def aH_l1 (_n:Nat) (g0:List Bool) (c0:ByteArray -> Option ByteArray):ByteArray -> Option ByteArray
  | b0=>(if 0 < b0.size then (b0.data[0]?).bind fun j0=>(g0[j0.toNat]?).bind fun k0=>(if k0 = true then (scut b0 1 (b0.size:Int)).bind fun d0=>c0 d0 else some b0) else some b0)
def aH_l2 (_n:Nat) (k0:List Bool) (c0:ByteArray -> Option ByteArray):ByteArray -> Option ByteArray
  | b0=>(if 0 < b0.size then (chk (((b0.size:Nat):Int) - 1)).bind fun d0=>(sidx b0 d0).bind fun p0=>(k0[p0.toNat]?).bind fun q0=>(if q0 = true then (chk (((b0.size:Nat):Int) - 1)).bind fun g0=>(scut b0 0 g0).bind fun j0=>c0 j0 else some b0) else some b0)
def aH_l3 (_n:Nat) (a1:ByteArray) (g0:Nat × (List Bool) -> Option (ByteArray ⊕ (List Bool))):Nat × (List Bool) -> Option (ByteArray ⊕ (List Bool))
  | (b0,c0)=>(if b0 < a1.size then (a1.data[b0]?).bind fun d0=>(if 128 <= d0.toNat then (none).map .inl else (c0[d0.toNat]?).bind fun _z82=>g0 (b0 + 1,(c0.set d0.toNat true))) else some (.inr c0))
def aH_l4 (_n:Nat) (g0:List Bool) (c0:ByteArray -> Option ByteArray):ByteArray -> Option ByteArray
  | b0=>(if 0 < b0.size then (b0.data[0]?).bind fun j0=>(g0[j0.toNat]?).bind fun k0=>(if k0 = true then (scut b0 1 (b0.size:Int)).bind fun d0=>c0 d0 else some b0) else some b0)
def aH_l5 (_n:Nat) (k0:List Bool) (c0:ByteArray -> Option ByteArray):ByteArray -> Option ByteArray
  | b0=>(if 0 < b0.size then (chk (((b0.size:Nat):Int) - 1)).bind fun d0=>(sidx b0 d0).bind fun p0=>(k0[p0.toNat]?).bind fun q0=>(if q0 = true then (chk (((b0.size:Nat):Int) - 1)).bind fun g0=>(scut b0 0 g0).bind fun j0=>c0 j0 else some b0) else some b0)
def aH_l6 (_n:Nat) (a1:ByteArray) (g0:Int × (List Bool) -> Option (ByteArray ⊕ (List Bool))):Int × (List Bool) -> Option (ByteArray ⊕ (List Bool))
  | (c0,b0)=>(if c0 < ((a1.size:Nat):Int) then (sidx a1 c0).bind fun d0=>(if 128 <= d0.toNat then (none).map .inl else (b0[d0.toNat]?).bind fun _z372=>(chk (c0 + 1)).bind fun j0=>g0 (j0,(b0.set d0.toNat true))) else some (.inr b0))
def aH_p (n:Nat) (a0:ByteArray) (a1:ByteArray):Option ByteArray:=
  (if a0 = ⟨#[]⟩ then some a0 else (if a1 = ⟨#[]⟩ then some a0 else (if a1.size = 1 then (a1.data[0]?).bind fun z4=>(if z4.toNat < 128 then (a1.data[0]?).bind fun z8=>(bD_p n a0 z8).bind fun y9=>(a1.data[0]?).bind fun v0=>(bL_p n y9 v0).bind fun u0=>some u0 else thn (loopF (aH_l3 n a1) n (0,(List.replicate 256 false))) (fun c0=>jn (fun p0=>jn (fun q0=>some q0) (fun g0=>Option.bind (loopF (aH_l1 n c0) n p0) (g0))) (fun d0=>Option.bind (loopF (aH_l2 n c0) n a0) (d0)))) else thn (loopF (aH_l6 n a1) n (0,(List.replicate 256 false))) (fun b0=>jn (fun s0=>jn (fun t0=>some t0) (fun k0=>Option.bind (loopF (aH_l4 n b0) n s0) (k0))) (fun j0=>Option.bind (loopF (aH_l5 n b0) n a0) (j0))))))
theorem aH_c (n:Nat) (L:List Nat) (w:World) (hL:∀ b ∈ L,b < w.heap.size) {a0:ByteArray} {a1:ByteArray}  {r:ByteArray} (h:aH_p n a0 a1 = some r) :
    Calls Tryz.prog 154 #[.string a0,.string a1] w (Gives w fun _ u=>u = .string r):=by
 unfold aH_p at h
 have hS0:=AB w
 refine AF Tryz.func154 rfl rfl rfl fun _ cs0 hb0=>Ac<|Af rfl<|Aa<|Aj<|Ac<|Ae rfl<|Ab (FV.eqlS rfl rfl)<|Ae rfl<|BE (s:=9) rfl h (fun c1 h=>?_) (fun c1 h=>?_)
 refine Aw<|Aw<|Br rfl rfl<|Aa<|Bk rfl<|Ac<|Ae rfl<|Af rfl<|Aa<|Al rfl<|AT hb0 Tryz.func154 rfl rfl ?_
 cases h
 exact hS0.gv
 refine AJ (Ai rfl)<|AJ (FV.eqlS rfl rfl)<|Bx rfl rfl<|Aa<|AS rfl h (fun c2 h=>?_) (fun c2 h=>?_)
 refine Ac<|Ae rfl<|Af rfl<|Aa<|Al rfl<|AT hb0 Tryz.func154 rfl rfl ?_
 cases h
 exact hS0.gv
 refine Aq<|Aj<|Ac<|Ae rfl<|Ab (BK Tryz.underlying9 rfl)<|Ab (BQ (i:=a1.size) (j:=1) rfl rfl)<|Ae rfl<|BE (s:=17) rfl h (fun c3 h=>?_) (fun c3 h=>?_)
 refine AJ (Ai rfl)<|bk h fun z4 hz4 h=>AJ (FV.strAt (k:=0) Tryz.underlying9 rfl rfl rfl hz4)<|AJ (Bu (i:=z4.toNat) (j:=128) rfl rfl)<|Br rfl rfl<|Aa<|AS rfl h (fun c5 h=>?_) (fun c5 h=>?_)
 refine Aj<|dt 8 tb154_4 fun kt6 kp7=>Ag 0 1 kt6 rfl kp7 (fun _=>Ai rfl) rfl<|Ag 1 3 kt6 rfl kp7 (fun _=>Ai rfl) rfl<|bk h fun z8 hz8 h=>Ag 2 7 kt6 rfl kp7 (fun _=>FV.strAt (k:=0) Tryz.underlying9 rfl rfl rfl hz8) rfl<|bk h fun y9 hy9 h=>BT 3 15 192 (.string y9) kt6 rfl kp7 body179 rfl (e2 rfl rfl) (fun w9 hw9=>bD_c n _ w9 (hS0.hL0 hL hw9) z8 hy9) rfl<|Ag 4 31 kt6 rfl kp7 (fun _=>Ai rfl) rfl<|bk h fun v4 U3 h=>Ag 5 63 kt6 rfl kp7 (fun _=>FV.strAt (k:=0) Tryz.underlying9 rfl rfl rfl U3) rfl<|bk h fun u4 R3 h=>BT 6 127 128 (.string u4) kt6 rfl kp7 body178 rfl (e2 rfl rfl) (fun w9 hw9=>bL_c n _ w9 (hS0.hL0 hL hw9) v4 R3) rfl<|Ag 7 255 kt6 rfl kp7 (fun _=>AU rfl) rfl<|AM (dk kt6)<|Al rfl<|AT hb0 Tryz.func154 rfl rfl ?_
 cases h
 exact hS0.gv
 refine Aq<|Aj<|Ac<|Ae rfl<|BM (fst:=[]) (cap:=[]) (vs:=[.string a1]) .plain body180 Tryz.func180 rfl rfl rfl rfl (e1 rfl) rfl fun U4 B1 P5=>Ac ?_
 have g3:(List.replicate 256 false).length = 256:=List.length_replicate
 refine RG.nl ((List.replicate 256 false).map (fun z9:Bool=>(.bool z9:Value))) hS0 fun s6 J0 v2 q5=>Af rfl<|Aa<|Aj<|Ac<|Af rfl<|Aa<|Ay<|tn h fun k6 B3 I1=>MX.lf (α:=Nat × (List Bool)) (fun ⟨p0,c0⟩=>[(0,.string a1),(2,vP J0),(4,vI ((p0:Nat):Int))]) (fun ⟨p0,c0⟩=>[.cells J0 (c0.map (fun z9:Bool=>(.bool z9:Value))) 214]) (fun ⟨p0,c0⟩ t4=>c0.length = 256) (fun ⟨p0,c0⟩=>(p0,c0)) (0,(List.replicate 256 false)) B3 v2 g3 ?_
 rintro M4 ⟨p0,c0⟩ t4 u2 A0 K2 g0 h
 unfold aH_l3 at h
 try dsimp only at h
 refine Aj<|Ac<|Ae rfl<|Ae rfl<|Ab (BK Tryz.underlying9 rfl)<|Ab (Bu (i:=p0) (j:=a1.size) rfl rfl)<|Aa<|AS rfl h (fun g2 h=>?_) (fun g2 h=>?_)
 refine Aq<|Aj<|Ay<|Ac<|Ae rfl<|Ae rfl<|bk h fun E0 b4 h=>Ab (FV.strAt (k:=p0) Tryz.underlying9 rfl rfl rfl b4)<|Af rfl<|Aa<|Aj<|Ac<|Ae rfl<|Ab (FV.geqN (i:=E0.toNat) (j:=128) rfl rfl)<|Aa<|AS rfl h (fun j2 h=>?_) (fun j2 h=>?_)
 refine Ac<|Ab (Bp (cs:=c0.map (fun z9:Bool=>(.bool z9:Value))) (by rw [List.length_map,g0]; kernel_rfl) rfl (A0.memA .hd))<|RG.now .plain (Acts.storeBig (fun z9:Bool=>(.bool z9:Value)) (m:=256) g0 g0 A0 .hd rfl rfl (by kernel_rfl) (fun _=>rfl)) fun C6 v1 D5=>Af rfl<|Aa ?_
 have h:=thn_map h I1
 refine Al rfl<|Ap (u:=.tuple #[.agg (c0.map (fun z9:Bool=>(.bool z9:Value))).toArray,.bool false]) B1 Tryz.func180 rfl (.cons (.many (cs:=c0.map (fun z9:Bool=>(.bool z9:Value))) (by rw [List.length_map,g0]; kernel_rfl) rfl (v1.memA .hd)) (.cons (.tmp rfl) .nil)) rfl<|Ae rfl<|Ab (Ah rfl rfl)<|Ab (Ah rfl rfl) ?_
 have s3:(List.replicate 256 false).length = 256:=List.length_replicate
 refine RG.nl ((List.replicate 256 false).map (fun z9:Bool=>(.bool z9:Value))) v1 fun D6 Q4 F2 E5=>RG.now .plain (Acts.storeBig (fun z9:Bool=>(.bool z9:Value)) (m:=256) s3 g0 F2 .hd rfl rfl (by kernel_rfl) (fun _=>rfl)) fun E6 k5 F5=>Af rfl<|Aa<|Ac<|Ae rfl<|Aa<|BF rfl<|Aq<|Ac<|Ae rfl<|Ae rfl ?_
 cases h
 refine Aq<|Av<|Ae rfl<|bk h fun X6 V0 h=>?_
 have K5:=mem_elem1 (p:=⟨J0,0,none⟩) (cs:=c0.map (fun z9:Bool=>(.bool z9:Value))) (i:=E0.toNat) (A0.memA .hd) (arr_get0 (fun z9:Bool=>(.bool z9:Value)) V0)
 refine Ab (Bg (m:=1) (k:=E0.toNat) (len:=256) (by kernel_rfl) rfl rfl rfl (arr_lt V0 g0)) ?_
 have t3:(c0.set E0.toNat true).length = 256:=by rw [List.length_set]; exact g0
 refine RG.now .plain (Acts.setBig (fun z9:Bool=>(.bool z9:Value)) (i:=E0.toNat) (x:=true) (m:=256) g0 (arr_lt V0 g0) A0 .hd rfl (addr_at _ _ _) rfl (by kernel_rfl) (fun _=>⟨rfl,rfl⟩)) fun F6 G2 M2=>Aa<|AA<|Av<|Ae rfl<|Ab (Bw (i:=p0) (j:=1) rfl rfl (by omega))<|Af rfl<|Aa<|u2 (p0 + 1,(c0.set E0.toNat true)) G2 (Tt K2 M2) t3 h
 refine Ba rfl ?_
 have h:=thn_inr h I1
 try dsimp only at h
 refine Ac<|Ab (Bp (cs:=c0.map (fun z9:Bool=>(.bool z9:Value))) (by rw [List.length_map,g0]; kernel_rfl) rfl (A0.memA .hd))<|RG.now .plain (Acts.storeBig (fun z9:Bool=>(.bool z9:Value)) (m:=256) g0 g0 A0 .hd rfl rfl (by kernel_rfl) (fun _=>rfl)) fun G6 x1 G5=>Af rfl<|Aa<|Al rfl<|Ap (u:=.tuple #[.agg (c0.map (fun z9:Bool=>(.bool z9:Value))).toArray,.bool true]) B1 Tryz.func180 rfl (.cons (.many (cs:=c0.map (fun z9:Bool=>(.bool z9:Value))) (by rw [List.length_map,g0]; kernel_rfl) rfl (x1.memA .hd)) (.cons (.tmp rfl) .nil)) rfl<|Ae rfl<|Ab (Ah rfl rfl)<|Ab (Ah rfl rfl) ?_
 have u3:(List.replicate 256 false).length = 256:=List.length_replicate
 refine RG.nl ((List.replicate 256 false).map (fun z9:Bool=>(.bool z9:Value))) x1 fun H6 k0 H2 H5=>RG.now .plain (Acts.storeBig (fun z9:Bool=>(.bool z9:Value)) (m:=256) u3 g0 H2 .hd rfl rfl (by kernel_rfl) (fun _=>rfl)) fun I6 y1 I5=>Af rfl<|Aa<|Ac<|Ae rfl<|Aa<|Bk rfl<|Ac<|Ae rfl<|BM (fst:=[]) (cap:=[]) (vs:=[.string a0,vP k0]) .plain body182 Tryz.func182 rfl rfl rfl rfl (e2 rfl rfl) rfl fun R4 P2 M5=>Ac<|Af rfl<|Aa<|Aj<|Ay<|MX.xo (α:=ByteArray) 0 (fun u0=>[(0,.string u0)]) (fun u0=>[.cells k0 (c0.map (fun z9:Bool=>(.bool z9:Value))) 214]) (fun u0=>u0) y1 rfl h ?_ ?_
 rintro u0 J6 k1 p5 h
 try dsimp only at h
 refine Ac<|Ae rfl<|Af rfl<|Aa<|Al rfl<|Ap (u:=.string u0) P2 Tryz.func182 rfl (.cons (.tmp rfl) .nil) rfl<|BM (fst:=[]) (cap:=[]) (vs:=[.string u0,vP k0]) .plain body181 Tryz.func181 rfl rfl rfl rfl (e2 rfl rfl) rfl fun V4 Q2 Q5=>Ac<|Af rfl<|Aa<|Aj<|Ay<|MX.xo (α:=ByteArray) 0 (fun B0=>[(0,.string B0)]) (fun B0=>[.cells k0 (c0.map (fun z9:Bool=>(.bool z9:Value))) 214]) (fun B0=>B0) k1 rfl h ?_ ?_
 rintro B0 K6 x2 s5 h
 try dsimp only at h
 refine Ac<|Ae rfl<|Af rfl<|Aa<|Al rfl<|Ap (u:=.string B0) Q2 Tryz.func181 rfl (.cons (.tmp rfl) .nil) rfl<|Af rfl<|Aa<|Al rfl<|AT hb0 Tryz.func154 rfl rfl ?_
 cases h
 exact x2.gv
 intro D4 d1 h
 try dsimp only at h
 obtain ⟨b6,v3,D1⟩:=bind_in2 h
 refine MX.lo (α:=ByteArray) (fun v0=>[(0,.string v0),(1,vP k0)]) (fun v0=>[.cells k0 (c0.map (fun z9:Bool=>(.bool z9:Value))) 214]) (fun v0=>v0) u0 v3 k1 ?_
 rintro E4 v0 M6 k2 F0 M0 h
 unfold aH_l1 at h
 try dsimp only at h
 refine Aj<|Ac<|Ae rfl<|Ab (BK Tryz.underlying9 rfl)<|Ab (FV.gtrN (i:=v0.size) (j:=0) rfl rfl)<|Aa<|AS rfl h (fun Q1 h=>?_) (fun Q1 h=>?_)
 refine Aq<|Ay<|Aj<|Ac<|Ae rfl<|Ae rfl<|bk h fun W0 V3 h=>Ab (FV.strAt (k:=0) Tryz.underlying9 rfl rfl rfl V3)<|BM (fst:=[]) (cap:=[]) (vs:=[vP k0,.int .u8 (W0.toNat:Int)]) .plain body197 Tryz.func197 rfl rfl rfl rfl (e2 rfl rfl) rfl fun W4 R2 R5=>Ac<|Af rfl<|Aa<|Ac<|Ae rfl<|Ae rfl<|Ab (FV.nilCheck rfl)<|bk h fun x4 J1 h=>Ab (Bg (m:=1) (k:=W0.toNat) (len:=256) (by kernel_rfl) rfl rfl rfl (arr_lt J1 g0))<|AP rfl ((mem_elem1 (p:=⟨k0,0,none⟩) (cs:=c0.map (fun z9:Bool=>(.bool z9:Value))) (i:=W0.toNat) (F0.memA .hd) (arr_get0 (fun z9:Bool=>(.bool z9:Value)) J1)) 0 _ rfl)<|Af rfl<|Aa<|Al rfl<|Ap (u:=.bool x4) R2 Tryz.func197 rfl (.cons (.tmp rfl) .nil) rfl<|Ab (Bo rfl)<|Aa<|MX.ifnb rfl h (fun R1 h=>?_) (fun R1 h=>?_)
 refine Aq<|Av<|Ae rfl<|bk h fun c4 C3 h=>Ab (FV.strCut C3 Tryz.underlying9 rfl ⟨_,rfl⟩ rfl)<|Af rfl<|Aa<|AA<|k2 c4 F0 M0 h
 refine Ba rfl ?_
 have h:=D1 _ h
 try dsimp only at h
 exact d1 v0 F0 M0 h
 refine Ba rfl ?_
 have h:=D1 _ h
 try dsimp only at h
 exact d1 v0 F0 M0 h
 intro C4 b1 h
 try dsimp only at h
 obtain ⟨y2,z1⟩:=AI y1 (.a0 .done)
 obtain ⟨c6,x3,E1⟩:=bind_in2 h
 refine MX.lo (α:=ByteArray) (fun q0=>[(0,.string q0),(1,vP k0)]) (fun q0=>[.cells k0 (c0.map (fun z9:Bool=>(.bool z9:Value))) 214]) (fun q0=>q0) a0 x3 y2 ?_
 rintro F4 q0 P6 p2 G0 P0 h
 unfold aH_l2 at h
 try dsimp only at h
 refine Aj<|Ac<|Ae rfl<|Ab (BK Tryz.underlying9 rfl)<|Ab (FV.gtrN (i:=q0.size) (j:=0) rfl rfl)<|Aa<|AS rfl h (fun U1 h=>?_) (fun U1 h=>?_)
 refine Aq<|Ay<|Aj<|Ac<|Ae rfl<|Ae rfl<|Ae rfl<|Ab (BK Tryz.underlying9 rfl)<|bk h fun d4 D3 h=>Ab (FV.subc (i:=((q0.size:Nat):Int)) (j:=1) rfl rfl D3)<|bk h fun X0 W3 h=>?_
 obtain ⟨Z2,M3⟩:=sidx_in W3
 refine Ab (FV.strAt (k:=d4.toNat) Tryz.underlying9 rfl rfl Z2 M3)<|BM (fst:=[]) (cap:=[]) (vs:=[vP k0,.int .u8 (X0.toNat:Int)]) .plain body197 Tryz.func197 rfl rfl rfl rfl (e2 rfl rfl) rfl fun X4 U2 U5=>Ac<|Af rfl<|Aa<|Ac<|Ae rfl<|Ae rfl<|Ab (FV.nilCheck rfl)<|bk h fun y4 K1 h=>Ab (Bg (m:=1) (k:=X0.toNat) (len:=256) (by kernel_rfl) rfl rfl rfl (arr_lt K1 g0))<|AP rfl ((mem_elem1 (p:=⟨k0,0,none⟩) (cs:=c0.map (fun z9:Bool=>(.bool z9:Value))) (i:=X0.toNat) (G0.memA .hd) (arr_get0 (fun z9:Bool=>(.bool z9:Value)) K1)) 0 _ rfl)<|Af rfl<|Aa<|Al rfl<|Ap (u:=.bool y4) U2 Tryz.func197 rfl (.cons (.tmp rfl) .nil) rfl<|Ab (Bo rfl)<|Aa<|MX.ifnb rfl h (fun V1 h=>?_) (fun V1 h=>?_)
 refine Aq<|Av<|Ae rfl<|Ae rfl<|Ab (BK Tryz.underlying9 rfl)<|bk h fun p6 E3 h=>Ab (FV.subc (i:=((q0.size:Nat):Int)) (j:=1) rfl rfl E3)<|bk h fun g4 F3 h=>Ab (FV.strCut F3 Tryz.underlying9 rfl rfl ⟨_,rfl⟩)<|Af rfl<|Aa<|AA<|p2 g4 G0 P0 h
 refine Ba rfl ?_
 have h:=E1 _ h
 try dsimp only at h
 exact b1 q0 G0 (Tt z1 P0) h
 refine Ba rfl ?_
 have h:=E1 _ h
 try dsimp only at h
 exact b1 q0 G0 (Tt z1 P0) h
 refine Aw<|Aw<|Aw<|Bx rfl rfl<|Aa<|BF rfl<|Aq<|Aj<|Ac<|Ae rfl<|BM (fst:=[]) (cap:=[]) (vs:=[.string a1]) .plain body180 Tryz.func180 rfl rfl rfl rfl (e1 rfl) rfl fun Y4 C1 V5=>Ac ?_
 have j3:(List.replicate 256 false).length = 256:=List.length_replicate
 refine RG.nl ((List.replicate 256 false).map (fun z9:Bool=>(.bool z9:Value))) hS0 fun t6 K0 z2 t5=>Af rfl<|Aa<|Aj<|Ac<|Af rfl<|Aa<|Ay<|tn h fun d6 y3 F1=>MX.lf (α:=Int × (List Bool)) (fun ⟨t0,b0⟩=>[(0,.string a1),(2,vP K0),(4,vI t0)]) (fun ⟨t0,b0⟩=>[.cells K0 (b0.map (fun z9:Bool=>(.bool z9:Value))) 214]) (fun ⟨t0,b0⟩ s4=>b0.length = 256) (fun ⟨t0,b0⟩=>(t0,b0)) (0,(List.replicate 256 false)) y3 z2 j3 ?_
 rintro G4 ⟨t0,b0⟩ s4 q2 z0 I2 d0 h
 unfold aH_l6 at h
 try dsimp only at h
 refine Aj<|Ac<|Ae rfl<|Ae rfl<|Ab (BK Tryz.underlying9 rfl)<|Ab (BR (i:=t0) (j:=((a1.size:Nat):Int)) rfl rfl)<|Aa<|AS rfl h (fun W1 h=>?_) (fun W1 h=>?_)
 refine Aq<|Aj<|Ay<|Ac<|Ae rfl<|Ae rfl<|bk h fun D0 X3 h=>?_
 obtain ⟨b3,P3⟩:=sidx_in X3
 refine Ab (FV.strAt (k:=t0.toNat) Tryz.underlying9 rfl rfl b3 P3)<|Af rfl<|Aa<|Aj<|Ac<|Ae rfl<|Ab (FV.geqN (i:=D0.toNat) (j:=128) rfl rfl)<|Aa<|AS rfl h (fun X1 h=>?_) (fun X1 h=>?_)
 refine Ac<|Ab (Bp (cs:=b0.map (fun z9:Bool=>(.bool z9:Value))) (by rw [List.length_map,d0]; kernel_rfl) rfl (z0.memA .hd))<|RG.now .plain (Acts.storeBig (fun z9:Bool=>(.bool z9:Value)) (m:=256) d0 d0 z0 .hd rfl rfl (by kernel_rfl) (fun _=>rfl)) fun u6 p1 u5=>Af rfl<|Aa ?_
 have h:=thn_map h F1
 refine Al rfl<|Ap (u:=.tuple #[.agg (b0.map (fun z9:Bool=>(.bool z9:Value))).toArray,.bool false]) C1 Tryz.func180 rfl (.cons (.many (cs:=b0.map (fun z9:Bool=>(.bool z9:Value))) (by rw [List.length_map,d0]; kernel_rfl) rfl (p1.memA .hd)) (.cons (.tmp rfl) .nil)) rfl<|Ae rfl<|Ab (Ah rfl rfl)<|Ab (Ah rfl rfl) ?_
 have k3:(List.replicate 256 false).length = 256:=List.length_replicate
 refine RG.nl ((List.replicate 256 false).map (fun z9:Bool=>(.bool z9:Value))) p1 fun v6 P4 A2 v5=>RG.now .plain (Acts.storeBig (fun z9:Bool=>(.bool z9:Value)) (m:=256) k3 d0 A2 .hd rfl rfl (by kernel_rfl) (fun _=>rfl)) fun x6 j5 x5=>Af rfl<|Aa<|Ac<|Ae rfl<|Aa<|BF rfl<|Aq<|Ac<|Ae rfl<|Ae rfl ?_
 cases h
 refine Aq<|Av<|Ae rfl<|bk h fun W6 U0 h=>?_
 have J5:=mem_elem1 (p:=⟨K0,0,none⟩) (cs:=b0.map (fun z9:Bool=>(.bool z9:Value))) (i:=D0.toNat) (z0.memA .hd) (arr_get0 (fun z9:Bool=>(.bool z9:Value)) U0)
 refine Ab (Bg (m:=1) (k:=D0.toNat) (len:=256) (by kernel_rfl) rfl rfl rfl (arr_lt U0 d0)) ?_
 have p3:(b0.set D0.toNat true).length = 256:=by rw [List.length_set]; exact d0
 refine RG.now .plain (Acts.setBig (fun z9:Bool=>(.bool z9:Value)) (i:=D0.toNat) (x:=true) (m:=256) d0 (arr_lt U0 d0) z0 .hd rfl (addr_at _ _ _) rfl (by kernel_rfl) (fun _=>⟨rfl,rfl⟩)) fun y6 B2 J2=>Aa<|AA<|Av<|Ae rfl<|bk h fun j4 G3 h=>Ab (BL (i:=t0) (j:=1) rfl rfl G3)<|Af rfl<|Aa<|q2 (j4,(b0.set D0.toNat true)) B2 (Tt I2 J2) p3 h
 refine Ba rfl ?_
 have h:=thn_inr h F1
 try dsimp only at h
 refine Ac<|Ab (Bp (cs:=b0.map (fun z9:Bool=>(.bool z9:Value))) (by rw [List.length_map,d0]; kernel_rfl) rfl (z0.memA .hd))<|RG.now .plain (Acts.storeBig (fun z9:Bool=>(.bool z9:Value)) (m:=256) d0 d0 z0 .hd rfl rfl (by kernel_rfl) (fun _=>rfl)) fun z6 q1 y5=>Af rfl<|Aa<|Al rfl<|Ap (u:=.tuple #[.agg (b0.map (fun z9:Bool=>(.bool z9:Value))).toArray,.bool true]) C1 Tryz.func180 rfl (.cons (.many (cs:=b0.map (fun z9:Bool=>(.bool z9:Value))) (by rw [List.length_map,d0]; kernel_rfl) rfl (q1.memA .hd)) (.cons (.tmp rfl) .nil)) rfl<|Ae rfl<|Ab (Ah rfl rfl)<|Ab (Ah rfl rfl) ?_
 have q3:(List.replicate 256 false).length = 256:=List.length_replicate
 refine RG.nl ((List.replicate 256 false).map (fun z9:Bool=>(.bool z9:Value))) q1 fun A6 j0 C2 z5=>RG.now .plain (Acts.storeBig (fun z9:Bool=>(.bool z9:Value)) (m:=256) q3 d0 C2 .hd rfl rfl (by kernel_rfl) (fun _=>rfl)) fun B6 s1 A5=>Af rfl<|Aa<|Ac<|Ae rfl<|Aa<|Bk rfl<|Ac<|Ae rfl<|BM (fst:=[]) (cap:=[]) (vs:=[.string a0,vP j0]) .plain body182 Tryz.func182 rfl rfl rfl rfl (e2 rfl rfl) rfl fun Z4 V2 W5=>Ac<|Af rfl<|Aa<|Aj<|Ay<|MX.xo (α:=ByteArray) 0 (fun x0=>[(0,.string x0)]) (fun x0=>[.cells j0 (b0.map (fun z9:Bool=>(.bool z9:Value))) 214]) (fun x0=>x0) s1 rfl h ?_ ?_
 rintro x0 Q6 u1 B5 h
 try dsimp only at h
 refine Ac<|Ae rfl<|Af rfl<|Aa<|Al rfl<|Ap (u:=.string x0) V2 Tryz.func182 rfl (.cons (.tmp rfl) .nil) rfl<|BM (fst:=[]) (cap:=[]) (vs:=[.string x0,vP j0]) .plain body181 Tryz.func181 rfl rfl rfl rfl (e2 rfl rfl) rfl fun b5 W2 X5=>Ac<|Af rfl<|Aa<|Aj<|Ay<|MX.xo (α:=ByteArray) 0 (fun C0=>[(0,.string C0)]) (fun C0=>[.cells j0 (b0.map (fun z9:Bool=>(.bool z9:Value))) 214]) (fun C0=>C0) u1 rfl h ?_ ?_
 rintro C0 R6 D2 C5 h
 try dsimp only at h
 refine Ac<|Ae rfl<|Af rfl<|Aa<|Al rfl<|Ap (u:=.string C0) W2 Tryz.func181 rfl (.cons (.tmp rfl) .nil) rfl<|Af rfl<|Aa<|Al rfl<|AT hb0 Tryz.func154 rfl rfl ?_
 cases h
 exact D2.gv
 intro I4 j1 h
 try dsimp only at h
 obtain ⟨g6,z3,G1⟩:=bind_in2 h
 refine MX.lo (α:=ByteArray) (fun y0=>[(0,.string y0),(1,vP j0)]) (fun y0=>[.cells j0 (b0.map (fun z9:Bool=>(.bool z9:Value))) 214]) (fun y0=>y0) x0 z3 u1 ?_
 rintro J4 y0 U6 s2 H0 Q0 h
 unfold aH_l4 at h
 try dsimp only at h
 refine Aj<|Ac<|Ae rfl<|Ab (BK Tryz.underlying9 rfl)<|Ab (FV.gtrN (i:=y0.size) (j:=0) rfl rfl)<|Aa<|AS rfl h (fun Y1 h=>?_) (fun Y1 h=>?_)
 refine Aq<|Ay<|Aj<|Ac<|Ae rfl<|Ae rfl<|bk h fun Y0 Y3 h=>Ab (FV.strAt (k:=0) Tryz.underlying9 rfl rfl rfl Y3)<|BM (fst:=[]) (cap:=[]) (vs:=[vP j0,.int .u8 (Y0.toNat:Int)]) .plain body197 Tryz.func197 rfl rfl rfl rfl (e2 rfl rfl) rfl fun d5 X2 Y5=>Ac<|Af rfl<|Aa<|Ac<|Ae rfl<|Ae rfl<|Ab (FV.nilCheck rfl)<|bk h fun A4 M1 h=>Ab (Bg (m:=1) (k:=Y0.toNat) (len:=256) (by kernel_rfl) rfl rfl rfl (arr_lt M1 d0))<|AP rfl ((mem_elem1 (p:=⟨j0,0,none⟩) (cs:=b0.map (fun z9:Bool=>(.bool z9:Value))) (i:=Y0.toNat) (H0.memA .hd) (arr_get0 (fun z9:Bool=>(.bool z9:Value)) M1)) 0 _ rfl)<|Af rfl<|Aa<|Al rfl<|Ap (u:=.bool A4) X2 Tryz.func197 rfl (.cons (.tmp rfl) .nil) rfl<|Ab (Bo rfl)<|Aa<|MX.ifnb rfl h (fun Z1 h=>?_) (fun Z1 h=>?_)
 refine Aq<|Av<|Ae rfl<|bk h fun k4 H3 h=>Ab (FV.strCut H3 Tryz.underlying9 rfl ⟨_,rfl⟩ rfl)<|Af rfl<|Aa<|AA<|s2 k4 H0 Q0 h
 refine Ba rfl ?_
 have h:=G1 _ h
 try dsimp only at h
 exact j1 y0 H0 Q0 h
 refine Ba rfl ?_
 have h:=G1 _ h
 try dsimp only at h
 exact j1 y0 H0 Q0 h
 intro H4 g1 h
 try dsimp only at h
 obtain ⟨E2,A1⟩:=AI s1 (.a0 .done)
 obtain ⟨j6,A3,H1⟩:=bind_in2 h
 refine MX.lo (α:=ByteArray) (fun s0=>[(0,.string s0),(1,vP j0)]) (fun s0=>[.cells j0 (b0.map (fun z9:Bool=>(.bool z9:Value))) 214]) (fun s0=>s0) a0 A3 E2 ?_
 rintro K4 s0 V6 t2 I0 R0 h
 unfold aH_l5 at h
 try dsimp only at h
 refine Aj<|Ac<|Ae rfl<|Ab (BK Tryz.underlying9 rfl)<|Ab (FV.gtrN (i:=s0.size) (j:=0) rfl rfl)<|Aa<|AS rfl h (fun b2 h=>?_) (fun b2 h=>?_)
 refine Aq<|Ay<|Aj<|Ac<|Ae rfl<|Ae rfl<|Ae rfl<|Ab (BK Tryz.underlying9 rfl)<|bk h fun p4 I3 h=>Ab (FV.subc (i:=((s0.size:Nat):Int)) (j:=1) rfl rfl I3)<|bk h fun Z0 Z3 h=>?_
 obtain ⟨d3,Q3⟩:=sidx_in Z3
 refine Ab (FV.strAt (k:=p4.toNat) Tryz.underlying9 rfl rfl d3 Q3)<|BM (fst:=[]) (cap:=[]) (vs:=[vP j0,.int .u8 (Z0.toNat:Int)]) .plain body197 Tryz.func197 rfl rfl rfl rfl (e2 rfl rfl) rfl fun g5 Y2 Z5=>Ac<|Af rfl<|Aa<|Ac<|Ae rfl<|Ae rfl<|Ab (FV.nilCheck rfl)<|bk h fun B4 P1 h=>Ab (Bg (m:=1) (k:=Z0.toNat) (len:=256) (by kernel_rfl) rfl rfl rfl (arr_lt P1 d0))<|AP rfl ((mem_elem1 (p:=⟨j0,0,none⟩) (cs:=b0.map (fun z9:Bool=>(.bool z9:Value))) (i:=Z0.toNat) (I0.memA .hd) (arr_get0 (fun z9:Bool=>(.bool z9:Value)) P1)) 0 _ rfl)<|Af rfl<|Aa<|Al rfl<|Ap (u:=.bool B4) Y2 Tryz.func197 rfl (.cons (.tmp rfl) .nil) rfl<|Ab (Bo rfl)<|Aa<|MX.ifnb rfl h (fun d2 h=>?_) (fun d2 h=>?_)
 refine Aq<|Av<|Ae rfl<|Ae rfl<|Ab (BK Tryz.underlying9 rfl)<|bk h fun q6 J3 h=>Ab (FV.subc (i:=((s0.size:Nat):Int)) (j:=1) rfl rfl J3)<|bk h fun q4 K3 h=>Ab (FV.strCut K3 Tryz.underlying9 rfl rfl ⟨_,rfl⟩)<|Af rfl<|Aa<|AA<|t2 q4 I0 R0 h
 refine Ba rfl ?_
 have h:=H1 _ h
 try dsimp only at h
 exact g1 s0 I0 (Tt A1 R0) h
 refine Ba rfl ?_
 have h:=H1 _ h
 try dsimp only at h
 exact g1 s0 I0 (Tt A1 R0) h
def cP_p (_n:Nat) (a0:Int) (a1:Int):Option Bool:=
  (if a0 < 0 then some true else some (decide (a1 < a0)))
theorem cP_c (n:Nat) (L:List Nat) (w:World) (_hL:∀ b ∈ L,b < w.heap.size) {a0:Int} {a1:Int} {p1:Nat} (m1:∀ j9 v9,([vI a1]:List Value)[j9]? = some v9 -> w.cell? ((⟨p1,0,none⟩:Addr).add j9) = some v9)  {r:Bool} (h:cP_p n a0 a1 = some r) :
    Calls Tryz.prog 186 #[vI a0,.pointer (some ⟨p1,0,none⟩)] w (Gives w fun _ u=>u = .bool r):=by
 unfold cP_p at h
 have hS0:=AB w
 refine AF Tryz.func186 rfl rfl rfl fun _ cs0 hb0=>Ac<|Af rfl<|Aa<|Ac<|Ae rfl<|Ab (BR (i:=a0) (j:=0) rfl rfl)<|Ae rfl<|BE (s:=6) rfl h (fun c1 h=>?_) (fun c1 h=>?_)
 refine Aw<|Aw<|Aw<|Br rfl rfl<|Af rfl<|Aa<|Al rfl<|AT hb0 Tryz.func186 rfl rfl ?_
 cases h
 exact hS0.gv
 refine AJ (Ai rfl)<|AJ (AL rfl ((fun j9 v9 h9=>hS0.ag.cell0 (m1 j9 v9 h9)) 0 _ rfl))<|AJ (FV.gtr (i:=a0) (j:=a1) rfl rfl)<|Bx rfl rfl<|Af rfl<|Aa<|Al rfl<|AT hb0 Tryz.func186 rfl rfl ?_
 cases h
 exact hS0.gv
theorem body185:bodyB Tryz.prog 185 = true:=by kernel_rfl
theorem body186:bodyB Tryz.prog 186 = true:=by kernel_rfl
theorem body201:bodyB Tryz.prog 201 = true:=by kernel_rfl
def bj_l1 (n:Nat) (a0:List Int) (a2:Int) (c0:Nat -> Option (Bool ⊕ Unit)):Nat -> Option (Bool ⊕ Unit)
  | b0=>(if b0 < a0.length then (a0[b0]?).bind fun d0=>(cP_p n d0 a2).bind fun g0=>(if g0 = true then some (.inl (!(decide (0 <= b0)))) else c0 (b0 + 1)) else some (.inr ()))
def bj_p (n:Nat) (a0:List Int) (a1:Int) (a2:Int):Option Bool:=
  (if ((a0.length:Nat):Int) = a1 then thn (loopF (bj_l1 n a0 a2) n 0) (fun _=>some (!(decide (0 <= (-1))))) else some false)
theorem bj_c (n:Nat) (L:List Nat) (w:World) (hL:∀ b ∈ L,b < w.heap.size) {a0:List Int} {v0_0:Value} (h0_0:Rep.R w L [v0_0] a0) {a1:Int} {a2:Int}  {r:Bool} (h:bj_p n a0 a1 a2 = some r) :
    Calls Tryz.prog 155 #[v0_0,vI a1,vI a2] w (Gives w fun _ u=>u = .bool r):=by
 unfold bj_p at h
 refine AF Tryz.func155 rfl rfl rfl fun _ cs0 hb0=>Ac<|RG.bx (AB w) rfl rfl fun Y0 c0 g0 R0=>Af rfl<|Aa<|Ac<|Ae rfl ?_
 have j0:=AO h0_0 g0
 have U0:a0.length <= 281474976710656:=AY j0
 refine Ab (Bc (xs:=a0) Tryz.underlying45 rfl j0)<|Ae rfl<|Ab (FV.eql (i:=((a0.length:Nat):Int)) (j:=a1) rfl rfl)<|Ae rfl<|BE (s:=11) rfl h (fun s0 h=>?_) (fun s0 h=>?_)
 refine AJ (Ai rfl)<|AJ (BN (vs:=[]) (us:=[vP c0]) evs_nil (e1 rfl))<|BM (fst:=[]) (cap:=[]) (vs:=[v0_0,.func (.func 186) #[] #[vP c0]]) (.yes rfl rfl) body185 Tryz.func185 rfl rfl rfl rfl (e2 rfl rfl) rfl fun P0 k0 V0=>Ac<|Af rfl<|Aa<|Ac<|Ae rfl<|Ae rfl<|BM (fst:=[]) (cap:=[]) (vs:=[v0_0,.func (.func 186) #[] #[vP c0]]) .plain body201 Tryz.func201 rfl rfl rfl rfl (e2 rfl rfl) rfl fun Q0 p0 W0=>Ac<|Af rfl<|Aa<|Aj<|Ac<|Ae rfl<|Ab (Bc (xs:=a0) Tryz.underlying45 rfl j0)<|Ae rfl<|Aa<|Ay<|tn h fun X0 D0 q0=>MX.lo (α:=Nat) (fun b0=>[(0,v0_0),(1,.func (.func 186) #[] #[vP c0]),(7,vI ((a0.length:Nat):Int)),(8,vI ((b0:Nat):Int))]) (fun b0=>[.cells c0 [vI a2] 3]) (fun b0=>b0) 0 D0 g0 ?_
 rintro K0 b0 Z0 x0 d0 y0 h
 unfold bj_l1 at h
 try dsimp only at h
 refine Ac<|Ab (Bu (i:=b0) (j:=a0.length) rfl rfl)<|Aa<|Aj<|AS rfl h (fun t0 h=>?_) (fun t0 h=>?_)
 refine Aq<|Aj<|Ay<|Ac<|Ae rfl<|Af rfl<|Aa<|Ac<|Ae rfl<|Ae rfl<|Ae rfl<|bk h fun H0 F0 h=>?_
 obtain ⟨J0,M0,z0,B0,v0,E0,C0⟩:=Bl (AO h0_0 d0) F0
 have A0:v0 = [vI H0]:=E0; subst A0
 refine Ab (Bm 1 b0 rfl z0 rfl rfl B0)<|AP rfl (C0 0 _ rfl)<|bk h fun I0 G0 h=>RG.callq' (v:=.bool I0) (fst:=[]) (cap:=[vP c0]) .plain body186 rfl (e1 rfl) (fun w9 hw9=>cP_c n _ w9 (d0.hL0 hL hw9) (mem_keep hw9 (d0.memA .hd)) G0) rfl<|Aa<|MX.ifb rfl h (fun u0 h=>?_) (fun u0 h=>?_)
 refine Ac<|Ae rfl<|Af rfl<|Aa ?_
 have h:=thn_inl h q0
 refine Al rfl<|Ap (u:=vI ((b0:Nat):Int)) p0 Tryz.func201 rfl (.cons (.tmp rfl) .nil) rfl<|Ab (FV.geqN (i:=b0) (j:=0) rfl rfl)<|Af rfl<|Aa<|Al rfl<|Ap (u:=.bool (decide (0 <= b0))) k0 Tryz.func185 rfl (.cons (.tmp rfl) .nil) rfl<|AJ (Bo rfl)<|Br rfl rfl<|Af rfl<|Aa<|Al rfl<|AT hb0 Tryz.func155 rfl rfl ?_
 cases h
 exact d0.gv
 refine Aq<|AA<|Av<|Ab (Bw (i:=b0) (j:=1) rfl rfl (by omega))<|Ae rfl<|Aa<|x0 (b0 + 1) d0 y0 h
 refine Ba rfl ?_
 have h:=thn_inr h q0
 try dsimp only at h
 refine Ac<|Af rfl<|Aa<|Al rfl<|Ap (u:=vI (-1)) p0 Tryz.func201 rfl (.cons (.tmp rfl) .nil) rfl<|Ab (FV.geq (i:=(-1)) (j:=0) rfl rfl)<|Af rfl<|Aa<|Al rfl<|Ap (u:=.bool (decide (0 <= (-1)))) k0 Tryz.func185 rfl (.cons (.tmp rfl) .nil) rfl<|AJ (Bo rfl)<|Br rfl rfl<|Af rfl<|Aa<|Al rfl<|AT hb0 Tryz.func155 rfl rfl ?_
 cases h
 exact d0.gv
 refine Aw<|Aw<|Aw<|Aw<|Bx rfl rfl<|Af rfl<|Aa<|Al rfl<|AT hb0 Tryz.func155 rfl rfl ?_
 cases h
 exact g0.gv
structure Tb where
  fw:ByteArray
  fv:Int
  fe:List Int
  fC:List Int
  fB:List Int
  fu:Bool
  deriving DecidableEq
instance:Rep Tb:=Rep.via (β:=ByteArray × Int × (List Int) × (List Int) × (List Int) × Bool) fun x=>(x.fw,x.fv,x.fe,x.fC,x.fB,x.fu)
structure Tc where
  fe:Int
  fh:Int
  fj:Int
  fo:List Tb
  deriving DecidableEq
instance:Rep Tc:=Rep.via (β:=Int × Int × Int × (List Tb)) fun x=>(x.fe,x.fh,x.fj,x.fo)
def tb117_4:List (Nat × Nat × Nat):=[(0,512,8),(1,1024,512),(2,2048,1024),(0,4096,8),(8,8192,4096),(16,16384,8192),(32,32768,16384),(0,65536,8),(128,131072,65536),(256,262144,131072),(512,524288,262144),(0,1048576,8),(2048,2097152,1048576),(4096,4194304,2097152),(0,8388608,8),(16384,16777216,8388608),(0,33554432,32),(98304,67108864,50331648),(0,134217728,8),(262144,268435456,134217728),(0,536870912,4),(1048576,1073741824,536870912),(0,2147483648,8),(4194304,4294967296,2147483648),(11010560,8589934592,5637144576),(0,17179869184,8),(33554432,34359738368,17179869184),(0,68719476736,4),(134217728,137438953472,68719476736),(0,274877906944,32),(889192448,549755813888,446676598784),(0,1099511627776,8),(2147483648,2199023255552,1099511627776),(0,4398046511104,4),(8589934592,8796093022208,4398046511104),(0,17592186044416,64),(56908316672,35184372088832,28587302322176),(69810136132,70368744177664,35742789699584),(206158430208,140737488355328,70368744177664),(549755813887,16,140737488355328)]
theorem el142:ElT Tryz.prog 142 4 (Rep.size Bool) 1 (.bool false) [.bool false]:=⟨Tryz.underlying142,by kernel_rfl,rfl,rfl,rfl,rfl⟩
theorem body116:bodyB Tryz.prog 116 = true:=by kernel_rfl
theorem body154:bodyB Tryz.prog 154 = true:=by kernel_rfl
theorem body155:bodyB Tryz.prog 155 = true:=by kernel_rfl
def cT_p (n:Nat) (a0:Tc) (a1:Tb):Option Bool:=
  jn (fun (c0,d0)=>(aH_p n a1.fw ⟨#[65,66,67,68,69,70,71,72,73,74,75,76,77,78,79,80,81,82,83,84,85,86,87,88,89,90,97,98,99,100,101,102,103,104,105,106,107,108,109,110,111,112,113,114,115,116,117,118,119,120,121,122,48,49,50,51,52,53,54,55,56,57,45,95]⟩).bind fun g0=>(bj_p n a1.fe a0.fe a1.fv).bind fun j0=>(bj_p n a1.fC a0.fh ((c0:Nat):Int)).bind fun k0=>(bj_p n a1.fB a0.fj ((d0:Nat):Int)).bind fun p0=>(bm_p n ([(!(decide (a1.fw = ⟨#[]⟩))),(decide (a1.fw.size <= 12)),(decide (g0 = ⟨#[]⟩)),(decide (0 <= a1.fv)),(decide (a1.fv <= ((c0:Nat):Int))),j0,k0,p0]:List Bool)).bind fun q0=>some q0) (fun b0=>(if a1.fu = true then b0 (0,0) else b0 (1000000000,63)))
theorem cT_c (n:Nat) (L:List Nat) (w:World) (hL:∀ b ∈ L,b < w.heap.size) (a0:Tc) {v0_3:Value} (_h0_3:Rep.R w L [v0_3] a0.fo) (a1:Tb) {v1_2:Value} (h1_2:Rep.R w L [v1_2] a1.fe) {v1_3:Value} (h1_3:Rep.R w L [v1_3] a1.fC) {v1_4:Value} (h1_4:Rep.R w L [v1_4] a1.fB)  {r:Bool} (h:cT_p n a0 a1 = some r) :
    Calls Tryz.prog 117 #[.agg #[vI a0.fe,vI a0.fh,vI a0.fj,v0_3],.agg #[.string a1.fw,vI a1.fv,v1_2,v1_3,v1_4,.bool a1.fu]] w (Gives w fun _ u=>u = .bool r):=by
 unfold cT_p at h
 refine AF Tryz.func117 rfl rfl rfl fun _ cs0 hb0=>Ac<|RG.bx (AB w) rfl rfl fun R0 x0 B0 K0=>RG.bx B0 rfl rfl fun U0 y0 u0 M0=>Af rfl<|Aa<|Ac<|Af rfl<|Af rfl<|Aa<|Aj<|Ac<|AV 5 rfl<|AP rfl ((u0.memA .hd) 5 _ rfl)<|Aa<|MX.jo (α:=Nat × Nat) (fun ⟨g0,t0⟩=>[(2,vP x0),(3,vP y0),(5,vI ((g0:Nat):Int)),(6,vI ((t0:Nat):Int))]) (fun ⟨g0,t0⟩=>[.cells y0 [.string a1.fw,vI a1.fv,v1_2,v1_3,v1_4,.bool a1.fu] 101,.cells x0 [vI a0.fe,vI a0.fh,vI a0.fj,v0_3] 44]) (fun ⟨g0,t0⟩=>(g0,t0)) u0 h ?_ ?_
 rintro ⟨g0,t0⟩ W0 d0 P0 h
 try dsimp only at h
 refine Aj<|dt 40 tb117_4 fun b0 c0=>Ag 0 1 b0 rfl c0 (fun _=>Bd 0 rfl) rfl<|AG 1 3 962072674308 b0 rfl c0 (AL rfl ((d0.memA .hd) 0 _ rfl)) rfl<|Ag 2 7 b0 rfl c0 (fun _=>FV.neqS rfl rfl) rfl<|Ag 3 15 b0 rfl c0 (fun _=>Bd 0 rfl) rfl<|AG 4 31 962072674400 b0 rfl c0 (AL rfl ((d0.memA .hd) 0 _ rfl)) rfl<|AG 5 63 962072674368 b0 rfl c0 (BK Tryz.underlying9 rfl) rfl<|Ag 6 127 b0 rfl c0 (fun _=>FV.leqN (i:=a1.fw.size) (j:=12) rfl rfl) rfl<|Ag 7 255 b0 rfl c0 (fun _=>Bd 0 rfl) rfl<|AG 8 511 1031882671616 b0 rfl c0 (AL rfl ((d0.memA .hd) 0 _ rfl)) rfl<|bk h fun s0 C0 h=>BT 9 1023 1031882671104 (.string s0) b0 rfl c0 body154 rfl (e2 rfl rfl) (fun w9 hw9=>aH_c n _ w9 (d0.hL0 hL hw9)  C0) rfl<|Ag 10 2047 b0 rfl c0 (fun _=>FV.eqlS rfl rfl) rfl<|Ag 11 4095 b0 rfl c0 (fun _=>Bd 1 rfl) rfl<|AG 12 8191 962072682496 b0 rfl c0 (AL rfl ((d0.memA .hd) 1 _ rfl)) rfl<|Ag 13 16383 b0 rfl c0 (fun _=>FV.geq (i:=a1.fv) (j:=0) rfl rfl) rfl<|Ag 14 32767 b0 rfl c0 (fun _=>Bd 1 rfl) rfl<|AG 15 65535 962072805376 b0 rfl c0 (AL rfl ((d0.memA .hd) 1 _ rfl)) rfl<|Ag 16 131071 b0 rfl c0 (fun _=>Ai rfl) rfl<|Ag 17 262143 b0 rfl c0 (fun _=>FV.leq (i:=a1.fv) (j:=((g0:Nat):Int)) rfl rfl) rfl<|Ag 18 524287 b0 rfl c0 (fun _=>Bd 2 rfl) rfl<|AG 19 1048575 1031882670080 b0 rfl c0 (AL rfl ((d0.memA .hd) 2 _ rfl)) rfl<|Ag 20 2097151 b0 rfl c0 (fun _=>Bd 0 rfl) rfl<|AG 21 4194303 1031882670080 b0 rfl c0 (AL rfl ((d0.memA .t1) 0 _ rfl)) rfl<|Ag 22 8388607 b0 rfl c0 (fun _=>Bd 1 rfl) rfl<|AG 23 16777215 1031882670080 b0 rfl c0 (AL rfl ((d0.memA .hd) 1 _ rfl)) rfl<|bk h fun q0 D0 h=>BT 24 33554431 1031865892864 (.bool q0) b0 rfl c0 body155 rfl (e3 rfl rfl rfl) (fun w9 hw9=>bj_c n _ w9 (d0.hL0 hL hw9) (d0.k0 h1_2 hw9) D0) rfl<|Ag 25 67108863 b0 rfl c0 (fun _=>Bd 3 rfl) rfl<|AG 26 134217727 1031865892864 b0 rfl c0 (AL rfl ((d0.memA .hd) 3 _ rfl)) rfl<|Ag 27 268435455 b0 rfl c0 (fun _=>Bd 1 rfl) rfl<|AG 28 536870911 1031865892864 b0 rfl c0 (AL rfl ((d0.memA .t1) 1 _ rfl)) rfl<|Ag 29 1073741823 b0 rfl c0 (fun _=>Ai rfl) rfl<|bk h fun p0 E0 h=>BT 30 2147483647 1030792151040 (.bool p0) b0 rfl c0 body155 rfl (e3 rfl rfl rfl) (fun w9 hw9=>bj_c n _ w9 (d0.hL0 hL hw9) (d0.k0 h1_3 hw9) E0) rfl<|Ag 31 4294967295 b0 rfl c0 (fun _=>Bd 4 rfl) rfl<|AG 32 8589934591 1030792151040 b0 rfl c0 (AL rfl ((d0.memA .hd) 4 _ rfl)) rfl<|Ag 33 17179869183 b0 rfl c0 (fun _=>Bd 2 rfl) rfl<|AG 34 34359738367 1030792151040 b0 rfl c0 (AL rfl ((d0.memA .t1) 2 _ rfl)) rfl<|Ag 35 68719476735 b0 rfl c0 (fun _=>Ai rfl) rfl<|bk h fun j0 F0 h=>BT 36 137438953471 962072674304 (.bool j0) b0 rfl c0 body155 rfl (e3 rfl rfl rfl) (fun w9 hw9=>bj_c n _ w9 (d0.hL0 hL hw9) (d0.k0 h1_4 hw9) F0) rfl<|BS 37 274877906943 b0 rfl .plain rfl (AE (α:=Bool) (xs:=([(!(decide (a1.fw = ⟨#[]⟩))),(decide (a1.fw.size <= 12)),(decide (s0 = ⟨#[]⟩)),(decide (0 <= a1.fv)),(decide (a1.fv <= ((g0:Nat):Int))),q0,p0,j0]:List Bool)) (vs:=[.bool (!(decide (a1.fw = ⟨#[]⟩))),.bool (decide (a1.fw.size <= 12)),.bool (decide (s0 = ⟨#[]⟩)),.bool (decide (0 <= a1.fv)),.bool (decide (a1.fv <= ((g0:Nat):Int))),.bool q0,.bool p0,.bool j0]) (ds' :=[.bool (!(decide (a1.fw = ⟨#[]⟩))),.bool (decide (a1.fw.size <= 12)),.bool (decide (s0 = ⟨#[]⟩)),.bool (decide (0 <= a1.fv)),.bool (decide (a1.fv <= ((g0:Nat):Int))),.bool q0,.bool p0,.bool j0]) rfl d0 el142 rfl (e8 rfl rfl rfl rfl rfl rfl rfl rfl) (by kernel_rfl) rfl) fun V0 J0 v0 Q0=>?_
 refine bk h fun H0 G0 h=>BT 38 549755813887 549755813888 (.bool H0) b0 rfl c0 body116 rfl (e1 rfl) (fun w9 hw9=>bm_c n _ w9 (v0.hL0 hL hw9) (Ar (St.lend (α:=Bool) (L:=L) v0 .hd (Ax (cs:=[.bool (!(decide (a1.fw = ⟨#[]⟩))),.bool (decide (a1.fw.size <= 12)),.bool (decide (s0 = ⟨#[]⟩)),.bool (decide (0 <= a1.fv)),.bool (decide (a1.fv <= ((g0:Nat):Int))),.bool q0,.bool p0,.bool j0]) (xs:=(([(!(decide (a1.fw = ⟨#[]⟩))),(decide (a1.fw.size <= 12)),(decide (s0 = ⟨#[]⟩)),(decide (0 <= a1.fv)),(decide (a1.fv <= ((g0:Nat):Int))),q0,p0,j0]:List Bool):List Bool)) v0 L (Am (cs:=[.bool (!(decide (a1.fw = ⟨#[]⟩)))]) (ds:=[.bool (decide (a1.fw.size <= 12)),.bool (decide (s0 = ⟨#[]⟩)),.bool (decide (0 <= a1.fv)),.bool (decide (a1.fv <= ((g0:Nat):Int))),.bool q0,.bool p0,.bool j0]) rfl (Am (cs:=[.bool (decide (a1.fw.size <= 12))]) (ds:=[.bool (decide (s0 = ⟨#[]⟩)),.bool (decide (0 <= a1.fv)),.bool (decide (a1.fv <= ((g0:Nat):Int))),.bool q0,.bool p0,.bool j0]) rfl (Am (cs:=[.bool (decide (s0 = ⟨#[]⟩))]) (ds:=[.bool (decide (0 <= a1.fv)),.bool (decide (a1.fv <= ((g0:Nat):Int))),.bool q0,.bool p0,.bool j0]) rfl (Am (cs:=[.bool (decide (0 <= a1.fv))]) (ds:=[.bool (decide (a1.fv <= ((g0:Nat):Int))),.bool q0,.bool p0,.bool j0]) rfl (Am (cs:=[.bool (decide (a1.fv <= ((g0:Nat):Int)))]) (ds:=[.bool q0,.bool p0,.bool j0]) rfl (Am (cs:=[.bool q0]) (ds:=[.bool p0,.bool j0]) rfl (Am (cs:=[.bool p0]) (ds:=[.bool j0]) rfl (Am (cs:=[.bool j0]) (ds:=[]) rfl (AD _ _)))))))))) hL) hw9) G0) rfl<|Ag 39 1099511627775 b0 rfl c0 (fun _=>AU rfl) rfl<|AM (dk b0)<|Al rfl<|AT hb0 Tryz.func117 rfl rfl ?_
 cases h
 exact v0.gv
 intro I0 z0 h
 try dsimp only at h
 refine MX.ifb rfl h (fun A0 h=>?_) (fun A0 h=>?_)
 refine Av<|Af rfl<|Af rfl<|Aa<|z0 (0,0) u0 (Bv _ _) h
 refine Aq<|z0 (1000000000,63) u0 (Bv _ _) h
def tb80_9:List (Nat × Nat × Nat):=[(0,35184372088832,2),(0,70368744177664,128),(3,140737488355328,105553116266496),(0,281474976710656,16),(0,562949953421312,128),(16,1125899906842624,562949953421312),(40,2251799813685248,1407374883553280),(64,4503599627370496,2251799813685248),(0,9007199254740992,128),(256,18014398509481984,9007199254740992),(516,36028797018963968,18014398509481984),(1024,72057594037927936,36028797018964000),(3072,144115188075855872,108086391056891904),(5120,288230376151711744,180143985094819840),(0,576460752303423488,64),(16384,1152921504606846976,576460752303423488),(33792,2305843009213693952,1152921504606846976),(65536,4611686018427387904,2305843009213694080),(196608,9223372036854775808,6917529027641081856),(327680,18446744073709551616,11529215046068469760),(589824,36893488147419103232,20752587082923245568),(1056900,73786976294838206464,37186362860686540800),(2162688,147573952589676412928,73786976294838206464),(4194304,295147905179352825856,147573952589676412928)]
theorem op_Tb {w:World} {L:List Nat} {cs:List Value} {x:Tb} (h:Rep.R w L cs x):∃ v2 v3 v4:Value,cs = [.string x.fw,vI x.fv,v2,v3,v4,.bool x.fu]/\Rep.R w L [v2] x.fe/\Rep.R w L [v3] x.fC/\Rep.R w L [v4] x.fB:=by
  obtain ⟨c0,r0,rfl,h0,h⟩:=h
  have e0:c0 = [.string x.fw]:=h0; subst e0
  obtain ⟨c1,r1,rfl,h1,h⟩:=h
  have e1:c1 = [vI x.fv]:=h1; subst e1
  obtain ⟨c2,r2,rfl,h2,h⟩:=h
  obtain ⟨v2,rfl,kv2⟩:=lst_one (xs:=x.fe) h2
  obtain ⟨c3,r3,rfl,h3,h⟩:=h
  obtain ⟨v3,rfl,kv3⟩:=lst_one (xs:=x.fC) h3
  obtain ⟨c4,r4,rfl,h4,h⟩:=h
  obtain ⟨v4,rfl,kv4⟩:=lst_one (xs:=x.fB) h4
  have e5:r4 = [.bool x.fu]:=h; subst e5
  exact ⟨v2,v3,v4,rfl,kv2,kv3,kv4⟩
theorem mk_Tb {w:World} {L:List Nat} (a0:ByteArray) (a1:Int) (a2:List Int) {u2:Value} (h2:Rep.R w L [u2] a2) (a3:List Int) {u3:Value} (h3:Rep.R w L [u3] a3) (a4:List Int) {u4:Value} (h4:Rep.R w L [u4] a4) (a5:Bool):Rep.R w L [.string a0,vI a1,u2,u3,u4,.bool a5] (⟨a0,a1,a2,a3,a4,a5⟩:Tb):=⟨[.string a0],[vI a1,u2,u3,u4,.bool a5],rfl,rfl,⟨[vI a1],[u2,u3,u4,.bool a5],rfl,rfl,⟨[u2],[u3,u4,.bool a5],rfl,h2,⟨[u3],[u4,.bool a5],rfl,h3,⟨[u4],[.bool a5],rfl,h4,rfl⟩⟩⟩⟩⟩
theorem body117:bodyB Tryz.prog 117 = true:=by kernel_rfl
def bF_l1 (n:Nat) (a0:Tc) (g0:Bool × Nat × (List (ByteArray × Bool)) -> Option (Int ⊕ Unit)):Bool × Nat × (List (ByteArray × Bool)) -> Option (Int ⊕ Unit)
  | (k0,d0,c0)=>(if d0 < a0.fo.length then (a0.fo[d0]?).bind fun b0=>(cT_p n a0 b0).bind fun j0=>(if b0.fu = true then (if 0 < d0 then (bm_p n ([j0,(!(mgetD c0 b0.fw false)),true,true]:List Bool)).bind fun p0=>(if p0 = true then g0 (b0.fu,d0 + 1,mset c0 b0.fw true) else some (.inl (161:Int))) else (bm_p n ([j0,(!(mgetD c0 b0.fw false)),true,(!b0.fu)]:List Bool)).bind fun q0=>(if q0 = true then g0 (b0.fu,d0 + 1,mset c0 b0.fw true) else some (.inl (161:Int)))) else (if 0 < d0 then (bm_p n ([j0,(!(mgetD c0 b0.fw false)),(!k0),true]:List Bool)).bind fun s0=>(if s0 = true then g0 (b0.fu,d0 + 1,mset c0 b0.fw true) else some (.inl (161:Int))) else (bm_p n ([j0,(!(mgetD c0 b0.fw false)),(!k0),(!b0.fu)]:List Bool)).bind fun t0=>(if t0 = true then g0 (b0.fu,d0 + 1,mset c0 b0.fw true) else some (.inl (161:Int))))) else some (.inr ()))
def bF_p (n:Nat) (a0:Tc):Option Int:=
  (bm_p n ([(decide (0 <= a0.fe)),(decide (a0.fe <= 6)),(decide (0 <= a0.fh)),(decide (a0.fh <= 12)),(decide (0 <= a0.fj)),(decide (a0.fj <= 3)),(decide (0 < a0.fo.length)),(decide (a0.fo.length <= 64))]:List Bool)).bind fun b0=>(if b0 = true then thn (loopF (bF_l1 n a0) n (false,0,([]:List (ByteArray × Bool)))) (fun _=>some (0:Int)) else some (161:Int))
theorem bF_c (n:Nat) (L:List Nat) (w:World) (hL:∀ b ∈ L,b < w.heap.size) (a0:Tc) {v0_3:Value} (h0_3:Rep.R w L [v0_3] a0.fo)  {r:Int} (h:bF_p n a0 = some r) :
    Calls Tryz.prog 80 #[.agg #[vI a0.fe,vI a0.fh,vI a0.fj,v0_3]] w (Gives w fun _ u=>u = vI r):=by
 unfold bF_p at h
 refine AF Tryz.func80 rfl rfl rfl fun _ cs0 hb0=>Ac<|RG.bx (AB w) rfl rfl fun P2 H0 u0 G2=>Af rfl<|Aa<|Ac<|AV 3 rfl<|AP rfl ((u0.memA .hd) 3 _ rfl) ?_
 have Q0:=AO h0_3 u0
 have K2:a0.fo.length <= 281474976710656:=AY Q0
 refine Ab (Bc (xs:=a0.fo) Tryz.underlying42 rfl Q0)<|Af rfl<|Aa<|Aj<|Ac<|AV 0 rfl<|AP rfl ((u0.memA .hd) 0 _ rfl)<|Ab (FV.geq (i:=a0.fe) (j:=0) rfl rfl)<|AV 0 rfl<|AP rfl ((u0.memA .hd) 0 _ rfl)<|Ab (FV.leq (i:=a0.fe) (j:=6) rfl rfl)<|AV 1 rfl<|AP rfl ((u0.memA .hd) 1 _ rfl)<|Ab (FV.geq (i:=a0.fh) (j:=0) rfl rfl)<|AV 1 rfl<|AP rfl ((u0.memA .hd) 1 _ rfl)<|Ab (FV.leq (i:=a0.fh) (j:=12) rfl rfl)<|AV 2 rfl<|AP rfl ((u0.memA .hd) 2 _ rfl)<|Ab (FV.geq (i:=a0.fj) (j:=0) rfl rfl)<|AV 2 rfl<|AP rfl ((u0.memA .hd) 2 _ rfl)<|Ab (FV.leq (i:=a0.fj) (j:=3) rfl rfl)<|Ae rfl<|Ab (FV.gtrN (i:=a0.fo.length) (j:=0) rfl rfl)<|Ae rfl<|Ab (FV.leqN (i:=a0.fo.length) (j:=64) rfl rfl)<|Ak .plain rfl (AE (α:=Bool) (xs:=([(decide (0 <= a0.fe)),(decide (a0.fe <= 6)),(decide (0 <= a0.fh)),(decide (a0.fh <= 12)),(decide (0 <= a0.fj)),(decide (a0.fj <= 3)),(decide (0 < a0.fo.length)),(decide (a0.fo.length <= 64))]:List Bool)) (vs:=[.bool (decide (0 <= a0.fe)),.bool (decide (a0.fe <= 6)),.bool (decide (0 <= a0.fh)),.bool (decide (a0.fh <= 12)),.bool (decide (0 <= a0.fj)),.bool (decide (a0.fj <= 3)),.bool (decide (0 < a0.fo.length)),.bool (decide (a0.fo.length <= 64))]) (ds' :=[.bool (decide (0 <= a0.fe)),.bool (decide (a0.fe <= 6)),.bool (decide (0 <= a0.fh)),.bool (decide (a0.fh <= 12)),.bool (decide (0 <= a0.fj)),.bool (decide (a0.fj <= 3)),.bool (decide (0 < a0.fo.length)),.bool (decide (a0.fo.length <= 64))]) rfl u0 el142 rfl (e8 rfl rfl rfl rfl rfl rfl rfl rfl) (by kernel_rfl) rfl) fun Q2 y2 B0 H2=>bk h fun k2 V1 h=>Bi (.bool k2) body116 rfl (e1 rfl) (fun w9 hw9=>bm_c n _ w9 (B0.hL0 hL hw9) (Ar (St.lend (α:=Bool) (L:=L) B0 .hd (Ax (cs:=[.bool (decide (0 <= a0.fe)),.bool (decide (a0.fe <= 6)),.bool (decide (0 <= a0.fh)),.bool (decide (a0.fh <= 12)),.bool (decide (0 <= a0.fj)),.bool (decide (a0.fj <= 3)),.bool (decide (0 < a0.fo.length)),.bool (decide (a0.fo.length <= 64))]) (xs:=(([(decide (0 <= a0.fe)),(decide (a0.fe <= 6)),(decide (0 <= a0.fh)),(decide (a0.fh <= 12)),(decide (0 <= a0.fj)),(decide (a0.fj <= 3)),(decide (0 < a0.fo.length)),(decide (a0.fo.length <= 64))]:List Bool):List Bool)) B0 L (Am (cs:=[.bool (decide (0 <= a0.fe))]) (ds:=[.bool (decide (a0.fe <= 6)),.bool (decide (0 <= a0.fh)),.bool (decide (a0.fh <= 12)),.bool (decide (0 <= a0.fj)),.bool (decide (a0.fj <= 3)),.bool (decide (0 < a0.fo.length)),.bool (decide (a0.fo.length <= 64))]) rfl (Am (cs:=[.bool (decide (a0.fe <= 6))]) (ds:=[.bool (decide (0 <= a0.fh)),.bool (decide (a0.fh <= 12)),.bool (decide (0 <= a0.fj)),.bool (decide (a0.fj <= 3)),.bool (decide (0 < a0.fo.length)),.bool (decide (a0.fo.length <= 64))]) rfl (Am (cs:=[.bool (decide (0 <= a0.fh))]) (ds:=[.bool (decide (a0.fh <= 12)),.bool (decide (0 <= a0.fj)),.bool (decide (a0.fj <= 3)),.bool (decide (0 < a0.fo.length)),.bool (decide (a0.fo.length <= 64))]) rfl (Am (cs:=[.bool (decide (a0.fh <= 12))]) (ds:=[.bool (decide (0 <= a0.fj)),.bool (decide (a0.fj <= 3)),.bool (decide (0 < a0.fo.length)),.bool (decide (a0.fo.length <= 64))]) rfl (Am (cs:=[.bool (decide (0 <= a0.fj))]) (ds:=[.bool (decide (a0.fj <= 3)),.bool (decide (0 < a0.fo.length)),.bool (decide (a0.fo.length <= 64))]) rfl (Am (cs:=[.bool (decide (a0.fj <= 3))]) (ds:=[.bool (decide (0 < a0.fo.length)),.bool (decide (a0.fo.length <= 64))]) rfl (Am (cs:=[.bool (decide (0 < a0.fo.length))]) (ds:=[.bool (decide (a0.fo.length <= 64))]) rfl (Am (cs:=[.bool (decide (a0.fo.length <= 64))]) (ds:=[]) rfl (AD _ _)))))))))) hL) hw9) V1) rfl<|Ab (Bo rfl)<|Aa<|MX.ifnb rfl h (fun X0 h=>?_) (fun X0 h=>?_)
 refine Aq<|Ac<|Ak .plain rfl (Does.makeMap (κ:=ByteArray) (ν:=Bool) B0) fun X2 I0 G0 J2=>Af rfl<|Aa<|Ac<|Af rfl<|Aa<|Aj<|Ac<|AV 3 rfl<|AP rfl ((G0.memA .t2) 3 _ rfl)<|Ab (Bc (xs:=a0.fo) Tryz.underlying42 rfl (AO h0_3 G0))<|Ae rfl<|Aa<|Ay ?_
 obtain ⟨p1,I2⟩:=AI G0 (.a0 .d1)
 refine tn h fun M2 Q1 C0=>MX.lo (α:=Bool × Nat × (List (ByteArray × Bool))) (fun ⟨p0,q0,g0⟩=>[(1,vP H0),(4,.map (some I0)),(5,.bool p0),(38,v0_3),(39,vI ((a0.fo.length:Nat):Int)),(40,vI ((q0:Nat):Int))]) (fun ⟨p0,q0,g0⟩=>[.obj I0 (mapO (g0:List (ByteArray × Bool))),.cells H0 [vI a0.fe,vI a0.fh,vI a0.fj,v0_3] 44]) (fun ⟨p0,q0,g0⟩=>(p0,q0,g0)) (false,0,([]:List (ByteArray × Bool))) Q1 p1 ?_
 rintro x2 ⟨p0,q0,g0⟩ j3 D0 F0 E0 h
 unfold bF_l1 at h
 try dsimp only at h
 refine Ac<|Ab (Bu (i:=q0) (j:=a0.fo.length) rfl rfl)<|Aa<|Aj<|AS rfl h (fun W0 h=>?_) (fun W0 h=>?_)
 refine Aq<|Aj<|Ay<|Ac<|Ae rfl<|bk h fun b0 U1 h=>?_
 obtain ⟨v2,E2,K1,M1,F2,R1,P1⟩:=Bl (AO h0_3 F0) U1
 obtain ⟨c2,g2,j2,rfl,R0,U0,V0⟩:=op_Tb R1
 refine Ab (Bm 6 q0 rfl K1 rfl rfl M1)<|Ab (AK rfl P1)<|RG.nl [.string ⟨#[]⟩,vI 0,vN,vN,vN,.bool false] F0 fun R2 z2 q1 t0=>Af rfl<|AQ [.string b0.fw,vI b0.fv,c2,g2,j2,.bool b0.fu] q1 .hd (o6 rfl rfl (AR (Ao R0 t0)) (AR (Ao U0 t0)) (AR (Ao V0 t0)) rfl) fun U2 s0 v0=>Aa<|Aj<|Aj<|dt 24 tb80_9 fun c0 d0=>AG 0 1 16727044 c0 rfl d0 (AK rfl (s0.memA .t2)) rfl<|AG 1 3 16727044 c0 rfl d0 (AK rfl (s0.memA .hd)) rfl<|bk h fun j0 W1 h=>BT 2 7 16727040 (.bool j0) c0 rfl d0 body117 rfl (e2 rfl rfl) (fun w9 hw9=>cT_c n _ w9 (s0.hL0 hL hw9) a0 (s0.k0 h0_3 hw9) b0 (s0.kd (Ao R0 (Tt t0 v0)) hw9) (s0.kd (Ao U0 (Tt t0 v0)) hw9) (s0.kd (Ao V0 (Tt t0 v0)) hw9) W1) rfl<|Ag 3 15 c0 rfl d0 (fun _=>Ai rfl) rfl<|Ag 4 31 c0 rfl d0 (fun _=>Bd 0 rfl) rfl<|AG 5 63 14680256 c0 rfl d0 (AL rfl ((s0.memA .hd) 0 _ rfl)) rfl<|AG 6 127 14680192 c0 rfl d0 (FV.lookup (kv:=b0.fw) (z:=false) s0 .t1 Tryz.underlying160 Tryz.underlying9 rfl (by kernel_rfl) rfl rfl) rfl<|Ag 7 255 c0 rfl d0 (fun _=>Bo rfl) rfl<|Ag 8 511 c0 rfl d0 (fun _=>Bd 5 rfl) rfl<|AG 9 1023 16727040 c0 rfl d0 (AL rfl ((s0.memA .hd) 5 _ rfl)) rfl<|Ag 10 2047 c0 rfl d0 (fun _=>Ai rfl) rfl<|RD.ifb (s:=55) rfl h (fun Y0 h=>?_) (fun Y0 h=>?_)
 refine BD 8191 11 [(11,56),(12,57)] (F:=[(55,true)]) (U:=[]) c0 d0 (.cons rfl .nil) .nil ?_
 dsimp only [offS,List.map]
 refine Ag 13 16383 c0 rfl d0 (fun _=>BC rfl rfl) rfl<|Ag 14 32767 c0 rfl d0 (fun _=>Ai rfl) rfl<|Ag 15 65535 c0 rfl d0 (fun _=>FV.gtrN (i:=q0) (j:=0) rfl rfl) rfl<|Ag 16 131071 c0 rfl d0 (fun _=>Ai rfl) rfl<|RD.ifd (s:=61) rfl h (fun Z0 h=>?_) (fun Z0 h=>?_)
 refine BD 1048575 4 [(17,62),(18,63),(19,64)] (F:=[(61,true)]) (U:=[]) c0 d0 (.cons rfl .nil) .nil ?_
 dsimp only [offS,List.map]
 refine Ag 20 2097151 c0 rfl d0 (fun _=>BC rfl rfl) rfl<|BS 21 4194303 c0 rfl .plain rfl (AE (α:=Bool) (xs:=([j0,(!(mgetD g0 b0.fw false)),true,true]:List Bool)) (vs:=[.bool j0,.bool (!(mgetD g0 b0.fw false)),.bool true,.bool true]) (ds' :=[.bool j0,.bool (!(mgetD g0 b0.fw false)),.bool true,.bool true]) rfl s0 el142 rfl (e4 rfl rfl rfl rfl) (by kernel_rfl) rfl) fun V2 A2 x0 y1=>bk h fun p2 X1 h=>BT 22 8388607 8388608 (.bool p2) c0 rfl d0 body116 rfl (e1 rfl) (fun w9 hw9=>bm_c n _ w9 (x0.hL0 hL hw9) (Ar (St.lend (α:=Bool) (L:=L) x0 .hd (Ax (cs:=[.bool j0,.bool (!(mgetD g0 b0.fw false)),.bool true,.bool true]) (xs:=(([j0,(!(mgetD g0 b0.fw false)),true,true]:List Bool):List Bool)) x0 L (Am (cs:=[.bool j0]) (ds:=[.bool (!(mgetD g0 b0.fw false)),.bool true,.bool true]) rfl (Am (cs:=[.bool (!(mgetD g0 b0.fw false))]) (ds:=[.bool true,.bool true]) rfl (Am (cs:=[.bool true]) (ds:=[.bool true]) rfl (Am (cs:=[.bool true]) (ds:=[]) rfl (AD _ _)))))) hL) hw9) X1) rfl<|Ag 23 16777215 c0 rfl d0 (fun _=>Bo rfl) rfl<|AM (dk c0)<|MX.ifnb rfl h (fun b1 h=>?_) (fun b1 h=>?_)
 refine Aq<|Ac<|Ae rfl<|AV 0 rfl<|AP rfl ((x0.memA .t1) 0 _ rfl)<|RG.now .plain (Acts.mapUpdate (kv:=b0.fw) (vv:=true) x0 .t2 Tryz.underlying160 Tryz.underlying9 rfl rfl rfl rfl) fun W2 J0 z1=>Aa<|Av<|AV 5 rfl<|AP rfl ((J0.memA .t1) 5 _ rfl)<|Af rfl<|Aa<|AA<|Av<|Ab (Bw (i:=q0) (j:=1) rfl rfl (by omega))<|Ae rfl<|Aa ?_
 obtain ⟨s1,A1⟩:=AI J0 .d2
 exact D0 (b0.fu,q0 + 1,mset g0 b0.fw true) s1 (Tt E0 (Tt t0 (Tt v0 (Tt y1 (Tt z1 A1))))) h
 refine Ac<|Af rfl<|Aa ?_
 have h:=thn_inl h C0
 refine Al rfl<|AT hb0 Tryz.func80 rfl rfl ?_
 cases h
 exact x0.gv
 refine BO 17 262143 c0 rfl d0 (.yes rfl rfl) (fun _=>Bd 5 rfl) rfl<|RD.val (i:=18) (m' :=524287) (W:=16252928) (tk c0) rfl d0 (.yes rfl rfl) (AL rfl ((s0.memA .hd) 5 _ rfl)) rfl<|BO 19 1048575 c0 rfl d0 (.yes rfl rfl) (fun _=>Bo rfl) rfl<|Ag 20 2097151 c0 rfl d0 (fun _=>Bh rfl rfl) rfl<|BS 21 4194303 c0 rfl .plain rfl (AE (α:=Bool) (xs:=([j0,(!(mgetD g0 b0.fw false)),true,(!b0.fu)]:List Bool)) (vs:=[.bool j0,.bool (!(mgetD g0 b0.fw false)),.bool true,.bool (!b0.fu)]) (ds' :=[.bool j0,.bool (!(mgetD g0 b0.fw false)),.bool true,.bool (!b0.fu)]) rfl s0 el142 rfl (e4 rfl rfl rfl rfl) (by kernel_rfl) rfl) fun Y2 B2 y0 B1=>bk h fun q2 Y1 h=>BT 22 8388607 8388608 (.bool q2) c0 rfl d0 body116 rfl (e1 rfl) (fun w9 hw9=>bm_c n _ w9 (y0.hL0 hL hw9) (Ar (St.lend (α:=Bool) (L:=L) y0 .hd (Ax (cs:=[.bool j0,.bool (!(mgetD g0 b0.fw false)),.bool true,.bool (!b0.fu)]) (xs:=(([j0,(!(mgetD g0 b0.fw false)),true,(!b0.fu)]:List Bool):List Bool)) y0 L (Am (cs:=[.bool j0]) (ds:=[.bool (!(mgetD g0 b0.fw false)),.bool true,.bool (!b0.fu)]) rfl (Am (cs:=[.bool (!(mgetD g0 b0.fw false))]) (ds:=[.bool true,.bool (!b0.fu)]) rfl (Am (cs:=[.bool true]) (ds:=[.bool (!b0.fu)]) rfl (Am (cs:=[.bool (!b0.fu)]) (ds:=[]) rfl (AD _ _)))))) hL) hw9) Y1) rfl<|Ag 23 16777215 c0 rfl d0 (fun _=>Bo rfl) rfl<|AM (dk c0)<|MX.ifnb rfl h (fun c1 h=>?_) (fun c1 h=>?_)
 refine Aq<|Ac<|Ae rfl<|AV 0 rfl<|AP rfl ((y0.memA .t1) 0 _ rfl)<|RG.now .plain (Acts.mapUpdate (kv:=b0.fw) (vv:=true) y0 .t2 Tryz.underlying160 Tryz.underlying9 rfl rfl rfl rfl) fun Z2 K0 C1=>Aa<|Av<|AV 5 rfl<|AP rfl ((K0.memA .t1) 5 _ rfl)<|Af rfl<|Aa<|AA<|Av<|Ab (Bw (i:=q0) (j:=1) rfl rfl (by omega))<|Ae rfl<|Aa ?_
 obtain ⟨u1,D1⟩:=AI K0 .d2
 exact D0 (b0.fu,q0 + 1,mset g0 b0.fw true) u1 (Tt E0 (Tt t0 (Tt v0 (Tt B1 (Tt C1 D1))))) h
 refine Ac<|Af rfl<|Aa ?_
 have h:=thn_inl h C0
 refine Al rfl<|AT hb0 Tryz.func80 rfl rfl ?_
 cases h
 exact y0.gv
 refine BO 11 4095 c0 rfl d0 (.yes rfl rfl) (fun _=>Ai rfl) rfl<|BO 12 8191 c0 rfl d0 (.yes rfl rfl) (fun _=>Bo rfl) rfl<|Ag 13 16383 c0 rfl d0 (fun _=>Bh rfl rfl) rfl<|Ag 14 32767 c0 rfl d0 (fun _=>Ai rfl) rfl<|Ag 15 65535 c0 rfl d0 (fun _=>FV.gtrN (i:=q0) (j:=0) rfl rfl) rfl<|Ag 16 131071 c0 rfl d0 (fun _=>Ai rfl) rfl<|RD.ifd (s:=61) rfl h (fun g1 h=>?_) (fun g1 h=>?_)
 refine BD 1048575 4 [(17,62),(18,63),(19,64)] (F:=[(61,true)]) (U:=[]) c0 d0 (.cons rfl .nil) .nil ?_
 dsimp only [offS,List.map]
 refine Ag 20 2097151 c0 rfl d0 (fun _=>BC rfl rfl) rfl<|BS 21 4194303 c0 rfl .plain rfl (AE (α:=Bool) (xs:=([j0,(!(mgetD g0 b0.fw false)),(!p0),true]:List Bool)) (vs:=[.bool j0,.bool (!(mgetD g0 b0.fw false)),.bool (!p0),.bool true]) (ds' :=[.bool j0,.bool (!(mgetD g0 b0.fw false)),.bool (!p0),.bool true]) rfl s0 el142 rfl (e4 rfl rfl rfl rfl) (by kernel_rfl) rfl) fun b3 C2 z0 E1=>bk h fun s2 Z1 h=>BT 22 8388607 8388608 (.bool s2) c0 rfl d0 body116 rfl (e1 rfl) (fun w9 hw9=>bm_c n _ w9 (z0.hL0 hL hw9) (Ar (St.lend (α:=Bool) (L:=L) z0 .hd (Ax (cs:=[.bool j0,.bool (!(mgetD g0 b0.fw false)),.bool (!p0),.bool true]) (xs:=(([j0,(!(mgetD g0 b0.fw false)),(!p0),true]:List Bool):List Bool)) z0 L (Am (cs:=[.bool j0]) (ds:=[.bool (!(mgetD g0 b0.fw false)),.bool (!p0),.bool true]) rfl (Am (cs:=[.bool (!(mgetD g0 b0.fw false))]) (ds:=[.bool (!p0),.bool true]) rfl (Am (cs:=[.bool (!p0)]) (ds:=[.bool true]) rfl (Am (cs:=[.bool true]) (ds:=[]) rfl (AD _ _)))))) hL) hw9) Z1) rfl<|Ag 23 16777215 c0 rfl d0 (fun _=>Bo rfl) rfl<|AM (dk c0)<|MX.ifnb rfl h (fun j1 h=>?_) (fun j1 h=>?_)
 refine Aq<|Ac<|Ae rfl<|AV 0 rfl<|AP rfl ((z0.memA .t1) 0 _ rfl)<|RG.now .plain (Acts.mapUpdate (kv:=b0.fw) (vv:=true) z0 .t2 Tryz.underlying160 Tryz.underlying9 rfl rfl rfl rfl) fun c3 M0 F1=>Aa<|Av<|AV 5 rfl<|AP rfl ((M0.memA .t1) 5 _ rfl)<|Af rfl<|Aa<|AA<|Av<|Ab (Bw (i:=q0) (j:=1) rfl rfl (by omega))<|Ae rfl<|Aa ?_
 obtain ⟨v1,G1⟩:=AI M0 .d2
 exact D0 (b0.fu,q0 + 1,mset g0 b0.fw true) v1 (Tt E0 (Tt t0 (Tt v0 (Tt E1 (Tt F1 G1))))) h
 refine Ac<|Af rfl<|Aa ?_
 have h:=thn_inl h C0
 refine Al rfl<|AT hb0 Tryz.func80 rfl rfl ?_
 cases h
 exact z0.gv
 refine BO 17 262143 c0 rfl d0 (.yes rfl rfl) (fun _=>Bd 5 rfl) rfl<|RD.val (i:=18) (m' :=524287) (W:=16252928) (tk c0) rfl d0 (.yes rfl rfl) (AL rfl ((s0.memA .hd) 5 _ rfl)) rfl<|BO 19 1048575 c0 rfl d0 (.yes rfl rfl) (fun _=>Bo rfl) rfl<|Ag 20 2097151 c0 rfl d0 (fun _=>Bh rfl rfl) rfl<|BS 21 4194303 c0 rfl .plain rfl (AE (α:=Bool) (xs:=([j0,(!(mgetD g0 b0.fw false)),(!p0),(!b0.fu)]:List Bool)) (vs:=[.bool j0,.bool (!(mgetD g0 b0.fw false)),.bool (!p0),.bool (!b0.fu)]) (ds' :=[.bool j0,.bool (!(mgetD g0 b0.fw false)),.bool (!p0),.bool (!b0.fu)]) rfl s0 el142 rfl (e4 rfl rfl rfl rfl) (by kernel_rfl) rfl) fun d3 D2 A0 H1=>bk h fun u2 b2 h=>BT 22 8388607 8388608 (.bool u2) c0 rfl d0 body116 rfl (e1 rfl) (fun w9 hw9=>bm_c n _ w9 (A0.hL0 hL hw9) (Ar (St.lend (α:=Bool) (L:=L) A0 .hd (Ax (cs:=[.bool j0,.bool (!(mgetD g0 b0.fw false)),.bool (!p0),.bool (!b0.fu)]) (xs:=(([j0,(!(mgetD g0 b0.fw false)),(!p0),(!b0.fu)]:List Bool):List Bool)) A0 L (Am (cs:=[.bool j0]) (ds:=[.bool (!(mgetD g0 b0.fw false)),.bool (!p0),.bool (!b0.fu)]) rfl (Am (cs:=[.bool (!(mgetD g0 b0.fw false))]) (ds:=[.bool (!p0),.bool (!b0.fu)]) rfl (Am (cs:=[.bool (!p0)]) (ds:=[.bool (!b0.fu)]) rfl (Am (cs:=[.bool (!b0.fu)]) (ds:=[]) rfl (AD _ _)))))) hL) hw9) b2) rfl<|Ag 23 16777215 c0 rfl d0 (fun _=>Bo rfl) rfl<|AM (dk c0)<|MX.ifnb rfl h (fun k1 h=>?_) (fun k1 h=>?_)
 refine Aq<|Ac<|Ae rfl<|AV 0 rfl<|AP rfl ((A0.memA .t1) 0 _ rfl)<|RG.now .plain (Acts.mapUpdate (kv:=b0.fw) (vv:=true) A0 .t2 Tryz.underlying160 Tryz.underlying9 rfl rfl rfl rfl) fun g3 P0 I1=>Aa<|Av<|AV 5 rfl<|AP rfl ((P0.memA .t1) 5 _ rfl)<|Af rfl<|Aa<|AA<|Av<|Ab (Bw (i:=q0) (j:=1) rfl rfl (by omega))<|Ae rfl<|Aa ?_
 obtain ⟨x1,J1⟩:=AI P0 .d2
 exact D0 (b0.fu,q0 + 1,mset g0 b0.fw true) x1 (Tt E0 (Tt t0 (Tt v0 (Tt H1 (Tt I1 J1))))) h
 refine Ac<|Af rfl<|Aa ?_
 have h:=thn_inl h C0
 refine Al rfl<|AT hb0 Tryz.func80 rfl rfl ?_
 cases h
 exact A0.gv
 refine Ba rfl ?_
 have h:=thn_inr h C0
 try dsimp only at h
 refine Ac<|Af rfl<|Aa<|Al rfl<|AT hb0 Tryz.func80 rfl rfl ?_
 cases h
 exact F0.gv
 refine Ac<|Af rfl<|Aa<|Al rfl<|AT hb0 Tryz.func80 rfl rfl ?_
 cases h
 exact B0.gv
structure Tk where
  fy:Tc
  fk:Int
  deriving DecidableEq
instance:Rep Tk:=Rep.via (β:=Tc × Int) fun x=>(x.fy,x.fk)
theorem body63:bodyB Tryz.prog 63 = true:=by kernel_rfl
theorem body80:bodyB Tryz.prog 80 = true:=by kernel_rfl
def am_p (n:Nat) (a0:Tc) (a1:Int):Option (Except Tf Tk):=
  (bF_p n a0).bind fun g0=>(co_p n g0).bind fun j0=>exc j0 (fun _y23=>(if a1 < 1 then (ae_p n true (2:Int)).bind fun k0=>exc k0 (fun _y32=>some (.ok (⟨a0,a1⟩:Tk))) (fun c0=>some (.error c0)) else (ae_p n (decide (8 < a1)) (2:Int)).bind fun p0=>exc p0 (fun _y47=>some (.ok (⟨a0,a1⟩:Tk))) (fun d0=>some (.error d0)))) (fun b0=>some (.error b0))
theorem am_c (n:Nat) (L:List Nat) (w:World) (hL:∀ b ∈ L,b < w.heap.size) (a0:Tc) {v0_3:Value} (h0_3:Rep.R w L [v0_3] a0.fo) {a1:Int}  {r:Except Tf Tk} (h:am_p n a0 a1 = some r) :
    Calls Tryz.prog 38 #[.agg #[vI a0.fe,vI a0.fh,vI a0.fj,v0_3],vI a1] w (PGives w (fun (y:Tk) w' u=>∃ v0_3:Value,u = .agg #[vI y.fy.fe,vI y.fy.fh,vI y.fy.fj,v0_3,vI y.fk]/\Rep.R w' L [v0_3] y.fy.fo) (fun e=>.iface 120 (.agg #[vI e.fA])) r):=by
 unfold am_p at h
 refine MX.startP Tryz.func38 rfl rfl rfl fun _ cs0 hb0 hp0=>Ac<|RG.bx (AB w) rfl rfl fun c1 I0 u0 U0=>RG.nl [vI 0,vI 0,vI 0,vN,vI 0] u0 fun d1 J0 b0 V0=>Aa<|Ac<|Ab (AK rfl (b0.memA .t1))<|bk h fun F0 E0 h=>Bi (vI F0) body80 rfl (e1 rfl) (fun w9 hw9=>bF_c n _ w9 (b0.hL0 hL hw9) a0 (b0.k0 h0_3 hw9) E0) rfl<|xk h (fun P0 g0 h=>?_) (fun s1 g0 h=>?_)
 refine BH (fst:=[]) (cap:=[]) .plain body79 rfl (e1 rfl) (fun w9 hw9=>co_c n _ w9 (b0.hL0 hL hw9)  g0) fun g1 z0=>?_
 obtain ⟨v0,W0⟩:=b0.agr z0
 cases h
 exact Bf hp0 Tryz.func38 ⟨v0.ag,rfl⟩
 refine Bi (.tuple #[]) body79 rfl (e1 rfl) (fun w9 hw9=>Bb (co_c n _ w9 (b0.hL0 hL hw9)  g0)) rfl<|Aa<|Ac<|Ae rfl<|Ab (BR (i:=a1) (j:=1) rfl rfl)<|Ae rfl<|BE (s:=10) rfl h (fun t0 h=>?_) (fun t0 h=>?_)
 refine Aw<|Aw<|Br rfl rfl<|xk h (fun Q0 j0 h=>?_) (fun u1 j0 h=>?_)
 refine BH (fst:=[]) (cap:=[]) .plain body63 rfl (e2 rfl rfl) (fun w9 hw9=>ae_c n _ w9 (b0.hL0 hL hw9)  j0) fun j1 A0=>?_
 obtain ⟨x0,X0⟩:=b0.agr A0
 cases h
 exact Bf hp0 Tryz.func38 ⟨x0.ag,rfl⟩
 refine Bi (.tuple #[]) body63 rfl (e2 rfl rfl) (fun w9 hw9=>Bb (ae_c n _ w9 (b0.hL0 hL hw9)  j0)) rfl<|Aa<|Ac<|Ab (AK rfl (b0.memA .t1))<|Ae rfl ?_
 have q0:=AO h0_3 b0
 obtain ⟨G0,K0,C0,_⟩:=BV q0
 refine Ab (AX (vs:=[.agg #[vI a0.fe,vI a0.fh,vI a0.fj,v0_3],vI a1]) (u:=.agg #[vI a0.fe,vI a0.fh,vI a0.fj,v0_3,vI a1]) (e2 rfl rfl) (fun w9=>by rw [C0]; try kernel_rfl))<|AQ [vI a0.fe,vI a0.fh,vI a0.fj,v0_3,vI a1] b0 .hd (o5 rfl rfl rfl (AR q0) rfl) fun k1 c0 Y0=>Aa<|Al rfl<|Ap hb0 Tryz.func38 rfl (.cons (.many (cs:=[vI a0.fe,vI a0.fh,vI a0.fj,v0_3,vI a1]) (by kernel_rfl) rfl (c0.memA .hd)) .nil) rfl ?_
 cases h
 exact ⟨c0.ag,fun w9 hw9=>okOf_in ⟨v0_3,rfl,c0.k0 h0_3 hw9⟩⟩
 refine AJ (Ai rfl)<|AJ (FV.gtr (i:=a1) (j:=8) rfl rfl)<|Bx rfl rfl<|xk h (fun R0 p0 h=>?_) (fun v1 p0 h=>?_)
 refine BH (fst:=[]) (cap:=[]) .plain body63 rfl (e2 rfl rfl) (fun w9 hw9=>ae_c n _ w9 (b0.hL0 hL hw9)  p0) fun p1 B0=>?_
 obtain ⟨y0,Z0⟩:=b0.agr B0
 cases h
 exact Bf hp0 Tryz.func38 ⟨y0.ag,rfl⟩
 refine Bi (.tuple #[]) body63 rfl (e2 rfl rfl) (fun w9 hw9=>Bb (ae_c n _ w9 (b0.hL0 hL hw9)  p0)) rfl<|Aa<|Ac<|Ab (AK rfl (b0.memA .t1))<|Ae rfl ?_
 have s0:=AO h0_3 b0
 obtain ⟨H0,M0,D0,_⟩:=BV s0
 refine Ab (AX (vs:=[.agg #[vI a0.fe,vI a0.fh,vI a0.fj,v0_3],vI a1]) (u:=.agg #[vI a0.fe,vI a0.fh,vI a0.fj,v0_3,vI a1]) (e2 rfl rfl) (fun w9=>by rw [D0]; try kernel_rfl))<|AQ [vI a0.fe,vI a0.fh,vI a0.fj,v0_3,vI a1] b0 .hd (o5 rfl rfl rfl (AR s0) rfl) fun q1 d0 b1=>Aa<|Al rfl<|Ap hb0 Tryz.func38 rfl (.cons (.many (cs:=[vI a0.fe,vI a0.fh,vI a0.fj,v0_3,vI a1]) (by kernel_rfl) rfl (d0.memA .hd)) .nil) rfl ?_
 cases h
 exact ⟨d0.ag,fun w9 hw9=>okOf_in ⟨v0_3,rfl,d0.k0 h0_3 hw9⟩⟩
structure Ta where
  fN:UInt64 × UInt64 × UInt64 × UInt64 × UInt64 × UInt64 × UInt64 × UInt64
  fD:UInt64 × UInt64 × UInt64 × UInt64 × UInt64 × UInt64 × UInt64 × UInt64
  deriving DecidableEq
instance:Rep Ta:=Rep.via (β:=(UInt64 × UInt64 × UInt64 × UInt64 × UInt64 × UInt64 × UInt64 × UInt64) × (UInt64 × UInt64 × UInt64 × UInt64 × UInt64 × UInt64 × UInt64 × UInt64)) fun x=>(x.fN,x.fD)
def cs_Ta (x:Ta):List Value:=[vU x.fN.1,vU x.fN.2.1,vU x.fN.2.2.1,vU x.fN.2.2.2.1,vU x.fN.2.2.2.2.1,vU x.fN.2.2.2.2.2.1,vU x.fN.2.2.2.2.2.2.1,vU x.fN.2.2.2.2.2.2.2,vU x.fD.1,vU x.fD.2.1,vU x.fD.2.2.1,vU x.fD.2.2.2.1,vU x.fD.2.2.2.2.1,vU x.fD.2.2.2.2.2.1,vU x.fD.2.2.2.2.2.2.1,vU x.fD.2.2.2.2.2.2.2]
def aa_p (_n:Nat) (a0:Ta) (a1:Int):Option (Except Tf Ta):=
  (if a1 = 0 then some (.ok a0) else some (.error (⟨a1⟩:Tf)))
theorem aa_c (n:Nat) (L:List Nat) (w:World) (_hL:∀ b ∈ L,b < w.heap.size) (a0:Ta) {a1:Int}  {r:Except Tf Ta} (h:aa_p n a0 a1 = some r) :
    Calls Tryz.prog 64 #[.agg ((cs_Ta a0)).toArray,vI a1] w (PGives w (fun (y:Ta) _ u=>u = .agg ((cs_Ta y)).toArray) (fun e=>.iface 120 (.agg #[vI e.fA])) r):=by
 unfold aa_p at h
 refine MX.startP Tryz.func64 rfl rfl rfl fun _ cs0 hb0 hp0=>Ac<|RG.bx (AB w) rfl rfl fun t0 j0 g0 p0=>RG.nl zL g0 fun u0 k0 b0 q0=>Aa<|Aj<|Ac<|Ae rfl<|Ab (FV.neq (i:=a1) (j:=0) rfl rfl)<|Aa<|MX.ifn rfl h (fun d0 h=>?_) (fun d0 h=>?_)
 refine Aq<|Ac<|Ab (AK rfl (b0.memA .t1))<|AQ (cs_Ta a0) b0 .hd (onesB rfl) fun v0 c0 s0=>Aa<|Al rfl<|Ap hb0 Tryz.func64 rfl (.cons (.many (cs:=(cs_Ta a0)) (by kernel_rfl) rfl (c0.memA .hd)) .nil) rfl ?_
 cases h
 exact ⟨c0.ag,fun w9 hw9=>okOf_in rfl⟩
 refine Av<|Ae rfl<|Ab (AX (vs:=[vI a1]) (u:=.agg #[vI a1]) (e1 rfl) (fun w9=>by kernel_rfl))<|Ab (FV.makeInterface (by kernel_rfl) rfl)<|RG.panic .plain rfl ?_
 cases h
 exact Bf hp0 Tryz.func64 ⟨b0.ag,rfl⟩
def cs_A34 (x:UInt64 × UInt64 × UInt64 × UInt64 × UInt64 × UInt64 × UInt64 × UInt64):List Value:=[vU x.1,vU x.2.1,vU x.2.2.1,vU x.2.2.2.1,vU x.2.2.2.2.1,vU x.2.2.2.2.2.1,vU x.2.2.2.2.2.2.1,vU x.2.2.2.2.2.2.2]
def tb196_5:List (Nat × Nat × Nat):=[(0,4096,128),(0,8192,128),(2,16384,8196),(4,32768,16384),(0,65536,128),(16,131072,65544),(32,262144,131072),(0,524288,64),(200,1048576,819200),(256,2048,1048576),(512,2097152,2048),(512,4194304,2048),(2047,8388608,4100),(6143,0,10485760),(16383,64,4194304)]
def bv_p (_n:Nat) (a0:UInt64 × UInt64 × UInt64 × UInt64 × UInt64 × UInt64 × UInt64 × UInt64) (a1:UInt64 × UInt64 × UInt64 × UInt64 × UInt64 × UInt64 × UInt64 × UInt64):Option ((UInt64 × UInt64 × UInt64 × UInt64 × UInt64 × UInt64 × UInt64 × UInt64) × UInt64):=
  (sub64 a0.1 a1.1 (0:UInt64)).bind fun b0=>(sub64 a0.2.1 a1.2.1 b0.2).bind fun c0=>(sub64 a0.2.2.1 a1.2.2.1 c0.2).bind fun d0=>(sub64 a0.2.2.2.1 a1.2.2.2.1 d0.2).bind fun g0=>(sub64 a0.2.2.2.2.1 a1.2.2.2.2.1 g0.2).bind fun j0=>(sub64 a0.2.2.2.2.2.1 a1.2.2.2.2.2.1 j0.2).bind fun k0=>(sub64 a0.2.2.2.2.2.2.1 a1.2.2.2.2.2.2.1 k0.2).bind fun p0=>(sub64 a0.2.2.2.2.2.2.2 a1.2.2.2.2.2.2.2 p0.2).bind fun q0=>some ((b0.1,c0.1,d0.1,g0.1,j0.1,k0.1,p0.1,q0.1),q0.2)
theorem bv_c (n:Nat) (L:List Nat) (w:World) (_hL:∀ b ∈ L,b < w.heap.size) (a0:UInt64 × UInt64 × UInt64 × UInt64 × UInt64 × UInt64 × UInt64 × UInt64) (a1:UInt64 × UInt64 × UInt64 × UInt64 × UInt64 × UInt64 × UInt64 × UInt64)  {r:(UInt64 × UInt64 × UInt64 × UInt64 × UInt64 × UInt64 × UInt64 × UInt64) × UInt64} (h:bv_p n a0 a1 = some r) :
    Calls Tryz.prog 196 #[.agg ((cs_A34 a0)).toArray,.agg ((cs_A34 a1)).toArray] w (Gives w fun _ u=>u = .tuple #[.agg ((cs_A34 r.1)).toArray,vU r.2]):=by
 unfold bv_p at h
 refine AF Tryz.func196 rfl rfl rfl fun _ cs0 hb0=>Ac<|RG.bx (AB w) rfl rfl fun J1 s1 Y0 x1=>RG.bx Y0 rfl rfl fun K1 u1 Z0 y1=>RG.nl zP Z0 fun M1 v1 J0 z1=>Af rfl<|Aa<|Ac<|Af rfl<|Aa<|Aj<|Ac<|Ae rfl<|Aa<|Ay<|MX.loop1<|Ac<|Ab (Bu (i:=0) (j:=8) rfl rfl)<|Aa<|Aj<|Bk rfl<|Aq<|Aj<|Ay<|Ac<|Ae rfl<|Af rfl<|Aa<|dt 13 tb196_5 fun c0 v0=>Ag 0 1 c0 rfl v0 (fun _=>Ai rfl) rfl<|Ag 1 3 c0 rfl v0 (fun _=>Ai rfl) rfl<|Ag 2 7 c0 rfl v0 (fun _=>Bg (m:=1) (k:=0) (len:=8) (by kernel_rfl) rfl rfl rfl (by omega)) rfl<|AG 3 15 32512 c0 rfl v0 (AL rfl ((J0.memA .t2) 0 _ rfl)) rfl<|Ag 4 31 c0 rfl v0 (fun _=>Ai rfl) rfl<|Ag 5 63 c0 rfl v0 (fun _=>Bg (m:=1) (k:=0) (len:=8) (by kernel_rfl) rfl rfl rfl (by omega)) rfl<|AG 6 127 32512 c0 rfl v0 (AL rfl ((J0.memA .t1) 0 _ rfl)) rfl<|Ag 7 255 c0 rfl v0 (fun _=>Ai rfl) rfl<|bk h fun b0 b1 h=>Ag 8 511 c0 rfl v0 (fun _=>FV.sub64 (a:=a0.1) (b:=a1.1) (c:=(0:UInt64)) Tryz.func206 rfl (by kernel_rfl) (by kernel_rfl) (by kernel_rfl) rfl rfl rfl b1) rfl<|Ag 9 1023 c0 rfl v0 (fun _=>Ai rfl) rfl<|Ag 10 2047 c0 rfl v0 (fun _=>Ah rfl rfl) rfl ?_
 refine Ag 11 4095 c0 rfl v0 (fun _=>Ah rfl rfl) rfl<|Ag 12 8191 c0 rfl v0 (fun _=>Bg (m:=1) (k:=0) (len:=8) (by kernel_rfl) rfl rfl rfl (by omega)) rfl<|BJ 13 16383 c0 rfl rfl .plain (BP (j:=0) (old:=(cs_A34 a0)) (news:=[vU b0.1]) (new' :=[vU b0.1,vU a0.2.1,vU a0.2.2.1,vU a0.2.2.2.1,vU a0.2.2.2.2.1,vU a0.2.2.2.2.2.1,vU a0.2.2.2.2.2.2.1,vU a0.2.2.2.2.2.2.2]) J0 .t2 rfl rfl rfl rfl rfl rfl (o1 rfl) rfl) fun P1 K0 A1=>Be (i:=14) (rk c0) (Bq (m' :=32767) (sk c0) rfl .plain rfl (AU rfl) ?_)
 refine AM (dk c0)<|AA<|Av<|Ab (FV.add (i:=0) (j:=1) (r:=1) rfl rfl (by decide))<|Ae rfl<|Aa<|MX.again1<|Ac<|Ab (Bu (i:=1) (j:=8) rfl rfl)<|Aa<|Aj<|Bk rfl<|Aq<|Aj<|Ay<|Ac<|Ae rfl<|Af rfl<|Aa<|dt 13 tb196_5 fun d0 x0=>Ag 0 1 d0 rfl x0 (fun _=>Ai rfl) rfl<|Ag 1 3 d0 rfl x0 (fun _=>Ai rfl) rfl<|Ag 2 7 d0 rfl x0 (fun _=>Bg (m:=1) (k:=1) (len:=8) (by kernel_rfl) rfl rfl rfl (by omega)) rfl<|AG 3 15 32512 d0 rfl x0 (AL rfl ((K0.memA .t2) 1 _ rfl)) rfl<|Ag 4 31 d0 rfl x0 (fun _=>Ai rfl) rfl<|Ag 5 63 d0 rfl x0 (fun _=>Bg (m:=1) (k:=1) (len:=8) (by kernel_rfl) rfl rfl rfl (by omega)) rfl<|AG 6 127 32512 d0 rfl x0 (AL rfl ((K0.memA .t1) 1 _ rfl)) rfl<|Ag 7 255 d0 rfl x0 (fun _=>Ai rfl) rfl<|bk h fun t0 c1 h=>Ag 8 511 d0 rfl x0 (fun _=>FV.sub64 (a:=a0.2.1) (b:=a1.2.1) (c:=b0.2) Tryz.func206 rfl (by kernel_rfl) (by kernel_rfl) (by kernel_rfl) rfl rfl rfl c1) rfl<|Ag 9 1023 d0 rfl x0 (fun _=>Ai rfl) rfl<|Ag 10 2047 d0 rfl x0 (fun _=>Ah rfl rfl) rfl<|Ag 11 4095 d0 rfl x0 (fun _=>Ah rfl rfl) rfl<|Ag 12 8191 d0 rfl x0 (fun _=>Bg (m:=1) (k:=1) (len:=8) (by kernel_rfl) rfl rfl rfl (by omega)) rfl<|BJ 13 16383 d0 rfl rfl .plain (BP (j:=1) (old:=[vU b0.1,vU a0.2.1,vU a0.2.2.1,vU a0.2.2.2.1,vU a0.2.2.2.2.1,vU a0.2.2.2.2.2.1,vU a0.2.2.2.2.2.2.1,vU a0.2.2.2.2.2.2.2]) (news:=[vU t0.1]) (new' :=[vU b0.1,vU t0.1,vU a0.2.2.1,vU a0.2.2.2.1,vU a0.2.2.2.2.1,vU a0.2.2.2.2.2.1,vU a0.2.2.2.2.2.2.1,vU a0.2.2.2.2.2.2.2]) K0 .t2 rfl rfl rfl rfl rfl rfl (o1 rfl) rfl) fun Q1 M0 B1=>Be (i:=14) (rk d0) (Bq (m' :=32767) (sk d0) rfl .plain rfl (AU rfl) ?_)
 refine AM (dk d0)<|AA<|Av<|Ab (FV.add (i:=1) (j:=1) (r:=2) rfl rfl (by decide))<|Ae rfl<|Aa<|MX.again1<|Ac<|Ab (Bu (i:=2) (j:=8) rfl rfl)<|Aa<|Aj<|Bk rfl<|Aq<|Aj<|Ay<|Ac<|Ae rfl<|Af rfl<|Aa<|dt 13 tb196_5 fun g0 y0=>Ag 0 1 g0 rfl y0 (fun _=>Ai rfl) rfl<|Ag 1 3 g0 rfl y0 (fun _=>Ai rfl) rfl<|Ag 2 7 g0 rfl y0 (fun _=>Bg (m:=1) (k:=2) (len:=8) (by kernel_rfl) rfl rfl rfl (by omega)) rfl<|AG 3 15 32512 g0 rfl y0 (AL rfl ((M0.memA .t2) 2 _ rfl)) rfl<|Ag 4 31 g0 rfl y0 (fun _=>Ai rfl) rfl<|Ag 5 63 g0 rfl y0 (fun _=>Bg (m:=1) (k:=2) (len:=8) (by kernel_rfl) rfl rfl rfl (by omega)) rfl<|AG 6 127 32512 g0 rfl y0 (AL rfl ((M0.memA .t1) 2 _ rfl)) rfl<|Ag 7 255 g0 rfl y0 (fun _=>Ai rfl) rfl<|bk h fun u0 d1 h=>Ag 8 511 g0 rfl y0 (fun _=>FV.sub64 (a:=a0.2.2.1) (b:=a1.2.2.1) (c:=t0.2) Tryz.func206 rfl (by kernel_rfl) (by kernel_rfl) (by kernel_rfl) rfl rfl rfl d1) rfl<|Ag 9 1023 g0 rfl y0 (fun _=>Ai rfl) rfl<|Ag 10 2047 g0 rfl y0 (fun _=>Ah rfl rfl) rfl<|Ag 11 4095 g0 rfl y0 (fun _=>Ah rfl rfl) rfl<|Ag 12 8191 g0 rfl y0 (fun _=>Bg (m:=1) (k:=2) (len:=8) (by kernel_rfl) rfl rfl rfl (by omega)) rfl<|BJ 13 16383 g0 rfl rfl .plain (BP (j:=2) (old:=[vU b0.1,vU t0.1,vU a0.2.2.1,vU a0.2.2.2.1,vU a0.2.2.2.2.1,vU a0.2.2.2.2.2.1,vU a0.2.2.2.2.2.2.1,vU a0.2.2.2.2.2.2.2]) (news:=[vU u0.1]) (new' :=[vU b0.1,vU t0.1,vU u0.1,vU a0.2.2.2.1,vU a0.2.2.2.2.1,vU a0.2.2.2.2.2.1,vU a0.2.2.2.2.2.2.1,vU a0.2.2.2.2.2.2.2]) M0 .t2 rfl rfl rfl rfl rfl rfl (o1 rfl) rfl) fun R1 P0 C1=>Be (i:=14) (rk g0) (Bq (m' :=32767) (sk g0) rfl .plain rfl (AU rfl) ?_)
 refine AM (dk g0)<|AA<|Av<|Ab (FV.add (i:=2) (j:=1) (r:=3) rfl rfl (by decide))<|Ae rfl<|Aa<|MX.again1<|Ac<|Ab (Bu (i:=3) (j:=8) rfl rfl)<|Aa<|Aj<|Bk rfl<|Aq<|Aj<|Ay<|Ac<|Ae rfl<|Af rfl<|Aa<|dt 13 tb196_5 fun j0 z0=>Ag 0 1 j0 rfl z0 (fun _=>Ai rfl) rfl<|Ag 1 3 j0 rfl z0 (fun _=>Ai rfl) rfl<|Ag 2 7 j0 rfl z0 (fun _=>Bg (m:=1) (k:=3) (len:=8) (by kernel_rfl) rfl rfl rfl (by omega)) rfl<|AG 3 15 32512 j0 rfl z0 (AL rfl ((P0.memA .t2) 3 _ rfl)) rfl<|Ag 4 31 j0 rfl z0 (fun _=>Ai rfl) rfl<|Ag 5 63 j0 rfl z0 (fun _=>Bg (m:=1) (k:=3) (len:=8) (by kernel_rfl) rfl rfl rfl (by omega)) rfl<|AG 6 127 32512 j0 rfl z0 (AL rfl ((P0.memA .t1) 3 _ rfl)) rfl<|Ag 7 255 j0 rfl z0 (fun _=>Ai rfl) rfl<|bk h fun E0 g1 h=>Ag 8 511 j0 rfl z0 (fun _=>FV.sub64 (a:=a0.2.2.2.1) (b:=a1.2.2.2.1) (c:=u0.2) Tryz.func206 rfl (by kernel_rfl) (by kernel_rfl) (by kernel_rfl) rfl rfl rfl g1) rfl<|Ag 9 1023 j0 rfl z0 (fun _=>Ai rfl) rfl<|Ag 10 2047 j0 rfl z0 (fun _=>Ah rfl rfl) rfl<|Ag 11 4095 j0 rfl z0 (fun _=>Ah rfl rfl) rfl<|Ag 12 8191 j0 rfl z0 (fun _=>Bg (m:=1) (k:=3) (len:=8) (by kernel_rfl) rfl rfl rfl (by omega)) rfl<|BJ 13 16383 j0 rfl rfl .plain (BP (j:=3) (old:=[vU b0.1,vU t0.1,vU u0.1,vU a0.2.2.2.1,vU a0.2.2.2.2.1,vU a0.2.2.2.2.2.1,vU a0.2.2.2.2.2.2.1,vU a0.2.2.2.2.2.2.2]) (news:=[vU E0.1]) (new' :=[vU b0.1,vU t0.1,vU u0.1,vU E0.1,vU a0.2.2.2.2.1,vU a0.2.2.2.2.2.1,vU a0.2.2.2.2.2.2.1,vU a0.2.2.2.2.2.2.2]) P0 .t2 rfl rfl rfl rfl rfl rfl (o1 rfl) rfl) fun U1 Q0 D1=>Be (i:=14) (rk j0) (Bq (m' :=32767) (sk j0) rfl .plain rfl (AU rfl) ?_)
 refine AM (dk j0)<|AA<|Av<|Ab (FV.add (i:=3) (j:=1) (r:=4) rfl rfl (by decide))<|Ae rfl<|Aa<|MX.again1<|Ac<|Ab (Bu (i:=4) (j:=8) rfl rfl)<|Aa<|Aj<|Bk rfl<|Aq<|Aj<|Ay<|Ac<|Ae rfl<|Af rfl<|Aa<|dt 13 tb196_5 fun k0 A0=>Ag 0 1 k0 rfl A0 (fun _=>Ai rfl) rfl<|Ag 1 3 k0 rfl A0 (fun _=>Ai rfl) rfl<|Ag 2 7 k0 rfl A0 (fun _=>Bg (m:=1) (k:=4) (len:=8) (by kernel_rfl) rfl rfl rfl (by omega)) rfl<|AG 3 15 32512 k0 rfl A0 (AL rfl ((Q0.memA .t2) 4 _ rfl)) rfl<|Ag 4 31 k0 rfl A0 (fun _=>Ai rfl) rfl<|Ag 5 63 k0 rfl A0 (fun _=>Bg (m:=1) (k:=4) (len:=8) (by kernel_rfl) rfl rfl rfl (by omega)) rfl<|AG 6 127 32512 k0 rfl A0 (AL rfl ((Q0.memA .t1) 4 _ rfl)) rfl<|Ag 7 255 k0 rfl A0 (fun _=>Ai rfl) rfl<|bk h fun F0 j1 h=>Ag 8 511 k0 rfl A0 (fun _=>FV.sub64 (a:=a0.2.2.2.2.1) (b:=a1.2.2.2.2.1) (c:=E0.2) Tryz.func206 rfl (by kernel_rfl) (by kernel_rfl) (by kernel_rfl) rfl rfl rfl j1) rfl<|Ag 9 1023 k0 rfl A0 (fun _=>Ai rfl) rfl<|Ag 10 2047 k0 rfl A0 (fun _=>Ah rfl rfl) rfl<|Ag 11 4095 k0 rfl A0 (fun _=>Ah rfl rfl) rfl<|Ag 12 8191 k0 rfl A0 (fun _=>Bg (m:=1) (k:=4) (len:=8) (by kernel_rfl) rfl rfl rfl (by omega)) rfl<|BJ 13 16383 k0 rfl rfl .plain (BP (j:=4) (old:=[vU b0.1,vU t0.1,vU u0.1,vU E0.1,vU a0.2.2.2.2.1,vU a0.2.2.2.2.2.1,vU a0.2.2.2.2.2.2.1,vU a0.2.2.2.2.2.2.2]) (news:=[vU F0.1]) (new' :=[vU b0.1,vU t0.1,vU u0.1,vU E0.1,vU F0.1,vU a0.2.2.2.2.2.1,vU a0.2.2.2.2.2.2.1,vU a0.2.2.2.2.2.2.2]) Q0 .t2 rfl rfl rfl rfl rfl rfl (o1 rfl) rfl) fun V1 R0 E1=>Be (i:=14) (rk k0) (Bq (m' :=32767) (sk k0) rfl .plain rfl (AU rfl) ?_)
 refine AM (dk k0)<|AA<|Av<|Ab (FV.add (i:=4) (j:=1) (r:=5) rfl rfl (by decide))<|Ae rfl<|Aa<|MX.again1<|Ac<|Ab (Bu (i:=5) (j:=8) rfl rfl)<|Aa<|Aj<|Bk rfl<|Aq<|Aj<|Ay<|Ac<|Ae rfl<|Af rfl<|Aa<|dt 13 tb196_5 fun p0 B0=>Ag 0 1 p0 rfl B0 (fun _=>Ai rfl) rfl<|Ag 1 3 p0 rfl B0 (fun _=>Ai rfl) rfl<|Ag 2 7 p0 rfl B0 (fun _=>Bg (m:=1) (k:=5) (len:=8) (by kernel_rfl) rfl rfl rfl (by omega)) rfl<|AG 3 15 32512 p0 rfl B0 (AL rfl ((R0.memA .t2) 5 _ rfl)) rfl<|Ag 4 31 p0 rfl B0 (fun _=>Ai rfl) rfl<|Ag 5 63 p0 rfl B0 (fun _=>Bg (m:=1) (k:=5) (len:=8) (by kernel_rfl) rfl rfl rfl (by omega)) rfl<|AG 6 127 32512 p0 rfl B0 (AL rfl ((R0.memA .t1) 5 _ rfl)) rfl<|Ag 7 255 p0 rfl B0 (fun _=>Ai rfl) rfl<|bk h fun G0 k1 h=>Ag 8 511 p0 rfl B0 (fun _=>FV.sub64 (a:=a0.2.2.2.2.2.1) (b:=a1.2.2.2.2.2.1) (c:=F0.2) Tryz.func206 rfl (by kernel_rfl) (by kernel_rfl) (by kernel_rfl) rfl rfl rfl k1) rfl<|Ag 9 1023 p0 rfl B0 (fun _=>Ai rfl) rfl<|Ag 10 2047 p0 rfl B0 (fun _=>Ah rfl rfl) rfl<|Ag 11 4095 p0 rfl B0 (fun _=>Ah rfl rfl) rfl<|Ag 12 8191 p0 rfl B0 (fun _=>Bg (m:=1) (k:=5) (len:=8) (by kernel_rfl) rfl rfl rfl (by omega)) rfl<|BJ 13 16383 p0 rfl rfl .plain (BP (j:=5) (old:=[vU b0.1,vU t0.1,vU u0.1,vU E0.1,vU F0.1,vU a0.2.2.2.2.2.1,vU a0.2.2.2.2.2.2.1,vU a0.2.2.2.2.2.2.2]) (news:=[vU G0.1]) (new' :=[vU b0.1,vU t0.1,vU u0.1,vU E0.1,vU F0.1,vU G0.1,vU a0.2.2.2.2.2.2.1,vU a0.2.2.2.2.2.2.2]) R0 .t2 rfl rfl rfl rfl rfl rfl (o1 rfl) rfl) fun W1 U0 F1=>Be (i:=14) (rk p0) (Bq (m' :=32767) (sk p0) rfl .plain rfl (AU rfl) ?_)
 refine AM (dk p0)<|AA<|Av<|Ab (FV.add (i:=5) (j:=1) (r:=6) rfl rfl (by decide))<|Ae rfl<|Aa<|MX.again1<|Ac<|Ab (Bu (i:=6) (j:=8) rfl rfl)<|Aa<|Aj<|Bk rfl<|Aq<|Aj<|Ay<|Ac<|Ae rfl<|Af rfl<|Aa<|dt 13 tb196_5 fun q0 C0=>Ag 0 1 q0 rfl C0 (fun _=>Ai rfl) rfl<|Ag 1 3 q0 rfl C0 (fun _=>Ai rfl) rfl<|Ag 2 7 q0 rfl C0 (fun _=>Bg (m:=1) (k:=6) (len:=8) (by kernel_rfl) rfl rfl rfl (by omega)) rfl<|AG 3 15 32512 q0 rfl C0 (AL rfl ((U0.memA .t2) 6 _ rfl)) rfl<|Ag 4 31 q0 rfl C0 (fun _=>Ai rfl) rfl<|Ag 5 63 q0 rfl C0 (fun _=>Bg (m:=1) (k:=6) (len:=8) (by kernel_rfl) rfl rfl rfl (by omega)) rfl<|AG 6 127 32512 q0 rfl C0 (AL rfl ((U0.memA .t1) 6 _ rfl)) rfl<|Ag 7 255 q0 rfl C0 (fun _=>Ai rfl) rfl<|bk h fun H0 p1 h=>Ag 8 511 q0 rfl C0 (fun _=>FV.sub64 (a:=a0.2.2.2.2.2.2.1) (b:=a1.2.2.2.2.2.2.1) (c:=G0.2) Tryz.func206 rfl (by kernel_rfl) (by kernel_rfl) (by kernel_rfl) rfl rfl rfl p1) rfl<|Ag 9 1023 q0 rfl C0 (fun _=>Ai rfl) rfl<|Ag 10 2047 q0 rfl C0 (fun _=>Ah rfl rfl) rfl<|Ag 11 4095 q0 rfl C0 (fun _=>Ah rfl rfl) rfl<|Ag 12 8191 q0 rfl C0 (fun _=>Bg (m:=1) (k:=6) (len:=8) (by kernel_rfl) rfl rfl rfl (by omega)) rfl<|BJ 13 16383 q0 rfl rfl .plain (BP (j:=6) (old:=[vU b0.1,vU t0.1,vU u0.1,vU E0.1,vU F0.1,vU G0.1,vU a0.2.2.2.2.2.2.1,vU a0.2.2.2.2.2.2.2]) (news:=[vU H0.1]) (new' :=[vU b0.1,vU t0.1,vU u0.1,vU E0.1,vU F0.1,vU G0.1,vU H0.1,vU a0.2.2.2.2.2.2.2]) U0 .t2 rfl rfl rfl rfl rfl rfl (o1 rfl) rfl) fun X1 V0 G1=>Be (i:=14) (rk q0) (Bq (m' :=32767) (sk q0) rfl .plain rfl (AU rfl) ?_)
 refine AM (dk q0)<|AA<|Av<|Ab (FV.add (i:=6) (j:=1) (r:=7) rfl rfl (by decide))<|Ae rfl<|Aa<|MX.again1<|Ac<|Ab (Bu (i:=7) (j:=8) rfl rfl)<|Aa<|Aj<|Bk rfl<|Aq<|Aj<|Ay<|Ac<|Ae rfl<|Af rfl<|Aa<|dt 13 tb196_5 fun s0 D0=>Ag 0 1 s0 rfl D0 (fun _=>Ai rfl) rfl<|Ag 1 3 s0 rfl D0 (fun _=>Ai rfl) rfl<|Ag 2 7 s0 rfl D0 (fun _=>Bg (m:=1) (k:=7) (len:=8) (by kernel_rfl) rfl rfl rfl (by omega)) rfl<|AG 3 15 32512 s0 rfl D0 (AL rfl ((V0.memA .t2) 7 _ rfl)) rfl<|Ag 4 31 s0 rfl D0 (fun _=>Ai rfl) rfl<|Ag 5 63 s0 rfl D0 (fun _=>Bg (m:=1) (k:=7) (len:=8) (by kernel_rfl) rfl rfl rfl (by omega)) rfl<|AG 6 127 32512 s0 rfl D0 (AL rfl ((V0.memA .t1) 7 _ rfl)) rfl<|Ag 7 255 s0 rfl D0 (fun _=>Ai rfl) rfl<|bk h fun I0 q1 h=>Ag 8 511 s0 rfl D0 (fun _=>FV.sub64 (a:=a0.2.2.2.2.2.2.2) (b:=a1.2.2.2.2.2.2.2) (c:=H0.2) Tryz.func206 rfl (by kernel_rfl) (by kernel_rfl) (by kernel_rfl) rfl rfl rfl q1) rfl<|Ag 9 1023 s0 rfl D0 (fun _=>Ai rfl) rfl<|Ag 10 2047 s0 rfl D0 (fun _=>Ah rfl rfl) rfl<|Ag 11 4095 s0 rfl D0 (fun _=>Ah rfl rfl) rfl<|Ag 12 8191 s0 rfl D0 (fun _=>Bg (m:=1) (k:=7) (len:=8) (by kernel_rfl) rfl rfl rfl (by omega)) rfl<|BJ 13 16383 s0 rfl rfl .plain (BP (j:=7) (old:=[vU b0.1,vU t0.1,vU u0.1,vU E0.1,vU F0.1,vU G0.1,vU H0.1,vU a0.2.2.2.2.2.2.2]) (news:=[vU I0.1]) (new' :=[vU b0.1,vU t0.1,vU u0.1,vU E0.1,vU F0.1,vU G0.1,vU H0.1,vU I0.1]) V0 .t2 rfl rfl rfl rfl rfl rfl (o1 rfl) rfl) fun Y1 W0 H1=>Be (i:=14) (rk s0) (Bq (m' :=32767) (sk s0) rfl .plain rfl (AU rfl) ?_)
 refine AM (dk s0)<|AA<|Av<|Ab (FV.add (i:=7) (j:=1) (r:=8) rfl rfl (by decide))<|Ae rfl<|Aa<|MX.again1<|Ac<|Ab (Bu (i:=8) (j:=8) rfl rfl)<|Aa<|Aj<|BF rfl<|Ba rfl<|Ac<|Ab (AK rfl (W0.memA .t2))<|Ae rfl<|AQ [vU b0.1,vU t0.1,vU u0.1,vU E0.1,vU F0.1,vU G0.1,vU H0.1,vU I0.1] W0 .hd (onesB rfl) fun Z1 X0 I1=>Af rfl<|Aa<|Al rfl<|Ap hb0 Tryz.func196 rfl (.cons (.many (cs:=[vU b0.1,vU t0.1,vU u0.1,vU E0.1,vU F0.1,vU G0.1,vU H0.1,vU I0.1]) (by kernel_rfl) rfl (X0.memA .hd)) (.cons (.tmp rfl) .nil)) rfl ?_
 cases h
 exact X0.gv
def tb202_4:List (Nat × Nat × Nat):=[(0,1024,32),(1,2048,1028),(2,4096,2048),(0,8192,32),(8,16384,8200),(16,32768,16384),(36,65536,36864)]
def tb202_5:List (Nat × Nat × Nat):=[(0,131072,32),(1,262144,131076),(2,524288,262144),(0,1048576,32),(8,2097152,1048584),(16,4194304,2097152),(36,8388608,4718592)]
def aY_l1 (_n:Nat) (a0:UInt64 × UInt64 × UInt64 × UInt64 × UInt64 × UInt64 × UInt64 × UInt64) (a1:UInt64 × UInt64 × UInt64 × UInt64 × UInt64 × UInt64 × UInt64 × UInt64) (g0:Int -> Option (Int ⊕ Unit)):Int -> Option (Int ⊕ Unit)
  | b0=>(if 0 <= b0 then (idx ([a0.1,a0.2.1,a0.2.2.1,a0.2.2.2.1,a0.2.2.2.2.1,a0.2.2.2.2.2.1,a0.2.2.2.2.2.2.1,a0.2.2.2.2.2.2.2]:List UInt64) b0).bind fun c0=>(idx ([a1.1,a1.2.1,a1.2.2.1,a1.2.2.2.1,a1.2.2.2.2.1,a1.2.2.2.2.2.1,a1.2.2.2.2.2.2.1,a1.2.2.2.2.2.2.2]:List UInt64) b0).bind fun d0=>(if c0 = d0 then (chk (b0 - 1)).bind fun j0=>g0 j0 else (if c0 < d0 then some (.inl (-1:Int)) else some (.inl (1:Int)))) else some (.inr ()))
def aY_p (n:Nat) (a0:UInt64 × UInt64 × UInt64 × UInt64 × UInt64 × UInt64 × UInt64 × UInt64) (a1:UInt64 × UInt64 × UInt64 × UInt64 × UInt64 × UInt64 × UInt64 × UInt64):Option Int:=
  thn (loopF (aY_l1 n a0 a1) n 7) (fun _=>some (0:Int))
theorem aY_c (n:Nat) (L:List Nat) (w:World) (_hL:∀ b ∈ L,b < w.heap.size) (a0:UInt64 × UInt64 × UInt64 × UInt64 × UInt64 × UInt64 × UInt64 × UInt64) (a1:UInt64 × UInt64 × UInt64 × UInt64 × UInt64 × UInt64 × UInt64 × UInt64)  {r:Int} (h:aY_p n a0 a1 = some r) :
    Calls Tryz.prog 202 #[.agg ((cs_A34 a0)).toArray,.agg ((cs_A34 a1)).toArray] w (Gives w fun _ u=>u = vI r):=by
 unfold aY_p at h
 refine AF Tryz.func202 rfl rfl rfl fun _ cs0 hb0=>Ac<|RG.bx (AB w) rfl rfl fun V0 p0 E0 Q0=>RG.bx E0 rfl rfl fun W0 q0 F0 R0=>Af rfl<|Aa<|Aj<|Ac<|Af rfl<|Aa<|Ay<|tn h fun U0 H0 u0=>MX.lo (α:=Int) (fun b0=>[(2,vP p0),(3,vP q0),(5,vI b0)]) (fun b0=>[.cells q0 (cs_A34 a1) 207,.cells p0 (cs_A34 a0) 207]) (fun b0=>b0) 7 H0 F0 ?_
 rintro P0 b0 X0 D0 c0 G0 h
 unfold aY_l1 at h
 try dsimp only at h
 refine Aj<|Ac<|Ae rfl<|Ab (FV.geq (i:=b0) (j:=0) rfl rfl)<|Aa<|AS rfl h (fun A0 h=>?_) (fun A0 h=>?_)
 refine Aq<|Aj<|Ay<|Aj<|dt 7 tb202_4 fun d0 j0=>Ag 0 1 d0 rfl j0 (fun _=>Ai rfl) rfl<|bk h fun y0 J0 h=>?_
 obtain ⟨v0,s0⟩:=idx_in J0
 refine Ag 1 3 d0 rfl j0 (fun _=>Bg (m:=1) (k:=b0.toNat) (len:=8) (by kernel_rfl) rfl rfl v0 (arr_lt s0 rfl)) rfl<|AG 2 7 64 d0 rfl j0 (AL rfl ((mem_elem1 (p:=⟨p0,0,none⟩) (cs:=([a0.1,a0.2.1,a0.2.2.1,a0.2.2.2.1,a0.2.2.2.2.1,a0.2.2.2.2.2.1,a0.2.2.2.2.2.2.1,a0.2.2.2.2.2.2.2]:List UInt64).map (fun z9:UInt64=>(vU z9:Value)) ++ []) (i:=b0.toNat) (c0.memA .t1) (arr_get (fun z9:UInt64=>(vU z9:Value)) s0)) 0 _ rfl)) rfl<|Ag 3 15 d0 rfl j0 (fun _=>Ai rfl) rfl<|bk h fun z0 K0 h=>?_
 obtain ⟨x0,t0⟩:=idx_in K0
 refine Ag 4 31 d0 rfl j0 (fun _=>Bg (m:=1) (k:=b0.toNat) (len:=8) (by kernel_rfl) rfl rfl x0 (arr_lt t0 rfl)) rfl<|AG 5 63 64 d0 rfl j0 (AL rfl ((mem_elem1 (p:=⟨q0,0,none⟩) (cs:=([a1.1,a1.2.1,a1.2.2.1,a1.2.2.2.1,a1.2.2.2.2.1,a1.2.2.2.2.2.1,a1.2.2.2.2.2.2.1,a1.2.2.2.2.2.2.2]:List UInt64).map (fun z9:UInt64=>(vU z9:Value)) ++ []) (i:=b0.toNat) (c0.memA .hd) (arr_get (fun z9:UInt64=>(vU z9:Value)) t0)) 0 _ rfl)) rfl<|Ag 6 127 d0 rfl j0 (fun _=>FV.neqU (a:=y0) (b:=z0) rfl rfl) rfl<|AM (dk d0)<|MX.ifn rfl h (fun B0 h=>?_) (fun B0 h=>?_)
 refine Aq<|AA<|Av<|Ae rfl<|bk h fun M0 I0 h=>Ab (FV.subc (i:=b0) (j:=1) rfl rfl I0)<|Af rfl<|Aa<|D0 M0 c0 G0 h
 refine Aj<|Aj<|dt 7 tb202_5 fun g0 k0=>Ag 0 1 g0 rfl k0 (fun _=>Ai rfl) rfl<|Ag 1 3 g0 rfl k0 (fun _=>Bg (m:=1) (k:=b0.toNat) (len:=8) (by kernel_rfl) rfl rfl v0 (arr_lt s0 rfl)) rfl<|AG 2 7 64 g0 rfl k0 (AL rfl ((mem_elem1 (p:=⟨p0,0,none⟩) (cs:=([a0.1,a0.2.1,a0.2.2.1,a0.2.2.2.1,a0.2.2.2.2.1,a0.2.2.2.2.2.1,a0.2.2.2.2.2.2.1,a0.2.2.2.2.2.2.2]:List UInt64).map (fun z9:UInt64=>(vU z9:Value)) ++ []) (i:=b0.toNat) (c0.memA .t1) (arr_get (fun z9:UInt64=>(vU z9:Value)) s0)) 0 _ rfl)) rfl<|Ag 3 15 g0 rfl k0 (fun _=>Ai rfl) rfl<|Ag 4 31 g0 rfl k0 (fun _=>Bg (m:=1) (k:=b0.toNat) (len:=8) (by kernel_rfl) rfl rfl x0 (arr_lt t0 rfl)) rfl<|AG 5 63 64 g0 rfl k0 (AL rfl ((mem_elem1 (p:=⟨q0,0,none⟩) (cs:=([a1.1,a1.2.1,a1.2.2.1,a1.2.2.2.1,a1.2.2.2.2.1,a1.2.2.2.2.2.1,a1.2.2.2.2.2.2.1,a1.2.2.2.2.2.2.2]:List UInt64).map (fun z9:UInt64=>(vU z9:Value)) ++ []) (i:=b0.toNat) (c0.memA .hd) (arr_get (fun z9:UInt64=>(vU z9:Value)) t0)) 0 _ rfl)) rfl<|Ag 6 127 g0 rfl k0 (fun _=>FV.lssU (a:=y0) (b:=z0) rfl rfl) rfl<|AM (dk g0)<|AS rfl h (fun C0 h=>?_) (fun C0 h=>?_)
 refine Ac<|Af rfl<|Aa ?_
 have h:=thn_inl h u0
 refine Al rfl<|AT hb0 Tryz.func202 rfl rfl ?_
 cases h
 exact c0.gv
 refine Aq<|Ac<|Af rfl<|Aa ?_
 have h:=thn_inl h u0
 refine Al rfl<|AT hb0 Tryz.func202 rfl rfl ?_
 cases h
 exact c0.gv
 refine Ba rfl ?_
 have h:=thn_inr h u0
 try dsimp only at h
 refine Ac<|Af rfl<|Aa<|Al rfl<|AT hb0 Tryz.func202 rfl rfl ?_
 cases h
 exact c0.gv
structure Tn where
  fc:Bool
  fl:UInt64 × UInt64 × UInt64 × UInt64 × UInt64 × UInt64 × UInt64 × UInt64
  deriving DecidableEq
instance:Rep Tn:=Rep.via (β:=Bool × (UInt64 × UInt64 × UInt64 × UInt64 × UInt64 × UInt64 × UInt64 × UInt64)) fun x=>(x.fc,x.fl)
def cs_Tn (x:Tn):List Value:=[.bool x.fc,vU x.fl.1,vU x.fl.2.1,vU x.fl.2.2.1,vU x.fl.2.2.2.1,vU x.fl.2.2.2.2.1,vU x.fl.2.2.2.2.2.1,vU x.fl.2.2.2.2.2.2.1,vU x.fl.2.2.2.2.2.2.2]
theorem body196:bodyB Tryz.prog 196 = true:=by kernel_rfl
theorem body202:bodyB Tryz.prog 202 = true:=by kernel_rfl
def cn_p (n:Nat) (a0:Tn):Option ((UInt64 × UInt64 × UInt64 × UInt64 × UInt64 × UInt64 × UInt64 × UInt64) × Int):=
  (aY_p n a0.fl ((0:UInt64),(0:UInt64),(0:UInt64),(0:UInt64),(0:UInt64),(0:UInt64),(0:UInt64),(9223372036854775808:UInt64))).bind fun b0=>(if 0 < b0 then some (((0:UInt64),(0:UInt64),(0:UInt64),(0:UInt64),(0:UInt64),(0:UInt64),(0:UInt64),(0:UInt64)),(6:Int)) else (if b0 = 0 then (if a0.fc = true then (bv_p n ((0:UInt64),(0:UInt64),(0:UInt64),(0:UInt64),(0:UInt64),(0:UInt64),(0:UInt64),(0:UInt64)) a0.fl).bind fun c0=>some (c0.1,(0:Int)) else some (((0:UInt64),(0:UInt64),(0:UInt64),(0:UInt64),(0:UInt64),(0:UInt64),(0:UInt64),(0:UInt64)),(6:Int))) else (if a0.fc = true then (bv_p n ((0:UInt64),(0:UInt64),(0:UInt64),(0:UInt64),(0:UInt64),(0:UInt64),(0:UInt64),(0:UInt64)) a0.fl).bind fun d0=>some (d0.1,(0:Int)) else some (a0.fl,(0:Int)))))
theorem cn_c (n:Nat) (L:List Nat) (w:World) (hL:∀ b ∈ L,b < w.heap.size) (a0:Tn)  {r:(UInt64 × UInt64 × UInt64 × UInt64 × UInt64 × UInt64 × UInt64 × UInt64) × Int} (h:cn_p n a0 = some r) :
    Calls Tryz.prog 187 #[.agg ((cs_Tn a0)).toArray] w (Gives w fun _ u=>u = .tuple #[.agg ((cs_A34 r.1)).toArray,vI r.2]):=by
 unfold cn_p at h
 refine AF Tryz.func187 rfl rfl rfl fun _ cs0 hb0=>Ac<|RG.bx (AB w) rfl rfl fun Z0 G0 A0 J0=>RG.nl zP A0 fun b1 H0 B0 K0=>Af rfl<|Aa<|Ac<|Ab (AX (vs:=[vW 9223372036854775808]) (u:=.agg #[vW 0,vW 0,vW 0,vW 0,vW 0,vW 0,vW 0,vW 9223372036854775808]) (e1 rfl) (fun w9=>by kernel_rfl))<|RG.nl zP B0 fun c1 I0 C0 M0=>AQ [vW 0,vW 0,vW 0,vW 0,vW 0,vW 0,vW 0,vW 9223372036854775808] C0 .hd (onesB rfl) fun d1 b0 P0=>Aa<|Aj<|Ac<|AV 1 rfl<|Ab (Bp (cs:=(cs_A34 a0.fl)) (by kernel_rfl) rfl (mem_part (b0.memA .t2) 1 8))<|Ab (AK rfl (b0.memA .hd))<|bk h fun g0 D0 h=>Bi (vI g0) body202 rfl (e2 rfl rfl) (fun w9 hw9=>aY_c n _ w9 (b0.hL0 hL hw9) a0.fl ((0:UInt64),(0:UInt64),(0:UInt64),(0:UInt64),(0:UInt64),(0:UInt64),(0:UInt64),(9223372036854775808:UInt64)) D0) rfl<|Af rfl<|Aa<|Ac<|Ae rfl<|Ab (FV.gtr (i:=g0) (j:=0) rfl rfl)<|Ae rfl<|BE (s:=13) rfl h (fun x0 h=>?_) (fun x0 h=>?_)
 refine Aw<|Aw<|Aw<|RG.un<|RG.un<|RG.un<|Aw<|Br rfl rfl<|Aa<|Bk rfl<|Ac<|Ab (AX (vs:=[]) (u:=.agg zQ) evs_nil (fun w9=>by kernel_rfl))<|AQ zP b0 .t1 (onesB rfl) fun g1 k0 Q0=>Af rfl<|Aa<|Al rfl<|Ap hb0 Tryz.func187 rfl (.cons (.many (cs:=zP) (by kernel_rfl) rfl (k0.memA .t1)) (.cons (.tmp rfl) .nil)) rfl ?_
 cases h
 exact k0.gv
 refine AJ (Ai rfl)<|AJ (FV.eql (i:=g0) (j:=0) rfl rfl)<|AJ (Ai rfl)<|BE (s:=16) rfl h (fun y0 h=>?_) (fun y0 h=>?_)
 refine RG.fg 0 rfl<|AJ (AL rfl ((b0.memA .t2) 0 _ rfl))<|AJ (Bo rfl)<|AJ (BC rfl rfl)<|Bx rfl rfl<|Aa<|MX.ifnb rfl h (fun j0 h=>?_) (fun j0 h=>?_)
 refine Aq<|Aj<|Ac<|AV 0 rfl<|AP rfl ((b0.memA .t2) 0 _ rfl)<|Aa<|MX.cond_kt rfl j0<|Av<|Ab (AX (vs:=[]) (u:=.agg zQ) evs_nil (fun w9=>by kernel_rfl))<|AV 1 rfl<|Ab (Bp (cs:=(cs_A34 a0.fl)) (by kernel_rfl) rfl (mem_part (b0.memA .t2) 1 8))<|bk h fun c0 E0 h=>Bi (.tuple #[.agg ((cs_A34 c0.1)).toArray,vU c0.2]) body196 rfl (e2 rfl rfl) (fun w9 hw9=>bv_c n _ w9 (b0.hL0 hL hw9) ((0:UInt64),(0:UInt64),(0:UInt64),(0:UInt64),(0:UInt64),(0:UInt64),(0:UInt64),(0:UInt64)) a0.fl E0) rfl<|Ae rfl<|Ab (Ah rfl rfl)<|Ab (Ah rfl rfl)<|AV 1 rfl<|RG.now .plain (BP (j:=1) (old:=(cs_Tn a0)) (news:=(cs_A34 c0.1)) (new' :=(([.bool a0.fc]:List Value) ++ cs_A34 c0.1)) b0 .t2 rfl rfl rfl rfl rfl rfl (onesB rfl) rfl) fun j1 p0 R0=>Aa<|Ac<|AV 1 rfl<|Ab (Bp (cs:=(cs_A34 c0.1)) (by kernel_rfl) rfl (mem_part (p0.memA .t2) 1 8))<|AQ (cs_A34 c0.1) p0 .t1 (onesB rfl) fun k1 q0 U0=>Af rfl<|Aa<|Al rfl<|Ap hb0 Tryz.func187 rfl (.cons (.many (cs:=(cs_A34 c0.1)) (by kernel_rfl) rfl (q0.memA .t1)) (.cons (.tmp rfl) .nil)) rfl ?_
 cases h
 exact q0.gv
 refine Ac<|Ab (AX (vs:=[]) (u:=.agg zQ) evs_nil (fun w9=>by kernel_rfl))<|AQ zP b0 .t1 (onesB rfl) fun p1 s0 V0=>Af rfl<|Aa<|Al rfl<|Ap hb0 Tryz.func187 rfl (.cons (.many (cs:=zP) (by kernel_rfl) rfl (s0.memA .t1)) (.cons (.tmp rfl) .nil)) rfl ?_
 cases h
 exact s0.gv
 refine Aw<|Aw<|Aw<|AJ (Bh rfl rfl)<|Bx rfl rfl<|Aa<|BF rfl<|Aq<|Aj<|Ac<|AV 0 rfl<|AP rfl ((b0.memA .t2) 0 _ rfl)<|Aa<|MX.ifb rfl h (fun z0 h=>?_) (fun z0 h=>?_)
 refine Av<|Ab (AX (vs:=[]) (u:=.agg zQ) evs_nil (fun w9=>by kernel_rfl))<|AV 1 rfl<|Ab (Bp (cs:=(cs_A34 a0.fl)) (by kernel_rfl) rfl (mem_part (b0.memA .t2) 1 8))<|bk h fun d0 F0 h=>Bi (.tuple #[.agg ((cs_A34 d0.1)).toArray,vU d0.2]) body196 rfl (e2 rfl rfl) (fun w9 hw9=>bv_c n _ w9 (b0.hL0 hL hw9) ((0:UInt64),(0:UInt64),(0:UInt64),(0:UInt64),(0:UInt64),(0:UInt64),(0:UInt64),(0:UInt64)) a0.fl F0) rfl<|Ae rfl<|Ab (Ah rfl rfl)<|Ab (Ah rfl rfl)<|AV 1 rfl<|RG.now .plain (BP (j:=1) (old:=(cs_Tn a0)) (news:=(cs_A34 d0.1)) (new' :=(([.bool a0.fc]:List Value) ++ cs_A34 d0.1)) b0 .t2 rfl rfl rfl rfl rfl rfl (onesB rfl) rfl) fun q1 t0 W0=>Aa<|Ac<|AV 1 rfl<|Ab (Bp (cs:=(cs_A34 d0.1)) (by kernel_rfl) rfl (mem_part (t0.memA .t2) 1 8))<|AQ (cs_A34 d0.1) t0 .t1 (onesB rfl) fun s1 u0 X0=>Af rfl<|Aa<|Al rfl<|Ap hb0 Tryz.func187 rfl (.cons (.many (cs:=(cs_A34 d0.1)) (by kernel_rfl) rfl (u0.memA .t1)) (.cons (.tmp rfl) .nil)) rfl ?_
 cases h
 exact u0.gv
 refine Aq<|Ac<|AV 1 rfl<|Ab (Bp (cs:=(cs_A34 a0.fl)) (by kernel_rfl) rfl (mem_part (b0.memA .t2) 1 8))<|AQ (cs_A34 a0.fl) b0 .t1 (onesB rfl) fun u1 v0 Y0=>Af rfl<|Aa<|Al rfl<|Ap hb0 Tryz.func187 rfl (.cons (.many (cs:=(cs_A34 a0.fl)) (by kernel_rfl) rfl (v0.memA .t1)) (.cons (.tmp rfl) .nil)) rfl ?_
 cases h
 exact v0.gv
structure Te where
  fc:Bool
  fm:List UInt64
  deriving DecidableEq
instance:Rep Te:=Rep.via (β:=Bool × (List UInt64)) fun x=>(x.fc,x.fm)
def tb156_4:List (Nat × Nat × Nat):=[(0,8192,16),(1,16384,8192),(0,32768,2),(4,65536,32768),(10,131072,81920)]
theorem body187:bodyB Tryz.prog 187 = true:=by kernel_rfl
def bn_p (n:Nat) (a0:Te):Option ((UInt64 × UInt64 × UInt64 × UInt64 × UInt64 × UInt64 × UInt64 × UInt64) × Int):=
  (if 8 < a0.fm.length then some (((0:UInt64),(0:UInt64),(0:UInt64),(0:UInt64),(0:UInt64),(0:UInt64),(0:UInt64),(0:UInt64)),(6:Int)) else (cn_p n (⟨a0.fc,(getA a0.fm 0 (0:UInt64),getA a0.fm 1 (0:UInt64),getA a0.fm 2 (0:UInt64),getA a0.fm 3 (0:UInt64),getA a0.fm 4 (0:UInt64),getA a0.fm 5 (0:UInt64),getA a0.fm 6 (0:UInt64),getA a0.fm 7 (0:UInt64))⟩:Tn)).bind fun b0=>some (b0.1,b0.2))
theorem bn_c (n:Nat) (L:List Nat) (w:World) (hL:∀ b ∈ L,b < w.heap.size) (a0:Te) {v0_1:Value} (h0_1:Rep.R w L [v0_1] a0.fm)  {r:(UInt64 × UInt64 × UInt64 × UInt64 × UInt64 × UInt64 × UInt64 × UInt64) × Int} (h:bn_p n a0 = some r) :
    Calls Tryz.prog 156 #[.agg #[.bool a0.fc,v0_1]] w (Gives w fun _ u=>u = .tuple #[.agg ((cs_A34 r.1)).toArray,vI r.2]):=by
 unfold bn_p at h
 refine AF Tryz.func156 rfl rfl rfl fun _ cs0 hb0=>Ac<|RG.bx (AB w) rfl rfl fun M0 A0 v0 C0=>RG.nl zP v0 fun P0 B0 c0 D0=>Af rfl<|Aa<|Aj<|Ac<|AV 1 rfl<|AP rfl ((c0.memA .t1) 1 _ rfl) ?_
 have s0:=AO h0_1 c0
 have J0:a0.fm.length <= 281474976710656:=AY s0
 refine Ab (Bc (xs:=a0.fm) Tryz.underlying146 rfl s0)<|Ab (FV.gtrN (i:=a0.fm.length) (j:=8) rfl rfl)<|Aa<|AS rfl h (fun u0 h=>?_) (fun u0 h=>?_)
 refine Ac<|Ab (AX (vs:=[]) (u:=.agg zQ) evs_nil (fun w9=>by kernel_rfl))<|AQ zP c0 .hd (onesB rfl) fun Q0 p0 E0=>Af rfl<|Aa<|Al rfl<|Ap hb0 Tryz.func156 rfl (.cons (.many (cs:=zP) (by kernel_rfl) rfl (p0.memA .hd)) (.cons (.tmp rfl) .nil)) rfl ?_
 cases h
 exact p0.gv
 refine Aq<|Ac<|AV 0 rfl<|AP rfl ((c0.memA .t1) 0 _ rfl)<|Ab (AX (vs:=[.bool a0.fc]) (u:=.agg #[.bool a0.fc,vW 0,vW 0,vW 0,vW 0,vW 0,vW 0,vW 0,vW 0]) (e1 rfl) (fun w9=>by kernel_rfl))<|RG.nl [.bool false,vW 0,vW 0,vW 0,vW 0,vW 0,vW 0,vW 0,vW 0] c0 fun R0 t0 x0 F0=>AQ [.bool a0.fc,vW 0,vW 0,vW 0,vW 0,vW 0,vW 0,vW 0,vW 0] x0 .hd (onesB rfl) fun U0 j0 G0=>Aa<|Aj<|dt 4 tb156_4 fun b0 d0=>Ag 0 1 b0 rfl d0 (fun _=>Bd 1 rfl) rfl<|AG 1 3 16 b0 rfl d0 (FV.sliceA (len:=8) (m:=1) (p:=Addr.add ⟨t0,0,none⟩ 1) (by kernel_rfl) rfl) rfl<|Ag 2 7 b0 rfl d0 (fun _=>Bd 1 rfl) rfl<|AG 3 15 16 b0 rfl d0 (AL rfl ((j0.memA .t2) 1 _ rfl)) rfl<|Be (i:=4) (rk b0) (Bs (m' :=31) (sk b0) rfl rfl .plain rfl (DoesL.copyArr (fun z9:UInt64=>(vU z9:Value)) (olds:=([(0:UInt64),(0:UInt64),(0:UInt64),(0:UInt64),(0:UInt64),(0:UInt64),(0:UInt64),(0:UInt64)]:List UInt64)) (ys:=a0.fm) (pre:=[.bool a0.fc]) (post:=[]) (old:=[.bool a0.fc,vW 0,vW 0,vW 0,vW 0,vW 0,vW 0,vW 0,vW 0]) (new' :=[.bool a0.fc,vW ((getA a0.fm 0 (0:UInt64)).toNat:Int),vW ((getA a0.fm 1 (0:UInt64)).toNat:Int),vW ((getA a0.fm 2 (0:UInt64)).toNat:Int),vW ((getA a0.fm 3 (0:UInt64)).toNat:Int),vW ((getA a0.fm 4 (0:UInt64)).toNat:Int),vW ((getA a0.fm 5 (0:UInt64)).toNat:Int),vW ((getA a0.fm 6 (0:UInt64)).toNat:Int),vW ((getA a0.fm 7 (0:UInt64)).toNat:Int)]) rfl (fun _ _ _ _ h9=>h9) j0 .hd (by kernel_rfl) rfl rfl rfl rfl rfl rfl rfl (BG (AO h0_1 j0))) (fun K0 V0 ⟨y0,k0,H0⟩=>?_))
 subst y0
 refine AM (dk b0)<|Ac<|Ab (AK rfl (k0.memA .hd))<|bk h fun g0 z0 h=>Bi (.tuple #[.agg ((cs_A34 g0.1)).toArray,vI g0.2]) body187 rfl (e1 rfl) (fun w9 hw9=>cn_c n _ w9 (k0.hL0 hL hw9) (⟨a0.fc,(getA a0.fm 0 (0:UInt64),getA a0.fm 1 (0:UInt64),getA a0.fm 2 (0:UInt64),getA a0.fm 3 (0:UInt64),getA a0.fm 4 (0:UInt64),getA a0.fm 5 (0:UInt64),getA a0.fm 6 (0:UInt64),getA a0.fm 7 (0:UInt64))⟩:Tn) z0) rfl<|Ab (Ah rfl rfl)<|Ab (Ah rfl rfl)<|AQ (cs_A34 g0.1) k0 .t1 (onesB rfl) fun W0 q0 I0=>Af rfl<|Aa<|Al rfl<|Ap hb0 Tryz.func156 rfl (.cons (.many (cs:=(cs_A34 g0.1)) (by kernel_rfl) rfl (q0.memA .t1)) (.cons (.tmp rfl) .nil)) rfl ?_
 cases h
 exact q0.gv
end Go.Proofs.YtgejkdheojkfiaaGreatDoor
