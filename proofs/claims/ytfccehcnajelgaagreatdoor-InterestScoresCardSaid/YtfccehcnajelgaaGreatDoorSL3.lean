/- Functions of the program, and what they give: part 3. -/
import Derived.Test.YtfccehcnajelgaaGreatDoorSL2
namespace Go.Proofs.YtfccehcnajelgaaGreatDoor
open Go Go.RowKit
set_option maxRecDepth 4000
set_option maxHeartbeats 4000000

def units_within_1_p (_n:Nat) (a0:Int) (a1:Int):Option Bool:=
  (if a0 < 0 then some true else some (decide (a1 < a0)))
theorem units_within_1_c (n:Nat) (L:List Nat) (w:World) (_hL:∀ b ∈ L,b < w.heap.size) (a0:Int) (a1:Int) {p1:Nat} (m1:∀ j9 v9,([vI a1]:List Value)[j9]? = some v9 → w.cell? ((⟨p1,0,none⟩:Addr).add j9) = some v9)  {r:Bool} (h:units_within_1_p n a0 a1 = some r) :
    Calls Tryz.prog 215 #[vI a0,.pointer (some ⟨p1,0,none⟩)] w (Gives w fun _ u=>u = .bool r):=by
 unfold units_within_1_p at h
 have hS0:=Ay w
 refine AC Tryz.func215 rfl rfl rfl (fun _ cs0 hb0=>?_)
 refine Ac<|Af rfl<|Aa<|Ac<|Ae rfl<|Ab (FV.lss (i:=a0) (j:=0) rfl rfl)<|Ae rfl<|RG.ifd (s:=6) rfl h (fun c1 h=>?_) (fun c1 h=>?_)
 refine AE<|AE<|AE<|RG.pt rfl rfl<|Af rfl<|Aa<|Ak rfl<|AP hb0 Tryz.func215 rfl rfl ?_
 cases h
 exact hS0.gv
 refine AU (Ai rfl)<|AU (AG rfl ((fun j9 v9 h9=>hS0.ag.cell0 (m1 j9 v9 h9)) 0 _ rfl))<|AU (FV.gtr (i:=a0) (j:=a1) rfl rfl)<|RG.pf rfl rfl<|Af rfl<|Aa<|Ak rfl<|AP hb0 Tryz.func215 rfl rfl ?_
 cases h
 exact hS0.gv
theorem body214:bodyB Tryz.prog 214 = true:=by kernel_rfl
theorem body215:bodyB Tryz.prog 215 = true:=by kernel_rfl
theorem body220:bodyB Tryz.prog 220 = true:=by kernel_rfl
def units_within_l1 (n:Nat) (a0:List Int) (a2:Int) (c0:Nat → Option (Bool ⊕ Unit)):Nat → Option (Bool ⊕ Unit)
  | b0=>(if b0 < a0.length then (a0[b0]?).bind fun d0=>(units_within_1_p n d0 a2).bind fun g0=>(if g0 = true then some (.inl (!(decide (0 ≤ b0)))) else c0 (b0 + 1)) else some (.inr ()))
def units_within_p (n:Nat) (a0:List Int) (a1:Int) (a2:Int):Option Bool:=
  (if ((a0.length:Nat):Int) = a1 then thn (loopF (units_within_l1 n a0 a2) n 0) (fun _=>some (!(decide (0 ≤ (-1))))) else some false)
theorem units_within_c (n:Nat) (L:List Nat) (w:World) (hL:∀ b ∈ L,b < w.heap.size) (a0:List Int) {v0_0:Value} (h0_0:Rep.R w L [v0_0] a0) (a1:Int) (a2:Int)  {r:Bool} (h:units_within_p n a0 a1 a2 = some r) :
    Calls Tryz.prog 202 #[v0_0,vI a1,vI a2] w (Gives w fun _ u=>u = .bool r):=by
 unfold units_within_p at h
 have hS0:=Ay w
 refine AC Tryz.func202 rfl rfl rfl (fun _ cs0 hb0=>?_)
 refine Ac<|Al .plain rfl (Ax hS0 rfl rfl) (fun K0 c0 g0 W0=>?_)
 refine Af rfl<|Aa<|Ac<|Ae rfl ?_
 have j0:=AH h0_0 g0
 have X0:a0.length ≤ 281474976710656:=AQ j0
 refine Ab (Bb (xs:=a0) Tryz.underlying52 rfl j0)<|Ae rfl<|Ab (FV.eql (i:=((a0.length:Nat):Int)) (j:=a1) rfl rfl)<|Ae rfl<|RG.ifd (s:=11) rfl h (fun u0 h=>?_) (fun u0 h=>?_)
 refine AU (Ai rfl)<|AU (FV.makeFunc (vs:=[]) (us:=[vP c0]) evs_nil (e1 rfl))<|Bs (fst:=[]) (cap:=[]) (vs:=[v0_0,.func (.func 215) #[] #[vP c0]]) (.yes rfl rfl) body214 Tryz.func214 rfl rfl rfl rfl (e2 rfl rfl) rfl (fun U0 p0 Y0=>?_)
 refine Ac<|Af rfl<|Aa<|Ac<|Ae rfl<|Ae rfl<|Bs (fst:=[]) (cap:=[]) (vs:=[v0_0,.func (.func 215) #[] #[vP c0]]) .plain body220 Tryz.func220 rfl rfl rfl rfl (e2 rfl rfl) rfl (fun V0 q0 Z0=>?_)
 refine Ac<|Af rfl<|Aa<|Aj<|Ac<|Ae rfl<|Ab (Bb (xs:=a0) Tryz.underlying52 rfl j0)<|Ae rfl<|Aa<|Ar ?_
 obtain ⟨b1,G0,s0⟩:=thn_in h
 refine Be (α:=Nat) (fun b0=>[(0,v0_0),(1,.func (.func 215) #[] #[vP c0]),(7,vI ((a0.length:Nat):Int)),(8,vI ((b0:Nat):Int))]) (fun b0 k0=>St w k0 [.cells c0 [vI a2] 3]∧Tr K0 [.cells c0 [vI a2] 3] k0 [.cells c0 [vI a2] 3]) (fun b0=>b0) 0 G0 ⟨rfl,rfl,rfl,rfl,trivial⟩ ⟨g0,AT _ _⟩ ?_
 rintro Q0 b0 k0 z0 ⟨d0,A0⟩ h
 unfold units_within_l1 at h
 try dsimp only at h
 refine Ac<|Ab (Bf (i:=b0) (j:=a0.length) rfl rfl)<|Aa<|Aj<|AO rfl h (fun v0 h=>?_) (fun v0 h=>?_)
 refine Ao<|Aj<|Ar<|Ac<|Ae rfl<|Af rfl<|Aa<|Ac<|Ae rfl<|Ae rfl<|Ae rfl ?_
 obtain ⟨t0,I0,h⟩:=bi h
 have F0:=AH h0_0 d0
 obtain ⟨P0,R0,B0,D0,y0,H0,E0⟩:=Bk F0 I0
 have C0:y0 = [vI t0]:=H0; subst C0
 refine Ab (Bo 1 b0 rfl B0 rfl rfl D0)<|AZ rfl (E0 0 _ rfl) ?_
 obtain ⟨M0,J0,h⟩:=bi h
 refine RG.callq' (v:=.bool M0) (fst:=[]) (cap:=[vP c0]) .plain body215 rfl (e1 rfl) (fun w9 hw9=>units_within_1_c n _ w9 (d0.hL0 hL hw9) t0 a2 (fun j9 v9 h9=>hw9.cell0 ((d0.memA .hd) j9 v9 h9)) J0) rfl<|Aa<|MX.ifb rfl h (fun x0 h=>?_) (fun x0 h=>?_)
 refine Ac<|Ae rfl<|Af rfl<|Aa ?_
 have h:=thn_inl h s0
 refine Ak rfl<|Ap (u:=vI ((b0:Nat):Int)) q0 Tryz.func220 rfl (.cons (.tmp rfl) .nil) rfl<|Ab (FV.geqN (i:=b0) (j:=0) rfl rfl)<|Af rfl<|Aa<|Ak rfl<|Ap (u:=.bool (decide (0 ≤ b0))) p0 Tryz.func214 rfl (.cons (.tmp rfl) .nil) rfl<|AU (Bz rfl)<|RG.pt rfl rfl<|Af rfl<|Aa<|Ak rfl<|AP hb0 Tryz.func202 rfl rfl ?_
 cases h
 exact d0.gv
 refine Ao<|Au<|Am<|Ab (Bh (i:=b0) (j:=1) rfl rfl (by omega))<|Ae rfl<|Aa ?_
 exact z0 (b0 + 1) _ _ ⟨rfl,rfl,rfl,rfl,trivial⟩ ⟨d0,A0⟩ h
 refine AW rfl ?_
 have h:=thn_inr h s0
 try dsimp only at h
 refine Ac<|Af rfl<|Aa<|Ak rfl<|Ap (u:=vI (-1)) q0 Tryz.func220 rfl (.cons (.tmp rfl) .nil) rfl<|Ab (FV.geq (i:=(-1)) (j:=0) rfl rfl)<|Af rfl<|Aa<|Ak rfl<|Ap (u:=.bool (decide (0 ≤ (-1)))) p0 Tryz.func214 rfl (.cons (.tmp rfl) .nil) rfl<|AU (Bz rfl)<|RG.pt rfl rfl<|Af rfl<|Aa<|Ak rfl<|AP hb0 Tryz.func202 rfl rfl ?_
 cases h
 exact d0.gv
 refine AE<|AE<|AE<|AE<|RG.pf rfl rfl<|Af rfl<|Aa<|Ak rfl<|AP hb0 Tryz.func202 rfl rfl ?_
 cases h
 exact g0.gv
structure TUnit where
  fp:ByteArray
  fE:Int
  fh:List Int
  fVotes:List Int
  fF:List Int
  fu:Bool
  deriving DecidableEq
instance:Rep TUnit:=Rep.via (β:=ByteArray × Int × (List Int) × (List Int) × (List Int) × Bool) fun x=>(x.fp,x.fE,x.fh,x.fVotes,x.fF,x.fu)
structure TRoll where
  fh:Int
  fc:Int
  fe:Int
  fo:List TUnit
  deriving DecidableEq
instance:Rep TRoll:=Rep.via (β:=Int × Int × Int × (List TUnit)) fun x=>(x.fh,x.fc,x.fe,x.fo)
def tb190_4:List (Nat × Nat × Nat):=[(0,512,8),(1,1024,512),(2,2048,1024),(0,4096,8),(8,8192,4096),(16,16384,8192),(32,32768,16384),(0,65536,8),(128,131072,65536),(256,262144,131072),(512,524288,262144),(0,1048576,8),(2048,2097152,1048576),(4096,4194304,2097152),(0,8388608,8),(16384,16777216,8388608),(0,33554432,32),(98304,67108864,50331648),(0,134217728,8),(262144,268435456,134217728),(0,536870912,4),(1048576,1073741824,536870912),(0,2147483648,8),(4194304,4294967296,2147483648),(11010560,8589934592,5637144576),(0,17179869184,8),(33554432,34359738368,17179869184),(0,68719476736,4),(134217728,137438953472,68719476736),(0,274877906944,32),(889192448,549755813888,446676598784),(0,1099511627776,8),(2147483648,2199023255552,1099511627776),(0,4398046511104,4),(8589934592,8796093022208,4398046511104),(0,17592186044416,64),(56908316672,35184372088832,28587302322176),(69810136132,70368744177664,35742789699584),(206158430208,140737488355328,70368744177664),(549755813887,16,140737488355328)]
theorem el72:ElT Tryz.prog 72 4 (Rep.size Bool) 1 (.bool false) [.bool false]:=⟨Tryz.underlying72,by kernel_rfl,rfl,rfl,rfl,rfl⟩
theorem body189:bodyB Tryz.prog 189 = true:=by kernel_rfl
theorem body201:bodyB Tryz.prog 201 = true:=by kernel_rfl
theorem body202:bodyB Tryz.prog 202 = true:=by kernel_rfl
def units_right_p (n:Nat) (a0:TRoll) (a1:TUnit):Option Bool:=
  jn (fun (c0,d0)=>(strings_Trim_p n a1.fp ⟨#[65,66,67,68,69,70,71,72,73,74,75,76,77,78,79,80,81,82,83,84,85,86,87,88,89,90,97,98,99,100,101,102,103,104,105,106,107,108,109,110,111,112,113,114,115,116,117,118,119,120,121,122,48,49,50,51,52,53,54,55,56,57,45,95]⟩).bind fun g0=>(units_within_p n a1.fh a0.fh a1.fE).bind fun j0=>(units_within_p n a1.fVotes a0.fc ((c0:Nat):Int)).bind fun k0=>(units_within_p n a1.fF a0.fe ((d0:Nat):Int)).bind fun p0=>(units_every_p n ([(!(decide (a1.fp = ⟨#[]⟩))),(decide (a1.fp.size ≤ 12)),(decide (g0 = ⟨#[]⟩)),(decide (0 ≤ a1.fE)),(decide (a1.fE ≤ ((c0:Nat):Int))),j0,k0,p0]:List Bool)).bind fun q0=>some q0) (fun b0=>(if a1.fu = true then b0 (0,0) else b0 (1000000000,63)))
theorem units_right_c (n:Nat) (L:List Nat) (w:World) (hL:∀ b ∈ L,b < w.heap.size) (a0:TRoll) {v0_3:Value} (_h0_3:Rep.R w L [v0_3] a0.fo) (a1:TUnit) {v1_2:Value} (h1_2:Rep.R w L [v1_2] a1.fh) {v1_3:Value} (h1_3:Rep.R w L [v1_3] a1.fVotes) {v1_4:Value} (h1_4:Rep.R w L [v1_4] a1.fF)  {r:Bool} (h:units_right_p n a0 a1 = some r) :
    Calls Tryz.prog 190 #[.agg #[vI a0.fh,vI a0.fc,vI a0.fe,v0_3],.agg #[.string a1.fp,vI a1.fE,v1_2,v1_3,v1_4,.bool a1.fu]] w (Gives w fun _ u=>u = .bool r):=by
 unfold units_right_p at h
 have hS0:=Ay w
 refine AC Tryz.func190 rfl rfl rfl (fun _ cs0 hb0=>?_)
 refine Ac<|Al .plain rfl (Ax hS0 rfl rfl) (fun W0 u0 C0 Q0=>?_)
 refine Al .plain rfl (Ax C0 rfl rfl) (fun J0 v0 y0 R0=>?_)
 refine Af rfl<|Aa<|Ac<|Af rfl<|Af rfl<|Aa<|Aj<|Ac<|Bd 5 rfl<|AZ rfl ((y0.memA .hd) 5 _ rfl)<|Aa<|MX.join (α:=Nat × Nat) (fun ⟨g0,t0⟩=>[(2,vP u0),(3,vP v0),(5,vI ((g0:Nat):Int)),(6,vI ((t0:Nat):Int))]) (fun ⟨g0,t0⟩ z0=>St w z0 [.cells v0 [.string a1.fp,vI a1.fE,v1_2,v1_3,v1_4,.bool a1.fu] 96,.cells u0 [vI a0.fh,vI a0.fc,vI a0.fe,v0_3] 58]∧Tr J0 [.cells v0 [.string a1.fp,vI a1.fE,v1_2,v1_3,v1_4,.bool a1.fu] 96,.cells u0 [vI a0.fh,vI a0.fc,vI a0.fe,v0_3] 58] z0 [.cells v0 [.string a1.fp,vI a1.fE,v1_2,v1_3,v1_4,.bool a1.fu] 96,.cells u0 [vI a0.fh,vI a0.fc,vI a0.fe,v0_3] 58]) (fun ⟨g0,t0⟩=>(g0,t0)) h ?_ ?_
 rintro ⟨g0,t0⟩ z0 ⟨d0,U0⟩ h
 try dsimp only at h
 refine Aj<|dt 40 tb190_4 (fun b0 c0=>?_)
 refine Ag 0 1 b0 rfl c0 (fun _=>Bi 0 rfl) rfl<|AF 1 3 962072674308 b0 rfl c0 (AG rfl ((d0.memA .hd) 0 _ rfl)) rfl<|Ag 2 7 b0 rfl c0 (fun _=>FV.neqS rfl rfl) rfl<|Ag 3 15 b0 rfl c0 (fun _=>Bi 0 rfl) rfl<|AF 4 31 962072674400 b0 rfl c0 (AG rfl ((d0.memA .hd) 0 _ rfl)) rfl<|AF 5 63 962072674368 b0 rfl c0 (Bq Tryz.underlying9 rfl) rfl<|Ag 6 127 b0 rfl c0 (fun _=>FV.leqN (i:=a1.fp.size) (j:=12) rfl rfl) rfl<|Ag 7 255 b0 rfl c0 (fun _=>Bi 0 rfl) rfl<|AF 8 511 1031882671616 b0 rfl c0 (AG rfl ((d0.memA .hd) 0 _ rfl)) rfl ?_
 obtain ⟨s0,E0,h⟩:=bi h
 refine RD.cq 9 1023 1031882671104 (.string s0) b0 rfl c0 body201 rfl (e2 rfl rfl) (fun w9 hw9=>strings_Trim_c n _ w9 (d0.hL0 hL hw9) a1.fp ⟨#[65,66,67,68,69,70,71,72,73,74,75,76,77,78,79,80,81,82,83,84,85,86,87,88,89,90,97,98,99,100,101,102,103,104,105,106,107,108,109,110,111,112,113,114,115,116,117,118,119,120,121,122,48,49,50,51,52,53,54,55,56,57,45,95]⟩ E0) rfl<|Ag 10 2047 b0 rfl c0 (fun _=>FV.eqlS rfl rfl) rfl<|Ag 11 4095 b0 rfl c0 (fun _=>Bi 1 rfl) rfl<|AF 12 8191 962072682496 b0 rfl c0 (AG rfl ((d0.memA .hd) 1 _ rfl)) rfl<|Ag 13 16383 b0 rfl c0 (fun _=>FV.geq (i:=a1.fE) (j:=0) rfl rfl) rfl<|Ag 14 32767 b0 rfl c0 (fun _=>Bi 1 rfl) rfl<|AF 15 65535 962072805376 b0 rfl c0 (AG rfl ((d0.memA .hd) 1 _ rfl)) rfl<|Ag 16 131071 b0 rfl c0 (fun _=>Ai rfl) rfl<|Ag 17 262143 b0 rfl c0 (fun _=>FV.leq (i:=a1.fE) (j:=((g0:Nat):Int)) rfl rfl) rfl<|Ag 18 524287 b0 rfl c0 (fun _=>Bi 2 rfl) rfl<|AF 19 1048575 1031882670080 b0 rfl c0 (AG rfl ((d0.memA .hd) 2 _ rfl)) rfl<|Ag 20 2097151 b0 rfl c0 (fun _=>Bi 0 rfl) rfl<|AF 21 4194303 1031882670080 b0 rfl c0 (AG rfl ((d0.memA (.tl .hd)) 0 _ rfl)) rfl<|Ag 22 8388607 b0 rfl c0 (fun _=>Bi 1 rfl) rfl<|AF 23 16777215 1031882670080 b0 rfl c0 (AG rfl ((d0.memA .hd) 1 _ rfl)) rfl ?_
 obtain ⟨q0,F0,h⟩:=bi h
 refine RD.cq 24 33554431 1031865892864 (.bool q0) b0 rfl c0 body202 rfl (e3 rfl rfl rfl) (fun w9 hw9=>units_within_c n _ w9 (d0.hL0 hL hw9) a1.fh (d0.k0 h1_2 hw9) a0.fh a1.fE F0) rfl<|Ag 25 67108863 b0 rfl c0 (fun _=>Bi 3 rfl) rfl<|AF 26 134217727 1031865892864 b0 rfl c0 (AG rfl ((d0.memA .hd) 3 _ rfl)) rfl<|Ag 27 268435455 b0 rfl c0 (fun _=>Bi 1 rfl) rfl<|AF 28 536870911 1031865892864 b0 rfl c0 (AG rfl ((d0.memA (.tl .hd)) 1 _ rfl)) rfl<|Ag 29 1073741823 b0 rfl c0 (fun _=>Ai rfl) rfl ?_
 obtain ⟨p0,G0,h⟩:=bi h
 refine RD.cq 30 2147483647 1030792151040 (.bool p0) b0 rfl c0 body202 rfl (e3 rfl rfl rfl) (fun w9 hw9=>units_within_c n _ w9 (d0.hL0 hL hw9) a1.fVotes (d0.k0 h1_3 hw9) a0.fc ((g0:Nat):Int) G0) rfl<|Ag 31 4294967295 b0 rfl c0 (fun _=>Bi 4 rfl) rfl<|AF 32 8589934591 1030792151040 b0 rfl c0 (AG rfl ((d0.memA .hd) 4 _ rfl)) rfl<|Ag 33 17179869183 b0 rfl c0 (fun _=>Bi 2 rfl) rfl<|AF 34 34359738367 1030792151040 b0 rfl c0 (AG rfl ((d0.memA (.tl .hd)) 2 _ rfl)) rfl<|Ag 35 68719476735 b0 rfl c0 (fun _=>Ai rfl) rfl ?_
 obtain ⟨j0,H0,h⟩:=bi h
 refine RD.cq 36 137438953471 962072674304 (.bool j0) b0 rfl c0 body202 rfl (e3 rfl rfl rfl) (fun w9 hw9=>units_within_c n _ w9 (d0.hL0 hL hw9) a1.fF (d0.k0 h1_4 hw9) a0.fe ((t0:Nat):Int) H0) rfl<|RD.nu 37 274877906943 b0 rfl .plain rfl (AY (α:=Bool) (xs:=([(!(decide (a1.fp = ⟨#[]⟩))),(decide (a1.fp.size ≤ 12)),(decide (s0 = ⟨#[]⟩)),(decide (0 ≤ a1.fE)),(decide (a1.fE ≤ ((g0:Nat):Int))),q0,p0,j0]:List Bool)) (vs:=[.bool (!(decide (a1.fp = ⟨#[]⟩))),.bool (decide (a1.fp.size ≤ 12)),.bool (decide (s0 = ⟨#[]⟩)),.bool (decide (0 ≤ a1.fE)),.bool (decide (a1.fE ≤ ((g0:Nat):Int))),.bool q0,.bool p0,.bool j0]) (ds' :=[.bool (!(decide (a1.fp = ⟨#[]⟩))),.bool (decide (a1.fp.size ≤ 12)),.bool (decide (s0 = ⟨#[]⟩)),.bool (decide (0 ≤ a1.fE)),.bool (decide (a1.fE ≤ ((g0:Nat):Int))),.bool q0,.bool p0,.bool j0]) rfl d0 el72 rfl (e8 rfl rfl rfl rfl rfl rfl rfl rfl) (by kernel_rfl) rfl) (fun X0 P0 x0 V0=>?_)
 have D0:=AB (cs:=[.bool (!(decide (a1.fp = ⟨#[]⟩))),.bool (decide (a1.fp.size ≤ 12)),.bool (decide (s0 = ⟨#[]⟩)),.bool (decide (0 ≤ a1.fE)),.bool (decide (a1.fE ≤ ((g0:Nat):Int))),.bool q0,.bool p0,.bool j0]) (xs:=(([(!(decide (a1.fp = ⟨#[]⟩))),(decide (a1.fp.size ≤ 12)),(decide (s0 = ⟨#[]⟩)),(decide (0 ≤ a1.fE)),(decide (a1.fE ≤ ((g0:Nat):Int))),q0,p0,j0]:List Bool):List Bool)) x0 L (Aq (cs:=[.bool (!(decide (a1.fp = ⟨#[]⟩)))]) (ds:=[.bool (decide (a1.fp.size ≤ 12)),.bool (decide (s0 = ⟨#[]⟩)),.bool (decide (0 ≤ a1.fE)),.bool (decide (a1.fE ≤ ((g0:Nat):Int))),.bool q0,.bool p0,.bool j0]) rfl (Aq (cs:=[.bool (decide (a1.fp.size ≤ 12))]) (ds:=[.bool (decide (s0 = ⟨#[]⟩)),.bool (decide (0 ≤ a1.fE)),.bool (decide (a1.fE ≤ ((g0:Nat):Int))),.bool q0,.bool p0,.bool j0]) rfl (Aq (cs:=[.bool (decide (s0 = ⟨#[]⟩))]) (ds:=[.bool (decide (0 ≤ a1.fE)),.bool (decide (a1.fE ≤ ((g0:Nat):Int))),.bool q0,.bool p0,.bool j0]) rfl (Aq (cs:=[.bool (decide (0 ≤ a1.fE))]) (ds:=[.bool (decide (a1.fE ≤ ((g0:Nat):Int))),.bool q0,.bool p0,.bool j0]) rfl (Aq (cs:=[.bool (decide (a1.fE ≤ ((g0:Nat):Int)))]) (ds:=[.bool q0,.bool p0,.bool j0]) rfl (Aq (cs:=[.bool q0]) (ds:=[.bool p0,.bool j0]) rfl (Aq (cs:=[.bool p0]) (ds:=[.bool j0]) rfl (Aq (cs:=[.bool j0]) (ds:=[]) rfl (AN _ _)))))))))
 obtain ⟨K0,I0,h⟩:=bi h
 refine RD.cq 38 549755813887 549755813888 (.bool K0) b0 rfl c0 body189 rfl (e1 rfl) (fun w9 hw9=>units_every_c n _ w9 (x0.hL0 hL hw9) ([(!(decide (a1.fp = ⟨#[]⟩))),(decide (a1.fp.size ≤ 12)),(decide (s0 = ⟨#[]⟩)),(decide (0 ≤ a1.fE)),(decide (a1.fE ≤ ((g0:Nat):Int))),q0,p0,j0]:List Bool) (Aw (St.lend (α:=Bool) (L:=L) x0 .hd D0 hL) hw9) I0) rfl<|Ag 39 1099511627775 b0 rfl c0 (fun _=>AS rfl) rfl<|AK (dk b0)<|Ak rfl<|AP hb0 Tryz.func190 rfl rfl ?_
 cases h
 exact x0.gv
 intro M0 A0 h
 try dsimp only at h
 refine MX.ifb rfl h (fun B0 h=>?_) (fun B0 h=>?_)
 refine Am<|Af rfl<|Af rfl<|Aa ?_
 exact A0 (0,0) _ _ ⟨rfl,rfl,rfl,rfl,trivial⟩ ⟨y0,AT _ _⟩ h
 refine Ao ?_
 exact A0 (1000000000,63) _ _ ⟨rfl,rfl,rfl,rfl,trivial⟩ ⟨y0,AT _ _⟩ h
def tb166_9:List (Nat × Nat × Nat):=[(0,35184372088832,2),(0,70368744177664,128),(3,140737488355328,105553116266496),(0,281474976710656,16),(0,562949953421312,128),(16,1125899906842624,562949953421312),(40,2251799813685248,1407374883553280),(64,4503599627370496,2251799813685248),(0,9007199254740992,128),(256,18014398509481984,9007199254740992),(516,36028797018963968,18014398509481984),(1024,72057594037927936,36028797018964000),(3072,144115188075855872,108086391056891904),(5120,288230376151711744,180143985094819840),(0,576460752303423488,64),(16384,1152921504606846976,576460752303423488),(33792,2305843009213693952,1152921504606846976),(65536,4611686018427387904,2305843009213694080),(196608,9223372036854775808,6917529027641081856),(327680,18446744073709551616,11529215046068469760),(589824,36893488147419103232,20752587082923245568),(1056900,73786976294838206464,37186362860686540800),(2162688,147573952589676412928,73786976294838206464),(4194304,295147905179352825856,147573952589676412928)]
theorem op_TUnit {w:World} {L:List Nat} {cs:List Value} {x:TUnit} (h:Rep.R w L cs x):∃ v2 v3 v4:Value,cs = [.string x.fp,vI x.fE,v2,v3,v4,.bool x.fu]∧Rep.R w L [v2] x.fh∧Rep.R w L [v3] x.fVotes∧Rep.R w L [v4] x.fF:=by
  obtain ⟨c0,r0,rfl,h0,h⟩:=h
  have e0:c0 = [.string x.fp]:=h0; subst e0
  obtain ⟨c1,r1,rfl,h1,h⟩:=h
  have e1:c1 = [vI x.fE]:=h1; subst e1
  obtain ⟨c2,r2,rfl,h2,h⟩:=h
  obtain ⟨v2,rfl,kv2⟩:=lst_one (xs:=x.fh) h2
  obtain ⟨c3,r3,rfl,h3,h⟩:=h
  obtain ⟨v3,rfl,kv3⟩:=lst_one (xs:=x.fVotes) h3
  obtain ⟨c4,r4,rfl,h4,h⟩:=h
  obtain ⟨v4,rfl,kv4⟩:=lst_one (xs:=x.fF) h4
  have e5:r4 = [.bool x.fu]:=h; subst e5
  exact ⟨v2,v3,v4,rfl,kv2,kv3,kv4⟩
theorem mk_TUnit {w:World} {L:List Nat} (a0:ByteArray) (a1:Int) (a2:List Int) {u2:Value} (h2:Rep.R w L [u2] a2) (a3:List Int) {u3:Value} (h3:Rep.R w L [u3] a3) (a4:List Int) {u4:Value} (h4:Rep.R w L [u4] a4) (a5:Bool):Rep.R w L [.string a0,vI a1,u2,u3,u4,.bool a5] (⟨a0,a1,a2,a3,a4,a5⟩:TUnit):=⟨[.string a0],[vI a1,u2,u3,u4,.bool a5],rfl,rfl,⟨[vI a1],[u2,u3,u4,.bool a5],rfl,rfl,⟨[u2],[u3,u4,.bool a5],rfl,h2,⟨[u3],[u4,.bool a5],rfl,h3,⟨[u4],[.bool a5],rfl,h4,rfl⟩⟩⟩⟩⟩
theorem body190:bodyB Tryz.prog 190 = true:=by kernel_rfl
def units_CheckRoll_l1 (n:Nat) (a0:TRoll) (g0:Bool × Nat × (List (ByteArray × Bool)) → Option (Int ⊕ Unit)):Bool × Nat × (List (ByteArray × Bool)) → Option (Int ⊕ Unit)
  | (k0,d0,c0)=>(if d0 < a0.fo.length then (a0.fo[d0]?).bind fun b0=>(units_right_p n a0 b0).bind fun j0=>(if b0.fu = true then (if 0 < d0 then (units_every_p n ([j0,(!(mgetD c0 b0.fp false)),true,true]:List Bool)).bind fun p0=>(if p0 = true then g0 (b0.fu,d0 + 1,mset c0 b0.fp true) else some (.inl (161:Int))) else (units_every_p n ([j0,(!(mgetD c0 b0.fp false)),true,(!b0.fu)]:List Bool)).bind fun q0=>(if q0 = true then g0 (b0.fu,d0 + 1,mset c0 b0.fp true) else some (.inl (161:Int)))) else (if 0 < d0 then (units_every_p n ([j0,(!(mgetD c0 b0.fp false)),(!k0),true]:List Bool)).bind fun s0=>(if s0 = true then g0 (b0.fu,d0 + 1,mset c0 b0.fp true) else some (.inl (161:Int))) else (units_every_p n ([j0,(!(mgetD c0 b0.fp false)),(!k0),(!b0.fu)]:List Bool)).bind fun t0=>(if t0 = true then g0 (b0.fu,d0 + 1,mset c0 b0.fp true) else some (.inl (161:Int))))) else some (.inr ()))
def units_CheckRoll_p (n:Nat) (a0:TRoll):Option Int:=
  (units_every_p n ([(decide (0 ≤ a0.fh)),(decide (a0.fh ≤ 6)),(decide (0 ≤ a0.fc)),(decide (a0.fc ≤ 12)),(decide (0 ≤ a0.fe)),(decide (a0.fe ≤ 3)),(decide (0 < a0.fo.length)),(decide (a0.fo.length ≤ 64))]:List Bool)).bind fun b0=>(if b0 = true then thn (loopF (units_CheckRoll_l1 n a0) n (false,0,([]:List (ByteArray × Bool)))) (fun _=>some (0:Int)) else some (161:Int))
theorem units_CheckRoll_c (n:Nat) (L:List Nat) (w:World) (hL:∀ b ∈ L,b < w.heap.size) (a0:TRoll) {v0_3:Value} (h0_3:Rep.R w L [v0_3] a0.fo)  {r:Int} (h:units_CheckRoll_p n a0 = some r) :
    Calls Tryz.prog 166 #[.agg #[vI a0.fh,vI a0.fc,vI a0.fe,v0_3]] w (Gives w fun _ u=>u = vI r):=by
 unfold units_CheckRoll_p at h
 have hS0:=Ay w
 refine AC Tryz.func166 rfl rfl rfl (fun _ cs0 hb0=>?_)
 refine Ac<|Al .plain rfl (Ax hS0 rfl rfl) (fun q3 D0 u0 c3=>?_)
 refine Af rfl<|Aa<|Ac<|Bd 3 rfl<|AZ rfl ((u0.memA .hd) 3 _ rfl) ?_
 have R0:=AH h0_3 u0
 have k3:a0.fo.length ≤ 281474976710656:=AQ R0
 refine Ab (Bb (xs:=a0.fo) Tryz.underlying56 rfl R0)<|Af rfl<|Aa<|Aj<|Ac<|Bd 0 rfl<|AZ rfl ((u0.memA .hd) 0 _ rfl)<|Ab (FV.geq (i:=a0.fh) (j:=0) rfl rfl)<|Bd 0 rfl<|AZ rfl ((u0.memA .hd) 0 _ rfl)<|Ab (FV.leq (i:=a0.fh) (j:=6) rfl rfl)<|Bd 1 rfl<|AZ rfl ((u0.memA .hd) 1 _ rfl)<|Ab (FV.geq (i:=a0.fc) (j:=0) rfl rfl)<|Bd 1 rfl<|AZ rfl ((u0.memA .hd) 1 _ rfl)<|Ab (FV.leq (i:=a0.fc) (j:=12) rfl rfl)<|Bd 2 rfl<|AZ rfl ((u0.memA .hd) 2 _ rfl)<|Ab (FV.geq (i:=a0.fe) (j:=0) rfl rfl)<|Bd 2 rfl<|AZ rfl ((u0.memA .hd) 2 _ rfl)<|Ab (FV.leq (i:=a0.fe) (j:=3) rfl rfl)<|Ae rfl ?_
 refine Ab (FV.gtrN (i:=a0.fo.length) (j:=0) rfl rfl)<|Ae rfl<|Ab (FV.leqN (i:=a0.fo.length) (j:=64) rfl rfl)<|Al .plain rfl (AY (α:=Bool) (xs:=([(decide (0 ≤ a0.fh)),(decide (a0.fh ≤ 6)),(decide (0 ≤ a0.fc)),(decide (a0.fc ≤ 12)),(decide (0 ≤ a0.fe)),(decide (a0.fe ≤ 3)),(decide (0 < a0.fo.length)),(decide (a0.fo.length ≤ 64))]:List Bool)) (vs:=[.bool (decide (0 ≤ a0.fh)),.bool (decide (a0.fh ≤ 6)),.bool (decide (0 ≤ a0.fc)),.bool (decide (a0.fc ≤ 12)),.bool (decide (0 ≤ a0.fe)),.bool (decide (a0.fe ≤ 3)),.bool (decide (0 < a0.fo.length)),.bool (decide (a0.fo.length ≤ 64))]) (ds' :=[.bool (decide (0 ≤ a0.fh)),.bool (decide (a0.fh ≤ 6)),.bool (decide (0 ≤ a0.fc)),.bool (decide (a0.fc ≤ 12)),.bool (decide (0 ≤ a0.fe)),.bool (decide (a0.fe ≤ 3)),.bool (decide (0 < a0.fo.length)),.bool (decide (a0.fo.length ≤ 64))]) rfl u0 el72 rfl (e8 rfl rfl rfl rfl rfl rfl rfl rfl) (by kernel_rfl) rfl) (fun s3 R2 B0 d3=>?_)
 have K1:=AB (cs:=[.bool (decide (0 ≤ a0.fh)),.bool (decide (a0.fh ≤ 6)),.bool (decide (0 ≤ a0.fc)),.bool (decide (a0.fc ≤ 12)),.bool (decide (0 ≤ a0.fe)),.bool (decide (a0.fe ≤ 3)),.bool (decide (0 < a0.fo.length)),.bool (decide (a0.fo.length ≤ 64))]) (xs:=(([(decide (0 ≤ a0.fh)),(decide (a0.fh ≤ 6)),(decide (0 ≤ a0.fc)),(decide (a0.fc ≤ 12)),(decide (0 ≤ a0.fe)),(decide (a0.fe ≤ 3)),(decide (0 < a0.fo.length)),(decide (a0.fo.length ≤ 64))]:List Bool):List Bool)) B0 L (Aq (cs:=[.bool (decide (0 ≤ a0.fh))]) (ds:=[.bool (decide (a0.fh ≤ 6)),.bool (decide (0 ≤ a0.fc)),.bool (decide (a0.fc ≤ 12)),.bool (decide (0 ≤ a0.fe)),.bool (decide (a0.fe ≤ 3)),.bool (decide (0 < a0.fo.length)),.bool (decide (a0.fo.length ≤ 64))]) rfl (Aq (cs:=[.bool (decide (a0.fh ≤ 6))]) (ds:=[.bool (decide (0 ≤ a0.fc)),.bool (decide (a0.fc ≤ 12)),.bool (decide (0 ≤ a0.fe)),.bool (decide (a0.fe ≤ 3)),.bool (decide (0 < a0.fo.length)),.bool (decide (a0.fo.length ≤ 64))]) rfl (Aq (cs:=[.bool (decide (0 ≤ a0.fc))]) (ds:=[.bool (decide (a0.fc ≤ 12)),.bool (decide (0 ≤ a0.fe)),.bool (decide (a0.fe ≤ 3)),.bool (decide (0 < a0.fo.length)),.bool (decide (a0.fo.length ≤ 64))]) rfl (Aq (cs:=[.bool (decide (a0.fc ≤ 12))]) (ds:=[.bool (decide (0 ≤ a0.fe)),.bool (decide (a0.fe ≤ 3)),.bool (decide (0 < a0.fo.length)),.bool (decide (a0.fo.length ≤ 64))]) rfl (Aq (cs:=[.bool (decide (0 ≤ a0.fe))]) (ds:=[.bool (decide (a0.fe ≤ 3)),.bool (decide (0 < a0.fo.length)),.bool (decide (a0.fo.length ≤ 64))]) rfl (Aq (cs:=[.bool (decide (a0.fe ≤ 3))]) (ds:=[.bool (decide (0 < a0.fo.length)),.bool (decide (a0.fo.length ≤ 64))]) rfl (Aq (cs:=[.bool (decide (0 < a0.fo.length))]) (ds:=[.bool (decide (a0.fo.length ≤ 64))]) rfl (Aq (cs:=[.bool (decide (a0.fo.length ≤ 64))]) (ds:=[]) rfl (AN _ _)))))))))
 obtain ⟨H2,x2,h⟩:=bi h
 refine Bc (.bool H2) body189 rfl (e1 rfl) (fun w9 hw9=>units_every_c n _ w9 (B0.hL0 hL hw9) ([(decide (0 ≤ a0.fh)),(decide (a0.fh ≤ 6)),(decide (0 ≤ a0.fc)),(decide (a0.fc ≤ 12)),(decide (0 ≤ a0.fe)),(decide (a0.fe ≤ 3)),(decide (0 < a0.fo.length)),(decide (a0.fo.length ≤ 64))]:List Bool) (Aw (St.lend (α:=Bool) (L:=L) B0 .hd K1 hL) hw9) x2) rfl<|Ab (Bz rfl)<|Aa<|MX.ifnb rfl h (fun Y0 h=>?_) (fun Y0 h=>?_)
 refine Ao<|Ac<|Al .plain rfl (Does.makeMap (κ:=ByteArray) (ν:=Bool) B0) (fun G2 E0 I0 j3=>?_)
 refine Af rfl<|Aa<|Ac<|Af rfl<|Aa<|Aj<|Ac<|Bd 3 rfl<|AZ rfl ((I0.memA (.tl (.tl .hd))) 3 _ rfl) ?_
 have j2:=AH h0_3 I0
 refine Ab (Bb (xs:=a0.fo) Tryz.underlying56 rfl j2)<|Ae rfl<|Aa<|Ar ?_
 obtain ⟨p1,g3⟩:=AL I0 (.one .hd (.one (.tl .hd) .done))
 obtain ⟨p3,k2,C0⟩:=thn_in h
 refine Be (α:=Bool × Nat × (List (ByteArray × Bool))) (fun ⟨p0,q0,d0⟩=>[(1,vP D0),(4,.map (some E0)),(5,.bool p0),(38,v0_3),(39,vI ((a0.fo.length:Nat):Int)),(40,vI ((q0:Nat):Int))]) (fun ⟨p0,q0,d0⟩ J0=>St w J0 [.obj E0 (mapO (d0:List (ByteArray × Bool))),.cells D0 [vI a0.fh,vI a0.fc,vI a0.fe,v0_3] 58]∧Tr G2 [.obj E0 (mapO ([]:List (ByteArray × Bool))),.cells D0 [vI a0.fh,vI a0.fc,vI a0.fe,v0_3] 58] J0 [.obj E0 (mapO (d0:List (ByteArray × Bool))),.cells D0 [vI a0.fh,vI a0.fc,vI a0.fe,v0_3] 58]) (fun ⟨p0,q0,d0⟩=>(p0,q0,d0)) (false,0,([]:List (ByteArray × Bool))) k2 ⟨rfl,rfl,rfl,rfl,rfl,rfl,trivial⟩ ⟨p1,AT _ _⟩ ?_
 rintro Q2 ⟨p0,q0,d0⟩ J0 F0 ⟨H0,G0⟩ h
 unfold units_CheckRoll_l1 at h
 try dsimp only at h
 refine Ac<|Ab (Bf (i:=q0) (j:=a0.fo.length) rfl rfl)<|Aa<|Aj<|AO rfl h (fun X0 h=>?_) (fun X0 h=>?_)
 refine Ao<|Aj<|Ar<|Ac<|Ae rfl ?_
 obtain ⟨b0,v2,h⟩:=bi h
 have X1:=AH h0_3 H0
 obtain ⟨P2,Z2,U1,V1,b3,u2,W1⟩:=Bk X1 v2
 obtain ⟨D2,E2,F2,rfl,U0,V0,W0⟩:=op_TUnit u2
 refine Ab (Bo 6 q0 rfl U1 rfl rfl V1)<|Ab (AJ rfl W1)<|Al .plain rfl (AA [.string ⟨#[]⟩,vI 0,vN,vN,vN,.bool false] H0) (fun t3 U2 q1 t0=>?_)
 refine Af rfl ?_
 have Y1:=Az U0 t0
 have Z1:=Az V0 t0
 have b2:=Az W0 t0
 refine AX [.string b0.fp,vI b0.fE,D2,E2,F2,.bool b0.fu] q1 .hd (o6 rfl rfl (Bg Y1) (Bg Z1) (Bg b2) rfl) (fun u3 s0 v0=>?_)
 refine Aa<|Aj<|Aj<|dt 24 tb166_9 (fun c0 g0=>?_)
 refine AF 0 1 16727044 c0 rfl g0 (AJ rfl (s0.memA (.tl (.tl .hd)))) rfl<|AF 1 3 16727044 c0 rfl g0 (AJ rfl (s0.memA .hd)) rfl ?_
 obtain ⟨j0,y2,h⟩:=bi h
 have c2:=Az U0 (Tt t0 v0)
 have d2:=Az V0 (Tt t0 v0)
 have g2:=Az W0 (Tt t0 v0)
 refine RD.cq 2 7 16727040 (.bool j0) c0 rfl g0 body190 rfl (e2 rfl rfl) (fun w9 hw9=>units_right_c n _ w9 (s0.hL0 hL hw9) a0 (s0.k0 h0_3 hw9) b0 (s0.kd c2 hw9) (s0.kd d2 hw9) (s0.kd g2 hw9) y2) rfl<|Ag 3 15 c0 rfl g0 (fun _=>Ai rfl) rfl<|Ag 4 31 c0 rfl g0 (fun _=>Bi 0 rfl) rfl<|AF 5 63 14680256 c0 rfl g0 (AG rfl ((s0.memA .hd) 0 _ rfl)) rfl<|AF 6 127 14680192 c0 rfl g0 (FV.lookup (kv:=b0.fp) (z:=false) s0 (.tl .hd) Tryz.underlying104 Tryz.underlying9 rfl (by kernel_rfl) rfl rfl) rfl<|Ag 7 255 c0 rfl g0 (fun _=>Bz rfl) rfl<|Ag 8 511 c0 rfl g0 (fun _=>Bi 5 rfl) rfl<|AF 9 1023 16727040 c0 rfl g0 (AG rfl ((s0.memA .hd) 5 _ rfl)) rfl<|Ag 10 2047 c0 rfl g0 (fun _=>Ai rfl) rfl<|RD.ifb (s:=55) rfl h (fun Z0 h=>?_) (fun Z0 h=>?_)
 refine Ba 8191 11 [(11,56),(12,57)] (F:=[(55,true)]) (U:=[]) c0 g0 (.cons rfl .nil) .nil ?_
 dsimp only [offS,List.map]
 refine Ag 13 16383 c0 rfl g0 (fun _=>FV.pick_t rfl rfl) rfl<|Ag 14 32767 c0 rfl g0 (fun _=>Ai rfl) rfl<|Ag 15 65535 c0 rfl g0 (fun _=>FV.gtrN (i:=q0) (j:=0) rfl rfl) rfl<|Ag 16 131071 c0 rfl g0 (fun _=>Ai rfl) rfl<|RD.ifd (s:=61) rfl h (fun b1 h=>?_) (fun b1 h=>?_)
 refine Ba 1048575 4 [(17,62),(18,63),(19,64)] (F:=[(61,true)]) (U:=[]) c0 g0 (.cons rfl .nil) .nil ?_
 dsimp only [offS,List.map]
 refine Ag 20 2097151 c0 rfl g0 (fun _=>FV.pick_t rfl rfl) rfl<|RD.nu 21 4194303 c0 rfl .plain rfl (AY (α:=Bool) (xs:=([j0,(!(mgetD d0 b0.fp false)),true,true]:List Bool)) (vs:=[.bool j0,.bool (!(mgetD d0 b0.fp false)),.bool true,.bool true]) (ds' :=[.bool j0,.bool (!(mgetD d0 b0.fp false)),.bool true,.bool true]) rfl s0 el72 rfl (e4 rfl rfl rfl rfl) (by kernel_rfl) rfl) (fun v3 V2 x0 y1=>?_)
 have M1:=AB (cs:=[.bool j0,.bool (!(mgetD d0 b0.fp false)),.bool true,.bool true]) (xs:=(([j0,(!(mgetD d0 b0.fp false)),true,true]:List Bool):List Bool)) x0 L (Aq (cs:=[.bool j0]) (ds:=[.bool (!(mgetD d0 b0.fp false)),.bool true,.bool true]) rfl (Aq (cs:=[.bool (!(mgetD d0 b0.fp false))]) (ds:=[.bool true,.bool true]) rfl (Aq (cs:=[.bool true]) (ds:=[.bool true]) rfl (Aq (cs:=[.bool true]) (ds:=[]) rfl (AN _ _)))))
 obtain ⟨I2,z2,h⟩:=bi h
 refine RD.cq 22 8388607 8388608 (.bool I2) c0 rfl g0 body189 rfl (e1 rfl) (fun w9 hw9=>units_every_c n _ w9 (x0.hL0 hL hw9) ([j0,(!(mgetD d0 b0.fp false)),true,true]:List Bool) (Aw (St.lend (α:=Bool) (L:=L) x0 .hd M1 hL) hw9) z2) rfl<|Ag 23 16777215 c0 rfl g0 (fun _=>Bz rfl) rfl<|AK (dk c0)<|MX.ifnb rfl h (fun c1 h=>?_) (fun c1 h=>?_)
 refine Ao<|Ac<|Ae rfl<|Bd 0 rfl<|AZ rfl ((x0.memA (.tl .hd)) 0 _ rfl)<|RG.now .plain (Acts.mapUpdate (kv:=b0.fp) (vv:=true) x0 (.tl (.tl .hd)) Tryz.underlying104 Tryz.underlying9 rfl rfl rfl rfl) (fun x3 K0 z1=>?_)
 refine Aa<|Am<|Bd 5 rfl<|AZ rfl ((K0.memA (.tl .hd)) 5 _ rfl)<|Af rfl<|Aa<|Au<|Am<|Ab (Bh (i:=q0) (j:=1) rfl rfl (by omega))<|Ae rfl<|Aa ?_
 obtain ⟨s1,A1⟩:=AL K0 (.one (.tl (.tl .hd)) (.one (.tl (.tl .hd)) .done))
 have p2:=Tt t0 (Tt v0 (Tt y1 (Tt z1 A1)))
 exact F0 (b0.fu,q0 + 1,mset d0 b0.fp true) _ _ ⟨rfl,rfl,rfl,rfl,rfl,rfl,trivial⟩ ⟨s1,(Tt G0 p2)⟩ h
 refine Ac<|Af rfl<|Aa ?_
 have h:=thn_inl h C0
 refine Ak rfl<|AP hb0 Tryz.func166 rfl rfl ?_
 cases h
 exact x0.gv
 refine RD.vP 17 262143 c0 rfl g0 (.yes rfl rfl) (fun _=>Bi 5 rfl) rfl<|RD.val (i:=18) (m' :=524287) (W:=16252928) (tk c0) rfl g0 (.yes rfl rfl) (AG rfl ((s0.memA .hd) 5 _ rfl)) rfl<|RD.vP 19 1048575 c0 rfl g0 (.yes rfl rfl) (fun _=>Bz rfl) rfl<|Ag 20 2097151 c0 rfl g0 (fun _=>AI rfl rfl) rfl<|RD.nu 21 4194303 c0 rfl .plain rfl (AY (α:=Bool) (xs:=([j0,(!(mgetD d0 b0.fp false)),true,(!b0.fu)]:List Bool)) (vs:=[.bool j0,.bool (!(mgetD d0 b0.fp false)),.bool true,.bool (!b0.fu)]) (ds' :=[.bool j0,.bool (!(mgetD d0 b0.fp false)),.bool true,.bool (!b0.fu)]) rfl s0 el72 rfl (e4 rfl rfl rfl rfl) (by kernel_rfl) rfl) (fun y3 W2 y0 B1=>?_)
 have P1:=AB (cs:=[.bool j0,.bool (!(mgetD d0 b0.fp false)),.bool true,.bool (!b0.fu)]) (xs:=(([j0,(!(mgetD d0 b0.fp false)),true,(!b0.fu)]:List Bool):List Bool)) y0 L (Aq (cs:=[.bool j0]) (ds:=[.bool (!(mgetD d0 b0.fp false)),.bool true,.bool (!b0.fu)]) rfl (Aq (cs:=[.bool (!(mgetD d0 b0.fp false))]) (ds:=[.bool true,.bool (!b0.fu)]) rfl (Aq (cs:=[.bool true]) (ds:=[.bool (!b0.fu)]) rfl (Aq (cs:=[.bool (!b0.fu)]) (ds:=[]) rfl (AN _ _)))))
 obtain ⟨J2,A2,h⟩:=bi h
 refine RD.cq 22 8388607 8388608 (.bool J2) c0 rfl g0 body189 rfl (e1 rfl) (fun w9 hw9=>units_every_c n _ w9 (y0.hL0 hL hw9) ([j0,(!(mgetD d0 b0.fp false)),true,(!b0.fu)]:List Bool) (Aw (St.lend (α:=Bool) (L:=L) y0 .hd P1 hL) hw9) A2) rfl<|Ag 23 16777215 c0 rfl g0 (fun _=>Bz rfl) rfl<|AK (dk c0)<|MX.ifnb rfl h (fun d1 h=>?_) (fun d1 h=>?_)
 refine Ao<|Ac<|Ae rfl<|Bd 0 rfl<|AZ rfl ((y0.memA (.tl .hd)) 0 _ rfl)<|RG.now .plain (Acts.mapUpdate (kv:=b0.fp) (vv:=true) y0 (.tl (.tl .hd)) Tryz.underlying104 Tryz.underlying9 rfl rfl rfl rfl) (fun z3 M0 C1=>?_)
 refine Aa<|Am<|Bd 5 rfl<|AZ rfl ((M0.memA (.tl .hd)) 5 _ rfl)<|Af rfl<|Aa<|Au<|Am<|Ab (Bh (i:=q0) (j:=1) rfl rfl (by omega))<|Ae rfl<|Aa ?_
 obtain ⟨u1,D1⟩:=AL M0 (.one (.tl (.tl .hd)) (.one (.tl (.tl .hd)) .done))
 have q2:=Tt t0 (Tt v0 (Tt B1 (Tt C1 D1)))
 exact F0 (b0.fu,q0 + 1,mset d0 b0.fp true) _ _ ⟨rfl,rfl,rfl,rfl,rfl,rfl,trivial⟩ ⟨u1,(Tt G0 q2)⟩ h
 refine Ac<|Af rfl<|Aa ?_
 have h:=thn_inl h C0
 refine Ak rfl<|AP hb0 Tryz.func166 rfl rfl ?_
 cases h
 exact y0.gv
 refine RD.vP 11 4095 c0 rfl g0 (.yes rfl rfl) (fun _=>Ai rfl) rfl<|RD.vP 12 8191 c0 rfl g0 (.yes rfl rfl) (fun _=>Bz rfl) rfl<|Ag 13 16383 c0 rfl g0 (fun _=>AI rfl rfl) rfl<|Ag 14 32767 c0 rfl g0 (fun _=>Ai rfl) rfl<|Ag 15 65535 c0 rfl g0 (fun _=>FV.gtrN (i:=q0) (j:=0) rfl rfl) rfl<|Ag 16 131071 c0 rfl g0 (fun _=>Ai rfl) rfl<|RD.ifd (s:=61) rfl h (fun g1 h=>?_) (fun g1 h=>?_)
 refine Ba 1048575 4 [(17,62),(18,63),(19,64)] (F:=[(61,true)]) (U:=[]) c0 g0 (.cons rfl .nil) .nil ?_
 dsimp only [offS,List.map]
 refine Ag 20 2097151 c0 rfl g0 (fun _=>FV.pick_t rfl rfl) rfl<|RD.nu 21 4194303 c0 rfl .plain rfl (AY (α:=Bool) (xs:=([j0,(!(mgetD d0 b0.fp false)),(!p0),true]:List Bool)) (vs:=[.bool j0,.bool (!(mgetD d0 b0.fp false)),.bool (!p0),.bool true]) (ds' :=[.bool j0,.bool (!(mgetD d0 b0.fp false)),.bool (!p0),.bool true]) rfl s0 el72 rfl (e4 rfl rfl rfl rfl) (by kernel_rfl) rfl) (fun A3 X2 z0 E1=>?_)
 have Q1:=AB (cs:=[.bool j0,.bool (!(mgetD d0 b0.fp false)),.bool (!p0),.bool true]) (xs:=(([j0,(!(mgetD d0 b0.fp false)),(!p0),true]:List Bool):List Bool)) z0 L (Aq (cs:=[.bool j0]) (ds:=[.bool (!(mgetD d0 b0.fp false)),.bool (!p0),.bool true]) rfl (Aq (cs:=[.bool (!(mgetD d0 b0.fp false))]) (ds:=[.bool (!p0),.bool true]) rfl (Aq (cs:=[.bool (!p0)]) (ds:=[.bool true]) rfl (Aq (cs:=[.bool true]) (ds:=[]) rfl (AN _ _)))))
 obtain ⟨K2,B2,h⟩:=bi h
 refine RD.cq 22 8388607 8388608 (.bool K2) c0 rfl g0 body189 rfl (e1 rfl) (fun w9 hw9=>units_every_c n _ w9 (z0.hL0 hL hw9) ([j0,(!(mgetD d0 b0.fp false)),(!p0),true]:List Bool) (Aw (St.lend (α:=Bool) (L:=L) z0 .hd Q1 hL) hw9) B2) rfl<|Ag 23 16777215 c0 rfl g0 (fun _=>Bz rfl) rfl<|AK (dk c0)<|MX.ifnb rfl h (fun j1 h=>?_) (fun j1 h=>?_)
 refine Ao<|Ac<|Ae rfl<|Bd 0 rfl<|AZ rfl ((z0.memA (.tl .hd)) 0 _ rfl)<|RG.now .plain (Acts.mapUpdate (kv:=b0.fp) (vv:=true) z0 (.tl (.tl .hd)) Tryz.underlying104 Tryz.underlying9 rfl rfl rfl rfl) (fun B3 P0 F1=>?_)
 refine Aa<|Am<|Bd 5 rfl<|AZ rfl ((P0.memA (.tl .hd)) 5 _ rfl)<|Af rfl<|Aa<|Au<|Am<|Ab (Bh (i:=q0) (j:=1) rfl rfl (by omega))<|Ae rfl<|Aa ?_
 obtain ⟨v1,G1⟩:=AL P0 (.one (.tl (.tl .hd)) (.one (.tl (.tl .hd)) .done))
 have s2:=Tt t0 (Tt v0 (Tt E1 (Tt F1 G1)))
 exact F0 (b0.fu,q0 + 1,mset d0 b0.fp true) _ _ ⟨rfl,rfl,rfl,rfl,rfl,rfl,trivial⟩ ⟨v1,(Tt G0 s2)⟩ h
 refine Ac<|Af rfl<|Aa ?_
 have h:=thn_inl h C0
 refine Ak rfl<|AP hb0 Tryz.func166 rfl rfl ?_
 cases h
 exact z0.gv
 refine RD.vP 17 262143 c0 rfl g0 (.yes rfl rfl) (fun _=>Bi 5 rfl) rfl<|RD.val (i:=18) (m' :=524287) (W:=16252928) (tk c0) rfl g0 (.yes rfl rfl) (AG rfl ((s0.memA .hd) 5 _ rfl)) rfl<|RD.vP 19 1048575 c0 rfl g0 (.yes rfl rfl) (fun _=>Bz rfl) rfl<|Ag 20 2097151 c0 rfl g0 (fun _=>AI rfl rfl) rfl<|RD.nu 21 4194303 c0 rfl .plain rfl (AY (α:=Bool) (xs:=([j0,(!(mgetD d0 b0.fp false)),(!p0),(!b0.fu)]:List Bool)) (vs:=[.bool j0,.bool (!(mgetD d0 b0.fp false)),.bool (!p0),.bool (!b0.fu)]) (ds' :=[.bool j0,.bool (!(mgetD d0 b0.fp false)),.bool (!p0),.bool (!b0.fu)]) rfl s0 el72 rfl (e4 rfl rfl rfl rfl) (by kernel_rfl) rfl) (fun C3 Y2 A0 H1=>?_)
 have R1:=AB (cs:=[.bool j0,.bool (!(mgetD d0 b0.fp false)),.bool (!p0),.bool (!b0.fu)]) (xs:=(([j0,(!(mgetD d0 b0.fp false)),(!p0),(!b0.fu)]:List Bool):List Bool)) A0 L (Aq (cs:=[.bool j0]) (ds:=[.bool (!(mgetD d0 b0.fp false)),.bool (!p0),.bool (!b0.fu)]) rfl (Aq (cs:=[.bool (!(mgetD d0 b0.fp false))]) (ds:=[.bool (!p0),.bool (!b0.fu)]) rfl (Aq (cs:=[.bool (!p0)]) (ds:=[.bool (!b0.fu)]) rfl (Aq (cs:=[.bool (!b0.fu)]) (ds:=[]) rfl (AN _ _)))))
 obtain ⟨M2,C2,h⟩:=bi h
 refine RD.cq 22 8388607 8388608 (.bool M2) c0 rfl g0 body189 rfl (e1 rfl) (fun w9 hw9=>units_every_c n _ w9 (A0.hL0 hL hw9) ([j0,(!(mgetD d0 b0.fp false)),(!p0),(!b0.fu)]:List Bool) (Aw (St.lend (α:=Bool) (L:=L) A0 .hd R1 hL) hw9) C2) rfl<|Ag 23 16777215 c0 rfl g0 (fun _=>Bz rfl) rfl<|AK (dk c0)<|MX.ifnb rfl h (fun k1 h=>?_) (fun k1 h=>?_)
 refine Ao<|Ac<|Ae rfl<|Bd 0 rfl<|AZ rfl ((A0.memA (.tl .hd)) 0 _ rfl)<|RG.now .plain (Acts.mapUpdate (kv:=b0.fp) (vv:=true) A0 (.tl (.tl .hd)) Tryz.underlying104 Tryz.underlying9 rfl rfl rfl rfl) (fun D3 Q0 I1=>?_)
 refine Aa<|Am<|Bd 5 rfl<|AZ rfl ((Q0.memA (.tl .hd)) 5 _ rfl)<|Af rfl<|Aa<|Au<|Am<|Ab (Bh (i:=q0) (j:=1) rfl rfl (by omega))<|Ae rfl<|Aa ?_
 obtain ⟨x1,J1⟩:=AL Q0 (.one (.tl (.tl .hd)) (.one (.tl (.tl .hd)) .done))
 have t2:=Tt t0 (Tt v0 (Tt H1 (Tt I1 J1)))
 exact F0 (b0.fu,q0 + 1,mset d0 b0.fp true) _ _ ⟨rfl,rfl,rfl,rfl,rfl,rfl,trivial⟩ ⟨x1,(Tt G0 t2)⟩ h
 refine Ac<|Af rfl<|Aa ?_
 have h:=thn_inl h C0
 refine Ak rfl<|AP hb0 Tryz.func166 rfl rfl ?_
 cases h
 exact A0.gv
 refine AW rfl ?_
 have h:=thn_inr h C0
 try dsimp only at h
 refine Ac<|Af rfl<|Aa<|Ak rfl<|AP hb0 Tryz.func166 rfl rfl ?_
 cases h
 exact H0.gv
 refine Ac<|Af rfl<|Aa<|Ak rfl<|AP hb0 Tryz.func166 rfl rfl ?_
 cases h
 exact B0.gv
theorem body165:bodyB Tryz.prog 165 = true:=by kernel_rfl
def balance_fail_p (n:Nat) (a0:Bool) (a1:Int):Option (Except Tbroken Unit):=
  (if a0 = true then (balance_need_p n a1).bind fun y2=>exc y2 (fun _y11=>some (.ok ())) (fun b0=>some (.error b0)) else some (.ok ()))
theorem balance_fail_c (n:Nat) (L:List Nat) (w:World) (hL:∀ b ∈ L,b < w.heap.size) (a0:Bool) (a1:Int)  {r:Except Tbroken Unit} (h:balance_fail_p n a0 a1 = some r) :
    Calls Tryz.prog 167 #[.bool a0,vI a1] w (PGives w (fun (_y:Unit) _ u=>u = .tuple #[]) (fun e=>.iface 237 (.agg #[vI e.fw])) r):=by
 unfold balance_fail_p at h
 have hS0:=Ay w
 refine MX.startP Tryz.func167 rfl rfl rfl (fun _ cs0 hb0 hp0=>?_)
 refine Ac<|Ae rfl<|Aa<|MX.ifb rfl h (fun c1 h=>?_) (fun c1 h=>?_)
 refine Am<|Ae rfl ?_
 obtain ⟨y2,hy2,h⟩:=bi h
 rcases y2 with d0 | k0
 have h:=exc_e h
 try dsimp only at h
 refine Bw (fst:=[]) (cap:=[]) .plain body165 rfl (e1 rfl) (fun w9 hw9=>balance_need_c n _ w9 (hS0.hL0 hL hw9) a1 hy2) (fun j0 c0=>?_)
 obtain ⟨b0,g0⟩:=hS0.agr c0
 cases h
 exact Bm hp0 Tryz.func167 ⟨b0.ag,rfl⟩
 have h:=exc_o h
 try dsimp only at h
 refine Bc (.tuple #[]) body165 rfl (e1 rfl) (fun w9 hw9=>Bl (balance_need_c n _ w9 (hS0.hL0 hL hw9) a1 hy2)) rfl<|Aa<|MX.fin rfl<|Ap hb0 Tryz.func167 rfl .nil rfl ?_
 cases h
 exact ⟨hS0.ag,fun w9 hw9=>okOf_in rfl⟩
 refine Ao<|MX.fin rfl<|Ap hb0 Tryz.func167 rfl .nil rfl ?_
 cases h
 exact ⟨hS0.ag,fun w9 hw9=>okOf_in rfl⟩
structure Tcount where
  fv:TRoll
  fk:Int
  deriving DecidableEq
instance:Rep Tcount:=Rep.via (β:=TRoll × Int) fun x=>(x.fv,x.fk)
theorem body166:bodyB Tryz.prog 166 = true:=by kernel_rfl
theorem body167:bodyB Tryz.prog 167 = true:=by kernel_rfl
def balance_counted_p (n:Nat) (a0:TRoll) (a1:Int):Option (Except Tbroken Tcount):=
  (units_CheckRoll_p n a0).bind fun g0=>(balance_need_p n g0).bind fun j0=>exc j0 (fun _y23=>(if a1 < 1 then (balance_fail_p n true (2:Int)).bind fun k0=>exc k0 (fun _y32=>some (.ok (⟨a0,a1⟩:Tcount))) (fun c0=>some (.error c0)) else (balance_fail_p n (decide (8 < a1)) (2:Int)).bind fun p0=>exc p0 (fun _y47=>some (.ok (⟨a0,a1⟩:Tcount))) (fun d0=>some (.error d0)))) (fun b0=>some (.error b0))
theorem balance_counted_c (n:Nat) (L:List Nat) (w:World) (hL:∀ b ∈ L,b < w.heap.size) (a0:TRoll) {v0_3:Value} (h0_3:Rep.R w L [v0_3] a0.fo) (a1:Int)  {r:Except Tbroken Tcount} (h:balance_counted_p n a0 a1 = some r) :
    Calls Tryz.prog 131 #[.agg #[vI a0.fh,vI a0.fc,vI a0.fe,v0_3],vI a1] w (PGives w (fun (y:Tcount) w' u=>∃ v0_3:Value,u = .agg #[vI y.fv.fh,vI y.fv.fc,vI y.fv.fe,v0_3,vI y.fk]∧Rep.R w' L [v0_3] y.fv.fo) (fun e=>.iface 237 (.agg #[vI e.fw])) r):=by
 unfold balance_counted_p at h
 have hS0:=Ay w
 refine MX.startP Tryz.func131 rfl rfl rfl (fun _ cs0 hb0 hp0=>?_)
 refine Ac<|Al .plain rfl (Ax hS0 rfl rfl) (fun j1 M0 v0 X0=>?_)
 refine Al .plain rfl (AA [vI 0,vI 0,vI 0,vN,vI 0] v0) (fun k1 P0 b0 Y0=>?_)
 refine Aa<|Ac<|Ab (AJ rfl (b0.memA (.tl .hd))) ?_
 obtain ⟨g0,F0,h⟩:=bi h
 refine Bc (vI g0) body166 rfl (e1 rfl) (fun w9 hw9=>units_CheckRoll_c n _ w9 (b0.hL0 hL hw9) a0 (b0.k0 h0_3 hw9) F0) rfl ?_
 obtain ⟨G0,q0,h⟩:=bi h
 rcases G0 with U0 | v1
 have h:=exc_e h
 try dsimp only at h
 refine Bw (fst:=[]) (cap:=[]) .plain body165 rfl (e1 rfl) (fun w9 hw9=>balance_need_c n _ w9 (b0.hL0 hL hw9) g0 q0) (fun p1 A0=>?_)
 obtain ⟨x0,Z0⟩:=b0.agr A0
 cases h
 exact Bm hp0 Tryz.func131 ⟨x0.ag,rfl⟩
 have h:=exc_o h
 try dsimp only at h
 refine Bc (.tuple #[]) body165 rfl (e1 rfl) (fun w9 hw9=>Bl (balance_need_c n _ w9 (b0.hL0 hL hw9) g0 q0)) rfl<|Aa<|Ac<|Ae rfl<|Ab (FV.lss (i:=a1) (j:=1) rfl rfl)<|Ae rfl<|RG.ifd (s:=10) rfl h (fun u0 h=>?_) (fun u0 h=>?_)
 refine AE<|AE<|RG.pt rfl rfl ?_
 obtain ⟨H0,s0,h⟩:=bi h
 rcases H0 with V0 | x1
 have h:=exc_e h
 try dsimp only at h
 refine Bw (fst:=[]) (cap:=[]) .plain body167 rfl (e2 rfl rfl) (fun w9 hw9=>balance_fail_c n _ w9 (b0.hL0 hL hw9) true (2:Int) s0) (fun q1 B0=>?_)
 obtain ⟨y0,b1⟩:=b0.agr B0
 cases h
 exact Bm hp0 Tryz.func131 ⟨y0.ag,rfl⟩
 have h:=exc_o h
 try dsimp only at h
 refine Bc (.tuple #[]) body167 rfl (e2 rfl rfl) (fun w9 hw9=>Bl (balance_fail_c n _ w9 (b0.hL0 hL hw9) true (2:Int) s0)) rfl<|Aa<|Ac<|Ab (AJ rfl (b0.memA (.tl .hd)))<|Ae rfl ?_
 have j0:=AH h0_3 b0
 obtain ⟨J0,Q0,D0,_⟩:=Rep.sl j0
 refine Ab (AV (vs:=[.agg #[vI a0.fh,vI a0.fc,vI a0.fe,v0_3],vI a1]) (u:=.agg #[vI a0.fh,vI a0.fc,vI a0.fe,v0_3,vI a1]) (e2 rfl rfl) (fun w9=>by rw [D0]; try kernel_rfl))<|AX [vI a0.fh,vI a0.fc,vI a0.fe,v0_3,vI a1] b0 .hd (o5 rfl rfl rfl (Bg j0) rfl) (fun s1 c0 c1=>?_)
 refine Aa<|Ak rfl<|Ap hb0 Tryz.func131 rfl (.cons (.many (cs:=[vI a0.fh,vI a0.fc,vI a0.fe,v0_3,vI a1]) (by kernel_rfl) rfl (c0.memA .hd)) .nil) rfl ?_
 cases h
 exact ⟨c0.ag,fun w9 hw9=>okOf_in ⟨v0_3,rfl,c0.k0 h0_3 hw9⟩⟩
 refine AU (Ai rfl)<|AU (FV.gtr (i:=a1) (j:=8) rfl rfl)<|RG.pf rfl rfl ?_
 obtain ⟨I0,t0,h⟩:=bi h
 rcases I0 with W0 | y1
 have h:=exc_e h
 try dsimp only at h
 refine Bw (fst:=[]) (cap:=[]) .plain body167 rfl (e2 rfl rfl) (fun w9 hw9=>balance_fail_c n _ w9 (b0.hL0 hL hw9) (decide (8 < a1)) (2:Int) t0) (fun t1 C0=>?_)
 obtain ⟨z0,d1⟩:=b0.agr C0
 cases h
 exact Bm hp0 Tryz.func131 ⟨z0.ag,rfl⟩
 have h:=exc_o h
 try dsimp only at h
 refine Bc (.tuple #[]) body167 rfl (e2 rfl rfl) (fun w9 hw9=>Bl (balance_fail_c n _ w9 (b0.hL0 hL hw9) (decide (8 < a1)) (2:Int) t0)) rfl<|Aa<|Ac<|Ab (AJ rfl (b0.memA (.tl .hd)))<|Ae rfl ?_
 have p0:=AH h0_3 b0
 obtain ⟨K0,R0,E0,_⟩:=Rep.sl p0
 refine Ab (AV (vs:=[.agg #[vI a0.fh,vI a0.fc,vI a0.fe,v0_3],vI a1]) (u:=.agg #[vI a0.fh,vI a0.fc,vI a0.fe,v0_3,vI a1]) (e2 rfl rfl) (fun w9=>by rw [E0]; try kernel_rfl))<|AX [vI a0.fh,vI a0.fc,vI a0.fe,v0_3,vI a1] b0 .hd (o5 rfl rfl rfl (Bg p0) rfl) (fun u1 d0 g1=>?_)
 refine Aa<|Ak rfl<|Ap hb0 Tryz.func131 rfl (.cons (.many (cs:=[vI a0.fh,vI a0.fc,vI a0.fe,v0_3,vI a1]) (by kernel_rfl) rfl (d0.memA .hd)) .nil) rfl ?_
 cases h
 exact ⟨d0.ag,fun w9 hw9=>okOf_in ⟨v0_3,rfl,d0.k0 h0_3 hw9⟩⟩
theorem balance_count_land_c (_n:Nat) (L:List Nat) (w:World) (_hL:∀ b ∈ L,b < w.heap.size) (a0:Tcount) {v0_3:Value} (_h0_3:Rep.R w L [v0_3] a0.fv.fo)  :
    Calls Tryz.prog 168 #[.agg #[vI a0.fv.fh,vI a0.fv.fc,vI a0.fv.fe,v0_3,vI a0.fk]] w (Gives w fun w' u=>∃ b0:Nat,u = .func (.func 191) #[] #[vP b0]∧St w w' [.cells b0 [vI a0.fv.fh,vI a0.fv.fc,vI a0.fv.fe,v0_3,vI a0.fk] 206]):=by
 have hS0:=Ay w
 refine AC Tryz.func168 rfl rfl rfl (fun _ cs0 hb0=>?_)
 refine Ac<|Al .plain rfl (Ax hS0 rfl rfl) (fun g0 b0 c0 d0=>?_)
 refine Af rfl<|Aa<|Ac<|Ab (FV.makeFunc (vs:=[]) (us:=[vP b0]) evs_nil (e1 rfl))<|Af rfl<|Aa<|Ak rfl<|Ap (u:=.func (.func 191) #[] #[vP b0]) hb0 Tryz.func168 rfl (.cons (.tmp rfl) .nil) rfl ?_
 exact ⟨c0.ag,fun w9 hw9=>⟨b0,rfl,c0.agree hw9⟩⟩
theorem body168:bodyB Tryz.prog 168 = true:=by kernel_rfl
theorem body191:bodyB Tryz.prog 191 = true:=by kernel_rfl
def balance_count_check_l1 (n:Nat) (a1:List Int) (a0:Tcount) (g0:Nat × (List (Int × Bool)) → Option ((Except Tbroken Unit) ⊕ (List (Int × Bool)))):Nat × (List (Int × Bool)) → Option ((Except Tbroken Unit) ⊕ (List (Int × Bool)))
  | (b0,d0)=>(if b0 < a1.length then (a1[b0]?).bind fun c0=>(if c0 < 0 then (balance_fail_p n true (220:Int)).bind fun p0=>exc p0 (fun _y289=>g0 (b0 + 1,mset d0 c0 true)) (fun j0=>some (.inl (.error j0))) else (balance_fail_p n (decide (a0.fk ≤ c0)) (220:Int)).bind fun q0=>exc q0 (fun _y305=>g0 (b0 + 1,mset d0 c0 true)) (fun k0=>some (.inl (.error k0)))) else some (.inr d0))
def balance_count_check_l2 (n:Nat) (a1:List Int) (a0:Tcount) (g0:Nat × (List (Int × Bool)) → Option ((Except Tbroken Unit) ⊕ (List (Int × Bool)))):Nat × (List (Int × Bool)) → Option ((Except Tbroken Unit) ⊕ (List (Int × Bool)))
  | (b0,d0)=>(if b0 < a1.length then (a1[b0]?).bind fun c0=>(if c0 < 0 then (balance_fail_p n true (220:Int)).bind fun p0=>exc p0 (fun _y467=>g0 (b0 + 1,mset d0 c0 true)) (fun j0=>some (.inl (.error j0))) else (balance_fail_p n (decide (a0.fk ≤ c0)) (220:Int)).bind fun q0=>exc q0 (fun _y483=>g0 (b0 + 1,mset d0 c0 true)) (fun k0=>some (.inl (.error k0)))) else some (.inr d0))
def balance_count_check_l3 (n:Nat) (a0:Tcount) (a1:List Int) (g0:Nat × Int → Option ((Except Tbroken Unit) ⊕ Int)):Nat × Int → Option ((Except Tbroken Unit) ⊕ Int)
  | (b0,c0)=>(if b0 < a0.fv.fo.length then (a0.fv.fo[b0]?).bind fun q0=>(if q0.fu = true then ((balance_fail_p n (!(decide (((a1.length:Nat):Int) = c0))) (220:Int)).bind fun s0=>exc s0 (fun _y184=>thn (loopF (balance_count_check_l1 n a1 a0) n (0,([]:List (Int × Bool)))) (fun d0=>(balance_fail_p n (!(decide (((d0.length:Nat):Int) = a0.fk))) (220:Int)).bind fun t0=>exc t0 (fun _y321=>some (.ok ())) (fun k0=>some (.error k0)))) (fun j0=>some (.error j0))).map .inl else (chk (c0 + 1)).bind fun p0=>g0 (b0 + 1,p0)) else some (.inr c0))
def balance_count_check_p (n:Nat) (a0:Tcount) (a1:List Int):Option (Except Tbroken Unit):=
  thn (loopF (balance_count_check_l3 n a0 a1) n (0,0)) (fun k0=>(balance_fail_p n (!(decide (((a1.length:Nat):Int) = k0))) (220:Int)).bind fun g0=>exc g0 (fun _y362=>thn (loopF (balance_count_check_l2 n a1 a0) n (0,([]:List (Int × Bool)))) (fun b0=>(balance_fail_p n (!(decide (((b0.length:Nat):Int) = a0.fk))) (220:Int)).bind fun j0=>exc j0 (fun _y499=>some (.ok ())) (fun d0=>some (.error d0)))) (fun c0=>some (.error c0)))
theorem balance_count_check_c (n:Nat) (L:List Nat) (w:World) (hL:∀ b ∈ L,b < w.heap.size) (a0:Tcount) {v0_3:Value} (h0_3:Rep.R w L [v0_3] a0.fv.fo) (a1:List Int) {v1_0:Value} (h1_0:Rep.R w L [v1_0] a1)  {r:Except Tbroken Unit} (h:balance_count_check_p n a0 a1 = some r) :
    Calls Tryz.prog 132 #[.agg #[vI a0.fv.fh,vI a0.fv.fc,vI a0.fv.fe,v0_3,vI a0.fk],v1_0] w (PGives w (fun (_y:Unit) _ u=>u = .tuple #[]) (fun e=>.iface 237 (.agg #[vI e.fw])) r):=by
 unfold balance_count_check_p at h
 have hS0:=Ay w
 refine MX.startP Tryz.func132 rfl rfl rfl (fun _ cs0 hb0 hp0=>?_)
 refine Ac<|Al .plain rfl (Ax hS0 rfl rfl) (fun U6 k0 R1 A5=>?_)
 refine Aa<|Ac<|Al .plain rfl (AA [vI 0] R1) (fun V6 H0 V1 D5=>?_)
 refine AX [vI 0] V1 .hd (o1 rfl) (fun E4 C0 I5=>?_)
 refine Aa<|Aj<|Ac<|Ab (AJ rfl (C0.memA (.tl .hd)))<|Bp (fst:=[]) (cap:=[]) .plain body168 rfl (e1 rfl) (fun w9 hw9=>Calls.gives (balance_count_land_c n _ w9 (C0.hL hL hw9) a0 (C0.km h0_3 hw9)) fun (w8:World) (u8:Value) ⟨b0_,hu_,s_⟩=>(⟨b0_,hu_,s_.from hw9⟩:∃ x0:Nat,u8 = Value.func (.func 191) #[] #[vP x0]∧St E4 w8 [.cells x0 [vI a0.fv.fh,vI a0.fv.fc,vI a0.fv.fe,v0_3,vI a0.fk] 206])) rfl (fun c7 R6 F6 ⟨x0,y4,A1⟩=>?_)
 subst y4
 have j2:=mk_push1 C0 A1
 have R5:=mk_tr1 C0 A1
 refine Aa<|Ar<|MX.rangeP (lb:=[vP x0]) rfl j2 rfl body191 Tryz.func191 rfl rfl rfl (fun F4 G0 t0 P0 p5 J0 c6 C4 d1 K6=>?_)
 refine Ac<|Bd 0 rfl<|Bd 3 rfl<|Ab (AG rfl ((mem_from (J0.memA (.tl (.tl .hd))) 0) 3 _ rfl)) ?_
 have p1:=AH h0_3 J0
 have I6:a0.fv.fo.length ≤ 281474976710656:=AQ p1
 refine Ab (Bb (xs:=a0.fv.fo) Tryz.underlying56 rfl p1)<|Ae rfl<|Aa<|Ar ?_
 obtain ⟨M6,d4,g1⟩:=thn_in h
 refine Be (α:=Nat × Int) (fun ⟨s0,d0⟩=>[(0,.func (.yield G0) #[] #[]),(7,v0_3),(8,vI ((a0.fv.fo.length:Nat):Int)),(9,vI ((s0:Nat):Int))]) (fun ⟨s0,d0⟩ Q0=>St w Q0 [.obj G0 (lpO P0 .ready none),.obj t0 (.deferred (some [])),.cells x0 [vI a0.fv.fh,vI a0.fv.fc,vI a0.fv.fe,v0_3,vI a0.fk] 206,.cells H0 [vI d0] 3,.cells k0 [vI a0.fv.fh,vI a0.fv.fc,vI a0.fv.fe,v0_3,vI a0.fk] 206]∧Tr F4 [.obj G0 (lpO P0 .ready none),.obj t0 (.deferred (some [])),.cells x0 [vI a0.fv.fh,vI a0.fv.fc,vI a0.fv.fe,v0_3,vI a0.fk] 206,.cells H0 [vI 0] 3,.cells k0 [vI a0.fv.fh,vI a0.fv.fc,vI a0.fv.fe,v0_3,vI a0.fk] 206] Q0 [.obj G0 (lpO P0 .ready none),.obj t0 (.deferred (some [])),.cells x0 [vI a0.fv.fh,vI a0.fv.fc,vI a0.fv.fe,v0_3,vI a0.fk] 206,.cells H0 [vI d0] 3,.cells k0 [vI a0.fv.fh,vI a0.fv.fc,vI a0.fv.fe,v0_3,vI a0.fk] 206]) (fun ⟨s0,d0⟩=>(s0,d0)) (0,0) d4 ⟨rfl,rfl,rfl,rfl,trivial⟩ ⟨J0,AT _ _⟩ ?_
 rintro X4 ⟨s0,d0⟩ Q0 Q1 ⟨I0,b3⟩ h
 unfold balance_count_check_l3 at h
 try dsimp only at h
 refine Ac<|Ab (Bf (i:=s0) (j:=a0.fv.fo.length) rfl rfl)<|Aa<|Aj<|AO rfl h (fun F1 h=>?_) (fun F1 h=>?_)
 refine Ao<|Aj<|Ar<|Ac<|Ae rfl ?_
 obtain ⟨A0,z4,h⟩:=bi h
 have Q3:=AH h0_3 I0
 obtain ⟨U4,c5,E3,J3,j5,p4,P3⟩:=Bk Q3 z4
 obtain ⟨C1,D1,E1,rfl,q4,s4,t4⟩:=op_TUnit p4
 refine Ab (Bo 6 s0 rfl E3 rfl rfl J3)<|Ab (AJ rfl P3)<|Al .plain rfl (AA [.string ⟨#[]⟩,vI 0,vN,vN,vN,.bool false] I0) (fun W6 b5 U1 F0=>?_)
 refine Af rfl ?_
 have R3:=Az q4 F0
 have U3:=Az s4 F0
 have V3:=Az t4 F0
 refine AX [.string A0.fp,vI A0.fE,C1,D1,E1,.bool A0.fu] U1 .hd (o6 rfl rfl (Bg R3) (Bg U3) (Bg V3) rfl) (fun X6 B0 c3=>?_)
 refine Aa<|Ac<|Bd 5 rfl<|AZ rfl ((B0.memA .hd) 5 _ rfl)<|Ae rfl<|RG.ifb (s:=16) rfl h (fun G1 h=>?_) (fun G1 h=>?_)
 refine AE<|AE<|AE<|AE<|AE<|RG.pt rfl rfl<|Aa<|Bj rfl ?_
 have h:=thn_map h g1
 refine Ak rfl<|Ap (u:=.tuple #[]) d1 Tryz.func191 rfl .nil rfl<|MX.endRange0 B0 (.tl .hd) (by intro h9; cases h9) (fun Y6 W1 B5=>?_)
 obtain ⟨y0,C5⟩:=AL W1 (.one .hd (.one (.tl .hd) (.one (.tl .hd) (.one (.tl .hd) (.one (.tl .hd) .done)))))
 refine Au<|Ac<|Ae rfl ?_
 have j1:=AH h1_0 y0
 have G6:a1.length ≤ 281474976710656:=AQ j1
 refine Ab (Bb (xs:=a1) Tryz.underlying53 rfl j1)<|Ab (AG rfl ((y0.memA (.tl (.tl (.tl .hd)))) 0 _ rfl))<|Ab (FV.neq (i:=((a1.length:Nat):Int)) (j:=d0) rfl rfl) ?_
 obtain ⟨H4,q1,h⟩:=bi h
 rcases H4 with q5 | M7
 have h:=exc_e h
 try dsimp only at h
 refine Bw (fst:=[]) (cap:=[]) .plain body167 rfl (e2 rfl rfl) (fun w9 hw9=>balance_fail_c n _ w9 (y0.hL0 hL hw9) (!(decide (((a1.length:Nat):Int) = d0))) (220:Int) q1) (fun Z6 u3=>?_)
 obtain ⟨X1,E5⟩:=y0.agr u3
 refine PN.take X1 (.tl .hd) (fun b7 Y1 F5=>?_)
 obtain ⟨Z1,G5⟩:=AL Y1 (.one .hd (.one (.tl .hd) (.one (.tl .hd) (.one (.tl .hd) .done))))
 cases h
 exact Bm hp0 Tryz.func132 ⟨Z1.ag,rfl⟩
 have h:=exc_o h
 try dsimp only at h
 refine Bc (.tuple #[]) body167 rfl (e2 rfl rfl) (fun w9 hw9=>Bl (balance_fail_c n _ w9 (y0.hL0 hL hw9) (!(decide (((a1.length:Nat):Int) = d0))) (220:Int) q1)) rfl<|Aa<|Ac<|Al .plain rfl (Does.makeMap (κ:=Int) (ν:=Bool) y0) (fun D4 D0 X0 H5=>?_)
 refine Af rfl<|Aa<|Aj<|Ac<|Ae rfl ?_
 have W3:=AH h1_0 X0
 refine Ab (Bb (xs:=a1) Tryz.underlying53 rfl W3)<|Ae rfl<|Aa<|Ar ?_
 obtain ⟨b2,J5⟩:=AL X0 (.one .hd (.one (.tl .hd) (.one (.tl (.tl (.tl .hd))) .done)))
 obtain ⟨P6,g4,K0⟩:=thn_in h
 refine Be (α:=Nat × (List (Int × Bool))) (fun ⟨p0,g0⟩=>[(2,vP k0),(5,.map (some D0)),(20,v1_0),(21,vI ((a1.length:Nat):Int)),(22,vI ((p0:Nat):Int))]) (fun ⟨p0,g0⟩ R0=>St w R0 [.obj D0 (mapO (g0:List (Int × Bool))),.obj t0 (.deferred (some [])),.cells k0 [vI a0.fv.fh,vI a0.fv.fc,vI a0.fv.fe,v0_3,vI a0.fk] 206]∧Tr D4 [.obj D0 (mapO ([]:List (Int × Bool))),.obj t0 (.deferred (some [])),.cells k0 [vI a0.fv.fh,vI a0.fv.fc,vI a0.fv.fe,v0_3,vI a0.fk] 206] R0 [.obj D0 (mapO (g0:List (Int × Bool))),.obj t0 (.deferred (some [])),.cells k0 [vI a0.fv.fh,vI a0.fv.fc,vI a0.fv.fe,v0_3,vI a0.fk] 206]) (fun ⟨p0,g0⟩=>(p0,g0)) (0,([]:List (Int × Bool))) g4 ⟨rfl,rfl,rfl,rfl,rfl,trivial⟩ ⟨b2,AT _ _⟩ ?_
 rintro Y4 ⟨p0,g0⟩ R0 V0 ⟨b0,b1⟩ h
 unfold balance_count_check_l1 at h
 try dsimp only at h
 refine Ac<|Ab (Bf (i:=p0) (j:=a1.length) rfl rfl)<|Aa<|Aj<|AO rfl h (fun H1 h=>?_) (fun H1 h=>?_)
 refine Ao<|Aj<|Ar<|Ac ?_
 obtain ⟨u0,A4,h⟩:=bi h
 have Y3:=AH h1_0 b0
 obtain ⟨V4,d5,F3,K3,M1,u4,X3⟩:=Bk Y3 A4
 have G3:M1 = [vI u0]:=u4; subst G3
 refine Ab (Bo 1 p0 rfl F3 rfl rfl K3)<|AZ rfl (X3 0 _ rfl)<|Af rfl<|Aa<|Ac<|Ae rfl<|Ab (FV.lss (i:=u0) (j:=0) rfl rfl)<|Ae rfl<|RG.ifd (s:=28) rfl h (fun I1 h=>?_) (fun I1 h=>?_)
 refine AE<|AE<|AE<|AE<|RG.pt rfl rfl ?_
 obtain ⟨I4,s1,h⟩:=bi h
 rcases I4 with s5 | P7
 have h:=exc_e h
 try dsimp only at h
 have h:=thn_inl h K0
 refine Bw (fst:=[]) (cap:=[]) .plain body167 rfl (e2 rfl rfl) (fun w9 hw9=>balance_fail_c n _ w9 (b0.hL0 hL hw9) true (220:Int) s1) (fun d7 v3=>?_)
 obtain ⟨c2,K5⟩:=b0.agr v3
 refine PN.take c2 (.tl .hd) (fun g7 d2 M5=>?_)
 obtain ⟨g2,P5⟩:=AL d2 (.one .hd (.one (.tl .hd) .done))
 cases h
 exact Bm hp0 Tryz.func132 ⟨g2.ag,rfl⟩
 have h:=exc_o h
 try dsimp only at h
 refine Bc (.tuple #[]) body167 rfl (e2 rfl rfl) (fun w9 hw9=>Bl (balance_fail_c n _ w9 (b0.hL0 hL hw9) true (220:Int) s1)) rfl<|Aa<|Am<|Ae rfl<|Ae rfl<|RG.now .plain (Acts.mapUpdate (kv:=u0) (vv:=true) b0 .hd Tryz.underlying242 Tryz.underlying3 rfl rfl rfl rfl) (fun j7 k2 d3=>?_)
 refine Aa<|Au<|Am<|Ab (Bh (i:=p0) (j:=1) rfl rfl (by omega))<|Ae rfl<|Aa ?_
 exact V0 (p0 + 1,mset g0 u0 true) _ _ ⟨rfl,rfl,rfl,rfl,rfl,trivial⟩ ⟨k2,(Tt b1 d3)⟩ h
 refine AU (Ai rfl)<|RG.fg 4 rfl<|AU (AG rfl ((b0.memA (.tl (.tl .hd))) 4 _ rfl))<|AU (FV.geq (i:=u0) (j:=a0.fk) rfl rfl)<|RG.pf rfl rfl ?_
 obtain ⟨J4,t1,h⟩:=bi h
 rcases J4 with t5 | Q7
 have h:=exc_e h
 try dsimp only at h
 have h:=thn_inl h K0
 refine Bw (fst:=[]) (cap:=[]) .plain body167 rfl (e2 rfl rfl) (fun w9 hw9=>balance_fail_c n _ w9 (b0.hL0 hL hw9) (decide (a0.fk ≤ u0)) (220:Int) t1) (fun k7 x3=>?_)
 obtain ⟨p2,Q5⟩:=b0.agr x3
 refine PN.take p2 (.tl .hd) (fun p7 q2 U5=>?_)
 obtain ⟨s2,V5⟩:=AL q2 (.one .hd (.one (.tl .hd) .done))
 cases h
 exact Bm hp0 Tryz.func132 ⟨s2.ag,rfl⟩
 have h:=exc_o h
 try dsimp only at h
 refine Bc (.tuple #[]) body167 rfl (e2 rfl rfl) (fun w9 hw9=>Bl (balance_fail_c n _ w9 (b0.hL0 hL hw9) (decide (a0.fk ≤ u0)) (220:Int) t1)) rfl<|Aa<|Am<|Ae rfl<|Ae rfl<|RG.now .plain (Acts.mapUpdate (kv:=u0) (vv:=true) b0 .hd Tryz.underlying242 Tryz.underlying3 rfl rfl rfl rfl) (fun q7 t2 g3=>?_)
 refine Aa<|Au<|Am<|Ab (Bh (i:=p0) (j:=1) rfl rfl (by omega))<|Ae rfl<|Aa ?_
 exact V0 (p0 + 1,mset g0 u0 true) _ _ ⟨rfl,rfl,rfl,rfl,rfl,trivial⟩ ⟨t2,(Tt b1 g3)⟩ h
 refine AW rfl ?_
 have h:=thn_inr h K0
 try dsimp only at h
 refine Am<|Ae rfl<|Ab (FV.len_map (D:=g0) b0 .hd Tryz.underlying242 rfl)<|Bd 4 rfl<|AZ rfl ((b0.memA (.tl (.tl .hd))) 4 _ rfl)<|Ab (FV.neq (i:=((g0.length:Nat):Int)) (j:=a0.fk) rfl rfl) ?_
 obtain ⟨K4,u1,h⟩:=bi h
 rcases K4 with u5 | R7
 have h:=exc_e h
 try dsimp only at h
 refine Bw (fst:=[]) (cap:=[]) .plain body167 rfl (e2 rfl rfl) (fun w9 hw9=>balance_fail_c n _ w9 (b0.hL0 hL hw9) (!(decide (((g0.length:Nat):Int) = a0.fk))) (220:Int) u1) (fun s7 y3=>?_)
 obtain ⟨u2,W5⟩:=b0.agr y3
 refine PN.take u2 (.tl .hd) (fun t7 v2 X5=>?_)
 obtain ⟨x2,Y5⟩:=AL v2 (.one .hd (.one (.tl .hd) .done))
 cases h
 exact Bm hp0 Tryz.func132 ⟨x2.ag,rfl⟩
 have h:=exc_o h
 try dsimp only at h
 refine Bc (.tuple #[]) body167 rfl (e2 rfl rfl) (fun w9 hw9=>Bl (balance_fail_c n _ w9 (b0.hL0 hL hw9) (!(decide (((g0.length:Nat):Int) = a0.fk))) (220:Int) u1)) rfl<|Aa<|MX.fin rfl<|RT.take b0 (.tl .hd) (fun u7 y2 Z5=>?_)
 obtain ⟨z2,b6⟩:=AL y2 (.one .hd (.one (.tl .hd) .done))
 refine Ap hb0 Tryz.func132 rfl .nil rfl ?_
 cases h
 exact ⟨z2.ag,fun w9 hw9=>okOf_in rfl⟩
 refine AU (Ai rfl)<|AU (Ai rfl)<|AU (AJ rfl (B0.memA .hd))<|RG.yieldP (fd:=132) (vs:=[vI ((s0:Nat):Int),.agg #[.string A0.fp,vI A0.fE,C1,D1,E1,.bool A0.fu]]) (.yes rfl rfl) rfl (e2 rfl rfl) B0 (.tl .hd) C4 rfl rfl rfl (fun k5 D3 J6=>?_)
 refine Ao<|MX.begin B0 (.tl .hd) (fun v7 Y0 j3=>?_)
 refine Ar<|Am<|Ab (AG rfl ((Y0.memA (.tl (.tl (.tl (.tl .hd))))) 0 _ rfl)) ?_
 obtain ⟨B1,x4,h⟩:=bi h
 refine Ab (FV.addc (i:=d0) (j:=1) rfl rfl x4)<|AX [vI B1] Y0 (.tl (.tl (.tl (.tl .hd)))) (o1 rfl) (fun x7 A2 k3=>?_)
 refine Aa<|Au<|MX.roundEnd D3 A2 (.tl .hd) (fun y7 B2 p3=>?_)
 refine AU (Bz rfl)<|RG.pf rfl rfl<|Aa<|Bn rfl<|Ao<|Au<|Am<|Ab (Bh (i:=s0) (j:=1) rfl rfl (by omega))<|Ae rfl<|Aa ?_
 obtain ⟨C2,q3⟩:=AL B2 (.one (.tl .hd) (.one (.tl .hd) (.one (.tl .hd) (.one (.tl .hd) (.one (.tl .hd) .done)))))
 have k4:=Tt F0 (Tt c3 (Tt j3 (Tt k3 (Tt p3 q3))))
 exact Q1 (s0 + 1,B1) _ _ ⟨rfl,rfl,rfl,rfl,trivial⟩ ⟨C2,(Tt b3 k4)⟩ h
 refine AW rfl ?_
 have h:=thn_inr h g1
 try dsimp only at h
 refine MX.fin rfl<|Ap (u:=.tuple #[]) d1 Tryz.func191 rfl .nil rfl<|MX.endRange0 I0 .hd (by intro h9; cases h9) (fun z7 D2 d6=>?_)
 obtain ⟨z0,g6⟩:=AL D2 (.one (.tl .hd) (.one (.tl .hd) (.one (.tl .hd) (.one (.tl .hd) .done))))
 refine Au<|Ac<|Ae rfl ?_
 have k1:=AH h1_0 z0
 have H6:a1.length ≤ 281474976710656:=AQ k1
 refine Ab (Bb (xs:=a1) Tryz.underlying53 rfl k1)<|AZ rfl ((z0.memA (.tl (.tl .hd))) 0 _ rfl)<|Ab (FV.neq (i:=((a1.length:Nat):Int)) (j:=d0) rfl rfl) ?_
 obtain ⟨M4,v1,h⟩:=bi h
 rcases M4 with v5 | U7
 have h:=exc_e h
 try dsimp only at h
 refine Bw (fst:=[]) (cap:=[]) .plain body167 rfl (e2 rfl rfl) (fun w9 hw9=>balance_fail_c n _ w9 (z0.hL0 hL hw9) (!(decide (((a1.length:Nat):Int) = d0))) (220:Int) v1) (fun A7 z3=>?_)
 obtain ⟨E2,j6⟩:=z0.agr z3
 refine PN.take E2 .hd (fun B7 F2 k6=>?_)
 obtain ⟨G2,p6⟩:=AL F2 (.one (.tl .hd) (.one (.tl .hd) (.one (.tl .hd) .done)))
 cases h
 exact Bm hp0 Tryz.func132 ⟨G2.ag,rfl⟩
 have h:=exc_o h
 try dsimp only at h
 refine Bc (.tuple #[]) body167 rfl (e2 rfl rfl) (fun w9 hw9=>Bl (balance_fail_c n _ w9 (z0.hL0 hL hw9) (!(decide (((a1.length:Nat):Int) = d0))) (220:Int) v1)) rfl<|Aa<|Ac<|Al .plain rfl (Does.makeMap (κ:=Int) (ν:=Bool) z0) (fun G4 E0 Z0 q6=>?_)
 refine Af rfl<|Aa<|Aj<|Ac<|Ae rfl ?_
 have Z3:=AH h1_0 Z0
 refine Ab (Bb (xs:=a1) Tryz.underlying53 rfl Z3)<|Ae rfl<|Aa<|Ar ?_
 obtain ⟨H2,s6⟩:=AL Z0 (.one .hd (.one .hd (.one (.tl (.tl .hd)) .done)))
 obtain ⟨Q6,j4,M0⟩:=thn_in h
 refine Be (α:=Nat × (List (Int × Bool))) (fun ⟨q0,j0⟩=>[(2,vP k0),(5,.map (some E0)),(20,v1_0),(21,vI ((a1.length:Nat):Int)),(22,vI ((q0:Nat):Int))]) (fun ⟨q0,j0⟩ U0=>St w U0 [.obj E0 (mapO (j0:List (Int × Bool))),.obj t0 (.deferred (some [])),.cells k0 [vI a0.fv.fh,vI a0.fv.fc,vI a0.fv.fe,v0_3,vI a0.fk] 206]∧Tr G4 [.obj E0 (mapO ([]:List (Int × Bool))),.obj t0 (.deferred (some [])),.cells k0 [vI a0.fv.fh,vI a0.fv.fc,vI a0.fv.fe,v0_3,vI a0.fk] 206] U0 [.obj E0 (mapO (j0:List (Int × Bool))),.obj t0 (.deferred (some [])),.cells k0 [vI a0.fv.fh,vI a0.fv.fc,vI a0.fv.fe,v0_3,vI a0.fk] 206]) (fun ⟨q0,j0⟩=>(q0,j0)) (0,([]:List (Int × Bool))) j4 ⟨rfl,rfl,rfl,rfl,rfl,trivial⟩ ⟨H2,AT _ _⟩ ?_
 rintro Z4 ⟨q0,j0⟩ U0 W0 ⟨c0,c1⟩ h
 unfold balance_count_check_l2 at h
 try dsimp only at h
 refine Ac<|Ab (Bf (i:=q0) (j:=a1.length) rfl rfl)<|Aa<|Aj<|AO rfl h (fun J1 h=>?_) (fun J1 h=>?_)
 refine Ao<|Aj<|Ar<|Ac ?_
 obtain ⟨v0,B4,h⟩:=bi h
 have c4:=AH h1_0 c0
 obtain ⟨W4,g5,H3,M3,P1,v4,b4⟩:=Bk c4 B4
 have I3:P1 = [vI v0]:=v4; subst I3
 refine Ab (Bo 1 q0 rfl H3 rfl rfl M3)<|AZ rfl (b4 0 _ rfl)<|Af rfl<|Aa<|Ac<|Ae rfl<|Ab (FV.lss (i:=v0) (j:=0) rfl rfl)<|Ae rfl<|RG.ifd (s:=28) rfl h (fun K1 h=>?_) (fun K1 h=>?_)
 refine AE<|AE<|AE<|AE<|RG.pt rfl rfl ?_
 obtain ⟨P4,x1,h⟩:=bi h
 rcases P4 with x5 | V7
 have h:=exc_e h
 try dsimp only at h
 have h:=thn_inl h M0
 refine Bw (fst:=[]) (cap:=[]) .plain body167 rfl (e2 rfl rfl) (fun w9 hw9=>balance_fail_c n _ w9 (c0.hL0 hL hw9) true (220:Int) x1) (fun C7 A3=>?_)
 obtain ⟨I2,t6⟩:=c0.agr A3
 refine PN.take I2 (.tl .hd) (fun D7 J2 u6=>?_)
 obtain ⟨K2,v6⟩:=AL J2 (.one .hd (.one (.tl .hd) .done))
 cases h
 exact Bm hp0 Tryz.func132 ⟨K2.ag,rfl⟩
 have h:=exc_o h
 try dsimp only at h
 refine Bc (.tuple #[]) body167 rfl (e2 rfl rfl) (fun w9 hw9=>Bl (balance_fail_c n _ w9 (c0.hL0 hL hw9) true (220:Int) x1)) rfl<|Aa<|Am<|Ae rfl<|Ae rfl<|RG.now .plain (Acts.mapUpdate (kv:=v0) (vv:=true) c0 .hd Tryz.underlying242 Tryz.underlying3 rfl rfl rfl rfl) (fun E7 M2 s3=>?_)
 refine Aa<|Au<|Am<|Ab (Bh (i:=q0) (j:=1) rfl rfl (by omega))<|Ae rfl<|Aa ?_
 exact W0 (q0 + 1,mset j0 v0 true) _ _ ⟨rfl,rfl,rfl,rfl,rfl,trivial⟩ ⟨M2,(Tt c1 s3)⟩ h
 refine AU (Ai rfl)<|RG.fg 4 rfl<|AU (AG rfl ((c0.memA (.tl (.tl .hd))) 4 _ rfl))<|AU (FV.geq (i:=v0) (j:=a0.fk) rfl rfl)<|RG.pf rfl rfl ?_
 obtain ⟨Q4,y1,h⟩:=bi h
 rcases Q4 with y5 | W7
 have h:=exc_e h
 try dsimp only at h
 have h:=thn_inl h M0
 refine Bw (fst:=[]) (cap:=[]) .plain body167 rfl (e2 rfl rfl) (fun w9 hw9=>balance_fail_c n _ w9 (c0.hL0 hL hw9) (decide (a0.fk ≤ v0)) (220:Int) y1) (fun F7 B3=>?_)
 obtain ⟨P2,x6⟩:=c0.agr B3
 refine PN.take P2 (.tl .hd) (fun G7 Q2 y6=>?_)
 obtain ⟨R2,z6⟩:=AL Q2 (.one .hd (.one (.tl .hd) .done))
 cases h
 exact Bm hp0 Tryz.func132 ⟨R2.ag,rfl⟩
 have h:=exc_o h
 try dsimp only at h
 refine Bc (.tuple #[]) body167 rfl (e2 rfl rfl) (fun w9 hw9=>Bl (balance_fail_c n _ w9 (c0.hL0 hL hw9) (decide (a0.fk ≤ v0)) (220:Int) y1)) rfl<|Aa<|Am<|Ae rfl<|Ae rfl<|RG.now .plain (Acts.mapUpdate (kv:=v0) (vv:=true) c0 .hd Tryz.underlying242 Tryz.underlying3 rfl rfl rfl rfl) (fun H7 U2 t3=>?_)
 refine Aa<|Au<|Am<|Ab (Bh (i:=q0) (j:=1) rfl rfl (by omega))<|Ae rfl<|Aa ?_
 exact W0 (q0 + 1,mset j0 v0 true) _ _ ⟨rfl,rfl,rfl,rfl,rfl,trivial⟩ ⟨U2,(Tt c1 t3)⟩ h
 refine AW rfl ?_
 have h:=thn_inr h M0
 try dsimp only at h
 refine Am<|Ae rfl<|Ab (FV.len_map (D:=j0) c0 .hd Tryz.underlying242 rfl)<|Bd 4 rfl<|AZ rfl ((c0.memA (.tl (.tl .hd))) 4 _ rfl)<|Ab (FV.neq (i:=((j0.length:Nat):Int)) (j:=a0.fk) rfl rfl) ?_
 obtain ⟨R4,z1,h⟩:=bi h
 rcases R4 with z5 | X7
 have h:=exc_e h
 try dsimp only at h
 refine Bw (fst:=[]) (cap:=[]) .plain body167 rfl (e2 rfl rfl) (fun w9 hw9=>balance_fail_c n _ w9 (c0.hL0 hL hw9) (!(decide (((j0.length:Nat):Int) = a0.fk))) (220:Int) z1) (fun I7 C3=>?_)
 obtain ⟨V2,A6⟩:=c0.agr C3
 refine PN.take V2 (.tl .hd) (fun J7 W2 B6=>?_)
 obtain ⟨X2,C6⟩:=AL W2 (.one .hd (.one (.tl .hd) .done))
 cases h
 exact Bm hp0 Tryz.func132 ⟨X2.ag,rfl⟩
 have h:=exc_o h
 try dsimp only at h
 refine Bc (.tuple #[]) body167 rfl (e2 rfl rfl) (fun w9 hw9=>Bl (balance_fail_c n _ w9 (c0.hL0 hL hw9) (!(decide (((j0.length:Nat):Int) = a0.fk))) (220:Int) z1)) rfl<|Aa<|MX.fin rfl<|RT.take c0 (.tl .hd) (fun K7 Y2 D6=>?_)
 obtain ⟨Z2,E6⟩:=AL Y2 (.one .hd (.one (.tl .hd) .done))
 refine Ap hb0 Tryz.func132 rfl .nil rfl ?_
 cases h
 exact ⟨Z2.ag,fun w9 hw9=>okOf_in rfl⟩
def tb130_1:List (Nat × Nat × Nat):=[(0,16,1),(0,32,2),(3,64,48),(0,128,4),(12,256,192)]
theorem body131:bodyB Tryz.prog 131 = true:=by kernel_rfl
theorem body132:bodyB Tryz.prog 132 = true:=by kernel_rfl
def balance_Check_1_p (n:Nat) (a0:TRoll) (a1:Int) (a2:List Int):Option (Except Tbroken Bool):=
  (balance_counted_p n a0 a1).bind fun y3=>exc y3 (fun d0=>(balance_count_check_p n d0 a2).bind fun g0=>exc g0 (fun _y26=>some (.ok true)) (fun c0=>some (.error c0))) (fun b0=>some (.error b0))
theorem balance_Check_1_c (n:Nat) (L:List Nat) (w:World) (hL:∀ b ∈ L,b < w.heap.size) (a0:TRoll) {v0_3:Value} (h0_3:Rep.R w L [v0_3] a0.fo) {p0:Nat} (m0:∀ j9 v9,([vI a0.fh,vI a0.fc,vI a0.fe,v0_3]:List Value)[j9]? = some v9 → w.cell? ((⟨p0,0,none⟩:Addr).add j9) = some v9) (a1:Int) {p1:Nat} (m1:∀ j9 v9,([vI a1]:List Value)[j9]? = some v9 → w.cell? ((⟨p1,0,none⟩:Addr).add j9) = some v9) (a2:List Int) {v2_0:Value} (h2_0:Rep.R w L [v2_0] a2) {p2:Nat} (m2:∀ j9 v9,([v2_0]:List Value)[j9]? = some v9 → w.cell? ((⟨p2,0,none⟩:Addr).add j9) = some v9)  {r:Except Tbroken Bool} (h:balance_Check_1_p n a0 a1 a2 = some r) :
    Calls Tryz.prog 130 #[.pointer (some ⟨p0,0,none⟩),.pointer (some ⟨p1,0,none⟩),.pointer (some ⟨p2,0,none⟩)] w (PGives w (fun (y:Bool) _ u=>u = .bool y) (fun e=>.iface 237 (.agg #[vI e.fw])) r):=by
 unfold balance_Check_1_p at h
 have hS0:=Ay w
 refine MX.startP Tryz.func130 rfl rfl rfl (fun _ cs0 hb0 hp0=>?_)
 refine Ac<|Af rfl<|Aa<|Aj<|dt 5 tb130_1 (fun kt1 kp2=>?_)
 refine AF 0 1 20 kt1 rfl kp2 (AJ rfl (fun j9 v9 h9=>hS0.ag.cell0 (m0 j9 v9 h9))) rfl<|AF 1 3 20 kt1 rfl kp2 (AG rfl ((fun j9 v9 h9=>hS0.ag.cell0 (m1 j9 v9 h9)) 0 _ rfl)) rfl ?_
 obtain ⟨y3,hy3,h⟩:=bi h
 rcases y3 with x0 | g0
 have h:=exc_e h
 try dsimp only at h
 refine AF 3 11 16 kt1 rfl kp2 (AG rfl ((fun j9 v9 h9=>hS0.ag.cell0 (m2 j9 v9 h9)) 0 _ rfl)) rfl<|By (i:=2) (rk kt1) (RO.callE (fst:=[]) (cap:=[]) rfl .plain body131 rfl (e2 rfl rfl) (fun w9 hw9=>balance_counted_c n _ w9 (hS0.hL hL hw9) a0 (Aw h0_3 hw9) a1 hy3) (fun E0 s0=>?_))
 obtain ⟨j0,z0⟩:=hS0.agr s0
 cases h
 exact Bm hp0 Tryz.func130 ⟨j0.ag,rfl⟩
 have h:=exc_o h
 try dsimp only at h
 refine AF 3 11 16 kt1 rfl kp2 (AG rfl ((fun j9 v9 h9=>hS0.ag.cell0 (m2 j9 v9 h9)) 0 _ rfl)) rfl<|RD.cl 2 15 kt1 rfl .plain body131 rfl (e2 rfl rfl) (fun w9 hw9=>Bl (balance_counted_c n _ w9 (hS0.hL hL hw9) a0 (Aw h0_3 hw9) a1 hy3)) rfl (fun F0 D0 t0 ⟨C0,hu_,c0⟩=>?_)
 subst hu_
 obtain ⟨b0,A0⟩:=hS0.agr t0
 obtain ⟨v0,d0,h⟩:=bi h
 rcases v0 with y0 | H0
 have h:=exc_e h
 try dsimp only at h
 refine By (i:=4) (rk kt1) (RO.callE (fst:=[]) (cap:=[]) rfl .plain body132 rfl (e2 rfl rfl) (fun w9 hw9=>balance_count_check_c n _ w9 (b0.hL0 hL hw9) g0 (b0.kd c0 hw9) a2 (b0.k0 h2_0 hw9) d0) (fun G0 u0=>?_))
 obtain ⟨q0,B0⟩:=b0.agr u0
 cases h
 exact Bm hp0 Tryz.func130 ⟨q0.ag,rfl⟩
 have h:=exc_o h
 try dsimp only at h
 refine RD.cq 4 31 0 (.tuple #[]) kt1 rfl kp2 body132 rfl (e2 rfl rfl) (fun w9 hw9=>Bl (balance_count_check_c n _ w9 (b0.hL0 hL hw9) g0 (b0.kd c0 hw9) a2 (b0.k0 h2_0 hw9) d0)) rfl<|AK (dk kt1)<|Ac<|Af rfl<|Aa<|Ak rfl<|AP hb0 Tryz.func130 rfl rfl ?_
 cases h
 exact ⟨b0.ag,fun w9 hw9=>okOf_in rfl⟩
def tb164_6:List (Nat × Nat × Nat):=[(0,131072,32),(0,262144,8),(2,524288,262144),(1,0,131073),(15,0,524290)]
theorem body129:bodyB Tryz.prog 129 = true:=by kernel_rfl
theorem body130:bodyB Tryz.prog 130 = true:=by kernel_rfl
theorem body164:bodyB Tryz.prog 164 = true:=by kernel_rfl
def balance_Check_p (n:Nat) (a0:TRoll) (a1:List Int) (a2:Int):Option Int:=
  (balance_Check_1_p n a0 a2 a1).bind fun c0=>exc c0 (fun _y41=>some (0:Int)) (fun b0=>some b0.fw)
theorem balance_Check_c (n:Nat) (L:List Nat) (w:World) (hL:∀ b ∈ L,b < w.heap.size) (a0:TRoll) {v0_3:Value} (h0_3:Rep.R w L [v0_3] a0.fo) (a1:List Int) {v1_0:Value} (h1_0:Rep.R w L [v1_0] a1) (a2:Int)  {r:Int} (h:balance_Check_p n a0 a1 a2 = some r) :
    Calls Tryz.prog 95 #[.agg #[vI a0.fh,vI a0.fc,vI a0.fe,v0_3],v1_0,vI a2] w (Gives w fun _ u=>u = vI r):=by
 unfold balance_Check_p at h
 have hS0:=Ay w
 refine AC Tryz.func95 rfl rfl rfl (fun _ cs0 hb0=>?_)
 refine Ac<|Al .plain rfl (Ax hS0 rfl rfl) (fun J1 g0 D0 A1=>?_)
 have g1:=AH h1_0 D0
 refine Al .plain rfl (Ax D0 rfl (Rep.c1 g1)) (fun Q1 j0 P0 B1=>?_)
 refine Al .plain rfl (Ax P0 rfl rfl) (fun R1 p0 Q0 C1=>?_)
 refine Af rfl<|Aa<|Ac<|Ab (FV.makeFunc (vs:=[]) (us:=[vP g0,vP p0,vP j0]) evs_nil (e3 rfl rfl rfl))<|Bs (fst:=[]) (cap:=[]) (vs:=[.func (.func 130) #[] #[vP g0,vP p0,vP j0]]) .plain body129 Tryz.func129 rfl rfl rfl rfl (e1 rfl) rfl (fun u1 E0 I1=>?_)
 refine Ac<|Al .plain rfl (AA [.bool false] Q0) (fun U1 q0 R0 D1=>?_)
 refine Al .plain rfl (AA [vI 0] R0) (fun V1 d0 b0 E1=>?_)
 refine Aa<|Ac<|Ab (FV.makeFunc (vs:=[]) (us:=[vP q0,vP d0]) evs_nil (e2 rfl rfl))<|RG.defer (fst:=[]) (cap:=[vP q0,vP d0]) (vs:=[]) rfl .plain rfl evs_nil<|Aa<|Ac<|Ae rfl ?_
 obtain ⟨p1,G0,h⟩:=bi h
 rcases p1 with s0 | B0
 have h:=exc_e h
 try dsimp only at h
 refine Bw (fst:=[]) (cap:=[vP g0,vP p0,vP j0]) .plain body130 rfl evs_nil (fun w9 hw9=>balance_Check_1_c n _ w9 (b0.hL0 hL hw9) a0 (b0.k0 h0_3 hw9) (fun j9 v9 h9=>hw9.cell0 ((b0.memA (.tl (.tl (.tl (.tl .hd))))) j9 v9 h9)) a2 (fun j9 v9 h9=>hw9.cell0 ((b0.memA (.tl (.tl .hd))) j9 v9 h9)) a1 (b0.k0 h1_0 hw9) (fun j9 v9 h9=>hw9.cell0 ((b0.memA (.tl (.tl (.tl .hd)))) j9 v9 h9)) G0) (fun W1 Y0=>?_)
 obtain ⟨U0,F1⟩:=b0.agr Y0
 refine PN.callD (vs:=[]) (cap:=[vP q0,vP d0]) body164 Tryz.func164 rfl rfl rfl (fun s1 Z0 d1=>?_)
 refine Ac<|RG.recover1 .plain Z0 rfl<|Af rfl<|Aa<|Ac<|Ae rfl<|Ab (FV.neqI Tryz.underlying20 rfl rfl)<|Aa<|Bj rfl<|Ac<|Ae rfl<|Ab (FV.assertT (by kernel_rfl) rfl)<|Ae rfl<|Ab (Ah rfl rfl)<|Ab (Ah rfl rfl)<|Al .plain rfl (AA [vI 0] U0) (fun X1 H0 V0 G1=>?_)
 refine AX [vI s0.fw] V0 .hd (o1 rfl) (fun j1 x0 H1=>?_)
 refine Af rfl<|Aa<|Aj<|Ac<|Ae rfl<|Ab (Bz rfl)<|Aa<|Bn rfl<|Ao<|Ac<|Af rfl<|Aa<|dt 3 tb164_6 (fun c0 z0=>?_)
 refine Ag 0 1 c0 rfl z0 (fun _=>Ai rfl) rfl<|Ag 1 3 c0 rfl z0 (fun _=>Bi 0 rfl) rfl<|RD.meet (α:=Unit) (fun ()=>[(1,vP d0),(19,vI s0.fw)]) (fun () A0=>St w A0 [.cells d0 [vI 0] 35,.cells q0 [.bool false] 4,.cells p0 [vI a2] 3,.cells j0 [v1_0] 53,.cells g0 [vI a0.fh,vI a0.fc,vI a0.fe,v0_3] 58]∧Tr j1 [.cells H0 [vI s0.fw] 237,.cells d0 [vI 0] 35,.cells q0 [.bool false] 4,.cells p0 [vI a2] 3,.cells j0 [v1_0] 53,.cells g0 [vI a0.fh,vI a0.fc,vI a0.fe,v0_3] 58] A0 [.cells d0 [vI 0] 35,.cells q0 [.bool false] 4,.cells p0 [vI a2] 3,.cells j0 [v1_0] 53,.cells g0 [vI a0.fh,vI a0.fc,vI a0.fe,v0_3] 58]) 1 15 ?_ ?_
 rintro ⟨⟩ A0 ⟨I0,v1⟩
 try dsimp only
 refine Bv 4 31 c0 rfl rfl .plain (Av (news:=[vI s0.fw]) I0 .hd rfl rfl rfl rfl rfl rfl (o1 rfl)) (fun K1 u0 x1=>?_)
 refine AK (dk c0)<|MX.fin rfl<|RT.leaveD1 d1 Tryz.func164 rfl .nil<|Ap (u:=.tuple #[.bool false,vI s0.fw]) E0 Tryz.func129 rfl (.cons (.one (by kernel_rfl) rfl ((u0.memA (.tl .hd)) 0 _ rfl)) (.cons (.one (by kernel_rfl) rfl ((u0.memA .hd) 0 _ rfl)) .nil)) rfl<|Ae rfl<|Ab (Ah rfl rfl)<|Ab (Ah rfl rfl)<|Af rfl<|Af rfl<|Aa<|Ac<|Ae rfl<|Af rfl<|Aa<|Ak rfl<|AP hb0 Tryz.func95 rfl rfl ?_
 cases h
 exact u0.gv
 intro C0
 refine RD.each [2,3] (rk c0) ⟨?_,?_,trivial⟩
 refine RO.val (m' :=7) (sk c0) rfl .plain rfl (AG rfl ((x0.memA .hd) 0 _ rfl))<|Bv 3 15 c0 rfl rfl .plain (Av (news:=[.bool false]) x0 (.tl (.tl .hd)) rfl rfl rfl rfl rfl rfl (o1 rfl)) (fun k1 t0 y0=>?_)
 obtain ⟨J0,W0⟩:=AL t0 (.one (.tl .hd) (.one (.tl .hd) (.one (.tl .hd) (.one (.tl .hd) (.one (.tl .hd) .done)))))
 exact C0 () _ _ ⟨rfl,rfl,trivial⟩ ⟨J0,(Tt y0 W0)⟩
 refine RO.now (m' :=11) (sk c0) rfl rfl .plain (Av (news:=[.bool false]) x0 (.tl (.tl .hd)) rfl rfl rfl rfl rfl rfl (o1 rfl)) (fun k1 t0 y0=>?_)
 refine AF 2 15 16 c0 rfl z0 (AG rfl ((t0.memA .hd) 0 _ rfl)) rfl ?_
 obtain ⟨K0,X0⟩:=AL t0 (.one (.tl .hd) (.one (.tl .hd) (.one (.tl .hd) (.one (.tl .hd) (.one (.tl .hd) .done)))))
 exact C0 () _ _ ⟨rfl,rfl,trivial⟩ ⟨K0,(Tt y0 X0)⟩
 have h:=exc_o h
 try dsimp only at h
 refine RG.callq' (v:=.bool B0) (fst:=[]) (cap:=[vP g0,vP p0,vP j0]) .plain body130 rfl evs_nil (fun w9 hw9=>Bl (balance_Check_1_c n _ w9 (b0.hL0 hL hw9) a0 (b0.k0 h0_3 hw9) (fun j9 v9 h9=>hw9.cell0 ((b0.memA (.tl (.tl (.tl (.tl .hd))))) j9 v9 h9)) a2 (fun j9 v9 h9=>hw9.cell0 ((b0.memA (.tl (.tl .hd))) j9 v9 h9)) a1 (b0.k0 h1_0 hw9) (fun j9 v9 h9=>hw9.cell0 ((b0.memA (.tl (.tl (.tl .hd)))) j9 v9 h9)) G0)) rfl<|AX [.bool B0] b0 (.tl .hd) (o1 rfl) (fun M1 M0 y1=>?_)
 refine AX [vI 0] M0 .hd (o1 rfl) (fun P1 v0 z1=>?_)
 refine Aa<|Ak rfl<|RT.callD (vs:=[]) (cap:=[vP q0,vP d0]) body164 Tryz.func164 rfl rfl rfl (fun q1 F0 b1=>?_)
 refine Ac<|RG.recover0 .plain F0 rfl<|Af rfl<|Aa<|Ac<|Ae rfl<|Ab (FV.neqI0 Tryz.underlying20 rfl rfl)<|Aa<|Bn rfl<|Ao<|MX.fin rfl<|RT.leaveD0 F0 b1 Tryz.func164 rfl .nil<|Ap (u:=.tuple #[.bool B0,vI 0]) E0 Tryz.func129 rfl (.cons (.one (by kernel_rfl) rfl ((v0.memA (.tl .hd)) 0 _ rfl)) (.cons (.one (by kernel_rfl) rfl ((v0.memA .hd) 0 _ rfl)) .nil)) rfl<|Ae rfl<|Ab (Ah rfl rfl)<|Ab (Ah rfl rfl)<|Af rfl<|Af rfl<|Aa<|Ac<|Ae rfl<|Af rfl<|Aa<|Ak rfl ?_
 refine AP hb0 Tryz.func95 rfl rfl ?_
 cases h
 exact v0.gv
def interest_must_api_Share_p (_n:Nat) (a0:TShare) (a1:Int):Option (Except Tbroken TShare):=
  (if a1 = 0 then some (.ok a0) else some (.error (⟨a1⟩:Tbroken)))
theorem interest_must_api_Share_c (n:Nat) (L:List Nat) (w:World) (_hL:∀ b ∈ L,b < w.heap.size) (a0:TShare) (a1:Int)  {r:Except Tbroken TShare} (h:interest_must_api_Share_p n a0 a1 = some r) :
    Calls Tryz.prog 65 #[.agg ((cs_TShare a0)).toArray,vI a1] w (PGives w (fun (y:TShare) _ u=>u = .agg ((cs_TShare y)).toArray) (fun e=>.iface 176 (.agg #[vI e.fw])) r):=by
 unfold interest_must_api_Share_p at h
 have hS0:=Ay w
 refine MX.startP Tryz.func65 rfl rfl rfl (fun _ cs0 hb0 hp0=>?_)
 refine Ac<|Al .plain rfl (Ax hS0 rfl rfl) (fun t0 j0 g0 p0=>?_)
 refine Al .plain rfl (AA zL g0) (fun u0 k0 b0 q0=>?_)
 refine Aa<|Aj<|Ac<|Ae rfl<|Ab (FV.neq (i:=a1) (j:=0) rfl rfl)<|Aa<|MX.ifn rfl h (fun d0 h=>?_) (fun d0 h=>?_)
 refine Ao<|Ac<|Ab (AJ rfl (b0.memA (.tl .hd)))<|AX (cs_TShare a0) b0 .hd (onesB rfl) (fun v0 c0 s0=>?_)
 refine Aa<|Ak rfl<|Ap hb0 Tryz.func65 rfl (.cons (.many (cs:=(cs_TShare a0)) (by kernel_rfl) rfl (c0.memA .hd)) .nil) rfl ?_
 cases h
 exact ⟨c0.ag,fun w9 hw9=>okOf_in rfl⟩
 refine Am<|Ae rfl<|Ab (AV (vs:=[vI a1]) (u:=.agg #[vI a1]) (e1 rfl) (fun w9=>by kernel_rfl))<|Ab (FV.makeInterface (by kernel_rfl) rfl)<|RG.panic .plain rfl ?_
 cases h
 exact Bm hp0 Tryz.func65 ⟨b0.ag,rfl⟩
theorem body65:bodyB Tryz.prog 65 = true:=by kernel_rfl
def interest_of_p (n:Nat) (a0:Int) (a1:Int):Option (Except Tbroken TShare):=
  (share_Of_p n a0 a1).bind fun b0=>(interest_must_api_Share_p n b0.1 b0.2).bind fun d0=>exc d0 (fun g0=>some (.ok g0)) (fun c0=>some (.error c0))
theorem interest_of_c (n:Nat) (L:List Nat) (w:World) (hL:∀ b ∈ L,b < w.heap.size) (a0:Int) (a1:Int)  {r:Except Tbroken TShare} (h:interest_of_p n a0 a1 = some r) :
    Calls Tryz.prog 64 #[vI a0,vI a1] w (PGives w (fun (y:TShare) _ u=>u = .agg ((cs_TShare y)).toArray) (fun e=>.iface 176 (.agg #[vI e.fw])) r):=by
 unfold interest_of_p at h
 have hS0:=Ay w
 refine MX.startP Tryz.func64 rfl rfl rfl (fun _ cs0 hb0 hp0=>?_)
 refine Ac<|Al .plain rfl (AA zL hS0) (fun z0 t0 c0 v0=>?_)
 refine Aa<|Ac<|Ae rfl<|Ae rfl ?_
 obtain ⟨b0,q0,h⟩:=bi h
 refine Bc (.tuple #[.agg ((cs_TShare b0.1)).toArray,vI b0.2]) body45 rfl (e2 rfl rfl) (fun w9 hw9=>share_Of_c n _ w9 (c0.hL0 hL hw9) a0 a1 q0) rfl<|Ab (Ah rfl rfl)<|Ab (Ah rfl rfl) ?_
 obtain ⟨s0,j0,h⟩:=bi h
 rcases s0 with u0 | d0
 have h:=exc_e h
 try dsimp only at h
 refine Bw (fst:=[]) (cap:=[]) .plain body65 rfl (e2 rfl rfl) (fun w9 hw9=>interest_must_api_Share_c n _ w9 (c0.hL0 hL hw9) b0.1 b0.2 j0) (fun A0 p0=>?_)
 obtain ⟨k0,x0⟩:=c0.agr p0
 cases h
 exact Bm hp0 Tryz.func64 ⟨k0.ag,rfl⟩
 have h:=exc_o h
 try dsimp only at h
 refine Bc (.agg ((cs_TShare d0)).toArray) body65 rfl (e2 rfl rfl) (fun w9 hw9=>Bl (interest_must_api_Share_c n _ w9 (c0.hL0 hL hw9) b0.1 b0.2 j0)) rfl<|AX (cs_TShare d0) c0 .hd (onesB rfl) (fun B0 g0 y0=>?_)
 refine Aa<|Ak rfl<|Ap hb0 Tryz.func64 rfl (.cons (.many (cs:=(cs_TShare d0)) (by kernel_rfl) rfl (g0.memA .hd)) .nil) rfl ?_
 cases h
 exact ⟨g0.ag,fun w9 hw9=>okOf_in rfl⟩
def math_bits_TrailingZeros64_p (_n:Nat) (a0:UInt64):Option Int:=
  (if a0 = (0:UInt64) then some (64:Int) else (tab0[(shrU ((a0 &&& (-a0)) * (285870213051353865:UInt64)) 58).toNat]?).bind fun z2=>some ((z2.toNat:Nat):Int))
theorem math_bits_TrailingZeros64_c (n:Nat) (L:List Nat) (w:World) (_hL:∀ b ∈ L,b < w.heap.size) (a0:UInt64) (hG0:Glob 0 tab0 w)  {r:Int} (h:math_bits_TrailingZeros64_p n a0 = some r) :
    Calls Tryz.prog 134 #[vU a0] w (Gives w fun _ u=>u = vI r):=by
 unfold math_bits_TrailingZeros64_p at h
 have hS0:=Ay w
 refine AC Tryz.func134 rfl rfl rfl (fun _ cs0 hb0=>?_)
 refine Ac<|Af rfl<|Aa<|Aj<|Ac<|Ae rfl<|Ab (FV.eqlU (a:=a0) (b:=(0:UInt64)) rfl rfl)<|Aa<|AO rfl h (fun c1 h=>?_) (fun c1 h=>?_)
 refine Ac<|Af rfl<|Aa<|Ak rfl<|AP hb0 Tryz.func134 rfl rfl ?_
 cases h
 exact hS0.gv
 refine Ao<|Ac<|Ae rfl<|Ae rfl<|Ab (FV.negU (a:=a0) rfl)<|Ab (FV.andU (a:=a0) (b:=-a0) rfl rfl)<|Ab (FV.mulU (a:=a0 &&& (-a0)) (b:=(285870213051353865:UInt64)) rfl rfl)<|Ab (FV.shrU (a:=(a0 &&& (-a0)) * (285870213051353865:UInt64)) (j:=58) rfl rfl) ?_
 obtain ⟨z2,hz2,h⟩:=bi h
 refine Ab (AR (m:=1) (k:=(shrU ((a0 &&& (-a0)) * (285870213051353865:UInt64)) 58).toNat) (len:=64) (by kernel_rfl) rfl rfl rfl (tab_lt hz2 rfl))<|AZ rfl (hG0.keep hS0.ag _ _ hz2) ?_
 have hu3:=z2.toNat_lt
 refine Ab (FV.convN (i:=z2.toNat) Tryz.underlying5 Tryz.underlying3 rfl (by omega))<|Af rfl<|Aa<|Ak rfl<|AP hb0 Tryz.func134 rfl rfl ?_
 cases h
 exact hS0.gv
theorem interest_units_c (_n:Nat) (L:List Nat) (w:World) (_hL:∀ b ∈ L,b < w.heap.size) (a0:UInt64)  :
    Calls Tryz.prog 97 #[vU a0] w (Gives w fun w' u=>∃ b0:Nat,u = .func (.func 133) #[] #[vP b0]∧St w w' [.cells b0 [vU a0] 28]):=by
 have hS0:=Ay w
 refine AC Tryz.func97 rfl rfl rfl (fun _ cs0 hb0=>?_)
 refine Ac<|Al .plain rfl (Ax hS0 rfl rfl) (fun g0 b0 c0 d0=>?_)
 refine Af rfl<|Aa<|Ac<|Ab (FV.makeFunc (vs:=[]) (us:=[vP b0]) evs_nil (e1 rfl))<|Af rfl<|Aa<|Ak rfl<|Ap (u:=.func (.func 133) #[] #[vP b0]) hb0 Tryz.func97 rfl (.cons (.tmp rfl) .nil) rfl ?_
 exact ⟨c0.ag,fun w9 hw9=>⟨b0,rfl,c0.agree hw9⟩⟩
structure Tview where
  fv:TRoll
  fplan:List Int
  fk:Int
  deriving DecidableEq
instance:Rep Tview:=Rep.via (β:=TRoll × (List Int) × Int) fun x=>(x.fv,x.fplan,x.fk)
def tb68_4:List (Nat × Nat × Nat):=[(0,65536,32),(0,131072,4),(2,262144,131072),(0,524288,64),(12,1048576,786432),(16,2097152,1048576),(33,4194304,2162688),(64,8388608,4194304),(0,16777216,64),(256,33554432,16777216),(640,67108864,41943040),(2047,134217728,2162688),(4095,0,201326592)]
theorem body97:bodyB Tryz.prog 97 = true:=by kernel_rfl
theorem body133:bodyB Tryz.prog 133 = true:=by kernel_rfl
theorem body134:bodyB Tryz.prog 134 = true:=by kernel_rfl
def interest_view_parts_l1 (_n:Nat) (j0:List UInt64) (d0:Nat × (List UInt64) → Option (List UInt64)):Nat × (List UInt64) → Option (List UInt64)
  | (b0,c0)=>(if b0 < j0.length then (j0[b0]?).bind fun g0=>(if g0 = (0:UInt64) then d0 (b0 + 1,c0) else (app c0 ([g0]:List UInt64)).bind fun k0=>d0 (b0 + 1,k0)) else some c0)
def interest_view_parts_l2 (n:Nat) (a0:Tview) (j0:UInt64 × (List UInt64) → Option (List UInt64)):UInt64 × (List UInt64) → Option (List UInt64)
  | (b0,c0)=>(if b0 = (0:UInt64) then some c0 else (math_bits_TrailingZeros64_p n b0).bind fun g0=>(idx a0.fplan g0).bind fun d0=>(idx c0 d0).bind fun p0=>(natOf g0).bind fun k0=>(put c0 ((d0.toNat:Nat):Int) (p0 ||| (shlU (1:UInt64) k0))).bind fun q0=>j0 (b0 &&& (b0 - (1:UInt64)),q0))
def interest_view_parts_p (n:Nat) (a0:Tview) (a1:TInterest):Option (List UInt64):=
  (mk a0.fk (0:UInt64)).bind fun c0=>Option.bind (loopF (interest_view_parts_l2 n a0) n (a1.fo,c0)) (fun b0=>Option.bind (loopF (interest_view_parts_l1 n b0) n (0,([]:List UInt64))) (fun d0=>some d0))
theorem interest_view_parts_c (n:Nat) (L:List Nat) (w:World) (hL:∀ b ∈ L,b < w.heap.size) (a0:Tview) {v0_3:Value} (_h0_3:Rep.R w L [v0_3] a0.fv.fo) {v0_4:Value} (h0_4:Rep.R w L [v0_4] a0.fplan) (a1:TInterest) (hG0:Glob 0 tab0 w)  {r:List UInt64} (h:interest_view_parts_p n a0 a1 = some r) :
    Calls Tryz.prog 68 #[.agg #[vI a0.fv.fh,vI a0.fv.fc,vI a0.fv.fe,v0_3,v0_4,vI a0.fk],.agg #[.string a1.fp,vI a1.fx,vU a1.fo]] w (Gives w fun w' u=>∃ v0_0:Value,u = v0_0∧Rep.R w' L [v0_0] r):=by
 unfold interest_view_parts_p at h
 have hS0:=Ay w
 refine AC Tryz.func68 rfl rfl rfl (fun _ cs0 hb0=>?_)
 refine Ac<|Al .plain rfl (Ax hS0 rfl rfl) (fun U4 D0 Z1 E4=>?_)
 refine Al .plain rfl (Ax Z1 rfl rfl) (fun V4 E0 j1 F4=>?_)
 refine Af rfl<|Aa<|Ac<|Bd 5 rfl<|AZ rfl ((j1.memA (.tl .hd)) 5 _ rfl) ?_
 obtain ⟨d1,E1,h⟩:=bi h
 refine Al .plain rfl (Does.mk (α:=UInt64) E1 j1 el75 rfl) (fun W4 g0 p1 G4=>?_)
 have J2:=AB (cs:=(List.replicate a0.fk.toNat [vW 0]).flatten) (xs:=d1) p1 L (Cells.mk E1 rfl)
 refine Al .plain rfl (AA [vN] p1) (fun X4 F0 Q0 y2=>?_)
 refine RG.now .plain (Av (news:=[(.slice (some ⟨g0,0,none⟩) a0.fk.toNat a0.fk.toNat)]) Q0 .hd rfl rfl rfl (St.c1 (α:=UInt64) Q0 (.tl .hd)) rfl rfl (o1 (St.o1 (α:=UInt64) Q0 (.tl .hd)))) (fun d4 G0 C2=>?_)
 refine Aa<|Aj<|Ac<|Bd 2 rfl<|AZ rfl ((G0.memA (.tl (.tl .hd))) 2 _ rfl)<|Bp (fst:=[]) (cap:=[]) .plain body97 rfl (e1 rfl) (fun w9 hw9=>Calls.gives (interest_units_c n _ w9 (G0.hL hL hw9) a1.fo) fun (w8:World) (u8:Value) ⟨b0_,hu_,s_⟩=>(⟨b0_,hu_,s_.from hw9⟩:∃ t0:Nat,u8 = Value.func (.func 133) #[] #[vP t0]∧St d4 w8 [.cells t0 [vU a1.fo] 28])) rfl (fun d5 R4 I4 ⟨t0,K3,F1⟩=>?_)
 subst K3
 have q2:=mk_push1 G0 F1
 have E2:=mk_tr1 G0 F1
 refine Aa<|Ar<|MX.rangeP (lb:=[vP t0]) rfl q2 rfl body133 Tryz.func133 rfl rfl rfl (fun g4 C0 v0 I0 D4 s2 F2 Z3 H2 M4=>?_)
 refine Ar ?_
 have B3:=Tt y2 (Tt C2 (Tt E2 F2))
 have g3:=AD J2 B3
 obtain ⟨P4,z3,Y2⟩:=bind_in2 h
 refine Be (α:=UInt64 × (List UInt64) × (List Value)) (fun ⟨b0,d0,k0⟩=>[(0,.func (.yield C0) #[] #[]),(1,vP t0)]) (fun ⟨b0,d0,k0⟩ J0=>St w J0 [.obj C0 (lpO I0 .ready none),.obj v0 (.deferred (some [])),.cells t0 [vU b0] 28,.cells F0 [(.slice (some ⟨g0,0,none⟩) a0.fk.toNat a0.fk.toNat)] 75,.row w.heap.size 28 (Rep.size UInt64) (.slice (some ⟨g0,0,none⟩) a0.fk.toNat a0.fk.toNat) d0.length k0,.cells E0 [.string a1.fp,vI a1.fx,vU a1.fo] 65,.cells D0 [vI a0.fv.fh,vI a0.fv.fc,vI a0.fv.fe,v0_3,v0_4,vI a0.fk] 119]∧Tr g4 [.obj C0 (lpO I0 .ready none),.obj v0 (.deferred (some [])),.cells t0 [vU a1.fo] 28,.cells F0 [(.slice (some ⟨g0,0,none⟩) a0.fk.toNat a0.fk.toNat)] 75,.row w.heap.size 28 (Rep.size UInt64) (.slice (some ⟨g0,0,none⟩) a0.fk.toNat a0.fk.toNat) d1.length ((List.replicate a0.fk.toNat [vW 0]).flatten),.cells E0 [.string a1.fp,vI a1.fx,vU a1.fo] 65,.cells D0 [vI a0.fv.fh,vI a0.fv.fc,vI a0.fv.fe,v0_3,v0_4,vI a0.fk] 119] J0 [.obj C0 (lpO I0 .ready none),.obj v0 (.deferred (some [])),.cells t0 [vU b0] 28,.cells F0 [(.slice (some ⟨g0,0,none⟩) a0.fk.toNat a0.fk.toNat)] 75,.row w.heap.size 28 (Rep.size UInt64) (.slice (some ⟨g0,0,none⟩) a0.fk.toNat a0.fk.toNat) d0.length k0,.cells E0 [.string a1.fp,vI a1.fx,vU a1.fo] 65,.cells D0 [vI a0.fv.fh,vI a0.fv.fc,vI a0.fv.fe,v0_3,v0_4,vI a0.fk] 119]∧Cells J0 (bl [.obj C0 (lpO I0 .ready none),.obj v0 (.deferred (some [])),.cells t0 [vU b0] 28,.cells F0 [(.slice (some ⟨g0,0,none⟩) a0.fk.toNat a0.fk.toNat)] 75,.row w.heap.size 28 (Rep.size UInt64) (.slice (some ⟨g0,0,none⟩) a0.fk.toNat a0.fk.toNat) d0.length k0,.cells E0 [.string a1.fp,vI a1.fx,vU a1.fo] 65,.cells D0 [vI a0.fv.fh,vI a0.fv.fc,vI a0.fv.fe,v0_3,v0_4,vI a0.fk] 119] ++ L) k0 d0) (fun ⟨b0,d0,k0⟩=>(b0,d0)) (a1.fo,d1,(List.replicate a0.fk.toNat [vW 0]).flatten) z3 ⟨rfl,rfl,trivial⟩ ⟨s2,AT _ _,g3⟩ ?_
 rintro s4 ⟨b0,d0,k0⟩ J0 Y1 ⟨y0,t2,z1⟩ h
 unfold interest_view_parts_l2 at h
 try dsimp only at h
 refine Aj<|Ac<|AZ rfl ((y0.memA (.tl (.tl .hd))) 0 _ rfl)<|Ab (FV.neqU (a:=b0) (b:=(0:UInt64)) rfl rfl)<|Aa<|MX.ifn rfl h (fun M1 h=>?_) (fun M1 h=>?_)
 refine AW rfl ?_
 have h:=Y2 _ h
 try dsimp only at h
 refine MX.fin rfl<|Ap (u:=.tuple #[]) H2 Tryz.func133 rfl .nil rfl<|MX.endRange0 y0 .hd (by intro h9; cases h9) (fun c4 b2 u2=>?_)
 obtain ⟨A0,v2⟩:=AL b2 (.one (.tl .hd) (.one (.tl .hd) (.one (.tl .hd) (.one (.tl .hd) (.one (.tl .hd) (.one (.tl .hd) .done))))))
 refine Au<|Aj<|Ac<|AZ rfl ((A0.memA (.tl (.tl .hd))) 0 _ rfl) ?_
 have J4:d0.length ≤ 4294967296:=St.rowLe (α:=UInt64) A0 (.tl (.tl (.tl .hd)))
 obtain ⟨p4,v4,Q2⟩:=St.rowV (α:=UInt64) A0 (.tl (.tl (.tl .hd)))
 refine Ab (FV.lenV Tryz.underlying75 rfl Q2)<|Ae rfl<|Aa<|Ar ?_
 have k1:=A0.nilRow 28 (Rep.size UInt64)
 have x2:=St.nilRowT A0 28 (Rep.size UInt64)
 have I2:=AB (cs:=[]) (xs:=([]:List UInt64)) k1 L (AN _ _)
 obtain ⟨c2,q1⟩:=AL k1 (.one .hd (.one .hd (.one (.tl (.tl .hd)) .done)))
 have j3:=AD I2 q1
 obtain ⟨Q4,A3,Z2⟩:=bind_in2 h
 refine Be (α:=Nat × (List UInt64) × Value × (List Value)) (fun ⟨p0,s0,q0,x0⟩=>[(4,q0),(28,(.slice (some ⟨g0,0,none⟩) a0.fk.toNat a0.fk.toNat)),(29,vI ((d0.length:Nat):Int)),(30,vI ((p0:Nat):Int))]) (fun ⟨p0,s0,q0,x0⟩ K0=>St w K0 [.row w.heap.size 28 (Rep.size UInt64) q0 s0.length x0,.obj v0 (.deferred (some [])),.row w.heap.size 28 (Rep.size UInt64) (.slice (some ⟨g0,0,none⟩) a0.fk.toNat a0.fk.toNat) d0.length k0]∧Tr c4 [.row w.heap.size 28 (Rep.size UInt64) vN (([]:List UInt64).length) [],.obj v0 (.deferred (some [])),.row w.heap.size 28 (Rep.size UInt64) (.slice (some ⟨g0,0,none⟩) a0.fk.toNat a0.fk.toNat) d0.length k0] K0 [.row w.heap.size 28 (Rep.size UInt64) q0 s0.length x0,.obj v0 (.deferred (some [])),.row w.heap.size 28 (Rep.size UInt64) (.slice (some ⟨g0,0,none⟩) a0.fk.toNat a0.fk.toNat) d0.length k0]∧Cells K0 (bl [.row w.heap.size 28 (Rep.size UInt64) q0 s0.length x0,.obj v0 (.deferred (some [])),.row w.heap.size 28 (Rep.size UInt64) (.slice (some ⟨g0,0,none⟩) a0.fk.toNat a0.fk.toNat) d0.length k0] ++ L) x0 s0) (fun ⟨p0,s0,q0,x0⟩=>(p0,s0)) (0,([]:List UInt64),vN,[]) A3 ⟨rfl,rfl,rfl,rfl,trivial⟩ ⟨c2,AT _ _,j3⟩ ?_
 rintro t4 ⟨p0,s0,q0,x0⟩ K0 g1 ⟨B0,X0,Y0⟩ h
 unfold interest_view_parts_l1 at h
 try dsimp only at h
 refine Ac<|Ab (Bf (i:=p0) (j:=d0.length) rfl rfl)<|Aa<|Aj<|AO rfl h (fun P1 h=>?_) (fun P1 h=>?_)
 refine Ao<|Aj<|Ar<|Ac ?_
 obtain ⟨u0,M3,h⟩:=bi h
 have C3:=Tt u2 (Tt v2 (Tt x2 (Tt q1 X0)))
 have p3:=AD z1 C3
 obtain ⟨H1,x4,Z0,C1,R1,F3,k3⟩:=St.nth (α:=UInt64) B0 (.tl (.tl .hd)) p3 M3
 obtain ⟨J1,y4,R2⟩:=St.nthOwn (α:=UInt64) B0 (.tl (.tl .hd)) C1
 obtain rfl:H1 = ⟨J1,0,none⟩:=by rw [R2] at Z0; cases Z0; rfl
 have U2:R1 = [vU u0]:=F3; subst U2
 refine Ab (Bo 1 p0 rfl Z0 rfl rfl C1)<|AZ rfl (k3 0 _ rfl)<|Af rfl<|Aa<|Ac<|Ae rfl<|Ab (FV.neqU (a:=u0) (b:=(0:UInt64)) rfl rfl)<|Aa<|MX.ifn rfl h (fun Q1 h=>?_) (fun Q1 h=>?_)
 refine Ao<|Au<|Am<|Ab (Bh (i:=p0) (j:=1) rfl rfl (by omega))<|Ae rfl<|Aa ?_
 exact g1 (p0 + 1,s0,q0,x0) _ _ ⟨rfl,rfl,rfl,rfl,trivial⟩ ⟨B0,X0,Y0⟩ h
 refine Am<|Ae rfl<|Ae rfl<|Al .plain rfl (AY (α:=UInt64) (xs:=([u0]:List UInt64)) (vs:=[vU u0]) (ds' :=[vU u0]) rfl B0 el75 rfl (e1 rfl) (by kernel_rfl) rfl) (fun Y4 u4 R0 s1=>?_)
 have K2:=AB (cs:=[vU u0]) (xs:=(([u0]:List UInt64):List UInt64)) R0 L (Aq (cs:=[vU u0]) (ds:=[]) rfl (AN _ _))
 obtain ⟨j4,V3,h⟩:=bi h
 have q3:=AD Y0 s1
 refine RG.doesL .plain rfl (DoesL.app (α:=UInt64) (ys:=([u0]:List UInt64)) V3 R0 (fun _ _=>(.tl .hd)) el75 rfl rfl q3 (Src.row (α:=UInt64) R0 .hd K2)) (fun b4 Z4 ⟨U1,d2,z2,M2⟩=>?_)
 refine Af rfl<|Aa<|Au<|Am<|Ab (Bh (i:=p0) (j:=1) rfl rfl (by omega))<|Ae rfl<|Aa ?_
 obtain ⟨g2,u1⟩:=AL d2 (.one (.tl .hd) (.one (.tl .hd) (.one (.tl .hd) .done)))
 have s3:=AD M2 u1
 have D3:=Tt s1 (Tt z2 u1)
 exact g1 (p0 + 1,j4,b4,U1) _ _ ⟨rfl,rfl,rfl,rfl,trivial⟩ ⟨g2,(Tt X0 D3),s3⟩ h
 refine AW rfl ?_
 have h:=Z2 _ h
 try dsimp only at h
 refine Ac<|Ae rfl<|Af rfl<|Aa<|Ak rfl<|RT.take B0 (.tl .hd) (fun b5 j2 A2=>?_)
 obtain ⟨U0,B2⟩:=AL j2 (.one .hd (.one (.tl .hd) .done))
 have t3:=AD Y0 (Tt A2 B2)
 have G3:=Bu (α:=UInt64) U0 .hd t3 hL
 have V0:=St.delS U0 .hd
 have H4:=St.delT U0 .hd
 have H3:=Rep.at_ (α:=UInt64) (v:=q0) (xs:=s0) V0 L G3
 refine AP hb0 Tryz.func68 rfl rfl ?_
 cases h
 exact ⟨V0.ag,fun w9 hw9=>⟨q0,rfl,V0.kd H3 hw9⟩⟩
 refine Ao<|Aj<|Ar<|Ac<|Ae rfl<|AZ rfl ((y0.memA (.tl (.tl .hd))) 0 _ rfl) ?_
 obtain ⟨P0,X3,h⟩:=bi h
 refine Bc (vI P0) body134 rfl (e1 rfl) (fun w9 hw9=>math_bits_TrailingZeros64_c n _ w9 (y0.hL0 hL hw9) b0 (hG0.keep (y0.ag.trans hw9)) X3) rfl<|RG.yieldP (fd:=68) (vs:=[vI P0]) .plain rfl (e1 rfl) y0 .hd Z3 rfl rfl rfl (fun C4 G2 K4=>?_)
 refine Am<|Af rfl<|Aa<|MX.begin y0 .hd (fun c5 z0 v1=>?_)
 refine Ar<|dt 12 tb68_4 (fun c0 j0=>?_)
 refine AF 0 1 7360 c0 rfl j0 (AG rfl ((z0.memA (.tl (.tl (.tl .hd)))) 0 _ rfl)) rfl<|Ag 1 3 c0 rfl j0 (fun _=>Bi 4 rfl) rfl<|AF 2 7 7408 c0 rfl j0 (AG rfl ((z0.memA (.tl (.tl (.tl (.tl (.tl (.tl .hd))))))) 4 _ rfl)) rfl<|Ag 3 15 c0 rfl j0 (fun _=>Ai rfl) rfl ?_
 obtain ⟨M0,P3,h⟩:=bi h
 obtain ⟨b3,Q3⟩:=idx_in P3
 have v3:=AH h0_4 z0
 obtain ⟨q4,z4,V2,c3,V1,I3,u3⟩:=Bk v3 Q3
 have W2:V1 = [vI M0]:=I3; subst W2
 refine Ag 4 31 c0 rfl j0 (fun _=>Bo 1 (P0.toNat) rfl V2 rfl b3 c3) rfl<|AF 5 63 7360 c0 rfl j0 (AG rfl (u3 0 _ rfl)) rfl ?_
 obtain ⟨G1,R3,h⟩:=bi h
 obtain ⟨B1,U3⟩:=idx_in R3
 have D1:=AD z1 v1
 obtain ⟨I1,A4,H0,b1,W1,J3,x3⟩:=St.nth (α:=UInt64) z0 (.tl (.tl (.tl (.tl .hd)))) D1 U3
 obtain ⟨K1,B4,A1⟩:=St.nthOwn (α:=UInt64) z0 (.tl (.tl (.tl (.tl .hd)))) b1
 obtain rfl:I1 = ⟨K1,0,none⟩:=by rw [A1] at H0; cases H0; rfl
 have X2:W1 = [vU G1]:=J3; subst X2
 refine Ag 6 127 c0 rfl j0 (fun _=>Bo 1 (M0.toNat) rfl H0 rfl B1 b1) rfl<|AF 7 255 7168 c0 rfl j0 (AG rfl (x3 0 _ rfl)) rfl<|Ag 8 511 c0 rfl j0 (fun _=>Ai rfl) rfl ?_
 obtain ⟨Y3,d3,h⟩:=bi h
 refine Ag 9 1023 c0 rfl j0 (fun _=>FV.shlI (a:=(1:UInt64)) (i:=P0) rfl rfl d3) rfl<|Ag 10 2047 c0 rfl j0 (fun _=>FV.orU (a:=G1) (b:=shlU (1:UInt64) Y3) rfl rfl) rfl<|Ag 11 4095 c0 rfl j0 (fun _=>Bo 1 (M0.toNat) rfl H0 rfl B1 b1) rfl ?_
 obtain ⟨k4,W3,h⟩:=bi h
 refine By (i:=12) (rk c0) (RO.acts (m' :=8191) (sk c0) rfl rfl .plain (Acts.set (α:=UInt64) (i:=M0.toNat) W3 z0 A1 (fun _=>(.tl (.tl (.tl (.tl .hd))))) D1 rfl rfl rfl rfl rfl (by kernel_rfl)) (fun g5 ⟨X1,k2,D2,P2⟩=>?_))
 refine AK (dk c0)<|Au<|MX.roundEnd G2 k2 .hd (fun j5 W0 x1=>?_)
 refine Ab (Bz rfl)<|Aa<|Bn rfl<|Ao<|Au<|Am<|AZ rfl ((W0.memA (.tl (.tl .hd))) 0 _ rfl)<|AZ rfl ((W0.memA (.tl (.tl .hd))) 0 _ rfl)<|Ab (FV.subU (a:=b0) (b:=(1:UInt64)) rfl rfl)<|Ab (FV.andU (a:=b0) (b:=b0 - (1:UInt64)) rfl rfl)<|AX [vW ((b0 &&& (b0 - (1:UInt64))).toNat:Int)] W0 (.tl (.tl .hd)) (o1 rfl) (fun k5 p2 y1=>?_)
 refine Aa ?_
 have y3:=AD P2 (Tt x1 y1)
 have E3:=Tt v1 (Tt D2 (Tt x1 y1))
 exact Y1 (b0 &&& (b0 - (1:UInt64)),k4,X1) _ _ ⟨rfl,rfl,trivial⟩ ⟨p2,(Tt t2 E3),y3⟩ h
def tb96_3:List (Nat × Nat × Nat):=[(0,256,8),(0,512,2),(2,1024,512),(4,2048,1024),(0,4096,16),(24,8192,6144),(32,16384,8192),(64,32768,16384),(129,65536,33024),(511,0,65544)]
def interest_view_largest_1_l1 (n:Nat) (a1:Tview) (d0:UInt64 × Int → Option Int):UInt64 × Int → Option Int
  | (b0,c0)=>(if b0 = (0:UInt64) then some c0 else (math_bits_TrailingZeros64_p n b0).bind fun k0=>(idx a1.fv.fo k0).bind fun j0=>(chk (c0 + j0.fE)).bind fun g0=>d0 (b0 &&& (b0 - (1:UInt64)),g0))
def interest_view_largest_1_p (n:Nat) (a0:UInt64) (a1:Tview):Option Int:=
  Option.bind (loopF (interest_view_largest_1_l1 n a1) n (a0,0)) (fun b0=>some b0)
theorem interest_view_largest_1_c (n:Nat) (L:List Nat) (w:World) (hL:∀ b ∈ L,b < w.heap.size) (a0:UInt64) (a1:Tview) {v1_3:Value} (h1_3:Rep.R w L [v1_3] a1.fv.fo) {v1_4:Value} (_h1_4:Rep.R w L [v1_4] a1.fplan) {p1:Nat} (m1:∀ j9 v9,([vI a1.fv.fh,vI a1.fv.fc,vI a1.fv.fe,v1_3,v1_4,vI a1.fk]:List Value)[j9]? = some v9 → w.cell? ((⟨p1,0,none⟩:Addr).add j9) = some v9) (hG0:Glob 0 tab0 w)  {r:Int} (h:interest_view_largest_1_p n a0 a1 = some r) :
    Calls Tryz.prog 96 #[vU a0,.pointer (some ⟨p1,0,none⟩)] w (Gives w fun _ u=>u = vI r):=by
 unfold interest_view_largest_1_p at h
 have hS0:=Ay w
 refine AC Tryz.func96 rfl rfl rfl (fun _ cs0 hb0=>?_)
 refine Ac<|Al .plain rfl (AA [vI 0] hS0) (fun A1 t0 u0 J1=>?_)
 refine Aa<|Aj<|Ac<|Ae rfl<|Bp (fst:=[]) (cap:=[]) .plain body97 rfl (e1 rfl) (fun w9 hw9=>Calls.gives (interest_units_c n _ w9 (u0.hL hL hw9) a0) fun (w8:World) (u8:Value) ⟨b0_,hu_,s_⟩=>(⟨b0_,hu_,s_.from hw9⟩:∃ g0:Nat,u8 = Value.func (.func 133) #[] #[vP g0]∧St A1 w8 [.cells g0 [vU a0] 28])) rfl (fun v2 p2 W1 ⟨g0,u1,D0⟩=>?_)
 subst u1
 have M0:=mk_push1 u0 D0
 have U1:=mk_tr1 u0 D0
 refine Aa<|Ar<|MX.rangeP (lb:=[vP g0]) rfl M0 rfl body133 Tryz.func133 rfl rfl rfl (fun B1 q0 s0 x0 I1 P0 V1 z1 Y0 Y1=>?_)
 refine Ar ?_
 obtain ⟨d2,k1,b1⟩:=bind_in2 h
 refine Be (α:=UInt64 × Int) (fun ⟨b0,j0⟩=>[(0,.func (.yield q0) #[] #[]),(1,vP g0)]) (fun ⟨b0,j0⟩ y0=>St w y0 [.obj q0 (lpO x0 .ready none),.obj s0 (.deferred (some [])),.cells g0 [vU b0] 28,.cells t0 [vI j0] 3]∧Tr B1 [.obj q0 (lpO x0 .ready none),.obj s0 (.deferred (some [])),.cells g0 [vU a0] 28,.cells t0 [vI 0] 3] y0 [.obj q0 (lpO x0 .ready none),.obj s0 (.deferred (some [])),.cells g0 [vU b0] 28,.cells t0 [vI j0] 3]) (fun ⟨b0,j0⟩=>(b0,j0)) (a0,0) k1 ⟨rfl,rfl,trivial⟩ ⟨P0,AT _ _⟩ ?_
 rintro E1 ⟨b0,j0⟩ y0 F0 ⟨k0,Q0⟩ h
 unfold interest_view_largest_1_l1 at h
 try dsimp only at h
 refine Aj<|Ac<|AZ rfl ((k0.memA (.tl (.tl .hd))) 0 _ rfl)<|Ab (FV.neqU (a:=b0) (b:=(0:UInt64)) rfl rfl)<|Aa<|MX.ifn rfl h (fun E0 h=>?_) (fun E0 h=>?_)
 refine AW rfl ?_
 have h:=b1 _ h
 try dsimp only at h
 refine MX.fin rfl<|Ap (u:=.tuple #[]) Y0 Tryz.func133 rfl .nil rfl<|MX.endRange0 k0 .hd (by intro h9; cases h9) (fun q2 G0 K1=>?_)
 obtain ⟨A0,M1⟩:=AL G0 (.one (.tl .hd) (.one (.tl .hd) (.one (.tl .hd) .done)))
 refine Au<|Ac<|AZ rfl ((A0.memA (.tl (.tl .hd))) 0 _ rfl)<|AX [vI j0] A0 (.tl (.tl .hd)) (o1 rfl) (fun s2 H0 P1=>?_)
 refine Aa<|Ak rfl<|RT.take H0 .hd (fun t2 I0 Q1=>?_)
 obtain ⟨B0,R1⟩:=AL I0 (.one (.tl .hd) (.one (.tl .hd) .done))
 refine Ap hb0 Tryz.func96 rfl (.cons (.one (by kernel_rfl) rfl ((B0.memA (.tl .hd)) 0 _ rfl)) .nil) rfl ?_
 cases h
 exact B0.gv
 refine Ao<|Aj<|Ar<|Ac<|Ae rfl<|AZ rfl ((k0.memA (.tl (.tl .hd))) 0 _ rfl) ?_
 obtain ⟨z0,y1,h⟩:=bi h
 refine Bc (vI z0) body134 rfl (e1 rfl) (fun w9 hw9=>math_bits_TrailingZeros64_c n _ w9 (k0.hL0 hL hw9) b0 (hG0.keep (k0.ag.trans hw9)) y1) rfl<|RG.yieldP (fd:=96) (vs:=[vI z0]) .plain rfl (e1 rfl) k0 .hd z1 rfl rfl rfl (fun G1 X0 X1=>?_)
 refine Am<|Af rfl<|Aa<|MX.begin k0 .hd (fun u2 p0 R0=>?_)
 refine Ar<|dt 9 tb96_3 (fun c0 d0=>?_)
 refine AF 0 1 768 c0 rfl d0 (AG rfl ((p0.memA (.tl (.tl (.tl .hd)))) 0 _ rfl)) rfl<|Ag 1 3 c0 rfl d0 (fun _=>Bi 0 rfl) rfl<|Ag 2 7 c0 rfl d0 (fun _=>Bi 3 rfl) rfl<|AF 3 15 992 c0 rfl d0 (AG rfl ((mem_from (fun j9 v9 h9=>p0.ag.cell0 (m1 j9 v9 h9)) 0) 3 _ rfl)) rfl<|Ag 4 31 c0 rfl d0 (fun _=>Ai rfl) rfl ?_
 obtain ⟨C1,v1,h⟩:=bi h
 obtain ⟨c1,x1⟩:=idx_in v1
 have j1:=AH h1_3 p0
 obtain ⟨D1,F1,Z0,d1,H1,s1,g1⟩:=Bk j1 x1
 obtain ⟨g2,j2,k2,rfl,Z1,b2,c2⟩:=op_TUnit s1
 refine Ag 5 63 c0 rfl d0 (fun _=>Bo 6 (z0.toNat) rfl Z0 rfl c1 d1) rfl<|Ag 6 127 c0 rfl d0 (fun _=>Bi 1 rfl) rfl<|AF 7 255 768 c0 rfl d0 (AG rfl (g1 1 _ rfl)) rfl ?_
 obtain ⟨C0,t1,h⟩:=bi h
 refine Ag 8 511 c0 rfl d0 (fun _=>FV.addc (i:=j0) (j:=C1.fE) rfl rfl t1) rfl<|Bv 9 1023 c0 rfl rfl .plain (Av (news:=[vI C0]) p0 (.tl (.tl (.tl .hd))) rfl rfl rfl rfl rfl rfl (o1 rfl)) (fun x2 J0 U0=>?_)
 refine AK (dk c0)<|Au<|MX.roundEnd X0 J0 .hd (fun y2 v0 V0=>?_)
 refine Ab (Bz rfl)<|Aa<|Bn rfl<|Ao<|Au<|Am<|AZ rfl ((v0.memA (.tl (.tl .hd))) 0 _ rfl)<|AZ rfl ((v0.memA (.tl (.tl .hd))) 0 _ rfl)<|Ab (FV.subU (a:=b0) (b:=(1:UInt64)) rfl rfl)<|Ab (FV.andU (a:=b0) (b:=b0 - (1:UInt64)) rfl rfl)<|AX [vW ((b0 &&& (b0 - (1:UInt64))).toNat:Int)] v0 (.tl (.tl .hd)) (o1 rfl) (fun z2 K0 W0=>?_)
 refine Aa ?_
 have q1:=Tt R0 (Tt U0 (Tt V0 W0))
 exact F0 (b0 &&& (b0 - (1:UInt64)),C0) _ _ ⟨rfl,rfl,trivial⟩ ⟨K0,(Tt Q0 q1)⟩ h
theorem body64:bodyB Tryz.prog 64 = true:=by kernel_rfl
theorem body68:bodyB Tryz.prog 68 = true:=by kernel_rfl
theorem body96:bodyB Tryz.prog 96 = true:=by kernel_rfl
def interest_view_largest_l1 (n:Nat) (c0:List UInt64) (g0:Int × Nat → Option Int):Int × Nat → Option Int
  | (d0,b0)=>(if b0 < c0.length then (c0[b0]?).bind fun j0=>(math_bits_OnesCount64_p n j0).bind fun k0=>g0 (max d0 k0,b0 + 1) else some d0)
def interest_view_largest_l2 (n:Nat) (c0:List UInt64) (a0:Tview) (g0:Int × Nat → Option Int):Int × Nat → Option Int
  | (d0,b0)=>(if b0 < c0.length then (c0[b0]?).bind fun j0=>(interest_view_largest_1_p n j0 a0).bind fun k0=>g0 (max d0 k0,b0 + 1) else some d0)
def interest_view_largest_p (n:Nat) (a0:Tview) (a1:TInterest):Option (Except Tbroken TShare):=
  (interest_view_largest_1_p n a1.fo a0).bind fun p0=>(if p0 = 0 then (interest_view_parts_p n a0 a1).bind fun q0=>Option.bind (loopF (interest_view_largest_l1 n q0) n (0,0)) (fun x0=>(math_bits_OnesCount64_p n a1.fo).bind fun s0=>(interest_of_p n x0 s0).bind fun t0=>exc t0 (fun u0=>some (.ok u0)) (fun c0=>some (.error c0))) else (interest_view_parts_p n a0 a1).bind fun d0=>Option.bind (loopF (interest_view_largest_l2 n d0 a0) n (0,0)) (fun v0=>(interest_view_largest_1_p n a1.fo a0).bind fun g0=>(interest_of_p n v0 g0).bind fun j0=>exc j0 (fun k0=>some (.ok k0)) (fun b0=>some (.error b0))))
theorem interest_view_largest_c (n:Nat) (L:List Nat) (w:World) (hL:∀ b ∈ L,b < w.heap.size) (a0:Tview) {v0_3:Value} (h0_3:Rep.R w L [v0_3] a0.fv.fo) {v0_4:Value} (h0_4:Rep.R w L [v0_4] a0.fplan) (a1:TInterest) (hG0:Glob 0 tab0 w)  {r:Except Tbroken TShare} (h:interest_view_largest_p n a0 a1 = some r) :
    Calls Tryz.prog 55 #[.agg #[vI a0.fv.fh,vI a0.fv.fc,vI a0.fv.fe,v0_3,v0_4,vI a0.fk],.agg #[.string a1.fp,vI a1.fx,vU a1.fo]] w (PGives w (fun (y:TShare) _ u=>u = .agg ((cs_TShare y)).toArray) (fun e=>.iface 176 (.agg #[vI e.fw])) r):=by
 unfold interest_view_largest_p at h
 have hS0:=Ay w
 refine MX.startP Tryz.func55 rfl rfl rfl (fun _ cs0 hb0 hp0=>?_)
 refine Ac<|Al .plain rfl (Ax hS0 rfl rfl) (fun Z2 q0 k1 G2=>?_)
 refine Al .plain rfl (Ax k1 rfl rfl) (fun b3 s0 p1 H2=>?_)
 refine Al .plain rfl (AA zL p1) (fun g3 t0 b0 K2=>?_)
 refine Aa<|Ac<|Ab (FV.makeFunc (vs:=[]) (us:=[vP q0]) evs_nil (e1 rfl))<|Af rfl<|Aa<|Ac<|Ae rfl<|Af rfl<|Aa<|Aj<|Ac<|Ae rfl<|Bd 2 rfl<|AZ rfl ((b0.memA (.tl .hd)) 2 _ rfl) ?_
 obtain ⟨V0,b2,h⟩:=bi h
 refine RG.callq' (v:=vI V0) (fst:=[]) (cap:=[vP q0]) .plain body96 rfl (e1 rfl) (fun w9 hw9=>interest_view_largest_1_c n _ w9 (b0.hL0 hL hw9) a1.fo a0 (b0.k0 h0_3 hw9) (b0.k0 h0_4 hw9) (fun j9 v9 h9=>hw9.cell0 ((b0.memA (.tl (.tl .hd))) j9 v9 h9)) (hG0.keep (b0.ag.trans hw9)) b2) rfl<|Ab (FV.eql (i:=V0) (j:=0) rfl rfl)<|Aa<|AO rfl h (fun X0 h=>?_) (fun X0 h=>?_)
 refine Am<|Af rfl<|Aa<|Ac<|Af rfl<|Aa<|Aj<|Ac<|Ab (AJ rfl (b0.memA (.tl (.tl .hd))))<|Ab (AJ rfl (b0.memA (.tl .hd))) ?_
 obtain ⟨x0,c2,h⟩:=bi h
 refine Bp (fst:=[]) (cap:=[]) .plain body68 rfl (e2 rfl rfl) (fun w9 hw9=>interest_view_parts_c n _ w9 (b0.hL hL hw9) a0 (b0.km h0_3 hw9) (b0.km h0_4 hw9) a1 (hG0.keep (b0.ag.trans hw9)) c2) rfl (fun q2 k2 z1 ⟨W2,hu_,z0⟩=>?_)
 subst hu_
 obtain ⟨s1,M2⟩:=b0.agr z1
 have Q2:x0.length ≤ 281474976710656:=AQ z0
 refine Ab (Bb (xs:=x0) Tryz.underlying75 rfl z0)<|Ae rfl<|Aa<|Ar ?_
 obtain ⟨t1,u1⟩:=AL s1 (.one .hd (.one .hd .done))
 obtain ⟨U2,Q1,F1⟩:=bind_in2 h
 refine Be (α:=Int × Nat) (fun ⟨p0,g0⟩=>[(3,vP s0),(4,vP t0),(6,.func (.func 46) #[] #[]),(7,vI p0),(19,k2),(20,vI ((x0.length:Nat):Int)),(21,vI ((g0:Nat):Int))]) (fun ⟨p0,g0⟩ B0=>St w B0 [.cells t0 zL 42,.cells s0 [.string a1.fp,vI a1.fx,vU a1.fo] 65]∧Tr q2 [.cells t0 zL 42,.cells s0 [.string a1.fp,vI a1.fx,vU a1.fo] 65] B0 [.cells t0 zL 42,.cells s0 [.string a1.fp,vI a1.fx,vU a1.fo] 65]) (fun ⟨p0,g0⟩=>(p0,g0)) (0,0) Q1 ⟨rfl,rfl,rfl,rfl,rfl,rfl,rfl,trivial⟩ ⟨t1,AT _ _⟩ ?_
 rintro y2 ⟨p0,g0⟩ B0 d1 ⟨u0,M0⟩ h
 unfold interest_view_largest_l1 at h
 try dsimp only at h
 refine Ac<|Ab (Bf (i:=g0) (j:=x0.length) rfl rfl)<|Aa<|Aj<|AO rfl h (fun Y0 h=>?_) (fun Y0 h=>?_)
 refine Ao<|Aj<|Ar<|Ac ?_
 obtain ⟨U0,W1,h⟩:=bi h
 have M1:=Az z0 (Tt u1 M0)
 obtain ⟨v2,A2,C1,H1,b1,U1,K1⟩:=Bk M1 W1
 have D1:b1 = [vU U0]:=U1; subst D1
 refine Ab (Bo 1 g0 rfl C1 rfl rfl H1)<|AZ rfl (K1 0 _ rfl)<|Af rfl<|Aa<|Am<|Ae rfl<|Ae rfl<|Ae rfl ?_
 obtain ⟨F0,d2,h⟩:=bi h
 refine Bc (vI F0) body46 rfl (e1 rfl) (fun w9 hw9=>math_bits_OnesCount64_c n _ w9 (u0.hL0 hL hw9) U0 d2) rfl<|Ab (FV.max2 (i:=p0) (j:=F0) rfl rfl)<|Af rfl<|Aa<|Au<|Am<|Ab (Bh (i:=g0) (j:=1) rfl rfl (by omega))<|Ae rfl<|Aa ?_
 exact d1 (max p0 F0,g0 + 1) _ _ ⟨rfl,rfl,rfl,rfl,rfl,rfl,rfl,trivial⟩ ⟨u0,M0⟩ h
 refine AW rfl ?_
 have h:=F1 _ h
 try dsimp only at h
 refine Ac<|Ae rfl<|Ae rfl<|Bd 2 rfl<|AZ rfl ((u0.memA (.tl .hd)) 2 _ rfl) ?_
 obtain ⟨G0,g2,h⟩:=bi h
 refine Bc (vI G0) body46 rfl (e1 rfl) (fun w9 hw9=>math_bits_OnesCount64_c n _ w9 (u0.hL0 hL hw9) a1.fo g2) rfl ?_
 obtain ⟨t2,Q0,h⟩:=bi h
 rcases t2 with C2 | H0
 have h:=exc_e h
 try dsimp only at h
 refine Bw (fst:=[]) (cap:=[]) .plain body64 rfl (e2 rfl rfl) (fun w9 hw9=>interest_of_c n _ w9 (u0.hL0 hL hw9) p0 G0 Q0) (fun X2 v1=>?_)
 obtain ⟨g1,D2⟩:=u0.agr v1
 cases h
 exact Bm hp0 Tryz.func55 ⟨g1.ag,rfl⟩
 have h:=exc_o h
 try dsimp only at h
 refine Bc (.agg ((cs_TShare H0)).toArray) body64 rfl (e2 rfl rfl) (fun w9 hw9=>Bl (interest_of_c n _ w9 (u0.hL0 hL hw9) p0 G0 Q0)) rfl<|AX (cs_TShare H0) u0 .hd (onesB rfl) (fun Y2 I0 E2=>?_)
 refine Aa<|Ak rfl<|Ap hb0 Tryz.func55 rfl (.cons (.many (cs:=(cs_TShare H0)) (by kernel_rfl) rfl (I0.memA .hd)) .nil) rfl ?_
 cases h
 exact ⟨I0.ag,fun w9 hw9=>okOf_in rfl⟩
 refine Ao<|Ac<|Af rfl<|Aa<|Aj<|Ac<|Ab (AJ rfl (b0.memA (.tl (.tl .hd))))<|Ab (AJ rfl (b0.memA (.tl .hd))) ?_
 obtain ⟨v0,X1,h⟩:=bi h
 refine Bp (fst:=[]) (cap:=[]) .plain body68 rfl (e2 rfl rfl) (fun w9 hw9=>interest_view_parts_c n _ w9 (b0.hL hL hw9) a0 (b0.km h0_3 hw9) (b0.km h0_4 hw9) a1 (hG0.keep (b0.ag.trans hw9)) X1) rfl (fun p2 j2 x1 ⟨V2,hu_,y0⟩=>?_)
 subst hu_
 obtain ⟨j1,F2⟩:=b0.agr x1
 have P2:v0.length ≤ 281474976710656:=AQ y0
 refine Ab (Bb (xs:=v0) Tryz.underlying75 rfl y0)<|Ae rfl<|Aa<|Ar ?_
 obtain ⟨R2,P1,E1⟩:=bind_in2 h
 refine Be (α:=Int × Nat) (fun ⟨j0,d0⟩=>[(3,vP s0),(4,vP t0),(6,.func (.func 96) #[] #[vP q0]),(7,vI j0),(19,j2),(20,vI ((v0.length:Nat):Int)),(21,vI ((d0:Nat):Int))]) (fun ⟨j0,d0⟩ A0=>St w A0 [.cells t0 zL 42,.cells s0 [.string a1.fp,vI a1.fx,vU a1.fo] 65,.cells q0 [vI a0.fv.fh,vI a0.fv.fc,vI a0.fv.fe,v0_3,v0_4,vI a0.fk] 119]∧Tr p2 [.cells t0 zL 42,.cells s0 [.string a1.fp,vI a1.fx,vU a1.fo] 65,.cells q0 [vI a0.fv.fh,vI a0.fv.fc,vI a0.fv.fe,v0_3,v0_4,vI a0.fk] 119] A0 [.cells t0 zL 42,.cells s0 [.string a1.fp,vI a1.fx,vU a1.fo] 65,.cells q0 [vI a0.fv.fh,vI a0.fv.fc,vI a0.fv.fe,v0_3,v0_4,vI a0.fk] 119]) (fun ⟨j0,d0⟩=>(j0,d0)) (0,0) P1 ⟨rfl,rfl,rfl,rfl,rfl,rfl,rfl,trivial⟩ ⟨j1,AT _ _⟩ ?_
 rintro x2 ⟨j0,d0⟩ A0 c1 ⟨c0,K0⟩ h
 unfold interest_view_largest_l2 at h
 try dsimp only at h
 refine Ac<|Ab (Bf (i:=d0) (j:=v0.length) rfl rfl)<|Aa<|Aj<|AO rfl h (fun W0 h=>?_) (fun W0 h=>?_)
 refine Ao<|Aj<|Ar<|Ac ?_
 obtain ⟨R0,V1,h⟩:=bi h
 have J1:=Az y0 K0
 obtain ⟨u2,z2,A1,G1,Z0,R1,I1⟩:=Bk J1 V1
 have B1:Z0 = [vU R0]:=R1; subst B1
 refine Ab (Bo 1 d0 rfl A1 rfl rfl G1)<|AZ rfl (I1 0 _ rfl)<|Af rfl<|Aa<|Am<|Ae rfl<|Ae rfl<|Ae rfl ?_
 obtain ⟨C0,Y1,h⟩:=bi h
 refine RG.callq' (v:=vI C0) (fst:=[]) (cap:=[vP q0]) .plain body96 rfl (e1 rfl) (fun w9 hw9=>interest_view_largest_1_c n _ w9 (c0.hL0 hL hw9) R0 a0 (c0.k0 h0_3 hw9) (c0.k0 h0_4 hw9) (fun j9 v9 h9=>hw9.cell0 ((c0.memA (.tl (.tl .hd))) j9 v9 h9)) (hG0.keep (c0.ag.trans hw9)) Y1) rfl<|Ab (FV.max2 (i:=j0) (j:=C0) rfl rfl)<|Af rfl<|Aa<|Au<|Am<|Ab (Bh (i:=d0) (j:=1) rfl rfl (by omega))<|Ae rfl<|Aa ?_
 exact c1 (max j0 C0,d0 + 1) _ _ ⟨rfl,rfl,rfl,rfl,rfl,rfl,rfl,trivial⟩ ⟨c0,K0⟩ h
 refine AW rfl ?_
 have h:=E1 _ h
 try dsimp only at h
 refine Ac<|Ae rfl<|Ae rfl<|Bd 2 rfl<|AZ rfl ((c0.memA (.tl .hd)) 2 _ rfl) ?_
 obtain ⟨D0,Z1,h⟩:=bi h
 refine RG.callq' (v:=vI D0) (fst:=[]) (cap:=[vP q0]) .plain body96 rfl (e1 rfl) (fun w9 hw9=>interest_view_largest_1_c n _ w9 (c0.hL0 hL hw9) a1.fo a0 (c0.k0 h0_3 hw9) (c0.k0 h0_4 hw9) (fun j9 v9 h9=>hw9.cell0 ((c0.memA (.tl (.tl .hd))) j9 v9 h9)) (hG0.keep (c0.ag.trans hw9)) Z1) rfl ?_
 obtain ⟨s2,P0,h⟩:=bi h
 rcases s2 with B2 | E0
 have h:=exc_e h
 try dsimp only at h
 refine Bw (fst:=[]) (cap:=[]) .plain body64 rfl (e2 rfl rfl) (fun w9 hw9=>interest_of_c n _ w9 (c0.hL0 hL hw9) j0 D0 P0) (fun c3 y1=>?_)
 obtain ⟨q1,I2⟩:=c0.agr y1
 cases h
 exact Bm hp0 Tryz.func55 ⟨q1.ag,rfl⟩
 have h:=exc_o h
 try dsimp only at h
 refine Bc (.agg ((cs_TShare E0)).toArray) body64 rfl (e2 rfl rfl) (fun w9 hw9=>Bl (interest_of_c n _ w9 (c0.hL0 hL hw9) j0 D0 P0)) rfl<|AX (cs_TShare E0) c0 .hd (onesB rfl) (fun d3 J0 J2=>?_)
 refine Aa<|Ak rfl<|Ap hb0 Tryz.func55 rfl (.cons (.many (cs:=(cs_TShare E0)) (by kernel_rfl) rfl (J0.memA .hd)) .nil) rfl ?_
 cases h
 exact ⟨J0.ag,fun w9 hw9=>okOf_in rfl⟩
end Go.Proofs.YtfccehcnajelgaaGreatDoor
