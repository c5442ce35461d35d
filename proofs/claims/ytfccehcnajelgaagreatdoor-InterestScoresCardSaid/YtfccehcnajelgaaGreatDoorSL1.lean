/- Functions of the program, and what they give: part 1. -/
import Derived.Test.YtfccehcnajelgaaGreatDoorProg
import Derived.Test.YtfccehcnajelgaaGreatDoorSMo
namespace Go.Proofs.YtfccehcnajelgaaGreatDoor
open Go Go.RowKit
set_option maxRecDepth 4000
set_option maxHeartbeats 4000000

def stab0:List UInt8:=[0,1,2,2,3,3,3,3,4,4,4,4,4,4,4,4,5,5,5,5,5,5,5,5,5,5,5,5,5,5,5,5,6,6,6,6,6,6,6,6,6,6,6,6,6,6,6,6,6,6,6,6,6,6,6,6,6,6,6,6,6,6,6,6,7,7,7,7,7,7,7,7,7,7,7,7,7,7,7,7,7,7,7,7,7,7,7,7,7,7,7,7,7,7,7,7,7,7,7,7,7,7,7,7,7,7,7,7,7,7,7,7,7,7,7,7,7,7,7,7,7,7,7,7,7,7,7,7,8,8,8,8,8,8,8,8,8,8,8,8,8,8,8,8,8,8,8,8,8,8,8,8,8,8,8,8,8,8,8,8,8,8,8,8,8,8,8,8,8,8,8,8,8,8,8,8,8,8,8,8,8,8,8,8,8,8,8,8,8,8,8,8,8,8,8,8,8,8,8,8,8,8,8,8,8,8,8,8,8,8,8,8,8,8,8,8,8,8,8,8,8,8,8,8,8,8,8,8,8,8,8,8,8,8,8,8,8,8,8,8,8,8,8,8,8,8,8,8,8,8,8,8,8,8,8,8]
def tab0:List UInt8:=[0,1,56,2,57,49,28,3,61,58,42,50,38,29,17,4,62,47,59,36,45,43,51,22,53,39,33,30,24,18,12,5,63,55,48,27,60,41,37,16,46,35,44,21,52,32,23,11,54,26,40,15,34,20,31,10,25,14,19,9,13,8,7,6]
def math_bits_Len64_p (_n:Nat) (a0:UInt64):Option Int:=
  jn (fun (u2,i3)=>jn (fun (b0,g0)=>jn (fun (q0,s0)=>(stab0[(u8of q0).toNat]?).bind fun t0=>(chk (s0 + ((t0.toNat:Nat):Int))).bind fun j0=>some j0) (fun d0=>(if (256:UInt64) ≤ b0 then (chk (g0 + 8)).bind fun k0=>d0 (shrU b0 8,k0) else d0 (b0,g0)))) (fun c0=>(if (65536:UInt64) ≤ u2 then (chk (((i3:Nat):Int) + 16)).bind fun p0=>c0 (shrU u2 16,p0) else c0 (u2,((i3:Nat):Int))))) (fun J7=>(if (4294967296:UInt64) ≤ a0 then J7 (shrU a0 32,32) else J7 (a0,0)))
theorem math_bits_Len64_c (n:Nat) (L:List Nat) (w:World) (_hL:∀ b ∈ L,b < w.heap.size) (a0:UInt64)  {r:Int} (h:math_bits_Len64_p n a0 = some r) :
    Calls Tryz.prog 86 #[vU a0] w (Gives w fun _ u=>u = vI r):=by
 unfold math_bits_Len64_p at h
 have hS0:=Ay w
 refine AC Tryz.func86 rfl rfl rfl (fun _ cs0 hb0=>?_)
 refine Ac<|Af rfl<|Aa<|Aj<|Ac<|Ae rfl<|Ab (FV.geqU (a:=a0) (b:=(4294967296:UInt64)) rfl rfl)<|Aa<|MX.join (α:=UInt64 × Nat) (fun ⟨u2,i3⟩=>[(0,vU u2),(2,vI ((i3:Nat):Int))]) (fun ⟨u2,i3⟩ wx3=>St w wx3 []∧Tr w [] wx3 []) (fun ⟨u2,i3⟩=>(u2,i3)) h ?_ ?_
 rintro ⟨u2,i3⟩ wx3 ⟨hS4,hT5⟩ h
 try dsimp only at h
 refine Aj<|Ac<|Ae rfl<|Ab (FV.geqU (a:=u2) (b:=(65536:UInt64)) rfl rfl)<|Aa<|MX.join (α:=UInt64 × Int) (fun ⟨b0,d0⟩=>[(0,vU b0),(2,vI d0)]) (fun ⟨b0,d0⟩ j0=>St w j0 []∧Tr wx3 [] j0 []) (fun ⟨b0,d0⟩=>(b0,d0)) h ?_ ?_
 rintro ⟨b0,d0⟩ j0 ⟨t0,H0⟩ h
 try dsimp only at h
 refine Aj<|Ac<|Ae rfl<|Ab (FV.geqU (a:=b0) (b:=(256:UInt64)) rfl rfl)<|Aa<|MX.join (α:=UInt64 × Int) (fun ⟨c0,g0⟩=>[(0,vU c0),(2,vI g0)]) (fun ⟨c0,g0⟩ k0=>St w k0 []∧Tr j0 [] k0 []) (fun ⟨c0,g0⟩=>(c0,g0)) h ?_ ?_
 rintro ⟨c0,g0⟩ k0 ⟨y0,I0⟩ h
 try dsimp only at h
 refine Ac<|Ae rfl<|Ae rfl<|Ab (FV.conv8 (a:=c0) Tryz.underlying28 Tryz.underlying5 rfl) ?_
 obtain ⟨p0,C0,h⟩:=bi h
 refine Ab (FV.strIdx (k:=(u8of c0).toNat) (tab:=stab0) Tryz.underlying9 rfl rfl rfl rfl C0) ?_
 have J0:=p0.toNat_lt
 refine Ab (FV.convN (i:=p0.toNat) Tryz.underlying5 Tryz.underlying3 rfl (by omega)) ?_
 obtain ⟨K0,z0,h⟩:=bi h
 refine Ab (FV.addc (i:=g0) (j:=((p0.toNat:Nat):Int)) rfl rfl z0)<|Af rfl<|Aa<|Ak rfl<|AP hb0 Tryz.func86 rfl rfl ?_
 cases h
 exact y0.gv
 intro G0 s0 h
 try dsimp only at h
 refine AO rfl h (fun u0 h=>?_) (fun u0 h=>?_)
 refine Ac<|Ae rfl<|Ab (FV.shrU (a:=b0) (j:=8) rfl rfl)<|Af rfl<|Aa<|Am<|Ae rfl ?_
 obtain ⟨D0,A0,h⟩:=bi h
 refine Ab (FV.addc (i:=d0) (j:=8) rfl rfl A0)<|Af rfl<|Aa ?_
 exact s0 (shrU b0 8,D0) _ _ ⟨rfl,rfl,trivial⟩ ⟨t0,AT _ _⟩ h
 refine Ao ?_
 exact s0 (b0,d0) _ _ ⟨rfl,rfl,trivial⟩ ⟨t0,AT _ _⟩ h
 intro F0 q0 h
 try dsimp only at h
 refine AO rfl h (fun v0 h=>?_) (fun v0 h=>?_)
 refine Ac<|Ae rfl<|Ab (FV.shrU (a:=u2) (j:=16) rfl rfl)<|Af rfl<|Aa<|Am<|Ae rfl ?_
 obtain ⟨E0,B0,h⟩:=bi h
 refine Ab (FV.addc (i:=((i3:Nat):Int)) (j:=16) rfl rfl B0)<|Af rfl<|Aa ?_
 exact q0 (shrU u2 16,E0) _ _ ⟨rfl,rfl,trivial⟩ ⟨hS4,AT _ _⟩ h
 refine Ao ?_
 exact q0 (u2,((i3:Nat):Int)) _ _ ⟨rfl,rfl,trivial⟩ ⟨hS4,AT _ _⟩ h
 intro J7 hJ8 h
 try dsimp only at h
 refine AO rfl h (fun x0 h=>?_) (fun x0 h=>?_)
 refine Ac<|Ae rfl<|Ab (FV.shrU (a:=a0) (j:=32) rfl rfl)<|Af rfl<|Aa<|Am<|Af rfl<|Aa ?_
 exact hJ8 (shrU a0 32,32) _ _ ⟨rfl,rfl,trivial⟩ ⟨hS0,AT _ _⟩ h
 refine Ao ?_
 exact hJ8 (a0,0) _ _ ⟨rfl,rfl,trivial⟩ ⟨hS0,AT _ _⟩ h
structure TInterest where
  fp:ByteArray
  fx:Int
  fo:UInt64
  deriving DecidableEq
instance:Rep TInterest:=Rep.via (β:=ByteArray × Int × UInt64) fun x=>(x.fp,x.fx,x.fo)
theorem body86:bodyB Tryz.prog 86 = true:=by kernel_rfl
def interest_right_l1 (_n:Nat) (a0:TInterest) (c0:Int → Option (Bool ⊕ Unit)):Int → Option (Bool ⊕ Unit)
  | b0=>(if b0 < ((a0.fp.size:Nat):Int) then (sidx a0.fp b0).bind fun g0=>(if g0.toNat < 32 then some (.inl false) else (sidx a0.fp b0).bind fun j0=>(if 126 < j0.toNat then some (.inl false) else (chk (b0 + 1)).bind fun d0=>c0 d0)) else some (.inr ()))
def interest_right_p (n:Nat) (a0:TInterest) (a1:Int):Option Bool:=
  thn (loopF (interest_right_l1 n a0) n 0) (fun _=>(if a0.fp = ⟨#[]⟩ then some false else (if a0.fp.size ≤ 24 then (if 0 ≤ a0.fx then (if a0.fx ≤ 1000 then (if a0.fo = (0:UInt64) then some false else (math_bits_Len64_p n a0.fo).bind fun b0=>some (decide (b0 ≤ a1))) else some false) else some false) else some false)))
theorem interest_right_c (n:Nat) (L:List Nat) (w:World) (hL:∀ b ∈ L,b < w.heap.size) (a0:TInterest) (a1:Int)  {r:Bool} (h:interest_right_p n a0 a1 = some r) :
    Calls Tryz.prog 42 #[.agg #[.string a0.fp,vI a0.fx,vU a0.fo],vI a1] w (Gives w fun _ u=>u = .bool r):=by
 unfold interest_right_p at h
 have hS0:=Ay w
 refine AC Tryz.func42 rfl rfl rfl (fun _ cs0 hb0=>?_)
 refine Ac<|Al .plain rfl (Ax hS0 rfl rfl) (fun P0 d0 k0 V0=>?_)
 refine Af rfl<|Aa<|Aj<|Ac<|Bd 0 rfl<|AZ rfl ((k0.memA .hd) 0 _ rfl)<|Ab (Bq Tryz.underlying9 rfl)<|Ae rfl<|Aa<|Ar ?_
 obtain ⟨W0,E0,g0⟩:=thn_in h
 refine Be (α:=Int) (fun c0=>[(1,vI a1),(2,vP d0),(8,vI ((a0.fp.size:Nat):Int)),(9,vI c0)]) (fun c0 j0=>St w j0 [.cells d0 [.string a0.fp,vI a0.fx,vU a0.fo] 65]∧Tr P0 [.cells d0 [.string a0.fp,vI a0.fx,vU a0.fo] 65] j0 [.cells d0 [.string a0.fp,vI a0.fx,vU a0.fo] 65]) (fun c0=>c0) 0 E0 ⟨rfl,rfl,rfl,rfl,trivial⟩ ⟨k0,AT _ _⟩ ?_
 rintro U0 c0 j0 A0 ⟨b0,B0⟩ h
 unfold interest_right_l1 at h
 try dsimp only at h
 refine Ac<|Ab (FV.lss (i:=c0) (j:=((a0.fp.size:Nat):Int)) rfl rfl)<|Aa<|Aj<|AO rfl h (fun q0 h=>?_) (fun q0 h=>?_)
 refine Ao<|Aj<|Ar<|Ac<|Ae rfl<|Af rfl<|Aa<|Ac<|Bd 0 rfl<|AZ rfl ((b0.memA .hd) 0 _ rfl)<|Ae rfl ?_
 obtain ⟨Q0,J0,h⟩:=bi h
 obtain ⟨C0,G0⟩:=sidx_in J0
 refine Ab (FV.strAt (k:=c0.toNat) Tryz.underlying9 rfl rfl C0 G0)<|Ab (Bf (i:=Q0.toNat) (j:=32) rfl rfl)<|Ae rfl<|RG.ifd (s:=17) rfl h (fun s0 h=>?_) (fun s0 h=>?_)
 refine AE<|AE<|AE<|AE<|AE<|RG.pt rfl rfl<|Aa<|Bj rfl<|Ac<|Af rfl<|Aa ?_
 have h:=thn_inl h g0
 refine Ak rfl<|AP hb0 Tryz.func42 rfl rfl ?_
 cases h
 exact b0.gv
 refine RG.fg 0 rfl<|AU (AG rfl ((b0.memA .hd) 0 _ rfl))<|AU (Ai rfl) ?_
 obtain ⟨R0,K0,h⟩:=bi h
 obtain ⟨D0,H0⟩:=sidx_in K0
 refine AU (FV.strAt (k:=c0.toNat) Tryz.underlying9 rfl rfl D0 H0)<|AU (FV.gtrN (i:=R0.toNat) (j:=126) rfl rfl)<|RG.pf rfl rfl<|Aa<|AO rfl h (fun t0 h=>?_) (fun t0 h=>?_)
 refine Ac<|Af rfl<|Aa ?_
 have h:=thn_inl h g0
 refine Ak rfl<|AP hb0 Tryz.func42 rfl rfl ?_
 cases h
 exact b0.gv
 refine Ao<|Au<|Am ?_
 obtain ⟨M0,F0,h⟩:=bi h
 refine Ab (FV.addc (i:=c0) (j:=1) rfl rfl F0)<|Ae rfl<|Aa ?_
 exact A0 M0 _ _ ⟨rfl,rfl,rfl,rfl,trivial⟩ ⟨b0,B0⟩ h
 refine AW rfl ?_
 have h:=thn_inr h g0
 try dsimp only at h
 refine Aj<|Am<|Bd 0 rfl<|AZ rfl ((b0.memA .hd) 0 _ rfl)<|Ab (FV.neqS rfl rfl)<|Ae rfl<|RG.ifn (s:=28) rfl h (fun u0 h=>?_) (fun u0 h=>?_)
 refine AE<|AE<|AE<|AE<|RG.pf rfl rfl<|Ae rfl<|AE<|AE<|AE<|RG.pf rfl rfl<|Ae rfl<|AE<|AE<|AE<|RG.pf rfl rfl<|Ae rfl<|AE<|AE<|AE<|RG.pf rfl rfl<|Ae rfl<|AE<|AE<|AE ?_
 refine AE<|AE<|RG.pf rfl rfl<|Af rfl<|Aa<|Ak rfl<|AP hb0 Tryz.func42 rfl rfl ?_
 cases h
 exact b0.gv
 refine RG.fg 0 rfl<|AU (AG rfl ((b0.memA .hd) 0 _ rfl))<|AU (Bq Tryz.underlying9 rfl)<|AU (FV.leqN (i:=a0.fp.size) (j:=24) rfl rfl)<|RG.pt rfl rfl<|Ae rfl<|RG.ifd (s:=34) rfl h (fun v0 h=>?_) (fun v0 h=>?_)
 refine RG.fg 1 rfl<|AU (AG rfl ((b0.memA .hd) 1 _ rfl))<|AU (FV.geq (i:=a0.fx) (j:=0) rfl rfl)<|RG.pt rfl rfl<|Ae rfl<|RG.ifd (s:=39) rfl h (fun x0 h=>?_) (fun x0 h=>?_)
 refine RG.fg 1 rfl<|AU (AG rfl ((b0.memA .hd) 1 _ rfl))<|AU (FV.leq (i:=a0.fx) (j:=1000) rfl rfl)<|RG.pt rfl rfl<|Ae rfl<|RG.ifd (s:=44) rfl h (fun y0 h=>?_) (fun y0 h=>?_)
 refine RG.fg 2 rfl<|AU (AG rfl ((b0.memA .hd) 2 _ rfl))<|AU (FV.neqU (a:=a0.fo) (b:=(0:UInt64)) rfl rfl)<|RG.pt rfl rfl<|Ae rfl<|RG.ifn (s:=49) rfl h (fun z0 h=>?_) (fun z0 h=>?_)
 refine AE<|AE<|AE<|AE<|AE<|RG.pf rfl rfl<|Af rfl<|Aa<|Ak rfl<|AP hb0 Tryz.func42 rfl rfl ?_
 cases h
 exact b0.gv
 refine RG.fg 2 rfl<|AU (AG rfl ((b0.memA .hd) 2 _ rfl)) ?_
 obtain ⟨p0,I0,h⟩:=bi h
 refine RG.callq' (v:=vI p0) (fst:=[]) (cap:=[]) (.yes rfl rfl) body86 rfl (e1 rfl) (fun w9 hw9=>math_bits_Len64_c n _ w9 (b0.hL0 hL hw9) a0.fo I0) rfl<|AU (Ai rfl)<|AU (FV.leq (i:=p0) (j:=a1) rfl rfl)<|RG.pt rfl rfl<|Af rfl<|Aa<|Ak rfl<|AP hb0 Tryz.func42 rfl rfl ?_
 cases h
 exact b0.gv
 refine AE<|AE<|AE<|RG.pf rfl rfl<|Ae rfl<|AE<|AE<|AE<|AE<|AE<|RG.pf rfl rfl<|Af rfl<|Aa<|Ak rfl<|AP hb0 Tryz.func42 rfl rfl ?_
 cases h
 exact b0.gv
 refine AE<|AE<|AE<|RG.pf rfl rfl<|Ae rfl<|AE<|AE<|AE<|RG.pf rfl rfl<|Ae rfl<|AE<|AE<|AE<|AE<|AE<|RG.pf rfl rfl<|Af rfl<|Aa<|Ak rfl<|AP hb0 Tryz.func42 rfl rfl ?_
 cases h
 exact b0.gv
 refine AE<|AE<|AE<|RG.pf rfl rfl<|Ae rfl<|AE<|AE<|AE<|RG.pf rfl rfl<|Ae rfl<|AE<|AE<|AE<|RG.pf rfl rfl<|Ae rfl<|AE<|AE<|AE<|AE<|AE<|RG.pf rfl rfl<|Af rfl<|Aa<|Ak rfl ?_
 refine AP hb0 Tryz.func42 rfl rfl ?_
 cases h
 exact b0.gv
theorem op_TInterest {w:World} {L:List Nat} {cs:List Value} {x:TInterest} (h:Rep.R w L cs x):cs = [.string x.fp,vI x.fx,vU x.fo]:=by
  obtain ⟨c0,r0,rfl,h0,h⟩:=h
  have e0:c0 = [.string x.fp]:=h0; subst e0
  obtain ⟨c1,r1,rfl,h1,h⟩:=h
  have e1:c1 = [vI x.fx]:=h1; subst e1
  have e2:r1 = [vU x.fo]:=h; subst e2
  rfl
theorem mk_TInterest {w:World} {L:List Nat} (a0:ByteArray) (a1:Int) (a2:UInt64):Rep.R w L [.string a0,vI a1,vU a2] (⟨a0,a1,a2⟩:TInterest):=⟨[.string a0],[vI a1,vU a2],rfl,rfl,⟨[vI a1],[vU a2],rfl,rfl,rfl⟩⟩
theorem body42:bodyB Tryz.prog 42 = true:=by kernel_rfl
def interest_Check_l1 (n:Nat) (a1:List TInterest) (a0:Int) (g0:Nat × (List (ByteArray × Bool)) → Option (Int ⊕ Unit)):Nat × (List (ByteArray × Bool)) → Option (Int ⊕ Unit)
  | (b0,d0)=>(if b0 < a1.length then (a1[b0]?).bind fun c0=>(if mgetD d0 c0.fp false = true then some (.inl (270:Int)) else (interest_right_p n c0 a0).bind fun j0=>(if j0 = true then g0 (b0 + 1,mset d0 c0.fp true) else some (.inl (270:Int)))) else some (.inr ()))
def interest_Check_p (n:Nat) (a0:Int) (a1:List TInterest):Option Int:=
  (if a0 < 1 then some (2:Int) else (if 64 < a0 then some (2:Int) else (if 20 < a1.length then some (3:Int) else thn (loopF (interest_Check_l1 n a1 a0) n (0,([]:List (ByteArray × Bool)))) (fun _=>some (0:Int)))))
theorem interest_Check_c (n:Nat) (L:List Nat) (w:World) (hL:∀ b ∈ L,b < w.heap.size) (a0:Int) (a1:List TInterest) {v1_0:Value} (h1_0:Rep.R w L [v1_0] a1)  {r:Int} (h:interest_Check_p n a0 a1 = some r) :
    Calls Tryz.prog 13 #[vI a0,v1_0] w (Gives w fun _ u=>u = vI r):=by
 unfold interest_Check_p at h
 have hS0:=Ay w
 refine AC Tryz.func13 rfl rfl rfl (fun _ cs0 hb0=>?_)
 refine Ac<|Af rfl<|Aa<|Aj<|Ar<|Ac<|Ae rfl<|Ab (FV.lss (i:=a0) (j:=1) rfl rfl)<|Ae rfl<|RG.ifd (s:=11) rfl h (fun c1 h=>?_) (fun c1 h=>?_)
 refine AE<|AE<|RG.pt rfl rfl<|Af rfl<|Aa<|Bj rfl<|Ac<|Af rfl<|Aa<|Ak rfl<|AP hb0 Tryz.func13 rfl rfl ?_
 cases h
 exact hS0.gv
 refine AU (Ai rfl)<|AU (FV.gtr (i:=a0) (j:=64) rfl rfl)<|RG.pf rfl rfl<|Af rfl<|Aa<|AO rfl h (fun c2 h=>?_) (fun c2 h=>?_)
 refine Ac<|Af rfl<|Aa<|Ak rfl<|AP hb0 Tryz.func13 rfl rfl ?_
 cases h
 exact hS0.gv
 refine Ac<|Ae rfl ?_
 have hl3:a1.length ≤ 281474976710656:=AQ h1_0
 refine Ab (Bb (xs:=a1) Tryz.underlying30 rfl h1_0)<|Ab (FV.gtrN (i:=a1.length) (j:=20) rfl rfl)<|Af rfl<|Aa<|AO rfl h (fun c4 h=>?_) (fun c4 h=>?_)
 refine Ac<|Af rfl<|Aa<|Ak rfl<|AP hb0 Tryz.func13 rfl rfl ?_
 cases h
 exact hS0.gv
 refine Ao<|Au<|Ac<|Al .plain rfl (Does.makeMap (κ:=ByteArray) (ν:=Bool) hS0) (fun V0 j0 s0 g1=>?_)
 refine Af rfl<|Aa<|Aj<|Ac<|Ae rfl ?_
 have I0:=AH h1_0 s0
 refine Ab (Bb (xs:=a1) Tryz.underlying30 rfl I0)<|Ae rfl<|Aa<|Ar ?_
 obtain ⟨j1,M0,p0⟩:=thn_in h
 refine Be (α:=Nat × (List (ByteArray × Bool))) (fun ⟨b0,d0⟩=>[(0,vI a0),(5,.map (some j0)),(20,v1_0),(21,vI ((a1.length:Nat):Int)),(22,vI ((b0:Nat):Int))]) (fun ⟨b0,d0⟩ q0=>St w q0 [.obj j0 (mapO (d0:List (ByteArray × Bool)))]∧Tr V0 [.obj j0 (mapO ([]:List (ByteArray × Bool)))] q0 [.obj j0 (mapO (d0:List (ByteArray × Bool)))]) (fun ⟨b0,d0⟩=>(b0,d0)) (0,([]:List (ByteArray × Bool))) M0 ⟨rfl,rfl,rfl,rfl,rfl,trivial⟩ ⟨s0,AT _ _⟩ ?_
 rintro Y0 ⟨b0,d0⟩ q0 x0 ⟨k0,E0⟩ h
 unfold interest_Check_l1 at h
 try dsimp only at h
 refine Ac<|Ab (Bf (i:=b0) (j:=a1.length) rfl rfl)<|Aa<|Aj<|AO rfl h (fun v0 h=>?_) (fun v0 h=>?_)
 refine Ao<|Aj<|Ar<|Ac ?_
 obtain ⟨g0,R0,h⟩:=bi h
 have K0:=AH h1_0 k0
 obtain ⟨X0,b1,G0,H0,d1,Q0,J0⟩:=Bk K0 R0
 obtain rfl:=op_TInterest Q0
 refine Ab (Bo 3 b0 rfl G0 rfl rfl H0)<|Ab (AJ rfl J0)<|Al .plain rfl (AA [.string ⟨#[]⟩,vI 0,vW 0] k0) (fun p1 Z0 A0 F0=>?_)
 refine AX [.string g0.fp,vI g0.fx,vU g0.fo] A0 .hd (onesB rfl) (fun q1 c0 B0=>?_)
 refine Aa<|Aj<|Ac<|Ae rfl<|Bd 0 rfl<|AZ rfl ((c0.memA .hd) 0 _ rfl)<|Ab (FV.lookup (kv:=g0.fp) (z:=false) c0 (.tl .hd) Tryz.underlying104 Tryz.underlying9 rfl (by kernel_rfl) rfl rfl)<|Ae rfl<|RG.ifb (s:=30) rfl h (fun t0 h=>?_) (fun t0 h=>?_)
 refine AE<|AE<|AE<|AE<|RG.pt rfl rfl<|Aa<|Bj rfl<|Ac<|Af rfl<|Aa ?_
 have h:=thn_inl h p0
 refine Ak rfl<|AP hb0 Tryz.func13 rfl rfl ?_
 cases h
 exact c0.gv
 refine AU (AJ rfl (c0.memA .hd))<|AU (Ai rfl) ?_
 obtain ⟨W0,U0,h⟩:=bi h
 refine RG.callq' (v:=.bool W0) (fst:=[]) (cap:=[]) (.yes rfl rfl) body42 rfl (e2 rfl rfl) (fun w9 hw9=>interest_right_c n _ w9 (c0.hL0 hL hw9) g0 a0 U0) rfl<|AU (Bz rfl)<|RG.pf rfl rfl<|Aa<|MX.ifnb rfl h (fun u0 h=>?_) (fun u0 h=>?_)
 refine Ao<|Am<|Ae rfl<|Bd 0 rfl<|AZ rfl ((c0.memA .hd) 0 _ rfl)<|RG.now .plain (Acts.mapUpdate (kv:=g0.fp) (vv:=true) c0 (.tl .hd) Tryz.underlying104 Tryz.underlying9 rfl rfl rfl rfl) (fun k1 y0 C0=>?_)
 refine Aa<|Au<|Am<|Ab (Bh (i:=b0) (j:=1) rfl rfl (by omega))<|Ae rfl<|Aa ?_
 obtain ⟨z0,D0⟩:=AL y0 (.one (.tl .hd) .done)
 have P0:=Tt F0 (Tt B0 (Tt C0 D0))
 exact x0 (b0 + 1,mset d0 g0.fp true) _ _ ⟨rfl,rfl,rfl,rfl,rfl,trivial⟩ ⟨z0,(Tt E0 P0)⟩ h
 refine Ac<|Af rfl<|Aa ?_
 have h:=thn_inl h p0
 refine Ak rfl<|AP hb0 Tryz.func13 rfl rfl ?_
 cases h
 exact c0.gv
 refine AW rfl ?_
 have h:=thn_inr h p0
 try dsimp only at h
 refine Ac<|Af rfl<|Aa<|Ak rfl<|AP hb0 Tryz.func13 rfl rfl ?_
 cases h
 exact k0.gv
def cs_A39 (x:UInt64 × UInt64 × UInt64 × UInt64 × UInt64 × UInt64 × UInt64 × UInt64):List Value:=[vU x.1,vU x.2.1,vU x.2.2.1,vU x.2.2.2.1,vU x.2.2.2.2.1,vU x.2.2.2.2.2.1,vU x.2.2.2.2.2.2.1,vU x.2.2.2.2.2.2.2]
def tb188_5:List (Nat × Nat × Nat):=[(0,4096,128),(0,8192,128),(2,16384,8196),(4,32768,16384),(0,65536,128),(16,131072,65544),(32,262144,131072),(0,524288,64),(200,1048576,819200),(256,2048,1048576),(512,2097152,2048),(512,4194304,2048),(2047,8388608,4100),(6143,0,10485760),(16383,64,4194304)]
def wide_Size_minus_p (_n:Nat) (a0:UInt64 × UInt64 × UInt64 × UInt64 × UInt64 × UInt64 × UInt64 × UInt64) (a1:UInt64 × UInt64 × UInt64 × UInt64 × UInt64 × UInt64 × UInt64 × UInt64):Option ((UInt64 × UInt64 × UInt64 × UInt64 × UInt64 × UInt64 × UInt64 × UInt64) × UInt64):=
  (sub64 a0.1 a1.1 (0:UInt64)).bind fun b0=>(sub64 a0.2.1 a1.2.1 b0.2).bind fun c0=>(sub64 a0.2.2.1 a1.2.2.1 c0.2).bind fun d0=>(sub64 a0.2.2.2.1 a1.2.2.2.1 d0.2).bind fun g0=>(sub64 a0.2.2.2.2.1 a1.2.2.2.2.1 g0.2).bind fun j0=>(sub64 a0.2.2.2.2.2.1 a1.2.2.2.2.2.1 j0.2).bind fun k0=>(sub64 a0.2.2.2.2.2.2.1 a1.2.2.2.2.2.2.1 k0.2).bind fun p0=>(sub64 a0.2.2.2.2.2.2.2 a1.2.2.2.2.2.2.2 p0.2).bind fun q0=>some ((b0.1,c0.1,d0.1,g0.1,j0.1,k0.1,p0.1,q0.1),q0.2)
theorem wide_Size_minus_c (n:Nat) (L:List Nat) (w:World) (_hL:∀ b ∈ L,b < w.heap.size) (a0:UInt64 × UInt64 × UInt64 × UInt64 × UInt64 × UInt64 × UInt64 × UInt64) (a1:UInt64 × UInt64 × UInt64 × UInt64 × UInt64 × UInt64 × UInt64 × UInt64)  {r:(UInt64 × UInt64 × UInt64 × UInt64 × UInt64 × UInt64 × UInt64 × UInt64) × UInt64} (h:wide_Size_minus_p n a0 a1 = some r) :
    Calls Tryz.prog 188 #[.agg ((cs_A39 a0)).toArray,.agg ((cs_A39 a1)).toArray] w (Gives w fun _ u=>u = .tuple #[.agg ((cs_A39 r.1)).toArray,vU r.2]):=by
 unfold wide_Size_minus_p at h
 have hS0:=Ay w
 refine AC Tryz.func188 rfl rfl rfl (fun _ cs0 hb0=>?_)
 refine Ac<|Al .plain rfl (Ax hS0 rfl rfl) (fun I1 s1 Y0 v1=>?_)
 refine Al .plain rfl (Ax Y0 rfl rfl) (fun J1 t1 Z0 x1=>?_)
 refine Al .plain rfl (AA zP Z0) (fun K1 u1 J0 y1=>?_)
 refine Af rfl<|Aa<|Ac<|Af rfl<|Aa<|Aj<|Ac<|Ae rfl<|Aa<|Ar<|MX.loop1<|Ac<|Ab (Bf (i:=0) (j:=8) rfl rfl)<|Aa<|Aj<|Bj rfl<|Ao<|Aj<|Ar<|Ac<|Ae rfl<|Af rfl<|Aa<|dt 13 tb188_5 (fun c0 v0=>?_)
 refine Ag 0 1 c0 rfl v0 (fun _=>Ai rfl) rfl<|Ag 1 3 c0 rfl v0 (fun _=>Ai rfl) rfl<|Ag 2 7 c0 rfl v0 (fun _=>AR (m:=1) (k:=0) (len:=8) (by kernel_rfl) rfl rfl rfl (by omega)) rfl<|AF 3 15 32512 c0 rfl v0 (AG rfl ((J0.memA (.tl (.tl .hd))) 0 _ rfl)) rfl<|Ag 4 31 c0 rfl v0 (fun _=>Ai rfl) rfl<|Ag 5 63 c0 rfl v0 (fun _=>AR (m:=1) (k:=0) (len:=8) (by kernel_rfl) rfl rfl rfl (by omega)) rfl<|AF 6 127 32512 c0 rfl v0 (AG rfl ((J0.memA (.tl .hd)) 0 _ rfl)) rfl<|Ag 7 255 c0 rfl v0 (fun _=>Ai rfl) rfl ?_
 obtain ⟨b0,b1,h⟩:=bi h
 refine Ag 8 511 c0 rfl v0 (fun _=>FV.sub64 (a:=a0.1) (b:=a1.1) (c:=(0:UInt64)) Tryz.func174 rfl (by kernel_rfl) (by kernel_rfl) (by kernel_rfl) rfl rfl rfl b1) rfl<|Ag 9 1023 c0 rfl v0 (fun _=>Ai rfl) rfl<|Ag 10 2047 c0 rfl v0 (fun _=>Ah rfl rfl) rfl<|Ag 11 4095 c0 rfl v0 (fun _=>Ah rfl rfl) rfl<|Ag 12 8191 c0 rfl v0 (fun _=>AR (m:=1) (k:=0) (len:=8) (by kernel_rfl) rfl rfl rfl (by omega)) rfl<|Bv 13 16383 c0 rfl rfl .plain (Bx (j:=0) (old:=(cs_A39 a0)) (news:=[vU b0.1]) (new' :=[vU b0.1,vU a0.2.1,vU a0.2.2.1,vU a0.2.2.2.1,vU a0.2.2.2.2.1,vU a0.2.2.2.2.2.1,vU a0.2.2.2.2.2.2.1,vU a0.2.2.2.2.2.2.2]) J0 (.tl (.tl .hd)) rfl rfl rfl rfl rfl rfl (o1 rfl) rfl) (fun M1 K0 z1=>?_)
 refine By (i:=14) (rk c0) (RO.val (m' :=32767) (sk c0) rfl .plain rfl (AS rfl) ?_)
 refine AK (dk c0)<|Au<|Am<|Ab (FV.add (i:=0) (j:=1) (r:=1) rfl rfl (by decide))<|Ae rfl<|Aa<|MX.again1<|Ac<|Ab (Bf (i:=1) (j:=8) rfl rfl)<|Aa<|Aj<|Bj rfl<|Ao<|Aj<|Ar<|Ac<|Ae rfl<|Af rfl<|Aa<|dt 13 tb188_5 (fun d0 x0=>?_)
 refine Ag 0 1 d0 rfl x0 (fun _=>Ai rfl) rfl<|Ag 1 3 d0 rfl x0 (fun _=>Ai rfl) rfl<|Ag 2 7 d0 rfl x0 (fun _=>AR (m:=1) (k:=1) (len:=8) (by kernel_rfl) rfl rfl rfl (by omega)) rfl<|AF 3 15 32512 d0 rfl x0 (AG rfl ((K0.memA (.tl (.tl .hd))) 1 _ rfl)) rfl<|Ag 4 31 d0 rfl x0 (fun _=>Ai rfl) rfl<|Ag 5 63 d0 rfl x0 (fun _=>AR (m:=1) (k:=1) (len:=8) (by kernel_rfl) rfl rfl rfl (by omega)) rfl<|AF 6 127 32512 d0 rfl x0 (AG rfl ((K0.memA (.tl .hd)) 1 _ rfl)) rfl<|Ag 7 255 d0 rfl x0 (fun _=>Ai rfl) rfl ?_
 obtain ⟨t0,c1,h⟩:=bi h
 refine Ag 8 511 d0 rfl x0 (fun _=>FV.sub64 (a:=a0.2.1) (b:=a1.2.1) (c:=b0.2) Tryz.func174 rfl (by kernel_rfl) (by kernel_rfl) (by kernel_rfl) rfl rfl rfl c1) rfl<|Ag 9 1023 d0 rfl x0 (fun _=>Ai rfl) rfl<|Ag 10 2047 d0 rfl x0 (fun _=>Ah rfl rfl) rfl<|Ag 11 4095 d0 rfl x0 (fun _=>Ah rfl rfl) rfl<|Ag 12 8191 d0 rfl x0 (fun _=>AR (m:=1) (k:=1) (len:=8) (by kernel_rfl) rfl rfl rfl (by omega)) rfl<|Bv 13 16383 d0 rfl rfl .plain (Bx (j:=1) (old:=[vU b0.1,vU a0.2.1,vU a0.2.2.1,vU a0.2.2.2.1,vU a0.2.2.2.2.1,vU a0.2.2.2.2.2.1,vU a0.2.2.2.2.2.2.1,vU a0.2.2.2.2.2.2.2]) (news:=[vU t0.1]) (new' :=[vU b0.1,vU t0.1,vU a0.2.2.1,vU a0.2.2.2.1,vU a0.2.2.2.2.1,vU a0.2.2.2.2.2.1,vU a0.2.2.2.2.2.2.1,vU a0.2.2.2.2.2.2.2]) K0 (.tl (.tl .hd)) rfl rfl rfl rfl rfl rfl (o1 rfl) rfl) (fun P1 M0 A1=>?_)
 refine By (i:=14) (rk d0) (RO.val (m' :=32767) (sk d0) rfl .plain rfl (AS rfl) ?_)
 refine AK (dk d0)<|Au<|Am<|Ab (FV.add (i:=1) (j:=1) (r:=2) rfl rfl (by decide))<|Ae rfl<|Aa<|MX.again1<|Ac<|Ab (Bf (i:=2) (j:=8) rfl rfl)<|Aa<|Aj<|Bj rfl<|Ao<|Aj<|Ar<|Ac<|Ae rfl<|Af rfl<|Aa<|dt 13 tb188_5 (fun g0 y0=>?_)
 refine Ag 0 1 g0 rfl y0 (fun _=>Ai rfl) rfl<|Ag 1 3 g0 rfl y0 (fun _=>Ai rfl) rfl<|Ag 2 7 g0 rfl y0 (fun _=>AR (m:=1) (k:=2) (len:=8) (by kernel_rfl) rfl rfl rfl (by omega)) rfl<|AF 3 15 32512 g0 rfl y0 (AG rfl ((M0.memA (.tl (.tl .hd))) 2 _ rfl)) rfl<|Ag 4 31 g0 rfl y0 (fun _=>Ai rfl) rfl<|Ag 5 63 g0 rfl y0 (fun _=>AR (m:=1) (k:=2) (len:=8) (by kernel_rfl) rfl rfl rfl (by omega)) rfl<|AF 6 127 32512 g0 rfl y0 (AG rfl ((M0.memA (.tl .hd)) 2 _ rfl)) rfl<|Ag 7 255 g0 rfl y0 (fun _=>Ai rfl) rfl ?_
 obtain ⟨u0,d1,h⟩:=bi h
 refine Ag 8 511 g0 rfl y0 (fun _=>FV.sub64 (a:=a0.2.2.1) (b:=a1.2.2.1) (c:=t0.2) Tryz.func174 rfl (by kernel_rfl) (by kernel_rfl) (by kernel_rfl) rfl rfl rfl d1) rfl<|Ag 9 1023 g0 rfl y0 (fun _=>Ai rfl) rfl<|Ag 10 2047 g0 rfl y0 (fun _=>Ah rfl rfl) rfl<|Ag 11 4095 g0 rfl y0 (fun _=>Ah rfl rfl) rfl<|Ag 12 8191 g0 rfl y0 (fun _=>AR (m:=1) (k:=2) (len:=8) (by kernel_rfl) rfl rfl rfl (by omega)) rfl<|Bv 13 16383 g0 rfl rfl .plain (Bx (j:=2) (old:=[vU b0.1,vU t0.1,vU a0.2.2.1,vU a0.2.2.2.1,vU a0.2.2.2.2.1,vU a0.2.2.2.2.2.1,vU a0.2.2.2.2.2.2.1,vU a0.2.2.2.2.2.2.2]) (news:=[vU u0.1]) (new' :=[vU b0.1,vU t0.1,vU u0.1,vU a0.2.2.2.1,vU a0.2.2.2.2.1,vU a0.2.2.2.2.2.1,vU a0.2.2.2.2.2.2.1,vU a0.2.2.2.2.2.2.2]) M0 (.tl (.tl .hd)) rfl rfl rfl rfl rfl rfl (o1 rfl) rfl) (fun Q1 P0 B1=>?_)
 refine By (i:=14) (rk g0) (RO.val (m' :=32767) (sk g0) rfl .plain rfl (AS rfl) ?_)
 refine AK (dk g0)<|Au<|Am<|Ab (FV.add (i:=2) (j:=1) (r:=3) rfl rfl (by decide))<|Ae rfl<|Aa<|MX.again1<|Ac<|Ab (Bf (i:=3) (j:=8) rfl rfl)<|Aa<|Aj<|Bj rfl<|Ao<|Aj<|Ar<|Ac<|Ae rfl<|Af rfl<|Aa<|dt 13 tb188_5 (fun j0 z0=>?_)
 refine Ag 0 1 j0 rfl z0 (fun _=>Ai rfl) rfl<|Ag 1 3 j0 rfl z0 (fun _=>Ai rfl) rfl<|Ag 2 7 j0 rfl z0 (fun _=>AR (m:=1) (k:=3) (len:=8) (by kernel_rfl) rfl rfl rfl (by omega)) rfl<|AF 3 15 32512 j0 rfl z0 (AG rfl ((P0.memA (.tl (.tl .hd))) 3 _ rfl)) rfl<|Ag 4 31 j0 rfl z0 (fun _=>Ai rfl) rfl<|Ag 5 63 j0 rfl z0 (fun _=>AR (m:=1) (k:=3) (len:=8) (by kernel_rfl) rfl rfl rfl (by omega)) rfl<|AF 6 127 32512 j0 rfl z0 (AG rfl ((P0.memA (.tl .hd)) 3 _ rfl)) rfl<|Ag 7 255 j0 rfl z0 (fun _=>Ai rfl) rfl ?_
 obtain ⟨E0,g1,h⟩:=bi h
 refine Ag 8 511 j0 rfl z0 (fun _=>FV.sub64 (a:=a0.2.2.2.1) (b:=a1.2.2.2.1) (c:=u0.2) Tryz.func174 rfl (by kernel_rfl) (by kernel_rfl) (by kernel_rfl) rfl rfl rfl g1) rfl<|Ag 9 1023 j0 rfl z0 (fun _=>Ai rfl) rfl<|Ag 10 2047 j0 rfl z0 (fun _=>Ah rfl rfl) rfl<|Ag 11 4095 j0 rfl z0 (fun _=>Ah rfl rfl) rfl<|Ag 12 8191 j0 rfl z0 (fun _=>AR (m:=1) (k:=3) (len:=8) (by kernel_rfl) rfl rfl rfl (by omega)) rfl<|Bv 13 16383 j0 rfl rfl .plain (Bx (j:=3) (old:=[vU b0.1,vU t0.1,vU u0.1,vU a0.2.2.2.1,vU a0.2.2.2.2.1,vU a0.2.2.2.2.2.1,vU a0.2.2.2.2.2.2.1,vU a0.2.2.2.2.2.2.2]) (news:=[vU E0.1]) (new' :=[vU b0.1,vU t0.1,vU u0.1,vU E0.1,vU a0.2.2.2.2.1,vU a0.2.2.2.2.2.1,vU a0.2.2.2.2.2.2.1,vU a0.2.2.2.2.2.2.2]) P0 (.tl (.tl .hd)) rfl rfl rfl rfl rfl rfl (o1 rfl) rfl) (fun R1 Q0 C1=>?_)
 refine By (i:=14) (rk j0) (RO.val (m' :=32767) (sk j0) rfl .plain rfl (AS rfl) ?_)
 refine AK (dk j0)<|Au<|Am<|Ab (FV.add (i:=3) (j:=1) (r:=4) rfl rfl (by decide))<|Ae rfl<|Aa<|MX.again1<|Ac<|Ab (Bf (i:=4) (j:=8) rfl rfl)<|Aa<|Aj<|Bj rfl<|Ao<|Aj<|Ar<|Ac<|Ae rfl<|Af rfl<|Aa<|dt 13 tb188_5 (fun k0 A0=>?_)
 refine Ag 0 1 k0 rfl A0 (fun _=>Ai rfl) rfl<|Ag 1 3 k0 rfl A0 (fun _=>Ai rfl) rfl<|Ag 2 7 k0 rfl A0 (fun _=>AR (m:=1) (k:=4) (len:=8) (by kernel_rfl) rfl rfl rfl (by omega)) rfl<|AF 3 15 32512 k0 rfl A0 (AG rfl ((Q0.memA (.tl (.tl .hd))) 4 _ rfl)) rfl<|Ag 4 31 k0 rfl A0 (fun _=>Ai rfl) rfl<|Ag 5 63 k0 rfl A0 (fun _=>AR (m:=1) (k:=4) (len:=8) (by kernel_rfl) rfl rfl rfl (by omega)) rfl<|AF 6 127 32512 k0 rfl A0 (AG rfl ((Q0.memA (.tl .hd)) 4 _ rfl)) rfl<|Ag 7 255 k0 rfl A0 (fun _=>Ai rfl) rfl ?_
 obtain ⟨F0,j1,h⟩:=bi h
 refine Ag 8 511 k0 rfl A0 (fun _=>FV.sub64 (a:=a0.2.2.2.2.1) (b:=a1.2.2.2.2.1) (c:=E0.2) Tryz.func174 rfl (by kernel_rfl) (by kernel_rfl) (by kernel_rfl) rfl rfl rfl j1) rfl<|Ag 9 1023 k0 rfl A0 (fun _=>Ai rfl) rfl<|Ag 10 2047 k0 rfl A0 (fun _=>Ah rfl rfl) rfl<|Ag 11 4095 k0 rfl A0 (fun _=>Ah rfl rfl) rfl<|Ag 12 8191 k0 rfl A0 (fun _=>AR (m:=1) (k:=4) (len:=8) (by kernel_rfl) rfl rfl rfl (by omega)) rfl<|Bv 13 16383 k0 rfl rfl .plain (Bx (j:=4) (old:=[vU b0.1,vU t0.1,vU u0.1,vU E0.1,vU a0.2.2.2.2.1,vU a0.2.2.2.2.2.1,vU a0.2.2.2.2.2.2.1,vU a0.2.2.2.2.2.2.2]) (news:=[vU F0.1]) (new' :=[vU b0.1,vU t0.1,vU u0.1,vU E0.1,vU F0.1,vU a0.2.2.2.2.2.1,vU a0.2.2.2.2.2.2.1,vU a0.2.2.2.2.2.2.2]) Q0 (.tl (.tl .hd)) rfl rfl rfl rfl rfl rfl (o1 rfl) rfl) (fun U1 R0 D1=>?_)
 refine By (i:=14) (rk k0) (RO.val (m' :=32767) (sk k0) rfl .plain rfl (AS rfl) ?_)
 refine AK (dk k0)<|Au<|Am<|Ab (FV.add (i:=4) (j:=1) (r:=5) rfl rfl (by decide))<|Ae rfl<|Aa<|MX.again1<|Ac<|Ab (Bf (i:=5) (j:=8) rfl rfl)<|Aa<|Aj<|Bj rfl<|Ao<|Aj<|Ar<|Ac<|Ae rfl<|Af rfl<|Aa<|dt 13 tb188_5 (fun p0 B0=>?_)
 refine Ag 0 1 p0 rfl B0 (fun _=>Ai rfl) rfl<|Ag 1 3 p0 rfl B0 (fun _=>Ai rfl) rfl<|Ag 2 7 p0 rfl B0 (fun _=>AR (m:=1) (k:=5) (len:=8) (by kernel_rfl) rfl rfl rfl (by omega)) rfl<|AF 3 15 32512 p0 rfl B0 (AG rfl ((R0.memA (.tl (.tl .hd))) 5 _ rfl)) rfl<|Ag 4 31 p0 rfl B0 (fun _=>Ai rfl) rfl<|Ag 5 63 p0 rfl B0 (fun _=>AR (m:=1) (k:=5) (len:=8) (by kernel_rfl) rfl rfl rfl (by omega)) rfl<|AF 6 127 32512 p0 rfl B0 (AG rfl ((R0.memA (.tl .hd)) 5 _ rfl)) rfl<|Ag 7 255 p0 rfl B0 (fun _=>Ai rfl) rfl ?_
 obtain ⟨G0,k1,h⟩:=bi h
 refine Ag 8 511 p0 rfl B0 (fun _=>FV.sub64 (a:=a0.2.2.2.2.2.1) (b:=a1.2.2.2.2.2.1) (c:=F0.2) Tryz.func174 rfl (by kernel_rfl) (by kernel_rfl) (by kernel_rfl) rfl rfl rfl k1) rfl<|Ag 9 1023 p0 rfl B0 (fun _=>Ai rfl) rfl<|Ag 10 2047 p0 rfl B0 (fun _=>Ah rfl rfl) rfl<|Ag 11 4095 p0 rfl B0 (fun _=>Ah rfl rfl) rfl<|Ag 12 8191 p0 rfl B0 (fun _=>AR (m:=1) (k:=5) (len:=8) (by kernel_rfl) rfl rfl rfl (by omega)) rfl<|Bv 13 16383 p0 rfl rfl .plain (Bx (j:=5) (old:=[vU b0.1,vU t0.1,vU u0.1,vU E0.1,vU F0.1,vU a0.2.2.2.2.2.1,vU a0.2.2.2.2.2.2.1,vU a0.2.2.2.2.2.2.2]) (news:=[vU G0.1]) (new' :=[vU b0.1,vU t0.1,vU u0.1,vU E0.1,vU F0.1,vU G0.1,vU a0.2.2.2.2.2.2.1,vU a0.2.2.2.2.2.2.2]) R0 (.tl (.tl .hd)) rfl rfl rfl rfl rfl rfl (o1 rfl) rfl) (fun V1 U0 E1=>?_)
 refine By (i:=14) (rk p0) (RO.val (m' :=32767) (sk p0) rfl .plain rfl (AS rfl) ?_)
 refine AK (dk p0)<|Au<|Am<|Ab (FV.add (i:=5) (j:=1) (r:=6) rfl rfl (by decide))<|Ae rfl<|Aa<|MX.again1<|Ac<|Ab (Bf (i:=6) (j:=8) rfl rfl)<|Aa<|Aj<|Bj rfl<|Ao<|Aj<|Ar<|Ac<|Ae rfl<|Af rfl<|Aa<|dt 13 tb188_5 (fun q0 C0=>?_)
 refine Ag 0 1 q0 rfl C0 (fun _=>Ai rfl) rfl<|Ag 1 3 q0 rfl C0 (fun _=>Ai rfl) rfl<|Ag 2 7 q0 rfl C0 (fun _=>AR (m:=1) (k:=6) (len:=8) (by kernel_rfl) rfl rfl rfl (by omega)) rfl<|AF 3 15 32512 q0 rfl C0 (AG rfl ((U0.memA (.tl (.tl .hd))) 6 _ rfl)) rfl<|Ag 4 31 q0 rfl C0 (fun _=>Ai rfl) rfl<|Ag 5 63 q0 rfl C0 (fun _=>AR (m:=1) (k:=6) (len:=8) (by kernel_rfl) rfl rfl rfl (by omega)) rfl<|AF 6 127 32512 q0 rfl C0 (AG rfl ((U0.memA (.tl .hd)) 6 _ rfl)) rfl<|Ag 7 255 q0 rfl C0 (fun _=>Ai rfl) rfl ?_
 obtain ⟨H0,p1,h⟩:=bi h
 refine Ag 8 511 q0 rfl C0 (fun _=>FV.sub64 (a:=a0.2.2.2.2.2.2.1) (b:=a1.2.2.2.2.2.2.1) (c:=G0.2) Tryz.func174 rfl (by kernel_rfl) (by kernel_rfl) (by kernel_rfl) rfl rfl rfl p1) rfl<|Ag 9 1023 q0 rfl C0 (fun _=>Ai rfl) rfl<|Ag 10 2047 q0 rfl C0 (fun _=>Ah rfl rfl) rfl<|Ag 11 4095 q0 rfl C0 (fun _=>Ah rfl rfl) rfl<|Ag 12 8191 q0 rfl C0 (fun _=>AR (m:=1) (k:=6) (len:=8) (by kernel_rfl) rfl rfl rfl (by omega)) rfl<|Bv 13 16383 q0 rfl rfl .plain (Bx (j:=6) (old:=[vU b0.1,vU t0.1,vU u0.1,vU E0.1,vU F0.1,vU G0.1,vU a0.2.2.2.2.2.2.1,vU a0.2.2.2.2.2.2.2]) (news:=[vU H0.1]) (new' :=[vU b0.1,vU t0.1,vU u0.1,vU E0.1,vU F0.1,vU G0.1,vU H0.1,vU a0.2.2.2.2.2.2.2]) U0 (.tl (.tl .hd)) rfl rfl rfl rfl rfl rfl (o1 rfl) rfl) (fun W1 V0 F1=>?_)
 refine By (i:=14) (rk q0) (RO.val (m' :=32767) (sk q0) rfl .plain rfl (AS rfl) ?_)
 refine AK (dk q0)<|Au<|Am<|Ab (FV.add (i:=6) (j:=1) (r:=7) rfl rfl (by decide))<|Ae rfl<|Aa<|MX.again1<|Ac<|Ab (Bf (i:=7) (j:=8) rfl rfl)<|Aa<|Aj<|Bj rfl<|Ao<|Aj<|Ar<|Ac<|Ae rfl<|Af rfl<|Aa<|dt 13 tb188_5 (fun s0 D0=>?_)
 refine Ag 0 1 s0 rfl D0 (fun _=>Ai rfl) rfl<|Ag 1 3 s0 rfl D0 (fun _=>Ai rfl) rfl<|Ag 2 7 s0 rfl D0 (fun _=>AR (m:=1) (k:=7) (len:=8) (by kernel_rfl) rfl rfl rfl (by omega)) rfl<|AF 3 15 32512 s0 rfl D0 (AG rfl ((V0.memA (.tl (.tl .hd))) 7 _ rfl)) rfl<|Ag 4 31 s0 rfl D0 (fun _=>Ai rfl) rfl<|Ag 5 63 s0 rfl D0 (fun _=>AR (m:=1) (k:=7) (len:=8) (by kernel_rfl) rfl rfl rfl (by omega)) rfl<|AF 6 127 32512 s0 rfl D0 (AG rfl ((V0.memA (.tl .hd)) 7 _ rfl)) rfl<|Ag 7 255 s0 rfl D0 (fun _=>Ai rfl) rfl ?_
 obtain ⟨I0,q1,h⟩:=bi h
 refine Ag 8 511 s0 rfl D0 (fun _=>FV.sub64 (a:=a0.2.2.2.2.2.2.2) (b:=a1.2.2.2.2.2.2.2) (c:=H0.2) Tryz.func174 rfl (by kernel_rfl) (by kernel_rfl) (by kernel_rfl) rfl rfl rfl q1) rfl<|Ag 9 1023 s0 rfl D0 (fun _=>Ai rfl) rfl<|Ag 10 2047 s0 rfl D0 (fun _=>Ah rfl rfl) rfl<|Ag 11 4095 s0 rfl D0 (fun _=>Ah rfl rfl) rfl<|Ag 12 8191 s0 rfl D0 (fun _=>AR (m:=1) (k:=7) (len:=8) (by kernel_rfl) rfl rfl rfl (by omega)) rfl<|Bv 13 16383 s0 rfl rfl .plain (Bx (j:=7) (old:=[vU b0.1,vU t0.1,vU u0.1,vU E0.1,vU F0.1,vU G0.1,vU H0.1,vU a0.2.2.2.2.2.2.2]) (news:=[vU I0.1]) (new' :=[vU b0.1,vU t0.1,vU u0.1,vU E0.1,vU F0.1,vU G0.1,vU H0.1,vU I0.1]) V0 (.tl (.tl .hd)) rfl rfl rfl rfl rfl rfl (o1 rfl) rfl) (fun X1 W0 G1=>?_)
 refine By (i:=14) (rk s0) (RO.val (m' :=32767) (sk s0) rfl .plain rfl (AS rfl) ?_)
 refine AK (dk s0)<|Au<|Am<|Ab (FV.add (i:=7) (j:=1) (r:=8) rfl rfl (by decide))<|Ae rfl<|Aa<|MX.again1<|Ac<|Ab (Bf (i:=8) (j:=8) rfl rfl)<|Aa<|Aj<|Bn rfl<|AW rfl<|Ac<|Ab (AJ rfl (W0.memA (.tl (.tl .hd))))<|Ae rfl<|AX [vU b0.1,vU t0.1,vU u0.1,vU E0.1,vU F0.1,vU G0.1,vU H0.1,vU I0.1] W0 .hd (onesB rfl) (fun Y1 X0 H1=>?_)
 refine Af rfl<|Aa<|Ak rfl<|Ap hb0 Tryz.func188 rfl (.cons (.many (cs:=[vU b0.1,vU t0.1,vU u0.1,vU E0.1,vU F0.1,vU G0.1,vU H0.1,vU I0.1]) (by kernel_rfl) rfl (X0.memA .hd)) (.cons (.tmp rfl) .nil)) rfl ?_
 cases h
 exact X0.gv
def tb192_4:List (Nat × Nat × Nat):=[(0,1024,32),(1,2048,1028),(2,4096,2048),(0,8192,32),(8,16384,8200),(16,32768,16384),(36,65536,36864)]
def tb192_5:List (Nat × Nat × Nat):=[(0,131072,32),(1,262144,131076),(2,524288,262144),(0,1048576,32),(8,2097152,1048584),(16,4194304,2097152),(36,8388608,4718592)]
def wide_Size_order_l1 (_n:Nat) (a0:UInt64 × UInt64 × UInt64 × UInt64 × UInt64 × UInt64 × UInt64 × UInt64) (a1:UInt64 × UInt64 × UInt64 × UInt64 × UInt64 × UInt64 × UInt64 × UInt64) (g0:Int → Option (Int ⊕ Unit)):Int → Option (Int ⊕ Unit)
  | b0=>(if 0 ≤ b0 then (idx ([a0.1,a0.2.1,a0.2.2.1,a0.2.2.2.1,a0.2.2.2.2.1,a0.2.2.2.2.2.1,a0.2.2.2.2.2.2.1,a0.2.2.2.2.2.2.2]:List UInt64) b0).bind fun c0=>(idx ([a1.1,a1.2.1,a1.2.2.1,a1.2.2.2.1,a1.2.2.2.2.1,a1.2.2.2.2.2.1,a1.2.2.2.2.2.2.1,a1.2.2.2.2.2.2.2]:List UInt64) b0).bind fun d0=>(if c0 = d0 then (chk (b0 - 1)).bind fun j0=>g0 j0 else (if c0 < d0 then some (.inl (-1:Int)) else some (.inl (1:Int)))) else some (.inr ()))
def wide_Size_order_p (n:Nat) (a0:UInt64 × UInt64 × UInt64 × UInt64 × UInt64 × UInt64 × UInt64 × UInt64) (a1:UInt64 × UInt64 × UInt64 × UInt64 × UInt64 × UInt64 × UInt64 × UInt64):Option Int:=
  thn (loopF (wide_Size_order_l1 n a0 a1) n 7) (fun _=>some (0:Int))
theorem wide_Size_order_c (n:Nat) (L:List Nat) (w:World) (_hL:∀ b ∈ L,b < w.heap.size) (a0:UInt64 × UInt64 × UInt64 × UInt64 × UInt64 × UInt64 × UInt64 × UInt64) (a1:UInt64 × UInt64 × UInt64 × UInt64 × UInt64 × UInt64 × UInt64 × UInt64)  {r:Int} (h:wide_Size_order_p n a0 a1 = some r) :
    Calls Tryz.prog 192 #[.agg ((cs_A39 a0)).toArray,.agg ((cs_A39 a1)).toArray] w (Gives w fun _ u=>u = vI r):=by
 unfold wide_Size_order_p at h
 have hS0:=Ay w
 refine AC Tryz.func192 rfl rfl rfl (fun _ cs0 hb0=>?_)
 refine Ac<|Al .plain rfl (Ax hS0 rfl rfl) (fun c1 p0 F0 Y0=>?_)
 refine Al .plain rfl (Ax F0 rfl rfl) (fun W0 q0 G0 Z0=>?_)
 refine Af rfl<|Aa<|Aj<|Ac<|Af rfl<|Aa<|Ar ?_
 obtain ⟨b1,P0,u0⟩:=thn_in h
 refine Be (α:=Int) (fun b0=>[(2,vP p0),(3,vP q0),(5,vI b0)]) (fun b0 v0=>St w v0 [.cells q0 (cs_A39 a1) 232,.cells p0 (cs_A39 a0) 232]∧Tr W0 [.cells q0 (cs_A39 a1) 232,.cells p0 (cs_A39 a0) 232] v0 [.cells q0 (cs_A39 a1) 232,.cells p0 (cs_A39 a0) 232]) (fun b0=>b0) 7 P0 ⟨rfl,rfl,rfl,trivial⟩ ⟨G0,AT _ _⟩ ?_
 rintro X0 b0 v0 E0 ⟨c0,H0⟩ h
 unfold wide_Size_order_l1 at h
 try dsimp only at h
 refine Aj<|Ac<|Ae rfl<|Ab (FV.geq (i:=b0) (j:=0) rfl rfl)<|Aa<|AO rfl h (fun B0 h=>?_) (fun B0 h=>?_)
 refine Ao<|Aj<|Ar<|Aj<|dt 7 tb192_4 (fun d0 j0=>?_)
 refine Ag 0 1 d0 rfl j0 (fun _=>Ai rfl) rfl ?_
 obtain ⟨z0,R0,h⟩:=bi h
 obtain ⟨x0,s0⟩:=idx_in R0
 have I0:=mem_elem1 (p:=⟨p0,0,none⟩) (cs:=([a0.1,a0.2.1,a0.2.2.1,a0.2.2.2.1,a0.2.2.2.2.1,a0.2.2.2.2.2.1,a0.2.2.2.2.2.2.1,a0.2.2.2.2.2.2.2]:List UInt64).map (fun z9:UInt64=>(vU z9:Value)) ++ []) (i:=b0.toNat) (c0.memA (.tl .hd)) (arr_get (fun z9:UInt64=>(vU z9:Value)) s0)
 refine Ag 1 3 d0 rfl j0 (fun _=>AR (m:=1) (k:=b0.toNat) (len:=8) (by kernel_rfl) rfl rfl x0 (arr_lt s0 rfl)) rfl<|AF 2 7 64 d0 rfl j0 (AG rfl (I0 0 _ rfl)) rfl<|Ag 3 15 d0 rfl j0 (fun _=>Ai rfl) rfl ?_
 obtain ⟨A0,U0,h⟩:=bi h
 obtain ⟨y0,t0⟩:=idx_in U0
 have J0:=mem_elem1 (p:=⟨q0,0,none⟩) (cs:=([a1.1,a1.2.1,a1.2.2.1,a1.2.2.2.1,a1.2.2.2.2.1,a1.2.2.2.2.2.1,a1.2.2.2.2.2.2.1,a1.2.2.2.2.2.2.2]:List UInt64).map (fun z9:UInt64=>(vU z9:Value)) ++ []) (i:=b0.toNat) (c0.memA .hd) (arr_get (fun z9:UInt64=>(vU z9:Value)) t0)
 refine Ag 4 31 d0 rfl j0 (fun _=>AR (m:=1) (k:=b0.toNat) (len:=8) (by kernel_rfl) rfl rfl y0 (arr_lt t0 rfl)) rfl<|AF 5 63 64 d0 rfl j0 (AG rfl (J0 0 _ rfl)) rfl<|Ag 6 127 d0 rfl j0 (fun _=>FV.neqU (a:=z0) (b:=A0) rfl rfl) rfl<|AK (dk d0)<|MX.ifn rfl h (fun C0 h=>?_) (fun C0 h=>?_)
 refine Ao<|Au<|Am<|Ae rfl ?_
 obtain ⟨V0,Q0,h⟩:=bi h
 refine Ab (FV.subc (i:=b0) (j:=1) rfl rfl Q0)<|Af rfl<|Aa ?_
 exact E0 V0 _ _ ⟨rfl,rfl,rfl,trivial⟩ ⟨c0,H0⟩ h
 refine Aj<|Aj<|dt 7 tb192_5 (fun g0 k0=>?_)
 refine Ag 0 1 g0 rfl k0 (fun _=>Ai rfl) rfl ?_
 have K0:=mem_elem1 (p:=⟨p0,0,none⟩) (cs:=([a0.1,a0.2.1,a0.2.2.1,a0.2.2.2.1,a0.2.2.2.2.1,a0.2.2.2.2.2.1,a0.2.2.2.2.2.2.1,a0.2.2.2.2.2.2.2]:List UInt64).map (fun z9:UInt64=>(vU z9:Value)) ++ []) (i:=b0.toNat) (c0.memA (.tl .hd)) (arr_get (fun z9:UInt64=>(vU z9:Value)) s0)
 refine Ag 1 3 g0 rfl k0 (fun _=>AR (m:=1) (k:=b0.toNat) (len:=8) (by kernel_rfl) rfl rfl x0 (arr_lt s0 rfl)) rfl<|AF 2 7 64 g0 rfl k0 (AG rfl (K0 0 _ rfl)) rfl<|Ag 3 15 g0 rfl k0 (fun _=>Ai rfl) rfl ?_
 have M0:=mem_elem1 (p:=⟨q0,0,none⟩) (cs:=([a1.1,a1.2.1,a1.2.2.1,a1.2.2.2.1,a1.2.2.2.2.1,a1.2.2.2.2.2.1,a1.2.2.2.2.2.2.1,a1.2.2.2.2.2.2.2]:List UInt64).map (fun z9:UInt64=>(vU z9:Value)) ++ []) (i:=b0.toNat) (c0.memA .hd) (arr_get (fun z9:UInt64=>(vU z9:Value)) t0)
 refine Ag 4 31 g0 rfl k0 (fun _=>AR (m:=1) (k:=b0.toNat) (len:=8) (by kernel_rfl) rfl rfl y0 (arr_lt t0 rfl)) rfl<|AF 5 63 64 g0 rfl k0 (AG rfl (M0 0 _ rfl)) rfl<|Ag 6 127 g0 rfl k0 (fun _=>FV.lssU (a:=z0) (b:=A0) rfl rfl) rfl<|AK (dk g0)<|AO rfl h (fun D0 h=>?_) (fun D0 h=>?_)
 refine Ac<|Af rfl<|Aa ?_
 have h:=thn_inl h u0
 refine Ak rfl<|AP hb0 Tryz.func192 rfl rfl ?_
 cases h
 exact c0.gv
 refine Ao<|Ac<|Af rfl<|Aa ?_
 have h:=thn_inl h u0
 refine Ak rfl<|AP hb0 Tryz.func192 rfl rfl ?_
 cases h
 exact c0.gv
 refine AW rfl ?_
 have h:=thn_inr h u0
 try dsimp only at h
 refine Ac<|Af rfl<|Aa<|Ak rfl<|AP hb0 Tryz.func192 rfl rfl ?_
 cases h
 exact c0.gv
structure TNumber where
  fj:Bool
  fl:UInt64 × UInt64 × UInt64 × UInt64 × UInt64 × UInt64 × UInt64 × UInt64
  deriving DecidableEq
instance:Rep TNumber:=Rep.via (β:=Bool × (UInt64 × UInt64 × UInt64 × UInt64 × UInt64 × UInt64 × UInt64 × UInt64)) fun x=>(x.fj,x.fl)
def cs_TNumber (x:TNumber):List Value:=[.bool x.fj,vU x.fl.1,vU x.fl.2.1,vU x.fl.2.2.1,vU x.fl.2.2.2.1,vU x.fl.2.2.2.2.1,vU x.fl.2.2.2.2.2.1,vU x.fl.2.2.2.2.2.2.1,vU x.fl.2.2.2.2.2.2.2]
theorem body188:bodyB Tryz.prog 188 = true:=by kernel_rfl
theorem body192:bodyB Tryz.prog 192 = true:=by kernel_rfl
def wide_Number_Told_p (n:Nat) (a0:TNumber):Option ((UInt64 × UInt64 × UInt64 × UInt64 × UInt64 × UInt64 × UInt64 × UInt64) × Int):=
  (wide_Size_order_p n a0.fl ((0:UInt64),(0:UInt64),(0:UInt64),(0:UInt64),(0:UInt64),(0:UInt64),(0:UInt64),(9223372036854775808:UInt64))).bind fun b0=>(if 0 < b0 then some (((0:UInt64),(0:UInt64),(0:UInt64),(0:UInt64),(0:UInt64),(0:UInt64),(0:UInt64),(0:UInt64)),(6:Int)) else (if b0 = 0 then (if a0.fj = true then (wide_Size_minus_p n ((0:UInt64),(0:UInt64),(0:UInt64),(0:UInt64),(0:UInt64),(0:UInt64),(0:UInt64),(0:UInt64)) a0.fl).bind fun c0=>some (c0.1,(0:Int)) else some (((0:UInt64),(0:UInt64),(0:UInt64),(0:UInt64),(0:UInt64),(0:UInt64),(0:UInt64),(0:UInt64)),(6:Int))) else (if a0.fj = true then (wide_Size_minus_p n ((0:UInt64),(0:UInt64),(0:UInt64),(0:UInt64),(0:UInt64),(0:UInt64),(0:UInt64),(0:UInt64)) a0.fl).bind fun d0=>some (d0.1,(0:Int)) else some (a0.fl,(0:Int)))))
theorem wide_Number_Told_c (n:Nat) (L:List Nat) (w:World) (hL:∀ b ∈ L,b < w.heap.size) (a0:TNumber)  {r:(UInt64 × UInt64 × UInt64 × UInt64 × UInt64 × UInt64 × UInt64 × UInt64) × Int} (h:wide_Number_Told_p n a0 = some r) :
    Calls Tryz.prog 169 #[.agg ((cs_TNumber a0)).toArray] w (Gives w fun _ u=>u = .tuple #[.agg ((cs_A39 r.1)).toArray,vI r.2]):=by
 unfold wide_Number_Told_p at h
 have hS0:=Ay w
 refine AC Tryz.func169 rfl rfl rfl (fun _ cs0 hb0=>?_)
 refine Ac<|Al .plain rfl (Ax hS0 rfl rfl) (fun Z0 G0 A0 J0=>?_)
 refine Al .plain rfl (AA zP A0) (fun b1 H0 B0 K0=>?_)
 refine Af rfl<|Aa<|Ac<|Ab (AV (vs:=[vW 9223372036854775808]) (u:=.agg #[vW 0,vW 0,vW 0,vW 0,vW 0,vW 0,vW 0,vW 9223372036854775808]) (e1 rfl) (fun w9=>by kernel_rfl))<|Al .plain rfl (AA zP B0) (fun c1 I0 C0 M0=>?_)
 refine AX [vW 0,vW 0,vW 0,vW 0,vW 0,vW 0,vW 0,vW 9223372036854775808] C0 .hd (onesB rfl) (fun d1 b0 P0=>?_)
 refine Aa<|Aj<|Ac<|Bd 1 rfl<|Ab (Br (cs:=(cs_A39 a0.fl)) (by kernel_rfl) rfl (mem_part (b0.memA (.tl (.tl .hd))) 1 8))<|Ab (AJ rfl (b0.memA .hd)) ?_
 obtain ⟨g0,D0,h⟩:=bi h
 refine Bc (vI g0) body192 rfl (e2 rfl rfl) (fun w9 hw9=>wide_Size_order_c n _ w9 (b0.hL0 hL hw9) a0.fl ((0:UInt64),(0:UInt64),(0:UInt64),(0:UInt64),(0:UInt64),(0:UInt64),(0:UInt64),(9223372036854775808:UInt64)) D0) rfl<|Af rfl<|Aa<|Ac<|Ae rfl<|Ab (FV.gtr (i:=g0) (j:=0) rfl rfl)<|Ae rfl<|RG.ifd (s:=13) rfl h (fun x0 h=>?_) (fun x0 h=>?_)
 refine AE<|AE<|AE<|RG.un<|RG.un<|RG.un<|AE<|RG.pt rfl rfl<|Aa<|Bj rfl<|Ac<|Ab (AV (vs:=[]) (u:=.agg zQ) evs_nil (fun w9=>by kernel_rfl))<|AX zP b0 (.tl .hd) (onesB rfl) (fun g1 k0 Q0=>?_)
 refine Af rfl<|Aa<|Ak rfl<|Ap hb0 Tryz.func169 rfl (.cons (.many (cs:=zP) (by kernel_rfl) rfl (k0.memA (.tl .hd))) (.cons (.tmp rfl) .nil)) rfl ?_
 cases h
 exact k0.gv
 refine AU (Ai rfl)<|AU (FV.eql (i:=g0) (j:=0) rfl rfl)<|AU (Ai rfl)<|RG.ifd (s:=16) rfl h (fun y0 h=>?_) (fun y0 h=>?_)
 refine RG.fg 0 rfl<|AU (AG rfl ((b0.memA (.tl (.tl .hd))) 0 _ rfl))<|AU (Bz rfl)<|AU (FV.pick_t rfl rfl)<|RG.pf rfl rfl<|Aa<|MX.ifnb rfl h (fun j0 h=>?_) (fun j0 h=>?_)
 refine Ao<|Aj<|Ac<|Bd 0 rfl<|AZ rfl ((b0.memA (.tl (.tl .hd))) 0 _ rfl)<|Aa<|MX.cond_kt rfl j0<|Am<|Ab (AV (vs:=[]) (u:=.agg zQ) evs_nil (fun w9=>by kernel_rfl))<|Bd 1 rfl<|Ab (Br (cs:=(cs_A39 a0.fl)) (by kernel_rfl) rfl (mem_part (b0.memA (.tl (.tl .hd))) 1 8)) ?_
 obtain ⟨c0,E0,h⟩:=bi h
 refine Bc (.tuple #[.agg ((cs_A39 c0.1)).toArray,vU c0.2]) body188 rfl (e2 rfl rfl) (fun w9 hw9=>wide_Size_minus_c n _ w9 (b0.hL0 hL hw9) ((0:UInt64),(0:UInt64),(0:UInt64),(0:UInt64),(0:UInt64),(0:UInt64),(0:UInt64),(0:UInt64)) a0.fl E0) rfl<|Ae rfl<|Ab (Ah rfl rfl)<|Ab (Ah rfl rfl)<|Bd 1 rfl<|RG.now .plain (Bx (j:=1) (old:=(cs_TNumber a0)) (news:=(cs_A39 c0.1)) (new' :=(([.bool a0.fj]:List Value) ++ cs_A39 c0.1)) b0 (.tl (.tl .hd)) rfl rfl rfl rfl rfl rfl (onesB rfl) rfl) (fun j1 p0 R0=>?_)
 refine Aa<|Ac<|Bd 1 rfl<|Ab (Br (cs:=(cs_A39 c0.1)) (by kernel_rfl) rfl (mem_part (p0.memA (.tl (.tl .hd))) 1 8))<|AX (cs_A39 c0.1) p0 (.tl .hd) (onesB rfl) (fun k1 q0 U0=>?_)
 refine Af rfl<|Aa<|Ak rfl<|Ap hb0 Tryz.func169 rfl (.cons (.many (cs:=(cs_A39 c0.1)) (by kernel_rfl) rfl (q0.memA (.tl .hd))) (.cons (.tmp rfl) .nil)) rfl ?_
 cases h
 exact q0.gv
 refine Ac<|Ab (AV (vs:=[]) (u:=.agg zQ) evs_nil (fun w9=>by kernel_rfl))<|AX zP b0 (.tl .hd) (onesB rfl) (fun p1 s0 V0=>?_)
 refine Af rfl<|Aa<|Ak rfl<|Ap hb0 Tryz.func169 rfl (.cons (.many (cs:=zP) (by kernel_rfl) rfl (s0.memA (.tl .hd))) (.cons (.tmp rfl) .nil)) rfl ?_
 cases h
 exact s0.gv
 refine AE<|AE<|AE<|AU (AI rfl rfl)<|RG.pf rfl rfl<|Aa<|Bn rfl<|Ao<|Aj<|Ac<|Bd 0 rfl<|AZ rfl ((b0.memA (.tl (.tl .hd))) 0 _ rfl)<|Aa<|MX.ifb rfl h (fun z0 h=>?_) (fun z0 h=>?_)
 refine Am<|Ab (AV (vs:=[]) (u:=.agg zQ) evs_nil (fun w9=>by kernel_rfl))<|Bd 1 rfl<|Ab (Br (cs:=(cs_A39 a0.fl)) (by kernel_rfl) rfl (mem_part (b0.memA (.tl (.tl .hd))) 1 8)) ?_
 obtain ⟨d0,F0,h⟩:=bi h
 refine Bc (.tuple #[.agg ((cs_A39 d0.1)).toArray,vU d0.2]) body188 rfl (e2 rfl rfl) (fun w9 hw9=>wide_Size_minus_c n _ w9 (b0.hL0 hL hw9) ((0:UInt64),(0:UInt64),(0:UInt64),(0:UInt64),(0:UInt64),(0:UInt64),(0:UInt64),(0:UInt64)) a0.fl F0) rfl<|Ae rfl<|Ab (Ah rfl rfl)<|Ab (Ah rfl rfl)<|Bd 1 rfl<|RG.now .plain (Bx (j:=1) (old:=(cs_TNumber a0)) (news:=(cs_A39 d0.1)) (new' :=(([.bool a0.fj]:List Value) ++ cs_A39 d0.1)) b0 (.tl (.tl .hd)) rfl rfl rfl rfl rfl rfl (onesB rfl) rfl) (fun q1 t0 W0=>?_)
 refine Aa<|Ac<|Bd 1 rfl<|Ab (Br (cs:=(cs_A39 d0.1)) (by kernel_rfl) rfl (mem_part (t0.memA (.tl (.tl .hd))) 1 8))<|AX (cs_A39 d0.1) t0 (.tl .hd) (onesB rfl) (fun s1 u0 X0=>?_)
 refine Af rfl<|Aa<|Ak rfl<|Ap hb0 Tryz.func169 rfl (.cons (.many (cs:=(cs_A39 d0.1)) (by kernel_rfl) rfl (u0.memA (.tl .hd))) (.cons (.tmp rfl) .nil)) rfl ?_
 cases h
 exact u0.gv
 refine Ao<|Ac<|Bd 1 rfl<|Ab (Br (cs:=(cs_A39 a0.fl)) (by kernel_rfl) rfl (mem_part (b0.memA (.tl (.tl .hd))) 1 8))<|AX (cs_A39 a0.fl) b0 (.tl .hd) (onesB rfl) (fun t1 v0 Y0=>?_)
 refine Af rfl<|Aa<|Ak rfl<|Ap hb0 Tryz.func169 rfl (.cons (.many (cs:=(cs_A39 a0.fl)) (by kernel_rfl) rfl (v0.memA (.tl .hd))) (.cons (.tmp rfl) .nil)) rfl ?_
 cases h
 exact v0.gv
structure TLong where
  fj:Bool
  fm:List UInt64
  deriving DecidableEq
instance:Rep TLong:=Rep.via (β:=Bool × (List UInt64)) fun x=>(x.fj,x.fm)
def tb135_4:List (Nat × Nat × Nat):=[(0,8192,16),(1,16384,8192),(0,32768,2),(4,65536,32768),(10,131072,81920)]
theorem body169:bodyB Tryz.prog 169 = true:=by kernel_rfl
def wide_Long_Told_p (n:Nat) (a0:TLong):Option ((UInt64 × UInt64 × UInt64 × UInt64 × UInt64 × UInt64 × UInt64 × UInt64) × Int):=
  (if 8 < a0.fm.length then some (((0:UInt64),(0:UInt64),(0:UInt64),(0:UInt64),(0:UInt64),(0:UInt64),(0:UInt64),(0:UInt64)),(6:Int)) else (wide_Number_Told_p n (⟨a0.fj,(getA a0.fm 0 (0:UInt64),getA a0.fm 1 (0:UInt64),getA a0.fm 2 (0:UInt64),getA a0.fm 3 (0:UInt64),getA a0.fm 4 (0:UInt64),getA a0.fm 5 (0:UInt64),getA a0.fm 6 (0:UInt64),getA a0.fm 7 (0:UInt64))⟩:TNumber)).bind fun b0=>some (b0.1,b0.2))
theorem wide_Long_Told_c (n:Nat) (L:List Nat) (w:World) (hL:∀ b ∈ L,b < w.heap.size) (a0:TLong) {v0_1:Value} (h0_1:Rep.R w L [v0_1] a0.fm)  {r:(UInt64 × UInt64 × UInt64 × UInt64 × UInt64 × UInt64 × UInt64 × UInt64) × Int} (h:wide_Long_Told_p n a0 = some r) :
    Calls Tryz.prog 135 #[.agg #[.bool a0.fj,v0_1]] w (Gives w fun _ u=>u = .tuple #[.agg ((cs_A39 r.1)).toArray,vI r.2]):=by
 unfold wide_Long_Told_p at h
 have hS0:=Ay w
 refine AC Tryz.func135 rfl rfl rfl (fun _ cs0 hb0=>?_)
 refine Ac<|Al .plain rfl (Ax hS0 rfl rfl) (fun P0 B0 v0 D0=>?_)
 refine Al .plain rfl (AA zP v0) (fun Q0 C0 c0 E0=>?_)
 refine Af rfl<|Aa<|Aj<|Ac<|Bd 1 rfl<|AZ rfl ((c0.memA (.tl .hd)) 1 _ rfl) ?_
 have s0:=AH h0_1 c0
 have K0:a0.fm.length ≤ 281474976710656:=AQ s0
 refine Ab (Bb (xs:=a0.fm) Tryz.underlying75 rfl s0)<|Ab (FV.gtrN (i:=a0.fm.length) (j:=8) rfl rfl)<|Aa<|AO rfl h (fun u0 h=>?_) (fun u0 h=>?_)
 refine Ac<|Ab (AV (vs:=[]) (u:=.agg zQ) evs_nil (fun w9=>by kernel_rfl))<|AX zP c0 .hd (onesB rfl) (fun R0 p0 F0=>?_)
 refine Af rfl<|Aa<|Ak rfl<|Ap hb0 Tryz.func135 rfl (.cons (.many (cs:=zP) (by kernel_rfl) rfl (p0.memA .hd)) (.cons (.tmp rfl) .nil)) rfl ?_
 cases h
 exact p0.gv
 refine Ao<|Ac<|Bd 0 rfl<|AZ rfl ((c0.memA (.tl .hd)) 0 _ rfl)<|Ab (AV (vs:=[.bool a0.fj]) (u:=.agg #[.bool a0.fj,vW 0,vW 0,vW 0,vW 0,vW 0,vW 0,vW 0,vW 0]) (e1 rfl) (fun w9=>by kernel_rfl))<|Al .plain rfl (AA [.bool false,vW 0,vW 0,vW 0,vW 0,vW 0,vW 0,vW 0,vW 0] c0) (fun U0 t0 x0 G0=>?_)
 refine AX [.bool a0.fj,vW 0,vW 0,vW 0,vW 0,vW 0,vW 0,vW 0,vW 0] x0 .hd (onesB rfl) (fun V0 j0 H0=>?_)
 refine Aa<|Aj<|dt 4 tb135_4 (fun b0 d0=>?_)
 refine Ag 0 1 b0 rfl d0 (fun _=>Bi 1 rfl) rfl<|AF 1 3 16 b0 rfl d0 (FV.sliceA (len:=8) (m:=1) (p:=Addr.add ⟨t0,0,none⟩ 1) (by kernel_rfl) rfl) rfl<|Ag 2 7 b0 rfl d0 (fun _=>Bi 1 rfl) rfl<|AF 3 15 16 b0 rfl d0 (AG rfl ((j0.memA (.tl (.tl .hd))) 1 _ rfl)) rfl ?_
 have y0:=AH h0_1 j0
 refine By (i:=4) (rk b0) (RO.doesL (m' :=31) (sk b0) rfl rfl .plain rfl (DoesL.copyArr (fun z9:UInt64=>(vU z9:Value)) (olds:=([(0:UInt64),(0:UInt64),(0:UInt64),(0:UInt64),(0:UInt64),(0:UInt64),(0:UInt64),(0:UInt64)]:List UInt64)) (ys:=a0.fm) (pre:=[.bool a0.fj]) (post:=[]) (old:=[.bool a0.fj,vW 0,vW 0,vW 0,vW 0,vW 0,vW 0,vW 0,vW 0]) (new' :=[.bool a0.fj,vW ((getA a0.fm 0 (0:UInt64)).toNat:Int),vW ((getA a0.fm 1 (0:UInt64)).toNat:Int),vW ((getA a0.fm 2 (0:UInt64)).toNat:Int),vW ((getA a0.fm 3 (0:UInt64)).toNat:Int),vW ((getA a0.fm 4 (0:UInt64)).toNat:Int),vW ((getA a0.fm 5 (0:UInt64)).toNat:Int),vW ((getA a0.fm 6 (0:UInt64)).toNat:Int),vW ((getA a0.fm 7 (0:UInt64)).toNat:Int)]) rfl (fun _ _ _ _ h9=>h9) j0 .hd (by kernel_rfl) rfl rfl rfl rfl rfl rfl rfl (Src.rep y0)) (fun M0 W0 ⟨z0,k0,I0⟩=>?_))
 subst z0
 refine AK (dk b0)<|Ac<|Ab (AJ rfl (k0.memA .hd)) ?_
 obtain ⟨g0,A0,h⟩:=bi h
 refine Bc (.tuple #[.agg ((cs_A39 g0.1)).toArray,vI g0.2]) body169 rfl (e1 rfl) (fun w9 hw9=>wide_Number_Told_c n _ w9 (k0.hL0 hL hw9) (⟨a0.fj,(getA a0.fm 0 (0:UInt64),getA a0.fm 1 (0:UInt64),getA a0.fm 2 (0:UInt64),getA a0.fm 3 (0:UInt64),getA a0.fm 4 (0:UInt64),getA a0.fm 5 (0:UInt64),getA a0.fm 6 (0:UInt64),getA a0.fm 7 (0:UInt64))⟩:TNumber) A0) rfl<|Ab (Ah rfl rfl)<|Ab (Ah rfl rfl)<|AX (cs_A39 g0.1) k0 (.tl .hd) (onesB rfl) (fun X0 q0 J0=>?_)
 refine Af rfl<|Aa<|Ak rfl<|Ap hb0 Tryz.func135 rfl (.cons (.many (cs:=(cs_A39 g0.1)) (by kernel_rfl) rfl (q0.memA (.tl .hd))) (.cons (.tmp rfl) .nil)) rfl ?_
 cases h
 exact q0.gv
structure TRatio where
  fy:TLong
  ft:TLong
  deriving DecidableEq
instance:Rep TRatio:=Rep.via (β:=TLong × TLong) fun x=>(x.fy,x.ft)
structure TShare where
  fN:UInt64 × UInt64 × UInt64 × UInt64 × UInt64 × UInt64 × UInt64 × UInt64
  fD:UInt64 × UInt64 × UInt64 × UInt64 × UInt64 × UInt64 × UInt64 × UInt64
  deriving DecidableEq
instance:Rep TShare:=Rep.via (β:=(UInt64 × UInt64 × UInt64 × UInt64 × UInt64 × UInt64 × UInt64 × UInt64) × (UInt64 × UInt64 × UInt64 × UInt64 × UInt64 × UInt64 × UInt64 × UInt64)) fun x=>(x.fN,x.fD)
def cs_TShare (x:TShare):List Value:=[vU x.fN.1,vU x.fN.2.1,vU x.fN.2.2.1,vU x.fN.2.2.2.1,vU x.fN.2.2.2.2.1,vU x.fN.2.2.2.2.2.1,vU x.fN.2.2.2.2.2.2.1,vU x.fN.2.2.2.2.2.2.2,vU x.fD.1,vU x.fD.2.1,vU x.fD.2.2.1,vU x.fD.2.2.2.1,vU x.fD.2.2.2.2.1,vU x.fD.2.2.2.2.2.1,vU x.fD.2.2.2.2.2.2.1,vU x.fD.2.2.2.2.2.2.2]
theorem body135:bodyB Tryz.prog 135 = true:=by kernel_rfl
def share_Ratio_Told_p (n:Nat) (a0:TRatio):Option (TShare × Int):=
  (wide_Long_Told_p n a0.fy).bind fun b0=>(wide_Long_Told_p n a0.ft).bind fun c0=>(if b0.2 = 0 then (if c0.2 = 0 then some ((⟨b0.1,c0.1⟩:TShare),(0:Int)) else some ((⟨((0:UInt64),(0:UInt64),(0:UInt64),(0:UInt64),(0:UInt64),(0:UInt64),(0:UInt64),(0:UInt64)),((0:UInt64),(0:UInt64),(0:UInt64),(0:UInt64),(0:UInt64),(0:UInt64),(0:UInt64),(0:UInt64))⟩:TShare),(6:Int))) else some ((⟨((0:UInt64),(0:UInt64),(0:UInt64),(0:UInt64),(0:UInt64),(0:UInt64),(0:UInt64),(0:UInt64)),((0:UInt64),(0:UInt64),(0:UInt64),(0:UInt64),(0:UInt64),(0:UInt64),(0:UInt64),(0:UInt64))⟩:TShare),(6:Int)))
theorem share_Ratio_Told_c (n:Nat) (L:List Nat) (w:World) (hL:∀ b ∈ L,b < w.heap.size) (a0:TRatio) {v0_1:Value} (h0_1:Rep.R w L [v0_1] a0.fy.fm) {v0_3:Value} (h0_3:Rep.R w L [v0_3] a0.ft.fm)  {r:TShare × Int} (h:share_Ratio_Told_p n a0 = some r) :
    Calls Tryz.prog 98 #[.agg #[.bool a0.fy.fj,v0_1,.bool a0.ft.fj,v0_3]] w (Gives w fun _ u=>u = .tuple #[.agg ((cs_TShare r.1)).toArray,vI r.2]):=by
 unfold share_Ratio_Told_p at h
 have hS0:=Ay w
 refine AC Tryz.func98 rfl rfl rfl (fun _ cs0 hb0=>?_)
 refine Ac<|Al .plain rfl (Ax hS0 rfl rfl) (fun R0 B0 v0 F0=>?_)
 refine Al .plain rfl (AA zL v0) (fun U0 C0 g0 G0=>?_)
 refine Af rfl<|Aa<|Ac<|Bd 0 rfl<|Ab (Br (cs:=[.bool a0.fy.fj,v0_1]) (by kernel_rfl) rfl (mem_part (g0.memA (.tl .hd)) 0 2)) ?_
 obtain ⟨b0,z0,h⟩:=bi h
 refine Bc (.tuple #[.agg ((cs_A39 b0.1)).toArray,vI b0.2]) body135 rfl (e1 rfl) (fun w9 hw9=>wide_Long_Told_c n _ w9 (g0.hL0 hL hw9) a0.fy (g0.k0 h0_1 hw9) z0) rfl<|Ae rfl<|Ab (Ah rfl rfl)<|Ab (Ah rfl rfl)<|Al .plain rfl (AA zP g0) (fun V0 D0 x0 H0=>?_)
 refine AX (cs_A39 b0.1) x0 .hd (onesB rfl) (fun W0 j0 I0=>?_)
 refine Af rfl<|Aa<|Ac<|Bd 2 rfl<|Ab (Br (cs:=[.bool a0.ft.fj,v0_3]) (by kernel_rfl) rfl (mem_part (j0.memA (.tl (.tl .hd))) 2 2)) ?_
 obtain ⟨c0,A0,h⟩:=bi h
 refine Bc (.tuple #[.agg ((cs_A39 c0.1)).toArray,vI c0.2]) body135 rfl (e1 rfl) (fun w9 hw9=>wide_Long_Told_c n _ w9 (j0.hL0 hL hw9) a0.ft (j0.k0 h0_3 hw9) A0) rfl<|Ae rfl<|Ab (Ah rfl rfl)<|Ab (Ah rfl rfl)<|Al .plain rfl (AA zP j0) (fun X0 E0 y0 J0=>?_)
 refine AX (cs_A39 c0.1) y0 .hd (onesB rfl) (fun Y0 d0 K0=>?_)
 refine Af rfl<|Aa<|Aj<|Ac<|Ae rfl<|Ab (FV.neq (i:=b0.2) (j:=0) rfl rfl)<|Ae rfl<|RG.ifn (s:=22) rfl h (fun t0 h=>?_) (fun t0 h=>?_)
 refine AU (Ai rfl)<|AU (FV.neq (i:=c0.2) (j:=0) rfl rfl)<|RG.pf rfl rfl<|Aa<|MX.ifn rfl h (fun u0 h=>?_) (fun u0 h=>?_)
 refine Ao<|Ac<|Ab (AJ rfl (d0.memA (.tl .hd)))<|Ab (AJ rfl (d0.memA .hd))<|Ab (AV (vs:=[.agg ((cs_A39 b0.1)).toArray,.agg ((cs_A39 c0.1)).toArray]) (u:=.agg ((cs_A39 b0.1 ++ cs_A39 c0.1)).toArray) (e2 rfl rfl) (fun w9=>by kernel_rfl))<|AX (cs_A39 b0.1 ++ cs_A39 c0.1) d0 (.tl (.tl .hd)) (onesB rfl) (fun Z0 p0 M0=>?_)
 refine Af rfl<|Aa<|Ak rfl<|Ap hb0 Tryz.func98 rfl (.cons (.many (cs:=(cs_A39 b0.1 ++ cs_A39 c0.1)) (by kernel_rfl) rfl (p0.memA (.tl (.tl .hd)))) (.cons (.tmp rfl) .nil)) rfl ?_
 cases h
 exact p0.gv
 refine Ac<|Ab (AV (vs:=[]) (u:=.agg zM) evs_nil (fun w9=>by kernel_rfl))<|AX zL d0 (.tl (.tl .hd)) (onesB rfl) (fun b1 q0 P0=>?_)
 refine Af rfl<|Aa<|Ak rfl<|Ap hb0 Tryz.func98 rfl (.cons (.many (cs:=zL) (by kernel_rfl) rfl (q0.memA (.tl (.tl .hd)))) (.cons (.tmp rfl) .nil)) rfl ?_
 cases h
 exact q0.gv
 refine AE<|AE<|RG.pt rfl rfl<|Aa<|Bj rfl<|Ac<|Ab (AV (vs:=[]) (u:=.agg zM) evs_nil (fun w9=>by kernel_rfl))<|AX zL d0 (.tl (.tl .hd)) (onesB rfl) (fun c1 s0 Q0=>?_)
 refine Af rfl<|Aa<|Ak rfl<|Ap hb0 Tryz.func98 rfl (.cons (.many (cs:=zL) (by kernel_rfl) rfl (s0.memA (.tl (.tl .hd)))) (.cons (.tmp rfl) .nil)) rfl ?_
 cases h
 exact s0.gv
def wide_trimmed_l1 (_n:Nat) (a1:List UInt64) (c0:Int → Option Int):Int → Option Int
  | b0=>(if 0 < b0 then (chk (b0 - 1)).bind fun d0=>(idx a1 d0).bind fun j0=>(if j0 = (0:UInt64) then (chk (b0 - 1)).bind fun g0=>c0 g0 else some b0) else some b0)
def wide_trimmed_p (n:Nat) (a0:Bool) (a1:List UInt64):Option TLong:=
  jn (fun b0=>(if a0 = true then (cut a1 0 b0).bind fun d0=>some (⟨(decide (0 < b0)),d0⟩:TLong) else (cut a1 0 b0).bind fun g0=>some (⟨false,g0⟩:TLong))) (fun c0=>Option.bind (loopF (wide_trimmed_l1 n a1) n ((a1.length:Nat):Int)) (c0))
theorem wide_trimmed_c (n:Nat) (L:List Nat) (w:World) (_hL:∀ b ∈ L,b < w.heap.size) (a0:Bool) (a1:List UInt64) {v1_0:Value} (h1_0:Rep.R w L [v1_0] a1)  {r:TLong} (h:wide_trimmed_p n a0 a1 = some r) :
    Calls Tryz.prog 142 #[.bool a0,v1_0] w (Gives w fun w' u=>∃ v0_1:Value,u = .agg #[.bool r.fj,v0_1]∧Rep.R w' L [v0_1] r.fm):=by
 unfold wide_trimmed_p at h
 have hS0:=Ay w
 refine AC Tryz.func142 rfl rfl rfl (fun _ cs0 hb0=>?_)
 refine Ac<|Al .plain rfl (AA [.bool false,vN] hS0) (fun D0 d0 A0 H1=>?_)
 refine Aa<|Ac<|Ae rfl ?_
 have C0:=AH h1_0 A0
 have I1:a1.length ≤ 281474976710656:=AQ C0
 refine Ab (Bb (xs:=a1) Tryz.underlying75 rfl C0)<|Af rfl<|Aa<|Aj<|Ar<|MX.joinx (α:=Int) (fun b0=>[(0,.bool a0),(1,v1_0),(4,vP d0),(5,vI b0)]) (fun b0 x0=>St w x0 [.cells d0 [.bool false,vN] 122]∧Tr D0 [.cells d0 [.bool false,vN] 122] x0 [.cells d0 [.bool false,vN] 122]) (fun b0=>b0) (id:=0) rfl h ?_ ?_
 rintro b0 x0 ⟨k0,G1⟩ h
 try dsimp only at h
 refine Ac<|Ae rfl<|Ae rfl<|RG.ifb (s:=21) rfl h (fun F0 h=>?_) (fun F0 h=>?_)
 refine AU (Ai rfl)<|AU (FV.gtr (i:=b0) (j:=0) rfl rfl)<|RG.pt rfl rfl<|Ae rfl<|Ae rfl ?_
 obtain ⟨P1,t1,h⟩:=bi h
 have V0:=AH h1_0 k0
 refine RG.valE .plain rfl (FV.cutL (α:=UInt64) t1 (by kernel_rfl) rfl V0 rfl ⟨_,rfl⟩) (fun g0 u0=>?_)
 obtain ⟨y1,D1,k1,_⟩:=Rep.sl u0
 refine Ab (AV (vs:=[.bool (decide (0 < b0)),g0]) (u:=.agg #[.bool (decide (0 < b0)),g0]) (e2 rfl rfl) (fun w9=>by rw [k1]; try kernel_rfl))<|AX [.bool (decide (0 < b0)),g0] k0 .hd (o2 rfl (Bg u0)) (fun K1 q0 K0=>?_)
 refine Aa<|Ak rfl<|Ap hb0 Tryz.func142 rfl (.cons (.many (cs:=[.bool (decide (0 < b0)),g0]) (by kernel_rfl) rfl (q0.memA .hd)) .nil) rfl ?_
 cases h
 have W0:=Az u0 K0
 exact ⟨q0.ag,fun w9 hw9=>⟨g0,rfl,q0.kd W0 hw9⟩⟩
 refine AE<|AE<|RG.pf rfl rfl<|Ae rfl<|Ae rfl ?_
 obtain ⟨Q1,u1,h⟩:=bi h
 have X0:=AH h1_0 k0
 refine RG.valE .plain rfl (FV.cutL (α:=UInt64) u1 (by kernel_rfl) rfl X0 rfl ⟨_,rfl⟩) (fun j0 v0=>?_)
 obtain ⟨z1,E1,p1,_⟩:=Rep.sl v0
 refine Ab (AV (vs:=[.bool false,j0]) (u:=.agg #[.bool false,j0]) (e2 rfl rfl) (fun w9=>by rw [p1]; try kernel_rfl))<|AX [.bool false,j0] k0 .hd (o2 rfl (Bg v0)) (fun M1 s0 M0=>?_)
 refine Aa<|Ak rfl<|Ap hb0 Tryz.func142 rfl (.cons (.many (cs:=[.bool false,j0]) (by kernel_rfl) rfl (s0.memA .hd)) .nil) rfl ?_
 cases h
 have Y0:=Az v0 M0
 exact ⟨s0.ag,fun w9 hw9=>⟨j0,rfl,s0.kd Y0 hw9⟩⟩
 intro B1 z0 h
 try dsimp only at h
 obtain ⟨J1,c1,B0⟩:=bind_in2 h
 refine Be (α:=Int) (fun c0=>[(0,.bool a0),(1,v1_0),(4,vP d0),(5,vI c0)]) (fun c0 y0=>St w y0 [.cells d0 [.bool false,vN] 122]∧Tr D0 [.cells d0 [.bool false,vN] 122] y0 [.cells d0 [.bool false,vN] 122]) (fun c0=>c0) ((a1.length:Nat):Int) c1 ⟨rfl,rfl,rfl,rfl,trivial⟩ ⟨A0,AT _ _⟩ ?_
 rintro C1 c0 y0 J0 ⟨p0,t0⟩ h
 unfold wide_trimmed_l1 at h
 try dsimp only at h
 refine Aj<|Ac<|Ae rfl<|Ab (FV.gtr (i:=c0) (j:=0) rfl rfl)<|Ae rfl<|RG.ifd (s:=10) rfl h (fun G0 h=>?_) (fun G0 h=>?_)
 refine AU (Ai rfl)<|AU (Ai rfl) ?_
 obtain ⟨v1,g1,h⟩:=bi h
 refine AU (FV.subc (i:=c0) (j:=1) rfl rfl g1) ?_
 obtain ⟨E0,q1,h⟩:=bi h
 obtain ⟨R0,s1⟩:=idx_in q1
 have b1:=AH h1_0 p0
 obtain ⟨A1,F1,P0,U0,I0,d1,Z0⟩:=Bk b1 s1
 have Q0:I0 = [vU E0]:=d1; subst Q0
 refine AU (Bo 1 (v1.toNat) rfl P0 rfl R0 U0)<|AU (AG rfl (Z0 0 _ rfl))<|AU (FV.eqlU (a:=E0) (b:=(0:UInt64)) rfl rfl)<|RG.pt rfl rfl<|Aa<|AO rfl h (fun H0 h=>?_) (fun H0 h=>?_)
 refine Ao<|Ar<|Am<|Ae rfl ?_
 obtain ⟨x1,j1,h⟩:=bi h
 refine Ab (FV.subc (i:=c0) (j:=1) rfl rfl j1)<|Af rfl<|Aa<|Au ?_
 exact J0 x1 _ _ ⟨rfl,rfl,rfl,rfl,trivial⟩ ⟨p0,t0⟩ h
 refine AW rfl ?_
 have h:=B0 _ h
 try dsimp only at h
 exact z0 c0 _ _ ⟨rfl,rfl,rfl,rfl,trivial⟩ ⟨p0,t0⟩ h
 refine AE<|AE<|AE<|AE<|AE<|AE<|RG.pf rfl rfl<|Aa<|Bn rfl<|AW rfl ?_
 have h:=B0 _ h
 try dsimp only at h
 exact z0 c0 _ _ ⟨rfl,rfl,rfl,rfl,trivial⟩ ⟨p0,t0⟩ h
def tb145_6:List (Nat × Nat × Nat):=[(0,16777216,1),(0,33554432,32),(3,67108864,50331648),(4,134217728,67108864),(0,268435456,2),(0,536870912,32),(48,1073741824,805306368),(64,2147483648,1073741824),(136,4294967296,2281701376),(256,8388608,4294967296)]
def tb145_8:List (Nat × Nat × Nat):=[(0,17179869184,1),(0,34359738368,32),(3,68719476736,51539607552),(4,137438953472,68719476736),(0,274877906944,2),(0,549755813888,32),(48,1099511627776,824633720832),(64,2199023255552,1099511627776),(136,4398046511104,2336462209024),(256,8589934592,4398046511104)]
def wide_compared_l1 (_n:Nat) (a0:List UInt64) (a1:List UInt64) (g0:Int → Option (Int ⊕ Unit)):Int → Option (Int ⊕ Unit)
  | b0=>(if 0 ≤ b0 then (idx a0 b0).bind fun c0=>(idx a1 b0).bind fun d0=>(if c0 < d0 then some (.inl (-1:Int)) else (if d0 < c0 then some (.inl (1:Int)) else (chk (b0 - 1)).bind fun j0=>g0 j0)) else some (.inr ()))
def wide_compared_p (n:Nat) (a0:List UInt64) (a1:List UInt64):Option Int:=
  (if a0.length = a1.length then thn (loopF (wide_compared_l1 n a0 a1) n (((a0.length:Nat):Int) - 1)) (fun _=>some (0:Int)) else some (((a0.length:Nat):Int) - ((a1.length:Nat):Int)))
theorem wide_compared_c (n:Nat) (L:List Nat) (w:World) (_hL:∀ b ∈ L,b < w.heap.size) (a0:List UInt64) {v0_0:Value} (h0_0:Rep.R w L [v0_0] a0) (a1:List UInt64) {v1_0:Value} (h1_0:Rep.R w L [v1_0] a1)  {r:Int} (h:wide_compared_p n a0 a1 = some r) :
    Calls Tryz.prog 145 #[v0_0,v1_0] w (Gives w fun _ u=>u = vI r):=by
 unfold wide_compared_p at h
 have hS0:=Ay w
 refine AC Tryz.func145 rfl rfl rfl (fun _ cs0 hb0=>?_)
 refine Ac<|Af rfl<|Aa<|Aj<|Ac<|Ae rfl ?_
 have hl1:a0.length ≤ 281474976710656:=AQ h0_0
 refine Ab (Bb (xs:=a0) Tryz.underlying75 rfl h0_0)<|Ae rfl ?_
 have hl2:a1.length ≤ 281474976710656:=AQ h1_0
 refine Ab (Bb (xs:=a1) Tryz.underlying75 rfl h1_0)<|Ab (FV.neqN (i:=a0.length) (j:=a1.length) rfl rfl)<|Aa<|MX.ifn rfl h (fun c3 h=>?_) (fun c3 h=>?_)
 refine Ao<|Aj<|Ac<|Ae rfl<|Ab (Bb (xs:=a0) Tryz.underlying75 rfl h0_0)<|Ab (FV.subI (i:=((a0.length:Nat):Int)) (j:=1) rfl rfl (by omega))<|Af rfl<|Aa<|Ar ?_
 obtain ⟨q1,R0,p0⟩:=thn_in h
 refine Be (α:=Int) (fun d0=>[(0,v0_0),(1,v1_0),(5,vI d0)]) (fun d0 q0=>St w q0 []∧Tr w [] q0 []) (fun d0=>d0) (((a0.length:Nat):Int) - 1) R0 ⟨rfl,rfl,rfl,trivial⟩ ⟨hS0,AT _ _⟩ ?_
 rintro j1 d0 q0 I0 ⟨k0,J0⟩ h
 unfold wide_compared_l1 at h
 try dsimp only at h
 refine Aj<|Ac<|Ae rfl<|Ab (FV.geq (i:=d0) (j:=0) rfl rfl)<|Aa<|AO rfl h (fun D0 h=>?_) (fun D0 h=>?_)
 refine Ao<|Aj<|Ar<|Ar<|Aj<|dt 10 tb145_6 (fun b0 g0=>?_)
 refine Ag 0 1 b0 rfl g0 (fun _=>Ai rfl) rfl<|Ag 1 3 b0 rfl g0 (fun _=>Ai rfl) rfl ?_
 obtain ⟨s0,X0,h⟩:=bi h
 obtain ⟨x0,Y0⟩:=idx_in X0
 have P0:=AH h0_0 k0
 obtain ⟨d1,k1,u0,z0,G0,U0,B0⟩:=Bk P0 Y0
 have K0:G0 = [vU s0]:=U0; subst K0
 refine Ag 2 7 b0 rfl g0 (fun _=>Bo 1 (d0.toNat) rfl u0 rfl x0 z0) rfl<|AF 3 15 768 b0 rfl g0 (AG rfl (B0 0 _ rfl)) rfl<|Ag 4 31 b0 rfl g0 (fun _=>Ai rfl) rfl<|Ag 5 63 b0 rfl g0 (fun _=>Ai rfl) rfl ?_
 obtain ⟨t0,Z0,h⟩:=bi h
 obtain ⟨y0,b1⟩:=idx_in Z0
 have Q0:=AH h1_0 k0
 obtain ⟨g1,p1,v0,A0,H0,V0,C0⟩:=Bk Q0 b1
 have M0:H0 = [vU t0]:=V0; subst M0
 refine Ag 6 127 b0 rfl g0 (fun _=>Bo 1 (d0.toNat) rfl v0 rfl y0 A0) rfl<|AF 7 255 768 b0 rfl g0 (AG rfl (C0 0 _ rfl)) rfl<|Ag 8 511 b0 rfl g0 (fun _=>FV.lssU (a:=s0) (b:=t0) rfl rfl) rfl<|Ag 9 1023 b0 rfl g0 (fun _=>AS rfl) rfl<|AK (dk b0)<|AO rfl h (fun E0 h=>?_) (fun E0 h=>?_)
 refine Ac<|Af rfl<|Aa ?_
 have h:=thn_inl h p0
 refine Ak rfl<|AP hb0 Tryz.func145 rfl rfl ?_
 cases h
 exact k0.gv
 refine Aj<|dt 10 tb145_8 (fun c0 j0=>?_)
 refine Ag 0 1 c0 rfl j0 (fun _=>Ai rfl) rfl<|Ag 1 3 c0 rfl j0 (fun _=>Ai rfl) rfl<|Ag 2 7 c0 rfl j0 (fun _=>Bo 1 (d0.toNat) rfl u0 rfl x0 z0) rfl<|AF 3 15 768 c0 rfl j0 (AG rfl (B0 0 _ rfl)) rfl<|Ag 4 31 c0 rfl j0 (fun _=>Ai rfl) rfl<|Ag 5 63 c0 rfl j0 (fun _=>Ai rfl) rfl<|Ag 6 127 c0 rfl j0 (fun _=>Bo 1 (d0.toNat) rfl v0 rfl y0 A0) rfl<|AF 7 255 768 c0 rfl j0 (AG rfl (C0 0 _ rfl)) rfl<|Ag 8 511 c0 rfl j0 (fun _=>FV.gtrU (a:=s0) (b:=t0) rfl rfl) rfl<|Ag 9 1023 c0 rfl j0 (fun _=>AS rfl) rfl<|AK (dk c0)<|AO rfl h (fun F0 h=>?_) (fun F0 h=>?_)
 refine Ac<|Af rfl<|Aa ?_
 have h:=thn_inl h p0
 refine Ak rfl<|AP hb0 Tryz.func145 rfl rfl ?_
 cases h
 exact k0.gv
 refine Ao<|Au<|Au<|Am<|Ae rfl ?_
 obtain ⟨c1,W0,h⟩:=bi h
 refine Ab (FV.subc (i:=d0) (j:=1) rfl rfl W0)<|Af rfl<|Aa ?_
 exact I0 c1 _ _ ⟨rfl,rfl,rfl,trivial⟩ ⟨k0,J0⟩ h
 refine AW rfl ?_
 have h:=thn_inr h p0
 try dsimp only at h
 refine Ac<|Af rfl<|Aa<|Ak rfl<|AP hb0 Tryz.func145 rfl rfl ?_
 cases h
 exact k0.gv
 refine Ac<|Ae rfl<|Ab (Bb (xs:=a0) Tryz.underlying75 rfl h0_0)<|Ae rfl<|Ab (Bb (xs:=a1) Tryz.underlying75 rfl h1_0)<|Ab (FV.subI (i:=((a0.length:Nat):Int)) (j:=((a1.length:Nat):Int)) rfl rfl (by omega))<|Af rfl<|Aa<|Ak rfl<|AP hb0 Tryz.func145 rfl rfl ?_
 cases h
 exact hS0.gv
theorem el75:ElT Tryz.prog 75 28 (Rep.size UInt64) 8 (vW 0) [vW 0]:=⟨Tryz.underlying75,by kernel_rfl,rfl,rfl,rfl,rfl⟩
def wide_taken_l1 (_n:Nat) (a0:List UInt64) (a1:List UInt64) (j0:UInt64 × Nat × (List UInt64) → Option (List UInt64)):UInt64 × Nat × (List UInt64) → Option (List UInt64)
  | (k0,b0,c0)=>(if b0 < a0.length then (a0[b0]?).bind fun q0=>jn (fun p0=>(sub64 q0 p0 k0).bind fun g0=>(c0[b0]?).bind fun _x193=>(put c0 ((b0:Nat):Int) g0.1).bind fun t0=>j0 (g0.2,b0 + 1,t0)) (fun d0=>(if b0 < a1.length then (a1[b0]?).bind fun s0=>d0 s0 else d0 (0:UInt64))) else some c0)
def wide_taken_p (n:Nat) (a0:List UInt64) (a1:List UInt64):Option (List UInt64):=
  (mk ((a0.length:Nat):Int) (0:UInt64)).bind fun b0=>Option.bind (loopF (wide_taken_l1 n a0 a1) n ((0:UInt64),0,b0)) (fun c0=>some c0)
theorem wide_taken_c (n:Nat) (L:List Nat) (w:World) (hL:∀ b ∈ L,b < w.heap.size) (a0:List UInt64) {v0_0:Value} (h0_0:Rep.R w L [v0_0] a0) (a1:List UInt64) {v1_0:Value} (h1_0:Rep.R w L [v1_0] a1)  {r:List UInt64} (h:wide_taken_p n a0 a1 = some r) :
    Calls Tryz.prog 146 #[v0_0,v1_0] w (Gives w fun w' u=>∃ v0_0:Value,u = v0_0∧Rep.R w' L [v0_0] r):=by
 unfold wide_taken_p at h
 have hS0:=Ay w
 refine AC Tryz.func146 rfl rfl rfl (fun _ cs0 hb0=>?_)
 refine Ac<|Af rfl<|Aa<|Ac<|Ae rfl ?_
 have hl1:a0.length ≤ 281474976710656:=AQ h0_0
 refine Ab (Bb (xs:=a0) Tryz.underlying75 rfl h0_0) ?_
 obtain ⟨A0,H0,h⟩:=bi h
 refine Al .plain rfl (Does.mk (α:=UInt64) H0 hS0 el75 rfl) (fun M1 d0 s0 d2=>?_)
 have b1:=AB (cs:=(List.replicate ((a0.length:Nat):Int).toNat [vW 0]).flatten) (xs:=A0) s0 L (Cells.mk H0 rfl)
 refine Af rfl<|Aa<|Ac<|Af rfl<|Aa<|Aj<|Ac<|Ae rfl ?_
 have v1:=AH h0_0 s0
 refine Ab (Bb (xs:=a0) Tryz.underlying75 rfl v1)<|Ae rfl<|Aa<|Ar ?_
 obtain ⟨p2,A1,q1⟩:=bind_in2 h
 refine Be (α:=UInt64 × Nat × (List UInt64) × (List Value)) (fun ⟨k0,b0,c0,g0⟩=>[(1,v1_0),(5,(.slice (some ⟨d0,0,none⟩) ((a0.length:Nat):Int).toNat ((a0.length:Nat):Int).toNat)),(6,vU k0),(13,v0_0),(14,vI ((a0.length:Nat):Int)),(15,vI ((b0:Nat):Int))]) (fun ⟨k0,b0,c0,g0⟩ q0=>St w q0 [.row w.heap.size 28 (Rep.size UInt64) (.slice (some ⟨d0,0,none⟩) ((a0.length:Nat):Int).toNat ((a0.length:Nat):Int).toNat) c0.length g0]∧Tr M1 [.row w.heap.size 28 (Rep.size UInt64) (.slice (some ⟨d0,0,none⟩) ((a0.length:Nat):Int).toNat ((a0.length:Nat):Int).toNat) A0.length ((List.replicate ((a0.length:Nat):Int).toNat [vW 0]).flatten)] q0 [.row w.heap.size 28 (Rep.size UInt64) (.slice (some ⟨d0,0,none⟩) ((a0.length:Nat):Int).toNat ((a0.length:Nat):Int).toNat) c0.length g0]∧Cells q0 (bl [.row w.heap.size 28 (Rep.size UInt64) (.slice (some ⟨d0,0,none⟩) ((a0.length:Nat):Int).toNat ((a0.length:Nat):Int).toNat) c0.length g0] ++ L) g0 c0) (fun ⟨k0,b0,c0,g0⟩=>(k0,b0,c0)) ((0:UInt64),0,A0,(List.replicate ((a0.length:Nat):Int).toNat [vW 0]).flatten) A1 ⟨rfl,rfl,rfl,rfl,rfl,rfl,trivial⟩ ⟨s0,AT _ _,b1⟩ ?_
 rintro W1 ⟨k0,b0,c0,g0⟩ q0 W0 ⟨j0,Y0,D0⟩ h
 unfold wide_taken_l1 at h
 try dsimp only at h
 refine Ac<|Ab (Bf (i:=b0) (j:=a0.length) rfl rfl)<|Aa<|Aj<|AO rfl h (fun M0 h=>?_) (fun M0 h=>?_)
 refine Ao<|Aj<|Ar<|Ac<|Ae rfl ?_
 obtain ⟨z0,G1,h⟩:=bi h
 have y1:=AH h0_0 j0
 obtain ⟨U1,Y1,d1,s1,Q0,B1,x1⟩:=Bk y1 G1
 have g1:Q0 = [vU z0]:=B1; subst g1
 refine Ab (Bo 1 b0 rfl d1 rfl rfl s1)<|AZ rfl (x1 0 _ rfl)<|Af rfl<|Af rfl<|Aa<|Ac<|Af rfl<|Aa<|Aj<|Ac<|Ae rfl<|Ae rfl ?_
 have x0:=AH h1_0 j0
 have j2:a1.length ≤ 281474976710656:=AQ x0
 refine Ab (Bb (xs:=a1) Tryz.underlying75 rfl x0)<|Ab (Bf (i:=b0) (j:=a1.length) rfl rfl)<|Aa<|MX.join (α:=UInt64) (fun p0=>[(1,v1_0),(5,(.slice (some ⟨d0,0,none⟩) ((a0.length:Nat):Int).toNat ((a0.length:Nat):Int).toNat)),(6,vU k0),(13,v0_0),(14,vI ((a0.length:Nat):Int)),(15,vI ((b0:Nat):Int)),(7,vI ((b0:Nat):Int)),(8,vU z0),(9,vU p0)]) (fun p0 y0=>St w y0 [.row w.heap.size 28 (Rep.size UInt64) (.slice (some ⟨d0,0,none⟩) ((a0.length:Nat):Int).toNat ((a0.length:Nat):Int).toNat) c0.length g0]∧Tr q0 [.row w.heap.size 28 (Rep.size UInt64) (.slice (some ⟨d0,0,none⟩) ((a0.length:Nat):Int).toNat ((a0.length:Nat):Int).toNat) c0.length g0] y0 [.row w.heap.size 28 (Rep.size UInt64) (.slice (some ⟨d0,0,none⟩) ((a0.length:Nat):Int).toNat ((a0.length:Nat):Int).toNat) c0.length g0]) (fun p0=>p0) h ?_ ?_
 rintro p0 y0 ⟨t0,C0⟩ h
 try dsimp only at h
 refine Am<|Ae rfl<|Ae rfl<|Ae rfl<|Ae rfl<|Ae rfl ?_
 obtain ⟨R1,K1,h⟩:=bi h
 refine Ab (FV.sub64 (a:=z0) (b:=p0) (c:=k0) Tryz.func174 rfl (by kernel_rfl) (by kernel_rfl) (by kernel_rfl) rfl rfl rfl K1)<|Ae rfl<|Ab (Ah rfl rfl)<|Ab (Ah rfl rfl) ?_
 obtain ⟨P1,H1,h⟩:=bi h
 have G0:=AD D0 C0
 obtain ⟨J0,Z1,v0,F0,R0,C1,k2⟩:=St.nth (α:=UInt64) t0 .hd G0 H1
 obtain ⟨K0,b2,E0⟩:=St.nthOwn (α:=UInt64) t0 .hd F0
 obtain rfl:J0 = ⟨K0,0,none⟩:=by rw [E0] at v0; cases v0; rfl
 have j1:R0 = [vU P1]:=C1; subst j1
 refine Ab (Bo 1 b0 rfl v0 rfl rfl F0) ?_
 obtain ⟨Q1,J1,h⟩:=bi h
 refine RG.acts' .plain (Acts.set (α:=UInt64) (i:=b0) J1 t0 E0 (fun _=>.hd) G0 rfl rfl rfl rfl rfl (by kernel_rfl)) (fun q2 ⟨U0,X0,Z0,c1⟩=>?_)
 refine Af rfl<|Aa<|Au<|Am<|Ab (Bh (i:=b0) (j:=1) rfl rfl (by omega))<|Ae rfl<|Aa ?_
 exact W0 (R1.2,b0 + 1,Q1,U0) _ _ ⟨rfl,rfl,rfl,rfl,rfl,rfl,trivial⟩ ⟨X0,(Tt Y0 (Tt C0 Z0)),c1⟩ h
 intro X1 B0 h
 try dsimp only at h
 refine AO rfl h (fun P0 h=>?_) (fun P0 h=>?_)
 refine Am<|Ae rfl<|Ae rfl ?_
 obtain ⟨I0,I1,h⟩:=bi h
 obtain ⟨V1,c2,k1,u1,V0,D1,z1⟩:=Bk x0 I1
 have p1:V0 = [vU I0]:=D1; subst p1
 refine Ab (Bo 1 b0 rfl k1 rfl rfl u1)<|AZ rfl (z1 0 _ rfl)<|Af rfl<|Aa ?_
 exact B0 I0 _ _ ⟨rfl,rfl,rfl,rfl,rfl,rfl,rfl,rfl,rfl,trivial⟩ ⟨j0,AT _ _⟩ h
 refine Ao ?_
 exact B0 (0:UInt64) _ _ ⟨rfl,rfl,rfl,rfl,rfl,rfl,rfl,rfl,rfl,trivial⟩ ⟨j0,AT _ _⟩ h
 refine AW rfl ?_
 have h:=q1 _ h
 try dsimp only at h
 refine Ac<|Ae rfl<|Af rfl<|Aa<|Ak rfl ?_
 have E1:=Bu (α:=UInt64) j0 .hd D0 hL
 have u0:=St.delS j0 .hd
 have g2:=St.delT j0 .hd
 have F1:=Rep.at_ (α:=UInt64) (v:=(.slice (some ⟨d0,0,none⟩) ((a0.length:Nat):Int).toNat ((a0.length:Nat):Int).toNat)) (xs:=c0) u0 L E1
 refine AP hb0 Tryz.func146 rfl rfl ?_
 cases h
 exact ⟨u0.ag,fun w9 hw9=>⟨(.slice (some ⟨d0,0,none⟩) ((a0.length:Nat):Int).toNat ((a0.length:Nat):Int).toNat),rfl,u0.kd F1 hw9⟩⟩
def math_bits_LeadingZeros64_p (n:Nat) (a0:UInt64):Option Int:=
  (math_bits_Len64_p n a0).bind fun y1=>(chk (64 - y1)).bind fun s2=>some s2
theorem math_bits_LeadingZeros64_c (n:Nat) (L:List Nat) (w:World) (hL:∀ b ∈ L,b < w.heap.size) (a0:UInt64)  {r:Int} (h:math_bits_LeadingZeros64_p n a0 = some r) :
    Calls Tryz.prog 203 #[vU a0] w (Gives w fun _ u=>u = vI r):=by
 unfold math_bits_LeadingZeros64_p at h
 have hS0:=Ay w
 refine AC Tryz.func203 rfl rfl rfl (fun _ cs0 hb0=>?_)
 refine Ac<|Af rfl<|Aa<|Ac<|Ae rfl ?_
 obtain ⟨y1,hy1,h⟩:=bi h
 refine Bc (vI y1) body86 rfl (e1 rfl) (fun w9 hw9=>math_bits_Len64_c n _ w9 (hS0.hL0 hL hw9) a0 hy1) rfl ?_
 obtain ⟨s2,hs2,h⟩:=bi h
 refine Ab (FV.subc (i:=64) (j:=y1) rfl rfl hs2)<|Af rfl<|Aa<|Ak rfl<|AP hb0 Tryz.func203 rfl rfl ?_
 cases h
 exact hS0.gv
def tb193_6:List (Nat × Nat × Nat):=[(0,268435456,2),(0,536870912,4),(3,1073741824,805306368),(0,2147483648,2),(0,4294967296,4),(24,8589934592,6442450944),(7,64,1073741824),(127,128,8589934592)]
theorem body203:bodyB Tryz.prog 203 = true:=by kernel_rfl
def math_bits_Div64_l1 (_n:Nat) (a2:UInt64) (y8:Int) (a1:UInt64) (d0:UInt64 × UInt64 → Option UInt64):UInt64 × UInt64 → Option UInt64
  | (b0,c0)=>(if (4294967296:UInt64) ≤ b0 then (if (4294967296:UInt64) ≤ (c0 + (shrU (shlU a2 (u64of y8).toNat) 32)) then some (b0 - (1:UInt64)) else d0 (b0 - (1:UInt64),c0 + (shrU (shlU a2 (u64of y8).toNat) 32))) else (if (((4294967296:UInt64) * c0) + ((shlU a1 (u64of y8).toNat) &&& (4294967295:UInt64))) < (b0 * ((shlU a2 (u64of y8).toNat) &&& (4294967295:UInt64))) then (if (4294967296:UInt64) ≤ (c0 + (shrU (shlU a2 (u64of y8).toNat) 32)) then some (b0 - (1:UInt64)) else d0 (b0 - (1:UInt64),c0 + (shrU (shlU a2 (u64of y8).toNat) 32))) else some b0))
def math_bits_Div64_l2 (_n:Nat) (a2:UInt64) (y8:Int) (a1:UInt64) (d0:UInt64 × UInt64 → Option UInt64):UInt64 × UInt64 → Option UInt64
  | (b0,c0)=>(if (4294967296:UInt64) ≤ b0 then (if (4294967296:UInt64) ≤ (c0 + (shrU (shlU a2 (u64of y8).toNat) 32)) then some (b0 - (1:UInt64)) else d0 (b0 - (1:UInt64),c0 + (shrU (shlU a2 (u64of y8).toNat) 32))) else (if (((4294967296:UInt64) * c0) + (shrU (shlU a1 (u64of y8).toNat) 32)) < (b0 * ((shlU a2 (u64of y8).toNat) &&& (4294967295:UInt64))) then (if (4294967296:UInt64) ≤ (c0 + (shrU (shlU a2 (u64of y8).toNat) 32)) then some (b0 - (1:UInt64)) else d0 (b0 - (1:UInt64),c0 + (shrU (shlU a2 (u64of y8).toNat) 32))) else some b0))
def math_bits_Div64_p (n:Nat) (a0:UInt64) (a1:UInt64) (a2:UInt64):Option (UInt64 × UInt64):=
  (if a2 = (0:UInt64) then none else (if a2 ≤ a0 then none else (if a0 = (0:UInt64) then (quoW a1 a2).bind fun s6=>(remW a1 a2).bind fun s7=>some (s6,s7) else (math_bits_LeadingZeros64_p n a2).bind fun y8=>(quoW ((shlU a0 (u64of y8).toNat) ||| (shrU a1 ((64:UInt64) - (u64of y8)).toNat)) (shrU (shlU a2 (u64of y8).toNat) 32)).bind fun s9=>(some (((shlU a0 (u64of y8).toNat) ||| (shrU a1 ((64:UInt64) - (u64of y8)).toNat)) - (s9 * (shrU (shlU a2 (u64of y8).toNat) 32)))).bind fun p0=>jn (fun b0=>(some (((shlU a0 (u64of y8).toNat) ||| (shrU a1 ((64:UInt64) - (u64of y8)).toNat)) * (4294967296:UInt64))).bind fun c0=>(quoW ((c0 + (shrU (shlU a1 (u64of y8).toNat) 32)) - (b0 * (shlU a2 (u64of y8).toNat))) (shrU (shlU a2 (u64of y8).toNat) 32)).bind fun d0=>(some (((c0 + (shrU (shlU a1 (u64of y8).toNat) 32)) - (b0 * (shlU a2 (u64of y8).toNat))) - (d0 * (shrU (shlU a2 (u64of y8).toNat) 32)))).bind fun q0=>jn (fun g0=>(some (((c0 + (shrU (shlU a1 (u64of y8).toNat) 32)) - (b0 * (shlU a2 (u64of y8).toNat))) * (4294967296:UInt64))).bind fun s0=>(some ((s0 + ((shlU a1 (u64of y8).toNat) &&& (4294967295:UInt64))) - (g0 * (shlU a2 (u64of y8).toNat)))).bind fun t0=>some ((b0 * (4294967296:UInt64)) + g0,shrU t0 (u64of y8).toNat)) (fun k0=>Option.bind (loopF (math_bits_Div64_l1 n a2 y8 a1) n (d0,q0)) (k0))) (fun j0=>Option.bind (loopF (math_bits_Div64_l2 n a2 y8 a1) n (s9,p0)) (j0)))))
theorem math_bits_Div64_c (n:Nat) (L:List Nat) (w:World) (hL:∀ b ∈ L,b < w.heap.size) (a0:UInt64) (a1:UInt64) (a2:UInt64)  {r:UInt64 × UInt64} (h:math_bits_Div64_p n a0 a1 a2 = some r) :
    Calls Tryz.prog 193 #[vU a0,vU a1,vU a2] w (Gives w fun _ u=>u = .tuple #[vU r.1,vU r.2]):=by
 unfold math_bits_Div64_p at h
 have hS0:=Ay w
 refine AC Tryz.func193 rfl rfl rfl (fun _ cs0 hb0=>?_)
 refine Ac<|Af rfl<|Af rfl<|Aa<|Aj<|Ac<|Ae rfl<|Ab (FV.eqlU (a:=a2) (b:=(0:UInt64)) rfl rfl)<|Aa<|AO rfl h (fun c1 h=>?_) (fun c1 h=>?_)
 refine Am ?_
 cases h
 refine Ao<|Aj<|Ac<|Ae rfl<|Ae rfl<|Ab (FV.leqU (a:=a2) (b:=a0) rfl rfl)<|Aa<|AO rfl h (fun c2 h=>?_) (fun c2 h=>?_)
 refine Am ?_
 cases h
 refine Ao<|Aj<|Ac<|Ae rfl<|Ab (FV.eqlU (a:=a0) (b:=(0:UInt64)) rfl rfl)<|Aa<|AO rfl h (fun c3 h=>?_) (fun c3 h=>?_)
 refine Aj<|dt 8 tb193_6 (fun kt4 kp5=>?_)
 refine Ag 0 1 kt4 rfl kp5 (fun _=>Ai rfl) rfl<|Ag 1 3 kt4 rfl kp5 (fun _=>Ai rfl) rfl ?_
 obtain ⟨s6,hs6,h⟩:=bi h
 refine Ag 2 7 kt4 rfl kp5 (fun _=>FV.quoV (a:=a1) (b:=a2) rfl rfl hs6) rfl<|Ag 3 15 kt4 rfl kp5 (fun _=>Ai rfl) rfl<|Ag 4 31 kt4 rfl kp5 (fun _=>Ai rfl) rfl ?_
 obtain ⟨s7,hs7,h⟩:=bi h
 refine Ag 5 63 kt4 rfl kp5 (fun _=>FV.remV (a:=a1) (b:=a2) rfl rfl hs7) rfl<|Ag 6 127 kt4 rfl kp5 (fun _=>AS rfl) rfl<|Ag 7 255 kt4 rfl kp5 (fun _=>AS rfl) rfl<|AK (dk kt4)<|Ak rfl<|Ap hb0 Tryz.func193 rfl (.cons (.tmp rfl) (.cons (.tmp rfl) .nil)) rfl ?_
 cases h
 exact hS0.gv
 refine Ao<|Ac<|Ae rfl ?_
 obtain ⟨y8,hy8,h⟩:=bi h
 refine Bc (vI y8) body203 rfl (e1 rfl) (fun w9 hw9=>math_bits_LeadingZeros64_c n _ w9 (hS0.hL0 hL hw9) a2 hy8) rfl<|Ab (FV.convU (i:=y8) Tryz.underlying3 Tryz.underlying147 rfl)<|Af rfl<|Aa<|Ac<|Ae rfl<|Ae rfl<|Ab (FV.shlU (a:=a2) (j:=(u64of y8).toNat) rfl rfl)<|Af rfl<|Aa<|Ac<|Ae rfl<|Ab (FV.shrU (a:=shlU a2 (u64of y8).toNat) (j:=32) rfl rfl)<|Af rfl<|Aa<|Ac<|Ae rfl<|Ab (FV.andU (a:=shlU a2 (u64of y8).toNat) (b:=(4294967295:UInt64)) rfl rfl)<|Af rfl<|Aa<|Ac<|Ae rfl<|Ae rfl<|Ab (FV.shlU (a:=a0) (j:=(u64of y8).toNat) rfl rfl) ?_
 refine Ae rfl<|Ae rfl<|Ab (FV.subU (a:=(64:UInt64)) (b:=u64of y8) rfl rfl)<|Ab (FV.shrU (a:=a1) (j:=((64:UInt64) - (u64of y8)).toNat) rfl rfl)<|Ab (FV.orU (a:=shlU a0 (u64of y8).toNat) (b:=shrU a1 ((64:UInt64) - (u64of y8)).toNat) rfl rfl)<|Af rfl<|Aa<|Ac<|Ae rfl<|Ae rfl<|Ab (FV.shlU (a:=a1) (j:=(u64of y8).toNat) rfl rfl)<|Af rfl<|Aa<|Ac<|Ae rfl<|Ab (FV.shrU (a:=shlU a1 (u64of y8).toNat) (j:=32) rfl rfl)<|Af rfl<|Aa<|Ac<|Ae rfl<|Ab (FV.andU (a:=shlU a1 (u64of y8).toNat) (b:=(4294967295:UInt64)) rfl rfl)<|Af rfl<|Aa<|Ac ?_
 refine Ae rfl<|Ae rfl ?_
 obtain ⟨s9,hs9,h⟩:=bi h
 refine Ab (FV.quoV (a:=(shlU a0 (u64of y8).toNat) ||| (shrU a1 ((64:UInt64) - (u64of y8)).toNat)) (b:=shrU (shlU a2 (u64of y8).toNat) 32) rfl rfl hs9)<|Af rfl<|Aa<|Ac<|Ae rfl<|Ae rfl<|Ae rfl<|Ab (FV.mulU (a:=s9) (b:=shrU (shlU a2 (u64of y8).toNat) 32) rfl rfl) ?_
 obtain ⟨p1,b1,h⟩:=bi h
 refine Ab (FV.as (FV.subU (a:=(shlU a0 (u64of y8).toNat) ||| (shrU a1 ((64:UInt64) - (u64of y8)).toNat)) (b:=s9 * (shrU (shlU a2 (u64of y8).toNat) 32)) rfl rfl) (congrArg (fun z:UInt64=>Value.int .u64 (z.toNat:Int)) (Option.some.inj b1)))<|Af rfl<|Aa<|Aj<|Ar<|MX.joinx (α:=UInt64) (fun b0=>[(2,vW ((shlU a2 (u64of y8).toNat).toNat:Int)),(8,vW ((u64of y8).toNat:Int)),(9,vW ((shrU (shlU a2 (u64of y8).toNat) 32).toNat:Int)),(10,vW (((shlU a2 (u64of y8).toNat) &&& (4294967295:UInt64)).toNat:Int)),(11,vW (((shlU a0 (u64of y8).toNat) ||| (shrU a1 ((64:UInt64) - (u64of y8)).toNat)).toNat:Int)),(13,vW ((shrU (shlU a1 (u64of y8).toNat) 32).toNat:Int)),(14,vW (((shlU a1 (u64of y8).toNat) &&& (4294967295:UInt64)).toNat:Int)),(15,vU b0)]) (fun b0 v0=>St w v0 []∧Tr w [] v0 []) (fun b0=>b0) (id:=0) rfl h ?_ ?_
 rintro b0 v0 ⟨V0,y1⟩ h
 try dsimp only at h
 refine Ac<|Ae rfl ?_
 obtain ⟨p0,d1,h⟩:=bi h
 refine Ab (FV.as (FV.mulU (a:=(shlU a0 (u64of y8).toNat) ||| (shrU a1 ((64:UInt64) - (u64of y8)).toNat)) (b:=(4294967296:UInt64)) rfl rfl) (congrArg (fun z:UInt64=>Value.int .u64 (z.toNat:Int)) (Option.some.inj d1)))<|Ae rfl<|Ab (FV.addU (a:=p0) (b:=shrU (shlU a1 (u64of y8).toNat) 32) rfl rfl)<|Ae rfl<|Ae rfl<|Ab (FV.mulU (a:=b0) (b:=shlU a2 (u64of y8).toNat) rfl rfl)<|Ab (FV.subU (a:=p0 + (shrU (shlU a1 (u64of y8).toNat) 32)) (b:=b0 * (shlU a2 (u64of y8).toNat)) rfl rfl)<|Af rfl<|Aa<|Ac<|Ae rfl<|Ae rfl ?_
 obtain ⟨B0,Z0,h⟩:=bi h
 refine Ab (FV.quoV (a:=(p0 + (shrU (shlU a1 (u64of y8).toNat) 32)) - (b0 * (shlU a2 (u64of y8).toNat))) (b:=shrU (shlU a2 (u64of y8).toNat) 32) rfl rfl Z0)<|Af rfl<|Aa<|Ac<|Ae rfl<|Ae rfl<|Ae rfl<|Ab (FV.mulU (a:=B0) (b:=shrU (shlU a2 (u64of y8).toNat) 32) rfl rfl) ?_
 obtain ⟨q1,g1,h⟩:=bi h
 refine Ab (FV.as (FV.subU (a:=(p0 + (shrU (shlU a1 (u64of y8).toNat) 32)) - (b0 * (shlU a2 (u64of y8).toNat))) (b:=B0 * (shrU (shlU a2 (u64of y8).toNat) 32)) rfl rfl) (congrArg (fun z:UInt64=>Value.int .u64 (z.toNat:Int)) (Option.some.inj g1)))<|Af rfl<|Aa<|Aj<|Ar<|MX.joinx (α:=UInt64) (fun k0=>[(2,vW ((shlU a2 (u64of y8).toNat).toNat:Int)),(8,vW ((u64of y8).toNat:Int)),(14,vW (((shlU a1 (u64of y8).toNat) &&& (4294967295:UInt64)).toNat:Int)),(15,vU b0),(17,vW (((p0 + (shrU (shlU a1 (u64of y8).toNat) 32)) - (b0 * (shlU a2 (u64of y8).toNat))).toNat:Int)),(18,vU k0)]) (fun k0 E0=>St w E0 []∧Tr v0 [] E0 []) (fun k0=>k0) (id:=2) rfl h ?_ ?_
 rintro k0 E0 ⟨W0,z1⟩ h
 try dsimp only at h
 refine Ac<|Ae rfl<|Ab (FV.mulU (a:=b0) (b:=(4294967296:UInt64)) rfl rfl)<|Ae rfl<|Ab (FV.addU (a:=b0 * (4294967296:UInt64)) (b:=k0) rfl rfl)<|Ae rfl ?_
 obtain ⟨H0,j1,h⟩:=bi h
 refine Ab (FV.as (FV.mulU (a:=(p0 + (shrU (shlU a1 (u64of y8).toNat) 32)) - (b0 * (shlU a2 (u64of y8).toNat))) (b:=(4294967296:UInt64)) rfl rfl) (congrArg (fun z:UInt64=>Value.int .u64 (z.toNat:Int)) (Option.some.inj j1)))<|Ae rfl<|Ab (FV.addU (a:=H0) (b:=(shlU a1 (u64of y8).toNat) &&& (4294967295:UInt64)) rfl rfl)<|Ae rfl<|Ae rfl<|Ab (FV.mulU (a:=k0) (b:=shlU a2 (u64of y8).toNat) rfl rfl) ?_
 obtain ⟨s1,k1,h⟩:=bi h
 refine Ab (FV.as (FV.subU (a:=H0 + ((shlU a1 (u64of y8).toNat) &&& (4294967295:UInt64))) (b:=k0 * (shlU a2 (u64of y8).toNat)) rfl rfl) (congrArg (fun z:UInt64=>Value.int .u64 (z.toNat:Int)) (Option.some.inj k1)))<|Ae rfl<|Ab (FV.shrU (a:=s1) (j:=(u64of y8).toNat) rfl rfl)<|Af rfl<|Af rfl<|Aa<|Ak rfl<|Ap hb0 Tryz.func193 rfl (.cons (.tmp rfl) (.cons (.tmp rfl) .nil)) rfl ?_
 cases h
 exact W0.gv
 intro x1 y0 h
 try dsimp only at h
 obtain ⟨A1,X0,z0⟩:=bind_in2 h
 refine Be (α:=UInt64 × UInt64) (fun ⟨c0,g0⟩=>[(2,vW ((shlU a2 (u64of y8).toNat).toNat:Int)),(8,vW ((u64of y8).toNat:Int)),(9,vW ((shrU (shlU a2 (u64of y8).toNat) 32).toNat:Int)),(10,vW (((shlU a2 (u64of y8).toNat) &&& (4294967295:UInt64)).toNat:Int)),(14,vW (((shlU a1 (u64of y8).toNat) &&& (4294967295:UInt64)).toNat:Int)),(15,vU b0),(17,vW (((p0 + (shrU (shlU a1 (u64of y8).toNat) 32)) - (b0 * (shlU a2 (u64of y8).toNat))).toNat:Int)),(18,vU c0),(16,vU g0)]) (fun ⟨c0,g0⟩ C0=>St w C0 []∧Tr v0 [] C0 []) (fun ⟨c0,g0⟩=>(c0,g0)) (B0,q1) X0 ⟨rfl,rfl,rfl,rfl,rfl,rfl,rfl,rfl,rfl,trivial⟩ ⟨V0,AT _ _⟩ ?_
 rintro t1 ⟨c0,g0⟩ C0 F0 ⟨q0,t0⟩ h
 unfold math_bits_Div64_l1 at h
 try dsimp only at h
 refine Aj<|Ac<|Ae rfl<|Ab (FV.geqU (a:=c0) (b:=(4294967296:UInt64)) rfl rfl)<|Ae rfl<|RG.ifd (s:=104) rfl h (fun I0 h=>?_) (fun I0 h=>?_)
 refine AE<|AE<|AE<|AE<|AE<|AE<|AE<|AE<|RG.pt rfl rfl<|Aa<|Bj rfl<|Ao<|Ar<|Ac<|Ae rfl<|Ab (FV.subU (a:=c0) (b:=(1:UInt64)) rfl rfl)<|Af rfl<|Aa<|Ac<|Ae rfl<|Ae rfl<|Ab (FV.addU (a:=g0) (b:=shrU (shlU a2 (u64of y8).toNat) 32) rfl rfl)<|Af rfl<|Aa ?_
 refine Ac<|Ae rfl<|Ab (FV.geqU (a:=g0 + (shrU (shlU a2 (u64of y8).toNat) 32)) (b:=(4294967296:UInt64)) rfl rfl)<|Aa<|AO rfl h (fun J0 h=>?_) (fun J0 h=>?_)
 refine AW rfl ?_
 have h:=z0 _ h
 try dsimp only at h
 exact y0 (c0 - (1:UInt64)) _ _ ⟨rfl,rfl,rfl,rfl,rfl,rfl,trivial⟩ ⟨q0,t0⟩ h
 refine Ao<|Au ?_
 exact F0 (c0 - (1:UInt64),g0 + (shrU (shlU a2 (u64of y8).toNat) 32)) _ _ ⟨rfl,rfl,rfl,rfl,rfl,rfl,rfl,rfl,rfl,trivial⟩ ⟨q0,t0⟩ h
 refine AU (Ai rfl)<|AU (Ai rfl)<|AU (FV.mulU (a:=c0) (b:=(shlU a2 (u64of y8).toNat) &&& (4294967295:UInt64)) rfl rfl)<|AU (Ai rfl)<|AU (FV.mulU (a:=(4294967296:UInt64)) (b:=g0) rfl rfl)<|AU (Ai rfl)<|AU (FV.addU (a:=(4294967296:UInt64) * g0) (b:=(shlU a1 (u64of y8).toNat) &&& (4294967295:UInt64)) rfl rfl)<|AU (FV.gtrU (a:=c0 * ((shlU a2 (u64of y8).toNat) &&& (4294967295:UInt64))) (b:=((4294967296:UInt64) * g0) + ((shlU a1 (u64of y8).toNat) &&& (4294967295:UInt64))) rfl rfl)<|RG.pf rfl rfl<|Aa<|AO rfl h (fun K0 h=>?_) (fun K0 h=>?_)
 refine Ao<|Ar<|Ac<|Ae rfl<|Ab (FV.subU (a:=c0) (b:=(1:UInt64)) rfl rfl)<|Af rfl<|Aa<|Ac<|Ae rfl<|Ae rfl<|Ab (FV.addU (a:=g0) (b:=shrU (shlU a2 (u64of y8).toNat) 32) rfl rfl)<|Af rfl<|Aa<|Ac<|Ae rfl<|Ab (FV.geqU (a:=g0 + (shrU (shlU a2 (u64of y8).toNat) 32)) (b:=(4294967296:UInt64)) rfl rfl)<|Aa<|AO rfl h (fun M0 h=>?_) (fun M0 h=>?_)
 refine AW rfl ?_
 have h:=z0 _ h
 try dsimp only at h
 exact y0 (c0 - (1:UInt64)) _ _ ⟨rfl,rfl,rfl,rfl,rfl,rfl,trivial⟩ ⟨q0,t0⟩ h
 refine Ao<|Au ?_
 exact F0 (c0 - (1:UInt64),g0 + (shrU (shlU a2 (u64of y8).toNat) 32)) _ _ ⟨rfl,rfl,rfl,rfl,rfl,rfl,rfl,rfl,rfl,trivial⟩ ⟨q0,t0⟩ h
 refine AW rfl ?_
 have h:=z0 _ h
 try dsimp only at h
 exact y0 c0 _ _ ⟨rfl,rfl,rfl,rfl,rfl,rfl,trivial⟩ ⟨q0,t0⟩ h
 intro v1 x0 h
 try dsimp only at h
 obtain ⟨B1,Y0,A0⟩:=bind_in2 h
 refine Be (α:=UInt64 × UInt64) (fun ⟨d0,j0⟩=>[(2,vW ((shlU a2 (u64of y8).toNat).toNat:Int)),(8,vW ((u64of y8).toNat:Int)),(9,vW ((shrU (shlU a2 (u64of y8).toNat) 32).toNat:Int)),(10,vW (((shlU a2 (u64of y8).toNat) &&& (4294967295:UInt64)).toNat:Int)),(11,vW (((shlU a0 (u64of y8).toNat) ||| (shrU a1 ((64:UInt64) - (u64of y8)).toNat)).toNat:Int)),(13,vW ((shrU (shlU a1 (u64of y8).toNat) 32).toNat:Int)),(14,vW (((shlU a1 (u64of y8).toNat) &&& (4294967295:UInt64)).toNat:Int)),(15,vU d0),(16,vU j0)]) (fun ⟨d0,j0⟩ D0=>St w D0 []∧Tr w [] D0 []) (fun ⟨d0,j0⟩=>(d0,j0)) (s9,p1) Y0 ⟨rfl,rfl,rfl,rfl,rfl,rfl,rfl,rfl,rfl,trivial⟩ ⟨hS0,AT _ _⟩ ?_
 rintro u1 ⟨d0,j0⟩ D0 G0 ⟨s0,u0⟩ h
 unfold math_bits_Div64_l2 at h
 try dsimp only at h
 refine Aj<|Ac<|Ae rfl<|Ab (FV.geqU (a:=d0) (b:=(4294967296:UInt64)) rfl rfl)<|Ae rfl<|RG.ifd (s:=69) rfl h (fun P0 h=>?_) (fun P0 h=>?_)
 refine AE<|AE<|AE<|AE<|AE<|AE<|AE<|AE<|RG.pt rfl rfl<|Aa<|Bj rfl<|Ao<|Ar<|Ac<|Ae rfl<|Ab (FV.subU (a:=d0) (b:=(1:UInt64)) rfl rfl)<|Af rfl<|Aa<|Ac<|Ae rfl<|Ae rfl<|Ab (FV.addU (a:=j0) (b:=shrU (shlU a2 (u64of y8).toNat) 32) rfl rfl)<|Af rfl<|Aa ?_
 refine Ac<|Ae rfl<|Ab (FV.geqU (a:=j0 + (shrU (shlU a2 (u64of y8).toNat) 32)) (b:=(4294967296:UInt64)) rfl rfl)<|Aa<|AO rfl h (fun Q0 h=>?_) (fun Q0 h=>?_)
 refine AW rfl ?_
 have h:=A0 _ h
 try dsimp only at h
 exact x0 (d0 - (1:UInt64)) _ _ ⟨rfl,rfl,rfl,rfl,rfl,rfl,rfl,rfl,trivial⟩ ⟨s0,u0⟩ h
 refine Ao<|Au ?_
 exact G0 (d0 - (1:UInt64),j0 + (shrU (shlU a2 (u64of y8).toNat) 32)) _ _ ⟨rfl,rfl,rfl,rfl,rfl,rfl,rfl,rfl,rfl,trivial⟩ ⟨s0,u0⟩ h
 refine AU (Ai rfl)<|AU (Ai rfl)<|AU (FV.mulU (a:=d0) (b:=(shlU a2 (u64of y8).toNat) &&& (4294967295:UInt64)) rfl rfl)<|AU (Ai rfl)<|AU (FV.mulU (a:=(4294967296:UInt64)) (b:=j0) rfl rfl)<|AU (Ai rfl)<|AU (FV.addU (a:=(4294967296:UInt64) * j0) (b:=shrU (shlU a1 (u64of y8).toNat) 32) rfl rfl)<|AU (FV.gtrU (a:=d0 * ((shlU a2 (u64of y8).toNat) &&& (4294967295:UInt64))) (b:=((4294967296:UInt64) * j0) + (shrU (shlU a1 (u64of y8).toNat) 32)) rfl rfl)<|RG.pf rfl rfl<|Aa<|AO rfl h (fun R0 h=>?_) (fun R0 h=>?_)
 refine Ao<|Ar<|Ac<|Ae rfl<|Ab (FV.subU (a:=d0) (b:=(1:UInt64)) rfl rfl)<|Af rfl<|Aa<|Ac<|Ae rfl<|Ae rfl<|Ab (FV.addU (a:=j0) (b:=shrU (shlU a2 (u64of y8).toNat) 32) rfl rfl)<|Af rfl<|Aa<|Ac<|Ae rfl<|Ab (FV.geqU (a:=j0 + (shrU (shlU a2 (u64of y8).toNat) 32)) (b:=(4294967296:UInt64)) rfl rfl)<|Aa<|AO rfl h (fun U0 h=>?_) (fun U0 h=>?_)
 refine AW rfl ?_
 have h:=A0 _ h
 try dsimp only at h
 exact x0 (d0 - (1:UInt64)) _ _ ⟨rfl,rfl,rfl,rfl,rfl,rfl,rfl,rfl,trivial⟩ ⟨s0,u0⟩ h
 refine Ao<|Au ?_
 exact G0 (d0 - (1:UInt64),j0 + (shrU (shlU a2 (u64of y8).toNat) 32)) _ _ ⟨rfl,rfl,rfl,rfl,rfl,rfl,rfl,rfl,rfl,trivial⟩ ⟨s0,u0⟩ h
 refine AW rfl ?_
 have h:=A0 _ h
 try dsimp only at h
 exact x0 d0 _ _ ⟨rfl,rfl,rfl,rfl,rfl,rfl,rfl,rfl,trivial⟩ ⟨s0,u0⟩ h
def wide_length_p (n:Nat) (a0:List UInt64):Option Int:=
  (if a0.length = 0 then some (0:Int) else (chk (64 * ((a0.length:Nat):Int))).bind fun s3=>(idx a0 (((a0.length:Nat):Int) - 1)).bind fun x4=>(math_bits_LeadingZeros64_p n x4).bind fun c0=>(chk (s3 - c0)).bind fun b0=>some b0)
theorem wide_length_c (n:Nat) (L:List Nat) (w:World) (hL:∀ b ∈ L,b < w.heap.size) (a0:List UInt64) {v0_0:Value} (h0_0:Rep.R w L [v0_0] a0)  {r:Int} (h:wide_length_p n a0 = some r) :
    Calls Tryz.prog 194 #[v0_0] w (Gives w fun _ u=>u = vI r):=by
 unfold wide_length_p at h
 have hS0:=Ay w
 refine AC Tryz.func194 rfl rfl rfl (fun _ cs0 hb0=>?_)
 refine Ac<|Af rfl<|Aa<|Aj<|Ac<|Ae rfl ?_
 have hl1:a0.length ≤ 281474976710656:=AQ h0_0
 refine Ab (Bb (xs:=a0) Tryz.underlying75 rfl h0_0)<|Ab (FV.eqlN (i:=a0.length) (j:=0) rfl rfl)<|Aa<|AO rfl h (fun c2 h=>?_) (fun c2 h=>?_)
 refine Ac<|Af rfl<|Aa<|Ak rfl<|AP hb0 Tryz.func194 rfl rfl ?_
 cases h
 exact hS0.gv
 refine Ao<|Ac<|Ae rfl<|Ab (Bb (xs:=a0) Tryz.underlying75 rfl h0_0) ?_
 obtain ⟨s3,hs3,h⟩:=bi h
 refine Ab (FV.mulc (i:=64) (j:=((a0.length:Nat):Int)) rfl rfl hs3)<|Ae rfl<|Ae rfl<|Ab (Bb (xs:=a0) Tryz.underlying75 rfl h0_0)<|Ab (FV.subI (i:=((a0.length:Nat):Int)) (j:=1) rfl rfl (by omega)) ?_
 obtain ⟨x4,hx4,h⟩:=bi h
 obtain ⟨hi5,hx6⟩:=idx_in hx4
 obtain ⟨A7,c8,he9,g0,c0,k0,j0⟩:=Bk h0_0 hx6
 have d0:c0 = [vU x4]:=k0; subst d0
 refine Ab (FV.idxAddr (m:=1) (i:=(((a0.length:Nat):Int) - 1).toNat) (by kernel_rfl) rfl he9 rfl hi5 g0)<|AZ rfl (j0 0 _ rfl) ?_
 obtain ⟨b0,q0,h⟩:=bi h
 refine Bc (vI b0) body203 rfl (e1 rfl) (fun w9 hw9=>math_bits_LeadingZeros64_c n _ w9 (hS0.hL0 hL hw9) x4 q0) rfl ?_
 obtain ⟨s0,p0,h⟩:=bi h
 refine Ab (FV.subc (i:=s3) (j:=b0) rfl rfl p0)<|Af rfl<|Aa<|Ak rfl<|AP hb0 Tryz.func194 rfl rfl ?_
 cases h
 exact hS0.gv
def tb195_5:List (Nat × Nat × Nat):=[(0,4194304,32),(0,8388608,64),(0,16777216,2),(4,33554432,16777216),(10,67108864,41943040),(17,134217728,71303168),(32,268435456,134217728),(0,536870912,128),(0,1073741824,2),(256,2147483648,1073741824),(640,4294967296,2684354560),(1088,8589934592,4563402752),(4095,17179869184,71303168),(8191,0,25769803776)]
theorem body142:bodyB Tryz.prog 142 = true:=by kernel_rfl
def wide_moved_l1 (_n:Nat) (a0:List UInt64) (a1:Int) (g0:Nat × (List UInt64) → Option (List UInt64)):Nat × (List UInt64) → Option (List UInt64)
  | (b0,c0)=>(if b0 < a0.length then (a0[b0]?).bind fun p0=>(quoI a1 64).bind fun t0=>(chk (((b0:Nat):Int) + t0)).bind fun j0=>(idx c0 j0).bind fun B0=>(remI a1 64).bind fun u0=>(natOf u0).bind fun q0=>(put c0 ((j0.toNat:Nat):Int) (B0 ||| (shlU p0 q0))).bind fun d0=>(remI a1 64).bind fun v0=>(if 0 < v0 then (quoI a1 64).bind fun x0=>(chk (((b0:Nat):Int) + x0)).bind fun y0=>(chk (y0 + 1)).bind fun k0=>(remI a1 64).bind fun z0=>(chk (64 - z0)).bind fun A0=>(natOf A0).bind fun s0=>(idx d0 k0).bind fun _x218=>(put d0 ((k0.toNat:Nat):Int) (shrU p0 s0)).bind fun C0=>g0 (b0 + 1,C0) else g0 (b0 + 1,d0)) else some c0)
def wide_moved_p (n:Nat) (a0:List UInt64) (a1:Int):Option (List UInt64):=
  (quoI a1 64).bind fun s2=>(chk (((a0.length:Nat):Int) + s2)).bind fun s3=>(chk (s3 + 1)).bind fun s4=>(mk s4 (0:UInt64)).bind fun b0=>Option.bind (loopF (wide_moved_l1 n a0 a1) n (0,b0)) (fun c0=>(wide_trimmed_p n false c0).bind fun d0=>some d0.fm)
theorem wide_moved_c (n:Nat) (L:List Nat) (w:World) (hL:∀ b ∈ L,b < w.heap.size) (a0:List UInt64) {v0_0:Value} (h0_0:Rep.R w L [v0_0] a0) (a1:Int)  {r:List UInt64} (h:wide_moved_p n a0 a1 = some r) :
    Calls Tryz.prog 195 #[v0_0,vI a1] w (Gives w fun w' u=>∃ v0_0:Value,u = v0_0∧Rep.R w' L [v0_0] r):=by
 unfold wide_moved_p at h
 have hS0:=Ay w
 refine AC Tryz.func195 rfl rfl rfl (fun _ cs0 hb0=>?_)
 refine Ac<|Af rfl<|Aa<|Ac<|Ae rfl ?_
 have hl1:a0.length ≤ 281474976710656:=AQ h0_0
 refine Ab (Bb (xs:=a0) Tryz.underlying75 rfl h0_0)<|Ae rfl ?_
 obtain ⟨s2,hs2,h⟩:=bi h
 refine Ab (FV.quoc (i:=a1) (j:=64) rfl rfl hs2) ?_
 obtain ⟨s3,hs3,h⟩:=bi h
 refine Ab (FV.addc (i:=((a0.length:Nat):Int)) (j:=s2) rfl rfl hs3) ?_
 obtain ⟨s4,hs4,h⟩:=bi h
 refine Ab (FV.addc (i:=s3) (j:=1) rfl rfl hs4) ?_
 obtain ⟨D0,P0,h⟩:=bi h
 refine Al .plain rfl (Does.mk (α:=UInt64) P0 hS0 el75 rfl) (fun H2 p0 v0 Y2=>?_)
 have u1:=AB (cs:=(List.replicate s4.toNat [vW 0]).flatten) (xs:=D0) v0 L (Cells.mk P0 rfl)
 refine Af rfl<|Aa<|Aj<|Ac<|Ae rfl ?_
 have G1:=AH h0_0 v0
 refine Ab (Bb (xs:=a0) Tryz.underlying75 rfl G1)<|Ae rfl<|Aa<|Ar ?_
 obtain ⟨g3,K1,B1⟩:=bind_in2 h
 refine Be (α:=Nat × (List UInt64) × (List Value)) (fun ⟨c0,g0,j0⟩=>[(1,vI a1),(5,(.slice (some ⟨p0,0,none⟩) s4.toNat s4.toNat)),(15,v0_0),(16,vI ((a0.length:Nat):Int)),(17,vI ((c0:Nat):Int))]) (fun ⟨c0,g0,j0⟩ t0=>St w t0 [.row w.heap.size 28 (Rep.size UInt64) (.slice (some ⟨p0,0,none⟩) s4.toNat s4.toNat) g0.length j0]∧Tr H2 [.row w.heap.size 28 (Rep.size UInt64) (.slice (some ⟨p0,0,none⟩) s4.toNat s4.toNat) D0.length ((List.replicate s4.toNat [vW 0]).flatten)] t0 [.row w.heap.size 28 (Rep.size UInt64) (.slice (some ⟨p0,0,none⟩) s4.toNat s4.toNat) g0.length j0]∧Cells t0 (bl [.row w.heap.size 28 (Rep.size UInt64) (.slice (some ⟨p0,0,none⟩) s4.toNat s4.toNat) g0.length j0] ++ L) j0 g0) (fun ⟨c0,g0,j0⟩=>(c0,g0)) (0,D0,(List.replicate s4.toNat [vW 0]).flatten) K1 ⟨rfl,rfl,rfl,rfl,rfl,trivial⟩ ⟨v0,AT _ _,u1⟩ ?_
 rintro Q2 ⟨c0,g0,j0⟩ t0 E0 ⟨k0,G0,y0⟩ h
 unfold wide_moved_l1 at h
 try dsimp only at h
 refine Ac<|Ab (Bf (i:=c0) (j:=a0.length) rfl rfl)<|Aa<|Aj<|AO rfl h (fun Z0 h=>?_) (fun Z0 h=>?_)
 refine Ao<|Aj<|Ar<|Ac<|Ae rfl ?_
 obtain ⟨u0,k2,h⟩:=bi h
 have I1:=AH h0_0 k0
 obtain ⟨P2,R2,x1,D1,c1,M1,H1⟩:=Bk I1 k2
 have y1:c1 = [vU u0]:=M1; subst y1
 refine Ab (Bo 1 c0 rfl x1 rfl rfl D1)<|AZ rfl (H1 0 _ rfl)<|Af rfl<|Af rfl<|Aa<|Aj<|dt 13 tb195_5 (fun b0 d0=>?_)
 refine Ag 0 1 b0 rfl d0 (fun _=>Ai rfl) rfl<|Ag 1 3 b0 rfl d0 (fun _=>Ai rfl) rfl<|Ag 2 7 b0 rfl d0 (fun _=>Ai rfl) rfl ?_
 obtain ⟨A2,W1,h⟩:=bi h
 refine Ag 3 15 b0 rfl d0 (fun _=>FV.quoc (i:=a1) (j:=64) rfl rfl W1) rfl ?_
 obtain ⟨C0,X1,h⟩:=bi h
 refine Ag 4 31 b0 rfl d0 (fun _=>FV.addc (i:=((c0:Nat):Int)) (j:=A2) rfl rfl X1) rfl ?_
 obtain ⟨U0,p2,h⟩:=bi h
 obtain ⟨K0,q2⟩:=idx_in p2
 obtain ⟨V0,U2,s0,B0,d1,P1,J1⟩:=St.nth (α:=UInt64) k0 .hd y0 q2
 obtain ⟨X0,V2,I0⟩:=St.nthOwn (α:=UInt64) k0 .hd B0
 obtain rfl:V0 = ⟨X0,0,none⟩:=by rw [I0] at s0; cases s0; rfl
 have z1:d1 = [vU U0]:=P1; subst z1
 refine Ag 5 63 b0 rfl d0 (fun _=>Bo 1 (C0.toNat) rfl s0 rfl K0 B0) rfl<|AF 6 127 14336 b0 rfl d0 (AG rfl (J1 0 _ rfl)) rfl<|Ag 7 255 b0 rfl d0 (fun _=>Ai rfl) rfl<|Ag 8 511 b0 rfl d0 (fun _=>Ai rfl) rfl ?_
 obtain ⟨B2,Y1,h⟩:=bi h
 refine Ag 9 1023 b0 rfl d0 (fun _=>FV.remc (i:=a1) (j:=64) rfl rfl Y1) rfl ?_
 obtain ⟨z2,E1,h⟩:=bi h
 refine Ag 10 2047 b0 rfl d0 (fun _=>FV.shlI (a:=u0) (i:=B2) rfl rfl E1) rfl<|Ag 11 4095 b0 rfl d0 (fun _=>FV.orU (a:=U0) (b:=shlU u0 z2) rfl rfl) rfl<|Ag 12 8191 b0 rfl d0 (fun _=>Bo 1 (C0.toNat) rfl s0 rfl K0 B0) rfl ?_
 obtain ⟨J2,v2,h⟩:=bi h
 refine By (i:=13) (rk b0) (RO.acts (m' :=16383) (sk b0) rfl rfl .plain (Acts.set (α:=UInt64) (i:=C0.toNat) v2 k0 I0 (fun _=>.hd) y0 rfl rfl rfl rfl rfl (by kernel_rfl)) (fun k3 ⟨g1,q0,H0,z0⟩=>?_))
 refine AK (dk b0)<|Ac<|Ae rfl ?_
 obtain ⟨C2,Z1,h⟩:=bi h
 refine Ab (FV.remc (i:=a1) (j:=64) rfl rfl Z1)<|Ab (FV.gtr (i:=C2) (j:=0) rfl rfl)<|Aa<|AO rfl h (fun b1 h=>?_) (fun b1 h=>?_)
 refine Am<|Ae rfl<|Ae rfl<|Ae rfl ?_
 obtain ⟨D2,b2,h⟩:=bi h
 refine Ab (FV.quoc (i:=a1) (j:=64) rfl rfl b2) ?_
 obtain ⟨E2,c2,h⟩:=bi h
 refine Ab (FV.addc (i:=((c0:Nat):Int)) (j:=D2) rfl rfl c2) ?_
 obtain ⟨Q0,d2,h⟩:=bi h
 refine Ab (FV.addc (i:=E2) (j:=1) rfl rfl d2)<|Ae rfl<|Ae rfl ?_
 obtain ⟨F2,g2,h⟩:=bi h
 refine Ab (FV.remc (i:=a1) (j:=64) rfl rfl g2) ?_
 obtain ⟨G2,j2,h⟩:=bi h
 refine Ab (FV.subc (i:=64) (j:=F2) rfl rfl j2) ?_
 obtain ⟨d3,F1,h⟩:=bi h
 refine Ab (FV.shrI (a:=u0) (i:=G2) rfl rfl F1) ?_
 obtain ⟨I2,t2,h⟩:=bi h
 obtain ⟨C1,u2⟩:=idx_in t2
 obtain ⟨W0,W2,A0,M0,j1,Q1,c3⟩:=St.nth (α:=UInt64) q0 .hd z0 u2
 obtain ⟨Y0,X2,J0⟩:=St.nthOwn (α:=UInt64) q0 .hd M0
 obtain rfl:W0 = ⟨Y0,0,none⟩:=by rw [J0] at A0; cases A0; rfl
 have A1:j1 = [vU I2]:=Q1; subst A1
 refine Ab (Bo 1 (Q0.toNat) rfl A0 rfl C1 M0) ?_
 obtain ⟨K2,x2,h⟩:=bi h
 refine RG.acts' .plain (Acts.set (α:=UInt64) (i:=Q0.toNat) x2 q0 J0 (fun _=>.hd) z0 rfl rfl rfl rfl rfl (by kernel_rfl)) (fun p3 ⟨k1,p1,q1,v1⟩=>?_)
 refine Aa<|Au<|Am<|Ab (Bh (i:=c0) (j:=1) rfl rfl (by omega))<|Ae rfl<|Aa ?_
 exact E0 (c0 + 1,K2,k1) _ _ ⟨rfl,rfl,rfl,rfl,rfl,trivial⟩ ⟨p1,(Tt G0 (Tt H0 q1)),v1⟩ h
 refine Ao<|Au<|Am<|Ab (Bh (i:=c0) (j:=1) rfl rfl (by omega))<|Ae rfl<|Aa ?_
 exact E0 (c0 + 1,J2,g1) _ _ ⟨rfl,rfl,rfl,rfl,rfl,trivial⟩ ⟨q0,(Tt G0 H0),z0⟩ h
 refine AW rfl ?_
 have h:=B1 _ h
 try dsimp only at h
 refine Ac<|Ae rfl ?_
 have R1:=Bu (α:=UInt64) k0 .hd y0 hL
 have x0:=St.delS k0 .hd
 have Z2:=St.delT k0 .hd
 have U1:=Rep.at_ (α:=UInt64) (v:=(.slice (some ⟨p0,0,none⟩) s4.toNat s4.toNat)) (xs:=g0) x0 L R1
 obtain ⟨M2,y2,h⟩:=bi h
 refine Bp (fst:=[]) (cap:=[]) .plain body142 rfl (e2 rfl rfl) (fun w9 hw9=>wide_trimmed_c n _ w9 (x0.hL hL hw9) false g0 (Aw U1 hw9) y2) rfl (fun q3 j3 s1 ⟨R0,hu_,V1⟩=>?_)
 subst hu_
 obtain ⟨F0,b3⟩:=x0.agr s1
 refine Ab (FV.field1 (cs:=[.bool M2.fj,R0]) (off:=1) (m:=1) (by kernel_rfl) (by kernel_rfl) rfl rfl)<|Af rfl<|Aa<|Ak rfl<|AP hb0 Tryz.func195 rfl rfl ?_
 cases h
 exact ⟨F0.ag,fun w9 hw9=>⟨R0,rfl,F0.kd V1 hw9⟩⟩
def tb172_7:List (Nat × Nat × Nat):=[(0,16777216,16),(0,33554432,128),(0,67108864,64),(0,134217728,1),(0,268435456,128),(24,536870912,402653184),(32,1073741824,536870912),(0,2147483648,2),(128,4294967296,2147483648),(256,8589934592,4294967296),(580,17179869184,9730785280),(1024,8388608,17179869184),(2048,34359738368,8388608),(2048,68719476736,8388608),(8191,137438953472,50331648),(24575,0,171798691840),(65535,64,68719476736)]
def tb172_16:List (Nat × Nat × Nat):=[(0,36893488147419103232,16),(0,73786976294838206464,256),(2,147573952589676412928,73786976294838206464),(5,295147905179352825856,184467440737095516160),(8,590295810358705651712,295147905179352825856),(0,1180591620717411303424,256),(32,2361183241434822606848,1180591620717411303424),(64,4722366482869645213696,2361183241434822606848),(144,9444732965739290427392,5312662293228350865408),(511,18889465931478580854784,184467440737095516160),(1023,0,28334198897217871282176)]
theorem body145:bodyB Tryz.prog 145 = true:=by kernel_rfl
theorem body146:bodyB Tryz.prog 146 = true:=by kernel_rfl
theorem body193:bodyB Tryz.prog 193 = true:=by kernel_rfl
theorem body194:bodyB Tryz.prog 194 = true:=by kernel_rfl
theorem body195:bodyB Tryz.prog 195 = true:=by kernel_rfl
def wide_divided_l1 (n:Nat) (a0:List UInt64) (a1:List UInt64) (j0:UInt64 × Int × (List UInt64) → Option (UInt64 × (List UInt64))):UInt64 × Int × (List UInt64) → Option (UInt64 × (List UInt64))
  | (d0,b0,c0)=>(if 0 ≤ b0 then (idx a0 b0).bind fun p0=>(a1[0]?).bind fun q0=>(math_bits_Div64_p n d0 p0 q0).bind fun g0=>(idx c0 b0).bind fun _x169=>(put c0 ((b0.toNat:Nat):Int) g0.1).bind fun s0=>(chk (b0 - 1)).bind fun k0=>j0 (g0.2,k0,s0) else some (d0,c0))
def wide_divided_l2 (n:Nat) (a1:List UInt64) (p0:(List UInt64) × Int × (List UInt64) → Option ((List UInt64) × (List UInt64))):(List UInt64) × Int × (List UInt64) → Option ((List UInt64) × (List UInt64))
  | (c0,b0,d0)=>(if 0 ≤ b0 then (wide_moved_p n a1 b0).bind fun k0=>(wide_compared_p n c0 k0).bind fun z0=>jn (fun (v0,x0)=>(chk (b0 - 1)).bind fun s0=>p0 (v0,s0,x0)) (fun g0=>(if 0 ≤ z0 then (wide_taken_p n c0 k0).bind fun A0=>(wide_trimmed_p n false A0).bind fun B0=>(quoI b0 64).bind fun j0=>(idx d0 j0).bind fun u0=>(remI b0 64).bind fun t0=>(natOf t0).bind fun q0=>(put d0 ((j0.toNat:Nat):Int) (u0 ||| (shlU (1:UInt64) q0))).bind fun y0=>g0 (B0.fm,y0) else g0 (c0,d0))) else some (d0,c0))
def wide_divided_p (n:Nat) (a0:List UInt64) (a1:List UInt64):Option ((List UInt64) × (List UInt64)):=
  (mk ((a0.length:Nat):Int) (0:UInt64)).bind fun b0=>(if a1.length = 1 then Option.bind (loopF (wide_divided_l1 n a0 a1) n ((0:UInt64),((a0.length:Nat):Int) - 1,b0)) (fun (d0,g0)=>(wide_trimmed_p n false ([d0]:List UInt64)).bind fun p0=>some (g0,p0.fm)) else (wide_length_p n a0).bind fun q0=>(wide_length_p n a1).bind fun s0=>(chk (q0 - s0)).bind fun c0=>Option.bind (loopF (wide_divided_l2 n a1) n (a0,c0,b0)) (fun (k0,j0)=>some (k0,j0)))
theorem wide_divided_c (n:Nat) (L:List Nat) (w:World) (hL:∀ b ∈ L,b < w.heap.size) (a0:List UInt64) {v0_0:Value} (h0_0:Rep.R w L [v0_0] a0) (a1:List UInt64) {v1_0:Value} (h1_0:Rep.R w L [v1_0] a1)  {r:(List UInt64) × (List UInt64)} (h:wide_divided_p n a0 a1 = some r) :
    Calls Tryz.prog 172 #[v0_0,v1_0] w (Gives w fun w' u=>∃ v0_0 v1_0:Value,u = .tuple #[v0_0,v1_0]∧Rep.R w' L [v0_0] r.1∧Rep.R w' L [v1_0] r.2):=by
 unfold wide_divided_p at h
 have hS0:=Ay w
 refine AC Tryz.func172 rfl rfl rfl (fun _ cs0 hb0=>?_)
 refine Ac<|Af rfl<|Af rfl<|Aa<|Ac<|Ae rfl ?_
 have hl1:a0.length ≤ 281474976710656:=AQ h0_0
 refine Ab (Bb (xs:=a0) Tryz.underlying75 rfl h0_0) ?_
 obtain ⟨K0,F1,h⟩:=bi h
 refine Al .plain rfl (Does.mk (α:=UInt64) F1 hS0 el75 rfl) (fun I1 b0 t0 y5=>?_)
 have v1:=AB (cs:=(List.replicate ((a0.length:Nat):Int).toNat [vW 0]).flatten) (xs:=K0) t0 L (Cells.mk F1 rfl)
 refine Af rfl<|Aa<|Aj<|Ac<|Ae rfl ?_
 have B1:=AH h1_0 t0
 have z5:a1.length ≤ 281474976710656:=AQ B1
 refine Ab (Bb (xs:=a1) Tryz.underlying75 rfl B1)<|Ab (FV.eqlN (i:=a1.length) (j:=1) rfl rfl)<|Aa<|AO rfl h (fun d2 h=>?_) (fun d2 h=>?_)
 refine Ac<|Af rfl<|Aa<|Aj<|Ac<|Ae rfl ?_
 have z3:=AH h0_0 t0
 refine Ab (Bb (xs:=a0) Tryz.underlying75 rfl z3)<|Ab (FV.subI (i:=((a0.length:Nat):Int)) (j:=1) rfl rfl (by omega))<|Af rfl<|Aa<|Ar ?_
 obtain ⟨B5,H3,g3⟩:=bind_in2 h
 refine Be (α:=UInt64 × Int × (List UInt64) × (List Value)) (fun ⟨g0,x0,z0,B0⟩=>[(0,v0_0),(1,v1_0),(4,(.slice (some ⟨b0,0,none⟩) ((a0.length:Nat):Int).toNat ((a0.length:Nat):Int).toNat)),(6,vU g0),(7,vI x0)]) (fun ⟨g0,x0,z0,B0⟩ V0=>St w V0 [.row w.heap.size 28 (Rep.size UInt64) (.slice (some ⟨b0,0,none⟩) ((a0.length:Nat):Int).toNat ((a0.length:Nat):Int).toNat) z0.length B0]∧Tr I1 [.row w.heap.size 28 (Rep.size UInt64) (.slice (some ⟨b0,0,none⟩) ((a0.length:Nat):Int).toNat ((a0.length:Nat):Int).toNat) K0.length ((List.replicate ((a0.length:Nat):Int).toNat [vW 0]).flatten)] V0 [.row w.heap.size 28 (Rep.size UInt64) (.slice (some ⟨b0,0,none⟩) ((a0.length:Nat):Int).toNat ((a0.length:Nat):Int).toNat) z0.length B0]∧Cells V0 (bl [.row w.heap.size 28 (Rep.size UInt64) (.slice (some ⟨b0,0,none⟩) ((a0.length:Nat):Int).toNat ((a0.length:Nat):Int).toNat) z0.length B0] ++ L) B0 z0) (fun ⟨g0,x0,z0,B0⟩=>(g0,x0,z0)) ((0:UInt64),((a0.length:Nat):Int) - 1,K0,(List.replicate ((a0.length:Nat):Int).toNat [vW 0]).flatten) H3 ⟨rfl,rfl,rfl,rfl,rfl,trivial⟩ ⟨t0,AT _ _,v1⟩ ?_
 rintro j5 ⟨g0,x0,z0,B0⟩ V0 v2 ⟨C0,B2,Z0⟩ h
 unfold wide_divided_l1 at h
 try dsimp only at h
 refine Aj<|Ac<|Ae rfl<|Ab (FV.geq (i:=x0) (j:=0) rfl rfl)<|Aa<|AO rfl h (fun c2 h=>?_) (fun c2 h=>?_)
 refine Ao<|Aj<|Ar<|dt 15 tb172_7 (fun c0 d0=>?_)
 refine Ag 0 1 c0 rfl d0 (fun _=>Ai rfl) rfl<|Ag 1 3 c0 rfl d0 (fun _=>Ai rfl) rfl<|Ag 2 7 c0 rfl d0 (fun _=>Ai rfl) rfl<|Ag 3 15 c0 rfl d0 (fun _=>Ai rfl) rfl<|Ag 4 31 c0 rfl d0 (fun _=>Ai rfl) rfl ?_
 obtain ⟨J1,u4,h⟩:=bi h
 obtain ⟨k3,v4⟩:=idx_in u4
 have v3:=AH h0_0 C0
 obtain ⟨d5,q5,X2,q3,k2,P3,u3⟩:=Bk v3 v4
 have Y2:k2 = [vU J1]:=P3; subst Y2
 refine Ag 5 63 c0 rfl d0 (fun _=>Bo 1 (x0.toNat) rfl X2 rfl k3 q3) rfl<|AF 6 127 130048 c0 rfl d0 (AG rfl (u3 0 _ rfl)) rfl<|Ag 7 255 c0 rfl d0 (fun _=>Ai rfl) rfl ?_
 obtain ⟨K1,x4,h⟩:=bi h
 have y3:=AH h1_0 C0
 obtain ⟨g5,s5,Z2,s3,p2,Q3,x3⟩:=Bk y3 x4
 have b3:p2 = [vU K1]:=Q3; subst b3
 refine Ag 8 511 c0 rfl d0 (fun _=>Bo 1 0 rfl Z2 rfl rfl s3) rfl<|AF 9 1023 130048 c0 rfl d0 (AG rfl (x3 0 _ rfl)) rfl ?_
 obtain ⟨k1,E4,h⟩:=bi h
 refine RD.cq 10 2047 129024 (.tuple #[vU k1.1,vU k1.2]) c0 rfl d0 body193 rfl (e3 rfl rfl rfl) (fun w9 hw9=>math_bits_Div64_c n _ w9 (C0.hL0 hL hw9) g0 J1 K1 E4) rfl<|Ag 11 4095 c0 rfl d0 (fun _=>Ai rfl) rfl<|Ag 12 8191 c0 rfl d0 (fun _=>Ah rfl rfl) rfl<|Ag 13 16383 c0 rfl d0 (fun _=>Ah rfl rfl) rfl ?_
 obtain ⟨X4,y4,h⟩:=bi h
 obtain ⟨p3,z4⟩:=idx_in y4
 obtain ⟨W1,t5,c1,A1,q2,R3,A5⟩:=St.nth (α:=UInt64) C0 .hd Z0 z4
 obtain ⟨Y1,u5,x1⟩:=St.nthOwn (α:=UInt64) C0 .hd A1
 obtain rfl:W1 = ⟨Y1,0,none⟩:=by rw [x1] at c1; cases c1; rfl
 have c3:q2 = [vU X4]:=R3; subst c3
 refine Ag 14 32767 c0 rfl d0 (fun _=>Bo 1 (x0.toNat) rfl c1 rfl p3 A1) rfl ?_
 obtain ⟨Y4,C4,h⟩:=bi h
 refine By (i:=15) (rk c0) (RO.acts (m' :=65535) (sk c0) rfl rfl .plain (Acts.set (α:=UInt64) (i:=x0.toNat) C4 C0 x1 (fun _=>.hd) Z0 rfl rfl rfl rfl rfl (by kernel_rfl)) (fun J5 ⟨s2,y2,C2,R2⟩=>?_))
 refine By (i:=16) (rk c0) (RO.val (m' :=131071) (sk c0) rfl .plain rfl (AS rfl) ?_)
 refine AK (dk c0)<|Au<|Am<|Ae rfl ?_
 obtain ⟨Q4,k4,h⟩:=bi h
 refine Ab (FV.subc (i:=x0) (j:=1) rfl rfl k4)<|Af rfl<|Aa ?_
 exact v2 (k1.2,Q4,Y4,s2) _ _ ⟨rfl,rfl,rfl,rfl,rfl,trivial⟩ ⟨y2,(Tt B2 C2),R2⟩ h
 refine AW rfl ?_
 have h:=g3 _ h
 try dsimp only at h
 refine Ac<|Ae rfl<|Ae rfl<|Al .plain rfl (AY (α:=UInt64) (xs:=([g0]:List UInt64)) (vs:=[vU g0]) (ds' :=[vU g0]) rfl C0 el75 rfl (e1 rfl) (by kernel_rfl) rfl) (fun K5 Z1 M0 D2=>?_)
 have U2:=AB (cs:=[vU g0]) (xs:=(([g0]:List UInt64):List UInt64)) M0 L (Aq (cs:=[vU g0]) (ds:=[]) rfl (AN _ _))
 have U3:=Bu (α:=UInt64) M0 .hd U2 hL
 have W0:=St.delS M0 .hd
 have E2:=St.delT M0 .hd
 have V3:=Rep.at_ (α:=UInt64) (v:=(vS Z1 1)) (xs:=([g0]:List UInt64)) W0 L U3
 obtain ⟨b5,F4,h⟩:=bi h
 refine Bp (fst:=[]) (cap:=[]) .plain body142 rfl (e2 rfl rfl) (fun w9 hw9=>wide_trimmed_c n _ w9 (W0.hL hL hw9) false ([g0]:List UInt64) (Aw V3 hw9) F4) rfl (fun M5 F5 K2 ⟨G1,hu_,W3⟩=>?_)
 subst hu_
 obtain ⟨X0,F2⟩:=W0.agr K2
 refine Ab (FV.field1 (cs:=[.bool b5.fj,G1]) (off:=1) (m:=1) (by kernel_rfl) (by kernel_rfl) rfl rfl)<|Af rfl<|Af rfl<|Aa<|Ak rfl ?_
 have J3:=Tt D2 (Tt E2 F2)
 have A3:=AD Z0 J3
 have X3:=Bu (α:=UInt64) X0 .hd A3 hL
 have P0:=St.delS X0 .hd
 have G2:=St.delT X0 .hd
 have Y3:=Rep.at_ (α:=UInt64) (v:=(.slice (some ⟨b0,0,none⟩) ((a0.length:Nat):Int).toNat ((a0.length:Nat):Int).toNat)) (xs:=z0) P0 L X3
 refine Ap hb0 Tryz.func172 rfl (.cons (.tmp rfl) (.cons (.tmp rfl) .nil)) rfl ?_
 cases h
 have B3:=Az W3 G2
 exact ⟨P0.ag,fun w9 hw9=>⟨(.slice (some ⟨b0,0,none⟩) ((a0.length:Nat):Int).toNat ((a0.length:Nat):Int).toNat),G1,rfl,P0.kd Y3 hw9,P0.kd B3 hw9⟩⟩
 refine Ao<|Ac<|Ae rfl<|Af rfl<|Aa<|Aj<|Ac<|Ae rfl ?_
 obtain ⟨P1,G4,h⟩:=bi h
 refine Bc (vI P1) body194 rfl (e1 rfl) (fun w9 hw9=>wide_length_c n _ w9 (t0.hL0 hL hw9) a0 (t0.k0 h0_0 hw9) G4) rfl<|Ae rfl ?_
 obtain ⟨Q1,H4,h⟩:=bi h
 refine Bc (vI Q1) body194 rfl (e1 rfl) (fun w9 hw9=>wide_length_c n _ w9 (t0.hL0 hL hw9) a1 (t0.k0 h1_0 hw9) H4) rfl ?_
 obtain ⟨R4,p4,h⟩:=bi h
 refine Ab (FV.subc (i:=P1) (j:=Q1) rfl rfl p4)<|Af rfl<|Aa<|Ar ?_
 have C3:=AH h0_0 t0
 obtain ⟨C5,I3,j3⟩:=bind_in2 h
 refine Be (α:=(List UInt64) × Int × (List UInt64) × Value × (List Value)) (fun ⟨A0,q0,p0,D0,s0⟩=>[(1,v1_0),(4,(.slice (some ⟨b0,0,none⟩) ((a0.length:Nat):Int).toNat ((a0.length:Nat):Int).toNat)),(5,D0),(8,vI q0)]) (fun ⟨A0,q0,p0,D0,s0⟩ I0=>St w I0 [.row w.heap.size 28 (Rep.size UInt64) (.slice (some ⟨b0,0,none⟩) ((a0.length:Nat):Int).toNat ((a0.length:Nat):Int).toNat) p0.length s0]∧Tr I1 [.row w.heap.size 28 (Rep.size UInt64) (.slice (some ⟨b0,0,none⟩) ((a0.length:Nat):Int).toNat ((a0.length:Nat):Int).toNat) K0.length ((List.replicate ((a0.length:Nat):Int).toNat [vW 0]).flatten)] I0 [.row w.heap.size 28 (Rep.size UInt64) (.slice (some ⟨b0,0,none⟩) ((a0.length:Nat):Int).toNat ((a0.length:Nat):Int).toNat) p0.length s0]∧Rep.R I0 (bl [.row w.heap.size 28 (Rep.size UInt64) (.slice (some ⟨b0,0,none⟩) ((a0.length:Nat):Int).toNat ((a0.length:Nat):Int).toNat) p0.length s0] ++ L) [D0] A0∧Cells I0 (bl [.row w.heap.size 28 (Rep.size UInt64) (.slice (some ⟨b0,0,none⟩) ((a0.length:Nat):Int).toNat ((a0.length:Nat):Int).toNat) p0.length s0] ++ L) s0 p0) (fun ⟨A0,q0,p0,D0,s0⟩=>(A0,q0,p0)) (a0,R4,K0,v0_0,(List.replicate ((a0.length:Nat):Int).toNat [vW 0]).flatten) I3 ⟨rfl,rfl,rfl,rfl,trivial⟩ ⟨t0,AT _ _,C3,v1⟩ ?_
 rintro k5 ⟨A0,q0,p0,D0,s0⟩ I0 x2 ⟨E0,H2,D1,b1⟩ h
 unfold wide_divided_l2 at h
 try dsimp only at h
 refine Aj<|Ac<|Ae rfl<|Ab (FV.geq (i:=q0) (j:=0) rfl rfl)<|Aa<|AO rfl h (fun g2 h=>?_) (fun g2 h=>?_)
 refine Ao<|Aj<|Ar<|Ac<|Ae rfl<|Ae rfl ?_
 obtain ⟨R1,I4,h⟩:=bi h
 refine Bp (fst:=[]) (cap:=[]) .plain body195 rfl (e2 rfl rfl) (fun w9 hw9=>wide_moved_c n _ w9 (E0.hL hL hw9) a1 (E0.km h1_0 hw9) q0 I4) rfl (fun W4 G5 M2 ⟨D5,hu_,E1⟩=>?_)
 subst hu_
 obtain ⟨F0,R0⟩:=E0.agr M2
 refine Af rfl<|Aa<|Ac<|Ae rfl<|Ae rfl ?_
 obtain ⟨U1,J4,h⟩:=bi h
 have g1:=Az D1 R0
 refine Bc (vI U1) body145 rfl (e2 rfl rfl) (fun w9 hw9=>wide_compared_c n _ w9 (F0.hL0 hL hw9) A0 (F0.kd g1 hw9) R1 (F0.kd E1 hw9) J4) rfl<|Ab (FV.geq (i:=U1) (j:=0) rfl rfl)<|Aa<|MX.join (α:=(List UInt64) × (List UInt64) × Value × (List Value)) (fun ⟨H0,v0,G0,y0⟩=>[(1,v1_0),(4,(.slice (some ⟨b0,0,none⟩) ((a0.length:Nat):Int).toNat ((a0.length:Nat):Int).toNat)),(5,G0),(8,vI q0)]) (fun ⟨H0,v0,G0,y0⟩ J0=>St w J0 [.row w.heap.size 28 (Rep.size UInt64) (.slice (some ⟨b0,0,none⟩) ((a0.length:Nat):Int).toNat ((a0.length:Nat):Int).toNat) v0.length y0]∧Tr W4 [.row w.heap.size 28 (Rep.size UInt64) (.slice (some ⟨b0,0,none⟩) ((a0.length:Nat):Int).toNat ((a0.length:Nat):Int).toNat) p0.length s0] J0 [.row w.heap.size 28 (Rep.size UInt64) (.slice (some ⟨b0,0,none⟩) ((a0.length:Nat):Int).toNat ((a0.length:Nat):Int).toNat) v0.length y0]∧Rep.R J0 (bl [.row w.heap.size 28 (Rep.size UInt64) (.slice (some ⟨b0,0,none⟩) ((a0.length:Nat):Int).toNat ((a0.length:Nat):Int).toNat) v0.length y0] ++ L) [G0] H0∧Cells J0 (bl [.row w.heap.size 28 (Rep.size UInt64) (.slice (some ⟨b0,0,none⟩) ((a0.length:Nat):Int).toNat ((a0.length:Nat):Int).toNat) v0.length y0] ++ L) y0 v0) (fun ⟨H0,v0,G0,y0⟩=>(H0,v0)) h ?_ ?_
 rintro ⟨H0,v0,G0,y0⟩ J0 ⟨z2,I2,Z3,V2⟩ h
 try dsimp only at h
 refine Au<|Am<|Ae rfl ?_
 obtain ⟨U4,q4,h⟩:=bi h
 refine Ab (FV.subc (i:=q0) (j:=1) rfl rfl q4)<|Af rfl<|Aa ?_
 exact x2 (H0,U4,v0,G0,y0) _ _ ⟨rfl,rfl,rfl,rfl,trivial⟩ ⟨z2,(Tt H2 (Tt R0 I2)),Z3,V2⟩ h
 intro p5 p1 h
 try dsimp only at h
 refine AO rfl h (fun j2 h=>?_) (fun j2 h=>?_)
 refine Ac<|Ae rfl<|Ae rfl ?_
 obtain ⟨c5,K4,h⟩:=bi h
 refine Bp (fst:=[]) (cap:=[]) .plain body146 rfl (e2 rfl rfl) (fun w9 hw9=>wide_taken_c n _ w9 (F0.hL hL hw9) A0 (Aw g1 hw9) R1 (Aw E1 hw9) K4) rfl (fun P5 H5 P2 ⟨E5,hu_,b4⟩=>?_)
 subst hu_
 obtain ⟨q1,s1⟩:=F0.agr P2
 obtain ⟨V1,M4,h⟩:=bi h
 refine Bp (fst:=[]) (cap:=[]) .plain body142 rfl (e2 rfl rfl) (fun w9 hw9=>wide_trimmed_c n _ w9 (q1.hL hL hw9) false c5 (Aw b4 hw9) M4) rfl (fun Q5 I5 Q2 ⟨H1,hu_,c4⟩=>?_)
 subst hu_
 obtain ⟨Y0,t1⟩:=q1.agr Q2
 refine Ab (FV.field1 (cs:=[.bool V1.fj,H1]) (off:=1) (m:=1) (by kernel_rfl) (by kernel_rfl) rfl rfl)<|Af rfl<|Aa<|dt 10 tb172_16 (fun j0 u0=>?_)
 refine Ag 0 1 j0 rfl u0 (fun _=>Ai rfl) rfl<|Ag 1 3 j0 rfl u0 (fun _=>Ai rfl) rfl ?_
 obtain ⟨j1,s4,h⟩:=bi h
 refine Ag 2 7 j0 rfl u0 (fun _=>FV.quoc (i:=q0) (j:=64) rfl rfl s4) rfl ?_
 obtain ⟨M1,A4,h⟩:=bi h
 obtain ⟨z1,B4⟩:=idx_in A4
 have K3:=Tt R0 (Tt s1 t1)
 have C1:=AD b1 K3
 obtain ⟨X1,v5,U0,d1,t2,d4,D3⟩:=St.nth (α:=UInt64) Y0 .hd C1 B4
 obtain ⟨b2,x5,y1⟩:=St.nthOwn (α:=UInt64) Y0 .hd d1
 obtain rfl:X1 = ⟨b2,0,none⟩:=by rw [y1] at U0; cases U0; rfl
 have d3:t2 = [vU M1]:=d4; subst d3
 refine Ag 3 15 j0 rfl u0 (fun _=>Bo 1 (j1.toNat) rfl U0 rfl z1 d1) rfl<|AF 4 31 1792 j0 rfl u0 (AG rfl (D3 0 _ rfl)) rfl<|Ag 5 63 j0 rfl u0 (fun _=>Ai rfl) rfl ?_
 obtain ⟨V4,t4,h⟩:=bi h
 refine Ag 6 127 j0 rfl u0 (fun _=>FV.remc (i:=q0) (j:=64) rfl rfl t4) rfl ?_
 obtain ⟨P4,t3,h⟩:=bi h
 refine Ag 7 255 j0 rfl u0 (fun _=>FV.shlI (a:=(1:UInt64)) (i:=V4) rfl rfl t3) rfl<|Ag 8 511 j0 rfl u0 (fun _=>FV.orU (a:=M1) (b:=shlU (1:UInt64) P4) rfl rfl) rfl<|Ag 9 1023 j0 rfl u0 (fun _=>Bo 1 (j1.toNat) rfl U0 rfl z1 d1) rfl ?_
 obtain ⟨Z4,D4,h⟩:=bi h
 refine By (i:=10) (rk j0) (RO.acts (m' :=2047) (sk j0) rfl rfl .plain (Acts.set (α:=UInt64) (i:=j1.toNat) D4 Y0 y1 (fun _=>.hd) C1 rfl rfl rfl rfl rfl (by kernel_rfl)) (fun R5 ⟨u2,A2,u1,W2⟩=>?_))
 refine AK (dk j0) ?_
 have E3:=Az c4 u1
 have M3:=Tt s1 (Tt t1 u1)
 exact p1 (V1.fm,Z4,H1,u2) _ _ ⟨rfl,rfl,rfl,rfl,trivial⟩ ⟨A2,M3,E3,W2⟩ h
 refine Ao ?_
 have F3:=AD b1 R0
 exact p1 (A0,p0,D0,s0) _ _ ⟨rfl,rfl,rfl,rfl,trivial⟩ ⟨F0,AT _ _,g1,F3⟩ h
 refine AW rfl ?_
 have h:=j3 _ h
 try dsimp only at h
 refine Ac<|Ae rfl<|Ae rfl<|Af rfl<|Af rfl<|Aa<|Ak rfl ?_
 have g4:=Bu (α:=UInt64) E0 .hd b1 hL
 have Q0:=St.delS E0 .hd
 have J2:=St.delT E0 .hd
 have j4:=Rep.at_ (α:=UInt64) (v:=(.slice (some ⟨b0,0,none⟩) ((a0.length:Nat):Int).toNat ((a0.length:Nat):Int).toNat)) (xs:=p0) Q0 L g4
 refine Ap hb0 Tryz.func172 rfl (.cons (.tmp rfl) (.cons (.tmp rfl) .nil)) rfl ?_
 cases h
 have G3:=Az D1 J2
 exact ⟨Q0.ag,fun w9 hw9=>⟨(.slice (some ⟨b0,0,none⟩) ((a0.length:Nat):Int).toNat ((a0.length:Nat):Int).toNat),D0,rfl,Q0.kd j4 hw9,Q0.kd G3 hw9⟩⟩
end Go.Proofs.YtfccehcnajelgaaGreatDoor
