import Derived.Test.YtfccehcnajelgaaGreatDoorProg
import Derived.Test.YtfccehcnajelgaaGreatDoorUMr
namespace Go.Proofs.YtfccehcnajelgaaGreatDoor
open Go Go.RowKit Tryz
set_option maxRecDepth 4000
set_option maxHeartbeats 4000000
abbrev Cl := Calls Tryz.prog
theorem bd (k:Nat) (h:bC Tryz.prog k = true:=by kernel_rfl):bC Tryz.prog k = true:=h

def cU:List UInt8:=[0,1,2,2,3,3,3,3,4,4,4,4,4,4,4,4,5,5,5,5,5,5,5,5,5,5,5,5,5,5,5,5,6,6,6,6,6,6,6,6,6,6,6,6,6,6,6,6,6,6,6,6,6,6,6,6,6,6,6,6,6,6,6,6,7,7,7,7,7,7,7,7,7,7,7,7,7,7,7,7,7,7,7,7,7,7,7,7,7,7,7,7,7,7,7,7,7,7,7,7,7,7,7,7,7,7,7,7,7,7,7,7,7,7,7,7,7,7,7,7,7,7,7,7,7,7,7,7,8,8,8,8,8,8,8,8,8,8,8,8,8,8,8,8,8,8,8,8,8,8,8,8,8,8,8,8,8,8,8,8,8,8,8,8,8,8,8,8,8,8,8,8,8,8,8,8,8,8,8,8,8,8,8,8,8,8,8,8,8,8,8,8,8,8,8,8,8,8,8,8,8,8,8,8,8,8,8,8,8,8,8,8,8,8,8,8,8,8,8,8,8,8,8,8,8,8,8,8,8,8,8,8,8,8,8,8,8,8,8,8,8,8,8,8,8,8,8,8,8,8,8,8,8,8,8,8]
def tab0:List UInt8:=[0,1,56,2,57,49,28,3,61,58,42,50,38,29,17,4,62,47,59,36,45,43,51,22,53,39,33,30,24,18,12,5,63,55,48,27,60,41,37,16,46,35,44,21,52,32,23,11,54,26,40,15,34,20,31,10,25,14,19,9,13,8,7,6]
def cA_p (_n:Nat) (a0:UInt64):Option Int:=
  jn (fun (u2,i3)=>jn (fun (b0,g0)=>jn (fun (q0,s0)=>(cU[(ff q0).toNat]?).bind fun t0=>(chk (s0 + ((t0.toNat:Nat):Int))).bind fun j0=>some j0) (fun d0=>(if (256:UInt64) <= b0 then (chk (g0 + 8)).bind fun k0=>d0 (shrU b0 8,k0) else d0 (b0,g0)))) (fun c0=>(if (65536:UInt64) <= u2 then (chk (((i3:Nat):Int) + 16)).bind fun p0=>c0 (shrU u2 16,p0) else c0 (u2,((i3:Nat):Int))))) (fun J7=>(if (4294967296:UInt64) <= a0 then J7 (shrU a0 32,32) else J7 (a0,0)))
theorem cA_c (n:Nat) {L w} (_hL:hl L w) (a0:UInt64)  {r:Int} (h:cA_p n a0 = some r) :
 Cl 86 #[vU a0] w (ae w fun _ u=>u = vI r):=by
 unfold cA_p at h
 have hS0:=AC w
 refine AF func86 rfl rfl rfl fun _ cs0 hb0=>Ae<|Af rfl<|Aa<|Ai<|Ae<|Ac rfl<|Ab (FV.geqU (a:=a0) (b:=(4294967296:UInt64)) rfl rfl)<|Aa<|MX.jo (α:=UInt64 × Nat) (fun ⟨u2,i3⟩=>[(0,vU u2),(2,vI ((i3:Nat):Int))]) (fun ⟨u2,i3⟩=>[]) (fun ⟨u2,i3⟩=>(u2,i3)) hS0 h ?_ ?_
 rintro ⟨u2,i3⟩ wx3 hS4 hT5 h
 try dsimp only at h
 refine Ai<|Ae<|Ac rfl<|Ab (FV.geqU (a:=u2) (b:=(65536:UInt64)) rfl rfl)<|Aa<|MX.jo (α:=UInt64 × Int) (fun ⟨b0,d0⟩=>[(0,vU b0),(2,vI d0)]) (fun ⟨b0,d0⟩=>[]) (fun ⟨b0,d0⟩=>(b0,d0)) hS4 h ?_ ?_
 rintro ⟨b0,d0⟩ J0 j0 F0 h
 try dsimp only at h
 refine Ai<|Ae<|Ac rfl<|Ab (FV.geqU (a:=b0) (b:=(256:UInt64)) rfl rfl)<|Aa<|MX.jo (α:=UInt64 × Int) (fun ⟨c0,g0⟩=>[(0,vU c0),(2,vI g0)]) (fun ⟨c0,g0⟩=>[]) (fun ⟨c0,g0⟩=>(c0,g0)) j0 h ?_ ?_
 rintro ⟨c0,g0⟩ K0 v0 G0 h
 try dsimp only at h
 refine Ae<|Ac rfl<|Ac rfl<|Ab (FV.conv8 (a:=c0) underlying28 underlying5 rfl)<|bk h fun k0 A0 h=>Ab (FV.strIdx (k:=(ff c0).toNat) (tab:=cU) underlying9 rfl rfl rfl rfl A0) ?_
 have H0:=k0.toNat_lt
 refine Ab (FV.convN (i:=k0.toNat) underlying5 underlying3 rfl (by omega))<|bk h fun I0 x0 h=>Ab (BE (i:=g0) (j:=((k0.toNat:Nat):Int)) rfl rfl x0)<|Af rfl<|Aa<|Ak rfl<|AQ hb0 func86 rfl rfl ?_
 cases h
 exact v0.gv
 intro E0 q0 h
 try dsimp only at h
 refine AO rfl h (fun s0 h=>?_) (fun s0 h=>?_)
 refine Ae<|Ac rfl<|Ab (FV.shrU (a:=b0) (j:=8) rfl rfl)<|Af rfl<|Aa<|Am<|Ac rfl<|bk h fun B0 y0 h=>Ab (BE (i:=d0) (j:=8) rfl rfl y0)<|Af rfl<|Aa<|q0 (shrU b0 8,B0) j0 (Bw _ _) h
 refine Ap<|q0 (b0,d0) j0 (Bw _ _) h
 intro D0 p0 h
 try dsimp only at h
 refine AO rfl h (fun t0 h=>?_) (fun t0 h=>?_)
 refine Ae<|Ac rfl<|Ab (FV.shrU (a:=u2) (j:=16) rfl rfl)<|Af rfl<|Aa<|Am<|Ac rfl<|bk h fun C0 z0 h=>Ab (BE (i:=((i3:Nat):Int)) (j:=16) rfl rfl z0)<|Af rfl<|Aa<|p0 (shrU u2 16,C0) hS4 (Bw _ _) h
 refine Ap<|p0 (u2,((i3:Nat):Int)) hS4 (Bw _ _) h
 intro J7 hJ8 h
 try dsimp only at h
 refine AO rfl h (fun u0 h=>?_) (fun u0 h=>?_)
 refine Ae<|Ac rfl<|Ab (FV.shrU (a:=a0) (j:=32) rfl rfl)<|Af rfl<|Aa<|Am<|Af rfl<|Aa<|hJ8 (shrU a0 32,32) hS0 (Bw _ _) h
 refine Ap<|hJ8 (a0,0) hS0 (Bw _ _) h
structure Ta where
  ft:ByteArray
  fE:Int
  fm:UInt64
  deriving DecidableEq
instance:Rep Ta:=Rep.via (β:=ByteArray × Int × UInt64) fun x=>(x.ft,x.fE,x.fm)
def bW_l1 (_n:Nat) (a0:Ta) (c0:Int -> Option (Bool ⊕ Unit)):Int -> Option (Bool ⊕ Unit)
  | b0=>(if b0 < ((a0.ft.size:Nat):Int) then (fV a0.ft b0).bind fun g0=>(if g0.toNat < 32 then some (.inl false) else (fV a0.ft b0).bind fun j0=>(if 126 < j0.toNat then some (.inl false) else (chk (b0 + 1)).bind fun d0=>c0 d0)) else some (.inr ()))
def bW_p (n:Nat) (a0:Ta) (a1:Int):Option Bool:=
  thn (ah (bW_l1 n a0) n 0) (fun _=>(if a0.ft = ⟨#[]⟩ then some false else (if a0.ft.size <= 24 then (if 0 <= a0.fE then (if a0.fE <= 1000 then (if a0.fm = (0:UInt64) then some false else (cA_p n a0.fm).bind fun b0=>some (decide (b0 <= a1))) else some false) else some false) else some false)))
theorem bW_c (n:Nat) {L w} (hL:hl L w) (a0:Ta) {a1:Int}  {r:Bool} (h:bW_p n a0 a1 = some r) :
 Cl 42 #[.agg #[.string a0.ft,vI a0.fE,vU a0.fm],vI a1] w (ae w fun _ u=>u = .bool r):=by
 unfold bW_p at h
 refine AF func42 rfl rfl rfl fun _ cs0 hb0=>Ae<|RG.bx (AC w) rfl rfl fun V0 g0 j0 R0=>Af rfl<|Aa<|Ai<|Ae<|AT 0 rfl<|AL rfl ((j0.memA .hd) 0 _ rfl)<|Ab (Bx underlying9 rfl)<|Ac rfl<|Aa<|Au<|tn h fun U0 D0 d0=>BT (α:=Int) (fun c0=>[(1,vI a1),(2,vP g0),(8,vI ((a0.ft.size:Nat):Int)),(9,vI c0)]) (fun c0=>[.cells g0 [.string a0.ft,vI a0.fE,vU a0.fm] 65]) (fun c0=>c0) 0 D0 j0 ?_
 rintro Q0 c0 W0 z0 b0 A0 h
 unfold bW_l1 at h
 try dsimp only at h
 refine Ae<|Ab (BO (i:=c0) (j:=((a0.ft.size:Nat):Int)) rfl rfl)<|Aa<|Ai<|AO rfl h (fun p0 h=>?_) (fun p0 h=>?_)
 refine Ap<|Ai<|Au<|Ae<|Ac rfl<|Af rfl<|Aa<|Ae<|AT 0 rfl<|AL rfl ((b0.memA .hd) 0 _ rfl)<|Ac rfl<|bk h fun M0 I0 h=>?_
 obtain ⟨B0,F0⟩:=bX I0
 refine Ab (FV.strAt (k:=c0.toNat) underlying9 rfl rfl B0 F0)<|Ab (Bj (i:=M0.toNat) (j:=32) rfl rfl)<|Ac rfl<|Bv (s:=17) rfl h (fun q0 h=>?_) (fun q0 h=>?_)
 refine Al<|Al<|Al<|Al<|Al<|Bl rfl rfl<|Aa<|AZ rfl<|Ae<|Af rfl<|Aa ?_
 have h:=ap h d0
 refine Ak rfl<|AQ hb0 func42 rfl rfl ?_
 cases h
 exact b0.gv
 refine RG.fg 0 rfl<|Az (AN rfl ((b0.memA .hd) 0 _ rfl))<|Az (Ah rfl)<|bk h fun P0 J0 h=>?_
 obtain ⟨C0,G0⟩:=bX J0
 refine Az (FV.strAt (k:=c0.toNat) underlying9 rfl rfl C0 G0)<|Az (FV.gtrN (i:=P0.toNat) (j:=126) rfl rfl)<|Bn rfl rfl<|Aa<|AO rfl h (fun s0 h=>?_) (fun s0 h=>?_)
 refine Ae<|Af rfl<|Aa ?_
 have h:=ap h d0
 refine Ak rfl<|AQ hb0 func42 rfl rfl ?_
 cases h
 exact b0.gv
 refine Ap<|Aw<|Am<|bk h fun K0 E0 h=>Ab (BE (i:=c0) (j:=1) rfl rfl E0)<|Ac rfl<|Aa<|z0 K0 b0 A0 h
 refine AV rfl ?_
 have h:=aA h d0
 try dsimp only at h
 refine Ai<|Am<|AT 0 rfl<|AL rfl ((b0.memA .hd) 0 _ rfl)<|Ab (FV.neqS rfl rfl)<|Ac rfl<|RG.ifn (s:=28) rfl h (fun t0 h=>?_) (fun t0 h=>?_)
 refine Al<|Al<|Al<|Al<|Bn rfl rfl<|Ac rfl<|Al<|Al<|Al<|Bn rfl rfl<|Ac rfl<|Al<|Al<|Al<|Bn rfl rfl<|Ac rfl<|Al<|Al<|Al<|Bn rfl rfl<|Ac rfl<|Al<|Al<|Al<|Al<|Al<|Bn rfl rfl<|Af rfl<|Aa<|Ak rfl<|AQ hb0 func42 rfl rfl ?_
 cases h
 exact b0.gv
 refine RG.fg 0 rfl<|Az (AN rfl ((b0.memA .hd) 0 _ rfl))<|Az (Bx underlying9 rfl)<|Az (FV.leqN (i:=a0.ft.size) (j:=24) rfl rfl)<|Bl rfl rfl<|Ac rfl<|Bv (s:=34) rfl h (fun u0 h=>?_) (fun u0 h=>?_)
 refine RG.fg 1 rfl<|Az (AN rfl ((b0.memA .hd) 1 _ rfl))<|Az (FV.geq (i:=a0.fE) (j:=0) rfl rfl)<|Bl rfl rfl<|Ac rfl<|Bv (s:=39) rfl h (fun v0 h=>?_) (fun v0 h=>?_)
 refine RG.fg 1 rfl<|Az (AN rfl ((b0.memA .hd) 1 _ rfl))<|Az (FV.leq (i:=a0.fE) (j:=1000) rfl rfl)<|Bl rfl rfl<|Ac rfl<|Bv (s:=44) rfl h (fun x0 h=>?_) (fun x0 h=>?_)
 refine RG.fg 2 rfl<|Az (AN rfl ((b0.memA .hd) 2 _ rfl))<|Az (FV.neqU (a:=a0.fm) (b:=(0:UInt64)) rfl rfl)<|Bl rfl rfl<|Ac rfl<|RG.ifn (s:=49) rfl h (fun y0 h=>?_) (fun y0 h=>?_)
 refine Al<|Al<|Al<|Al<|Al<|Bn rfl rfl<|Af rfl<|Aa<|Ak rfl<|AQ hb0 func42 rfl rfl ?_
 cases h
 exact b0.gv
 refine RG.fg 2 rfl<|Az (AN rfl ((b0.memA .hd) 2 _ rfl))<|bk h fun k0 H0 h=>RG.callq' (v:=vI k0) (fst:=[]) (cap:=[]) (.yes rfl rfl) (bd 86) rfl (e1 rfl) (fun w9 hw9=>cA_c n (b0.hL0 hL hw9) a0.fm H0) rfl<|Az (Ah rfl)<|Az (FV.leq (i:=k0) (j:=a1) rfl rfl)<|Bl rfl rfl<|Af rfl<|Aa<|Ak rfl<|AQ hb0 func42 rfl rfl ?_
 cases h
 exact b0.gv
 refine Al<|Al<|Al<|Bn rfl rfl<|Ac rfl<|Al<|Al<|Al<|Al<|Al<|Bn rfl rfl<|Af rfl<|Aa<|Ak rfl<|AQ hb0 func42 rfl rfl ?_
 cases h
 exact b0.gv
 refine Al<|Al<|Al<|Bn rfl rfl<|Ac rfl<|Al<|Al<|Al<|Bn rfl rfl<|Ac rfl<|Al<|Al<|Al<|Al<|Al<|Bn rfl rfl<|Af rfl<|Aa<|Ak rfl<|AQ hb0 func42 rfl rfl ?_
 cases h
 exact b0.gv
 refine Al<|Al<|Al<|Bn rfl rfl<|Ac rfl<|Al<|Al<|Al<|Bn rfl rfl<|Ac rfl<|Al<|Al<|Al<|Bn rfl rfl<|Ac rfl<|Al<|Al<|Al<|Al<|Al<|Bn rfl rfl<|Af rfl<|Aa<|Ak rfl<|AQ hb0 func42 rfl rfl ?_
 cases h
 exact b0.gv
theorem bw {w:World} {L:List Nat} {cs:List Value} {x:Ta} (h:Rep.R w L cs x):cs = [.string x.ft,vI x.fE,vU x.fm]:=by
  obtain ⟨c0,r0,rfl,h0,h⟩:=h
  have e0:c0 = [.string x.ft]:=h0; subst e0
  obtain ⟨c1,r1,rfl,h1,h⟩:=h
  have e1:c1 = [vI x.fE]:=h1; subst e1
  have e2:r1 = [vU x.fm]:=h; subst e2
  rfl
theorem eD {w:World} {L:List Nat} (a0:ByteArray) (a1:Int) (a2:UInt64):Rep.R w L [.string a0,vI a1,vU a2] (⟨a0,a1,a2⟩:Ta):=⟨[.string a0],[vI a1,vU a2],rfl,rfl,⟨[vI a1],[vU a2],rfl,rfl,rfl⟩⟩
def a9_l1 (n:Nat) (a1:List Ta) (a0:Int) (g0:Nat × (List (ByteArray × Bool)) -> Option (Int ⊕ Unit)):Nat × (List (ByteArray × Bool)) -> Option (Int ⊕ Unit)
  | (b0,d0)=>(if b0 < a1.length then (a1[b0]?).bind fun c0=>(if aB d0 c0.ft false = true then some (.inl (270:Int)) else (bW_p n c0 a0).bind fun j0=>(if j0 = true then g0 (b0 + 1,bh d0 c0.ft true) else some (.inl (270:Int)))) else some (.inr ()))
def a9_p (n:Nat) (a0:Int) (a1:List Ta):Option Int:=
  (if a0 < 1 then some (2:Int) else (if 64 < a0 then some (2:Int) else (if 20 < a1.length then some (3:Int) else thn (ah (a9_l1 n a1 a0) n (0,([]:List (ByteArray × Bool)))) (fun _=>some (0:Int)))))
theorem a9_c (n:Nat) {L w} (hL:hl L w) {a0:Int} {a1:List Ta} {v1_0:Value} (h1_0:Rep.R w L [v1_0] a1)  {r:Int} (h:a9_p n a0 a1 = some r) :
 Cl 13 #[vI a0,v1_0] w (ae w fun _ u=>u = vI r):=by
 unfold a9_p at h
 have hS0:=AC w
 refine AF func13 rfl rfl rfl fun _ cs0 hb0=>Ae<|Af rfl<|Aa<|Ai<|Au<|Ae<|Ac rfl<|Ab (BO (i:=a0) (j:=1) rfl rfl)<|Ac rfl<|Bv (s:=11) rfl h (fun c1 h=>?_) (fun c1 h=>?_)
 refine Al<|Al<|Bl rfl rfl<|Af rfl<|Aa<|AZ rfl<|Ae<|Af rfl<|Aa<|Ak rfl<|AQ hb0 func13 rfl rfl ?_
 cases h
 exact hS0.gv
 refine Az (Ah rfl)<|Az (FV.gtr (i:=a0) (j:=64) rfl rfl)<|Bn rfl rfl<|Af rfl<|Aa<|AO rfl h (fun c2 h=>?_) (fun c2 h=>?_)
 refine Ae<|Af rfl<|Aa<|Ak rfl<|AQ hb0 func13 rfl rfl ?_
 cases h
 exact hS0.gv
 refine Ae<|Ac rfl ?_
 have hl3:a1.length <= 281474976710656:=AS h1_0
 refine Ab (AW (xs:=a1) underlying30 rfl h1_0)<|Ab (FV.gtrN (i:=a1.length) (j:=20) rfl rfl)<|Af rfl<|Aa<|AO rfl h (fun c4 h=>?_) (fun c4 h=>?_)
 refine Ae<|Af rfl<|Aa<|Ak rfl<|AQ hb0 func13 rfl rfl ?_
 cases h
 exact hS0.gv
 refine Ap<|Aw<|Ae<|Ao .plain rfl (Does.makeMap (κ:=ByteArray) (ν:=Bool) hS0) fun b1 p0 q0 X0=>Af rfl<|Aa<|Ai<|Ae<|Ac rfl<|Ab (AW (xs:=a1) underlying30 rfl (AM h1_0 q0))<|Ac rfl<|Aa<|Au<|tn h fun Y0 I0 k0=>BT (α:=Nat × (List (ByteArray × Bool))) (fun ⟨b0,g0⟩=>[(0,vI a0),(5,.map (some p0)),(20,v1_0),(21,vI ((a1.length:Nat):Int)),(22,vI ((b0:Nat):Int))]) (fun ⟨b0,g0⟩=>[.obj p0 (cr (g0:List (ByteArray × Bool)))]) (fun ⟨b0,g0⟩=>(b0,g0)) (0,([]:List (ByteArray × Bool))) I0 q0 ?_
 rintro R0 ⟨b0,g0⟩ k1 v0 j0 D0 h
 unfold a9_l1 at h
 try dsimp only at h
 refine Ae<|Ab (Bj (i:=b0) (j:=a1.length) rfl rfl)<|Aa<|Ai<|AO rfl h (fun u0 h=>?_) (fun u0 h=>?_)
 refine Ap<|Ai<|Au<|Ae<|bk h fun d0 K0 h=>?_
 obtain ⟨Q0,V0,F0,G0,W0,J0,H0⟩:=Bg (AM h1_0 j0) K0
 obtain rfl:=bw J0
 refine Ab (Bi 3 b0 rfl F0 rfl rfl G0)<|Ab (AK rfl H0)<|RG.nl [.string ⟨#[]⟩,vI 0,vW 0] j0 fun g1 U0 z0 E0=>AX [.string d0.ft,vI d0.fE,vU d0.fm] z0 .hd (aq rfl) fun j1 c0 A0=>Aa<|Ai<|Ae<|Ac rfl<|AT 0 rfl<|AL rfl ((c0.memA .hd) 0 _ rfl)<|Ab (FV.lookup (kv:=d0.ft) (z:=false) c0 .t1 underlying104 underlying9 rfl rfl rfl rfl)<|Ac rfl<|RG.ifb (s:=30) rfl h (fun s0 h=>?_) (fun s0 h=>?_)
 refine Al<|Al<|Al<|Al<|Bl rfl rfl<|Aa<|AZ rfl<|Ae<|Af rfl<|Aa ?_
 have h:=ap h k0
 refine Ak rfl<|AQ hb0 func13 rfl rfl ?_
 cases h
 exact c0.gv
 refine Az (AK rfl (c0.memA .hd))<|Az (Ah rfl)<|bk h fun P0 M0 h=>RG.callq' (v:=.bool P0) (fst:=[]) (cap:=[]) (.yes rfl rfl) (bd 42) rfl (e2 rfl rfl) (fun w9 hw9=>bW_c n (c0.hL0 hL hw9) d0 M0) rfl<|Az (Bp rfl)<|Bn rfl rfl<|Aa<|BU rfl h (fun t0 h=>?_) (fun t0 h=>?_)
 refine Ap<|Am<|Ac rfl<|AT 0 rfl<|AL rfl ((c0.memA .hd) 0 _ rfl)<|RG.now .plain (Acts.mapUpdate (kv:=d0.ft) (vv:=true) c0 .t1 underlying104 underlying9 rfl rfl rfl rfl) fun Z0 x0 B0=>Aa<|Aw<|Am<|Ab (Bf (i:=b0) (j:=1) rfl rfl (by omega))<|Ac rfl<|Aa ?_
 obtain ⟨y0,C0⟩:=AH x0 .d1
 exact v0 (b0 + 1,bh g0 d0.ft true) y0 (Tt D0 (Tt E0 (Tt A0 (Tt B0 C0)))) h
 refine Ae<|Af rfl<|Aa ?_
 have h:=ap h k0
 refine Ak rfl<|AQ hb0 func13 rfl rfl ?_
 cases h
 exact c0.gv
 refine AV rfl ?_
 have h:=aA h k0
 try dsimp only at h
 refine Ae<|Af rfl<|Aa<|Ak rfl<|AQ hb0 func13 rfl rfl ?_
 cases h
 exact j0.gv
def ak (x:U8):List Value:=[vU x.1,vU x.2.1,vU x.2.2.1,vU x.2.2.2.1,vU x.2.2.2.2.1,vU x.2.2.2.2.2.1,vU x.2.2.2.2.2.2.1,vU x.2.2.2.2.2.2.2]
def bS_p (_n:Nat) (a0:U8) (a1:U8):Option ((U8) × UInt64):=
  (sub64 a0.1 a1.1 (0:UInt64)).bind fun b0=>(sub64 a0.2.1 a1.2.1 b0.2).bind fun c0=>(sub64 a0.2.2.1 a1.2.2.1 c0.2).bind fun d0=>(sub64 a0.2.2.2.1 a1.2.2.2.1 d0.2).bind fun g0=>(sub64 a0.2.2.2.2.1 a1.2.2.2.2.1 g0.2).bind fun j0=>(sub64 a0.2.2.2.2.2.1 a1.2.2.2.2.2.1 j0.2).bind fun k0=>(sub64 a0.2.2.2.2.2.2.1 a1.2.2.2.2.2.2.1 k0.2).bind fun p0=>(sub64 a0.2.2.2.2.2.2.2 a1.2.2.2.2.2.2.2 p0.2).bind fun q0=>some ((b0.1,c0.1,d0.1,g0.1,j0.1,k0.1,p0.1,q0.1),q0.2)
theorem bS_c (n:Nat) {L w} (_hL:hl L w) (a0:U8) (a1:U8)  {r:(U8) × UInt64} (h:bS_p n a0 a1 = some r) :
 Cl 188 #[.agg ((ak a0)).toArray,.agg ((ak a1)).toArray] w (ae w fun _ u=>u = .tuple #[.agg ((ak r.1)).toArray,vU r.2]):=by
 unfold bS_p at h
 refine AF func188 rfl rfl rfl fun _ cs0 hb0=>Ae<|RG.bx (AC w) rfl rfl fun J1 s1 Y0 x1=>RG.bx Y0 rfl rfl fun K1 u1 Z0 y1=>RG.nl zP Z0 fun M1 v1 J0 z1=>Af rfl<|Aa<|Ae<|Af rfl<|Aa<|Ai<|Ae<|Ac rfl<|Aa<|Au<|MX.loop1<|Ae<|Ab (Bj (i:=0) (j:=8) rfl rfl)<|Aa<|Ai<|AZ rfl<|Ap<|Ai<|Au<|Ae<|Ac rfl<|Af rfl<|Aa<|du 13 fun d0 v0=>Rv 0 d0 rfl v0 (fun _=>Ah rfl)<|Rv 1 d0 rfl v0 (fun _=>Ah rfl)<|Rv 2 d0 rfl v0 (fun _=>Bd (m:=1) (k:=0) (len:=8) rfl rfl rfl rfl (by omega))<|Rx 3 32512 d0 rfl v0 (AN rfl ((J0.memA .t2) 0 _ rfl))<|Rv 4 d0 rfl v0 (fun _=>Ah rfl)<|Rv 5 d0 rfl v0 (fun _=>Bd (m:=1) (k:=0) (len:=8) rfl rfl rfl rfl (by omega))<|Rx 6 32512 d0 rfl v0 (AN rfl ((J0.memA .t1) 0 _ rfl))<|Rv 7 d0 rfl v0 (fun _=>Ah rfl)<|bk h fun b0 b1 h=>Rv 8 d0 rfl v0 (fun _=>FV.sub64 (a:=a0.1) (b:=a1.1) (c:=(0:UInt64)) func174 rfl rfl rfl rfl rfl rfl rfl b1)<|Rv 9 d0 rfl v0 (fun _=>Ah rfl)<|Rv 10 d0 rfl v0 (fun _=>Aj rfl rfl) ?_
 refine Rv 11 d0 rfl v0 (fun _=>Aj rfl rfl)<|Rv 12 d0 rfl v0 (fun _=>Bd (m:=1) (k:=0) (len:=8) rfl rfl rfl rfl (by omega))<|BB 13 16383 d0 rfl rfl .plain (BM (j:=0) (old:=(ak a0)) (news:=[vU b0.1]) (new' :=[vU b0.1,vU a0.2.1,vU a0.2.2.1,vU a0.2.2.2.1,vU a0.2.2.2.2.1,vU a0.2.2.2.2.2.1,vU a0.2.2.2.2.2.2.1,vU a0.2.2.2.2.2.2.2]) J0 .t2 rfl rfl rfl rfl rfl rfl (o1 rfl) rfl) fun P1 K0 A1=>Rv 14 d0 rfl v0 (fun _=>Bm rfl)<|AR (dk d0)<|Aw<|Am<|Ab (FV.add (i:=0) (j:=1) (r:=1) rfl rfl (by decide))<|Ac rfl<|Aa<|MX.again1<|Ae<|Ab (Bj (i:=1) (j:=8) rfl rfl)<|Aa<|Ai<|AZ rfl<|Ap<|Ai<|Au<|Ae<|Ac rfl<|Af rfl<|Aa<|du 13 fun g0 x0=>Rv 0 g0 rfl x0 (fun _=>Ah rfl)<|Rv 1 g0 rfl x0 (fun _=>Ah rfl)<|Rv 2 g0 rfl x0 (fun _=>Bd (m:=1) (k:=1) (len:=8) rfl rfl rfl rfl (by omega))<|Rx 3 32512 g0 rfl x0 (AN rfl ((K0.memA .t2) 1 _ rfl))<|Rv 4 g0 rfl x0 (fun _=>Ah rfl)<|Rv 5 g0 rfl x0 (fun _=>Bd (m:=1) (k:=1) (len:=8) rfl rfl rfl rfl (by omega))<|Rx 6 32512 g0 rfl x0 (AN rfl ((K0.memA .t1) 1 _ rfl))<|Rv 7 g0 rfl x0 (fun _=>Ah rfl)<|bk h fun c0 c1 h=>Rv 8 g0 rfl x0 (fun _=>FV.sub64 (a:=a0.2.1) (b:=a1.2.1) (c:=b0.2) func174 rfl rfl rfl rfl rfl rfl rfl c1)<|Rv 9 g0 rfl x0 (fun _=>Ah rfl)<|Rv 10 g0 rfl x0 (fun _=>Aj rfl rfl)<|Rv 11 g0 rfl x0 (fun _=>Aj rfl rfl)<|Rv 12 g0 rfl x0 (fun _=>Bd (m:=1) (k:=1) (len:=8) rfl rfl rfl rfl (by omega))<|BB 13 16383 g0 rfl rfl .plain (BM (j:=1) (old:=[vU b0.1,vU a0.2.1,vU a0.2.2.1,vU a0.2.2.2.1,vU a0.2.2.2.2.1,vU a0.2.2.2.2.2.1,vU a0.2.2.2.2.2.2.1,vU a0.2.2.2.2.2.2.2]) (news:=[vU c0.1]) (new' :=[vU b0.1,vU c0.1,vU a0.2.2.1,vU a0.2.2.2.1,vU a0.2.2.2.2.1,vU a0.2.2.2.2.2.1,vU a0.2.2.2.2.2.2.1,vU a0.2.2.2.2.2.2.2]) K0 .t2 rfl rfl rfl rfl rfl rfl (o1 rfl) rfl) fun Q1 M0 B1=>Rv 14 g0 rfl x0 (fun _=>Bm rfl)<|AR (dk g0)<|Aw<|Am<|Ab (FV.add (i:=1) (j:=1) (r:=2) rfl rfl (by decide))<|Ac rfl<|Aa<|MX.again1<|Ae<|Ab (Bj (i:=2) (j:=8) rfl rfl)<|Aa<|Ai ?_
 refine AZ rfl<|Ap<|Ai<|Au<|Ae<|Ac rfl<|Af rfl<|Aa<|du 13 fun j0 y0=>Rv 0 j0 rfl y0 (fun _=>Ah rfl)<|Rv 1 j0 rfl y0 (fun _=>Ah rfl)<|Rv 2 j0 rfl y0 (fun _=>Bd (m:=1) (k:=2) (len:=8) rfl rfl rfl rfl (by omega))<|Rx 3 32512 j0 rfl y0 (AN rfl ((M0.memA .t2) 2 _ rfl))<|Rv 4 j0 rfl y0 (fun _=>Ah rfl)<|Rv 5 j0 rfl y0 (fun _=>Bd (m:=1) (k:=2) (len:=8) rfl rfl rfl rfl (by omega))<|Rx 6 32512 j0 rfl y0 (AN rfl ((M0.memA .t1) 2 _ rfl))<|Rv 7 j0 rfl y0 (fun _=>Ah rfl)<|bk h fun u0 d1 h=>Rv 8 j0 rfl y0 (fun _=>FV.sub64 (a:=a0.2.2.1) (b:=a1.2.2.1) (c:=c0.2) func174 rfl rfl rfl rfl rfl rfl rfl d1)<|Rv 9 j0 rfl y0 (fun _=>Ah rfl)<|Rv 10 j0 rfl y0 (fun _=>Aj rfl rfl)<|Rv 11 j0 rfl y0 (fun _=>Aj rfl rfl)<|Rv 12 j0 rfl y0 (fun _=>Bd (m:=1) (k:=2) (len:=8) rfl rfl rfl rfl (by omega))<|BB 13 16383 j0 rfl rfl .plain (BM (j:=2) (old:=[vU b0.1,vU c0.1,vU a0.2.2.1,vU a0.2.2.2.1,vU a0.2.2.2.2.1,vU a0.2.2.2.2.2.1,vU a0.2.2.2.2.2.2.1,vU a0.2.2.2.2.2.2.2]) (news:=[vU u0.1]) (new' :=[vU b0.1,vU c0.1,vU u0.1,vU a0.2.2.2.1,vU a0.2.2.2.2.1,vU a0.2.2.2.2.2.1,vU a0.2.2.2.2.2.2.1,vU a0.2.2.2.2.2.2.2]) M0 .t2 rfl rfl rfl rfl rfl rfl (o1 rfl) rfl) fun R1 P0 C1=>Rv 14 j0 rfl y0 (fun _=>Bm rfl)<|AR (dk j0)<|Aw<|Am<|Ab (FV.add (i:=2) (j:=1) (r:=3) rfl rfl (by decide))<|Ac rfl<|Aa<|MX.again1<|Ae<|Ab (Bj (i:=3) (j:=8) rfl rfl)<|Aa<|Ai<|AZ rfl<|Ap<|Ai<|Au<|Ae<|Ac rfl<|Af rfl<|Aa<|du 13 fun k0 z0=>Rv 0 k0 rfl z0 (fun _=>Ah rfl)<|Rv 1 k0 rfl z0 (fun _=>Ah rfl)<|Rv 2 k0 rfl z0 (fun _=>Bd (m:=1) (k:=3) (len:=8) rfl rfl rfl rfl (by omega))<|Rx 3 32512 k0 rfl z0 (AN rfl ((P0.memA .t2) 3 _ rfl))<|Rv 4 k0 rfl z0 (fun _=>Ah rfl)<|Rv 5 k0 rfl z0 (fun _=>Bd (m:=1) (k:=3) (len:=8) rfl rfl rfl rfl (by omega)) ?_
 refine Rx 6 32512 k0 rfl z0 (AN rfl ((P0.memA .t1) 3 _ rfl))<|Rv 7 k0 rfl z0 (fun _=>Ah rfl)<|bk h fun E0 g1 h=>Rv 8 k0 rfl z0 (fun _=>FV.sub64 (a:=a0.2.2.2.1) (b:=a1.2.2.2.1) (c:=u0.2) func174 rfl rfl rfl rfl rfl rfl rfl g1)<|Rv 9 k0 rfl z0 (fun _=>Ah rfl)<|Rv 10 k0 rfl z0 (fun _=>Aj rfl rfl)<|Rv 11 k0 rfl z0 (fun _=>Aj rfl rfl)<|Rv 12 k0 rfl z0 (fun _=>Bd (m:=1) (k:=3) (len:=8) rfl rfl rfl rfl (by omega))<|BB 13 16383 k0 rfl rfl .plain (BM (j:=3) (old:=[vU b0.1,vU c0.1,vU u0.1,vU a0.2.2.2.1,vU a0.2.2.2.2.1,vU a0.2.2.2.2.2.1,vU a0.2.2.2.2.2.2.1,vU a0.2.2.2.2.2.2.2]) (news:=[vU E0.1]) (new' :=[vU b0.1,vU c0.1,vU u0.1,vU E0.1,vU a0.2.2.2.2.1,vU a0.2.2.2.2.2.1,vU a0.2.2.2.2.2.2.1,vU a0.2.2.2.2.2.2.2]) P0 .t2 rfl rfl rfl rfl rfl rfl (o1 rfl) rfl) fun U1 Q0 D1=>Rv 14 k0 rfl z0 (fun _=>Bm rfl)<|AR (dk k0)<|Aw<|Am<|Ab (FV.add (i:=3) (j:=1) (r:=4) rfl rfl (by decide))<|Ac rfl<|Aa<|MX.again1<|Ae<|Ab (Bj (i:=4) (j:=8) rfl rfl)<|Aa<|Ai<|AZ rfl<|Ap<|Ai<|Au<|Ae<|Ac rfl<|Af rfl<|Aa<|du 13 fun p0 A0=>Rv 0 p0 rfl A0 (fun _=>Ah rfl)<|Rv 1 p0 rfl A0 (fun _=>Ah rfl)<|Rv 2 p0 rfl A0 (fun _=>Bd (m:=1) (k:=4) (len:=8) rfl rfl rfl rfl (by omega))<|Rx 3 32512 p0 rfl A0 (AN rfl ((Q0.memA .t2) 4 _ rfl))<|Rv 4 p0 rfl A0 (fun _=>Ah rfl)<|Rv 5 p0 rfl A0 (fun _=>Bd (m:=1) (k:=4) (len:=8) rfl rfl rfl rfl (by omega))<|Rx 6 32512 p0 rfl A0 (AN rfl ((Q0.memA .t1) 4 _ rfl))<|Rv 7 p0 rfl A0 (fun _=>Ah rfl)<|bk h fun F0 j1 h=>Rv 8 p0 rfl A0 (fun _=>FV.sub64 (a:=a0.2.2.2.2.1) (b:=a1.2.2.2.2.1) (c:=E0.2) func174 rfl rfl rfl rfl rfl rfl rfl j1)<|Rv 9 p0 rfl A0 (fun _=>Ah rfl)<|Rv 10 p0 rfl A0 (fun _=>Aj rfl rfl)<|Rv 11 p0 rfl A0 (fun _=>Aj rfl rfl)<|Rv 12 p0 rfl A0 (fun _=>Bd (m:=1) (k:=4) (len:=8) rfl rfl rfl rfl (by omega))<|BB 13 16383 p0 rfl rfl .plain (BM (j:=4) (old:=[vU b0.1,vU c0.1,vU u0.1,vU E0.1,vU a0.2.2.2.2.1,vU a0.2.2.2.2.2.1,vU a0.2.2.2.2.2.2.1,vU a0.2.2.2.2.2.2.2]) (news:=[vU F0.1]) (new' :=[vU b0.1,vU c0.1,vU u0.1,vU E0.1,vU F0.1,vU a0.2.2.2.2.2.1,vU a0.2.2.2.2.2.2.1,vU a0.2.2.2.2.2.2.2]) Q0 .t2 rfl rfl rfl rfl rfl rfl (o1 rfl) rfl) fun V1 R0 E1=>?_
 refine Rv 14 p0 rfl A0 (fun _=>Bm rfl)<|AR (dk p0)<|Aw<|Am<|Ab (FV.add (i:=4) (j:=1) (r:=5) rfl rfl (by decide))<|Ac rfl<|Aa<|MX.again1<|Ae<|Ab (Bj (i:=5) (j:=8) rfl rfl)<|Aa<|Ai<|AZ rfl<|Ap<|Ai<|Au<|Ae<|Ac rfl<|Af rfl<|Aa<|du 13 fun q0 B0=>Rv 0 q0 rfl B0 (fun _=>Ah rfl)<|Rv 1 q0 rfl B0 (fun _=>Ah rfl)<|Rv 2 q0 rfl B0 (fun _=>Bd (m:=1) (k:=5) (len:=8) rfl rfl rfl rfl (by omega))<|Rx 3 32512 q0 rfl B0 (AN rfl ((R0.memA .t2) 5 _ rfl))<|Rv 4 q0 rfl B0 (fun _=>Ah rfl)<|Rv 5 q0 rfl B0 (fun _=>Bd (m:=1) (k:=5) (len:=8) rfl rfl rfl rfl (by omega))<|Rx 6 32512 q0 rfl B0 (AN rfl ((R0.memA .t1) 5 _ rfl))<|Rv 7 q0 rfl B0 (fun _=>Ah rfl)<|bk h fun G0 k1 h=>Rv 8 q0 rfl B0 (fun _=>FV.sub64 (a:=a0.2.2.2.2.2.1) (b:=a1.2.2.2.2.2.1) (c:=F0.2) func174 rfl rfl rfl rfl rfl rfl rfl k1)<|Rv 9 q0 rfl B0 (fun _=>Ah rfl)<|Rv 10 q0 rfl B0 (fun _=>Aj rfl rfl)<|Rv 11 q0 rfl B0 (fun _=>Aj rfl rfl)<|Rv 12 q0 rfl B0 (fun _=>Bd (m:=1) (k:=5) (len:=8) rfl rfl rfl rfl (by omega))<|BB 13 16383 q0 rfl rfl .plain (BM (j:=5) (old:=[vU b0.1,vU c0.1,vU u0.1,vU E0.1,vU F0.1,vU a0.2.2.2.2.2.1,vU a0.2.2.2.2.2.2.1,vU a0.2.2.2.2.2.2.2]) (news:=[vU G0.1]) (new' :=[vU b0.1,vU c0.1,vU u0.1,vU E0.1,vU F0.1,vU G0.1,vU a0.2.2.2.2.2.2.1,vU a0.2.2.2.2.2.2.2]) R0 .t2 rfl rfl rfl rfl rfl rfl (o1 rfl) rfl) fun W1 U0 F1=>Rv 14 q0 rfl B0 (fun _=>Bm rfl)<|AR (dk q0)<|Aw<|Am<|Ab (FV.add (i:=5) (j:=1) (r:=6) rfl rfl (by decide))<|Ac rfl<|Aa<|MX.again1<|Ae<|Ab (Bj (i:=6) (j:=8) rfl rfl)<|Aa<|Ai<|AZ rfl<|Ap<|Ai<|Au<|Ae<|Ac rfl ?_
 refine Af rfl<|Aa<|du 13 fun s0 C0=>Rv 0 s0 rfl C0 (fun _=>Ah rfl)<|Rv 1 s0 rfl C0 (fun _=>Ah rfl)<|Rv 2 s0 rfl C0 (fun _=>Bd (m:=1) (k:=6) (len:=8) rfl rfl rfl rfl (by omega))<|Rx 3 32512 s0 rfl C0 (AN rfl ((U0.memA .t2) 6 _ rfl))<|Rv 4 s0 rfl C0 (fun _=>Ah rfl)<|Rv 5 s0 rfl C0 (fun _=>Bd (m:=1) (k:=6) (len:=8) rfl rfl rfl rfl (by omega))<|Rx 6 32512 s0 rfl C0 (AN rfl ((U0.memA .t1) 6 _ rfl))<|Rv 7 s0 rfl C0 (fun _=>Ah rfl)<|bk h fun H0 p1 h=>Rv 8 s0 rfl C0 (fun _=>FV.sub64 (a:=a0.2.2.2.2.2.2.1) (b:=a1.2.2.2.2.2.2.1) (c:=G0.2) func174 rfl rfl rfl rfl rfl rfl rfl p1)<|Rv 9 s0 rfl C0 (fun _=>Ah rfl)<|Rv 10 s0 rfl C0 (fun _=>Aj rfl rfl)<|Rv 11 s0 rfl C0 (fun _=>Aj rfl rfl)<|Rv 12 s0 rfl C0 (fun _=>Bd (m:=1) (k:=6) (len:=8) rfl rfl rfl rfl (by omega))<|BB 13 16383 s0 rfl rfl .plain (BM (j:=6) (old:=[vU b0.1,vU c0.1,vU u0.1,vU E0.1,vU F0.1,vU G0.1,vU a0.2.2.2.2.2.2.1,vU a0.2.2.2.2.2.2.2]) (news:=[vU H0.1]) (new' :=[vU b0.1,vU c0.1,vU u0.1,vU E0.1,vU F0.1,vU G0.1,vU H0.1,vU a0.2.2.2.2.2.2.2]) U0 .t2 rfl rfl rfl rfl rfl rfl (o1 rfl) rfl) fun X1 V0 G1=>Rv 14 s0 rfl C0 (fun _=>Bm rfl)<|AR (dk s0)<|Aw<|Am<|Ab (FV.add (i:=6) (j:=1) (r:=7) rfl rfl (by decide))<|Ac rfl<|Aa<|MX.again1<|Ae<|Ab (Bj (i:=7) (j:=8) rfl rfl)<|Aa<|Ai<|AZ rfl<|Ap<|Ai<|Au<|Ae<|Ac rfl<|Af rfl<|Aa<|du 13 fun t0 D0=>Rv 0 t0 rfl D0 (fun _=>Ah rfl)<|Rv 1 t0 rfl D0 (fun _=>Ah rfl)<|Rv 2 t0 rfl D0 (fun _=>Bd (m:=1) (k:=7) (len:=8) rfl rfl rfl rfl (by omega))<|Rx 3 32512 t0 rfl D0 (AN rfl ((V0.memA .t2) 7 _ rfl))<|Rv 4 t0 rfl D0 (fun _=>Ah rfl)<|Rv 5 t0 rfl D0 (fun _=>Bd (m:=1) (k:=7) (len:=8) rfl rfl rfl rfl (by omega))<|Rx 6 32512 t0 rfl D0 (AN rfl ((V0.memA .t1) 7 _ rfl))<|Rv 7 t0 rfl D0 (fun _=>Ah rfl)<|bk h fun I0 q1 h=>Rv 8 t0 rfl D0 (fun _=>FV.sub64 (a:=a0.2.2.2.2.2.2.2) (b:=a1.2.2.2.2.2.2.2) (c:=H0.2) func174 rfl rfl rfl rfl rfl rfl rfl q1)<|Rv 9 t0 rfl D0 (fun _=>Ah rfl)<|Rv 10 t0 rfl D0 (fun _=>Aj rfl rfl) ?_
 refine Rv 11 t0 rfl D0 (fun _=>Aj rfl rfl)<|Rv 12 t0 rfl D0 (fun _=>Bd (m:=1) (k:=7) (len:=8) rfl rfl rfl rfl (by omega))<|BB 13 16383 t0 rfl rfl .plain (BM (j:=7) (old:=[vU b0.1,vU c0.1,vU u0.1,vU E0.1,vU F0.1,vU G0.1,vU H0.1,vU a0.2.2.2.2.2.2.2]) (news:=[vU I0.1]) (new' :=[vU b0.1,vU c0.1,vU u0.1,vU E0.1,vU F0.1,vU G0.1,vU H0.1,vU I0.1]) V0 .t2 rfl rfl rfl rfl rfl rfl (o1 rfl) rfl) fun Y1 W0 H1=>Rv 14 t0 rfl D0 (fun _=>Bm rfl)<|AR (dk t0)<|Aw<|Am<|Ab (FV.add (i:=7) (j:=1) (r:=8) rfl rfl (by decide))<|Ac rfl<|Aa<|MX.again1<|Ae<|Ab (Bj (i:=8) (j:=8) rfl rfl)<|Aa<|Ai<|BA rfl<|AV rfl<|Ae<|Ab (AK rfl (W0.memA .t2))<|Ac rfl<|AX [vU b0.1,vU c0.1,vU u0.1,vU E0.1,vU F0.1,vU G0.1,vU H0.1,vU I0.1] W0 .hd (aq rfl) fun Z1 X0 I1=>Af rfl<|Aa<|Ak rfl<|Ar hb0 func188 rfl (.cons (.many (cs:=[vU b0.1,vU c0.1,vU u0.1,vU E0.1,vU F0.1,vU G0.1,vU H0.1,vU I0.1]) rfl rfl (X0.memA .hd)) (.cons (.tmp rfl) .nil)) rfl ?_
 cases h
 exact X0.gv
def bv_l1 (_n:Nat) (a0:U8) (a1:U8) (g0:Int -> Option (Int ⊕ Unit)):Int -> Option (Int ⊕ Unit)
  | b0=>(if 0 <= b0 then (idx ([a0.1,a0.2.1,a0.2.2.1,a0.2.2.2.1,a0.2.2.2.2.1,a0.2.2.2.2.2.1,a0.2.2.2.2.2.2.1,a0.2.2.2.2.2.2.2]:List UInt64) b0).bind fun c0=>(idx ([a1.1,a1.2.1,a1.2.2.1,a1.2.2.2.1,a1.2.2.2.2.1,a1.2.2.2.2.2.1,a1.2.2.2.2.2.2.1,a1.2.2.2.2.2.2.2]:List UInt64) b0).bind fun d0=>(if c0 = d0 then (chk (b0 - 1)).bind fun j0=>g0 j0 else (if c0 < d0 then some (.inl (-1:Int)) else some (.inl (1:Int)))) else some (.inr ()))
def bv_p (n:Nat) (a0:U8) (a1:U8):Option Int:=
  thn (ah (bv_l1 n a0 a1) n 7) (fun _=>some (0:Int))
theorem bv_c (n:Nat) {L w} (_hL:hl L w) (a0:U8) (a1:U8)  {r:Int} (h:bv_p n a0 a1 = some r) :
 Cl 192 #[.agg ((ak a0)).toArray,.agg ((ak a1)).toArray] w (ae w fun _ u=>u = vI r):=by
 unfold bv_p at h
 refine AF func192 rfl rfl rfl fun _ cs0 hb0=>Ae<|RG.bx (AC w) rfl rfl fun V0 p0 E0 Q0=>RG.bx E0 rfl rfl fun W0 q0 F0 R0=>Af rfl<|Aa<|Ai<|Ae<|Af rfl<|Aa<|Au<|tn h fun U0 H0 u0=>BT (α:=Int) (fun b0=>[(2,vP p0),(3,vP q0),(5,vI b0)]) (fun b0=>[.cells q0 (ak a1) 232,.cells p0 (ak a0) 232]) (fun b0=>b0) 7 H0 F0 ?_
 rintro P0 b0 X0 D0 c0 G0 h
 unfold bv_l1 at h
 try dsimp only at h
 refine Ai<|Ae<|Ac rfl<|Ab (FV.geq (i:=b0) (j:=0) rfl rfl)<|Aa<|AO rfl h (fun A0 h=>?_) (fun A0 h=>?_)
 refine Ap<|Ai<|Au<|Ai<|du 7 fun d0 j0=>Rv 0 d0 rfl j0 (fun _=>Ah rfl)<|bk h fun y0 J0 h=>?_
 obtain ⟨v0,s0⟩:=aG J0
 refine Rv 1 d0 rfl j0 (fun _=>Bd (m:=1) (k:=b0.toNat) (len:=8) rfl rfl rfl v0 (aU s0 rfl))<|Rx 2 64 d0 rfl j0 (AN rfl ((aK (p:=⟨p0,0,none⟩) (cs:=([a0.1,a0.2.1,a0.2.2.1,a0.2.2.2.1,a0.2.2.2.2.1,a0.2.2.2.2.2.1,a0.2.2.2.2.2.2.1,a0.2.2.2.2.2.2.2]:List UInt64).map (fun z9:UInt64=>(vU z9:Value)) ++ []) (i:=b0.toNat) (c0.memA .t1) (bG (fun z9:UInt64=>(vU z9:Value)) s0)) 0 _ rfl))<|Rv 3 d0 rfl j0 (fun _=>Ah rfl)<|bk h fun z0 K0 h=>?_
 obtain ⟨x0,t0⟩:=aG K0
 refine Rv 4 d0 rfl j0 (fun _=>Bd (m:=1) (k:=b0.toNat) (len:=8) rfl rfl rfl x0 (aU t0 rfl))<|Rx 5 64 d0 rfl j0 (AN rfl ((aK (p:=⟨q0,0,none⟩) (cs:=([a1.1,a1.2.1,a1.2.2.1,a1.2.2.2.1,a1.2.2.2.2.1,a1.2.2.2.2.2.1,a1.2.2.2.2.2.2.1,a1.2.2.2.2.2.2.2]:List UInt64).map (fun z9:UInt64=>(vU z9:Value)) ++ []) (i:=b0.toNat) (c0.memA .hd) (bG (fun z9:UInt64=>(vU z9:Value)) t0)) 0 _ rfl))<|Rv 6 d0 rfl j0 (fun _=>FV.neqU (a:=y0) (b:=z0) rfl rfl)<|AR (dk d0)<|MX.ifn rfl h (fun B0 h=>?_) (fun B0 h=>?_)
 refine Ap<|Aw<|Am<|Ac rfl<|bk h fun M0 I0 h=>Ab (FV.subc (i:=b0) (j:=1) rfl rfl I0)<|Af rfl<|Aa<|D0 M0 c0 G0 h
 refine Ai<|Ai<|du 7 fun g0 k0=>Rv 0 g0 rfl k0 (fun _=>Ah rfl)<|Rv 1 g0 rfl k0 (fun _=>Bd (m:=1) (k:=b0.toNat) (len:=8) rfl rfl rfl v0 (aU s0 rfl))<|Rx 2 64 g0 rfl k0 (AN rfl ((aK (p:=⟨p0,0,none⟩) (cs:=([a0.1,a0.2.1,a0.2.2.1,a0.2.2.2.1,a0.2.2.2.2.1,a0.2.2.2.2.2.1,a0.2.2.2.2.2.2.1,a0.2.2.2.2.2.2.2]:List UInt64).map (fun z9:UInt64=>(vU z9:Value)) ++ []) (i:=b0.toNat) (c0.memA .t1) (bG (fun z9:UInt64=>(vU z9:Value)) s0)) 0 _ rfl))<|Rv 3 g0 rfl k0 (fun _=>Ah rfl)<|Rv 4 g0 rfl k0 (fun _=>Bd (m:=1) (k:=b0.toNat) (len:=8) rfl rfl rfl x0 (aU t0 rfl))<|Rx 5 64 g0 rfl k0 (AN rfl ((aK (p:=⟨q0,0,none⟩) (cs:=([a1.1,a1.2.1,a1.2.2.1,a1.2.2.2.1,a1.2.2.2.2.1,a1.2.2.2.2.2.1,a1.2.2.2.2.2.2.1,a1.2.2.2.2.2.2.2]:List UInt64).map (fun z9:UInt64=>(vU z9:Value)) ++ []) (i:=b0.toNat) (c0.memA .hd) (bG (fun z9:UInt64=>(vU z9:Value)) t0)) 0 _ rfl))<|Rv 6 g0 rfl k0 (fun _=>FV.lssU (a:=y0) (b:=z0) rfl rfl)<|AR (dk g0)<|AO rfl h (fun C0 h=>?_) (fun C0 h=>?_)
 refine Ae<|Af rfl<|Aa ?_
 have h:=ap h u0
 refine Ak rfl<|AQ hb0 func192 rfl rfl ?_
 cases h
 exact c0.gv
 refine Ap<|Ae<|Af rfl<|Aa ?_
 have h:=ap h u0
 refine Ak rfl<|AQ hb0 func192 rfl rfl ?_
 cases h
 exact c0.gv
 refine AV rfl ?_
 have h:=aA h u0
 try dsimp only at h
 refine Ae<|Af rfl<|Aa<|Ak rfl<|AQ hb0 func192 rfl rfl ?_
 cases h
 exact c0.gv
structure Tn where
  fc:Bool
  fo:U8
  deriving DecidableEq
instance:Rep Tn:=Rep.via (β:=Bool × (U8)) fun x=>(x.fc,x.fo)
def iC (x:Tn):List Value:=[.bool x.fc,vU x.fo.1,vU x.fo.2.1,vU x.fo.2.2.1,vU x.fo.2.2.2.1,vU x.fo.2.2.2.2.1,vU x.fo.2.2.2.2.2.1,vU x.fo.2.2.2.2.2.2.1,vU x.fo.2.2.2.2.2.2.2]
def cE_p (n:Nat) (a0:Tn):Option ((U8) × Int):=
  (bv_p n a0.fo (0,0,0,0,0,0,0,9223372036854775808)).bind fun b0=>(if 0 < b0 then some ((0,0,0,0,0,0,0,0),(6:Int)) else (if b0 = 0 then (if a0.fc = true then (bS_p n (0,0,0,0,0,0,0,0) a0.fo).bind fun c0=>some (c0.1,(0:Int)) else some ((0,0,0,0,0,0,0,0),(6:Int))) else (if a0.fc = true then (bS_p n (0,0,0,0,0,0,0,0) a0.fo).bind fun d0=>some (d0.1,(0:Int)) else some (a0.fo,(0:Int)))))
theorem cE_c (n:Nat) {L w} (hL:hl L w) (a0:Tn)  {r:(U8) × Int} (h:cE_p n a0 = some r) :
 Cl 169 #[.agg ((iC a0)).toArray] w (ae w fun _ u=>u = .tuple #[.agg ((ak r.1)).toArray,vI r.2]):=by
 unfold cE_p at h
 refine AF func169 rfl rfl rfl fun _ cs0 hb0=>Ae<|RG.bx (AC w) rfl rfl fun Z0 G0 A0 J0=>RG.nl zP A0 fun b1 H0 B0 K0=>Af rfl<|Aa<|Ae<|Ab (AU (vs:=[vW 9223372036854775808]) (u:=.agg #[vW 0,vW 0,vW 0,vW 0,vW 0,vW 0,vW 0,vW 9223372036854775808]) (e1 rfl) (fun w9=>by kernel_rfl))<|RG.nl zP B0 fun c1 I0 C0 M0=>AX [vW 0,vW 0,vW 0,vW 0,vW 0,vW 0,vW 0,vW 9223372036854775808] C0 .hd (aq rfl) fun d1 b0 P0=>Aa<|Ai<|Ae<|AT 1 rfl<|Ab (Bo (cs:=(ak a0.fo)) rfl rfl (ai (b0.memA .t2) 1 8))<|Ab (AK rfl (b0.memA .hd))<|bk h fun g0 D0 h=>Bk (vI g0) (bd 192) rfl (e2 rfl rfl) (fun w9 hw9=>bv_c n (b0.hL0 hL hw9) a0.fo (0,0,0,0,0,0,0,9223372036854775808) D0) rfl<|Af rfl<|Aa<|Ae<|Ac rfl<|Ab (FV.gtr (i:=g0) (j:=0) rfl rfl)<|Ac rfl<|Bv (s:=13) rfl h (fun x0 h=>?_) (fun x0 h=>?_)
 refine Al<|Al<|Al<|RG.un<|RG.un<|RG.un<|Al<|Bl rfl rfl<|Aa<|AZ rfl<|Ae<|Ab (AU (vs:=[]) (u:=.agg zQ) am (fun w9=>by kernel_rfl))<|AX zP b0 .t1 (aq rfl) fun g1 k0 Q0=>Af rfl<|Aa<|Ak rfl<|Ar hb0 func169 rfl (.cons (.many (cs:=zP) rfl rfl (k0.memA .t1)) (.cons (.tmp rfl) .nil)) rfl ?_
 cases h
 exact k0.gv
 refine Az (Ah rfl)<|Az (FV.eql (i:=g0) (j:=0) rfl rfl)<|Az (Ah rfl)<|Bv (s:=16) rfl h (fun y0 h=>?_) (fun y0 h=>?_)
 refine RG.fg 0 rfl<|Az (AN rfl ((b0.memA .t2) 0 _ rfl))<|Az (Bp rfl)<|Az (BP rfl rfl)<|Bn rfl rfl<|Aa<|BU rfl h (fun j0 h=>?_) (fun j0 h=>?_)
 refine Ap<|Ai<|Ae<|AT 0 rfl<|AL rfl ((b0.memA .t2) 0 _ rfl)<|Aa<|MX.cond_kt rfl j0<|Am<|Ab (AU (vs:=[]) (u:=.agg zQ) am (fun w9=>by kernel_rfl))<|AT 1 rfl<|Ab (Bo (cs:=(ak a0.fo)) rfl rfl (ai (b0.memA .t2) 1 8))<|bk h fun c0 E0 h=>Bk (.tuple #[.agg ((ak c0.1)).toArray,vU c0.2]) (bd 188) rfl (e2 rfl rfl) (fun w9 hw9=>bS_c n (b0.hL0 hL hw9) (0,0,0,0,0,0,0,0) a0.fo E0) rfl<|Ac rfl<|Ab (Aj rfl rfl)<|Ab (Aj rfl rfl)<|AT 1 rfl<|RG.now .plain (BM (j:=1) (old:=(iC a0)) (news:=(ak c0.1)) (new' :=(([.bool a0.fc]:List Value) ++ ak c0.1)) b0 .t2 rfl rfl rfl rfl rfl rfl (aq rfl) rfl) fun j1 p0 R0=>Aa<|Ae<|AT 1 rfl<|Ab (Bo (cs:=(ak c0.1)) rfl rfl (ai (p0.memA .t2) 1 8))<|AX (ak c0.1) p0 .t1 (aq rfl) fun k1 q0 U0=>Af rfl<|Aa<|Ak rfl<|Ar hb0 func169 rfl (.cons (.many (cs:=(ak c0.1)) rfl rfl (q0.memA .t1)) (.cons (.tmp rfl) .nil)) rfl ?_
 cases h
 exact q0.gv
 refine Ae<|Ab (AU (vs:=[]) (u:=.agg zQ) am (fun w9=>by kernel_rfl))<|AX zP b0 .t1 (aq rfl) fun p1 s0 V0=>Af rfl<|Aa<|Ak rfl<|Ar hb0 func169 rfl (.cons (.many (cs:=zP) rfl rfl (s0.memA .t1)) (.cons (.tmp rfl) .nil)) rfl ?_
 cases h
 exact s0.gv
 refine Al<|Al<|Al<|Az (Bc rfl rfl)<|Bn rfl rfl<|Aa<|BA rfl<|Ap<|Ai<|Ae<|AT 0 rfl<|AL rfl ((b0.memA .t2) 0 _ rfl)<|Aa<|MX.ifb rfl h (fun z0 h=>?_) (fun z0 h=>?_)
 refine Am<|Ab (AU (vs:=[]) (u:=.agg zQ) am (fun w9=>by kernel_rfl))<|AT 1 rfl<|Ab (Bo (cs:=(ak a0.fo)) rfl rfl (ai (b0.memA .t2) 1 8))<|bk h fun d0 F0 h=>Bk (.tuple #[.agg ((ak d0.1)).toArray,vU d0.2]) (bd 188) rfl (e2 rfl rfl) (fun w9 hw9=>bS_c n (b0.hL0 hL hw9) (0,0,0,0,0,0,0,0) a0.fo F0) rfl<|Ac rfl<|Ab (Aj rfl rfl)<|Ab (Aj rfl rfl)<|AT 1 rfl<|RG.now .plain (BM (j:=1) (old:=(iC a0)) (news:=(ak d0.1)) (new' :=(([.bool a0.fc]:List Value) ++ ak d0.1)) b0 .t2 rfl rfl rfl rfl rfl rfl (aq rfl) rfl) fun q1 t0 W0=>Aa<|Ae<|AT 1 rfl<|Ab (Bo (cs:=(ak d0.1)) rfl rfl (ai (t0.memA .t2) 1 8))<|AX (ak d0.1) t0 .t1 (aq rfl) fun s1 u0 X0=>Af rfl<|Aa<|Ak rfl<|Ar hb0 func169 rfl (.cons (.many (cs:=(ak d0.1)) rfl rfl (u0.memA .t1)) (.cons (.tmp rfl) .nil)) rfl ?_
 cases h
 exact u0.gv
 refine Ap<|Ae<|AT 1 rfl<|Ab (Bo (cs:=(ak a0.fo)) rfl rfl (ai (b0.memA .t2) 1 8))<|AX (ak a0.fo) b0 .t1 (aq rfl) fun u1 v0 Y0=>Af rfl<|Aa<|Ak rfl<|Ar hb0 func169 rfl (.cons (.many (cs:=(ak a0.fo)) rfl rfl (v0.memA .t1)) (.cons (.tmp rfl) .nil)) rfl ?_
 cases h
 exact v0.gv
structure Tf where
  fc:Bool
  fu:List UInt64
  deriving DecidableEq
instance:Rep Tf:=Rep.via (β:=Bool × (List UInt64)) fun x=>(x.fc,x.fu)
def cp_p (n:Nat) (a0:Tf):Option ((U8) × Int):=
  (if 8 < a0.fu.length then some ((0,0,0,0,0,0,0,0),(6:Int)) else (cE_p n (⟨a0.fc,(aQ a0.fu 0 (0:UInt64),aQ a0.fu 1 (0:UInt64),aQ a0.fu 2 (0:UInt64),aQ a0.fu 3 (0:UInt64),aQ a0.fu 4 (0:UInt64),aQ a0.fu 5 (0:UInt64),aQ a0.fu 6 (0:UInt64),aQ a0.fu 7 (0:UInt64))⟩:Tn)).bind fun b0=>some (b0.1,b0.2))
theorem cp_c (n:Nat) {L w} (hL:hl L w) (a0:Tf) {v0_1:Value} (h0_1:Rep.R w L [v0_1] a0.fu)  {r:(U8) × Int} (h:cp_p n a0 = some r) :
 Cl 135 #[.agg #[.bool a0.fc,v0_1]] w (ae w fun _ u=>u = .tuple #[.agg ((ak r.1)).toArray,vI r.2]):=by
 unfold cp_p at h
 refine AF func135 rfl rfl rfl fun _ cs0 hb0=>Ae<|RG.bx (AC w) rfl rfl fun M0 A0 v0 C0=>RG.nl zP v0 fun P0 B0 c0 D0=>Af rfl<|Aa<|Ai<|Ae<|AT 1 rfl<|AL rfl ((c0.memA .t1) 1 _ rfl) ?_
 have s0:=AM h0_1 c0
 have J0:a0.fu.length <= 281474976710656:=AS s0
 refine Ab (AW (xs:=a0.fu) underlying75 rfl s0)<|Ab (FV.gtrN (i:=a0.fu.length) (j:=8) rfl rfl)<|Aa<|AO rfl h (fun u0 h=>?_) (fun u0 h=>?_)
 refine Ae<|Ab (AU (vs:=[]) (u:=.agg zQ) am (fun w9=>by kernel_rfl))<|AX zP c0 .hd (aq rfl) fun Q0 p0 E0=>Af rfl<|Aa<|Ak rfl<|Ar hb0 func135 rfl (.cons (.many (cs:=zP) rfl rfl (p0.memA .hd)) (.cons (.tmp rfl) .nil)) rfl ?_
 cases h
 exact p0.gv
 refine Ap<|Ae<|AT 0 rfl<|AL rfl ((c0.memA .t1) 0 _ rfl)<|Ab (AU (vs:=[.bool a0.fc]) (u:=.agg #[.bool a0.fc,vW 0,vW 0,vW 0,vW 0,vW 0,vW 0,vW 0,vW 0]) (e1 rfl) (fun w9=>by kernel_rfl))<|RG.nl [.bool false,vW 0,vW 0,vW 0,vW 0,vW 0,vW 0,vW 0,vW 0] c0 fun R0 t0 x0 F0=>AX [.bool a0.fc,vW 0,vW 0,vW 0,vW 0,vW 0,vW 0,vW 0,vW 0] x0 .hd (aq rfl) fun U0 j0 G0=>Aa<|Ai<|du 4 fun b0 d0=>Rv 0 b0 rfl d0 (fun _=>Be 1 rfl)<|Rx 1 16 b0 rfl d0 (FV.sliceA (len:=8) (m:=1) (p:=Addr.add ⟨t0,0,none⟩ 1) rfl rfl)<|Rv 2 b0 rfl d0 (fun _=>Be 1 rfl)<|Rx 3 16 b0 rfl d0 (AN rfl ((j0.memA .t2) 1 _ rfl))<|BS (i:=4) (rk b0) (BK (m' :=31) (sk b0) rfl rfl .plain rfl (DoesL.copyArr (fun z9:UInt64=>(vU z9:Value)) (olds:=([(0:UInt64),0,0,0,0,0,0,(0:UInt64)]:List UInt64)) (ys:=a0.fu) (pre:=[.bool a0.fc]) (post:=[]) (old:=[.bool a0.fc,vW 0,vW 0,vW 0,vW 0,vW 0,vW 0,vW 0,vW 0]) (new' :=[.bool a0.fc,vW ((aQ a0.fu 0 (0:UInt64)).toNat:Int),vW ((aQ a0.fu 1 (0:UInt64)).toNat:Int),vW ((aQ a0.fu 2 (0:UInt64)).toNat:Int),vW ((aQ a0.fu 3 (0:UInt64)).toNat:Int),vW ((aQ a0.fu 4 (0:UInt64)).toNat:Int),vW ((aQ a0.fu 5 (0:UInt64)).toNat:Int),vW ((aQ a0.fu 6 (0:UInt64)).toNat:Int),vW ((aQ a0.fu 7 (0:UInt64)).toNat:Int)]) rfl (fun _ _ _ _ h9=>h9) j0 .hd rfl rfl rfl rfl rfl rfl rfl rfl (Src.rep (AM h0_1 j0))) (fun K0 V0 ⟨y0,k0,H0⟩=>?_))
 subst y0
 refine AR (dk b0)<|Ae<|Ab (AK rfl (k0.memA .hd))<|bk h fun g0 z0 h=>Bk (.tuple #[.agg ((ak g0.1)).toArray,vI g0.2]) (bd 169) rfl (e1 rfl) (fun w9 hw9=>cE_c n (k0.hL0 hL hw9) (⟨a0.fc,(aQ a0.fu 0 (0:UInt64),aQ a0.fu 1 (0:UInt64),aQ a0.fu 2 (0:UInt64),aQ a0.fu 3 (0:UInt64),aQ a0.fu 4 (0:UInt64),aQ a0.fu 5 (0:UInt64),aQ a0.fu 6 (0:UInt64),aQ a0.fu 7 (0:UInt64))⟩:Tn) z0) rfl<|Ab (Aj rfl rfl)<|Ab (Aj rfl rfl)<|AX (ak g0.1) k0 .t1 (aq rfl) fun W0 q0 I0=>Af rfl<|Aa<|Ak rfl<|Ar hb0 func135 rfl (.cons (.many (cs:=(ak g0.1)) rfl rfl (q0.memA .t1)) (.cons (.tmp rfl) .nil)) rfl ?_
 cases h
 exact q0.gv
structure Ti where
  fG:Tf
  fy:Tf
  deriving DecidableEq
instance:Rep Ti:=Rep.via (β:=Tf × Tf) fun x=>(x.fG,x.fy)
structure Tb where
  fN:U8
  fD:U8
  deriving DecidableEq
instance:Rep Tb:=Rep.via (β:=(U8) × (U8)) fun x=>(x.fN,x.fD)
def ac (x:Tb):List Value:=[vU x.fN.1,vU x.fN.2.1,vU x.fN.2.2.1,vU x.fN.2.2.2.1,vU x.fN.2.2.2.2.1,vU x.fN.2.2.2.2.2.1,vU x.fN.2.2.2.2.2.2.1,vU x.fN.2.2.2.2.2.2.2,vU x.fD.1,vU x.fD.2.1,vU x.fD.2.2.1,vU x.fD.2.2.2.1,vU x.fD.2.2.2.2.1,vU x.fD.2.2.2.2.2.1,vU x.fD.2.2.2.2.2.2.1,vU x.fD.2.2.2.2.2.2.2]
def bX_p (n:Nat) (a0:Ti):Option (Tb × Int):=
  (cp_p n a0.fG).bind fun b0=>(cp_p n a0.fy).bind fun c0=>(if b0.2 = 0 then (if c0.2 = 0 then some ((⟨b0.1,c0.1⟩:Tb),(0:Int)) else some ((⟨(0,0,0,0,0,0,0,0),(0,0,0,0,0,0,0,0)⟩:Tb),(6:Int))) else some ((⟨(0,0,0,0,0,0,0,0),(0,0,0,0,0,0,0,0)⟩:Tb),(6:Int)))
theorem bX_c (n:Nat) {L w} (hL:hl L w) (a0:Ti) {v0_1:Value} (h0_1:Rep.R w L [v0_1] a0.fG.fu) {v0_3:Value} (h0_3:Rep.R w L [v0_3] a0.fy.fu)  {r:Tb × Int} (h:bX_p n a0 = some r) :
 Cl 98 #[.agg #[.bool a0.fG.fc,v0_1,.bool a0.fy.fc,v0_3]] w (ae w fun _ u=>u = .tuple #[.agg ((ac r.1)).toArray,vI r.2]):=by
 unfold bX_p at h
 refine AF func98 rfl rfl rfl fun _ cs0 hb0=>Ae<|RG.bx (AC w) rfl rfl fun R0 B0 v0 F0=>RG.nl zL v0 fun U0 C0 g0 G0=>Af rfl<|Aa<|Ae<|AT 0 rfl<|Ab (Bo (cs:=[.bool a0.fG.fc,v0_1]) rfl rfl (ai (g0.memA .t1) 0 2))<|bk h fun b0 z0 h=>Bk (.tuple #[.agg ((ak b0.1)).toArray,vI b0.2]) (bd 135) rfl (e1 rfl) (fun w9 hw9=>cp_c n (g0.hL0 hL hw9) a0.fG (g0.k0 h0_1 hw9) z0) rfl<|Ac rfl<|Ab (Aj rfl rfl)<|Ab (Aj rfl rfl)<|RG.nl zP g0 fun V0 D0 x0 H0=>AX (ak b0.1) x0 .hd (aq rfl) fun W0 j0 I0=>Af rfl<|Aa<|Ae<|AT 2 rfl<|Ab (Bo (cs:=[.bool a0.fy.fc,v0_3]) rfl rfl (ai (j0.memA .t2) 2 2))<|bk h fun c0 A0 h=>Bk (.tuple #[.agg ((ak c0.1)).toArray,vI c0.2]) (bd 135) rfl (e1 rfl) (fun w9 hw9=>cp_c n (j0.hL0 hL hw9) a0.fy (j0.k0 h0_3 hw9) A0) rfl<|Ac rfl<|Ab (Aj rfl rfl)<|Ab (Aj rfl rfl)<|RG.nl zP j0 fun X0 E0 y0 J0=>AX (ak c0.1) y0 .hd (aq rfl) fun Y0 d0 K0=>Af rfl<|Aa<|Ai<|Ae<|Ac rfl<|Ab (FV.neq (i:=b0.2) (j:=0) rfl rfl) ?_
 refine Ac rfl<|RG.ifn (s:=22) rfl h (fun t0 h=>?_) (fun t0 h=>?_)
 refine Az (Ah rfl)<|Az (FV.neq (i:=c0.2) (j:=0) rfl rfl)<|Bn rfl rfl<|Aa<|MX.ifn rfl h (fun u0 h=>?_) (fun u0 h=>?_)
 refine Ap<|Ae<|Ab (AK rfl (d0.memA .t1))<|Ab (AK rfl (d0.memA .hd))<|Ab (AU (vs:=[.agg ((ak b0.1)).toArray,.agg ((ak c0.1)).toArray]) (u:=.agg ((ak b0.1 ++ ak c0.1)).toArray) (e2 rfl rfl) (fun w9=>by kernel_rfl))<|AX (ak b0.1 ++ ak c0.1) d0 .t2 (aq rfl) fun Z0 p0 M0=>Af rfl<|Aa<|Ak rfl<|Ar hb0 func98 rfl (.cons (.many (cs:=(ak b0.1 ++ ak c0.1)) rfl rfl (p0.memA .t2)) (.cons (.tmp rfl) .nil)) rfl ?_
 cases h
 exact p0.gv
 refine Ae<|Ab (AU (vs:=[]) (u:=.agg zM) am (fun w9=>by kernel_rfl))<|AX zL d0 .t2 (aq rfl) fun b1 q0 P0=>Af rfl<|Aa<|Ak rfl<|Ar hb0 func98 rfl (.cons (.many (cs:=zL) rfl rfl (q0.memA .t2)) (.cons (.tmp rfl) .nil)) rfl ?_
 cases h
 exact q0.gv
 refine Al<|Al<|Bl rfl rfl<|Aa<|AZ rfl<|Ae<|Ab (AU (vs:=[]) (u:=.agg zM) am (fun w9=>by kernel_rfl))<|AX zL d0 .t2 (aq rfl) fun c1 s0 Q0=>Af rfl<|Aa<|Ak rfl<|Ar hb0 func98 rfl (.cons (.many (cs:=zL) rfl rfl (s0.memA .t2)) (.cons (.tmp rfl) .nil)) rfl ?_
 cases h
 exact s0.gv
def ax_l1 (_n:Nat) (a1:List UInt64) (c0:Int -> Option Int):Int -> Option Int
  | b0=>(if 0 < b0 then (chk (b0 - 1)).bind fun d0=>(idx a1 d0).bind fun j0=>(if j0 = (0:UInt64) then (chk (b0 - 1)).bind fun g0=>c0 g0 else some b0) else some b0)
def ax_p (n:Nat) (a0:Bool) (a1:List UInt64):Option Tf:=
  jn (fun b0=>(if a0 = true then (cut a1 0 b0).bind fun d0=>some (⟨(decide (0 < b0)),d0⟩:Tf) else (cut a1 0 b0).bind fun g0=>some (⟨false,g0⟩:Tf))) (fun c0=>Option.bind (ah (ax_l1 n a1) n ((a1.length:Nat):Int)) (c0))
theorem ax_c (n:Nat) {L w} (_hL:hl L w) {a0:Bool} {a1:List UInt64} {v1_0:Value} (h1_0:Rep.R w L [v1_0] a1)  {r:Tf} (h:ax_p n a0 a1 = some r) :
 Cl 142 #[.bool a0,v1_0] w (ae w fun w' u=>∃ v0_1:Value,u = .agg #[.bool r.fc,v0_1]/\Rep.R w' L [v0_1] r.fu):=by
 unfold ax_p at h
 refine AF func142 rfl rfl rfl fun _ cs0 hb0=>Ae<|RG.nl [.bool false,vN] (AC w) fun C1 j0 q0 z1=>Aa<|Ae<|Ac rfl ?_
 have A0:=AM h1_0 q0
 have A1:a1.length <= 281474976710656:=AS A0
 refine Ab (AW (xs:=a1) underlying75 rfl A0)<|Af rfl<|Aa<|Ai<|Au<|MX.xo (α:=Int) 0 (fun b0=>[(0,.bool a0),(1,v1_0),(4,vP j0),(5,vI b0)]) (fun b0=>[.cells j0 [.bool false,vN] 122]) (fun b0=>b0) q0 rfl h ?_ ?_
 rintro b0 F1 k0 y1 h
 try dsimp only at h
 refine Ae<|Ac rfl<|Ac rfl<|RG.ifb (s:=21) rfl h (fun C0 h=>?_) (fun C0 h=>?_)
 refine Az (Ah rfl)<|Az (FV.gtr (i:=b0) (j:=0) rfl rfl)<|Bl rfl rfl<|Ac rfl<|Ac rfl<|bk h fun H1 c1 h=>RG.valE .plain rfl (FV.cutL (α:=UInt64) c1 rfl rfl (AM h1_0 k0) rfl ⟨_,rfl⟩) fun d0 v0=>?_
 obtain ⟨k1,u1,X0,_⟩:=BI v0
 refine Ab (AU (vs:=[.bool (decide (0 < b0)),d0]) (u:=.agg #[.bool (decide (0 < b0)),d0]) (e2 rfl rfl) (fun w9=>by rw [X0]; try kernel_rfl))<|AX [.bool (decide (0 < b0)),d0] k0 .hd (o2 rfl (AY v0)) fun D1 s0 H0=>Aa<|Ak rfl<|Ar hb0 func142 rfl (.cons (.many (cs:=[.bool (decide (0 < b0)),d0]) rfl rfl (s0.memA .hd)) .nil) rfl ?_
 cases h
 exact ⟨s0.ag,fun w9 hw9=>⟨d0,rfl,s0.kd (Aq v0 H0) hw9⟩⟩
 refine Al<|Al<|Bn rfl rfl<|Ac rfl<|Ac rfl<|bk h fun I1 d1 h=>RG.valE .plain rfl (FV.cutL (α:=UInt64) d1 rfl rfl (AM h1_0 k0) rfl ⟨_,rfl⟩) fun g0 x0=>?_
 obtain ⟨p1,v1,Y0,_⟩:=BI x0
 refine Ab (AU (vs:=[.bool false,g0]) (u:=.agg #[.bool false,g0]) (e2 rfl rfl) (fun w9=>by rw [Y0]; try kernel_rfl))<|AX [.bool false,g0] k0 .hd (o2 rfl (AY x0)) fun E1 t0 I0=>Aa<|Ak rfl<|Ar hb0 func142 rfl (.cons (.many (cs:=[.bool false,g0]) rfl rfl (t0.memA .hd)) .nil) rfl ?_
 cases h
 exact ⟨t0.ag,fun w9 hw9=>⟨g0,rfl,t0.kd (Aq x0 I0) hw9⟩⟩
 intro s1 y0 h
 try dsimp only at h
 obtain ⟨B1,R0,z0⟩:=ao h
 refine BT (α:=Int) (fun c0=>[(0,.bool a0),(1,v1_0),(4,vP j0),(5,vI c0)]) (fun c0=>[.cells j0 [.bool false,vN] 122]) (fun c0=>c0) ((a1.length:Nat):Int) R0 q0 ?_
 rintro t1 c0 G1 G0 p0 u0 h
 unfold ax_l1 at h
 try dsimp only at h
 refine Ai<|Ae<|Ac rfl<|Ab (FV.gtr (i:=c0) (j:=0) rfl rfl)<|Ac rfl<|Bv (s:=10) rfl h (fun D0 h=>?_) (fun D0 h=>?_)
 refine Az (Ah rfl)<|Az (Ah rfl)<|bk h fun g1 V0 h=>Az (FV.subc (i:=c0) (j:=1) rfl rfl V0)<|bk h fun B0 Z0 h=>?_
 obtain ⟨M0,b1⟩:=aG Z0
 obtain ⟨q1,x1,J0,P0,F0,U0,Q0⟩:=Bg (AM h1_0 p0) b1
 have K0:F0 = [vU B0]:=U0; subst K0
 refine Az (Bi 1 (g1.toNat) rfl J0 rfl M0 P0)<|Az (AN rfl (Q0 0 _ rfl))<|Az (FV.eqlU (a:=B0) (b:=(0:UInt64)) rfl rfl)<|Bl rfl rfl<|Aa<|AO rfl h (fun E0 h=>?_) (fun E0 h=>?_)
 refine Ap<|Au<|Am<|Ac rfl<|bk h fun j1 W0 h=>Ab (FV.subc (i:=c0) (j:=1) rfl rfl W0)<|Af rfl<|Aa<|Aw<|G0 j1 p0 u0 h
 refine AV rfl ?_
 have h:=z0 _ h
 try dsimp only at h
 exact y0 c0 p0 u0 h
 refine Al<|Al<|Al<|Al<|Al<|Al<|Bn rfl rfl<|Aa<|BA rfl<|AV rfl ?_
 have h:=z0 _ h
 try dsimp only at h
 exact y0 c0 p0 u0 h
def ca_l1 (_n:Nat) (a0:List UInt64) (a1:List UInt64) (g0:Int -> Option (Int ⊕ Unit)):Int -> Option (Int ⊕ Unit)
  | b0=>(if 0 <= b0 then (idx a0 b0).bind fun c0=>(idx a1 b0).bind fun d0=>(if c0 < d0 then some (.inl (-1:Int)) else (if d0 < c0 then some (.inl (1:Int)) else (chk (b0 - 1)).bind fun j0=>g0 j0)) else some (.inr ()))
def ca_p (n:Nat) (a0:List UInt64) (a1:List UInt64):Option Int:=
  (if a0.length = a1.length then thn (ah (ca_l1 n a0 a1) n (((a0.length:Nat):Int) - 1)) (fun _=>some (0:Int)) else some (((a0.length:Nat):Int) - ((a1.length:Nat):Int)))
theorem ca_c (n:Nat) {L w} (_hL:hl L w) {a0:List UInt64} {v0_0:Value} (h0_0:Rep.R w L [v0_0] a0) {a1:List UInt64} {v1_0:Value} (h1_0:Rep.R w L [v1_0] a1)  {r:Int} (h:ca_p n a0 a1 = some r) :
 Cl 145 #[v0_0,v1_0] w (ae w fun _ u=>u = vI r):=by
 unfold ca_p at h
 have hS0:=AC w
 refine AF func145 rfl rfl rfl fun _ cs0 hb0=>Ae<|Af rfl<|Aa<|Ai<|Ae<|Ac rfl ?_
 have hl1:a0.length <= 281474976710656:=AS h0_0
 refine Ab (AW (xs:=a0) underlying75 rfl h0_0)<|Ac rfl ?_
 have hl2:a1.length <= 281474976710656:=AS h1_0
 refine Ab (AW (xs:=a1) underlying75 rfl h1_0)<|Ab (FV.neqN (i:=a0.length) (j:=a1.length) rfl rfl)<|Aa<|MX.ifn rfl h (fun c3 h=>?_) (fun c3 h=>?_)
 refine Ap<|Ai<|Ae<|Ac rfl<|Ab (AW (xs:=a0) underlying75 rfl h0_0)<|Ab (FV.subI (i:=((a0.length:Nat):Int)) (j:=1) rfl rfl (by omega))<|Af rfl<|Aa<|Au<|tn h fun j1 M0 p0=>BT (α:=Int) (fun d0=>[(0,v0_0),(1,v1_0),(5,vI d0)]) (fun d0=>[]) (fun d0=>d0) (((a0.length:Nat):Int) - 1) M0 hS0 ?_
 rintro c1 d0 k1 H0 k0 I0 h
 unfold ca_l1 at h
 try dsimp only at h
 refine Ai<|Ae<|Ac rfl<|Ab (FV.geq (i:=d0) (j:=0) rfl rfl)<|Aa<|AO rfl h (fun C0 h=>?_) (fun C0 h=>?_)
 refine Ap<|Ai<|Au<|Au<|Ai<|du 10 fun b0 g0=>Rv 0 b0 rfl g0 (fun _=>Ah rfl)<|Rv 1 b0 rfl g0 (fun _=>Ah rfl)<|bk h fun q0 U0 h=>?_
 obtain ⟨v0,V0⟩:=aG U0
 obtain ⟨Z0,d1,t0,y0,F0,P0,A0⟩:=Bg (AM h0_0 k0) V0
 have J0:F0 = [vU q0]:=P0; subst J0
 refine Rv 2 b0 rfl g0 (fun _=>Bi 1 (d0.toNat) rfl t0 rfl v0 y0)<|Rx 3 768 b0 rfl g0 (AN rfl (A0 0 _ rfl))<|Rv 4 b0 rfl g0 (fun _=>Ah rfl)<|Rv 5 b0 rfl g0 (fun _=>Ah rfl)<|bk h fun s0 W0 h=>?_
 obtain ⟨x0,X0⟩:=aG W0
 obtain ⟨b1,g1,u0,z0,G0,Q0,B0⟩:=Bg (AM h1_0 k0) X0
 have K0:G0 = [vU s0]:=Q0; subst K0
 refine Rv 6 b0 rfl g0 (fun _=>Bi 1 (d0.toNat) rfl u0 rfl x0 z0)<|Rx 7 768 b0 rfl g0 (AN rfl (B0 0 _ rfl))<|Rv 8 b0 rfl g0 (fun _=>FV.lssU (a:=q0) (b:=s0) rfl rfl)<|Rv 9 b0 rfl g0 (fun _=>Bm rfl)<|AR (dk b0)<|AO rfl h (fun D0 h=>?_) (fun D0 h=>?_)
 refine Ae<|Af rfl<|Aa ?_
 have h:=ap h p0
 refine Ak rfl<|AQ hb0 func145 rfl rfl ?_
 cases h
 exact k0.gv
 refine Ai<|du 10 fun c0 j0=>Rv 0 c0 rfl j0 (fun _=>Ah rfl)<|Rv 1 c0 rfl j0 (fun _=>Ah rfl)<|Rv 2 c0 rfl j0 (fun _=>Bi 1 (d0.toNat) rfl t0 rfl v0 y0)<|Rx 3 768 c0 rfl j0 (AN rfl (A0 0 _ rfl))<|Rv 4 c0 rfl j0 (fun _=>Ah rfl)<|Rv 5 c0 rfl j0 (fun _=>Ah rfl)<|Rv 6 c0 rfl j0 (fun _=>Bi 1 (d0.toNat) rfl u0 rfl x0 z0)<|Rx 7 768 c0 rfl j0 (AN rfl (B0 0 _ rfl))<|Rv 8 c0 rfl j0 (fun _=>FV.gtrU (a:=q0) (b:=s0) rfl rfl)<|Rv 9 c0 rfl j0 (fun _=>Bm rfl)<|AR (dk c0)<|AO rfl h (fun E0 h=>?_) (fun E0 h=>?_)
 refine Ae<|Af rfl<|Aa ?_
 have h:=ap h p0
 refine Ak rfl<|AQ hb0 func145 rfl rfl ?_
 cases h
 exact k0.gv
 refine Ap<|Aw<|Aw<|Am<|Ac rfl<|bk h fun Y0 R0 h=>Ab (FV.subc (i:=d0) (j:=1) rfl rfl R0)<|Af rfl<|Aa<|H0 Y0 k0 I0 h
 refine AV rfl ?_
 have h:=aA h p0
 try dsimp only at h
 refine Ae<|Af rfl<|Aa<|Ak rfl<|AQ hb0 func145 rfl rfl ?_
 cases h
 exact k0.gv
 refine Ae<|Ac rfl<|Ab (AW (xs:=a0) underlying75 rfl h0_0)<|Ac rfl<|Ab (AW (xs:=a1) underlying75 rfl h1_0)<|Ab (FV.subI (i:=((a0.length:Nat):Int)) (j:=((a1.length:Nat):Int)) rfl rfl (by omega))<|Af rfl<|Aa<|Ak rfl<|AQ hb0 func145 rfl rfl ?_
 cases h
 exact hS0.gv
theorem cT:ElT Tryz.prog 75 28 (Rep.size UInt64) 8 (vW 0) [vW 0]:=⟨underlying75,by kernel_rfl,rfl,rfl,rfl,rfl⟩
def cq_l1 (_n:Nat) (a0:List UInt64) (a1:List UInt64) (j0:UInt64 × Nat × (List UInt64) -> Option (List UInt64)):UInt64 × Nat × (List UInt64) -> Option (List UInt64)
  | (k0,b0,c0)=>(if b0 < a0.length then (a0[b0]?).bind fun q0=>jn (fun p0=>(sub64 q0 p0 k0).bind fun g0=>(c0[b0]?).bind fun _x193=>(put c0 ((b0:Nat):Int) g0.1).bind fun t0=>j0 (g0.2,b0 + 1,t0)) (fun d0=>(if b0 < a1.length then (a1[b0]?).bind fun s0=>d0 s0 else d0 (0:UInt64))) else some c0)
def cq_p (n:Nat) (a0:List UInt64) (a1:List UInt64):Option (List UInt64):=
  (mk ((a0.length:Nat):Int) (0:UInt64)).bind fun b0=>Option.bind (ah (cq_l1 n a0 a1) n (0,0,b0)) (fun c0=>some c0)
theorem cq_c (n:Nat) {L w} (hL:hl L w) {a0:List UInt64} {v0_0:Value} (h0_0:Rep.R w L [v0_0] a0) {a1:List UInt64} {v1_0:Value} (h1_0:Rep.R w L [v1_0] a1)  {r:List UInt64} (h:cq_p n a0 a1 = some r) :
 Cl 146 #[v0_0,v1_0] w (ae w fun w' u=>∃ v0_0:Value,u = v0_0/\Rep.R w' L [v0_0] r):=by
 unfold cq_p at h
 refine AF func146 rfl rfl rfl fun _ cs0 hb0=>Ae<|Af rfl<|Aa<|Ae<|Ac rfl ?_
 have hl1:a0.length <= 281474976710656:=AS h0_0
 refine Ab (AW (xs:=a0) underlying75 rfl h0_0)<|bk h fun H0 E0 h=>Ao .plain rfl (Does.mk (α:=UInt64) E0 (AC w) cT rfl) fun c2 k0 q0 W1=>Af rfl<|Aa<|Ae<|Af rfl<|Aa<|Ai<|Ae<|Ac rfl<|Ab (AW (xs:=a0) underlying75 rfl (AM h0_0 q0))<|Ac rfl<|Aa<|Au ?_
 obtain ⟨b2,v1,k1⟩:=ao h
 refine MX.lf (α:=UInt64 × Nat × (List UInt64) × (List Value)) (fun ⟨j0,b0,c0,d0⟩=>[(1,v1_0),(5,(.slice (some ⟨k0,0,none⟩) ((a0.length:Nat):Int).toNat ((a0.length:Nat):Int).toNat)),(6,vU j0),(13,v0_0),(14,vI ((a0.length:Nat):Int)),(15,vI ((b0:Nat):Int))]) (fun ⟨j0,b0,c0,d0⟩=>[rr w 28 UInt64 (.slice (some ⟨k0,0,none⟩) ((a0.length:Nat):Int).toNat ((a0.length:Nat):Int).toNat) c0.length d0]) (fun ⟨j0,b0,c0,d0⟩ F0=>Cells F0 (bl [rr w 28 UInt64 (.slice (some ⟨k0,0,none⟩) ((a0.length:Nat):Int).toNat ((a0.length:Nat):Int).toNat) c0.length d0] ++ L) d0 c0) (fun ⟨j0,b0,c0,d0⟩=>(j0,b0,c0)) (0,0,H0,(List.replicate ((a0.length:Nat):Int).toNat [vW 0]).flatten) v1 q0 (AB (cs:=(List.replicate ((a0.length:Nat):Int).toNat [vW 0]).flatten) (xs:=H0) q0 L (Cells.mk E0 rfl)) ?_
 rintro M1 ⟨j0,b0,c0,d0⟩ F0 V0 g0 X0 A0 h
 unfold cq_l1 at h
 try dsimp only at h
 refine Ae<|Ab (Bj (i:=b0) (j:=a0.length) rfl rfl)<|Aa<|Ai<|AO rfl h (fun K0 h=>?_) (fun K0 h=>?_)
 refine Ap<|Ai<|Au<|Ae<|Ac rfl<|bk h fun x0 B1 h=>?_
 obtain ⟨J1,Q1,b1,p1,P0,x1,s1⟩:=Bg (AM h0_0 g0) B1
 have c1:P0 = [vU x0]:=x1; subst c1
 refine Ab (Bi 1 b0 rfl b1 rfl rfl p1)<|AL rfl (s1 0 _ rfl)<|Af rfl<|Af rfl<|Aa<|Ae<|Af rfl<|Aa<|Ai<|Ae<|Ac rfl<|Ac rfl ?_
 have v0:=AM h1_0 g0
 have Y1:a1.length <= 281474976710656:=AS v0
 refine Ab (AW (xs:=a1) underlying75 rfl v0)<|Ab (Bj (i:=b0) (j:=a1.length) rfl rfl)<|Aa<|MX.jo (α:=UInt64) (fun p0=>[(1,v1_0),(5,(.slice (some ⟨k0,0,none⟩) ((a0.length:Nat):Int).toNat ((a0.length:Nat):Int).toNat)),(6,vU j0),(13,v0_0),(14,vI ((a0.length:Nat):Int)),(15,vI ((b0:Nat):Int)),(7,vI ((b0:Nat):Int)),(8,vU x0),(9,vU p0)]) (fun p0=>[rr w 28 UInt64 (.slice (some ⟨k0,0,none⟩) ((a0.length:Nat):Int).toNat ((a0.length:Nat):Int).toNat) c0.length d0]) (fun p0=>p0) g0 h ?_ ?_
 rintro p0 g2 s0 z0 h
 try dsimp only at h
 refine Am<|Ac rfl<|Ac rfl<|Ac rfl<|Ac rfl<|Ac rfl<|bk h fun I1 F1 h=>Ab (FV.sub64 (a:=x0) (b:=p0) (c:=j0) func174 rfl rfl rfl rfl rfl rfl rfl F1)<|Ac rfl<|Ab (Aj rfl rfl)<|Ab (Aj rfl rfl)<|bk h fun G1 C1 h=>?_
 have D0:=Ay A0 z0
 obtain ⟨I0,R1,u0,C0,Q0,y1,Z1⟩:=St.nth (α:=UInt64) s0 .hd D0 C1
 obtain ⟨J0,U1,B0⟩:=BL (α:=UInt64) s0 .hd C0
 obtain rfl:I0 = ⟨J0,0,none⟩:=by rw [B0] at u0; cases u0; rfl
 have d1:Q0 = [vU G1]:=y1; subst d1
 refine Ab (Bi 1 b0 rfl u0 rfl rfl C0)<|bk h fun H1 E1 h=>RG.acts' .plain (Acts.set (α:=UInt64) (i:=b0) E1 s0 B0 (fun _=>.hd) D0 rfl rfl rfl rfl rfl rfl) fun d2 ⟨R0,W0,Y0,Z0⟩=>Af rfl<|Aa<|Aw<|Am<|Ab (Bf (i:=b0) (j:=1) rfl rfl (by omega))<|Ac rfl<|Aa<|V0 (I1.2,b0 + 1,H1,R0) W0 (Tt X0 (Tt z0 Y0)) Z0 h
 intro P1 y0 h
 try dsimp only at h
 refine AO rfl h (fun M0 h=>?_) (fun M0 h=>?_)
 refine Am<|Ac rfl<|Ac rfl<|bk h fun G0 D1 h=>?_
 obtain ⟨K1,V1,g1,q1,U0,z1,u1⟩:=Bg v0 D1
 have j1:U0 = [vU G0]:=z1; subst j1
 refine Ab (Bi 1 b0 rfl g1 rfl rfl q1)<|AL rfl (u1 0 _ rfl)<|Af rfl<|Aa<|y0 G0 g0 (Bw _ _) h
 refine Ap<|y0 (0:UInt64) g0 (Bw _ _) h
 refine AV rfl ?_
 have h:=k1 _ h
 try dsimp only at h
 refine Ae<|Ac rfl<|Af rfl<|Aa<|Ak rfl ?_
 have t0:=Bq g0 .hd
 have X1:=Br g0 .hd
 have A1:=Bs (α:=UInt64) (v:=(.slice (some ⟨k0,0,none⟩) ((a0.length:Nat):Int).toNat ((a0.length:Nat):Int).toNat)) (xs:=c0) t0 L (Ba (α:=UInt64) g0 .hd A0 hL)
 refine AQ hb0 func146 rfl rfl ?_
 cases h
 exact ⟨t0.ag,fun w9 hw9=>⟨(.slice (some ⟨k0,0,none⟩) ((a0.length:Nat):Int).toNat ((a0.length:Nat):Int).toNat),rfl,t0.kd A1 hw9⟩⟩
def bB_p (n:Nat) (a0:UInt64):Option Int:=
  (cA_p n a0).bind fun y1=>(chk (64 - y1)).bind fun s2=>some s2
theorem bB_c (n:Nat) {L w} (hL:hl L w) (a0:UInt64)  {r:Int} (h:bB_p n a0 = some r) :
 Cl 203 #[vU a0] w (ae w fun _ u=>u = vI r):=by
 unfold bB_p at h
 have hS0:=AC w
 refine AF func203 rfl rfl rfl fun _ cs0 hb0=>Ae<|Af rfl<|Aa<|Ae<|Ac rfl<|bk h fun y1 hy1 h=>Bk (vI y1) (bd 86) rfl (e1 rfl) (fun w9 hw9=>cA_c n (hS0.hL0 hL hw9) a0 hy1) rfl<|bk h fun s2 hs2 h=>Ab (FV.subc (i:=64) (j:=y1) rfl rfl hs2)<|Af rfl<|Aa<|Ak rfl<|AQ hb0 func203 rfl rfl ?_
 cases h
 exact hS0.gv
def aW_l1 (_n:Nat) (a2:UInt64) (y8:Int) (a1:UInt64) (d0:UInt64 × UInt64 -> Option UInt64):UInt64 × UInt64 -> Option UInt64
  | (b0,c0)=>(if (4294967296:UInt64) <= b0 then (if (4294967296:UInt64) <= (c0 + (shrU (shlU a2 (ab y8).toNat) 32)) then some (b0 - (1:UInt64)) else d0 (b0 - (1:UInt64),c0 + (shrU (shlU a2 (ab y8).toNat) 32))) else (if (((4294967296:UInt64) * c0) + ((shlU a1 (ab y8).toNat) &&& (4294967295:UInt64))) < (b0 * ((shlU a2 (ab y8).toNat) &&& (4294967295:UInt64))) then (if (4294967296:UInt64) <= (c0 + (shrU (shlU a2 (ab y8).toNat) 32)) then some (b0 - (1:UInt64)) else d0 (b0 - (1:UInt64),c0 + (shrU (shlU a2 (ab y8).toNat) 32))) else some b0))
def aW_l2 (_n:Nat) (a2:UInt64) (y8:Int) (a1:UInt64) (d0:UInt64 × UInt64 -> Option UInt64):UInt64 × UInt64 -> Option UInt64
  | (b0,c0)=>(if (4294967296:UInt64) <= b0 then (if (4294967296:UInt64) <= (c0 + (shrU (shlU a2 (ab y8).toNat) 32)) then some (b0 - (1:UInt64)) else d0 (b0 - (1:UInt64),c0 + (shrU (shlU a2 (ab y8).toNat) 32))) else (if (((4294967296:UInt64) * c0) + (shrU (shlU a1 (ab y8).toNat) 32)) < (b0 * ((shlU a2 (ab y8).toNat) &&& (4294967295:UInt64))) then (if (4294967296:UInt64) <= (c0 + (shrU (shlU a2 (ab y8).toNat) 32)) then some (b0 - (1:UInt64)) else d0 (b0 - (1:UInt64),c0 + (shrU (shlU a2 (ab y8).toNat) 32))) else some b0))
def aW_p (n:Nat) (a0:UInt64) (a1:UInt64) (a2:UInt64):Option (UInt64 × UInt64):=
  (if a2 = (0:UInt64) then none else (if a2 <= a0 then none else (if a0 = (0:UInt64) then (jz a1 a2).bind fun s6=>(jX a1 a2).bind fun s7=>some (s6,s7) else (bB_p n a2).bind fun y8=>(jz ((shlU a0 (ab y8).toNat) ||| (shrU a1 ((64:UInt64) - (ab y8)).toNat)) (shrU (shlU a2 (ab y8).toNat) 32)).bind fun s9=>(some (((shlU a0 (ab y8).toNat) ||| (shrU a1 ((64:UInt64) - (ab y8)).toNat)) - (s9 * (shrU (shlU a2 (ab y8).toNat) 32)))).bind fun p0=>jn (fun b0=>(some (((shlU a0 (ab y8).toNat) ||| (shrU a1 ((64:UInt64) - (ab y8)).toNat)) * (4294967296:UInt64))).bind fun c0=>(jz ((c0 + (shrU (shlU a1 (ab y8).toNat) 32)) - (b0 * (shlU a2 (ab y8).toNat))) (shrU (shlU a2 (ab y8).toNat) 32)).bind fun d0=>(some (((c0 + (shrU (shlU a1 (ab y8).toNat) 32)) - (b0 * (shlU a2 (ab y8).toNat))) - (d0 * (shrU (shlU a2 (ab y8).toNat) 32)))).bind fun q0=>jn (fun g0=>(some (((c0 + (shrU (shlU a1 (ab y8).toNat) 32)) - (b0 * (shlU a2 (ab y8).toNat))) * (4294967296:UInt64))).bind fun s0=>(some ((s0 + ((shlU a1 (ab y8).toNat) &&& (4294967295:UInt64))) - (g0 * (shlU a2 (ab y8).toNat)))).bind fun t0=>some ((b0 * (4294967296:UInt64)) + g0,shrU t0 (ab y8).toNat)) (fun k0=>Option.bind (ah (aW_l1 n a2 y8 a1) n (d0,q0)) (k0))) (fun j0=>Option.bind (ah (aW_l2 n a2 y8 a1) n (s9,p0)) (j0)))))
theorem aW_c (n:Nat) {L w} (hL:hl L w) (a0:UInt64) (a1:UInt64) (a2:UInt64)  {r:UInt64 × UInt64} (h:aW_p n a0 a1 a2 = some r) :
 Cl 193 #[vU a0,vU a1,vU a2] w (ae w fun _ u=>u = .tuple #[vU r.1,vU r.2]):=by
 unfold aW_p at h
 have hS0:=AC w
 refine AF func193 rfl rfl rfl fun _ cs0 hb0=>Ae<|Af rfl<|Af rfl<|Aa<|Ai<|Ae<|Ac rfl<|Ab (FV.eqlU (a:=a2) (b:=(0:UInt64)) rfl rfl)<|Aa<|AO rfl h (fun c1 h=>?_) (fun c1 h=>?_)
 refine Am ?_
 cases h
 refine Ap<|Ai<|Ae<|Ac rfl<|Ac rfl<|Ab (FV.leqU (a:=a2) (b:=a0) rfl rfl)<|Aa<|AO rfl h (fun c2 h=>?_) (fun c2 h=>?_)
 refine Am ?_
 cases h
 refine Ap<|Ai<|Ae<|Ac rfl<|Ab (FV.eqlU (a:=a0) (b:=(0:UInt64)) rfl rfl)<|Aa<|AO rfl h (fun c3 h=>?_) (fun c3 h=>?_)
 refine Ai<|du 8 fun kt4 kp5=>Rv 0 kt4 rfl kp5 (fun _=>Ah rfl)<|Rv 1 kt4 rfl kp5 (fun _=>Ah rfl)<|bk h fun s6 hs6 h=>Rv 2 kt4 rfl kp5 (fun _=>FV.quoV (a:=a1) (b:=a2) rfl rfl hs6)<|Rv 3 kt4 rfl kp5 (fun _=>Ah rfl)<|Rv 4 kt4 rfl kp5 (fun _=>Ah rfl)<|bk h fun s7 hs7 h=>Rv 5 kt4 rfl kp5 (fun _=>FV.remV (a:=a1) (b:=a2) rfl rfl hs7)<|Rv 6 kt4 rfl kp5 (fun _=>Bm rfl)<|Rv 7 kt4 rfl kp5 (fun _=>Bm rfl)<|AR (dk kt4)<|Ak rfl<|Ar hb0 func193 rfl (.cons (.tmp rfl) (.cons (.tmp rfl) .nil)) rfl ?_
 cases h
 exact hS0.gv
 refine Ap<|Ae<|Ac rfl<|bk h fun y8 hy8 h=>Bk (vI y8) (bd 203) rfl (e1 rfl) (fun w9 hw9=>bB_c n (hS0.hL0 hL hw9) a2 hy8) rfl<|Ab (FV.convU (i:=y8) underlying3 underlying147 rfl)<|Af rfl<|Aa<|Ae<|Ac rfl<|Ac rfl<|Ab (FV.shlU (a:=a2) (j:=(ab y8).toNat) rfl rfl)<|Af rfl<|Aa<|Ae<|Ac rfl<|Ab (FV.shrU (a:=shlU a2 (ab y8).toNat) (j:=32) rfl rfl)<|Af rfl<|Aa<|Ae<|Ac rfl<|Ab (FV.andU (a:=shlU a2 (ab y8).toNat) (b:=(4294967295:UInt64)) rfl rfl)<|Af rfl<|Aa<|Ae<|Ac rfl<|Ac rfl<|Ab (FV.shlU (a:=a0) (j:=(ab y8).toNat) rfl rfl)<|Ac rfl<|Ac rfl<|Ab (FV.subU (a:=(64:UInt64)) (b:=ab y8) rfl rfl)<|Ab (FV.shrU (a:=a1) (j:=((64:UInt64) - (ab y8)).toNat) rfl rfl)<|Ab (FV.orU (a:=shlU a0 (ab y8).toNat) (b:=shrU a1 ((64:UInt64) - (ab y8)).toNat) rfl rfl)<|Af rfl<|Aa<|Ae<|Ac rfl<|Ac rfl<|Ab (FV.shlU (a:=a1) (j:=(ab y8).toNat) rfl rfl)<|Af rfl<|Aa<|Ae<|Ac rfl<|Ab (FV.shrU (a:=shlU a1 (ab y8).toNat) (j:=32) rfl rfl)<|Af rfl<|Aa<|Ae<|Ac rfl<|Ab (FV.andU (a:=shlU a1 (ab y8).toNat) (b:=(4294967295:UInt64)) rfl rfl)<|Af rfl<|Aa<|Ae<|Ac rfl<|Ac rfl<|bk h fun s9 hs9 h=>Ab (FV.quoV (a:=(shlU a0 (ab y8).toNat) ||| (shrU a1 ((64:UInt64) - (ab y8)).toNat)) (b:=shrU (shlU a2 (ab y8).toNat) 32) rfl rfl hs9)<|Af rfl<|Aa<|Ae<|Ac rfl ?_
 refine Ac rfl<|Ac rfl<|Ab (FV.mulU (a:=s9) (b:=shrU (shlU a2 (ab y8).toNat) 32) rfl rfl)<|bk h fun d1 W0 h=>Ab (FV.as (FV.subU (a:=(shlU a0 (ab y8).toNat) ||| (shrU a1 ((64:UInt64) - (ab y8)).toNat)) (b:=s9 * (shrU (shlU a2 (ab y8).toNat) 32)) rfl rfl) (congrArg (fun z:UInt64=>Value.int .u64 (z.toNat:Int)) (Option.some.inj W0)))<|Af rfl<|Aa<|Ai<|Au<|MX.xo (α:=UInt64) 0 (fun b0=>[(2,vW ((shlU a2 (ab y8).toNat).toNat:Int)),(8,vW ((ab y8).toNat:Int)),(9,vW ((shrU (shlU a2 (ab y8).toNat) 32).toNat:Int)),(10,vW (((shlU a2 (ab y8).toNat) &&& (4294967295:UInt64)).toNat:Int)),(11,vW (((shlU a0 (ab y8).toNat) ||| (shrU a1 ((64:UInt64) - (ab y8)).toNat)).toNat:Int)),(13,vW ((shrU (shlU a1 (ab y8).toNat) 32).toNat:Int)),(14,vW (((shlU a1 (ab y8).toNat) &&& (4294967295:UInt64)).toNat:Int)),(15,vU b0)]) (fun b0=>[]) (fun b0=>b0) hS0 rfl h ?_ ?_
 rintro b0 A1 D0 t1 h
 try dsimp only at h
 refine Ae<|Ac rfl<|bk h fun p0 X0 h=>Ab (FV.as (FV.mulU (a:=(shlU a0 (ab y8).toNat) ||| (shrU a1 ((64:UInt64) - (ab y8)).toNat)) (b:=(4294967296:UInt64)) rfl rfl) (congrArg (fun z:UInt64=>Value.int .u64 (z.toNat:Int)) (Option.some.inj X0)))<|Ac rfl<|Ab (FV.addU (a:=p0) (b:=shrU (shlU a1 (ab y8).toNat) 32) rfl rfl)<|Ac rfl<|Ac rfl<|Ab (FV.mulU (a:=b0) (b:=shlU a2 (ab y8).toNat) rfl rfl)<|Ab (FV.subU (a:=p0 + (shrU (shlU a1 (ab y8).toNat) 32)) (b:=b0 * (shlU a2 (ab y8).toNat)) rfl rfl)<|Af rfl<|Aa<|Ae<|Ac rfl<|Ac rfl<|bk h fun A0 V0 h=>Ab (FV.quoV (a:=(p0 + (shrU (shlU a1 (ab y8).toNat) 32)) - (b0 * (shlU a2 (ab y8).toNat))) (b:=shrU (shlU a2 (ab y8).toNat) 32) rfl rfl V0)<|Af rfl<|Aa<|Ae<|Ac rfl<|Ac rfl<|Ac rfl<|Ab (FV.mulU (a:=A0) (b:=shrU (shlU a2 (ab y8).toNat) 32) rfl rfl)<|bk h fun g1 Y0 h=>Ab (FV.as (FV.subU (a:=(p0 + (shrU (shlU a1 (ab y8).toNat) 32)) - (b0 * (shlU a2 (ab y8).toNat))) (b:=A0 * (shrU (shlU a2 (ab y8).toNat) 32)) rfl rfl) (congrArg (fun z:UInt64=>Value.int .u64 (z.toNat:Int)) (Option.some.inj Y0)))<|Af rfl<|Aa<|Ai<|Au<|MX.xo (α:=UInt64) 2 (fun k0=>[(2,vW ((shlU a2 (ab y8).toNat).toNat:Int)),(8,vW ((ab y8).toNat:Int)),(14,vW (((shlU a1 (ab y8).toNat) &&& (4294967295:UInt64)).toNat:Int)),(15,vU b0),(17,vW (((p0 + (shrU (shlU a1 (ab y8).toNat) 32)) - (b0 * (shlU a2 (ab y8).toNat))).toNat:Int)),(18,vU k0)]) (fun k0=>[]) (fun k0=>k0) D0 rfl h ?_ ?_
 rintro k0 B1 Q0 u1 h
 try dsimp only at h
 refine Ae<|Ac rfl<|Ab (FV.mulU (a:=b0) (b:=(4294967296:UInt64)) rfl rfl)<|Ac rfl<|Ab (FV.addU (a:=b0 * (4294967296:UInt64)) (b:=k0) rfl rfl)<|Ac rfl<|bk h fun E0 Z0 h=>Ab (FV.as (FV.mulU (a:=(p0 + (shrU (shlU a1 (ab y8).toNat) 32)) - (b0 * (shlU a2 (ab y8).toNat))) (b:=(4294967296:UInt64)) rfl rfl) (congrArg (fun z:UInt64=>Value.int .u64 (z.toNat:Int)) (Option.some.inj Z0)))<|Ac rfl<|Ab (FV.addU (a:=E0) (b:=(shlU a1 (ab y8).toNat) &&& (4294967295:UInt64)) rfl rfl)<|Ac rfl<|Ac rfl<|Ab (FV.mulU (a:=k0) (b:=shlU a2 (ab y8).toNat) rfl rfl)<|bk h fun j1 b1 h=>Ab (FV.as (FV.subU (a:=E0 + ((shlU a1 (ab y8).toNat) &&& (4294967295:UInt64))) (b:=k0 * (shlU a2 (ab y8).toNat)) rfl rfl) (congrArg (fun z:UInt64=>Value.int .u64 (z.toNat:Int)) (Option.some.inj b1)))<|Ac rfl<|Ab (FV.shrU (a:=j1) (j:=(ab y8).toNat) rfl rfl)<|Af rfl<|Af rfl<|Aa<|Ak rfl<|Ar hb0 func193 rfl (.cons (.tmp rfl) (.cons (.tmp rfl) .nil)) rfl ?_
 cases h
 exact Q0.gv
 intro s1 x0 h
 try dsimp only at h
 obtain ⟨v1,R0,y0⟩:=ao h
 refine BT (α:=UInt64 × UInt64) (fun ⟨c0,g0⟩=>[(2,vW ((shlU a2 (ab y8).toNat).toNat:Int)),(8,vW ((ab y8).toNat:Int)),(9,vW ((shrU (shlU a2 (ab y8).toNat) 32).toNat:Int)),(10,vW (((shlU a2 (ab y8).toNat) &&& (4294967295:UInt64)).toNat:Int)),(14,vW (((shlU a1 (ab y8).toNat) &&& (4294967295:UInt64)).toNat:Int)),(15,vU b0),(17,vW (((p0 + (shrU (shlU a1 (ab y8).toNat) 32)) - (b0 * (shlU a2 (ab y8).toNat))).toNat:Int)),(18,vU c0),(16,vU g0)]) (fun ⟨c0,g0⟩=>[]) (fun ⟨c0,g0⟩=>(c0,g0)) (A0,g1) R0 D0 ?_
 rintro k1 ⟨c0,g0⟩ y1 B0 q0 t0 h
 unfold aW_l1 at h
 try dsimp only at h
 refine Ai<|Ae<|Ac rfl<|Ab (FV.geqU (a:=c0) (b:=(4294967296:UInt64)) rfl rfl)<|Ac rfl<|Bv (s:=104) rfl h (fun F0 h=>?_) (fun F0 h=>?_)
 refine Al<|Al<|Al<|Al<|Al<|Al<|Al<|Al<|Bl rfl rfl<|Aa<|AZ rfl<|Ap<|Au<|Ae<|Ac rfl<|Ab (FV.subU (a:=c0) (b:=(1:UInt64)) rfl rfl)<|Af rfl<|Aa<|Ae<|Ac rfl<|Ac rfl<|Ab (FV.addU (a:=g0) (b:=shrU (shlU a2 (ab y8).toNat) 32) rfl rfl)<|Af rfl<|Aa<|Ae<|Ac rfl<|Ab (FV.geqU (a:=g0 + (shrU (shlU a2 (ab y8).toNat) 32)) (b:=(4294967296:UInt64)) rfl rfl)<|Aa<|AO rfl h (fun G0 h=>?_) (fun G0 h=>?_)
 refine AV rfl ?_
 have h:=y0 _ h
 try dsimp only at h
 exact x0 (c0 - (1:UInt64)) q0 t0 h
 refine Ap<|Aw<|B0 (c0 - (1:UInt64),g0 + (shrU (shlU a2 (ab y8).toNat) 32)) q0 t0 h
 refine Az (Ah rfl)<|Az (Ah rfl)<|Az (FV.mulU (a:=c0) (b:=(shlU a2 (ab y8).toNat) &&& (4294967295:UInt64)) rfl rfl)<|Az (Ah rfl)<|Az (FV.mulU (a:=(4294967296:UInt64)) (b:=g0) rfl rfl)<|Az (Ah rfl)<|Az (FV.addU (a:=(4294967296:UInt64) * g0) (b:=(shlU a1 (ab y8).toNat) &&& (4294967295:UInt64)) rfl rfl)<|Az (FV.gtrU (a:=c0 * ((shlU a2 (ab y8).toNat) &&& (4294967295:UInt64))) (b:=((4294967296:UInt64) * g0) + ((shlU a1 (ab y8).toNat) &&& (4294967295:UInt64))) rfl rfl)<|Bn rfl rfl<|Aa<|AO rfl h (fun H0 h=>?_) (fun H0 h=>?_)
 refine Ap<|Au<|Ae<|Ac rfl<|Ab (FV.subU (a:=c0) (b:=(1:UInt64)) rfl rfl)<|Af rfl<|Aa<|Ae<|Ac rfl<|Ac rfl<|Ab (FV.addU (a:=g0) (b:=shrU (shlU a2 (ab y8).toNat) 32) rfl rfl)<|Af rfl<|Aa<|Ae<|Ac rfl<|Ab (FV.geqU (a:=g0 + (shrU (shlU a2 (ab y8).toNat) 32)) (b:=(4294967296:UInt64)) rfl rfl)<|Aa<|AO rfl h (fun I0 h=>?_) (fun I0 h=>?_)
 refine AV rfl ?_
 have h:=y0 _ h
 try dsimp only at h
 exact x0 (c0 - (1:UInt64)) q0 t0 h
 refine Ap<|Aw<|B0 (c0 - (1:UInt64),g0 + (shrU (shlU a2 (ab y8).toNat) 32)) q0 t0 h
 refine AV rfl ?_
 have h:=y0 _ h
 try dsimp only at h
 exact x0 c0 q0 t0 h
 intro q1 v0 h
 try dsimp only at h
 obtain ⟨x1,U0,z0⟩:=ao h
 refine BT (α:=UInt64 × UInt64) (fun ⟨d0,j0⟩=>[(2,vW ((shlU a2 (ab y8).toNat).toNat:Int)),(8,vW ((ab y8).toNat:Int)),(9,vW ((shrU (shlU a2 (ab y8).toNat) 32).toNat:Int)),(10,vW (((shlU a2 (ab y8).toNat) &&& (4294967295:UInt64)).toNat:Int)),(11,vW (((shlU a0 (ab y8).toNat) ||| (shrU a1 ((64:UInt64) - (ab y8)).toNat)).toNat:Int)),(13,vW ((shrU (shlU a1 (ab y8).toNat) 32).toNat:Int)),(14,vW (((shlU a1 (ab y8).toNat) &&& (4294967295:UInt64)).toNat:Int)),(15,vU d0),(16,vU j0)]) (fun ⟨d0,j0⟩=>[]) (fun ⟨d0,j0⟩=>(d0,j0)) (s9,d1) U0 hS0 ?_
 rintro p1 ⟨d0,j0⟩ z1 C0 s0 u0 h
 unfold aW_l2 at h
 try dsimp only at h
 refine Ai<|Ae<|Ac rfl<|Ab (FV.geqU (a:=d0) (b:=(4294967296:UInt64)) rfl rfl)<|Ac rfl<|Bv (s:=69) rfl h (fun J0 h=>?_) (fun J0 h=>?_)
 refine Al<|Al<|Al<|Al<|Al<|Al<|Al<|Al<|Bl rfl rfl<|Aa<|AZ rfl<|Ap<|Au<|Ae<|Ac rfl<|Ab (FV.subU (a:=d0) (b:=(1:UInt64)) rfl rfl)<|Af rfl<|Aa<|Ae<|Ac rfl<|Ac rfl<|Ab (FV.addU (a:=j0) (b:=shrU (shlU a2 (ab y8).toNat) 32) rfl rfl)<|Af rfl<|Aa<|Ae<|Ac rfl<|Ab (FV.geqU (a:=j0 + (shrU (shlU a2 (ab y8).toNat) 32)) (b:=(4294967296:UInt64)) rfl rfl)<|Aa<|AO rfl h (fun K0 h=>?_) (fun K0 h=>?_)
 refine AV rfl ?_
 have h:=z0 _ h
 try dsimp only at h
 exact v0 (d0 - (1:UInt64)) s0 u0 h
 refine Ap<|Aw<|C0 (d0 - (1:UInt64),j0 + (shrU (shlU a2 (ab y8).toNat) 32)) s0 u0 h
 refine Az (Ah rfl)<|Az (Ah rfl)<|Az (FV.mulU (a:=d0) (b:=(shlU a2 (ab y8).toNat) &&& (4294967295:UInt64)) rfl rfl)<|Az (Ah rfl)<|Az (FV.mulU (a:=(4294967296:UInt64)) (b:=j0) rfl rfl)<|Az (Ah rfl)<|Az (FV.addU (a:=(4294967296:UInt64) * j0) (b:=shrU (shlU a1 (ab y8).toNat) 32) rfl rfl)<|Az (FV.gtrU (a:=d0 * ((shlU a2 (ab y8).toNat) &&& (4294967295:UInt64))) (b:=((4294967296:UInt64) * j0) + (shrU (shlU a1 (ab y8).toNat) 32)) rfl rfl)<|Bn rfl rfl<|Aa<|AO rfl h (fun M0 h=>?_) (fun M0 h=>?_)
 refine Ap<|Au<|Ae<|Ac rfl<|Ab (FV.subU (a:=d0) (b:=(1:UInt64)) rfl rfl)<|Af rfl<|Aa<|Ae<|Ac rfl<|Ac rfl<|Ab (FV.addU (a:=j0) (b:=shrU (shlU a2 (ab y8).toNat) 32) rfl rfl)<|Af rfl<|Aa<|Ae<|Ac rfl<|Ab (FV.geqU (a:=j0 + (shrU (shlU a2 (ab y8).toNat) 32)) (b:=(4294967296:UInt64)) rfl rfl)<|Aa<|AO rfl h (fun P0 h=>?_) (fun P0 h=>?_)
 refine AV rfl ?_
 have h:=z0 _ h
 try dsimp only at h
 exact v0 (d0 - (1:UInt64)) s0 u0 h
 refine Ap<|Aw<|C0 (d0 - (1:UInt64),j0 + (shrU (shlU a2 (ab y8).toNat) 32)) s0 u0 h
 refine AV rfl ?_
 have h:=z0 _ h
 try dsimp only at h
 exact v0 d0 s0 u0 h
def di_p (n:Nat) (a0:List UInt64):Option Int:=
  (if a0.length = 0 then some (0:Int) else (chk (64 * ((a0.length:Nat):Int))).bind fun s3=>(idx a0 (((a0.length:Nat):Int) - 1)).bind fun x4=>(bB_p n x4).bind fun c0=>(chk (s3 - c0)).bind fun b0=>some b0)
theorem di_c (n:Nat) {L w} (hL:hl L w) {a0:List UInt64} {v0_0:Value} (h0_0:Rep.R w L [v0_0] a0)  {r:Int} (h:di_p n a0 = some r) :
 Cl 194 #[v0_0] w (ae w fun _ u=>u = vI r):=by
 unfold di_p at h
 have hS0:=AC w
 refine AF func194 rfl rfl rfl fun _ cs0 hb0=>Ae<|Af rfl<|Aa<|Ai<|Ae<|Ac rfl ?_
 have hl1:a0.length <= 281474976710656:=AS h0_0
 refine Ab (AW (xs:=a0) underlying75 rfl h0_0)<|Ab (BF (i:=a0.length) (j:=0) rfl rfl)<|Aa<|AO rfl h (fun c2 h=>?_) (fun c2 h=>?_)
 refine Ae<|Af rfl<|Aa<|Ak rfl<|AQ hb0 func194 rfl rfl ?_
 cases h
 exact hS0.gv
 refine Ap<|Ae<|Ac rfl<|Ab (AW (xs:=a0) underlying75 rfl h0_0)<|bk h fun s3 hs3 h=>Ab (FV.mulc (i:=64) (j:=((a0.length:Nat):Int)) rfl rfl hs3)<|Ac rfl<|Ac rfl<|Ab (AW (xs:=a0) underlying75 rfl h0_0)<|Ab (FV.subI (i:=((a0.length:Nat):Int)) (j:=1) rfl rfl (by omega))<|bk h fun x4 hx4 h=>?_
 obtain ⟨hi5,hx6⟩:=aG hx4
 obtain ⟨A7,c8,he9,g0,c0,k0,j0⟩:=Bg h0_0 hx6
 have d0:c0 = [vU x4]:=k0; subst d0
 refine Ab (FV.idxAddr (m:=1) (i:=(((a0.length:Nat):Int) - 1).toNat) rfl rfl he9 rfl hi5 g0)<|AL rfl (j0 0 _ rfl)<|bk h fun b0 q0 h=>Bk (vI b0) (bd 203) rfl (e1 rfl) (fun w9 hw9=>bB_c n (hS0.hL0 hL hw9) x4 q0) rfl<|bk h fun s0 p0 h=>Ab (FV.subc (i:=s3) (j:=b0) rfl rfl p0)<|Af rfl<|Aa<|Ak rfl<|AQ hb0 func194 rfl rfl ?_
 cases h
 exact hS0.gv
def cX_l1 (_n:Nat) (a0:List UInt64) (a1:Int) (g0:Nat × (List UInt64) -> Option (List UInt64)):Nat × (List UInt64) -> Option (List UInt64)
  | (b0,c0)=>(if b0 < a0.length then (a0[b0]?).bind fun p0=>(cG a1 64).bind fun t0=>(chk (((b0:Nat):Int) + t0)).bind fun j0=>(idx c0 j0).bind fun B0=>(bH a1 64).bind fun u0=>(aT u0).bind fun q0=>(put c0 ((j0.toNat:Nat):Int) (B0 ||| (shlU p0 q0))).bind fun d0=>(bH a1 64).bind fun v0=>(if 0 < v0 then (cG a1 64).bind fun x0=>(chk (((b0:Nat):Int) + x0)).bind fun y0=>(chk (y0 + 1)).bind fun k0=>(bH a1 64).bind fun z0=>(chk (64 - z0)).bind fun A0=>(aT A0).bind fun s0=>(idx d0 k0).bind fun _x218=>(put d0 ((k0.toNat:Nat):Int) (shrU p0 s0)).bind fun C0=>g0 (b0 + 1,C0) else g0 (b0 + 1,d0)) else some c0)
def cX_p (n:Nat) (a0:List UInt64) (a1:Int):Option (List UInt64):=
  (cG a1 64).bind fun s2=>(chk (((a0.length:Nat):Int) + s2)).bind fun s3=>(chk (s3 + 1)).bind fun s4=>(mk s4 (0:UInt64)).bind fun b0=>Option.bind (ah (cX_l1 n a0 a1) n (0,b0)) (fun c0=>(ax_p n false c0).bind fun d0=>some d0.fu)
theorem cX_c (n:Nat) {L w} (hL:hl L w) {a0:List UInt64} {v0_0:Value} (h0_0:Rep.R w L [v0_0] a0) {a1:Int}  {r:List UInt64} (h:cX_p n a0 a1 = some r) :
 Cl 195 #[v0_0,vI a1] w (ae w fun w' u=>∃ v0_0:Value,u = v0_0/\Rep.R w' L [v0_0] r):=by
 unfold cX_p at h
 refine AF func195 rfl rfl rfl fun _ cs0 hb0=>Ae<|Af rfl<|Aa<|Ae<|Ac rfl ?_
 have hl1:a0.length <= 281474976710656:=AS h0_0
 refine Ab (AW (xs:=a0) underlying75 rfl h0_0)<|Ac rfl<|bk h fun s2 hs2 h=>Ab (FV.quoc (i:=a1) (j:=64) rfl rfl hs2)<|bk h fun s3 hs3 h=>Ab (BE (i:=((a0.length:Nat):Int)) (j:=s2) rfl rfl hs3)<|bk h fun s4 hs4 h=>Ab (BE (i:=s3) (j:=1) rfl rfl hs4)<|bk h fun U0 K0 h=>Ao .plain rfl (Does.mk (α:=UInt64) K0 (AC w) cT rfl) fun Z2 p0 u0 Q2=>Af rfl<|Aa<|Ai<|Ae<|Ac rfl<|Ab (AW (xs:=a0) underlying75 rfl (AM h0_0 u0))<|Ac rfl<|Aa<|Au ?_
 obtain ⟨X2,H1,A1⟩:=ao h
 refine MX.lf (α:=Nat × (List UInt64) × (List Value)) (fun ⟨c0,g0,j0⟩=>[(1,vI a1),(5,(.slice (some ⟨p0,0,none⟩) s4.toNat s4.toNat)),(15,v0_0),(16,vI ((a0.length:Nat):Int)),(17,vI ((c0:Nat):Int))]) (fun ⟨c0,g0,j0⟩=>[rr w 28 UInt64 (.slice (some ⟨p0,0,none⟩) s4.toNat s4.toNat) g0.length j0]) (fun ⟨c0,g0,j0⟩ Q0=>Cells Q0 (bl [rr w 28 UInt64 (.slice (some ⟨p0,0,none⟩) s4.toNat s4.toNat) g0.length j0] ++ L) j0 g0) (fun ⟨c0,g0,j0⟩=>(c0,g0)) (0,U0,(List.replicate s4.toNat [vW 0]).flatten) H1 u0 (AB (cs:=(List.replicate s4.toNat [vW 0]).flatten) (xs:=U0) u0 L (Cells.mk K0 rfl)) ?_
 rintro H2 ⟨c0,g0,j0⟩ Q0 C0 k0 E0 x0 h
 unfold cX_l1 at h
 try dsimp only at h
 refine Ae<|Ab (Bj (i:=c0) (j:=a0.length) rfl rfl)<|Aa<|Ai<|AO rfl h (fun Z0 h=>?_) (fun Z0 h=>?_)
 refine Ap<|Ai<|Au<|Ae<|Ac rfl<|bk h fun t0 b2 h=>?_
 obtain ⟨G2,I2,v1,C1,c1,I1,F1⟩:=Bg (AM h0_0 k0) b2
 have x1:c1 = [vU t0]:=I1; subst x1
 refine Ab (Bi 1 c0 rfl v1 rfl rfl C1)<|AL rfl (F1 0 _ rfl)<|Af rfl<|Af rfl<|Aa<|Ai<|du 13 fun b0 d0=>Rv 0 b0 rfl d0 (fun _=>Ah rfl)<|Rv 1 b0 rfl d0 (fun _=>Ah rfl)<|Rv 2 b0 rfl d0 (fun _=>Ah rfl)<|bk h fun u2 P1 h=>Rv 3 b0 rfl d0 (fun _=>FV.quoc (i:=a1) (j:=64) rfl rfl P1)<|bk h fun B0 Q1 h=>Rv 4 b0 rfl d0 (fun _=>BE (i:=((c0:Nat):Int)) (j:=u2) rfl rfl Q1)<|bk h fun R0 c2 h=>?_
 obtain ⟨I0,d2⟩:=aG c2
 obtain ⟨V0,J2,s0,A0,d1,J1,G1⟩:=St.nth (α:=UInt64) k0 .hd x0 d2
 obtain ⟨X0,K2,G0⟩:=BL (α:=UInt64) k0 .hd A0
 obtain rfl:V0 = ⟨X0,0,none⟩:=by rw [G0] at s0; cases s0; rfl
 have y1:d1 = [vU R0]:=J1; subst y1
 refine Rv 5 b0 rfl d0 (fun _=>Bi 1 (B0.toNat) rfl s0 rfl I0 A0)<|Rx 6 14336 b0 rfl d0 (AN rfl (G1 0 _ rfl))<|Rv 7 b0 rfl d0 (fun _=>Ah rfl)<|Rv 8 b0 rfl d0 (fun _=>Ah rfl)<|bk h fun v2 R1 h=>Rv 9 b0 rfl d0 (fun _=>FV.remc (i:=a1) (j:=64) rfl rfl R1)<|bk h fun t2 D1 h=>Rv 10 b0 rfl d0 (fun _=>FV.shlI (a:=t0) (i:=v2) rfl rfl D1)<|Rv 11 b0 rfl d0 (fun _=>FV.orU (a:=R0) (b:=shlU t0 t2) rfl rfl)<|Rv 12 b0 rfl d0 (fun _=>Bi 1 (B0.toNat) rfl s0 rfl I0 A0)<|bk h fun D2 k2 h=>BS (i:=13) (rk b0) (RO.acts (m' :=16383) (sk b0) rfl rfl .plain (Acts.set (α:=UInt64) (i:=B0.toNat) k2 k0 G0 (fun _=>.hd) x0 rfl rfl rfl rfl rfl rfl) (fun b3 ⟨g1,q0,F0,y0⟩=>?_))
 refine AR (dk b0)<|Ae<|Ac rfl<|bk h fun x2 U1 h=>Ab (FV.remc (i:=a1) (j:=64) rfl rfl U1)<|Ab (FV.gtr (i:=x2) (j:=0) rfl rfl)<|Aa<|AO rfl h (fun b1 h=>?_) (fun b1 h=>?_)
 refine Am<|Ac rfl<|Ac rfl<|Ac rfl<|bk h fun y2 V1 h=>Ab (FV.quoc (i:=a1) (j:=64) rfl rfl V1)<|bk h fun z2 W1 h=>Ab (BE (i:=((c0:Nat):Int)) (j:=y2) rfl rfl W1)<|bk h fun M0 X1 h=>Ab (BE (i:=z2) (j:=1) rfl rfl X1)<|Ac rfl<|Ac rfl<|bk h fun A2 Y1 h=>Ab (FV.remc (i:=a1) (j:=64) rfl rfl Y1)<|bk h fun B2 Z1 h=>Ab (FV.subc (i:=64) (j:=A2) rfl rfl Z1)<|bk h fun W2 E1 h=>Ab (FV.shrI (a:=t0) (i:=B2) rfl rfl E1)<|bk h fun C2 g2 h=>?_
 obtain ⟨B1,j2⟩:=aG g2
 obtain ⟨W0,M2,z0,J0,j1,K1,V2⟩:=St.nth (α:=UInt64) q0 .hd y0 j2
 obtain ⟨Y0,P2,H0⟩:=BL (α:=UInt64) q0 .hd J0
 obtain rfl:W0 = ⟨Y0,0,none⟩:=by rw [H0] at z0; cases z0; rfl
 have z1:j1 = [vU C2]:=K1; subst z1
 refine Ab (Bi 1 (M0.toNat) rfl z0 rfl B1 J0)<|bk h fun E2 p2 h=>RG.acts' .plain (Acts.set (α:=UInt64) (i:=M0.toNat) p2 q0 H0 (fun _=>.hd) y0 rfl rfl rfl rfl rfl rfl) fun c3 ⟨k1,p1,q1,u1⟩=>Aa<|Aw<|Am<|Ab (Bf (i:=c0) (j:=1) rfl rfl (by omega))<|Ac rfl<|Aa<|C0 (c0 + 1,E2,k1) p1 (Tt E0 (Tt F0 q1)) u1 h
 refine Ap<|Aw<|Am<|Ab (Bf (i:=c0) (j:=1) rfl rfl (by omega))<|Ac rfl<|Aa<|C0 (c0 + 1,D2,g1) q0 (Tt E0 F0) y0 h
 refine AV rfl ?_
 have h:=A1 _ h
 try dsimp only at h
 refine Ae<|Ac rfl ?_
 have v0:=Bq k0 .hd
 have R2:=Br k0 .hd
 refine bk h fun F2 q2 h=>jE (bd 142) rfl (e2 rfl rfl) (fun w9 hw9=>ax_c n (v0.hL hL hw9) (Av (Bs (α:=UInt64) (v:=(.slice (some ⟨p0,0,none⟩) s4.toNat s4.toNat)) (xs:=g0) v0 L (Ba (α:=UInt64) k0 .hd x0 hL)) hw9) q2) rfl fun d3 Y2 s1 ⟨P0,hu_,M1⟩=>?_
 subst hu_
 obtain ⟨D0,U2⟩:=v0.agr s1
 refine Ab (FV.field1 (cs:=[.bool F2.fc,P0]) (off:=1) (m:=1) rfl rfl rfl rfl)<|Af rfl<|Aa<|Ak rfl<|AQ hb0 func195 rfl rfl ?_
 cases h
 exact ⟨D0.ag,fun w9 hw9=>⟨P0,rfl,D0.kd M1 hw9⟩⟩
def ba_l1 (n:Nat) (a0:List UInt64) (a1:List UInt64) (j0:UInt64 × Int × (List UInt64) -> Option (UInt64 × (List UInt64))):UInt64 × Int × (List UInt64) -> Option (UInt64 × (List UInt64))
  | (d0,b0,c0)=>(if 0 <= b0 then (idx a0 b0).bind fun p0=>(a1[0]?).bind fun q0=>(aW_p n d0 p0 q0).bind fun g0=>(idx c0 b0).bind fun _x169=>(put c0 ((b0.toNat:Nat):Int) g0.1).bind fun s0=>(chk (b0 - 1)).bind fun k0=>j0 (g0.2,k0,s0) else some (d0,c0))
def ba_l2 (n:Nat) (a1:List UInt64) (p0:(List UInt64) × Int × (List UInt64) -> Option ((List UInt64) × (List UInt64))):(List UInt64) × Int × (List UInt64) -> Option ((List UInt64) × (List UInt64))
  | (c0,b0,d0)=>(if 0 <= b0 then (cX_p n a1 b0).bind fun k0=>(ca_p n c0 k0).bind fun z0=>jn (fun (v0,x0)=>(chk (b0 - 1)).bind fun s0=>p0 (v0,s0,x0)) (fun g0=>(if 0 <= z0 then (cq_p n c0 k0).bind fun A0=>(ax_p n false A0).bind fun B0=>(cG b0 64).bind fun j0=>(idx d0 j0).bind fun u0=>(bH b0 64).bind fun t0=>(aT t0).bind fun q0=>(put d0 ((j0.toNat:Nat):Int) (u0 ||| (shlU (1:UInt64) q0))).bind fun y0=>g0 (B0.fu,y0) else g0 (c0,d0))) else some (d0,c0))
def ba_p (n:Nat) (a0:List UInt64) (a1:List UInt64):Option ((List UInt64) × (List UInt64)):=
  (mk ((a0.length:Nat):Int) (0:UInt64)).bind fun b0=>(if a1.length = 1 then Option.bind (ah (ba_l1 n a0 a1) n (0,((a0.length:Nat):Int) - 1,b0)) (fun (d0,g0)=>(ax_p n false ([d0]:List UInt64)).bind fun p0=>some (g0,p0.fu)) else (di_p n a0).bind fun q0=>(di_p n a1).bind fun s0=>(chk (q0 - s0)).bind fun c0=>Option.bind (ah (ba_l2 n a1) n (a0,c0,b0)) (fun (k0,j0)=>some (k0,j0)))
theorem ba_c (n:Nat) {L w} (hL:hl L w) {a0:List UInt64} {v0_0:Value} (h0_0:Rep.R w L [v0_0] a0) {a1:List UInt64} {v1_0:Value} (h1_0:Rep.R w L [v1_0] a1)  {r:(List UInt64) × (List UInt64)} (h:ba_p n a0 a1 = some r) :
 Cl 172 #[v0_0,v1_0] w (ae w fun w' u=>∃ v0_0 v1_0:Value,u = .tuple #[v0_0,v1_0]/\Rep.R w' L [v0_0] r.1/\Rep.R w' L [v1_0] r.2):=by
 unfold ba_p at h
 refine AF func172 rfl rfl rfl fun _ cs0 hb0=>Ae<|Af rfl<|Af rfl<|Aa<|Ae<|Ac rfl ?_
 have hl1:a0.length <= 281474976710656:=AS h0_0
 refine Ab (AW (xs:=a0) underlying75 rfl h0_0)<|bk h fun g1 E1 h=>Ao .plain rfl (Does.mk (α:=UInt64) E1 (AC w) cT rfl) fun g5 d0 t0 Q4=>?_
 have u1:=AB (cs:=(List.replicate ((a0.length:Nat):Int).toNat [vW 0]).flatten) (xs:=g1) t0 L (Cells.mk E1 rfl)
 refine Af rfl<|Aa<|Ai<|Ae<|Ac rfl ?_
 have A1:=AM h1_0 t0
 have R4:a1.length <= 281474976710656:=AS A1
 refine Ab (AW (xs:=a1) underlying75 rfl A1)<|Ab (BF (i:=a1.length) (j:=1) rfl rfl)<|Aa<|AO rfl h (fun b2 h=>?_) (fun b2 h=>?_)
 refine Ae<|Af rfl<|Aa<|Ai<|Ae<|Ac rfl<|Ab (AW (xs:=a0) underlying75 rfl (AM h0_0 t0))<|Ab (FV.subI (i:=((a0.length:Nat):Int)) (j:=1) rfl rfl (by omega))<|Af rfl<|Aa<|Au ?_
 obtain ⟨V4,u3,b3⟩:=ao h
 refine MX.lf (α:=UInt64 × Int × (List UInt64) × (List Value)) (fun ⟨g0,q0,z0,B0⟩=>[(0,v0_0),(1,v1_0),(4,(.slice (some ⟨d0,0,none⟩) ((a0.length:Nat):Int).toNat ((a0.length:Nat):Int).toNat)),(6,vU g0),(7,vI q0)]) (fun ⟨g0,q0,z0,B0⟩=>[rr w 28 UInt64 (.slice (some ⟨d0,0,none⟩) ((a0.length:Nat):Int).toNat ((a0.length:Nat):Int).toNat) z0.length B0]) (fun ⟨g0,q0,z0,B0⟩ H1=>Cells H1 (bl [rr w 28 UInt64 (.slice (some ⟨d0,0,none⟩) ((a0.length:Nat):Int).toNat ((a0.length:Nat):Int).toNat) z0.length B0] ++ L) B0 z0) (fun ⟨g0,q0,z0,B0⟩=>(g0,q0,z0)) (0,((a0.length:Nat):Int) - 1,g1,(List.replicate ((a0.length:Nat):Int).toNat [vW 0]).flatten) u3 t0 u1 ?_
 rintro E4 ⟨g0,q0,z0,B0⟩ H1 t2 C0 z2 V0 h
 unfold ba_l1 at h
 try dsimp only at h
 refine Ai<|Ae<|Ac rfl<|Ab (FV.geq (i:=q0) (j:=0) rfl rfl)<|Aa<|AO rfl h (fun Z1 h=>?_) (fun Z1 h=>?_)
 refine Ap<|Ai<|Au<|du 15 fun b0 c0=>Rv 0 b0 rfl c0 (fun _=>Ah rfl)<|Rv 1 b0 rfl c0 (fun _=>Ah rfl)<|Rv 2 b0 rfl c0 (fun _=>Ah rfl)<|Rv 3 b0 rfl c0 (fun _=>Ah rfl)<|Rv 4 b0 rfl c0 (fun _=>Ah rfl)<|bk h fun I1 P3 h=>?_
 obtain ⟨d3,Q3⟩:=aG P3
 obtain ⟨C4,H4,U2,j3,g2,x3,q3⟩:=Bg (AM h0_0 C0) Q3
 have V2:g2 = [vU I1]:=x3; subst V2
 refine Rv 5 b0 rfl c0 (fun _=>Bi 1 (q0.toNat) rfl U2 rfl d3 j3)<|Rx 6 130048 b0 rfl c0 (AN rfl (q3 0 _ rfl))<|Rv 7 b0 rfl c0 (fun _=>Ah rfl)<|bk h fun J1 R3 h=>?_
 obtain ⟨D4,I4,W2,k3,j2,y3,s3⟩:=Bg (AM h1_0 C0) R3
 have X2:j2 = [vU J1]:=y3; subst X2
 refine Rv 8 b0 rfl c0 (fun _=>Bi 1 0 rfl W2 rfl rfl k3)<|Rx 9 130048 b0 rfl c0 (AN rfl (s3 0 _ rfl))<|bk h fun j1 b4 h=>RD.cq 10 2047 129024 (.tuple #[vU j1.1,vU j1.2]) b0 rfl c0 (bd 193) rfl (e3 rfl rfl rfl) (fun w9 hw9=>aW_c n (C0.hL0 hL hw9) g0 I1 J1 b4) rfl<|Rv 11 b0 rfl c0 (fun _=>Ah rfl)<|Rv 12 b0 rfl c0 (fun _=>Aj rfl rfl)<|Rv 13 b0 rfl c0 (fun _=>Aj rfl rfl)<|bk h fun y4 U3 h=>?_
 obtain ⟨g3,V3⟩:=aG U3
 obtain ⟨U1,J4,X0,z1,k2,z3,U4⟩:=St.nth (α:=UInt64) C0 .hd V0 V3
 obtain ⟨W1,K4,v1⟩:=BL (α:=UInt64) C0 .hd z1
 obtain rfl:U1 = ⟨W1,0,none⟩:=by rw [v1] at X0; cases X0; rfl
 have Y2:k2 = [vU y4]:=z3; subst Y2
 refine Rv 14 b0 rfl c0 (fun _=>Bi 1 (q0.toNat) rfl X0 rfl g3 z1)<|bk h fun z4 Y3 h=>BS (i:=15) (rk b0) (RO.acts (m' :=65535) (sk b0) rfl rfl .plain (Acts.set (α:=UInt64) (i:=q0.toNat) Y3 C0 v1 (fun _=>.hd) V0 rfl rfl rfl rfl rfl rfl) (fun j5 ⟨p2,v2,A2,P2⟩=>?_))
 refine Rv 16 b0 rfl c0 (fun _=>Bm rfl)<|AR (dk b0)<|Aw<|Am<|Ac rfl<|bk h fun t4 H3 h=>Ab (FV.subc (i:=q0) (j:=1) rfl rfl H3)<|Af rfl<|Aa<|t2 (j1.2,t4,z4,p2) v2 (Tt z2 A2) P2 h
 refine AV rfl ?_
 have h:=b3 _ h
 try dsimp only at h
 refine Ae<|Ac rfl<|Ac rfl<|Ao .plain rfl (jA g0 (vU g0) C0 cT (e1 rfl)) fun k5 X1 I0 B2=>?_
 have Q0:=Bq I0 .hd
 have C2:=Br I0 .hd
 refine bk h fun B4 c4 h=>jE (bd 142) rfl (e2 rfl rfl) (fun w9 hw9=>ax_c n (Q0.hL hL hw9) (Av (Bs (α:=UInt64) (v:=(vS X1 1)) (xs:=([g0]:List UInt64)) Q0 L (Ba (α:=UInt64) I0 .hd (jC g0 (vU g0) I0 L rfl) hL)) hw9) c4) rfl fun p5 Z4 I2 ⟨F1,hu_,A3⟩=>?_
 subst hu_
 obtain ⟨R0,D2⟩:=Q0.agr I2
 refine Ab (FV.field1 (cs:=[.bool B4.fc,F1]) (off:=1) (m:=1) rfl rfl rfl rfl)<|Af rfl<|Af rfl<|Aa<|Ak rfl ?_
 have J0:=Bq R0 .hd
 have E2:=Br R0 .hd
 have B3:=Bs (α:=UInt64) (v:=(.slice (some ⟨d0,0,none⟩) ((a0.length:Nat):Int).toNat ((a0.length:Nat):Int).toNat)) (xs:=z0) J0 L (Ba (α:=UInt64) R0 .hd (Ay V0 (Tt B2 (Tt C2 D2))) hL)
 refine Ar hb0 func172 rfl (.cons (.tmp rfl) (.cons (.tmp rfl) .nil)) rfl ?_
 cases h
 exact ⟨J0.ag,fun w9 hw9=>⟨(.slice (some ⟨d0,0,none⟩) ((a0.length:Nat):Int).toNat ((a0.length:Nat):Int).toNat),F1,rfl,J0.kd B3 hw9,J0.kd (Aq A3 E2) hw9⟩⟩
 refine Ap<|Ae<|Ac rfl<|Af rfl<|Aa<|Ai<|Ae<|Ac rfl<|bk h fun M1 d4 h=>Bk (vI M1) (bd 194) rfl (e1 rfl) (fun w9 hw9=>di_c n (t0.hL0 hL hw9) (t0.k0 h0_0 hw9) d4) rfl<|Ac rfl<|bk h fun P1 g4 h=>Bk (vI P1) (bd 194) rfl (e1 rfl) (fun w9 hw9=>di_c n (t0.hL0 hL hw9) (t0.k0 h1_0 hw9) g4) rfl<|bk h fun u4 I3 h=>Ab (FV.subc (i:=M1) (j:=P1) rfl rfl I3)<|Af rfl<|Aa<|Au ?_
 obtain ⟨W4,v3,c3⟩:=ao h
 refine MX.lf (α:=(List UInt64) × Int × (List UInt64) × Value × (List Value)) (fun ⟨F0,s0,p0,A0,x0⟩=>[(1,v1_0),(4,(.slice (some ⟨d0,0,none⟩) ((a0.length:Nat):Int).toNat ((a0.length:Nat):Int).toNat)),(5,A0),(8,vI s0)]) (fun ⟨F0,s0,p0,A0,x0⟩=>[rr w 28 UInt64 (.slice (some ⟨d0,0,none⟩) ((a0.length:Nat):Int).toNat ((a0.length:Nat):Int).toNat) p0.length x0]) (fun ⟨F0,s0,p0,A0,x0⟩ c1=>Rep.R c1 (bl [rr w 28 UInt64 (.slice (some ⟨d0,0,none⟩) ((a0.length:Nat):Int).toNat ((a0.length:Nat):Int).toNat) p0.length x0] ++ L) [A0] F0/\Cells c1 (bl [rr w 28 UInt64 (.slice (some ⟨d0,0,none⟩) ((a0.length:Nat):Int).toNat ((a0.length:Nat):Int).toNat) p0.length x0] ++ L) x0 p0) (fun ⟨F0,s0,p0,A0,x0⟩=>(F0,s0,p0)) (a0,u4,g1,v0_0,(List.replicate ((a0.length:Nat):Int).toNat [vW 0]).flatten) v3 t0 ⟨(AM h0_0 t0),u1⟩ ?_
 rintro F4 ⟨F0,s0,p0,A0,x0⟩ c1 u2 H0 F2 ⟨C1,W0⟩ h
 unfold ba_l2 at h
 try dsimp only at h
 refine Ai<|Ae<|Ac rfl<|Ab (FV.geq (i:=s0) (j:=0) rfl rfl)<|Aa<|AO rfl h (fun c2 h=>?_) (fun c2 h=>?_)
 refine Ap<|Ai<|Au<|Ae<|Ac rfl<|Ac rfl<|bk h fun v5 j4 h=>jE (bd 195) rfl (e2 rfl rfl) (fun w9 hw9=>cX_c n (H0.hL hL hw9) (H0.km h1_0 hw9) j4) rfl fun q5 b5 J2 ⟨X4,hu_,D1⟩=>?_
 subst hu_
 obtain ⟨D0,M0⟩:=H0.agr J2
 refine Af rfl<|Aa<|Ae<|Ac rfl<|Ac rfl<|bk h fun Q1 k4 h=>?_
 have Z0:=Aq C1 M0
 refine Bk (vI Q1) (bd 145) rfl (e2 rfl rfl) (fun w9 hw9=>ca_c n (D0.hL0 hL hw9) (D0.kd Z0 hw9) (D0.kd D1 hw9) k4) rfl<|Ab (FV.geq (i:=Q1) (j:=0) rfl rfl)<|Aa<|MX.jf (α:=(List UInt64) × (List UInt64) × Value × (List Value)) (fun ⟨G0,v0,E0,y0⟩=>[(1,v1_0),(4,(.slice (some ⟨d0,0,none⟩) ((a0.length:Nat):Int).toNat ((a0.length:Nat):Int).toNat)),(5,E0),(8,vI s0)]) (fun ⟨G0,v0,E0,y0⟩=>[rr w 28 UInt64 (.slice (some ⟨d0,0,none⟩) ((a0.length:Nat):Int).toNat ((a0.length:Nat):Int).toNat) v0.length y0]) (fun ⟨G0,v0,E0,y0⟩ d1=>Rep.R d1 (bl [rr w 28 UInt64 (.slice (some ⟨d0,0,none⟩) ((a0.length:Nat):Int).toNat ((a0.length:Nat):Int).toNat) v0.length y0] ++ L) [E0] G0/\Cells d1 (bl [rr w 28 UInt64 (.slice (some ⟨d0,0,none⟩) ((a0.length:Nat):Int).toNat ((a0.length:Nat):Int).toNat) v0.length y0] ++ L) y0 v0) (fun ⟨G0,v0,E0,y0⟩=>(G0,v0)) D0 h ?_ ?_
 rintro ⟨G0,v0,E0,y0⟩ d1 x2 G2 ⟨C3,Q2⟩ h
 try dsimp only at h
 refine Aw<|Am<|Ac rfl<|bk h fun v4 J3 h=>Ab (FV.subc (i:=s0) (j:=1) rfl rfl J3)<|Af rfl<|Aa<|u2 (G0,v4,v0,E0,y0) x2 (Tt F2 (Tt M0 G2)) ⟨C3,Q2⟩ h
 intro G4 k1 h
 try dsimp only at h
 refine AO rfl h (fun d2 h=>?_) (fun d2 h=>?_)
 refine Ae<|Ac rfl<|Ac rfl<|bk h fun x5 p4 h=>jE (bd 146) rfl (e2 rfl rfl) (fun w9 hw9=>cq_c n (D0.hL hL hw9) (Av Z0 hw9) (Av D1 hw9) p4) rfl fun s5 c5 K2 ⟨Y4,hu_,D3⟩=>?_
 subst hu_
 obtain ⟨p1,q1⟩:=D0.agr K2
 refine bk h fun R1 q4 h=>jE (bd 142) rfl (e2 rfl rfl) (fun w9 hw9=>ax_c n (p1.hL hL hw9) (Av D3 hw9) q4) rfl fun t5 d5 M2 ⟨G1,hu_,E3⟩=>?_
 subst hu_
 obtain ⟨U0,s1⟩:=p1.agr M2
 refine Ab (FV.field1 (cs:=[.bool R1.fc,G1]) (off:=1) (m:=1) rfl rfl rfl rfl)<|Af rfl<|Aa<|du 10 fun j0 u0=>Rv 0 j0 rfl u0 (fun _=>Ah rfl)<|Rv 1 j0 rfl u0 (fun _=>Ah rfl)<|bk h fun b1 K3 h=>Rv 2 j0 rfl u0 (fun _=>FV.quoc (i:=s0) (j:=64) rfl rfl K3)<|bk h fun K1 W3 h=>?_
 obtain ⟨y1,X3⟩:=aG W3
 have B1:=Ay W0 (Tt M0 (Tt q1 s1))
 obtain ⟨V1,M4,P0,Y0,q2,F3,t3⟩:=St.nth (α:=UInt64) U0 .hd B1 X3
 obtain ⟨Y1,P4,x1⟩:=BL (α:=UInt64) U0 .hd Y0
 obtain rfl:V1 = ⟨Y1,0,none⟩:=by rw [x1] at P0; cases P0; rfl
 have Z2:q2 = [vU K1]:=F3; subst Z2
 refine Rv 3 j0 rfl u0 (fun _=>Bi 1 (b1.toNat) rfl P0 rfl y1 Y0)<|Rx 4 1792 j0 rfl u0 (AN rfl (t3 0 _ rfl))<|Rv 5 j0 rfl u0 (fun _=>Ah rfl)<|bk h fun x4 M3 h=>Rv 6 j0 rfl u0 (fun _=>FV.remc (i:=s0) (j:=64) rfl rfl M3)<|bk h fun s4 p3 h=>Rv 7 j0 rfl u0 (fun _=>FV.shlI (a:=(1:UInt64)) (i:=x4) rfl rfl p3)<|Rv 8 j0 rfl u0 (fun _=>FV.orU (a:=K1) (b:=shlU (1:UInt64) s4) rfl rfl)<|Rv 9 j0 rfl u0 (fun _=>Bi 1 (b1.toNat) rfl P0 rfl y1 Y0)<|bk h fun A4 Z3 h=>BS (i:=10) (rk j0) (RO.acts (m' :=2047) (sk j0) rfl rfl .plain (Acts.set (α:=UInt64) (i:=b1.toNat) Z3 U0 x1 (fun _=>.hd) B1 rfl rfl rfl rfl rfl rfl) (fun u5 ⟨s2,y2,t1,R2⟩=>?_))
 refine AR (dk j0)<|k1 (R1.fu,A4,G1,s2) y2 (Tt q1 (Tt s1 t1)) ⟨(Aq E3 t1),R2⟩ h
 refine Ap<|k1 (F0,p0,A0,x0) D0 (Bw _ _) ⟨Z0,(Ay W0 M0)⟩ h
 refine AV rfl ?_
 have h:=c3 _ h
 try dsimp only at h
 refine Ae<|Ac rfl<|Ac rfl<|Af rfl<|Af rfl<|Aa<|Ak rfl ?_
 have K0:=Bq H0 .hd
 have H2:=Br H0 .hd
 have G3:=Bs (α:=UInt64) (v:=(.slice (some ⟨d0,0,none⟩) ((a0.length:Nat):Int).toNat ((a0.length:Nat):Int).toNat)) (xs:=p0) K0 L (Ba (α:=UInt64) H0 .hd W0 hL)
 refine Ar hb0 func172 rfl (.cons (.tmp rfl) (.cons (.tmp rfl) .nil)) rfl ?_
 cases h
 exact ⟨K0.ag,fun w9 hw9=>⟨(.slice (some ⟨d0,0,none⟩) ((a0.length:Nat):Int).toNat ((a0.length:Nat):Int).toNat),A0,rfl,K0.kd G3 hw9,K0.kd (Aq C1 H2) hw9⟩⟩
def aN_l1 (n:Nat) (d0:(List UInt64) × (List UInt64) -> Option (List UInt64)):(List UInt64) × (List UInt64) -> Option (List UInt64)
  | (c0,b0)=>(if 0 < b0.length then (ba_p n c0 b0).bind fun g0=>d0 (b0,g0.2) else some c0)
def aN_p (n:Nat) (a0:Tf) (a1:Tf):Option Tf:=
  Option.bind (ah (aN_l1 n) n (a0.fu,a1.fu)) (fun b0=>some (⟨false,b0⟩:Tf))
theorem aN_c (n:Nat) {L w} (hL:hl L w) (a0:Tf) {v0_1:Value} (h0_1:Rep.R w L [v0_1] a0.fu) (a1:Tf) {v1_1:Value} (h1_1:Rep.R w L [v1_1] a1.fu)  {r:Tf} (h:aN_p n a0 a1 = some r) :
 Cl 139 #[.agg #[.bool a0.fc,v0_1],.agg #[.bool a1.fc,v1_1]] w (ae w fun w' u=>∃ v0_1:Value,u = .agg #[.bool r.fc,v0_1]/\Rep.R w' L [v0_1] r.fu):=by
 unfold aN_p at h
 refine AF func139 rfl rfl rfl fun _ cs0 hb0=>Ae<|RG.bx (AC w) rfl rfl fun s1 W0 C0 Z0=>RG.bx C0 rfl rfl fun u1 X0 D0 b1=>RG.nl [.bool false,vN] D0 fun v1 p0 t0 c1=>Aa<|Ai<|du 6 fun d0 j0=>Rv 0 d0 rfl j0 (fun _=>Be 1 rfl)<|Rx 1 48 d0 rfl j0 (AN rfl ((t0.memA .t2) 1 _ rfl))<|Rv 2 d0 rfl j0 (fun _=>Be 1 rfl)<|Rx 3 32 d0 rfl j0 (AN rfl ((t0.memA .t1) 1 _ rfl))<|Rv 4 d0 rfl j0 (fun _=>Bm rfl)<|Rv 5 d0 rfl j0 (fun _=>Bm rfl)<|AR (dk d0)<|Ai<|Au ?_
 obtain ⟨u0,d1⟩:=AH t0 (.a0 .done)
 obtain ⟨k1,J0,I0⟩:=ao h
 refine MX.lf (α:=(List UInt64) × (List UInt64) × Value × Value) (fun ⟨k0,c0,b0,g0⟩=>[(4,vP p0),(5,b0),(6,g0)]) (fun ⟨k0,c0,b0,g0⟩=>[.cells p0 [.bool false,vN] 122]) (fun ⟨k0,c0,b0,g0⟩ y0=>Rep.R y0 (bl [.cells p0 [.bool false,vN] 122] ++ L) [b0] k0/\Rep.R y0 (bl [.cells p0 [.bool false,vN] 122] ++ L) [g0] c0) (fun ⟨k0,c0,b0,g0⟩=>(k0,c0)) (a0.fu,a1.fu,v0_1,v1_1) J0 u0 ⟨(AM h0_1 u0),(AM h1_1 u0)⟩ ?_
 rintro V0 ⟨k0,c0,b0,g0⟩ y0 B0 v0 F0 ⟨q0,s0⟩ h
 unfold aN_l1 at h
 try dsimp only at h
 refine Ai<|Ae<|Ac rfl ?_
 have g1:c0.length <= 281474976710656:=AS s0
 refine Ab (AW (xs:=c0) underlying75 rfl s0)<|Ab (FV.gtrN (i:=c0.length) (j:=0) rfl rfl)<|Aa<|AO rfl h (fun A0 h=>?_) (fun A0 h=>?_)
 refine Ap<|Au<|Ae<|Ac rfl<|Ac rfl<|bk h fun R0 P0 h=>jE (bd 172) rfl (e2 rfl rfl) (fun w9 hw9=>ba_c n (v0.hL hL hw9) (Av q0 hw9) (Av s0 hw9) P0) rfl fun x1 q1 H0 ⟨p1,Q0,hu_,j1,K0⟩=>?_
 subst hu_
 obtain ⟨E0,z0⟩:=v0.agr H0
 refine Ac rfl<|Ab (Aj rfl rfl)<|Ab (Aj rfl rfl)<|Af rfl<|Af rfl<|Aa<|Am<|Ac rfl<|Ac rfl<|Af rfl<|Af rfl<|Aa<|Aw<|B0 (c0,R0.2,g0,Q0) E0 (Tt F0 z0) ⟨(Aq s0 z0),K0⟩ h
 refine AV rfl ?_
 have h:=I0 _ h
 try dsimp only at h
 refine Ae<|Ac rfl ?_
 obtain ⟨U0,Y0,M0,_⟩:=BI q0
 refine Ab (AU (vs:=[b0]) (u:=.agg #[.bool false,b0]) (e1 rfl) (fun w9=>by rw [M0]; try kernel_rfl))<|AX [.bool false,b0] v0 .hd (o2 rfl (AY q0)) fun y1 x0 G0=>Aa<|Ak rfl<|Ar hb0 func139 rfl (.cons (.many (cs:=[.bool false,b0]) rfl rfl (x0.memA .hd)) .nil) rfl ?_
 cases h
 exact ⟨x0.ag,fun w9 hw9=>⟨b0,rfl,x0.kd (Aq q0 G0) hw9⟩⟩

def cF_l1 (_n:Nat) (xs4:List UInt64) (xs7:List UInt64) (k0:UInt64 × Nat × (List UInt64) -> Option ((List UInt64) × UInt64)):UInt64 × Nat × (List UInt64) -> Option ((List UInt64) × UInt64)
  | (g0,b0,c0)=>(if b0 < xs4.length then (xs4[b0]?).bind fun q0=>jn (fun p0=>(add64 q0 p0 g0).bind fun j0=>(c0[b0]?).bind fun _x199=>(put c0 ((b0:Nat):Int) j0.1).bind fun t0=>k0 (j0.2,b0 + 1,t0)) (fun d0=>(if b0 < xs7.length then (xs7[b0]?).bind fun s0=>d0 s0 else d0 (0:UInt64))) else some (c0,g0))
def cF_p (n:Nat) (a0:List UInt64) (a1:List UInt64):Option (List UInt64):=
  jn (fun (xs4,xs7)=>(mk ((xs4.length + 1:Nat):Int) (0:UInt64)).bind fun g0=>Option.bind (ah (cF_l1 n xs4 xs7) n (0,0,g0)) (fun (c0,d0)=>(c0[xs4.length]?).bind fun _x229=>(put c0 ((xs4.length:Nat):Int) d0).bind fun j0=>some j0)) (fun b0=>(if a0.length < a1.length then b0 (a1,a0) else b0 (a0,a1)))
theorem cF_c (n:Nat) {L w} (hL:hl L w) {a0:List UInt64} {v0_0:Value} (h0_0:Rep.R w L [v0_0] a0) {a1:List UInt64} {v1_0:Value} (h1_0:Rep.R w L [v1_0] a1)  {r:List UInt64} (h:cF_p n a0 a1 = some r) :
 Cl 144 #[v0_0,v1_0] w (ae w fun w' u=>∃ v0_0:Value,u = v0_0/\Rep.R w' L [v0_0] r):=by
 unfold cF_p at h
 have hS0:=AC w
 refine AF func144 rfl rfl rfl fun _ cs0 hb0=>Ae<|Af rfl<|Aa<|Ai<|Ae<|Ac rfl ?_
 have hl1:a0.length <= 281474976710656:=AS h0_0
 refine Ab (AW (xs:=a0) underlying75 rfl h0_0)<|Ac rfl ?_
 have hl2:a1.length <= 281474976710656:=AS h1_0
 refine Ab (AW (xs:=a1) underlying75 rfl h1_0)<|Ab (Bj (i:=a0.length) (j:=a1.length) rfl rfl)<|Aa<|MX.jf (α:=(List UInt64) × (List UInt64) × Value × Value) (fun ⟨xs4,xs7,v5,v8⟩=>[(0,v5),(1,v8)]) (fun ⟨xs4,xs7,v5,v8⟩=>[]) (fun ⟨xs4,xs7,v5,v8⟩ wx9=>Rep.R wx9 (bl [] ++ L) [v5] xs4/\Rep.R wx9 (bl [] ++ L) [v8] xs7) (fun ⟨xs4,xs7,v5,v8⟩=>(xs4,xs7)) hS0 h ?_ ?_
 rintro ⟨xs4,xs7,v5,v8⟩ wx9 q1 D2 ⟨hr6,hr9⟩ h
 try dsimp only at h
 refine Ae<|Ac rfl ?_
 have G2:xs4.length <= 281474976710656:=AS hr6
 refine Ab (AW (xs:=xs4) underlying75 rfl hr6)<|Ab (Bf (i:=xs4.length) (j:=1) rfl rfl (by omega))<|bk h fun R0 M0 h=>Ao .plain rfl (Does.mk (α:=UInt64) M0 q1 cT rfl) fun M2 j0 E0 s0=>Af rfl<|Aa<|Ae<|Af rfl<|Aa<|Ai<|Ae<|Ac rfl<|Ab (AW (xs:=xs4) underlying75 rfl (Aq hr6 s0))<|Ac rfl<|Aa<|Au ?_
 obtain ⟨K2,J1,E1⟩:=ao h
 refine MX.lf (α:=UInt64 × Nat × (List UInt64) × (List Value)) (fun ⟨g0,b0,c0,d0⟩=>[(0,v5),(1,v8),(5,(.slice (some ⟨j0,0,none⟩) ((xs4.length + 1:Nat):Int).toNat ((xs4.length + 1:Nat):Int).toNat)),(6,vU g0),(21,v5),(22,vI ((xs4.length:Nat):Int)),(23,vI ((b0:Nat):Int))]) (fun ⟨g0,b0,c0,d0⟩=>[rr w 28 UInt64 (.slice (some ⟨j0,0,none⟩) ((xs4.length + 1:Nat):Int).toNat ((xs4.length + 1:Nat):Int).toNat) c0.length d0]) (fun ⟨g0,b0,c0,d0⟩ P0=>Cells P0 (bl [rr w 28 UInt64 (.slice (some ⟨j0,0,none⟩) ((xs4.length + 1:Nat):Int).toNat ((xs4.length + 1:Nat):Int).toNat) c0.length d0] ++ L) d0 c0) (fun ⟨g0,b0,c0,d0⟩=>(g0,b0,c0)) (0,0,R0,(List.replicate ((xs4.length + 1:Nat):Int).toNat [vW 0]).flatten) J1 E0 (AB (cs:=(List.replicate ((xs4.length + 1:Nat):Int).toNat [vW 0]).flatten) (xs:=R0) E0 L (Cells.mk M0 rfl)) ?_
 rintro t2 ⟨g0,b0,c0,d0⟩ P0 p1 k0 q0 x0 h
 unfold cF_l1 at h
 try dsimp only at h
 refine Ae<|Ab (Bj (i:=b0) (j:=xs4.length) rfl rfl)<|Aa<|Ai<|AO rfl h (fun Y0 h=>?_) (fun Y0 h=>?_)
 refine Ap<|Ai<|Au<|Ae<|Ac rfl<|bk h fun B0 U1 h=>?_
 obtain ⟨p2,v2,y1,F1,c1,K1,H1⟩:=Bg (Aq hr6 (Tt s0 q0)) U1
 have z1:c1 = [vU B0]:=K1; subst z1
 refine Ab (Bi 1 b0 rfl y1 rfl rfl F1)<|AL rfl (H1 0 _ rfl)<|Af rfl<|Af rfl<|Aa<|Ae<|Af rfl<|Aa<|Ai<|Ae<|Ac rfl<|Ac rfl ?_
 have A0:=Aq hr9 (Tt s0 q0)
 have H2:xs7.length <= 281474976710656:=AS A0
 refine Ab (AW (xs:=xs7) underlying75 rfl A0)<|Ab (Bj (i:=b0) (j:=xs7.length) rfl rfl)<|Aa<|MX.jo (α:=UInt64) (fun p0=>[(0,v5),(1,v8),(5,(.slice (some ⟨j0,0,none⟩) ((xs4.length + 1:Nat):Int).toNat ((xs4.length + 1:Nat):Int).toNat)),(6,vU g0),(21,v5),(22,vI ((xs4.length:Nat):Int)),(23,vI ((b0:Nat):Int)),(7,vI ((b0:Nat):Int)),(8,vU B0),(9,vU p0)]) (fun p0=>[rr w 28 UInt64 (.slice (some ⟨j0,0,none⟩) ((xs4.length + 1:Nat):Int).toNat ((xs4.length + 1:Nat):Int).toNat) c0.length d0]) (fun p0=>p0) k0 h ?_ ?_
 rintro p0 R2 t0 F0 h
 try dsimp only at h
 refine Am<|Ac rfl<|Ac rfl<|Ac rfl<|Ac rfl<|Ac rfl<|bk h fun k2 b2 h=>Ab (FV.add64 (a:=B0) (b:=p0) (c:=g0) func173 rfl rfl rfl rfl rfl rfl rfl b2)<|Ac rfl<|Ab (Aj rfl rfl)<|Ab (Aj rfl rfl)<|bk h fun c2 V1 h=>?_
 have K0:=Ay x0 F0
 obtain ⟨U0,x2,y0,I0,d1,M1,I2⟩:=St.nth (α:=UInt64) t0 .hd K0 V1
 obtain ⟨W0,y2,G0⟩:=BL (α:=UInt64) t0 .hd I0
 obtain rfl:U0 = ⟨W0,0,none⟩:=by rw [G0] at y0; cases y0; rfl
 have A1:d1 = [vU c2]:=M1; subst A1
 refine Ab (Bi 1 b0 rfl y0 rfl rfl I0)<|bk h fun g2 Y1 h=>RG.acts' .plain (Acts.set (α:=UInt64) (i:=b0) Y1 t0 G0 (fun _=>.hd) K0 rfl rfl rfl rfl rfl rfl) fun P2 ⟨g1,s1,u1,v1⟩=>Af rfl<|Aa<|Aw<|Am<|Ab (Bf (i:=b0) (j:=1) rfl rfl (by omega))<|Ac rfl<|Aa<|p1 (k2.2,b0 + 1,g2,g1) s1 (Tt q0 (Tt F0 u1)) v1 h
 intro u2 D0 h
 try dsimp only at h
 refine AO rfl h (fun Z0 h=>?_) (fun Z0 h=>?_)
 refine Am<|Ac rfl<|Ac rfl<|bk h fun Q0 W1 h=>?_
 obtain ⟨q2,z2,B1,G1,j1,P1,I1⟩:=Bg A0 W1
 have C1:j1 = [vU Q0]:=P1; subst C1
 refine Ab (Bi 1 b0 rfl B1 rfl rfl G1)<|AL rfl (I1 0 _ rfl)<|Af rfl<|Aa<|D0 Q0 k0 (Bw _ _) h
 refine Ap<|D0 (0:UInt64) k0 (Bw _ _) h
 refine AV rfl ?_
 have h:=E1 _ h
 try dsimp only at h
 refine Ae<|Ac rfl<|Ac rfl<|Ab (AW (xs:=xs4) underlying75 rfl (Aq hr6 (Tt s0 q0)))<|Ac rfl<|bk h fun d2 X1 h=>?_
 obtain ⟨V0,A2,z0,J0,k1,Q1,J2⟩:=St.nth (α:=UInt64) k0 .hd x0 X1
 obtain ⟨X0,B2,H0⟩:=BL (α:=UInt64) k0 .hd J0
 obtain rfl:V0 = ⟨X0,0,none⟩:=by rw [H0] at z0; cases z0; rfl
 have D1:k1 = [vU d2]:=Q1; subst D1
 refine Ab (Bi 1 (xs4.length) rfl z0 rfl rfl J0)<|bk h fun j2 Z1 h=>RG.acts' .plain (Acts.set (α:=UInt64) (i:=xs4.length) Z1 k0 H0 (fun _=>.hd) x0 rfl rfl rfl rfl rfl rfl) fun Q2 ⟨C2,u0,E2,x1⟩=>Aa<|Ae<|Ac rfl<|Af rfl<|Aa<|Ak rfl ?_
 have v0:=Bq u0 .hd
 have F2:=Br u0 .hd
 have R1:=Bs (α:=UInt64) (v:=(.slice (some ⟨j0,0,none⟩) ((xs4.length + 1:Nat):Int).toNat ((xs4.length + 1:Nat):Int).toNat)) (xs:=j2) v0 L (Ba (α:=UInt64) u0 .hd x1 hL)
 refine AQ hb0 func144 rfl rfl ?_
 cases h
 exact ⟨v0.ag,fun w9 hw9=>⟨(.slice (some ⟨j0,0,none⟩) ((xs4.length + 1:Nat):Int).toNat ((xs4.length + 1:Nat):Int).toNat),rfl,v0.kd R1 hw9⟩⟩
 intro s2 C0 h
 try dsimp only at h
 refine AO rfl h (fun b1 h=>?_) (fun b1 h=>?_)
 refine Am<|Ac rfl<|Ac rfl<|Af rfl<|Af rfl<|Aa<|C0 (a1,a0,v1_0,v0_0) hS0 (Bw _ _) ⟨h1_0,h0_0⟩ h
 refine Ap<|C0 (a0,a1,v0_0,v1_0) hS0 (Bw _ _) ⟨h0_0,h1_0⟩ h
def bY_p (n:Nat) (a0:Tf) (a1:Tf):Option Tf:=
  (if (a0.fc == a1.fc) = true then (cF_p n a0.fu a1.fu).bind fun j0=>(ax_p n a0.fc j0).bind fun k0=>some k0 else (ca_p n a0.fu a1.fu).bind fun p0=>jn (fun (_q58,d0,c0,g0)=>(cq_p n g0 d0).bind fun q0=>(ax_p n c0 q0).bind fun s0=>some s0) (fun b0=>(if p0 < 0 then b0 (a0.fc,a0.fu,a1.fc,a1.fu) else b0 (a1.fc,a1.fu,a0.fc,a0.fu))))
theorem bY_c (n:Nat) {L w} (hL:hl L w) (a0:Tf) {v0_1:Value} (h0_1:Rep.R w L [v0_1] a0.fu) (a1:Tf) {v1_1:Value} (h1_1:Rep.R w L [v1_1] a1.fu)  {r:Tf} (h:bY_p n a0 a1 = some r) :
 Cl 103 #[.agg #[.bool a0.fc,v0_1],.agg #[.bool a1.fc,v1_1]] w (ae w fun w' u=>∃ v0_1:Value,u = .agg #[.bool r.fc,v0_1]/\Rep.R w' L [v0_1] r.fu):=by
 unfold bY_p at h
 refine AF func103 rfl rfl rfl fun _ cs0 hb0=>Ae<|RG.bx (AC w) rfl rfl fun Y1 y0 X0 F1=>RG.bx X0 rfl rfl fun Z1 z0 Y0 G1=>RG.nl [.bool false,vN] Y0 fun b2 A0 b0 H1=>Aa<|Ai<|Ae<|AT 0 rfl<|AL rfl ((b0.memA .t2) 0 _ rfl)<|AT 0 rfl<|AL rfl ((b0.memA .t1) 0 _ rfl)<|Ab (FV.eqlB (a:=a0.fc) (b:=a1.fc) underlying4 rfl rfl)<|Aa<|MX.ifb rfl h (fun V0 h=>?_) (fun V0 h=>?_)
 refine Ai<|du 8 fun c0 s0=>Rv 0 c0 rfl s0 (fun _=>Be 0 rfl)<|Rx 1 384 c0 rfl s0 (AN rfl ((b0.memA .t2) 0 _ rfl))<|Rv 2 c0 rfl s0 (fun _=>Be 1 rfl)<|Rx 3 448 c0 rfl s0 (AN rfl ((b0.memA .t2) 1 _ rfl))<|Rv 4 c0 rfl s0 (fun _=>Be 1 rfl)<|Rx 5 448 c0 rfl s0 (AN rfl ((b0.memA .t1) 1 _ rfl))<|bk h fun u2 z1 h=>Bu 6 127 c0 rfl .plain (bd 144) rfl (e2 rfl rfl) (fun w9 hw9=>cF_c n (b0.hL hL hw9) (b0.km h0_1 hw9) (b0.km h1_1 hw9) z1) rfl fun c2 U1 k1 ⟨Q1,hu_,u1⟩=>?_
 subst hu_
 obtain ⟨I0,I1⟩:=b0.agr k1
 refine bk h fun Q0 A1 h=>Bu 7 255 c0 rfl .plain (bd 142) rfl (e2 rfl rfl) (fun w9 hw9=>ax_c n (I0.hL hL hw9) (Av u1 hw9) A1) rfl fun d2 V1 p1 ⟨E0,hu_,M0⟩=>?_
 subst hu_
 obtain ⟨Z0,J1⟩:=I0.agr p1
 refine BB 8 511 c0 rfl rfl .plain (AD (news:=[.bool Q0.fc,E0]) Z0 .hd rfl rfl rfl rfl rfl rfl (o2 rfl (AY M0))) fun g2 C0 d1=>AR (dk c0)<|Ak rfl<|Ar hb0 func103 rfl (.cons (.many (cs:=[.bool Q0.fc,E0]) rfl rfl (C0.memA .hd)) .nil) rfl ?_
 cases h
 exact ⟨C0.ag,fun w9 hw9=>⟨E0,rfl,C0.kd (Aq M0 d1) hw9⟩⟩
 refine Ap<|Ai<|Ae<|AT 1 rfl<|AL rfl ((b0.memA .t2) 1 _ rfl)<|AT 1 rfl<|AL rfl ((b0.memA .t1) 1 _ rfl)<|bk h fun R0 B1 h=>Bk (vI R0) (bd 145) rfl (e2 rfl rfl) (fun w9 hw9=>ca_c n (b0.hL0 hL hw9) (b0.k0 h0_1 hw9) (b0.k0 h1_1 hw9) B1) rfl<|Ab (BO (i:=R0) (j:=0) rfl rfl)<|Aa<|MX.jf (α:=Bool × (List UInt64) × Bool × (List UInt64) × Value × Value) (fun ⟨g0,u0,j0,v0,p0,q0⟩=>[(2,vP y0),(3,vP z0),(4,vP A0)]) (fun ⟨g0,u0,j0,v0,p0,q0⟩=>[.cells A0 [.bool false,vN] 122,.cells z0 [.bool g0,p0] 122,.cells y0 [.bool j0,q0] 122]) (fun ⟨g0,u0,j0,v0,p0,q0⟩ G0=>Rep.R G0 (bl [.cells A0 [.bool false,vN] 122,.cells z0 [.bool g0,p0] 122,.cells y0 [.bool j0,q0] 122] ++ L) [p0] u0/\Rep.R G0 (bl [.cells A0 [.bool false,vN] 122,.cells z0 [.bool g0,p0] 122,.cells y0 [.bool j0,q0] 122] ++ L) [q0] v0) (fun ⟨g0,u0,j0,v0,p0,q0⟩=>(g0,u0,j0,v0)) b0 h ?_ ?_
 rintro ⟨g0,u0,j0,v0,p0,q0⟩ G0 x0 K1 ⟨v1,x1⟩ h
 try dsimp only at h
 refine Ai<|du 8 fun d0 t0=>Rv 0 d0 rfl t0 (fun _=>Be 0 rfl)<|Rx 1 384 d0 rfl t0 (AN rfl ((x0.memA .t2) 0 _ rfl))<|Rv 2 d0 rfl t0 (fun _=>Be 1 rfl)<|Rx 3 448 d0 rfl t0 (AN rfl ((x0.memA .t2) 1 _ rfl))<|Rv 4 d0 rfl t0 (fun _=>Be 1 rfl)<|Rx 5 448 d0 rfl t0 (AN rfl ((x0.memA .t1) 1 _ rfl))<|bk h fun v2 C1 h=>Bu 6 127 d0 rfl .plain (bd 146) rfl (e2 rfl rfl) (fun w9 hw9=>cq_c n (x0.hL hL hw9) (Av x1 hw9) (Av v1 hw9) C1) rfl fun j2 W1 q1 ⟨R1,hu_,y1⟩=>?_
 subst hu_
 obtain ⟨J0,M1⟩:=x0.agr q1
 refine bk h fun U0 D1 h=>Bu 7 255 d0 rfl .plain (bd 142) rfl (e2 rfl rfl) (fun w9 hw9=>ax_c n (J0.hL hL hw9) (Av y1 hw9) D1) rfl fun k2 X1 s1 ⟨F0,hu_,P0⟩=>?_
 subst hu_
 obtain ⟨b1,P1⟩:=J0.agr s1
 refine BB 8 511 d0 rfl rfl .plain (AD (news:=[.bool U0.fc,F0]) b1 .hd rfl rfl rfl rfl rfl rfl (o2 rfl (AY P0))) fun p2 D0 g1=>AR (dk d0)<|Ak rfl<|Ar hb0 func103 rfl (.cons (.many (cs:=[.bool U0.fc,F0]) rfl rfl (D0.memA .hd)) .nil) rfl ?_
 cases h
 exact ⟨D0.ag,fun w9 hw9=>⟨F0,rfl,D0.kd (Aq P0 g1) hw9⟩⟩
 intro E1 H0 h
 try dsimp only at h
 refine AO rfl h (fun W0 h=>?_) (fun W0 h=>?_)
 refine Am<|Ab (AK rfl (b0.memA .t1))<|Ab (AK rfl (b0.memA .t2))<|AX [.bool a1.fc,v1_1] b0 .t2 (o2 rfl (AY (AM h1_1 b0))) fun q2 K0 j1=>AX [.bool a0.fc,v0_1] K0 .t1 (o2 rfl (AY (AM h0_1 K0))) fun s2 B0 c1=>Aa<|H0 (a0.fc,a0.fu,a1.fc,a1.fu,v0_1,v1_1) B0 (Tt j1 c1) ⟨(AM h0_1 B0),(AM h1_1 B0)⟩ h
 refine Ap<|H0 (a1.fc,a1.fu,a0.fc,a0.fu,v1_1,v0_1) b0 (Bw _ _) ⟨(AM h1_1 b0),(AM h0_1 b0)⟩ h
def ck_p (n:Nat) (a0:Tf) (a1:Tf):Option (Tf × Tf):=
  (ba_p n a0.fu a1.fu).bind fun c0=>(ax_p n (!(a0.fc == a1.fc)) c0.1).bind fun d0=>(ax_p n a0.fc c0.2).bind fun b0=>(if b0.fc = true then (bY_p n b0 (⟨false,a1.fu⟩:Tf)).bind fun j0=>(bY_p n d0 (⟨(!a1.fc),([(1:UInt64)]:List UInt64)⟩:Tf)).bind fun g0=>some (g0,j0) else some (d0,b0))
theorem ck_c (n:Nat) {L w} (hL:hl L w) (a0:Tf) {v0_1:Value} (h0_1:Rep.R w L [v0_1] a0.fu) (a1:Tf) {v1_1:Value} (h1_1:Rep.R w L [v1_1] a1.fu)  {r:Tf × Tf} (h:ck_p n a0 a1 = some r) :
 Cl 140 #[.agg #[.bool a0.fc,v0_1],.agg #[.bool a1.fc,v1_1]] w (ae w fun w' u=>∃ v0_1 v1_1:Value,u = .tuple #[.agg #[.bool r.1.fc,v0_1],.agg #[.bool r.2.fc,v1_1]]/\Rep.R w' L [v0_1] r.1.fu/\Rep.R w' L [v1_1] r.2.fu):=by
 unfold ck_p at h
 refine AF func140 rfl rfl rfl fun _ cs0 hb0=>Ae<|RG.bx (AC w) rfl rfl fun x3 R2 K1 X2=>RG.bx K1 rfl rfl fun B3 U2 R1 Y2=>RG.nl [.bool false,vN] R1 fun C3 J0 U1 Z2=>RG.nl [.bool false,vN] U1 fun E3 K0 p0 b3=>Aa<|Ae<|AT 1 rfl<|AL rfl ((p0.memA .t3) 1 _ rfl)<|AT 1 rfl<|AL rfl ((p0.memA .t2) 1 _ rfl)<|bk h fun W3 G2 h=>jE (bd 172) rfl (e2 rfl rfl) (fun w9 hw9=>ba_c n (p0.hL hL hw9) (p0.km h0_1 hw9) (p0.km h1_1 hw9) G2) rfl fun F3 k3 u2 ⟨d3,g3,hu_,C2,D2⟩=>?_
 subst hu_
 obtain ⟨D0,c3⟩:=p0.agr u2
 refine Ac rfl<|Ab (Aj rfl rfl)<|Ab (Aj rfl rfl)<|Af rfl<|Af rfl<|Aa<|Ai<|du 11 fun b0 d0=>Rv 0 b0 rfl d0 (fun _=>Be 0 rfl)<|Rx 1 7248 b0 rfl d0 (AN rfl ((D0.memA .t3) 0 _ rfl))<|Rv 2 b0 rfl d0 (fun _=>Be 0 rfl)<|Rx 3 7248 b0 rfl d0 (AN rfl ((D0.memA .t2) 0 _ rfl))<|Rv 4 b0 rfl d0 (fun _=>FV.neqB (a:=a0.fc) (b:=a1.fc) underlying4 rfl rfl)<|Rv 5 b0 rfl d0 (fun _=>Ah rfl)<|Rv 7 b0 rfl d0 (fun _=>Be 0 rfl)<|Rx 8 7168 b0 rfl d0 (AN rfl ((D0.memA .t3) 0 _ rfl))<|Rv 9 b0 rfl d0 (fun _=>Ah rfl)<|bk h fun x0 H2 h=>Bu 6 1023 b0 rfl .plain (bd 142) rfl (e2 rfl rfl) (fun w9 hw9=>ax_c n (D0.hL hL hw9) (Av C2 hw9) H2) rfl fun G3 p3 v2 ⟨t0,hu_,G0⟩=>?_
 subst hu_
 obtain ⟨s1,p2⟩:=D0.agr v2
 refine bk h fun y0 I2 h=>Bu 10 2047 b0 rfl .plain (bd 142) rfl (e2 rfl rfl) (fun w9 hw9=>ax_c n (s1.hL hL hw9) (Av (Aq D2 p2) hw9) I2) rfl fun H3 q3 x2 ⟨u0,hu_,X0⟩=>?_
 subst hu_
 obtain ⟨Y1,F0⟩:=s1.agr x2
 refine BB 11 4095 b0 rfl rfl .plain (AD (news:=[.bool x0.fc,t0]) Y1 .t1 rfl rfl rfl rfl rfl rfl (o2 rfl (AY (Aq G0 F0)))) fun I3 Z1 k0=>BB 12 8191 b0 rfl rfl .plain (AD (news:=[.bool y0.fc,u0]) Z1 .hd rfl rfl rfl rfl rfl rfl (o2 rfl (AY (Aq X0 k0)))) fun J3 c0 q0=>AR (dk b0)<|Ai<|Ae<|AT 0 rfl<|AL rfl ((c0.memA .hd) 0 _ rfl)<|Aa<|MX.ifb rfl h (fun I1 h=>?_) (fun I1 h=>?_)
 refine Ae<|AT 1 rfl<|AL rfl ((c0.memA .t2) 1 _ rfl) ?_
 obtain ⟨P2,W2,E2,_⟩:=BI (AM h1_1 c0)
 refine Ab (AU (vs:=[v1_1]) (u:=.agg #[.bool false,v1_1]) (e1 rfl) (fun w9=>by rw [E2]; try kernel_rfl))<|RG.nl [.bool false,vN] c0 fun K3 V2 u1 C1=>AX [.bool false,v1_1] u1 .hd (o2 rfl (AY (AM h1_1 u1))) fun M3 E0 D1=>Aa<|Ae<|Ab (AK rfl (E0.memA .t1))<|Ab (AK rfl (E0.memA .hd))<|bk h fun I0 J2 h=>jE (bd 103) rfl (e2 rfl rfl) (fun w9 hw9=>bY_c n (E0.hL hL hw9) y0 (Av (Aq X0 (Tt k0 (Tt q0 (Tt C1 D1)))) hw9) (⟨false,a1.fu⟩:Tf) (E0.km h1_1 hw9) J2) rfl fun P3 s3 y2 ⟨v0,hu_,j1⟩=>?_
 subst hu_
 obtain ⟨b2,q2⟩:=E0.agr y2
 refine AX [.bool I0.fc,v0] b2 .t1 (o2 rfl (AY j1)) fun Q3 v1 d1=>Aa<|Ae<|AT 0 rfl<|AL rfl ((v1.memA .t3) 0 _ rfl)<|Ab (Bp rfl)<|Ao .plain rfl (jA ((1:UInt64)) (vW 1) v1 cT (e1 rfl)) fun R3 M0 x1 g1=>Ab (AU (vs:=[.bool (!a1.fc),(vS M0 1)]) (u:=.agg #[.bool (!a1.fc),(vS M0 1)]) (e2 rfl rfl) (fun w9=>by kernel_rfl))<|RG.nl [.bool false,vN] x1 fun u3 Q2 q1 R0=>AX [.bool (!a1.fc),(vS M0 1)] q1 .hd (o2 rfl (St.o1 (α:=UInt64) q1 .t1)) fun v3 z0 U0=>Aa<|Am<|Ab (AK rfl (z0.memA .t4))<|Ab (AK rfl (z0.memA .hd)) ?_
 have Y0:=Bq z0 .t1
 have Z0:=Br z0 .t1
 refine bk h fun H0 F2 h=>jE (bd 103) rfl (e2 rfl rfl) (fun w9 hw9=>bY_c n (Y0.hL hL hw9) x0 (Av (Aq G0 (Tt F0 (Tt k0 (Tt q0 (Tt C1 (Tt D1 (Tt q2 (Tt d1 (Tt g1 (Tt R0 (Tt U0 Z0))))))))))) hw9) (⟨(!a1.fc),([(1:UInt64)]:List UInt64)⟩:Tf) (Av (Bs (α:=UInt64) (v:=(vS M0 1)) (xs:=([(1:UInt64)]:List UInt64)) Y0 L (Ba (α:=UInt64) z0 .t1 (Ay (jC ((1:UInt64)) (vW 1) x1 L rfl) (Tt R0 U0)) hL)) hw9) F2) rfl fun y3 j3 s2 ⟨s0,hu_,W0⟩=>?_
 subst hu_
 obtain ⟨J1,y1⟩:=Y0.agr s2
 refine AX [.bool H0.fc,s0] J1 .t3 (o2 rfl (AY W0)) fun z3 A0 V0=>Aa<|Ai<|du 2 fun g0 G1=>Rx 0 12 g0 rfl G1 (AK rfl (A0.memA .t3))<|RD.mo (α:=Unit) (fun ()=>[(4,vP J0),(5,vP K0),(46,.agg #[.bool I0.fc,v0])]) (fun ()=>[.cells K0 [.bool I0.fc,v0] 122,.cells J0 [.bool H0.fc,s0] 122]) A0 1 7 ?_ ?_
 rintro ⟨⟩ U3 M1 z1
 try dsimp only
 refine BB 3 15 g0 rfl rfl .plain (AD (news:=[.bool I0.fc,v0]) M1 .hd rfl rfl rfl rfl rfl rfl (o2 rfl (AY (Aq j1 (Tt d1 (Tt g1 (Tt R0 (Tt U0 (Tt Z0 (Tt y1 (Tt V0 z1))))))))))) fun A3 B0 c2=>AR (dk g0)<|Ak rfl<|Ar hb0 func140 rfl (.cons (.many (cs:=[.bool H0.fc,s0]) rfl rfl (B0.memA .t1)) (.cons (.many (cs:=[.bool I0.fc,v0]) rfl rfl (B0.memA .hd)) .nil)) rfl ?_
 cases h
 have E1:=Tt V0 (Tt z1 c2)
 exact ⟨B0.ag,fun w9 hw9=>⟨s0,v0,rfl,B0.kd (Aq W0 E1) hw9,B0.kd (Aq j1 (Tt d1 (Tt g1 (Tt R0 (Tt U0 (Tt Z0 (Tt y1 E1))))))) hw9⟩⟩
 intro k1
 refine By [1,2] (rk g0) ⟨?_,?_,trivial⟩
 refine RO.val (m' :=3) (sk g0) rfl .plain rfl (AK rfl (A0.memA .t2)) ?_
 have A2:=Aq W0 V0
 refine BB 2 7 g0 rfl rfl .plain (AD (news:=[.bool H0.fc,s0]) A0 .t3 rfl rfl rfl rfl rfl rfl (o2 rfl (AY A2))) fun M2 Q0 c1=>?_
 obtain ⟨P1,d2⟩:=AH Q0 (.a2 (.a2 .done))
 exact k1 () P1 (Tt c1 d2)
 refine RO.now (m' :=5) (sk g0) rfl rfl .plain (AD (news:=[.bool H0.fc,s0]) A0 .t3 rfl rfl rfl rfl rfl rfl (o2 rfl (AY (Aq W0 V0)))) fun M2 Q0 c1=>Rx 1 8 g0 rfl G1 (AK rfl (Q0.memA .t2)) ?_
 obtain ⟨Q1,g2⟩:=AH Q0 (.a2 (.a2 .done))
 exact k1 () Q1 (Tt c1 g2)
 refine Ap<|Ai<|du 2 fun j0 H1=>Rx 0 12 j0 rfl H1 (AK rfl (c0.memA .t1))<|RD.mo (α:=Unit) (fun ()=>[(4,vP J0),(5,vP K0),(46,.agg #[.bool y0.fc,u0])]) (fun ()=>[.cells K0 [.bool y0.fc,u0] 122,.cells J0 [.bool x0.fc,t0] 122]) c0 1 7 ?_ ?_
 rintro ⟨⟩ V3 V1 A1
 try dsimp only
 have F1:=Tt k0 (Tt q0 A1)
 refine BB 3 15 j0 rfl rfl .plain (AD (news:=[.bool y0.fc,u0]) V1 .hd rfl rfl rfl rfl rfl rfl (o2 rfl (AY (Aq X0 F1)))) fun D3 C0 B1=>AR (dk j0)<|Ak rfl<|Ar hb0 func140 rfl (.cons (.many (cs:=[.bool x0.fc,t0]) rfl rfl (C0.memA .t1)) (.cons (.many (cs:=[.bool y0.fc,u0]) rfl rfl (C0.memA .hd)) .nil)) rfl ?_
 cases h
 exact ⟨C0.ag,fun w9 hw9=>⟨t0,u0,rfl,C0.kd (Aq G0 (Tt F0 (Tt k0 (Tt q0 (Tt A1 B1))))) hw9,C0.kd (Aq X0 (Tt F1 B1)) hw9⟩⟩
 intro p1
 refine By [1,2] (rk j0) ⟨?_,?_,trivial⟩
 refine RO.val (m' :=3) (sk j0) rfl .plain rfl (AK rfl (c0.memA .hd)) ?_
 have B2:=Tt F0 (Tt k0 q0)
 have z2:=Aq G0 B2
 refine BB 2 7 j0 rfl rfl .plain (AD (news:=[.bool x0.fc,t0]) c0 .t1 rfl rfl rfl rfl rfl rfl (o2 rfl (AY z2))) fun K2 P0 b1=>?_
 obtain ⟨W1,j2⟩:=AH P0 (.a0 (.a0 .done))
 exact p1 () W1 (Tt b1 j2)
 refine RO.now (m' :=5) (sk j0) rfl rfl .plain (AD (news:=[.bool x0.fc,t0]) c0 .t1 rfl rfl rfl rfl rfl rfl (o2 rfl (AY (Aq G0 (Tt F0 (Tt k0 q0)))))) fun K2 P0 b1=>Rx 1 8 j0 rfl H1 (AK rfl (P0.memA .hd)) ?_
 obtain ⟨X1,k2⟩:=AH P0 (.a0 (.a0 .done))
 exact p1 () X1 (Tt b1 k2)
def bZ_p (n:Nat) (a0:Tf):Option Tf:=
  (ax_p n (!a0.fc) a0.fu).bind fun b0=>some b0
theorem bZ_c (n:Nat) {L w} (hL:hl L w) (a0:Tf) {v0_1:Value} (h0_1:Rep.R w L [v0_1] a0.fu)  {r:Tf} (h:bZ_p n a0 = some r) :
 Cl 141 #[.agg #[.bool a0.fc,v0_1]] w (ae w fun w' u=>∃ v0_1:Value,u = .agg #[.bool r.fc,v0_1]/\Rep.R w' L [v0_1] r.fu):=by
 unfold bZ_p at h
 refine AF func141 rfl rfl rfl fun _ cs0 hb0=>Ae<|RG.bx (AC w) rfl rfl fun B0 u0 k0 x0=>RG.nl [.bool false,vN] k0 fun C0 v0 b0 y0=>Aa<|Ae<|AT 0 rfl<|AL rfl ((b0.memA .t1) 0 _ rfl)<|Ab (Bp rfl)<|AT 1 rfl<|AL rfl ((b0.memA .t1) 1 _ rfl)<|bk h fun j0 t0 h=>jE (bd 142) rfl (e2 rfl rfl) (fun w9 hw9=>ax_c n (b0.hL hL hw9) (b0.km h0_1 hw9) t0) rfl fun D0 A0 s0 ⟨d0,hu_,g0⟩=>?_
 subst hu_
 obtain ⟨p0,z0⟩:=b0.agr s0
 refine AX [.bool j0.fc,d0] p0 .hd (o2 rfl (AY g0)) fun E0 c0 q0=>Aa<|Ak rfl<|Ar hb0 func141 rfl (.cons (.many (cs:=[.bool j0.fc,d0]) rfl rfl (c0.memA .hd)) .nil) rfl ?_
 cases h
 exact ⟨c0.ag,fun w9 hw9=>⟨d0,rfl,c0.kd (Aq g0 q0) hw9⟩⟩
def ci_p (n:Nat) (a0:Tf) (a1:Tf):Option Ti:=
  (aN_p n a0 a1).bind fun c0=>(ck_p n a0 c0).bind fun d0=>(ck_p n a1 c0).bind fun b0=>(if b0.1.fc = true then (bZ_p n d0.1).bind fun g0=>(bZ_p n b0.1).bind fun j0=>some (⟨g0,j0⟩:Ti) else some (⟨d0.1,b0.1⟩:Ti))
theorem ci_c (n:Nat) {L w} (hL:hl L w) (a0:Tf) {v0_1:Value} (h0_1:Rep.R w L [v0_1] a0.fu) (a1:Tf) {v1_1:Value} (h1_1:Rep.R w L [v1_1] a1.fu)  {r:Ti} (h:ci_p n a0 a1 = some r) :
 Cl 101 #[.agg #[.bool a0.fc,v0_1],.agg #[.bool a1.fc,v1_1]] w (ae w fun w' u=>∃ v0_1 v0_3:Value,u = .agg #[.bool r.fG.fc,v0_1,.bool r.fy.fc,v0_3]/\Rep.R w' L [v0_1] r.fG.fu/\Rep.R w' L [v0_3] r.fy.fu):=by
 unfold ci_p at h
 refine AF func101 rfl rfl rfl fun _ cs0 hb0=>Ae<|RG.bx (AC w) rfl rfl fun k3 D2 z1 U2=>RG.bx z1 rfl rfl fun x3 E2 C1 V2=>RG.nl [.bool false,vN,.bool false,vN] C1 fun y3 F2 j0 W2=>Aa<|Ae<|Ab (AK rfl (j0.memA .t2))<|Ab (AK rfl (j0.memA .t1))<|bk h fun X0 q2 h=>jE (bd 139) rfl (e2 rfl rfl) (fun w9 hw9=>aN_c n (j0.hL hL hw9) a0 (j0.km h0_1 hw9) a1 (j0.km h1_1 hw9) q2) rfl fun z3 b3 W1 ⟨v2,hu_,W0⟩=>?_
 subst hu_
 obtain ⟨D1,X2⟩:=j0.agr W1
 refine RG.nl [.bool false,vN] D1 fun A3 G2 E1 J0=>AX [.bool X0.fc,v2] E1 .hd (o2 rfl (AY (Aq W0 J0))) fun B3 t0 d1=>Aa<|Ae<|Ab (AK rfl (t0.memA .t3))<|Ab (AK rfl (t0.memA .hd))<|bk h fun d0 s2 h=>jE (bd 140) rfl (e2 rfl rfl) (fun w9 hw9=>ck_c n (t0.hL hL hw9) a0 (t0.km h0_1 hw9) X0 (Av (Aq W0 (Tt J0 d1)) hw9) s2) rfl fun C3 c3 X1 ⟨q0,x2,hu_,F0,Z1⟩=>?_
 subst hu_
 obtain ⟨F1,R1⟩:=t0.agr X1
 refine Ac rfl<|Ab (Aj rfl rfl)<|Ab (Aj rfl rfl)<|RG.nl [.bool false,vN] F1 fun D3 H2 G1 K0=>RG.nl [.bool false,vN] G1 fun E3 I2 H1 M0=>AX [.bool d0.1.fc,q0] H1 .t1 (o2 rfl (AY (Aq F0 (Tt K0 M0)))) fun F3 I1 g1=>?_
 have R0:=Tt K0 (Tt M0 g1)
 refine AX [.bool d0.2.fc,x2] I1 .hd (o2 rfl (AY (Aq Z1 R0))) fun G3 u0 P0=>Aa<|Ae<|Ab (AK rfl (u0.memA .t4))<|Ab (AK rfl (u0.memA .t2))<|bk h fun g0 u2 h=>jE (bd 140) rfl (e2 rfl rfl) (fun w9 hw9=>ck_c n (u0.hL hL hw9) a1 (u0.km h1_1 hw9) X0 (Av (Aq W0 (Tt J0 (Tt d1 (Tt R1 (Tt K0 (Tt M0 (Tt g1 P0))))))) hw9) u2) rfl fun H3 d3 Y1 ⟨s0,y2,hu_,G0,b2⟩=>?_
 subst hu_
 obtain ⟨J1,j1⟩:=u0.agr Y1
 refine Ac rfl<|Ab (Aj rfl rfl)<|Ab (Aj rfl rfl)<|RG.nl [.bool false,vN] J1 fun I3 J2 K1 C0=>RG.nl [.bool false,vN] K1 fun J3 K2 M1 D0=>AX [.bool g0.1.fc,s0] M1 .t1 (o2 rfl (AY (Aq G0 (Tt C0 D0)))) fun K3 P1 Q0=>?_
 have E0:=Tt C0 (Tt D0 Q0)
 refine AX [.bool g0.2.fc,y2] P1 .hd (o2 rfl (AY (Aq b2 E0))) fun g3 b0 v0=>Aa<|Ai<|Ae<|AT 0 rfl<|AL rfl ((b0.memA .t1) 0 _ rfl)<|Aa<|MX.ifb rfl h (fun y1 h=>?_) (fun y1 h=>?_)
 refine du 4 fun c0 x1=>Rx 0 58 c0 rfl x1 (AK rfl (b0.memA .t3))<|Rx 2 56 c0 rfl x1 (AK rfl (b0.memA .t1))<|bk h fun x0 k2 h=>Bu 1 7 c0 rfl .plain (bd 141) rfl (e1 rfl) (fun w9 hw9=>bZ_c n (b0.hL hL hw9) d0.1 (Av (Aq F0 (Tt R0 (Tt P0 (Tt j1 (Tt C0 (Tt D0 (Tt Q0 v0))))))) hw9) k2) rfl fun j3 Y2 U1 ⟨k0,hu_,U0⟩=>?_
 subst hu_
 obtain ⟨Y0,Q1⟩:=b0.agr U1
 refine bk h fun y0 p2 h=>Bu 3 15 c0 rfl .plain (bd 141) rfl (e1 rfl) (fun w9 hw9=>bZ_c n (Y0.hL hL hw9) g0.1 (Av (Aq G0 (Tt E0 (Tt v0 Q1))) hw9) p2) rfl fun p3 Z2 V1 ⟨p0,hu_,V0⟩=>?_
 subst hu_
 obtain ⟨A1,Z0⟩:=Y0.agr V1
 refine BB 4 31 c0 rfl rfl .plain (AD (news:=[.bool x0.fc,k0]) A1 .t3 rfl rfl rfl rfl rfl rfl (o2 rfl (AY (Aq U0 Z0)))) fun q3 B1 B0=>BB 5 63 c0 rfl rfl .plain (AD (news:=[.bool y0.fc,p0]) B1 .t1 rfl rfl rfl rfl rfl rfl (o2 rfl (AY (Aq V0 B0)))) fun s3 H0 I0=>AR (dk c0)<|Ae<|Ab (AK rfl (H0.memA .t3))<|Ab (AK rfl (H0.memA .t1)) ?_
 have u1:=Tt Z0 (Tt B0 I0)
 have k1:=Aq U0 u1
 obtain ⟨z2,M2,c2,_⟩:=BI k1
 have p1:=Aq V0 (Tt B0 I0)
 obtain ⟨A2,P2,d2,_⟩:=BI p1
 refine Ab (AU (vs:=[.agg #[.bool x0.fc,k0],.agg #[.bool y0.fc,p0]]) (u:=.agg #[.bool x0.fc,k0,.bool y0.fc,p0]) (e2 rfl rfl) (fun w9=>by rw [c2,d2]; try kernel_rfl))<|AX [.bool x0.fc,k0,.bool y0.fc,p0] H0 .t5 (o4 rfl (AY k1) rfl (AY p1)) fun u3 z0 b1=>Aa<|Ak rfl<|Ar hb0 func101 rfl (.cons (.many (cs:=[.bool x0.fc,k0,.bool y0.fc,p0]) rfl rfl (z0.memA .t5)) .nil) rfl ?_
 cases h
 exact ⟨z0.ag,fun w9 hw9=>⟨k0,p0,rfl,z0.kd (Aq U0 (Tt u1 b1)) hw9,z0.kd (Aq V0 (Tt B0 (Tt I0 b1))) hw9⟩⟩
 refine Ap<|Ae<|Ab (AK rfl (b0.memA .t3))<|Ab (AK rfl (b0.memA .t1)) ?_
 have v1:=Tt R0 (Tt P0 (Tt j1 (Tt C0 (Tt D0 (Tt Q0 v0)))))
 have q1:=Aq F0 v1
 obtain ⟨B2,Q2,g2,_⟩:=BI q1
 have s1:=Aq G0 (Tt E0 v0)
 obtain ⟨C2,R2,j2,_⟩:=BI s1
 refine Ab (AU (vs:=[.agg #[.bool d0.1.fc,q0],.agg #[.bool g0.1.fc,s0]]) (u:=.agg #[.bool d0.1.fc,q0,.bool g0.1.fc,s0]) (e2 rfl rfl) (fun w9=>by rw [g2,j2]; try kernel_rfl))<|AX [.bool d0.1.fc,q0,.bool g0.1.fc,s0] b0 .t5 (o4 rfl (AY q1) rfl (AY s1)) fun v3 A0 c1=>Aa<|Ak rfl<|Ar hb0 func101 rfl (.cons (.many (cs:=[.bool d0.1.fc,q0,.bool g0.1.fc,s0]) rfl rfl (A0.memA .t5)) .nil) rfl ?_
 cases h
 exact ⟨A0.ag,fun w9 hw9=>⟨q0,s0,rfl,A0.kd (Aq F0 (Tt v1 c1)) hw9,A0.kd (Aq G0 (Tt E0 (Tt v0 c1))) hw9⟩⟩
def dz_p (n:Nat) (a0:U8):Option Tn:=
  (if (shrU a0.2.2.2.2.2.2.2 63) = (1:UInt64) then (bS_p n (0,0,0,0,0,0,0,0) a0).bind fun b0=>some (⟨(decide ((shrU a0.2.2.2.2.2.2.2 63) = (1:UInt64))),b0.1⟩:Tn) else some (⟨(decide ((shrU a0.2.2.2.2.2.2.2 63) = (1:UInt64))),a0⟩:Tn))
theorem dz_c (n:Nat) {L w} (hL:hl L w) (a0:U8)  {r:Tn} (h:dz_p n a0 = some r) :
 Cl 162 #[.agg ((ak a0)).toArray] w (ae w fun _ u=>u = .agg ((iC r)).toArray):=by
 unfold dz_p at h
 refine AF func162 rfl rfl rfl fun _ cs0 hb0=>Ae<|RG.bx (AC w) rfl rfl fun F0 u0 q0 y0=>RG.nl [.bool false,vW 0,vW 0,vW 0,vW 0,vW 0,vW 0,vW 0,vW 0] q0 fun G0 v0 d0 z0=>Aa<|Ae<|Ab (Bd (m:=1) (k:=7) (len:=8) rfl rfl rfl rfl (by omega))<|AL rfl ((d0.memA .t1) 7 _ rfl)<|Ab (FV.shrU (a:=a0.2.2.2.2.2.2.2) (j:=63) rfl rfl)<|Ab (FV.eqlU (a:=shrU a0.2.2.2.2.2.2.2 63) (b:=(1:UInt64)) rfl rfl)<|Ab (AK rfl (d0.memA .t1))<|Ab (AU (vs:=[.bool (decide ((shrU a0.2.2.2.2.2.2.2 63) = (1:UInt64))),.agg ((ak a0)).toArray]) (u:=.agg ((([.bool (decide ((shrU a0.2.2.2.2.2.2.2 63) = (1:UInt64)))]:List Value) ++ ak a0)).toArray) (e2 rfl rfl) (fun w9=>by kernel_rfl))<|RG.nl [.bool false,vW 0,vW 0,vW 0,vW 0,vW 0,vW 0,vW 0,vW 0] d0 fun H0 x0 s0 A0=>AX (([.bool (decide ((shrU a0.2.2.2.2.2.2.2 63) = (1:UInt64)))]:List Value) ++ ak a0) s0 .hd (aq rfl) fun I0 b0 B0=>Aa<|Ai<|Ae<|AT 0 rfl<|AL rfl ((b0.memA .hd) 0 _ rfl)<|Aa<|AO rfl h (fun p0 h=>?_) (fun p0 h=>?_)
 refine Am<|Ab (AU (vs:=[]) (u:=.agg zQ) am (fun w9=>by kernel_rfl))<|AT 1 rfl<|Ab (Bo (cs:=(ak a0)) rfl rfl (ai (b0.memA .hd) 1 8))<|bk h fun c0 t0 h=>Bk (.tuple #[.agg ((ak c0.1)).toArray,vU c0.2]) (bd 188) rfl (e2 rfl rfl) (fun w9 hw9=>bS_c n (b0.hL0 hL hw9) (0,0,0,0,0,0,0,0) a0 t0) rfl<|Ac rfl<|Ab (Aj rfl rfl)<|Ab (Aj rfl rfl)<|AT 1 rfl<|RG.now .plain (BM (j:=1) (old:=(([.bool (decide ((shrU a0.2.2.2.2.2.2.2 63) = (1:UInt64)))]:List Value) ++ ak a0)) (news:=(ak c0.1)) (new' :=(([.bool (decide ((shrU a0.2.2.2.2.2.2.2 63) = (1:UInt64)))]:List Value) ++ ak c0.1)) b0 .hd rfl rfl rfl rfl rfl rfl (aq rfl) rfl) fun J0 g0 C0=>Aa<|Ae<|Ab (AK rfl (g0.memA .hd))<|AX (([.bool (decide ((shrU a0.2.2.2.2.2.2.2 63) = (1:UInt64)))]:List Value) ++ ak c0.1) g0 .t1 (aq rfl) fun K0 j0 D0=>Aa<|Ak rfl<|Ar hb0 func162 rfl (.cons (.many (cs:=(([.bool (decide ((shrU a0.2.2.2.2.2.2.2 63) = (1:UInt64)))]:List Value) ++ ak c0.1)) rfl rfl (j0.memA .t1)) .nil) rfl ?_
 cases h
 exact j0.gv
 refine Ap<|Ae<|Ab (AK rfl (b0.memA .hd))<|AX (([.bool (decide ((shrU a0.2.2.2.2.2.2.2 63) = (1:UInt64)))]:List Value) ++ ak a0) b0 .t1 (aq rfl) fun M0 k0 E0=>Aa<|Ak rfl<|Ar hb0 func162 rfl (.cons (.many (cs:=(([.bool (decide ((shrU a0.2.2.2.2.2.2.2 63) = (1:UInt64)))]:List Value) ++ ak a0)) rfl rfl (k0.memA .t1)) .nil) rfl ?_
 cases h
 exact k0.gv
def cd_p (n:Nat) (a0:U8):Option Tf:=
  (dz_p n a0).bind fun b0=>(app ([]:List UInt64) ([b0.fo.1,b0.fo.2.1,b0.fo.2.2.1,b0.fo.2.2.2.1,b0.fo.2.2.2.2.1,b0.fo.2.2.2.2.2.1,b0.fo.2.2.2.2.2.2.1,b0.fo.2.2.2.2.2.2.2]:List UInt64)).bind fun c0=>(ax_p n b0.fc c0).bind fun d0=>some d0
theorem cd_c (n:Nat) {L w} (hL:hl L w) (a0:U8)  {r:Tf} (h:cd_p n a0 = some r) :
 Cl 126 #[.agg ((ak a0)).toArray] w (ae w fun w' u=>∃ v0_1:Value,u = .agg #[.bool r.fc,v0_1]/\Rep.R w' L [v0_1] r.fu):=by
 unfold cd_p at h
 refine AF func126 rfl rfl rfl fun _ cs0 hb0=>Ae<|RG.bx (AC w) rfl rfl fun D1 s1 W0 u1=>RG.nl [.bool false,vN] W0 fun G1 A0 F0 z1=>Aa<|Ae<|Ab (AK rfl (F0.memA .t1))<|bk h fun b0 p1 h=>Bk (.agg ((iC b0)).toArray) (bd 162) rfl (e1 rfl) (fun w9 hw9=>dz_c n (F0.hL0 hL hw9) a0 p1) rfl<|RG.nl [.bool false,vW 0,vW 0,vW 0,vW 0,vW 0,vW 0,vW 0,vW 0] F0 fun H1 U0 c1 A1=>AX (iC b0) c1 .hd (aq rfl) fun I1 u0 B1=>Aa<|Ai<|du 5 fun c0 y0=>Rv 0 c0 rfl y0 (fun _=>Be 0 rfl)<|Rv 3 c0 rfl y0 (fun _=>Be 1 rfl)<|Rx 4 224 c0 rfl y0 (FV.sliceA (len:=8) (m:=1) (p:=Addr.add ⟨U0,0,none⟩ 1) rfl rfl)<|bk h fun z0 G0 h=>RD.mf (α:=Value × (List Value)) (fun ⟨g0,j0⟩=>[(2,vP A0),(7,.bool b0.fc),(11,g0)]) (fun ⟨g0,j0⟩=>[rr w 28 UInt64 g0 z0.length j0,.cells A0 [.bool false,vN] 122]) (fun ⟨g0,j0⟩ Q0=>Cells Q0 (bl [rr w 28 UInt64 g0 z0.length j0,.cells A0 [.bool false,vN] 122] ++ L) j0 (z0:List UInt64)) u0 2 63 ?_ ?_
 rintro ⟨g0,j0⟩ Q0 C0 v1 j1
 try dsimp only
 have D0:=Bq C0 .hd
 have x1:=Br C0 .hd
 refine bk h fun R0 k1 h=>Bu 6 127 c0 rfl .plain (bd 142) rfl (e2 rfl rfl) (fun w9 hw9=>ax_c n (D0.hL hL hw9) (Av (Bs (α:=UInt64) (v:=g0) (xs:=z0) D0 L (Ba (α:=UInt64) C0 .hd j1 hL)) hw9) k1) rfl fun E1 C1 g1 ⟨H0,hu_,M0⟩=>?_
 subst hu_
 obtain ⟨X0,y1⟩:=D0.agr g1
 refine BB 7 255 c0 rfl rfl .plain (AD (news:=[.bool R0.fc,H0]) X0 .hd rfl rfl rfl rfl rfl rfl (o2 rfl (AY M0))) fun F1 E0 d1=>AR (dk c0)<|Ak rfl<|Ar hb0 func126 rfl (.cons (.many (cs:=[.bool R0.fc,H0]) rfl rfl (E0.memA .hd)) .nil) rfl ?_
 cases h
 exact ⟨E0.ag,fun w9 hw9=>⟨H0,rfl,E0.kd (Aq M0 d1) hw9⟩⟩
 intro B0
 refine By [1,2] (rk c0) ⟨?_,?_,trivial⟩
 refine RO.val (m' :=27) (sk c0) rfl .plain rfl (AN rfl ((u0.memA .hd) 0 _ rfl))<|BV 2 31 c0 rfl .plain rfl (jB UInt64 u0 cT) fun q1 V0 d0 v0=>?_
 have x0:=jD UInt64 d0 L
 refine BS (i:=5) (rk c0) (BK (m' :=63) (sk c0) rfl rfl .plain rfl (Bh (α:=UInt64) (ys:=([b0.fo.1,b0.fo.2.1,b0.fo.2.2.1,b0.fo.2.2.2.1,b0.fo.2.2.2.2.1,b0.fo.2.2.2.2.2.1,b0.fo.2.2.2.2.2.2.1,b0.fo.2.2.2.2.2.2.2]:List UInt64)) G0 d0 (fun _ _=>.hd) cT rfl rfl x0 (Src.arr (ds:=[vU b0.fo.1,vU b0.fo.2.1,vU b0.fo.2.2.1,vU b0.fo.2.2.2.1,vU b0.fo.2.2.2.2.1,vU b0.fo.2.2.2.2.2.1,vU b0.fo.2.2.2.2.2.2.1,vU b0.fo.2.2.2.2.2.2.2]) (ys:=([b0.fo.1,b0.fo.2.1,b0.fo.2.2.1,b0.fo.2.2.2.1,b0.fo.2.2.2.2.1,b0.fo.2.2.2.2.2.1,b0.fo.2.2.2.2.2.2.1,b0.fo.2.2.2.2.2.2.2]:List UInt64)) (n:=8) (ai (d0.memA .t1) 1 8) (Ax (cs:=[vU b0.fo.1]) (ds:=[vU b0.fo.2.1,vU b0.fo.2.2.1,vU b0.fo.2.2.2.1,vU b0.fo.2.2.2.2.1,vU b0.fo.2.2.2.2.2.1,vU b0.fo.2.2.2.2.2.2.1,vU b0.fo.2.2.2.2.2.2.2]) rfl (Ax (cs:=[vU b0.fo.2.1]) (ds:=[vU b0.fo.2.2.1,vU b0.fo.2.2.2.1,vU b0.fo.2.2.2.2.1,vU b0.fo.2.2.2.2.2.1,vU b0.fo.2.2.2.2.2.2.1,vU b0.fo.2.2.2.2.2.2.2]) rfl (Ax (cs:=[vU b0.fo.2.2.1]) (ds:=[vU b0.fo.2.2.2.1,vU b0.fo.2.2.2.2.1,vU b0.fo.2.2.2.2.2.1,vU b0.fo.2.2.2.2.2.2.1,vU b0.fo.2.2.2.2.2.2.2]) rfl (Ax (cs:=[vU b0.fo.2.2.2.1]) (ds:=[vU b0.fo.2.2.2.2.1,vU b0.fo.2.2.2.2.2.1,vU b0.fo.2.2.2.2.2.2.1,vU b0.fo.2.2.2.2.2.2.2]) rfl (Ax (cs:=[vU b0.fo.2.2.2.2.1]) (ds:=[vU b0.fo.2.2.2.2.2.1,vU b0.fo.2.2.2.2.2.2.1,vU b0.fo.2.2.2.2.2.2.2]) rfl (Ax (cs:=[vU b0.fo.2.2.2.2.2.1]) (ds:=[vU b0.fo.2.2.2.2.2.2.1,vU b0.fo.2.2.2.2.2.2.2]) rfl (Ax (cs:=[vU b0.fo.2.2.2.2.2.2.1]) (ds:=[vU b0.fo.2.2.2.2.2.2.2]) rfl (Ax (cs:=[vU b0.fo.2.2.2.2.2.2.2]) (ds:=[]) rfl (AG _ _))))))))) rfl)) (fun t0 P0 ⟨p0,k0,q0,s0⟩=>?_))
 obtain ⟨Y0,I0⟩:=AH k0 (.a0 (.a1 .done))
 exact B0 (t0,p0) Y0 (Tt v0 (Tt q0 I0)) (Ay s0 I0)
 refine BG (m' :=29) (sk c0) rfl .plain rfl (jB UInt64 u0 cT) fun q1 V0 d0 v0=>?_
 have x0:=jD UInt64 d0 L
 refine By [1,5] (rk c0) ⟨?_,?_,trivial⟩
 refine RO.val (m' :=31) (sk c0) rfl .plain rfl (AN rfl ((d0.memA .t1) 0 _ rfl))<|BS (i:=5) (rk c0) (BK (m' :=63) (sk c0) rfl rfl .plain rfl (Bh (α:=UInt64) (ys:=([b0.fo.1,b0.fo.2.1,b0.fo.2.2.1,b0.fo.2.2.2.1,b0.fo.2.2.2.2.1,b0.fo.2.2.2.2.2.1,b0.fo.2.2.2.2.2.2.1,b0.fo.2.2.2.2.2.2.2]:List UInt64)) G0 d0 (fun _ _=>.hd) cT rfl rfl x0 (Src.arr (ds:=[vU b0.fo.1,vU b0.fo.2.1,vU b0.fo.2.2.1,vU b0.fo.2.2.2.1,vU b0.fo.2.2.2.2.1,vU b0.fo.2.2.2.2.2.1,vU b0.fo.2.2.2.2.2.2.1,vU b0.fo.2.2.2.2.2.2.2]) (ys:=([b0.fo.1,b0.fo.2.1,b0.fo.2.2.1,b0.fo.2.2.2.1,b0.fo.2.2.2.2.1,b0.fo.2.2.2.2.2.1,b0.fo.2.2.2.2.2.2.1,b0.fo.2.2.2.2.2.2.2]:List UInt64)) (n:=8) (ai (d0.memA .t1) 1 8) (Ax (cs:=[vU b0.fo.1]) (ds:=[vU b0.fo.2.1,vU b0.fo.2.2.1,vU b0.fo.2.2.2.1,vU b0.fo.2.2.2.2.1,vU b0.fo.2.2.2.2.2.1,vU b0.fo.2.2.2.2.2.2.1,vU b0.fo.2.2.2.2.2.2.2]) rfl (Ax (cs:=[vU b0.fo.2.1]) (ds:=[vU b0.fo.2.2.1,vU b0.fo.2.2.2.1,vU b0.fo.2.2.2.2.1,vU b0.fo.2.2.2.2.2.1,vU b0.fo.2.2.2.2.2.2.1,vU b0.fo.2.2.2.2.2.2.2]) rfl (Ax (cs:=[vU b0.fo.2.2.1]) (ds:=[vU b0.fo.2.2.2.1,vU b0.fo.2.2.2.2.1,vU b0.fo.2.2.2.2.2.1,vU b0.fo.2.2.2.2.2.2.1,vU b0.fo.2.2.2.2.2.2.2]) rfl (Ax (cs:=[vU b0.fo.2.2.2.1]) (ds:=[vU b0.fo.2.2.2.2.1,vU b0.fo.2.2.2.2.2.1,vU b0.fo.2.2.2.2.2.2.1,vU b0.fo.2.2.2.2.2.2.2]) rfl (Ax (cs:=[vU b0.fo.2.2.2.2.1]) (ds:=[vU b0.fo.2.2.2.2.2.1,vU b0.fo.2.2.2.2.2.2.1,vU b0.fo.2.2.2.2.2.2.2]) rfl (Ax (cs:=[vU b0.fo.2.2.2.2.2.1]) (ds:=[vU b0.fo.2.2.2.2.2.2.1,vU b0.fo.2.2.2.2.2.2.2]) rfl (Ax (cs:=[vU b0.fo.2.2.2.2.2.2.1]) (ds:=[vU b0.fo.2.2.2.2.2.2.2]) rfl (Ax (cs:=[vU b0.fo.2.2.2.2.2.2.2]) (ds:=[]) rfl (AG _ _))))))))) rfl)) (fun t0 P0 ⟨p0,k0,q0,s0⟩=>?_))
 obtain ⟨Z0,J0⟩:=AH k0 (.a0 (.a1 .done))
 exact B0 (t0,p0) Z0 (Tt v0 (Tt q0 J0)) (Ay s0 J0)
 refine BK (m' :=61) (sk c0) rfl rfl .plain rfl (Bh (α:=UInt64) (ys:=([b0.fo.1,b0.fo.2.1,b0.fo.2.2.1,b0.fo.2.2.2.1,b0.fo.2.2.2.2.1,b0.fo.2.2.2.2.2.1,b0.fo.2.2.2.2.2.2.1,b0.fo.2.2.2.2.2.2.2]:List UInt64)) G0 d0 (fun _ _=>.hd) cT rfl rfl x0 (Src.arr (ds:=[vU b0.fo.1,vU b0.fo.2.1,vU b0.fo.2.2.1,vU b0.fo.2.2.2.1,vU b0.fo.2.2.2.2.1,vU b0.fo.2.2.2.2.2.1,vU b0.fo.2.2.2.2.2.2.1,vU b0.fo.2.2.2.2.2.2.2]) (ys:=([b0.fo.1,b0.fo.2.1,b0.fo.2.2.1,b0.fo.2.2.2.1,b0.fo.2.2.2.2.1,b0.fo.2.2.2.2.2.1,b0.fo.2.2.2.2.2.2.1,b0.fo.2.2.2.2.2.2.2]:List UInt64)) (n:=8) (ai (d0.memA .t1) 1 8) (Ax (cs:=[vU b0.fo.1]) (ds:=[vU b0.fo.2.1,vU b0.fo.2.2.1,vU b0.fo.2.2.2.1,vU b0.fo.2.2.2.2.1,vU b0.fo.2.2.2.2.2.1,vU b0.fo.2.2.2.2.2.2.1,vU b0.fo.2.2.2.2.2.2.2]) rfl (Ax (cs:=[vU b0.fo.2.1]) (ds:=[vU b0.fo.2.2.1,vU b0.fo.2.2.2.1,vU b0.fo.2.2.2.2.1,vU b0.fo.2.2.2.2.2.1,vU b0.fo.2.2.2.2.2.2.1,vU b0.fo.2.2.2.2.2.2.2]) rfl (Ax (cs:=[vU b0.fo.2.2.1]) (ds:=[vU b0.fo.2.2.2.1,vU b0.fo.2.2.2.2.1,vU b0.fo.2.2.2.2.2.1,vU b0.fo.2.2.2.2.2.2.1,vU b0.fo.2.2.2.2.2.2.2]) rfl (Ax (cs:=[vU b0.fo.2.2.2.1]) (ds:=[vU b0.fo.2.2.2.2.1,vU b0.fo.2.2.2.2.2.1,vU b0.fo.2.2.2.2.2.2.1,vU b0.fo.2.2.2.2.2.2.2]) rfl (Ax (cs:=[vU b0.fo.2.2.2.2.1]) (ds:=[vU b0.fo.2.2.2.2.2.1,vU b0.fo.2.2.2.2.2.2.1,vU b0.fo.2.2.2.2.2.2.2]) rfl (Ax (cs:=[vU b0.fo.2.2.2.2.2.1]) (ds:=[vU b0.fo.2.2.2.2.2.2.1,vU b0.fo.2.2.2.2.2.2.2]) rfl (Ax (cs:=[vU b0.fo.2.2.2.2.2.2.1]) (ds:=[vU b0.fo.2.2.2.2.2.2.2]) rfl (Ax (cs:=[vU b0.fo.2.2.2.2.2.2.2]) (ds:=[]) rfl (AG _ _))))))))) rfl)) fun t0 P0 ⟨p0,k0,q0,s0⟩=>Rx 1 192 c0 rfl y0 (AN rfl ((k0.memA .t1) 0 _ rfl)) ?_
 obtain ⟨b1,K0⟩:=AH k0 (.a0 (.a1 .done))
 exact B0 (t0,p0) b1 (Tt v0 (Tt q0 K0)) (Ay s0 K0)
theorem nU {w:World} {L:List Nat} {cs:List Value} {x:U8} (h:Rep.R w L cs x):cs = [vU x.1,vU x.2.1,vU x.2.2.1,vU x.2.2.2.1,vU x.2.2.2.2.1,vU x.2.2.2.2.2.1,vU x.2.2.2.2.2.2.1,vU x.2.2.2.2.2.2.2]:=by
  obtain ⟨c0,r0,rfl,h0,h⟩:=h
  have e0:c0 = [vU x.1]:=h0; subst e0
  obtain ⟨c1,r1,rfl,h1,h⟩:=h
  have e1:c1 = [vU x.2.1]:=h1; subst e1
  obtain ⟨c2,r2,rfl,h2,h⟩:=h
  have e2:c2 = [vU x.2.2.1]:=h2; subst e2
  obtain ⟨c3,r3,rfl,h3,h⟩:=h
  have e3:c3 = [vU x.2.2.2.1]:=h3; subst e3
  obtain ⟨c4,r4,rfl,h4,h⟩:=h
  have e4:c4 = [vU x.2.2.2.2.1]:=h4; subst e4
  obtain ⟨c5,r5,rfl,h5,h⟩:=h
  have e5:c5 = [vU x.2.2.2.2.2.1]:=h5; subst e5
  obtain ⟨c6,r6,rfl,h6,h⟩:=h
  have e6:c6 = [vU x.2.2.2.2.2.2.1]:=h6; subst e6
  have e7:r6 = [vU x.2.2.2.2.2.2.2]:=h; subst e7
  rfl
theorem nq {w:World} {L:List Nat} (a0:UInt64) (a1:UInt64) (a2:UInt64) (a3:UInt64) (a4:UInt64) (a5:UInt64) (a6:UInt64) (a7:UInt64):Rep.R w L [vU a0,vU a1,vU a2,vU a3,vU a4,vU a5,vU a6,vU a7] ((a0,a1,a2,a3,a4,a5,a6,a7):U8):=⟨[vU a0],[vU a1,vU a2,vU a3,vU a4,vU a5,vU a6,vU a7],rfl,rfl,⟨[vU a1],[vU a2,vU a3,vU a4,vU a5,vU a6,vU a7],rfl,rfl,⟨[vU a2],[vU a3,vU a4,vU a5,vU a6,vU a7],rfl,rfl,⟨[vU a3],[vU a4,vU a5,vU a6,vU a7],rfl,rfl,⟨[vU a4],[vU a5,vU a6,vU a7],rfl,rfl,⟨[vU a5],[vU a6,vU a7],rfl,rfl,⟨[vU a6],[vU a7],rfl,rfl,rfl⟩⟩⟩⟩⟩⟩⟩
theorem kU {a b:U8} (h0:a.1 = b.1) (h1:a.2.1 = b.2.1) (h2:a.2.2.1 = b.2.2.1) (h3:a.2.2.2.1 = b.2.2.2.1) (h4:a.2.2.2.2.1 = b.2.2.2.2.1) (h5:a.2.2.2.2.2.1 = b.2.2.2.2.2.1) (h6:a.2.2.2.2.2.2.1 = b.2.2.2.2.2.2.1) (h7:a.2.2.2.2.2.2.2 = b.2.2.2.2.2.2.2):a = b:=Prod.ext h0 (Prod.ext h1 (Prod.ext h2 (Prod.ext h3 (Prod.ext h4 (Prod.ext h5 (Prod.ext h6 (h7)))))))
theorem ml (a b:U8) (w9:World):(do eqGuard .eql 40 (.tmp 0) (.tmp 0) (.agg #[vU a.1,vU a.2.1,vU a.2.2.1,vU a.2.2.2.1,vU a.2.2.2.2.1,vU a.2.2.2.2.2.1,vU a.2.2.2.2.2.2.1,vU a.2.2.2.2.2.2.2]) (.agg #[vU b.1,vU b.2.1,vU b.2.2.1,vU b.2.2.2.1,vU b.2.2.2.2.1,vU b.2.2.2.2.2.1,vU b.2.2.2.2.2.2.1,vU b.2.2.2.2.2.2.2]); binOp .eql 40 (.agg #[vU a.1,vU a.2.1,vU a.2.2.1,vU a.2.2.2.1,vU a.2.2.2.2.1,vU a.2.2.2.2.2.1,vU a.2.2.2.2.2.2.1,vU a.2.2.2.2.2.2.2]) (.agg #[vU b.1,vU b.2.1,vU b.2.2.1,vU b.2.2.2.1,vU b.2.2.2.2.1,vU b.2.2.2.2.2.1,vU b.2.2.2.2.2.2.1,vU b.2.2.2.2.2.2.2]):Sem Value).run Tryz.prog w9 = .ok (.bool (decide (a = b))) w9:=
  eqAgg (ks:=[.int .u64,.int .u64,.int .u64,.int .u64,.int .u64,.int .u64,.int .u64,.int .u64]) (xs:=[vU a.1,vU a.2.1,vU a.2.2.1,vU a.2.2.2.1,vU a.2.2.2.2.1,vU a.2.2.2.2.2.1,vU a.2.2.2.2.2.2.1,vU a.2.2.2.2.2.2.2]) (ys:=[vU b.1,vU b.2.1,vU b.2.2.1,vU b.2.2.2.1,vU b.2.2.2.2.1,vU b.2.2.2.2.2.1,vU b.2.2.2.2.2.2.1,vU b.2.2.2.2.2.2.2]) (by kernel_rfl) (by kernel_rfl) (by kernel_rfl) rfl rfl ⟨fun h=>by
    simp only [bI,veq,Bool.and_eq_true,beq_iff_eq,and_true] at h
    obtain ⟨h0,h1,h2,h3,h4,h5,h6,h7⟩:=h
    exact kU (aw h0) (aw h1) (aw h2) (aw h3) (aw h4) (aw h5) (aw h6) (aw h7),fun h=>by subst h; simp [bI,veq]⟩ _ _ w9
def dA_p (n:Nat) (a0:U8) (a1:U8):Option (Tb × Int):=
  (if a1 = (0,0,0,0,0,0,0,0) then some ((⟨(0,0,0,0,0,0,0,0),(0,0,0,0,0,0,0,0)⟩:Tb),(7:Int)) else (cd_p n a0).bind fun c0=>(cd_p n a1).bind fun d0=>(ci_p n c0 d0).bind fun g0=>(bX_p n g0).bind fun b0=>some (b0.1,b0.2))
theorem dA_c (n:Nat) {L w} (hL:hl L w) (a0:U8) (a1:U8)  {r:Tb × Int} (h:dA_p n a0 a1 = some r) :
 Cl 87 #[.agg ((ak a0)).toArray,.agg ((ak a1)).toArray] w (ae w fun _ u=>u = .tuple #[.agg ((ac r.1)).toArray,vI r.2]):=by
 unfold dA_p at h
 refine AF func87 rfl rfl rfl fun _ cs0 hb0=>Ae<|RG.bx (AC w) rfl rfl fun s1 P0 u0 U0=>RG.bx u0 rfl rfl fun u1 Q0 v0 V0=>RG.nl zL v0 fun v1 R0 c0 W0=>Af rfl<|Aa<|Ai<|Ae<|Ab (AK rfl (c0.memA .t1))<|Ab (AU (vs:=[]) (u:=.agg zQ) am (fun w9=>by kernel_rfl))<|Ab (FV.eqlV (v:=.agg ((ak a1)).toArray) (u:=.agg zQ) rfl rfl (ml a1 (0,0,0,0,0,0,0,0)))<|Aa<|AO rfl h (fun t0 h=>?_) (fun t0 h=>?_)
 refine Ae<|Ab (AU (vs:=[]) (u:=.agg zM) am (fun w9=>by kernel_rfl))<|AX zL c0 .hd (aq rfl) fun x1 k0 X0=>Af rfl<|Aa<|Ak rfl<|Ar hb0 func87 rfl (.cons (.many (cs:=zL) rfl rfl (k0.memA .hd)) (.cons (.tmp rfl) .nil)) rfl ?_
 cases h
 exact k0.gv
 refine Ap<|Ai<|du 8 fun b0 d0=>Rx 0 1018 b0 rfl d0 (AK rfl (c0.memA .t2))<|Rx 2 1016 b0 rfl d0 (AK rfl (c0.memA .t1))<|bk h fun J0 F0 h=>Bu 1 7 b0 rfl .plain (bd 126) rfl (e1 rfl) (fun w9 hw9=>cd_c n (c0.hL hL hw9) a0 F0) rfl fun w32 k1 y0 ⟨c1,hu_,B0⟩=>?_
 subst hu_
 obtain ⟨p0,Y0⟩:=c0.agr y0
 refine bk h fun K0 G0 h=>Bu 3 15 b0 rfl .plain (bd 126) rfl (e1 rfl) (fun w9 hw9=>cd_c n (p0.hL hL hw9) a1 G0) rfl fun y1 p1 z0 ⟨d1,hu_,C0⟩=>?_
 subst hu_
 obtain ⟨q0,x0⟩:=p0.agr z0
 refine bk h fun M0 H0 h=>Bu 4 31 b0 rfl .plain (bd 101) rfl (e2 rfl rfl) (fun w9 hw9=>ci_c n (q0.hL hL hw9) J0 (Av (Aq B0 x0) hw9) K0 (Av C0 hw9) H0) rfl fun z1 q1 A0 ⟨g1,j1,hu_,D0,E0⟩=>?_
 subst hu_
 obtain ⟨g0,Z0⟩:=q0.agr A0
 refine bk h fun j0 I0 h=>RD.cq 5 63 960 (.tuple #[.agg ((ac j0.1)).toArray,vI j0.2]) b0 rfl d0 (bd 98) rfl (e1 rfl) (fun w9 hw9=>bX_c n (g0.hL0 hL hw9) M0 (g0.kd D0 hw9) (g0.kd E0 hw9) I0) rfl<|Rv 6 b0 rfl d0 (fun _=>Aj rfl rfl)<|Rv 7 b0 rfl d0 (fun _=>Aj rfl rfl)<|BB 8 511 b0 rfl rfl .plain (AD (news:=(ac j0.1)) g0 .hd rfl rfl rfl rfl rfl rfl (aq rfl)) fun A1 s0 b1=>Rv 9 b0 rfl d0 (fun _=>Bm rfl)<|AR (dk b0)<|Ak rfl<|Ar hb0 func87 rfl (.cons (.many (cs:=(ac j0.1)) rfl rfl (s0.memA .hd)) (.cons (.tmp rfl) .nil)) rfl ?_
 cases h
 exact s0.gv
def dn_l1 (_n:Nat) (t0:Nat × U8 -> Option (U8)):Nat × U8 -> Option (U8)
  | (b0,c0,d0,g0,j0,k0,p0,q0,s0)=>(if b0 < 8 then (([c0,d0,g0,j0,k0,p0,q0,s0]:List UInt64)[b0]?).bind fun _z71=>t0 (b0 + 1,au b0 0 (18446744073709551615:UInt64) c0,au b0 1 (18446744073709551615:UInt64) d0,au b0 2 (18446744073709551615:UInt64) g0,au b0 3 (18446744073709551615:UInt64) j0,au b0 4 (18446744073709551615:UInt64) k0,au b0 5 (18446744073709551615:UInt64) p0,au b0 6 (18446744073709551615:UInt64) q0,au b0 7 (18446744073709551615:UInt64) s0) else some (c0,d0,g0,j0,k0,p0,q0,s0))
def dn_p (n:Nat) (a0:Int):Option (U8):=
  (if a0 < 0 then Option.bind (ah (dn_l1 n) n (1,ab a0,0,0,0,0,0,0,0)) (fun (b0,c0,d0,g0,j0,k0,p0,q0)=>some (b0,c0,d0,g0,j0,k0,p0,q0)) else some (ab a0,0,0,0,0,0,0,0))
theorem dn_c (n:Nat) {L w} (_hL:hl L w) {a0:Int}  {r:U8} (h:dn_p n a0 = some r) :
 Cl 88 #[vI a0] w (ae w fun _ u=>u = .agg ((ak r)).toArray):=by
 unfold dn_p at h
 refine AF func88 rfl rfl rfl fun _ cs0 hb0=>Ae<|RG.nl zP (AC w) fun Y0 y0 E0 P0=>Aa<|Ae<|Ac rfl<|Ab (FV.convU (i:=a0) underlying3 underlying28 rfl)<|Ab (AU (vs:=[vW ((ab a0).toNat:Int)]) (u:=.agg #[vW ((ab a0).toNat:Int),vW 0,vW 0,vW 0,vW 0,vW 0,vW 0,vW 0]) (e1 rfl) (fun w9=>by kernel_rfl))<|RG.nl zP E0 fun Z0 u0 F0 Q0=>AX [vW ((ab a0).toNat:Int),vW 0,vW 0,vW 0,vW 0,vW 0,vW 0,vW 0] F0 .hd (aq rfl) fun b1 v0 R0=>Aa<|Ai<|Ae<|Ac rfl<|Ab (BO (i:=a0) (j:=0) rfl rfl)<|Aa<|AO rfl h (fun B0 h=>?_) (fun B0 h=>?_)
 refine Ae<|Af rfl<|Aa<|Au ?_
 obtain ⟨X0,K0,J0⟩:=ao h
 refine BT (α:=Nat × U8) (fun ⟨b0,c0,d0,g0,j0,k0,p0,q0,s0⟩=>[(2,vP y0),(3,vP u0),(4,vI ((b0:Nat):Int))]) (fun ⟨b0,c0,d0,g0,j0,k0,p0,q0,s0⟩=>[.cells u0 [vU c0,vU d0,vU g0,vU j0,vU k0,vU p0,vU q0,vU s0] 40,.cells y0 zP 40]) (fun ⟨b0,c0,d0,g0,j0,k0,p0,q0,s0⟩=>(b0,c0,d0,g0,j0,k0,p0,q0,s0)) (1,ab a0,0,0,0,0,0,0,0) K0 v0 ?_
 rintro M0 ⟨b0,c0,d0,g0,j0,k0,p0,q0,s0⟩ j1 D0 t0 H0 h
 unfold dn_l1 at h
 try dsimp only at h
 refine Ai<|Ae<|Ac rfl<|Ab (Bj (i:=b0) (j:=8) rfl rfl)<|Aa<|AO rfl h (fun C0 h=>?_) (fun C0 h=>?_)
 refine Ap<|Ai<|Au<|Am<|Ac rfl<|bk h fun k1 x0 h=>?_
 have W0:=aK (p:=⟨u0,0,none⟩) (cs:=([c0,d0,g0,j0,k0,p0,q0,s0]:List UInt64).map (fun z9:UInt64=>(vU z9:Value)) ++ []) (i:=b0) (t0.memA .hd) (bG (fun z9:UInt64=>(vU z9:Value)) x0)
 refine Ab (Bd (m:=1) (k:=b0) (len:=8) rfl rfl rfl rfl (aU x0 rfl))<|RG.now .plain (Acts.storeArr (fun z9:UInt64=>(vU z9:Value)) (xs:=([c0,d0,g0,j0,k0,p0,q0,s0]:List UInt64)) (pre:=[]) (post:=[]) (i:=b0) (m:=8) (x:=(18446744073709551615:UInt64)) (old:=[vU c0,vU d0,vU g0,vU j0,vU k0,vU p0,vU q0,vU s0]) (new' :=[vW ((au b0 0 (18446744073709551615:UInt64) c0).toNat:Int),vW ((au b0 1 (18446744073709551615:UInt64) d0).toNat:Int),vW ((au b0 2 (18446744073709551615:UInt64) g0).toNat:Int),vW ((au b0 3 (18446744073709551615:UInt64) j0).toNat:Int),vW ((au b0 4 (18446744073709551615:UInt64) k0).toNat:Int),vW ((au b0 5 (18446744073709551615:UInt64) p0).toNat:Int),vW ((au b0 6 (18446744073709551615:UInt64) q0).toNat:Int),vW ((au b0 7 (18446744073709551615:UInt64) s0).toNat:Int)]) rfl rfl (aU x0 rfl) t0 .hd rfl (eH _ _ _) rfl rfl (fun _=>⟨rfl,rfl⟩) rfl rfl) fun c1 G0 I0=>Aa<|Aw<|Am<|Ac rfl<|Ab (Bf (i:=b0) (j:=1) rfl rfl (by omega))<|Af rfl<|Aa<|D0 (b0 + 1,au b0 0 (18446744073709551615:UInt64) c0,au b0 1 (18446744073709551615:UInt64) d0,au b0 2 (18446744073709551615:UInt64) g0,au b0 3 (18446744073709551615:UInt64) j0,au b0 4 (18446744073709551615:UInt64) k0,au b0 5 (18446744073709551615:UInt64) p0,au b0 6 (18446744073709551615:UInt64) q0,au b0 7 (18446744073709551615:UInt64) s0) G0 (Tt H0 I0) h
 refine AV rfl ?_
 have h:=J0 _ h
 try dsimp only at h
 refine Ae<|Ab (AK rfl (t0.memA .hd))<|AX [vU c0,vU d0,vU g0,vU j0,vU k0,vU p0,vU q0,vU s0] t0 .t1 (aq rfl) fun d1 z0 U0=>Aa<|Ak rfl<|Ar hb0 func88 rfl (.cons (.many (cs:=[vU c0,vU d0,vU g0,vU j0,vU k0,vU p0,vU q0,vU s0]) rfl rfl (z0.memA .t1)) .nil) rfl ?_
 cases h
 exact z0.gv
 refine Ap<|Ae<|Ab (AK rfl (v0.memA .hd))<|AX [vW ((ab a0).toNat:Int),vW 0,vW 0,vW 0,vW 0,vW 0,vW 0,vW 0] v0 .t1 (aq rfl) fun g1 A0 V0=>Aa<|Ak rfl<|Ar hb0 func88 rfl (.cons (.many (cs:=[vW ((ab a0).toNat:Int),vW 0,vW 0,vW 0,vW 0,vW 0,vW 0,vW 0]) rfl rfl (A0.memA .t1)) .nil) rfl ?_
 cases h
 exact A0.gv
def dp_p (n:Nat) (a0:Int) (a1:Int):Option (Tb × Int):=
  (dn_p n a0).bind fun c0=>(dn_p n a1).bind fun d0=>(dA_p n c0 d0).bind fun b0=>some (b0.1,b0.2)
theorem dp_c (n:Nat) {L w} (hL:hl L w) {a0:Int} {a1:Int}  {r:Tb × Int} (h:dp_p n a0 a1 = some r) :
 Cl 45 #[vI a0,vI a1] w (ae w fun _ u=>u = .tuple #[.agg ((ac r.1)).toArray,vI r.2]):=by
 unfold dp_p at h
 refine AF func45 rfl rfl rfl fun _ cs0 hb0=>Ae<|RG.nl zL (AC w) fun v0 s0 b0 t0=>Af rfl<|Aa<|Ae<|Ac rfl<|bk h fun g0 k0 h=>Bk (.agg ((ak g0)).toArray) (bd 88) rfl (e1 rfl) (fun w9 hw9=>dn_c n (b0.hL0 hL hw9)  k0) rfl<|Ac rfl<|bk h fun j0 p0 h=>Bk (.agg ((ak j0)).toArray) (bd 88) rfl (e1 rfl) (fun w9 hw9=>dn_c n (b0.hL0 hL hw9)  p0) rfl<|bk h fun c0 q0 h=>Bk (.tuple #[.agg ((ac c0.1)).toArray,vI c0.2]) (bd 87) rfl (e2 rfl rfl) (fun w9 hw9=>dA_c n (b0.hL0 hL hw9) g0 j0 q0) rfl<|Ab (Aj rfl rfl)<|Ab (Aj rfl rfl)<|AX (ac c0.1) b0 .hd (aq rfl) fun x0 d0 u0=>Af rfl<|Aa<|Ak rfl<|Ar hb0 func45 rfl (.cons (.many (cs:=(ac c0.1)) rfl rfl (d0.memA .hd)) (.cons (.tmp rfl) .nil)) rfl ?_
 cases h
 exact d0.gv
def aT_p (_n:Nat) (a0:UInt64):Option Int:=
  (some (((shrU a0 1) &&& (6148914691236517205:UInt64)) + (a0 &&& (6148914691236517205:UInt64)))).bind fun u1=>(some (((shrU u1 2) &&& (3689348814741910323:UInt64)) + (u1 &&& (3689348814741910323:UInt64)))).bind fun u2=>(some ((((shrU u2 4) + u2) &&& (1085102592571150095:UInt64)) + (shrU (((shrU u2 4) + u2) &&& (1085102592571150095:UInt64)) 8))).bind fun u3=>some (andI (az ((u3 + (shrU u3 16)) + (shrU (u3 + (shrU u3 16)) 32))) 127)
theorem aT_c (n:Nat) {L w} (_hL:hl L w) (a0:UInt64)  {r:Int} (h:aT_p n a0 = some r) :
 Cl 46 #[vU a0] w (ae w fun _ u=>u = vI r):=by
 unfold aT_p at h
 have hS0:=AC w
 refine AF func46 rfl rfl rfl fun _ cs0 hb0=>Ae<|Af rfl<|Aa<|Ae<|Ac rfl<|Ab (FV.shrU (a:=a0) (j:=1) rfl rfl)<|Ab (FV.andU (a:=shrU a0 1) (b:=(6148914691236517205:UInt64)) rfl rfl)<|Ac rfl<|Ab (FV.andU (a:=a0) (b:=(6148914691236517205:UInt64)) rfl rfl)<|bk h fun u1 hu1 h=>Ab (FV.as (FV.addU (a:=(shrU a0 1) &&& (6148914691236517205:UInt64)) (b:=a0 &&& (6148914691236517205:UInt64)) rfl rfl) (congrArg (fun z:UInt64=>Value.int .u64 (z.toNat:Int)) (Option.some.inj hu1)))<|Af rfl<|Aa<|Ae<|Ac rfl<|Ab (FV.shrU (a:=u1) (j:=2) rfl rfl)<|Ab (FV.andU (a:=shrU u1 2) (b:=(3689348814741910323:UInt64)) rfl rfl)<|Ac rfl<|Ab (FV.andU (a:=u1) (b:=(3689348814741910323:UInt64)) rfl rfl)<|bk h fun u2 hu2 h=>Ab (FV.as (FV.addU (a:=(shrU u1 2) &&& (3689348814741910323:UInt64)) (b:=u1 &&& (3689348814741910323:UInt64)) rfl rfl) (congrArg (fun z:UInt64=>Value.int .u64 (z.toNat:Int)) (Option.some.inj hu2)))<|Af rfl<|Aa<|Ae<|Ac rfl<|Ab (FV.shrU (a:=u2) (j:=4) rfl rfl)<|Ac rfl<|Ab (FV.addU (a:=shrU u2 4) (b:=u2) rfl rfl)<|Ab (FV.andU (a:=(shrU u2 4) + u2) (b:=(1085102592571150095:UInt64)) rfl rfl)<|Af rfl<|Aa<|Ae<|Ac rfl<|Ac rfl<|Ab (FV.shrU (a:=((shrU u2 4) + u2) &&& (1085102592571150095:UInt64)) (j:=8) rfl rfl)<|bk h fun u3 hu3 h=>Ab (FV.as (FV.addU (a:=((shrU u2 4) + u2) &&& (1085102592571150095:UInt64)) (b:=shrU (((shrU u2 4) + u2) &&& (1085102592571150095:UInt64)) 8) rfl rfl) (congrArg (fun z:UInt64=>Value.int .u64 (z.toNat:Int)) (Option.some.inj hu3)))<|Af rfl<|Aa<|Ae<|Ac rfl<|Ac rfl<|Ab (FV.shrU (a:=u3) (j:=16) rfl rfl)<|Ab (FV.addU (a:=u3) (b:=shrU u3 16) rfl rfl)<|Af rfl<|Aa<|Ae<|Ac rfl<|Ac rfl<|Ab (FV.shrU (a:=u3 + (shrU u3 16)) (j:=32) rfl rfl)<|Ab (FV.addU (a:=u3 + (shrU u3 16)) (b:=shrU (u3 + (shrU u3 16)) 32) rfl rfl)<|Af rfl<|Aa<|Ae ?_
 refine Ac rfl<|Ab (FV.convUI (a:=(u3 + (shrU u3 16)) + (shrU (u3 + (shrU u3 16)) 32)) underlying28 underlying3 rfl)<|Ab (FV.andI (i:=az ((u3 + (shrU u3 16)) + (shrU (u3 + (shrU u3 16)) 32))) (j:=127) rfl rfl)<|Af rfl<|Aa<|Ak rfl<|AQ hb0 func46 rfl rfl ?_
 cases h
 exact hS0.gv
def cQ_p (n:Nat) (a0:UInt64) (a1:UInt64):Option (Tb × Int):=
  (if (a0 ||| a1) = (0:UInt64) then some ((⟨(0,0,0,0,0,0,0,0),(0,0,0,0,0,0,0,0)⟩:Tb),(7:Int)) else (aT_p n (a0 &&& a1)).bind fun c0=>(aT_p n (a0 ||| a1)).bind fun d0=>(dp_p n c0 d0).bind fun b0=>some (b0.1,b0.2))
theorem cQ_c (n:Nat) {L w} (hL:hl L w) (a0:UInt64) (a1:UInt64)  {r:Tb × Int} (h:cQ_p n a0 a1 = some r) :
 Cl 15 #[vU a0,vU a1] w (ae w fun _ u=>u = .tuple #[.agg ((ac r.1)).toArray,vI r.2]):=by
 unfold cQ_p at h
 refine AF func15 rfl rfl rfl fun _ cs0 hb0=>Ae<|RG.nl zL (AC w) fun z0 u0 b0 v0=>Af rfl<|Aa<|Ai<|Ae<|Ac rfl<|Ac rfl<|Ab (FV.orU (a:=a0) (b:=a1) rfl rfl)<|Ab (FV.eqlU (a:=a0 ||| a1) (b:=(0:UInt64)) rfl rfl)<|Aa<|AO rfl h (fun j0 h=>?_) (fun j0 h=>?_)
 refine Ae<|Ab (AU (vs:=[]) (u:=.agg zM) am (fun w9=>by kernel_rfl))<|AX zL b0 .hd (aq rfl) fun A0 d0 x0=>Af rfl<|Aa<|Ak rfl<|Ar hb0 func15 rfl (.cons (.many (cs:=zL) rfl rfl (d0.memA .hd)) (.cons (.tmp rfl) .nil)) rfl ?_
 cases h
 exact d0.gv
 refine Ap<|Ae<|Ac rfl<|Ac rfl<|Ab (FV.andU (a:=a0) (b:=a1) rfl rfl)<|bk h fun s0 k0 h=>Bk (vI s0) (bd 46) rfl (e1 rfl) (fun w9 hw9=>aT_c n (b0.hL0 hL hw9) (a0 &&& a1) k0) rfl<|Ac rfl<|Ac rfl<|Ab (FV.orU (a:=a0) (b:=a1) rfl rfl)<|bk h fun t0 p0 h=>Bk (vI t0) (bd 46) rfl (e1 rfl) (fun w9 hw9=>aT_c n (b0.hL0 hL hw9) (a0 ||| a1) p0) rfl<|bk h fun c0 q0 h=>Bk (.tuple #[.agg ((ac c0.1)).toArray,vI c0.2]) (bd 45) rfl (e2 rfl rfl) (fun w9 hw9=>dp_c n (b0.hL0 hL hw9)  q0) rfl<|Ab (Aj rfl rfl)<|Ab (Aj rfl rfl)<|AX (ac c0.1) b0 .hd (aq rfl) fun B0 g0 y0=>Af rfl<|Aa<|Ak rfl<|Ar hb0 func15 rfl (.cons (.many (cs:=(ac c0.1)) rfl rfl (g0.memA .hd)) (.cons (.tmp rfl) .nil)) rfl ?_
 cases h
 exact g0.gv
structure Th where
  fF:Int
  deriving DecidableEq
instance:Rep Th:=Rep.via (β:=Int) fun x=>x.fF
def aC_p (_n:Nat) (a0:Int):Option (Except Th Unit):=
  (if a0 = 0 then some (.ok ()) else some (.error (⟨a0⟩:Th)))
theorem aC_c (n:Nat) {L w} (_hL:hl L w) {a0:Int}  {r:Except Th Unit} (h:aC_p n a0 = some r) :
 Cl 94 #[vI a0] w (bj w (fun (_y:Unit) _ u=>u = .tuple #[]) (fun e=>.iface 176 (.agg #[vI e.fF])) r):=by
 unfold aC_p at h
 have hS0:=AC w
 refine MX.startP func94 rfl rfl rfl fun _ cs0 hb0 hp0=>Ae<|Ac rfl<|Ab (FV.neq (i:=a0) (j:=0) rfl rfl)<|Aa<|MX.ifn rfl h (fun c1 h=>?_) (fun c1 h=>?_)
 refine Ap<|MX.fin rfl<|Ar hb0 func94 rfl .nil rfl ?_
 cases h
 exact ⟨hS0.ag,fun w9 hw9=>aX rfl⟩
 refine Am<|Ac rfl<|Ab (AU (vs:=[vI a0]) (u:=.agg #[vI a0]) (e1 rfl) (fun w9=>by kernel_rfl))<|Ab (FV.makeInterface rfl rfl)<|RG.panic .plain rfl ?_
 cases h
 exact BD hp0 func94 ⟨hS0.ag,rfl⟩
def cW_p (_n:Nat) (a0:Int):Option (Except Th Unit):=
  (if a0 = 0 then some (.ok ()) else some (.error (⟨a0⟩:Th)))
theorem cW_c (n:Nat) {L w} (_hL:hl L w) {a0:Int}  {r:Except Th Unit} (h:cW_p n a0 = some r) :
 Cl 165 #[vI a0] w (bj w (fun (_y:Unit) _ u=>u = .tuple #[]) (fun e=>.iface 237 (.agg #[vI e.fF])) r):=by
 unfold cW_p at h
 have hS0:=AC w
 refine MX.startP func165 rfl rfl rfl fun _ cs0 hb0 hp0=>Ae<|Ac rfl<|Ab (FV.neq (i:=a0) (j:=0) rfl rfl)<|Aa<|MX.ifn rfl h (fun c1 h=>?_) (fun c1 h=>?_)
 refine Ap<|MX.fin rfl<|Ar hb0 func165 rfl .nil rfl ?_
 cases h
 exact ⟨hS0.ag,fun w9 hw9=>aX rfl⟩
 refine Am<|Ac rfl<|Ab (AU (vs:=[vI a0]) (u:=.agg #[vI a0]) (e1 rfl) (fun w9=>by kernel_rfl))<|Ab (FV.makeInterface rfl rfl)<|RG.panic .plain rfl ?_
 cases h
 exact BD hp0 func165 ⟨hS0.ag,rfl⟩
def aM_l1 (_n:Nat) (a0:List Bool) (a1:Bool) (c0:Nat -> Option (Int ⊕ Unit)):Nat -> Option (Int ⊕ Unit)
  | b0=>(if b0 < a0.length then (a0[b0]?).bind fun d0=>(if (a1 == d0) = true then some (.inl ((b0:Nat):Int)) else c0 (b0 + 1)) else some (.inr ()))
def aM_p (n:Nat) (a0:List Bool) (a1:Bool):Option Int:=
  thn (ah (aM_l1 n a0 a1) n 0) (fun _=>some (-1:Int))
theorem aM_c (n:Nat) {L w} (_hL:hl L w) {a0:List Bool} {v0_0:Value} (h0_0:Rep.R w L [v0_0] a0) {a1:Bool}  {r:Int} (h:aM_p n a0 a1 = some r) :
 Cl 206 #[v0_0,.bool a1] w (ae w fun _ u=>u = vI r):=by
 unfold aM_p at h
 refine AF func206 rfl rfl rfl fun _ cs0 hb0=>Ae<|Af rfl<|Aa<|Ai<|Ae<|Ac rfl ?_
 have hl1:a0.length <= 281474976710656:=AS h0_0
 refine Ab (AW (xs:=a0) underlying72 rfl h0_0)<|Ac rfl<|Aa<|Au<|tn h fun E0 y0 d0=>BT (α:=Nat) (fun b0=>[(0,v0_0),(1,.bool a1),(7,vI ((a0.length:Nat):Int)),(8,vI ((b0:Nat):Int))]) (fun b0=>[]) (fun b0=>b0) 0 y0 (AC w) ?_
 rintro C0 b0 F0 q0 c0 s0 h
 unfold aM_l1 at h
 try dsimp only at h
 refine Ae<|Ab (Bj (i:=b0) (j:=a0.length) rfl rfl)<|Aa<|Ai<|AO rfl h (fun j0 h=>?_) (fun j0 h=>?_)
 refine Ap<|Ai<|Au<|Ae<|Ac rfl<|Af rfl<|Aa<|Ae<|Ac rfl<|Ac rfl<|Ac rfl<|bk h fun g0 A0 h=>?_
 obtain ⟨B0,D0,t0,v0,p0,z0,x0⟩:=Bg (AM h0_0 c0) A0
 have u0:p0 = [.bool g0]:=z0; subst u0
 refine Ab (Bi 1 b0 rfl t0 rfl rfl v0)<|AL rfl (x0 0 _ rfl)<|Ab (FV.eqlB (a:=a1) (b:=g0) underlying4 rfl rfl)<|Aa<|MX.ifb rfl h (fun k0 h=>?_) (fun k0 h=>?_)
 refine Ae<|Ac rfl<|Af rfl<|Aa ?_
 have h:=ap h d0
 refine Ak rfl<|AQ hb0 func206 rfl rfl ?_
 cases h
 exact c0.gv
 refine Ap<|Aw<|Am<|Ab (Bf (i:=b0) (j:=1) rfl rfl (by omega))<|Ac rfl<|Aa<|q0 (b0 + 1) c0 s0 h
 refine AV rfl ?_
 have h:=aA h d0
 try dsimp only at h
 refine Ae<|Af rfl<|Aa<|Ak rfl<|AQ hb0 func206 rfl rfl ?_
 cases h
 exact c0.gv
def bQ_p (n:Nat) (a0:List Bool) (a1:Bool):Option Bool:=
  (aM_p n a0 a1).bind fun y1=>some (decide (0 <= y1))
theorem bQ_c (n:Nat) {L w} (hL:hl L w) {a0:List Bool} {v0_0:Value} (h0_0:Rep.R w L [v0_0] a0) {a1:Bool}  {r:Bool} (h:bQ_p n a0 a1 = some r) :
 Cl 200 #[v0_0,.bool a1] w (ae w fun _ u=>u = .bool r):=by
 unfold bQ_p at h
 have hS0:=AC w
 refine AF func200 rfl rfl rfl fun _ cs0 hb0=>Ae<|Af rfl<|Aa<|Ae<|Ac rfl<|Ac rfl<|bk h fun y1 hy1 h=>Bk (vI y1) (bd 206) rfl (e2 rfl rfl) (fun w9 hw9=>aM_c n (hS0.hL0 hL hw9) (hS0.kd h0_0 hw9) hy1) rfl<|Ab (FV.geq (i:=y1) (j:=0) rfl rfl)<|Af rfl<|Aa<|Ak rfl<|AQ hb0 func200 rfl rfl ?_
 cases h
 exact hS0.gv
def bJ_p (n:Nat) (a0:List Bool):Option Bool:=
  (bQ_p n a0 false).bind fun y1=>some (!y1)
theorem bJ_c (n:Nat) {L w} (hL:hl L w) {a0:List Bool} {v0_0:Value} (h0_0:Rep.R w L [v0_0] a0)  {r:Bool} (h:bJ_p n a0 = some r) :
 Cl 189 #[v0_0] w (ae w fun _ u=>u = .bool r):=by
 unfold bJ_p at h
 have hS0:=AC w
 refine AF func189 rfl rfl rfl fun _ cs0 hb0=>Ae<|Af rfl<|Aa<|Ae<|Ac rfl<|bk h fun y1 hy1 h=>Bk (.bool y1) (bd 200) rfl (e2 rfl rfl) (fun w9 hw9=>bQ_c n (hS0.hL0 hL hw9) (hS0.kd h0_0 hw9) hy1) rfl<|Ab (Bp rfl)<|Af rfl<|Aa<|Ak rfl<|AQ hb0 func189 rfl rfl ?_
 cases h
 exact hS0.gv
def ce_l1 (_n:Nat) (a1:UInt8) (c0:ByteArray -> Option ByteArray):ByteArray -> Option ByteArray
  | b0=>(if 0 < b0.size then (b0.data[0]?).bind fun g0=>(if g0.toNat = a1.toNat then (gm b0 1 (b0.size:Int)).bind fun d0=>c0 d0 else some b0) else some b0)
def ce_p (n:Nat) (a0:ByteArray) (a1:UInt8):Option ByteArray:=
  jn (fun c0=>some c0) (fun b0=>Option.bind (ah (ce_l1 n a1) n a0) (b0))
theorem ce_c (n:Nat) {L w} (_hL:hl L w) {a0:ByteArray} (a1:UInt8)  {r:ByteArray} (h:ce_p n a0 a1 = some r) :
 Cl 207 #[.string a0,.int .u8 (a1.toNat:Int)] w (ae w fun _ u=>u = .string r):=by
 unfold ce_p at h
 have hS0:=AC w
 refine AF func207 rfl rfl rfl fun _ cs0 hb0=>Ae<|Af rfl<|Aa<|Ai<|Au<|MX.xo (α:=ByteArray) 0 (fun c0=>[(0,.string c0)]) (fun c0=>[]) (fun c0=>c0) hS0 rfl h ?_ ?_
 rintro c0 E0 t0 C0 h
 try dsimp only at h
 refine Ae<|Ac rfl<|Af rfl<|Aa<|Ak rfl<|AQ hb0 func207 rfl rfl ?_
 cases h
 exact t0.gv
 intro A0 j0 h
 try dsimp only at h
 obtain ⟨D0,u0,k0⟩:=ao h
 refine BT (α:=ByteArray) (fun b0=>[(0,.string b0),(1,.int .u8 (a1.toNat:Int))]) (fun b0=>[]) (fun b0=>b0) a0 u0 hS0 ?_
 rintro B0 b0 F0 s0 d0 g0 h
 unfold ce_l1 at h
 try dsimp only at h
 refine Ai<|Ae<|Ac rfl<|Ab (Bx underlying9 rfl)<|Ab (FV.gtrN (i:=b0.size) (j:=0) rfl rfl)<|Ac rfl<|Bv (s:=8) rfl h (fun p0 h=>?_) (fun p0 h=>?_)
 refine Az (Ah rfl)<|bk h fun z0 x0 h=>Az (FV.strAt (k:=0) underlying9 rfl rfl rfl x0)<|Az (Ah rfl)<|Az (BF (i:=z0.toNat) (j:=a1.toNat) rfl rfl)<|Bl rfl rfl<|Aa<|AO rfl h (fun q0 h=>?_) (fun q0 h=>?_)
 refine Ap<|Au<|Am<|Ac rfl<|bk h fun y0 v0 h=>Ab (FV.strCut v0 underlying9 rfl ⟨_,rfl⟩ rfl)<|Af rfl<|Aa<|Aw<|s0 y0 d0 g0 h
 refine AV rfl ?_
 have h:=k0 _ h
 try dsimp only at h
 exact j0 b0 d0 g0 h
 refine Al<|Al<|Al<|Al<|Bn rfl rfl<|Aa<|BA rfl<|AV rfl ?_
 have h:=k0 _ h
 try dsimp only at h
 exact j0 b0 d0 g0 h
def bU_l1 (_n:Nat) (a1:UInt8) (c0:ByteArray -> Option ByteArray):ByteArray -> Option ByteArray
  | b0=>(if 0 < b0.size then (chk (((b0.size:Nat):Int) - 1)).bind fun d0=>(fV b0 d0).bind fun k0=>(if k0.toNat = a1.toNat then (chk (((b0.size:Nat):Int) - 1)).bind fun g0=>(gm b0 0 g0).bind fun j0=>c0 j0 else some b0) else some b0)
def bU_p (n:Nat) (a0:ByteArray) (a1:UInt8):Option ByteArray:=
  jn (fun c0=>some c0) (fun b0=>Option.bind (ah (bU_l1 n a1) n a0) (b0))
theorem bU_c (n:Nat) {L w} (_hL:hl L w) {a0:ByteArray} (a1:UInt8)  {r:ByteArray} (h:bU_p n a0 a1 = some r) :
 Cl 208 #[.string a0,.int .u8 (a1.toNat:Int)] w (ae w fun _ u=>u = .string r):=by
 unfold bU_p at h
 have hS0:=AC w
 refine AF func208 rfl rfl rfl fun _ cs0 hb0=>Ae<|Af rfl<|Aa<|Ai<|Au<|MX.xo (α:=ByteArray) 0 (fun c0=>[(0,.string c0)]) (fun c0=>[]) (fun c0=>c0) hS0 rfl h ?_ ?_
 rintro c0 K0 t0 H0 h
 try dsimp only at h
 refine Ae<|Ac rfl<|Af rfl<|Aa<|Ak rfl<|AQ hb0 func208 rfl rfl ?_
 cases h
 exact t0.gv
 intro F0 j0 h
 try dsimp only at h
 obtain ⟨I0,v0,k0⟩:=ao h
 refine BT (α:=ByteArray) (fun b0=>[(0,.string b0),(1,.int .u8 (a1.toNat:Int))]) (fun b0=>[]) (fun b0=>b0) a0 v0 hS0 ?_
 rintro G0 b0 M0 s0 d0 g0 h
 unfold bU_l1 at h
 try dsimp only at h
 refine Ai<|Ae<|Ac rfl<|Ab (Bx underlying9 rfl)<|Ab (FV.gtrN (i:=b0.size) (j:=0) rfl rfl)<|Ac rfl<|Bv (s:=8) rfl h (fun p0 h=>?_) (fun p0 h=>?_)
 refine Az (Ah rfl)<|Az (Ah rfl)<|Az (Bx underlying9 rfl)<|bk h fun C0 x0 h=>Az (FV.subc (i:=((b0.size:Nat):Int)) (j:=1) rfl rfl x0)<|bk h fun E0 B0 h=>?_
 obtain ⟨u0,A0⟩:=bX B0
 refine Az (FV.strAt (k:=C0.toNat) underlying9 rfl rfl u0 A0)<|Az (Ah rfl)<|Az (BF (i:=E0.toNat) (j:=a1.toNat) rfl rfl)<|Bl rfl rfl<|Aa<|AO rfl h (fun q0 h=>?_) (fun q0 h=>?_)
 refine Ap<|Au<|Am<|Ac rfl<|Ac rfl<|Ab (Bx underlying9 rfl)<|bk h fun J0 y0 h=>Ab (FV.subc (i:=((b0.size:Nat):Int)) (j:=1) rfl rfl y0)<|bk h fun D0 z0 h=>Ab (FV.strCut z0 underlying9 rfl rfl ⟨_,rfl⟩)<|Af rfl<|Aa<|Aw<|s0 D0 d0 g0 h
 refine AV rfl ?_
 have h:=k0 _ h
 try dsimp only at h
 exact j0 b0 d0 g0 h
 refine Al<|Al<|Al<|Al<|Al<|Al<|Al<|Bn rfl rfl<|Aa<|BA rfl<|AV rfl ?_
 have h:=k0 _ h
 try dsimp only at h
 exact j0 b0 d0 g0 h
def aY_l1 (_n:Nat) (g0:List Bool) (c0:ByteArray -> Option ByteArray):ByteArray -> Option ByteArray
  | b0=>(if 0 < b0.size then (b0.data[0]?).bind fun j0=>(g0[j0.toNat]?).bind fun k0=>(if k0 = true then (gm b0 1 (b0.size:Int)).bind fun d0=>c0 d0 else some b0) else some b0)
def aY_l2 (_n:Nat) (k0:List Bool) (c0:ByteArray -> Option ByteArray):ByteArray -> Option ByteArray
  | b0=>(if 0 < b0.size then (chk (((b0.size:Nat):Int) - 1)).bind fun d0=>(fV b0 d0).bind fun p0=>(k0[p0.toNat]?).bind fun q0=>(if q0 = true then (chk (((b0.size:Nat):Int) - 1)).bind fun g0=>(gm b0 0 g0).bind fun j0=>c0 j0 else some b0) else some b0)
def aY_l3 (_n:Nat) (a1:ByteArray) (g0:Nat × (List Bool) -> Option (ByteArray ⊕ (List Bool))):Nat × (List Bool) -> Option (ByteArray ⊕ (List Bool))
  | (b0,c0)=>(if b0 < a1.size then (a1.data[b0]?).bind fun d0=>(if 128 <= d0.toNat then (none).map .inl else (c0[d0.toNat]?).bind fun _z82=>g0 (b0 + 1,(c0.set d0.toNat true))) else some (.inr c0))
def aY_l4 (_n:Nat) (g0:List Bool) (c0:ByteArray -> Option ByteArray):ByteArray -> Option ByteArray
  | b0=>(if 0 < b0.size then (b0.data[0]?).bind fun j0=>(g0[j0.toNat]?).bind fun k0=>(if k0 = true then (gm b0 1 (b0.size:Int)).bind fun d0=>c0 d0 else some b0) else some b0)
def aY_l5 (_n:Nat) (k0:List Bool) (c0:ByteArray -> Option ByteArray):ByteArray -> Option ByteArray
  | b0=>(if 0 < b0.size then (chk (((b0.size:Nat):Int) - 1)).bind fun d0=>(fV b0 d0).bind fun p0=>(k0[p0.toNat]?).bind fun q0=>(if q0 = true then (chk (((b0.size:Nat):Int) - 1)).bind fun g0=>(gm b0 0 g0).bind fun j0=>c0 j0 else some b0) else some b0)
def aY_l6 (_n:Nat) (a1:ByteArray) (g0:Int × (List Bool) -> Option (ByteArray ⊕ (List Bool))):Int × (List Bool) -> Option (ByteArray ⊕ (List Bool))
  | (c0,b0)=>(if c0 < ((a1.size:Nat):Int) then (fV a1 c0).bind fun d0=>(if 128 <= d0.toNat then (none).map .inl else (b0[d0.toNat]?).bind fun _z372=>(chk (c0 + 1)).bind fun j0=>g0 (j0,(b0.set d0.toNat true))) else some (.inr b0))
def aY_p (n:Nat) (a0:ByteArray) (a1:ByteArray):Option ByteArray:=
  (if a0 = ⟨#[]⟩ then some a0 else (if a1 = ⟨#[]⟩ then some a0 else (if a1.size = 1 then (a1.data[0]?).bind fun z4=>(if z4.toNat < 128 then (a1.data[0]?).bind fun z8=>(bU_p n a0 z8).bind fun y9=>(a1.data[0]?).bind fun v0=>(ce_p n y9 v0).bind fun u0=>some u0 else thn (ah (aY_l3 n a1) n (0,(List.replicate 256 false))) (fun c0=>jn (fun p0=>jn (fun q0=>some q0) (fun g0=>Option.bind (ah (aY_l1 n c0) n p0) (g0))) (fun d0=>Option.bind (ah (aY_l2 n c0) n a0) (d0)))) else thn (ah (aY_l6 n a1) n (0,(List.replicate 256 false))) (fun b0=>jn (fun s0=>jn (fun t0=>some t0) (fun k0=>Option.bind (ah (aY_l4 n b0) n s0) (k0))) (fun j0=>Option.bind (ah (aY_l5 n b0) n a0) (j0))))))
theorem aY_c (n:Nat) {L w} (hL:hl L w) {a0:ByteArray} {a1:ByteArray}  {r:ByteArray} (h:aY_p n a0 a1 = some r) :
 Cl 201 #[.string a0,.string a1] w (ae w fun _ u=>u = .string r):=by
 unfold aY_p at h
 have hS0:=AC w
 refine AF func201 rfl rfl rfl fun _ cs0 hb0=>Ae<|Af rfl<|Aa<|Ai<|Ae<|Ac rfl<|Ab (FV.eqlS rfl rfl)<|Ac rfl<|Bv (s:=9) rfl h (fun c1 h=>?_) (fun c1 h=>?_)
 refine Al<|Al<|Bl rfl rfl<|Aa<|AZ rfl<|Ae<|Ac rfl<|Af rfl<|Aa<|Ak rfl<|AQ hb0 func201 rfl rfl ?_
 cases h
 exact hS0.gv
 refine Az (Ah rfl)<|Az (FV.eqlS rfl rfl)<|Bn rfl rfl<|Aa<|AO rfl h (fun c2 h=>?_) (fun c2 h=>?_)
 refine Ae<|Ac rfl<|Af rfl<|Aa<|Ak rfl<|AQ hb0 func201 rfl rfl ?_
 cases h
 exact hS0.gv
 refine Ap<|Ai<|Ae<|Ac rfl<|Ab (Bx underlying9 rfl)<|Ab (BF (i:=a1.size) (j:=1) rfl rfl)<|Ac rfl<|Bv (s:=17) rfl h (fun c3 h=>?_) (fun c3 h=>?_)
 refine Az (Ah rfl)<|bk h fun z4 hz4 h=>Az (FV.strAt (k:=0) underlying9 rfl rfl rfl hz4)<|Az (Bj (i:=z4.toNat) (j:=128) rfl rfl)<|Bl rfl rfl<|Aa<|AO rfl h (fun c5 h=>?_) (fun c5 h=>?_)
 refine Ai<|du 8 fun kt6 kp7=>Rv 0 kt6 rfl kp7 (fun _=>Ah rfl)<|Rv 1 kt6 rfl kp7 (fun _=>Ah rfl)<|bk h fun z8 hz8 h=>Rv 2 kt6 rfl kp7 (fun _=>FV.strAt (k:=0) underlying9 rfl rfl rfl hz8)<|bk h fun y9 hy9 h=>RD.cq 3 15 192 (.string y9) kt6 rfl kp7 (bd 208) rfl (e2 rfl rfl) (fun w9 hw9=>bU_c n (hS0.hL0 hL hw9) z8 hy9) rfl<|Rv 4 kt6 rfl kp7 (fun _=>Ah rfl)<|bk h fun v4 U3 h=>Rv 5 kt6 rfl kp7 (fun _=>FV.strAt (k:=0) underlying9 rfl rfl rfl U3)<|bk h fun u4 R3 h=>RD.cq 6 127 128 (.string u4) kt6 rfl kp7 (bd 207) rfl (e2 rfl rfl) (fun w9 hw9=>ce_c n (hS0.hL0 hL hw9) v4 R3) rfl<|Rv 7 kt6 rfl kp7 (fun _=>Bm rfl)<|AR (dk kt6)<|Ak rfl<|AQ hb0 func201 rfl rfl ?_
 cases h
 exact hS0.gv
 refine Ap<|Ai<|Ae<|Ac rfl<|BH (fst:=[]) (cap:=[]) (vs:=[.string a1]) .plain (bd 209) func209 rfl rfl rfl rfl (e1 rfl) rfl fun U4 B1 P5=>Ae ?_
 have g3:(List.replicate 256 false).length = 256:=List.length_replicate
 refine RG.nl ((List.replicate 256 false).map (fun z9:Bool=>(.bool z9:Value))) hS0 fun s6 J0 v2 q5=>Af rfl<|Aa<|Ai<|Ae<|Af rfl<|Aa<|Au<|tn h fun k6 B3 I1=>MX.lf (α:=Nat × (List Bool)) (fun ⟨p0,c0⟩=>[(0,.string a1),(2,vP J0),(4,vI ((p0:Nat):Int))]) (fun ⟨p0,c0⟩=>[.cells J0 (c0.map (fun z9:Bool=>(.bool z9:Value))) 274]) (fun ⟨p0,c0⟩ t4=>c0.length = 256) (fun ⟨p0,c0⟩=>(p0,c0)) (0,(List.replicate 256 false)) B3 v2 g3 ?_
 rintro M4 ⟨p0,c0⟩ t4 u2 A0 K2 g0 h
 unfold aY_l3 at h
 try dsimp only at h
 refine Ai<|Ae<|Ac rfl<|Ac rfl<|Ab (Bx underlying9 rfl)<|Ab (Bj (i:=p0) (j:=a1.size) rfl rfl)<|Aa<|AO rfl h (fun g2 h=>?_) (fun g2 h=>?_)
 refine Ap<|Ai<|Au<|Ae<|Ac rfl<|Ac rfl<|bk h fun E0 b4 h=>Ab (FV.strAt (k:=p0) underlying9 rfl rfl rfl b4)<|Af rfl<|Aa<|Ai<|Ae<|Ac rfl<|Ab (FV.geqN (i:=E0.toNat) (j:=128) rfl rfl)<|Aa<|AO rfl h (fun j2 h=>?_) (fun j2 h=>?_)
 refine Ae<|Ab (Bo (cs:=c0.map (fun z9:Bool=>(.bool z9:Value))) (by rw [List.length_map,g0]; kernel_rfl) rfl (A0.memA .hd))<|RG.now .plain (Acts.storeBig (fun z9:Bool=>(.bool z9:Value)) (m:=256) g0 g0 A0 .hd rfl rfl rfl (fun _=>rfl)) fun C6 v1 D5=>Af rfl<|Aa ?_
 have h:=jc h I1
 refine Ak rfl<|Ar (u:=.tuple #[.agg (c0.map (fun z9:Bool=>(.bool z9:Value))).toArray,.bool false]) B1 func209 rfl (.cons (.many (cs:=c0.map (fun z9:Bool=>(.bool z9:Value))) (by rw [List.length_map,g0]; kernel_rfl) rfl (v1.memA .hd)) (.cons (.tmp rfl) .nil)) rfl<|Ac rfl<|Ab (Aj rfl rfl)<|Ab (Aj rfl rfl) ?_
 have s3:(List.replicate 256 false).length = 256:=List.length_replicate
 refine RG.nl ((List.replicate 256 false).map (fun z9:Bool=>(.bool z9:Value))) v1 fun D6 Q4 F2 E5=>RG.now .plain (Acts.storeBig (fun z9:Bool=>(.bool z9:Value)) (m:=256) s3 g0 F2 .hd rfl rfl rfl (fun _=>rfl)) fun E6 k5 F5=>Af rfl<|Aa<|Ae<|Ac rfl<|Aa<|BA rfl<|Ap<|Ae<|Ac rfl<|Ac rfl ?_
 cases h
 refine Ap<|Am<|Ac rfl<|bk h fun X6 V0 h=>?_
 have K5:=aK (p:=⟨J0,0,none⟩) (cs:=c0.map (fun z9:Bool=>(.bool z9:Value))) (i:=E0.toNat) (A0.memA .hd) (cD (fun z9:Bool=>(.bool z9:Value)) V0)
 refine Ab (Bd (m:=1) (k:=E0.toNat) (len:=256) rfl rfl rfl rfl (aU V0 g0)) ?_
 have t3:(c0.set E0.toNat true).length = 256:=by rw [List.length_set]; exact g0
 refine RG.now .plain (Acts.setBig (fun z9:Bool=>(.bool z9:Value)) (i:=E0.toNat) (x:=true) (m:=256) g0 (aU V0 g0) A0 .hd rfl (eH _ _ _) rfl rfl (fun _=>⟨rfl,rfl⟩)) fun F6 G2 M2=>Aa<|Aw<|Am<|Ac rfl<|Ab (Bf (i:=p0) (j:=1) rfl rfl (by omega))<|Af rfl<|Aa<|u2 (p0 + 1,(c0.set E0.toNat true)) G2 (Tt K2 M2) t3 h
 refine AV rfl ?_
 have h:=aA h I1
 try dsimp only at h
 refine Ae<|Ab (Bo (cs:=c0.map (fun z9:Bool=>(.bool z9:Value))) (by rw [List.length_map,g0]; kernel_rfl) rfl (A0.memA .hd))<|RG.now .plain (Acts.storeBig (fun z9:Bool=>(.bool z9:Value)) (m:=256) g0 g0 A0 .hd rfl rfl rfl (fun _=>rfl)) fun G6 x1 G5=>Af rfl<|Aa<|Ak rfl<|Ar (u:=.tuple #[.agg (c0.map (fun z9:Bool=>(.bool z9:Value))).toArray,.bool true]) B1 func209 rfl (.cons (.many (cs:=c0.map (fun z9:Bool=>(.bool z9:Value))) (by rw [List.length_map,g0]; kernel_rfl) rfl (x1.memA .hd)) (.cons (.tmp rfl) .nil)) rfl<|Ac rfl<|Ab (Aj rfl rfl)<|Ab (Aj rfl rfl) ?_
 have u3:(List.replicate 256 false).length = 256:=List.length_replicate
 refine RG.nl ((List.replicate 256 false).map (fun z9:Bool=>(.bool z9:Value))) x1 fun H6 k0 H2 H5=>RG.now .plain (Acts.storeBig (fun z9:Bool=>(.bool z9:Value)) (m:=256) u3 g0 H2 .hd rfl rfl rfl (fun _=>rfl)) fun I6 y1 I5=>Af rfl<|Aa<|Ae<|Ac rfl<|Aa<|AZ rfl<|Ae<|Ac rfl<|BH (fst:=[]) (cap:=[]) (vs:=[.string a0,vP k0]) .plain (bd 211) func211 rfl rfl rfl rfl (e2 rfl rfl) rfl fun R4 P2 M5=>Ae<|Af rfl<|Aa<|Ai<|Au<|MX.xo (α:=ByteArray) 0 (fun u0=>[(0,.string u0)]) (fun u0=>[.cells k0 (c0.map (fun z9:Bool=>(.bool z9:Value))) 274]) (fun u0=>u0) y1 rfl h ?_ ?_
 rintro u0 J6 k1 p5 h
 try dsimp only at h
 refine Ae<|Ac rfl<|Af rfl<|Aa<|Ak rfl<|Ar (u:=.string u0) P2 func211 rfl (.cons (.tmp rfl) .nil) rfl<|BH (fst:=[]) (cap:=[]) (vs:=[.string u0,vP k0]) .plain (bd 210) func210 rfl rfl rfl rfl (e2 rfl rfl) rfl fun V4 Q2 Q5=>Ae<|Af rfl<|Aa<|Ai<|Au<|MX.xo (α:=ByteArray) 0 (fun B0=>[(0,.string B0)]) (fun B0=>[.cells k0 (c0.map (fun z9:Bool=>(.bool z9:Value))) 274]) (fun B0=>B0) k1 rfl h ?_ ?_
 rintro B0 K6 x2 s5 h
 try dsimp only at h
 refine Ae<|Ac rfl<|Af rfl<|Aa<|Ak rfl<|Ar (u:=.string B0) Q2 func210 rfl (.cons (.tmp rfl) .nil) rfl<|Af rfl<|Aa<|Ak rfl<|AQ hb0 func201 rfl rfl ?_
 cases h
 exact x2.gv
 intro D4 d1 h
 try dsimp only at h
 obtain ⟨b6,v3,D1⟩:=ao h
 refine BT (α:=ByteArray) (fun v0=>[(0,.string v0),(1,vP k0)]) (fun v0=>[.cells k0 (c0.map (fun z9:Bool=>(.bool z9:Value))) 274]) (fun v0=>v0) u0 v3 k1 ?_
 rintro E4 v0 M6 k2 F0 M0 h
 unfold aY_l1 at h
 try dsimp only at h
 refine Ai<|Ae<|Ac rfl<|Ab (Bx underlying9 rfl)<|Ab (FV.gtrN (i:=v0.size) (j:=0) rfl rfl)<|Aa<|AO rfl h (fun Q1 h=>?_) (fun Q1 h=>?_)
 refine Ap<|Au<|Ai<|Ae<|Ac rfl<|Ac rfl<|bk h fun W0 V3 h=>Ab (FV.strAt (k:=0) underlying9 rfl rfl rfl V3)<|BH (fst:=[]) (cap:=[]) (vs:=[vP k0,.int .u8 (W0.toNat:Int)]) .plain (bd 216) func216 rfl rfl rfl rfl (e2 rfl rfl) rfl fun W4 R2 R5=>Ae<|Af rfl<|Aa<|Ae<|Ac rfl<|Ac rfl<|Ab (BW rfl)<|bk h fun x4 J1 h=>Ab (Bd (m:=1) (k:=W0.toNat) (len:=256) rfl rfl rfl rfl (aU J1 g0))<|AL rfl ((aK (p:=⟨k0,0,none⟩) (cs:=c0.map (fun z9:Bool=>(.bool z9:Value))) (i:=W0.toNat) (F0.memA .hd) (cD (fun z9:Bool=>(.bool z9:Value)) J1)) 0 _ rfl)<|Af rfl<|Aa<|Ak rfl<|Ar (u:=.bool x4) R2 func216 rfl (.cons (.tmp rfl) .nil) rfl<|Ab (Bp rfl)<|Aa<|BU rfl h (fun R1 h=>?_) (fun R1 h=>?_)
 refine Ap<|Am<|Ac rfl<|bk h fun c4 C3 h=>Ab (FV.strCut C3 underlying9 rfl ⟨_,rfl⟩ rfl)<|Af rfl<|Aa<|Aw<|k2 c4 F0 M0 h
 refine AV rfl ?_
 have h:=D1 _ h
 try dsimp only at h
 exact d1 v0 F0 M0 h
 refine AV rfl ?_
 have h:=D1 _ h
 try dsimp only at h
 exact d1 v0 F0 M0 h
 intro C4 b1 h
 try dsimp only at h
 obtain ⟨y2,z1⟩:=AH y1 (.a0 .done)
 obtain ⟨c6,x3,E1⟩:=ao h
 refine BT (α:=ByteArray) (fun q0=>[(0,.string q0),(1,vP k0)]) (fun q0=>[.cells k0 (c0.map (fun z9:Bool=>(.bool z9:Value))) 274]) (fun q0=>q0) a0 x3 y2 ?_
 rintro F4 q0 P6 p2 G0 P0 h
 unfold aY_l2 at h
 try dsimp only at h
 refine Ai<|Ae<|Ac rfl<|Ab (Bx underlying9 rfl)<|Ab (FV.gtrN (i:=q0.size) (j:=0) rfl rfl)<|Aa<|AO rfl h (fun U1 h=>?_) (fun U1 h=>?_)
 refine Ap<|Au<|Ai<|Ae<|Ac rfl<|Ac rfl<|Ac rfl<|Ab (Bx underlying9 rfl)<|bk h fun d4 D3 h=>Ab (FV.subc (i:=((q0.size:Nat):Int)) (j:=1) rfl rfl D3)<|bk h fun X0 W3 h=>?_
 obtain ⟨Z2,M3⟩:=bX W3
 refine Ab (FV.strAt (k:=d4.toNat) underlying9 rfl rfl Z2 M3)<|BH (fst:=[]) (cap:=[]) (vs:=[vP k0,.int .u8 (X0.toNat:Int)]) .plain (bd 216) func216 rfl rfl rfl rfl (e2 rfl rfl) rfl fun X4 U2 U5=>Ae<|Af rfl<|Aa<|Ae<|Ac rfl<|Ac rfl<|Ab (BW rfl)<|bk h fun y4 K1 h=>Ab (Bd (m:=1) (k:=X0.toNat) (len:=256) rfl rfl rfl rfl (aU K1 g0))<|AL rfl ((aK (p:=⟨k0,0,none⟩) (cs:=c0.map (fun z9:Bool=>(.bool z9:Value))) (i:=X0.toNat) (G0.memA .hd) (cD (fun z9:Bool=>(.bool z9:Value)) K1)) 0 _ rfl)<|Af rfl<|Aa<|Ak rfl<|Ar (u:=.bool y4) U2 func216 rfl (.cons (.tmp rfl) .nil) rfl<|Ab (Bp rfl)<|Aa<|BU rfl h (fun V1 h=>?_) (fun V1 h=>?_)
 refine Ap<|Am<|Ac rfl<|Ac rfl<|Ab (Bx underlying9 rfl)<|bk h fun p6 E3 h=>Ab (FV.subc (i:=((q0.size:Nat):Int)) (j:=1) rfl rfl E3)<|bk h fun g4 F3 h=>Ab (FV.strCut F3 underlying9 rfl rfl ⟨_,rfl⟩)<|Af rfl<|Aa<|Aw<|p2 g4 G0 P0 h
 refine AV rfl ?_
 have h:=E1 _ h
 try dsimp only at h
 exact b1 q0 G0 (Tt z1 P0) h
 refine AV rfl ?_
 have h:=E1 _ h
 try dsimp only at h
 exact b1 q0 G0 (Tt z1 P0) h
 refine Al<|Al<|Al<|Bn rfl rfl<|Aa<|BA rfl<|Ap<|Ai<|Ae<|Ac rfl<|BH (fst:=[]) (cap:=[]) (vs:=[.string a1]) .plain (bd 209) func209 rfl rfl rfl rfl (e1 rfl) rfl fun Y4 C1 V5=>Ae ?_
 have j3:(List.replicate 256 false).length = 256:=List.length_replicate
 refine RG.nl ((List.replicate 256 false).map (fun z9:Bool=>(.bool z9:Value))) hS0 fun t6 K0 z2 t5=>Af rfl<|Aa<|Ai<|Ae<|Af rfl<|Aa<|Au<|tn h fun d6 y3 F1=>MX.lf (α:=Int × (List Bool)) (fun ⟨t0,b0⟩=>[(0,.string a1),(2,vP K0),(4,vI t0)]) (fun ⟨t0,b0⟩=>[.cells K0 (b0.map (fun z9:Bool=>(.bool z9:Value))) 274]) (fun ⟨t0,b0⟩ s4=>b0.length = 256) (fun ⟨t0,b0⟩=>(t0,b0)) (0,(List.replicate 256 false)) y3 z2 j3 ?_
 rintro G4 ⟨t0,b0⟩ s4 q2 z0 I2 d0 h
 unfold aY_l6 at h
 try dsimp only at h
 refine Ai<|Ae<|Ac rfl<|Ac rfl<|Ab (Bx underlying9 rfl)<|Ab (BO (i:=t0) (j:=((a1.size:Nat):Int)) rfl rfl)<|Aa<|AO rfl h (fun W1 h=>?_) (fun W1 h=>?_)
 refine Ap<|Ai<|Au<|Ae<|Ac rfl<|Ac rfl<|bk h fun D0 X3 h=>?_
 obtain ⟨b3,P3⟩:=bX X3
 refine Ab (FV.strAt (k:=t0.toNat) underlying9 rfl rfl b3 P3)<|Af rfl<|Aa<|Ai<|Ae<|Ac rfl<|Ab (FV.geqN (i:=D0.toNat) (j:=128) rfl rfl)<|Aa<|AO rfl h (fun X1 h=>?_) (fun X1 h=>?_)
 refine Ae<|Ab (Bo (cs:=b0.map (fun z9:Bool=>(.bool z9:Value))) (by rw [List.length_map,d0]; kernel_rfl) rfl (z0.memA .hd))<|RG.now .plain (Acts.storeBig (fun z9:Bool=>(.bool z9:Value)) (m:=256) d0 d0 z0 .hd rfl rfl rfl (fun _=>rfl)) fun u6 p1 u5=>Af rfl<|Aa ?_
 have h:=jc h F1
 refine Ak rfl<|Ar (u:=.tuple #[.agg (b0.map (fun z9:Bool=>(.bool z9:Value))).toArray,.bool false]) C1 func209 rfl (.cons (.many (cs:=b0.map (fun z9:Bool=>(.bool z9:Value))) (by rw [List.length_map,d0]; kernel_rfl) rfl (p1.memA .hd)) (.cons (.tmp rfl) .nil)) rfl<|Ac rfl<|Ab (Aj rfl rfl)<|Ab (Aj rfl rfl) ?_
 have k3:(List.replicate 256 false).length = 256:=List.length_replicate
 refine RG.nl ((List.replicate 256 false).map (fun z9:Bool=>(.bool z9:Value))) p1 fun v6 P4 A2 v5=>RG.now .plain (Acts.storeBig (fun z9:Bool=>(.bool z9:Value)) (m:=256) k3 d0 A2 .hd rfl rfl rfl (fun _=>rfl)) fun x6 j5 x5=>Af rfl<|Aa<|Ae<|Ac rfl<|Aa<|BA rfl<|Ap<|Ae<|Ac rfl<|Ac rfl ?_
 cases h
 refine Ap<|Am<|Ac rfl<|bk h fun W6 U0 h=>?_
 have J5:=aK (p:=⟨K0,0,none⟩) (cs:=b0.map (fun z9:Bool=>(.bool z9:Value))) (i:=D0.toNat) (z0.memA .hd) (cD (fun z9:Bool=>(.bool z9:Value)) U0)
 refine Ab (Bd (m:=1) (k:=D0.toNat) (len:=256) rfl rfl rfl rfl (aU U0 d0)) ?_
 have p3:(b0.set D0.toNat true).length = 256:=by rw [List.length_set]; exact d0
 refine RG.now .plain (Acts.setBig (fun z9:Bool=>(.bool z9:Value)) (i:=D0.toNat) (x:=true) (m:=256) d0 (aU U0 d0) z0 .hd rfl (eH _ _ _) rfl rfl (fun _=>⟨rfl,rfl⟩)) fun y6 B2 J2=>Aa<|Aw<|Am<|Ac rfl<|bk h fun j4 G3 h=>Ab (BE (i:=t0) (j:=1) rfl rfl G3)<|Af rfl<|Aa<|q2 (j4,(b0.set D0.toNat true)) B2 (Tt I2 J2) p3 h
 refine AV rfl ?_
 have h:=aA h F1
 try dsimp only at h
 refine Ae<|Ab (Bo (cs:=b0.map (fun z9:Bool=>(.bool z9:Value))) (by rw [List.length_map,d0]; kernel_rfl) rfl (z0.memA .hd))<|RG.now .plain (Acts.storeBig (fun z9:Bool=>(.bool z9:Value)) (m:=256) d0 d0 z0 .hd rfl rfl rfl (fun _=>rfl)) fun z6 q1 y5=>Af rfl<|Aa<|Ak rfl<|Ar (u:=.tuple #[.agg (b0.map (fun z9:Bool=>(.bool z9:Value))).toArray,.bool true]) C1 func209 rfl (.cons (.many (cs:=b0.map (fun z9:Bool=>(.bool z9:Value))) (by rw [List.length_map,d0]; kernel_rfl) rfl (q1.memA .hd)) (.cons (.tmp rfl) .nil)) rfl<|Ac rfl<|Ab (Aj rfl rfl)<|Ab (Aj rfl rfl) ?_
 have q3:(List.replicate 256 false).length = 256:=List.length_replicate
 refine RG.nl ((List.replicate 256 false).map (fun z9:Bool=>(.bool z9:Value))) q1 fun A6 j0 C2 z5=>RG.now .plain (Acts.storeBig (fun z9:Bool=>(.bool z9:Value)) (m:=256) q3 d0 C2 .hd rfl rfl rfl (fun _=>rfl)) fun B6 s1 A5=>Af rfl<|Aa<|Ae<|Ac rfl<|Aa<|AZ rfl<|Ae<|Ac rfl<|BH (fst:=[]) (cap:=[]) (vs:=[.string a0,vP j0]) .plain (bd 211) func211 rfl rfl rfl rfl (e2 rfl rfl) rfl fun Z4 V2 W5=>Ae<|Af rfl<|Aa<|Ai<|Au<|MX.xo (α:=ByteArray) 0 (fun x0=>[(0,.string x0)]) (fun x0=>[.cells j0 (b0.map (fun z9:Bool=>(.bool z9:Value))) 274]) (fun x0=>x0) s1 rfl h ?_ ?_
 rintro x0 Q6 u1 B5 h
 try dsimp only at h
 refine Ae<|Ac rfl<|Af rfl<|Aa<|Ak rfl<|Ar (u:=.string x0) V2 func211 rfl (.cons (.tmp rfl) .nil) rfl<|BH (fst:=[]) (cap:=[]) (vs:=[.string x0,vP j0]) .plain (bd 210) func210 rfl rfl rfl rfl (e2 rfl rfl) rfl fun b5 W2 X5=>Ae<|Af rfl<|Aa<|Ai<|Au<|MX.xo (α:=ByteArray) 0 (fun C0=>[(0,.string C0)]) (fun C0=>[.cells j0 (b0.map (fun z9:Bool=>(.bool z9:Value))) 274]) (fun C0=>C0) u1 rfl h ?_ ?_
 rintro C0 R6 D2 C5 h
 try dsimp only at h
 refine Ae<|Ac rfl<|Af rfl<|Aa<|Ak rfl<|Ar (u:=.string C0) W2 func210 rfl (.cons (.tmp rfl) .nil) rfl<|Af rfl<|Aa<|Ak rfl<|AQ hb0 func201 rfl rfl ?_
 cases h
 exact D2.gv
 intro I4 j1 h
 try dsimp only at h
 obtain ⟨g6,z3,G1⟩:=ao h
 refine BT (α:=ByteArray) (fun y0=>[(0,.string y0),(1,vP j0)]) (fun y0=>[.cells j0 (b0.map (fun z9:Bool=>(.bool z9:Value))) 274]) (fun y0=>y0) x0 z3 u1 ?_
 rintro J4 y0 U6 s2 H0 Q0 h
 unfold aY_l4 at h
 try dsimp only at h
 refine Ai<|Ae<|Ac rfl<|Ab (Bx underlying9 rfl)<|Ab (FV.gtrN (i:=y0.size) (j:=0) rfl rfl)<|Aa<|AO rfl h (fun Y1 h=>?_) (fun Y1 h=>?_)
 refine Ap<|Au<|Ai<|Ae<|Ac rfl<|Ac rfl<|bk h fun Y0 Y3 h=>Ab (FV.strAt (k:=0) underlying9 rfl rfl rfl Y3)<|BH (fst:=[]) (cap:=[]) (vs:=[vP j0,.int .u8 (Y0.toNat:Int)]) .plain (bd 216) func216 rfl rfl rfl rfl (e2 rfl rfl) rfl fun d5 X2 Y5=>Ae<|Af rfl<|Aa<|Ae<|Ac rfl<|Ac rfl<|Ab (BW rfl)<|bk h fun A4 M1 h=>Ab (Bd (m:=1) (k:=Y0.toNat) (len:=256) rfl rfl rfl rfl (aU M1 d0))<|AL rfl ((aK (p:=⟨j0,0,none⟩) (cs:=b0.map (fun z9:Bool=>(.bool z9:Value))) (i:=Y0.toNat) (H0.memA .hd) (cD (fun z9:Bool=>(.bool z9:Value)) M1)) 0 _ rfl)<|Af rfl<|Aa<|Ak rfl<|Ar (u:=.bool A4) X2 func216 rfl (.cons (.tmp rfl) .nil) rfl<|Ab (Bp rfl)<|Aa<|BU rfl h (fun Z1 h=>?_) (fun Z1 h=>?_)
 refine Ap<|Am<|Ac rfl<|bk h fun k4 H3 h=>Ab (FV.strCut H3 underlying9 rfl ⟨_,rfl⟩ rfl)<|Af rfl<|Aa<|Aw<|s2 k4 H0 Q0 h
 refine AV rfl ?_
 have h:=G1 _ h
 try dsimp only at h
 exact j1 y0 H0 Q0 h
 refine AV rfl ?_
 have h:=G1 _ h
 try dsimp only at h
 exact j1 y0 H0 Q0 h
 intro H4 g1 h
 try dsimp only at h
 obtain ⟨E2,A1⟩:=AH s1 (.a0 .done)
 obtain ⟨j6,A3,H1⟩:=ao h
 refine BT (α:=ByteArray) (fun s0=>[(0,.string s0),(1,vP j0)]) (fun s0=>[.cells j0 (b0.map (fun z9:Bool=>(.bool z9:Value))) 274]) (fun s0=>s0) a0 A3 E2 ?_
 rintro K4 s0 V6 t2 I0 R0 h
 unfold aY_l5 at h
 try dsimp only at h
 refine Ai<|Ae<|Ac rfl<|Ab (Bx underlying9 rfl)<|Ab (FV.gtrN (i:=s0.size) (j:=0) rfl rfl)<|Aa<|AO rfl h (fun b2 h=>?_) (fun b2 h=>?_)
 refine Ap<|Au<|Ai<|Ae<|Ac rfl<|Ac rfl<|Ac rfl<|Ab (Bx underlying9 rfl)<|bk h fun p4 I3 h=>Ab (FV.subc (i:=((s0.size:Nat):Int)) (j:=1) rfl rfl I3)<|bk h fun Z0 Z3 h=>?_
 obtain ⟨d3,Q3⟩:=bX Z3
 refine Ab (FV.strAt (k:=p4.toNat) underlying9 rfl rfl d3 Q3)<|BH (fst:=[]) (cap:=[]) (vs:=[vP j0,.int .u8 (Z0.toNat:Int)]) .plain (bd 216) func216 rfl rfl rfl rfl (e2 rfl rfl) rfl fun g5 Y2 Z5=>Ae<|Af rfl<|Aa<|Ae<|Ac rfl<|Ac rfl<|Ab (BW rfl)<|bk h fun B4 P1 h=>Ab (Bd (m:=1) (k:=Z0.toNat) (len:=256) rfl rfl rfl rfl (aU P1 d0))<|AL rfl ((aK (p:=⟨j0,0,none⟩) (cs:=b0.map (fun z9:Bool=>(.bool z9:Value))) (i:=Z0.toNat) (I0.memA .hd) (cD (fun z9:Bool=>(.bool z9:Value)) P1)) 0 _ rfl)<|Af rfl<|Aa<|Ak rfl<|Ar (u:=.bool B4) Y2 func216 rfl (.cons (.tmp rfl) .nil) rfl<|Ab (Bp rfl)<|Aa<|BU rfl h (fun d2 h=>?_) (fun d2 h=>?_)
 refine Ap<|Am<|Ac rfl<|Ac rfl<|Ab (Bx underlying9 rfl)<|bk h fun q6 J3 h=>Ab (FV.subc (i:=((s0.size:Nat):Int)) (j:=1) rfl rfl J3)<|bk h fun q4 K3 h=>Ab (FV.strCut K3 underlying9 rfl rfl ⟨_,rfl⟩)<|Af rfl<|Aa<|Aw<|t2 q4 I0 R0 h
 refine AV rfl ?_
 have h:=H1 _ h
 try dsimp only at h
 exact g1 s0 I0 (Tt A1 R0) h
 refine AV rfl ?_
 have h:=H1 _ h
 try dsimp only at h
 exact g1 s0 I0 (Tt A1 R0) h
def dm_p (_n:Nat) (a0:Int) (a1:Int):Option Bool:=
  (if a0 < 0 then some true else some (decide (a1 < a0)))
theorem dm_c (n:Nat) {L w} (_hL:hl L w) {a0:Int} {a1:Int} {p1:Nat} (m1:∀ j9 v9,([vI a1]:List Value)[j9]? = some v9 -> w.cell? ((⟨p1,0,none⟩:Addr).add j9) = some v9)  {r:Bool} (h:dm_p n a0 a1 = some r) :
 Cl 215 #[vI a0,.pointer (some ⟨p1,0,none⟩)] w (ae w fun _ u=>u = .bool r):=by
 unfold dm_p at h
 have hS0:=AC w
 refine AF func215 rfl rfl rfl fun _ cs0 hb0=>Ae<|Af rfl<|Aa<|Ae<|Ac rfl<|Ab (BO (i:=a0) (j:=0) rfl rfl)<|Ac rfl<|Bv (s:=6) rfl h (fun c1 h=>?_) (fun c1 h=>?_)
 refine Al<|Al<|Al<|Bl rfl rfl<|Af rfl<|Aa<|Ak rfl<|AQ hb0 func215 rfl rfl ?_
 cases h
 exact hS0.gv
 refine Az (Ah rfl)<|Az (AN rfl ((fun j9 v9 h9=>hS0.ag.cell0 (m1 j9 v9 h9)) 0 _ rfl))<|Az (FV.gtr (i:=a0) (j:=a1) rfl rfl)<|Bn rfl rfl<|Af rfl<|Aa<|Ak rfl<|AQ hb0 func215 rfl rfl ?_
 cases h
 exact hS0.gv
def bI_l1 (n:Nat) (a0:List Int) (a2:Int) (c0:Nat -> Option (Bool ⊕ Unit)):Nat -> Option (Bool ⊕ Unit)
  | b0=>(if b0 < a0.length then (a0[b0]?).bind fun d0=>(dm_p n d0 a2).bind fun g0=>(if g0 = true then some (.inl (!(decide (0 <= b0)))) else c0 (b0 + 1)) else some (.inr ()))
def bI_p (n:Nat) (a0:List Int) (a1:Int) (a2:Int):Option Bool:=
  (if ((a0.length:Nat):Int) = a1 then thn (ah (bI_l1 n a0 a2) n 0) (fun _=>some (!(decide (0 <= (-1))))) else some false)
theorem bI_c (n:Nat) {L w} (hL:hl L w) {a0:List Int} {v0_0:Value} (h0_0:Rep.R w L [v0_0] a0) {a1:Int} {a2:Int}  {r:Bool} (h:bI_p n a0 a1 a2 = some r) :
 Cl 202 #[v0_0,vI a1,vI a2] w (ae w fun _ u=>u = .bool r):=by
 unfold bI_p at h
 refine AF func202 rfl rfl rfl fun _ cs0 hb0=>Ae<|RG.bx (AC w) rfl rfl fun Y0 c0 g0 R0=>Af rfl<|Aa<|Ae<|Ac rfl ?_
 have j0:=AM h0_0 g0
 have U0:a0.length <= 281474976710656:=AS j0
 refine Ab (AW (xs:=a0) underlying52 rfl j0)<|Ac rfl<|Ab (FV.eql (i:=((a0.length:Nat):Int)) (j:=a1) rfl rfl)<|Ac rfl<|Bv (s:=11) rfl h (fun s0 h=>?_) (fun s0 h=>?_)
 refine Az (Ah rfl)<|Az (FV.makeFunc (vs:=[]) (us:=[vP c0]) am (e1 rfl))<|BH (fst:=[]) (cap:=[]) (vs:=[v0_0,.func (.func 215) #[] #[vP c0]]) (.yes rfl rfl) (bd 214) func214 rfl rfl rfl rfl (e2 rfl rfl) rfl fun P0 k0 V0=>Ae<|Af rfl<|Aa<|Ae<|Ac rfl<|Ac rfl<|BH (fst:=[]) (cap:=[]) (vs:=[v0_0,.func (.func 215) #[] #[vP c0]]) .plain (bd 220) func220 rfl rfl rfl rfl (e2 rfl rfl) rfl fun Q0 p0 W0=>Ae<|Af rfl<|Aa<|Ai<|Ae<|Ac rfl<|Ab (AW (xs:=a0) underlying52 rfl j0)<|Ac rfl<|Aa<|Au<|tn h fun X0 D0 q0=>BT (α:=Nat) (fun b0=>[(0,v0_0),(1,.func (.func 215) #[] #[vP c0]),(7,vI ((a0.length:Nat):Int)),(8,vI ((b0:Nat):Int))]) (fun b0=>[.cells c0 [vI a2] 3]) (fun b0=>b0) 0 D0 g0 ?_
 rintro K0 b0 Z0 x0 d0 y0 h
 unfold bI_l1 at h
 try dsimp only at h
 refine Ae<|Ab (Bj (i:=b0) (j:=a0.length) rfl rfl)<|Aa<|Ai<|AO rfl h (fun t0 h=>?_) (fun t0 h=>?_)
 refine Ap<|Ai<|Au<|Ae<|Ac rfl<|Af rfl<|Aa<|Ae<|Ac rfl<|Ac rfl<|Ac rfl<|bk h fun H0 F0 h=>?_
 obtain ⟨J0,M0,z0,B0,v0,E0,C0⟩:=Bg (AM h0_0 d0) F0
 have A0:v0 = [vI H0]:=E0; subst A0
 refine Ab (Bi 1 b0 rfl z0 rfl rfl B0)<|AL rfl (C0 0 _ rfl)<|bk h fun I0 G0 h=>RG.callq' (v:=.bool I0) (fst:=[]) (cap:=[vP c0]) .plain (bd 215) rfl (e1 rfl) (fun w9 hw9=>dm_c n (d0.hL0 hL hw9) (aD hw9 (d0.memA .hd)) G0) rfl<|Aa<|MX.ifb rfl h (fun u0 h=>?_) (fun u0 h=>?_)
 refine Ae<|Ac rfl<|Af rfl<|Aa ?_
 have h:=ap h q0
 refine Ak rfl<|Ar (u:=vI ((b0:Nat):Int)) p0 func220 rfl (.cons (.tmp rfl) .nil) rfl<|Ab (FV.geqN (i:=b0) (j:=0) rfl rfl)<|Af rfl<|Aa<|Ak rfl<|Ar (u:=.bool (decide (0 <= b0))) k0 func214 rfl (.cons (.tmp rfl) .nil) rfl<|Az (Bp rfl)<|Bl rfl rfl<|Af rfl<|Aa<|Ak rfl<|AQ hb0 func202 rfl rfl ?_
 cases h
 exact d0.gv
 refine Ap<|Aw<|Am<|Ab (Bf (i:=b0) (j:=1) rfl rfl (by omega))<|Ac rfl<|Aa<|x0 (b0 + 1) d0 y0 h
 refine AV rfl ?_
 have h:=aA h q0
 try dsimp only at h
 refine Ae<|Af rfl<|Aa<|Ak rfl<|Ar (u:=vI (-1)) p0 func220 rfl (.cons (.tmp rfl) .nil) rfl<|Ab (FV.geq (i:=(-1)) (j:=0) rfl rfl)<|Af rfl<|Aa<|Ak rfl<|Ar (u:=.bool (decide (0 <= (-1)))) k0 func214 rfl (.cons (.tmp rfl) .nil) rfl<|Az (Bp rfl)<|Bl rfl rfl<|Af rfl<|Aa<|Ak rfl<|AQ hb0 func202 rfl rfl ?_
 cases h
 exact d0.gv
 refine Al<|Al<|Al<|Al<|Bn rfl rfl<|Af rfl<|Aa<|Ak rfl<|AQ hb0 func202 rfl rfl ?_
 cases h
 exact g0.gv
end Go.Proofs.YtfccehcnajelgaaGreatDoor
