import Derived.Test.YtfccehcnajelgaaGreatDoorUB6
namespace Go.Proofs.YtfccehcnajelgaaGreatDoor
open Go Go.RowKit Tryz
set_option maxRecDepth 4000
set_option maxHeartbeats 4000000

def ah_l1 (_n:Nat) (d0:Nat) (a1:List Ta) (g0:Ta) (c0:Nat -> Option ((Int ⊕ Unit) ⊕ Unit)):Nat -> Option ((Int ⊕ Unit) ⊕ Unit)
  | b0=>(if b0 < d0 then (a1[b0]?).bind fun j0=>(if j0.ft = g0.ft then some (.inl (.inl (270:Int))) else c0 (b0 + 1)) else some (.inr ()))
def ah_l2 (n:Nat) (g0:Ta) (c0:Int -> Option ((Int ⊕ Unit) ⊕ Unit)):Int -> Option ((Int ⊕ Unit) ⊕ Unit)
  | b0=>(if b0 < 64 then (bM_p n g0.fm b0).bind fun j0=>(if j0 = true then some (.inl (.inl (270:Int))) else (chk (b0 + 1)).bind fun d0=>c0 d0) else some (.inr ()))
def ah_l3 (n:Nat) (a1:List Ta) (a0:Int) (d0:Nat -> Option (Int ⊕ Unit)):Nat -> Option (Int ⊕ Unit)
  | c0=>(if c0 < a1.length then (a1[c0]?).bind fun b0=>(bG_p n b0.ft).bind fun g0=>(if g0 = true then (if b0.fE < 0 then some (.inl (270:Int)) else (if 1000 < b0.fE then some (.inl (270:Int)) else (if b0.fm = (0:UInt64) then some (.inl (270:Int)) else thn (ah (ah_l2 n b0) n a0) (fun _=>thn (ah (ah_l1 n c0 a1 b0) n 0) (fun _=>d0 (c0 + 1)))))) else some (.inl (270:Int))) else some (.inr ()))
def ah_p (n:Nat) (a0:Int) (a1:List Ta):Option Int:=
  (if a0 < 1 then some (2:Int) else (if 64 < a0 then some (2:Int) else (if 20 < a1.length then some (3:Int) else thn (ah (ah_l3 n a1 a0) n 0) (fun _=>some (0:Int)))))
theorem ah_c (n:Nat) {L w} (hL:hl L w) {a0:Int} {a1:List Ta} {v1_0:Value} (h1_0:Rep.R w L [v1_0] a1)  {r:Int} (h:ah_p n a0 a1 = some r) :
 Cl 14 #[vI a0,v1_0] w (ae w fun _ u=>u = vI r):=by
 unfold ah_p at h
 have hS0:=AC w
 refine AF func14 rfl rfl rfl fun _ cs0 hb0=>Ae<|Af rfl<|Aa<|Ai<|Ae<|Ac rfl<|Ab (BO (i:=a0) (j:=1) rfl rfl)<|Ac rfl<|Bv (s:=10) rfl h (fun c1 h=>?_) (fun c1 h=>?_)
 refine Al<|Al<|Bl rfl rfl<|Aa<|AZ rfl<|Ae<|Af rfl<|Aa<|Ak rfl<|AQ hb0 func14 rfl rfl ?_
 cases h
 exact hS0.gv
 refine Az (Ah rfl)<|Az (FV.gtr (i:=a0) (j:=64) rfl rfl)<|Bn rfl rfl<|Aa<|AO rfl h (fun c2 h=>?_) (fun c2 h=>?_)
 refine Ae<|Af rfl<|Aa<|Ak rfl<|AQ hb0 func14 rfl rfl ?_
 cases h
 exact hS0.gv
 refine Ap<|Ai<|Ae<|Ac rfl ?_
 have hl3:a1.length <= 281474976710656:=AS h1_0
 refine Ab (AW (xs:=a1) underlying30 rfl h1_0)<|Ab (FV.gtrN (i:=a1.length) (j:=20) rfl rfl)<|Aa<|AO rfl h (fun c4 h=>?_) (fun c4 h=>?_)
 refine Ae<|Af rfl<|Aa<|Ak rfl<|AQ hb0 func14 rfl rfl ?_
 cases h
 exact hS0.gv
 refine Ap<|Ai<|Ae<|Af rfl<|Aa<|Au<|tn h fun d2 q1 k0=>BT (α:=Nat) (fun b0=>[(0,vI a0),(1,v1_0),(5,vI ((b0:Nat):Int))]) (fun b0=>[]) (fun b0=>b0) 0 q1 hS0 ?_
 rintro M1 b0 k2 R0 j0 W0 h
 unfold ah_l3 at h
 try dsimp only at h
 refine Ai<|Ae<|Ac rfl<|Ac rfl ?_
 have D0:=AM h1_0 j0
 refine Ab (AW (xs:=a1) underlying30 rfl D0)<|Ab (Bj (i:=b0) (j:=a1.length) rfl rfl)<|Aa<|AO rfl h (fun F0 h=>?_) (fun F0 h=>?_)
 refine Ap<|Ai<|Au<|Ai<|Ae<|Ac rfl<|Ac rfl<|bk h fun x0 y0 h=>?_
 obtain ⟨H1,R1,t0,u0,X1,v1,v0⟩:=Bg D0 y0
 obtain rfl:=bw v1
 refine Ab (Bi 3 b0 rfl t0 rfl rfl u0)<|AT 0 rfl<|AL rfl (v0 0 _ rfl)<|bk h fun F1 C1 h=>Bk (.bool F1) (bd 43) rfl (e1 rfl) (fun w9 hw9=>bG_c n (j0.hL0 hL hw9)  C1) rfl<|Ab (Bp rfl)<|Ac rfl<|RG.ifnb (s:=30) rfl h (fun G0 h=>?_) (fun G0 h=>?_)
 refine Az (Ah rfl)<|Az (Ah rfl)<|Az (Bi 3 b0 rfl t0 rfl rfl u0)<|RG.fg 1 rfl<|Az (AN rfl (v0 1 _ rfl))<|Az (BO (i:=x0.fE) (j:=0) rfl rfl)<|Bn rfl rfl<|Ac rfl<|Bv (s:=38) rfl h (fun H0 h=>?_) (fun H0 h=>?_)
 refine Al<|Al<|Al<|Al<|Al<|Al<|Bl rfl rfl<|Ac rfl<|Al<|Al<|Al<|Al<|Al<|Al<|Bl rfl rfl<|Aa<|AZ rfl<|Ae<|Af rfl<|Aa ?_
 have h:=ap h k0
 refine Ak rfl<|AQ hb0 func14 rfl rfl ?_
 cases h
 exact j0.gv
 refine Az (Ah rfl)<|Az (Ah rfl)<|Az (Bi 3 b0 rfl t0 rfl rfl u0)<|RG.fg 1 rfl<|Az (AN rfl (v0 1 _ rfl))<|Az (FV.gtr (i:=x0.fE) (j:=1000) rfl rfl)<|Bn rfl rfl<|Ac rfl<|Bv (s:=46) rfl h (fun I0 h=>?_) (fun I0 h=>?_)
 refine Al<|Al<|Al<|Al<|Al<|Al<|Bl rfl rfl<|Aa<|AZ rfl<|Ae<|Af rfl<|Aa ?_
 have h:=ap h k0
 refine Ak rfl<|AQ hb0 func14 rfl rfl ?_
 cases h
 exact j0.gv
 refine Az (Ah rfl)<|Az (Ah rfl)<|Az (Bi 3 b0 rfl t0 rfl rfl u0)<|RG.fg 2 rfl<|Az (AN rfl (v0 2 _ rfl))<|Az (FV.eqlU (a:=x0.fm) (b:=(0:UInt64)) rfl rfl)<|Bn rfl rfl<|Aa<|AO rfl h (fun J0 h=>?_) (fun J0 h=>?_)
 refine Ae<|Af rfl<|Aa ?_
 have h:=ap h k0
 refine Ak rfl<|AQ hb0 func14 rfl rfl ?_
 cases h
 exact j0.gv
 refine Ap<|Ai<|Ae<|Ac rfl<|Af rfl<|Aa<|Au<|tn h fun g2 s1 B0=>BT (α:=Int) (fun p0=>[(0,vI a0),(1,v1_0),(5,vI ((b0:Nat):Int)),(6,vI p0)]) (fun p0=>[]) (fun p0=>p0) a0 s1 j0 ?_
 rintro P1 p0 p2 U0 q0 z0 h
 unfold ah_l2 at h
 try dsimp only at h
 refine Ai<|Ae<|Ac rfl<|Ab (BO (i:=p0) (j:=64) rfl rfl)<|Aa<|AO rfl h (fun K0 h=>?_) (fun K0 h=>?_)
 refine Ap<|Ai<|Au<|Ae<|Ac rfl<|Ac rfl ?_
 obtain ⟨I1,U1,X0,b1,Y1,x1,j1⟩:=Bg (AM h1_0 q0) y0
 obtain rfl:=bw x1
 refine Ab (Bi 3 b0 rfl X0 rfl rfl b1)<|AT 2 rfl<|AL rfl (j1 2 _ rfl)<|Ac rfl<|bk h fun G1 D1 h=>Bk (.bool G1) (bd 44) rfl (e2 rfl rfl) (fun w9 hw9=>bM_c n (q0.hL0 hL hw9) x0.fm D1) rfl<|Aa<|MX.ifb rfl h (fun M0 h=>?_) (fun M0 h=>?_)
 refine Ae<|Af rfl<|Aa ?_
 have h:=ap h B0
 have h:=ap h k0
 refine Ak rfl<|AQ hb0 func14 rfl rfl ?_
 cases h
 exact q0.gv
 refine Ap<|Aw<|Am<|Ac rfl<|bk h fun E1 A1 h=>Ab (BE (i:=p0) (j:=1) rfl rfl A1)<|Af rfl<|Aa<|U0 E1 q0 z0 h
 refine AV rfl ?_
 have h:=aA h B0
 try dsimp only at h
 refine Ae<|Af rfl<|Aa<|Au<|tn h fun j2 u1 C0=>BT (α:=Nat) (fun g0=>[(0,vI a0),(1,v1_0),(5,vI ((b0:Nat):Int)),(7,vI ((g0:Nat):Int))]) (fun g0=>[]) (fun g0=>g0) 0 u1 q0 ?_
 rintro Q1 g0 q2 V0 s0 A0 h
 unfold ah_l1 at h
 try dsimp only at h
 refine Ai<|Ae<|Ac rfl<|Ac rfl<|Ab (Bj (i:=g0) (j:=b0) rfl rfl)<|Aa<|AO rfl h (fun P0 h=>?_) (fun P0 h=>?_)
 refine Ap<|Ai<|Au<|Ai<|du 11 fun c0 d0=>Rv 0 c0 rfl d0 (fun _=>Ah rfl)<|Rv 1 c0 rfl d0 (fun _=>Ah rfl)<|bk h fun s2 B1 h=>?_
 have E0:=AM h1_0 s0
 obtain ⟨J1,V1,Y0,d1,Z1,y1,k1⟩:=Bg E0 B1
 obtain rfl:=bw y1
 refine Rv 2 c0 rfl d0 (fun _=>Bi 3 g0 rfl Y0 rfl rfl d1)<|Rv 3 c0 rfl d0 (fun _=>Be 0 rfl)<|Rx 4 1024 c0 rfl d0 (AN rfl (k1 0 _ rfl))<|Rv 5 c0 rfl d0 (fun _=>Ah rfl)<|Rv 6 c0 rfl d0 (fun _=>Ah rfl) ?_
 obtain ⟨K1,W1,Z0,g1,b2,z1,p1⟩:=Bg E0 y0
 obtain rfl:=bw z1
 refine Rv 7 c0 rfl d0 (fun _=>Bi 3 b0 rfl Z0 rfl rfl g1)<|Rv 8 c0 rfl d0 (fun _=>Be 0 rfl)<|Rx 9 1024 c0 rfl d0 (AN rfl (p1 0 _ rfl))<|Rv 10 c0 rfl d0 (fun _=>FV.eqlS rfl rfl)<|AR (dk c0)<|AO rfl h (fun Q0 h=>?_) (fun Q0 h=>?_)
 refine Ae<|Af rfl<|Aa ?_
 have h:=ap h C0
 have h:=ap h k0
 refine Ak rfl<|AQ hb0 func14 rfl rfl ?_
 cases h
 exact s0.gv
 refine Ap<|Aw<|Am<|Ac rfl<|Ab (Bf (i:=g0) (j:=1) rfl rfl (by omega))<|Af rfl<|Aa<|V0 (g0 + 1) s0 A0 h
 refine AV rfl ?_
 have h:=aA h C0
 try dsimp only at h
 refine Aw<|Am<|Ac rfl<|Ab (Bf (i:=b0) (j:=1) rfl rfl (by omega))<|Af rfl<|Aa<|R0 (b0 + 1) s0 (Tt W0 (Tt z0 A0)) h
 refine Al<|Al<|Al<|Al<|Al<|Al<|Bl rfl rfl<|Ac rfl<|Al<|Al<|Al<|Al<|Al<|Al<|Bl rfl rfl<|Ac rfl<|Al<|Al<|Al<|Al<|Al<|Al<|Bl rfl rfl<|Aa<|AZ rfl<|Ae<|Af rfl<|Aa ?_
 have h:=ap h k0
 refine Ak rfl<|AQ hb0 func14 rfl rfl ?_
 cases h
 exact j0.gv
 refine AV rfl ?_
 have h:=aA h k0
 try dsimp only at h
 refine Ae<|Af rfl<|Aa<|Ak rfl<|AQ hb0 func14 rfl rfl ?_
 cases h
 exact j0.gv
def bP_l1 (_n:Nat) (a0:ByteArray) (g0:Int -> Option (Bool ⊕ Unit)):Int -> Option (Bool ⊕ Unit)
  | d0=>(if d0 < ((a0.size:Nat):Int) then (fV a0 d0).bind fun b0=>jn (fun j0=>(if j0 = true then some (.inl false) else (chk (d0 + 1)).bind fun k0=>g0 k0)) (fun c0=>(if 65 <= b0.toNat then (if b0.toNat <= 90 then c0 false else (if 97 <= b0.toNat then (if b0.toNat <= 122 then c0 false else (if 48 <= b0.toNat then (if b0.toNat <= 57 then c0 false else (if b0.toNat = 45 then c0 false else c0 (!(decide (b0.toNat = 95))))) else (if b0.toNat = 45 then c0 false else c0 (!(decide (b0.toNat = 95)))))) else (if 48 <= b0.toNat then (if b0.toNat <= 57 then c0 false else (if b0.toNat = 45 then c0 false else c0 (!(decide (b0.toNat = 95))))) else (if b0.toNat = 45 then c0 false else c0 (!(decide (b0.toNat = 95))))))) else (if 97 <= b0.toNat then (if b0.toNat <= 122 then c0 false else (if 48 <= b0.toNat then (if b0.toNat <= 57 then c0 false else (if b0.toNat = 45 then c0 false else c0 (!(decide (b0.toNat = 95))))) else (if b0.toNat = 45 then c0 false else c0 (!(decide (b0.toNat = 95)))))) else (if 48 <= b0.toNat then (if b0.toNat <= 57 then c0 false else (if b0.toNat = 45 then c0 false else c0 (!(decide (b0.toNat = 95))))) else (if b0.toNat = 45 then c0 false else c0 (!(decide (b0.toNat = 95)))))))) else some (.inr ()))
def bP_p (n:Nat) (a0:ByteArray):Option Bool:=
  thn (ah (bP_l1 n a0) n 0) (fun _=>(if 1 <= a0.size then some (decide (a0.size <= 12)) else some false))
theorem bP_c (n:Nat) {L w} (_hL:hl L w) {a0:ByteArray}  {r:Bool} (h:bP_p n a0 = some r) :
 Cl 204 #[.string a0] w (ae w fun _ u=>u = .bool r):=by
 unfold bP_p at h
 refine AF func204 rfl rfl rfl fun _ cs0 hb0=>Ae<|Af rfl<|Aa<|Ai<|Ae<|Af rfl<|Aa<|Au<|tn h fun q1 b1 p0=>BT (α:=Int) (fun g0=>[(0,.string a0),(3,vI g0)]) (fun g0=>[]) (fun g0=>g0) 0 b1 (AC w) ?_
 rintro k1 g0 s1 W0 c0 X0 h
 unfold bP_l1 at h
 try dsimp only at h
 refine Ai<|Ae<|Ac rfl<|Ac rfl<|Ab (Bx underlying9 rfl)<|Ab (BO (i:=g0) (j:=((a0.size:Nat):Int)) rfl rfl)<|Aa<|AO rfl h (fun q0 h=>?_) (fun q0 h=>?_)
 refine Ap<|Ai<|Au<|Ae<|Ac rfl<|Ac rfl<|bk h fun b0 g1 h=>?_
 obtain ⟨Z0,d1⟩:=bX g1
 refine Ab (FV.strAt (k:=g0.toNat) underlying9 rfl rfl Z0 d1)<|Af rfl<|Aa<|Ai<|MX.jo (α:=Bool) (fun j0=>[(0,.string a0),(3,vI g0),(44,.bool j0)]) (fun j0=>[]) (fun j0=>j0) c0 h ?_ ?_
 rintro j0 u1 k0 Y0 h
 try dsimp only at h
 refine MX.ifb rfl h (fun s0 h=>?_) (fun s0 h=>?_)
 refine Ae<|Af rfl<|Aa ?_
 have h:=ap h p0
 refine Ak rfl<|AQ hb0 func204 rfl rfl ?_
 cases h
 exact k0.gv
 refine Ap<|Aw<|Am<|Ac rfl<|bk h fun j1 c1 h=>Ab (BE (i:=g0) (j:=1) rfl rfl c1)<|Af rfl<|Aa<|W0 j1 k0 (Tt X0 Y0) h
 intro p1 d0 h
 try dsimp only at h
 refine Am<|Ac rfl<|Ab (FV.geqN (i:=b0.toNat) (j:=65) rfl rfl)<|Ac rfl<|Bv (s:=16) rfl h (fun t0 h=>?_) (fun t0 h=>?_)
 refine Az (Ah rfl)<|Az (FV.leqN (i:=b0.toNat) (j:=90) rfl rfl)<|Bl rfl rfl<|Ac rfl<|Bv (s:=20) rfl h (fun u0 h=>?_) (fun u0 h=>?_)
 refine Al<|Al<|Al<|RG.un<|RG.un<|Al<|Bl rfl rfl<|Ac rfl<|Al<|Al<|Al<|RG.un<|RG.un<|Al<|Bl rfl rfl<|Ac rfl<|Al<|Al<|Bl rfl rfl<|Ac rfl<|Al<|Al<|Bl rfl rfl<|Ab (Bp rfl)<|Aa<|d0 false c0 (Bw _ _) h
 refine Az (Ah rfl)<|Az (FV.geqN (i:=b0.toNat) (j:=97) rfl rfl)<|Az (Ah rfl)<|Bv (s:=23) rfl h (fun v0 h=>?_) (fun v0 h=>?_)
 refine Az (Ah rfl)<|Az (FV.leqN (i:=b0.toNat) (j:=122) rfl rfl)<|Az (BP rfl rfl)<|Bn rfl rfl<|Ac rfl<|Bv (s:=28) rfl h (fun x0 h=>?_) (fun x0 h=>?_)
 refine Al<|Al<|Al<|RG.un<|RG.un<|Al<|Bl rfl rfl<|Ac rfl<|Al<|Al<|Bl rfl rfl<|Ac rfl<|Al<|Al<|Bl rfl rfl<|Ab (Bp rfl)<|Aa<|d0 false c0 (Bw _ _) h
 refine Az (Ah rfl)<|Az (FV.geqN (i:=b0.toNat) (j:=48) rfl rfl)<|Az (Ah rfl)<|Bv (s:=31) rfl h (fun y0 h=>?_) (fun y0 h=>?_)
 refine Az (Ah rfl)<|Az (FV.leqN (i:=b0.toNat) (j:=57) rfl rfl)<|Az (BP rfl rfl)<|Bn rfl rfl<|Ac rfl<|Bv (s:=36) rfl h (fun z0 h=>?_) (fun z0 h=>?_)
 refine Al<|Al<|Bl rfl rfl<|Ac rfl<|Al<|Al<|Bl rfl rfl<|Ab (Bp rfl)<|Aa<|d0 false c0 (Bw _ _) h
 refine Az (Ah rfl)<|Az (BF (i:=b0.toNat) (j:=45) rfl rfl)<|Bn rfl rfl<|Ac rfl<|Bv (s:=40) rfl h (fun A0 h=>?_) (fun A0 h=>?_)
 refine Al<|Al<|Bl rfl rfl<|Ab (Bp rfl)<|Aa<|d0 false c0 (Bw _ _) h
 refine Az (Ah rfl)<|Az (BF (i:=b0.toNat) (j:=95) rfl rfl)<|Bn rfl rfl<|Ab (Bp rfl)<|Aa<|d0 (!(decide (b0.toNat = 95))) c0 (Bw _ _) h
 refine Al<|Al<|Az (Bc rfl rfl)<|Bn rfl rfl<|Ac rfl<|Az (Ah rfl)<|Az (BF (i:=b0.toNat) (j:=45) rfl rfl)<|Bn rfl rfl<|Ac rfl<|Bv (s:=40) rfl h (fun B0 h=>?_) (fun B0 h=>?_)
 refine Al<|Al<|Bl rfl rfl<|Ab (Bp rfl)<|Aa<|d0 false c0 (Bw _ _) h
 refine Az (Ah rfl)<|Az (BF (i:=b0.toNat) (j:=95) rfl rfl)<|Bn rfl rfl<|Ab (Bp rfl)<|Aa<|d0 (!(decide (b0.toNat = 95))) c0 (Bw _ _) h
 refine Al<|Al<|Az (Bc rfl rfl)<|Bn rfl rfl<|Ac rfl<|Az (Ah rfl)<|Az (FV.geqN (i:=b0.toNat) (j:=48) rfl rfl)<|Az (Ah rfl)<|Bv (s:=31) rfl h (fun C0 h=>?_) (fun C0 h=>?_)
 refine Az (Ah rfl)<|Az (FV.leqN (i:=b0.toNat) (j:=57) rfl rfl)<|Az (BP rfl rfl)<|Bn rfl rfl<|Ac rfl<|Bv (s:=36) rfl h (fun D0 h=>?_) (fun D0 h=>?_)
 refine Al<|Al<|Bl rfl rfl<|Ac rfl<|Al<|Al<|Bl rfl rfl<|Ab (Bp rfl)<|Aa<|d0 false c0 (Bw _ _) h
 refine Az (Ah rfl)<|Az (BF (i:=b0.toNat) (j:=45) rfl rfl)<|Bn rfl rfl<|Ac rfl<|Bv (s:=40) rfl h (fun E0 h=>?_) (fun E0 h=>?_)
 refine Al<|Al<|Bl rfl rfl<|Ab (Bp rfl)<|Aa<|d0 false c0 (Bw _ _) h
 refine Az (Ah rfl)<|Az (BF (i:=b0.toNat) (j:=95) rfl rfl)<|Bn rfl rfl<|Ab (Bp rfl)<|Aa<|d0 (!(decide (b0.toNat = 95))) c0 (Bw _ _) h
 refine Al<|Al<|Az (Bc rfl rfl)<|Bn rfl rfl<|Ac rfl<|Az (Ah rfl)<|Az (BF (i:=b0.toNat) (j:=45) rfl rfl)<|Bn rfl rfl<|Ac rfl<|Bv (s:=40) rfl h (fun F0 h=>?_) (fun F0 h=>?_)
 refine Al<|Al<|Bl rfl rfl<|Ab (Bp rfl)<|Aa<|d0 false c0 (Bw _ _) h
 refine Az (Ah rfl)<|Az (BF (i:=b0.toNat) (j:=95) rfl rfl)<|Bn rfl rfl<|Ab (Bp rfl)<|Aa<|d0 (!(decide (b0.toNat = 95))) c0 (Bw _ _) h
 refine Al<|Al<|Bn rfl rfl<|Ac rfl<|Az (Ah rfl)<|Az (FV.geqN (i:=b0.toNat) (j:=97) rfl rfl)<|Az (Ah rfl)<|Bv (s:=23) rfl h (fun G0 h=>?_) (fun G0 h=>?_)
 refine Az (Ah rfl)<|Az (FV.leqN (i:=b0.toNat) (j:=122) rfl rfl)<|Az (BP rfl rfl)<|Bn rfl rfl<|Ac rfl<|Bv (s:=28) rfl h (fun H0 h=>?_) (fun H0 h=>?_)
 refine Al<|Al<|Al<|RG.un<|RG.un<|Al<|Bl rfl rfl<|Ac rfl<|Al<|Al<|Bl rfl rfl<|Ac rfl<|Al<|Al<|Bl rfl rfl<|Ab (Bp rfl)<|Aa<|d0 false c0 (Bw _ _) h
 refine Az (Ah rfl)<|Az (FV.geqN (i:=b0.toNat) (j:=48) rfl rfl)<|Az (Ah rfl)<|Bv (s:=31) rfl h (fun I0 h=>?_) (fun I0 h=>?_)
 refine Az (Ah rfl)<|Az (FV.leqN (i:=b0.toNat) (j:=57) rfl rfl)<|Az (BP rfl rfl)<|Bn rfl rfl<|Ac rfl<|Bv (s:=36) rfl h (fun J0 h=>?_) (fun J0 h=>?_)
 refine Al<|Al<|Bl rfl rfl<|Ac rfl<|Al<|Al<|Bl rfl rfl<|Ab (Bp rfl)<|Aa<|d0 false c0 (Bw _ _) h
 refine Az (Ah rfl)<|Az (BF (i:=b0.toNat) (j:=45) rfl rfl)<|Bn rfl rfl<|Ac rfl<|Bv (s:=40) rfl h (fun K0 h=>?_) (fun K0 h=>?_)
 refine Al<|Al<|Bl rfl rfl<|Ab (Bp rfl)<|Aa<|d0 false c0 (Bw _ _) h
 refine Az (Ah rfl)<|Az (BF (i:=b0.toNat) (j:=95) rfl rfl)<|Bn rfl rfl<|Ab (Bp rfl)<|Aa<|d0 (!(decide (b0.toNat = 95))) c0 (Bw _ _) h
 refine Al<|Al<|Az (Bc rfl rfl)<|Bn rfl rfl<|Ac rfl<|Az (Ah rfl)<|Az (BF (i:=b0.toNat) (j:=45) rfl rfl)<|Bn rfl rfl<|Ac rfl<|Bv (s:=40) rfl h (fun M0 h=>?_) (fun M0 h=>?_)
 refine Al<|Al<|Bl rfl rfl<|Ab (Bp rfl)<|Aa<|d0 false c0 (Bw _ _) h
 refine Az (Ah rfl)<|Az (BF (i:=b0.toNat) (j:=95) rfl rfl)<|Bn rfl rfl<|Ab (Bp rfl)<|Aa<|d0 (!(decide (b0.toNat = 95))) c0 (Bw _ _) h
 refine Al<|Al<|Az (Bc rfl rfl)<|Bn rfl rfl<|Ac rfl<|Az (Ah rfl)<|Az (FV.geqN (i:=b0.toNat) (j:=48) rfl rfl)<|Az (Ah rfl)<|Bv (s:=31) rfl h (fun P0 h=>?_) (fun P0 h=>?_)
 refine Az (Ah rfl)<|Az (FV.leqN (i:=b0.toNat) (j:=57) rfl rfl)<|Az (BP rfl rfl)<|Bn rfl rfl<|Ac rfl<|Bv (s:=36) rfl h (fun Q0 h=>?_) (fun Q0 h=>?_)
 refine Al<|Al<|Bl rfl rfl<|Ac rfl<|Al<|Al<|Bl rfl rfl<|Ab (Bp rfl)<|Aa<|d0 false c0 (Bw _ _) h
 refine Az (Ah rfl)<|Az (BF (i:=b0.toNat) (j:=45) rfl rfl)<|Bn rfl rfl<|Ac rfl<|Bv (s:=40) rfl h (fun R0 h=>?_) (fun R0 h=>?_)
 refine Al<|Al<|Bl rfl rfl<|Ab (Bp rfl)<|Aa<|d0 false c0 (Bw _ _) h
 refine Az (Ah rfl)<|Az (BF (i:=b0.toNat) (j:=95) rfl rfl)<|Bn rfl rfl<|Ab (Bp rfl)<|Aa<|d0 (!(decide (b0.toNat = 95))) c0 (Bw _ _) h
 refine Al<|Al<|Az (Bc rfl rfl)<|Bn rfl rfl<|Ac rfl<|Az (Ah rfl)<|Az (BF (i:=b0.toNat) (j:=45) rfl rfl)<|Bn rfl rfl<|Ac rfl<|Bv (s:=40) rfl h (fun U0 h=>?_) (fun U0 h=>?_)
 refine Al<|Al<|Bl rfl rfl<|Ab (Bp rfl)<|Aa<|d0 false c0 (Bw _ _) h
 refine Az (Ah rfl)<|Az (BF (i:=b0.toNat) (j:=95) rfl rfl)<|Bn rfl rfl<|Ab (Bp rfl)<|Aa<|d0 (!(decide (b0.toNat = 95))) c0 (Bw _ _) h
 refine AV rfl ?_
 have h:=aA h p0
 try dsimp only at h
 refine Ae<|Ac rfl<|Ab (Bx underlying9 rfl)<|Ab (FV.geqN (i:=a0.size) (j:=1) rfl rfl)<|Ac rfl<|Bv (s:=48) rfl h (fun V0 h=>?_) (fun V0 h=>?_)
 refine Az (Ah rfl)<|Az (Bx underlying9 rfl)<|Az (FV.leqN (i:=a0.size) (j:=12) rfl rfl)<|Bl rfl rfl<|Af rfl<|Aa<|Ak rfl<|AQ hb0 func204 rfl rfl ?_
 cases h
 exact c0.gv
 refine Al<|Al<|Al<|Bn rfl rfl<|Af rfl<|Aa<|Ak rfl<|AQ hb0 func204 rfl rfl ?_
 cases h
 exact c0.gv
def au_l1 (_n:Nat) (a0:List Int) (a2:Int) (d0:Nat -> Option (Bool ⊕ Unit)):Nat -> Option (Bool ⊕ Unit)
  | b0=>(if b0 < a0.length then (a0[b0]?).bind fun c0=>(if c0 < 0 then some (.inl false) else (if a2 < c0 then some (.inl false) else d0 (b0 + 1))) else some (.inr ()))
def au_p (n:Nat) (a0:List Int) (a1:Int) (a2:Int):Option Bool:=
  thn (ah (au_l1 n a0 a2) n 0) (fun _=>some (decide (((a0.length:Nat):Int) = a1)))
theorem au_c (n:Nat) {L w} (_hL:hl L w) {a0:List Int} {v0_0:Value} (h0_0:Rep.R w L [v0_0] a0) {a1:Int} {a2:Int}  {r:Bool} (h:au_p n a0 a1 a2 = some r) :
 Cl 205 #[v0_0,vI a1,vI a2] w (ae w fun _ u=>u = .bool r):=by
 unfold au_p at h
 refine AF func205 rfl rfl rfl fun _ cs0 hb0=>Ae<|Af rfl<|Aa<|Ai<|Ae<|Af rfl<|Aa<|Au<|tn h fun H0 A0 g0=>BT (α:=Nat) (fun b0=>[(0,v0_0),(1,vI a1),(2,vI a2),(7,vI ((b0:Nat):Int))]) (fun b0=>[]) (fun b0=>b0) 0 A0 (AC w) ?_
 rintro E0 b0 I0 x0 c0 y0 h
 unfold au_l1 at h
 try dsimp only at h
 refine Ai<|Ae<|Ac rfl<|Ac rfl ?_
 have d0:=AM h0_0 c0
 have G0:a0.length <= 281474976710656:=AS d0
 refine Ab (AW (xs:=a0) underlying52 rfl d0)<|Ab (Bj (i:=b0) (j:=a0.length) rfl rfl)<|Aa<|AO rfl h (fun s0 h=>?_) (fun s0 h=>?_)
 refine Ap<|Ai<|Au<|Ae<|Ac rfl<|Ac rfl<|bk h fun j0 C0 h=>?_
 obtain ⟨D0,F0,k0,p0,v0,B0,q0⟩:=Bg d0 C0
 have z0:v0 = [vI j0]:=B0; subst z0
 refine Ab (Bi 1 b0 rfl k0 rfl rfl p0)<|AL rfl (q0 0 _ rfl)<|Ab (BO (i:=j0) (j:=0) rfl rfl)<|Ac rfl<|Bv (s:=19) rfl h (fun t0 h=>?_) (fun t0 h=>?_)
 refine Al<|Al<|Al<|Al<|Al<|Al<|Bl rfl rfl<|Aa<|AZ rfl<|Ae<|Af rfl<|Aa ?_
 have h:=ap h g0
 refine Ak rfl<|AQ hb0 func205 rfl rfl ?_
 cases h
 exact c0.gv
 refine Az (Ah rfl)<|Az (Ah rfl)<|Az (Bi 1 b0 rfl k0 rfl rfl p0)<|Az (AN rfl (q0 0 _ rfl))<|Az (Ah rfl)<|Az (FV.gtr (i:=j0) (j:=a2) rfl rfl)<|Bn rfl rfl<|Aa<|AO rfl h (fun u0 h=>?_) (fun u0 h=>?_)
 refine Ae<|Af rfl<|Aa ?_
 have h:=ap h g0
 refine Ak rfl<|AQ hb0 func205 rfl rfl ?_
 cases h
 exact c0.gv
 refine Ap<|Aw<|Am<|Ac rfl<|Ab (Bf (i:=b0) (j:=1) rfl rfl (by omega))<|Af rfl<|Aa<|x0 (b0 + 1) c0 y0 h
 refine AV rfl ?_
 have h:=aA h g0
 try dsimp only at h
 refine Ae<|Ac rfl<|Ab (AW (xs:=a0) underlying52 rfl d0)<|Ac rfl<|Ab (FV.eql (i:=((a0.length:Nat):Int)) (j:=a1) rfl rfl)<|Af rfl<|Aa<|Ak rfl<|AQ hb0 func205 rfl rfl ?_
 cases h
 exact c0.gv
def cu_p (n:Nat) (a0:Te) (a1:Tc):Option Bool:=
  (bP_p n a1.ft).bind fun b0=>(if b0 = true then (if a1.fx < 0 then some false else (if 1000000000 < a1.fx then some false else (au_p n a1.fh a0.fh a1.fx).bind fun c0=>(if c0 = true then (au_p n a1.fM a0.fe (1000000000:Int)).bind fun d0=>(if d0 = true then (au_p n a1.fI a0.fj (63:Int)).bind fun g0=>(if g0 = true then (if a1.fv = true then (if a1.fx = 0 then (au_p n a1.fM a0.fe (0:Int)).bind fun j0=>(if j0 = true then (au_p n a1.fI a0.fj (0:Int)).bind fun k0=>some k0 else some false) else some false) else some true) else some false) else some false) else some false))) else some false)
theorem cu_c (n:Nat) {L w} (hL:hl L w) (a0:Te) {v0_3:Value} (_h0_3:Rep.R w L [v0_3] a0.fm) (a1:Tc) {v1_2:Value} (h1_2:Rep.R w L [v1_2] a1.fh) {v1_3:Value} (h1_3:Rep.R w L [v1_3] a1.fM) {v1_4:Value} (h1_4:Rep.R w L [v1_4] a1.fI)  {r:Bool} (h:cu_p n a0 a1 = some r) :
 Cl 196 #[.agg #[vI a0.fh,vI a0.fe,vI a0.fj,v0_3],.agg #[.string a1.ft,vI a1.fx,v1_2,v1_3,v1_4,.bool a1.fv]] w (ae w fun _ u=>u = .bool r):=by
 unfold cu_p at h
 refine AF func196 rfl rfl rfl fun _ cs0 hb0=>Ae<|RG.bx (AC w) rfl rfl fun Q0 J0 v0 M0=>RG.bx v0 rfl rfl fun R0 K0 b0 P0=>Af rfl<|Aa<|Ai<|Ae<|AT 0 rfl<|AL rfl ((b0.memA .hd) 0 _ rfl)<|bk h fun D0 x0 h=>Bk (.bool D0) (bd 204) rfl (e1 rfl) (fun w9 hw9=>bP_c n (b0.hL0 hL hw9)  x0) rfl<|Ab (Bp rfl)<|Ac rfl<|RG.ifnb (s:=9) rfl h (fun c0 h=>?_) (fun c0 h=>?_)
 refine RG.fg 1 rfl<|Az (AN rfl ((b0.memA .hd) 1 _ rfl))<|Az (BO (i:=a1.fx) (j:=0) rfl rfl)<|Bn rfl rfl<|Ac rfl<|Bv (s:=14) rfl h (fun d0 h=>?_) (fun d0 h=>?_)
 refine Al<|Al<|Al<|Bl rfl rfl<|Aa<|AZ rfl<|Ae<|Af rfl<|Aa<|Ak rfl<|AQ hb0 func196 rfl rfl ?_
 cases h
 exact b0.gv
 refine RG.fg 1 rfl<|Az (AN rfl ((b0.memA .hd) 1 _ rfl))<|Az (FV.gtr (i:=a1.fx) (j:=1000000000) rfl rfl)<|Bn rfl rfl<|Aa<|AO rfl h (fun g0 h=>?_) (fun g0 h=>?_)
 refine Ae<|Af rfl<|Aa<|Ak rfl<|AQ hb0 func196 rfl rfl ?_
 cases h
 exact b0.gv
 refine Ap<|Ai<|Ae<|AT 2 rfl<|AL rfl ((b0.memA .hd) 2 _ rfl)<|AT 0 rfl<|AL rfl ((b0.memA .t1) 0 _ rfl)<|AT 1 rfl<|AL rfl ((b0.memA .hd) 1 _ rfl)<|bk h fun E0 y0 h=>Bk (.bool E0) (bd 205) rfl (e3 rfl rfl rfl) (fun w9 hw9=>au_c n (b0.hL0 hL hw9) (b0.k0 h1_2 hw9) y0) rfl<|Ab (Bp rfl)<|Ac rfl<|RG.ifnb (s:=27) rfl h (fun j0 h=>?_) (fun j0 h=>?_)
 refine RG.fg 3 rfl<|Az (AN rfl ((b0.memA .hd) 3 _ rfl))<|RG.fg 1 rfl<|Az (AN rfl ((b0.memA .t1) 1 _ rfl))<|bk h fun F0 z0 h=>RG.callq' (v:=.bool F0) (fst:=[]) (cap:=[]) (.yes rfl rfl) (bd 205) rfl (e3 rfl rfl rfl) (fun w9 hw9=>au_c n (b0.hL0 hL hw9) (b0.k0 h1_3 hw9) z0) rfl<|Az (Bp rfl)<|Bn rfl rfl<|Ac rfl<|RG.ifnb (s:=35) rfl h (fun p0 h=>?_) (fun p0 h=>?_)
 refine RG.fg 4 rfl<|Az (AN rfl ((b0.memA .hd) 4 _ rfl))<|RG.fg 2 rfl<|Az (AN rfl ((b0.memA .t1) 2 _ rfl))<|bk h fun G0 A0 h=>RG.callq' (v:=.bool G0) (fst:=[]) (cap:=[]) (.yes rfl rfl) (bd 205) rfl (e3 rfl rfl rfl) (fun w9 hw9=>au_c n (b0.hL0 hL hw9) (b0.k0 h1_4 hw9) A0) rfl<|Az (Bp rfl)<|Bn rfl rfl<|Aa<|BU rfl h (fun q0 h=>?_) (fun q0 h=>?_)
 refine Ap<|Ai<|Ae<|AT 5 rfl<|AL rfl ((b0.memA .hd) 5 _ rfl)<|Aa<|MX.ifb rfl h (fun s0 h=>?_) (fun s0 h=>?_)
 refine Ae<|AT 1 rfl<|AL rfl ((b0.memA .hd) 1 _ rfl)<|Ab (FV.eql (i:=a1.fx) (j:=0) rfl rfl)<|Ac rfl<|Bv (s:=48) rfl h (fun t0 h=>?_) (fun t0 h=>?_)
 refine RG.fg 3 rfl<|Az (AN rfl ((b0.memA .hd) 3 _ rfl))<|RG.fg 1 rfl<|Az (AN rfl ((b0.memA .t1) 1 _ rfl))<|bk h fun H0 B0 h=>RG.callq' (v:=.bool H0) (fst:=[]) (cap:=[]) (.yes rfl rfl) (bd 205) rfl (e3 rfl rfl rfl) (fun w9 hw9=>au_c n (b0.hL0 hL hw9) (b0.k0 h1_3 hw9) B0) rfl<|Bl rfl rfl<|Ac rfl<|RG.ifb (s:=55) rfl h (fun u0 h=>?_) (fun u0 h=>?_)
 refine RG.fg 4 rfl<|Az (AN rfl ((b0.memA .hd) 4 _ rfl))<|RG.fg 2 rfl<|Az (AN rfl ((b0.memA .t1) 2 _ rfl))<|bk h fun I0 C0 h=>RG.callq' (v:=.bool I0) (fst:=[]) (cap:=[]) (.yes rfl rfl) (bd 205) rfl (e3 rfl rfl rfl) (fun w9 hw9=>au_c n (b0.hL0 hL hw9) (b0.k0 h1_4 hw9) C0) rfl<|Bl rfl rfl<|Af rfl<|Aa<|Ak rfl<|AQ hb0 func196 rfl rfl ?_
 cases h
 exact b0.gv
 refine Al<|Al<|Al<|Al<|Al<|Bn rfl rfl<|Af rfl<|Aa<|Ak rfl<|AQ hb0 func196 rfl rfl ?_
 cases h
 exact b0.gv
 refine Al<|Al<|Al<|Al<|Al<|Bn rfl rfl<|Ac rfl<|Al<|Al<|Al<|Al<|Al<|Bn rfl rfl<|Af rfl<|Aa<|Ak rfl<|AQ hb0 func196 rfl rfl ?_
 cases h
 exact b0.gv
 refine Ap<|Ae<|Af rfl<|Aa<|Ak rfl<|AQ hb0 func196 rfl rfl ?_
 cases h
 exact b0.gv
 refine Ae<|Af rfl<|Aa<|Ak rfl<|AQ hb0 func196 rfl rfl ?_
 cases h
 exact b0.gv
 refine Al<|Al<|Al<|Al<|Al<|Al<|Bl rfl rfl<|Aa<|AZ rfl<|Ae<|Af rfl<|Aa<|Ak rfl<|AQ hb0 func196 rfl rfl ?_
 cases h
 exact b0.gv
 refine Al<|Al<|Al<|Al<|Al<|Al<|Bl rfl rfl<|Ac rfl<|Al<|Al<|Al<|Al<|Al<|Al<|Bl rfl rfl<|Aa<|AZ rfl<|Ae<|Af rfl<|Aa<|Ak rfl<|AQ hb0 func196 rfl rfl ?_
 cases h
 exact b0.gv
 refine Al<|Al<|Al<|Bl rfl rfl<|Ac rfl<|Al<|Al<|Al<|Bl rfl rfl<|Aa<|AZ rfl<|Ae<|Af rfl<|Aa<|Ak rfl<|AQ hb0 func196 rfl rfl ?_
 cases h
 exact b0.gv
def ak_l1 (_n:Nat) (j0:Nat) (a0:Te) (d0:Tc) (c0:Nat -> Option ((Int ⊕ Unit) ⊕ Unit)):Nat -> Option ((Int ⊕ Unit) ⊕ Unit)
  | b0=>(if b0 < j0 then (a0.fm[b0]?).bind fun g0=>(if g0.ft = d0.ft then some (.inl (.inl (161:Int))) else (if g0.fv = true then (if d0.fv = true then c0 (b0 + 1) else some (.inl (.inl (161:Int)))) else c0 (b0 + 1))) else some (.inr ()))
def ak_l2 (n:Nat) (a0:Te) (d0:Nat -> Option (Int ⊕ Unit)):Nat -> Option (Int ⊕ Unit)
  | b0=>(if b0 < a0.fm.length then (a0.fm[b0]?).bind fun c0=>(cu_p n a0 c0).bind fun g0=>(if g0 = true then thn (ah (ak_l1 n b0 a0 c0) n 0) (fun _=>d0 (b0 + 1)) else some (.inl (161:Int))) else some (.inr ()))
def ak_p (n:Nat) (a0:Te):Option Int:=
  jn (fun c0=>(if c0 = true then some (161:Int) else (if a0.fm.length < 1 then some (161:Int) else (if 64 < a0.fm.length then some (161:Int) else (a0.fm[0]?).bind fun d0=>(if d0.fv = true then some (161:Int) else thn (ah (ak_l2 n a0) n 0) (fun _=>some (0:Int))))))) (fun b0=>(if a0.fh < 0 then b0 true else (if 6 < a0.fh then b0 true else (if a0.fe < 0 then b0 true else (if 12 < a0.fe then b0 true else (if a0.fj < 0 then b0 true else b0 (decide (3 < a0.fj))))))))
theorem ak_c (n:Nat) {L w} (hL:hl L w) (a0:Te) {v0_3:Value} (h0_3:Rep.R w L [v0_3] a0.fm)  {r:Int} (h:ak_p n a0 = some r) :
 Cl 176 #[.agg #[vI a0.fh,vI a0.fe,vI a0.fj,v0_3]] w (ae w fun _ u=>u = vI r):=by
 unfold ak_p at h
 refine AF func176 rfl rfl rfl fun _ cs0 hb0=>Ae<|RG.bx (AC w) rfl rfl fun Z2 v0 d0 t2=>Af rfl<|Aa<|Ai<|Ai<|MX.jo (α:=Bool) (fun y0=>[(1,vP v0),(32,.bool y0)]) (fun y0=>[.cells v0 [vI a0.fh,vI a0.fe,vI a0.fj,v0_3] 58]) (fun y0=>y0) d0 h ?_ ?_
 rintro y0 c3 s0 u2 h
 try dsimp only at h
 refine MX.ifb rfl h (fun V0 h=>?_) (fun V0 h=>?_)
 refine Ae<|Af rfl<|Aa<|Ak rfl<|AQ hb0 func176 rfl rfl ?_
 cases h
 exact s0.gv
 refine Ap<|Ai<|Ae<|AT 3 rfl<|AL rfl ((s0.memA .hd) 3 _ rfl) ?_
 have A0:=AM h0_3 s0
 have v2:a0.fm.length <= 281474976710656:=AS A0
 refine Ab (AW (xs:=a0.fm) underlying56 rfl A0)<|Ab (Bj (i:=a0.fm.length) (j:=1) rfl rfl)<|Ac rfl<|Bv (s:=37) rfl h (fun j1 h=>?_) (fun j1 h=>?_)
 refine Al<|Al<|Al<|Al<|Bl rfl rfl<|Ac rfl<|Al<|Al<|Al<|Al<|Al<|Bl rfl rfl<|Aa<|AZ rfl<|Ae<|Af rfl<|Aa<|Ak rfl<|AQ hb0 func176 rfl rfl ?_
 cases h
 exact s0.gv
 refine RG.fg 3 rfl<|Az (AN rfl ((s0.memA .hd) 3 _ rfl))<|Az (AW (xs:=a0.fm) underlying56 rfl A0)<|Az (FV.gtrN (i:=a0.fm.length) (j:=64) rfl rfl)<|Bn rfl rfl<|Ac rfl<|Bv (s:=43) rfl h (fun k1 h=>?_) (fun k1 h=>?_)
 refine Al<|Al<|Al<|Al<|Al<|Bl rfl rfl<|Aa<|AZ rfl<|Ae<|Af rfl<|Aa<|Ak rfl<|AQ hb0 func176 rfl rfl ?_
 cases h
 exact s0.gv
 refine RG.fg 3 rfl<|Az (AN rfl ((s0.memA .hd) 3 _ rfl))<|bk h fun j3 M1 h=>?_
 obtain ⟨X1,j2,v1,y1,s2,J1,A1⟩:=Bg A0 M1
 obtain ⟨W2,X2,Y2,rfl,D2,E2,F2⟩:=bm J1
 refine Az (Bi 6 0 rfl v1 rfl rfl y1)<|RG.fg 5 rfl<|Az (AN rfl (A1 5 _ rfl))<|Bn rfl rfl<|Aa<|MX.ifb rfl h (fun p1 h=>?_) (fun p1 h=>?_)
 refine Ae<|Af rfl<|Aa<|Ak rfl<|AQ hb0 func176 rfl rfl ?_
 cases h
 exact s0.gv
 refine Ap<|Ai<|Ae<|Af rfl<|Aa<|Au<|tn h fun G2 B1 z0=>BT (α:=Nat) (fun g0=>[(1,vP v0),(3,vI ((g0:Nat):Int))]) (fun g0=>[.cells v0 [vI a0.fh,vI a0.fe,vI a0.fj,v0_3] 58]) (fun g0=>g0) 0 B1 s0 ?_
 rintro Y1 g0 b3 q1 j0 s1 h
 unfold ak_l2 at h
 try dsimp only at h
 refine Ai<|Ae<|Ac rfl<|AT 3 rfl<|AL rfl ((j0.memA .hd) 3 _ rfl) ?_
 have I0:=AM h0_3 j0
 refine Ab (AW (xs:=a0.fm) underlying56 rfl I0)<|Ab (Bj (i:=g0) (j:=a0.fm.length) rfl rfl)<|Aa<|AO rfl h (fun Q0 h=>?_) (fun Q0 h=>?_)
 refine Ap<|Ai<|Au<|Ai<|Ai<|du 8 fun t0 u0=>Rx 0 192 t0 rfl u0 (AK rfl (j0.memA .hd))<|Rv 1 t0 rfl u0 (fun _=>Be 3 rfl)<|Rx 2 240 t0 rfl u0 (AN rfl ((j0.memA .hd) 3 _ rfl))<|Rv 3 t0 rfl u0 (fun _=>Ah rfl)<|bk h fun Q1 P0 h=>?_
 obtain ⟨U1,c2,u1,x1,k2,D1,z1⟩:=Bg I0 P0
 obtain ⟨I2,J2,K2,rfl,E1,F1,G1⟩:=bm D1
 refine Rv 4 t0 rfl u0 (fun _=>Bi 6 g0 rfl u1 rfl rfl x1)<|Rx 5 192 t0 rfl u0 (AK rfl z1)<|bk h fun R1 P1 h=>RD.cq 6 127 128 (.bool R1) t0 rfl u0 (bd 196) rfl (e2 rfl rfl) (fun w9 hw9=>cu_c n (j0.hL0 hL hw9) a0 (j0.k0 h0_3 hw9) Q1 (j0.kd E1 hw9) (j0.kd F1 hw9) (j0.kd G1 hw9) P1) rfl<|Rv 7 t0 rfl u0 (fun _=>Bp rfl)<|AR (dk t0)<|BU rfl h (fun R0 h=>?_) (fun R0 h=>?_)
 refine Ap<|Ae<|Af rfl<|Aa<|Au<|tn h fun H2 C1 C0=>BT (α:=Nat) (fun p0=>[(1,vP v0),(3,vI ((g0:Nat):Int)),(4,vI ((p0:Nat):Int))]) (fun p0=>[.cells v0 [vI a0.fh,vI a0.fe,vI a0.fj,v0_3] 58]) (fun p0=>p0) 0 C1 j0 ?_
 rintro Z1 p0 d3 D0 q0 B0 h
 unfold ak_l1 at h
 try dsimp only at h
 refine Ai<|Ae<|Ac rfl<|Ac rfl<|Ab (Bj (i:=p0) (j:=g0) rfl rfl)<|Aa<|AO rfl h (fun U0 h=>?_) (fun U0 h=>?_)
 refine Ap<|Ai<|Au<|Ai<|du 30 fun b0 c0=>Rv 0 b0 rfl c0 (fun _=>Be 3 rfl)<|Rx 1 1073737784 b0 rfl c0 (AN rfl ((q0.memA .hd) 3 _ rfl))<|Rv 2 b0 rfl c0 (fun _=>Ah rfl)<|bk h fun g3 K1 h=>?_
 have K0:=AM h0_3 q0
 obtain ⟨V1,d2,E0,G0,p2,H1,J0⟩:=Bg K0 K1
 obtain ⟨M2,P2,Q2,rfl,x2,y2,z2⟩:=bm H1
 refine Rv 3 b0 rfl c0 (fun _=>Bi 6 p0 rfl E0 rfl rfl G0)<|Rv 4 b0 rfl c0 (fun _=>Be 0 rfl)<|Rx 5 1073737728 b0 rfl c0 (AN rfl (J0 0 _ rfl))<|Rv 6 b0 rfl c0 (fun _=>Be 3 rfl)<|Rx 7 1073741312 b0 rfl c0 (AN rfl ((q0.memA .hd) 3 _ rfl))<|Rv 8 b0 rfl c0 (fun _=>Ah rfl) ?_
 obtain ⟨W1,g2,F0,H0,q2,I1,M0⟩:=Bg K0 P0
 obtain ⟨R2,U2,V2,rfl,A2,B2,C2⟩:=bm I1
 refine Rv 9 b0 rfl c0 (fun _=>Bi 6 g0 rfl F0 rfl rfl H0)<|Rv 10 b0 rfl c0 (fun _=>Be 0 rfl)<|Rx 11 1073737728 b0 rfl c0 (AN rfl (M0 0 _ rfl))<|Rv 12 b0 rfl c0 (fun _=>FV.eqlS rfl rfl)<|Rv 13 b0 rfl c0 (fun _=>Ah rfl)<|RD.ifd (s:=83) rfl h (fun W0 h=>?_) (fun W0 h=>?_)
 refine Bz 536870911 1 [(14,84),(15,85),(16,86),(17,87),(18,88),(19,89),(20,90),(21,91),(22,92),(23,93),(24,94),(25,95),(26,96),(27,97),(28,98)] (F:=[(83,true)]) (U:=[]) b0 c0 (.cons rfl .nil) .nil ?_
 dsimp only [aP,List.map]
 refine Rv 29 b0 rfl c0 (fun _=>BP rfl rfl)<|AR (dk b0)<|AZ rfl<|Ae<|Af rfl<|Aa ?_
 have h:=ap h C0
 have h:=ap h z0
 refine Ak rfl<|AQ hb0 func176 rfl rfl ?_
 cases h
 exact q0.gv
 refine RD.vP 14 32767 b0 rfl c0 (.yes rfl rfl) (fun _=>Be 3 rfl) rfl<|RD.val (i:=15) (m' :=65535) (W:=1073610752) (tk b0) rfl c0 (.yes rfl rfl) (AN rfl ((q0.memA .hd) 3 _ rfl)) rfl<|RD.vP 16 131071 b0 rfl c0 (.yes rfl rfl) (fun _=>Ah rfl) rfl<|RD.vP 17 262143 b0 rfl c0 (.yes rfl rfl) (fun _=>Bi 6 p0 rfl E0 rfl rfl G0) rfl<|RD.vP 18 524287 b0 rfl c0 (.yes rfl rfl) (fun _=>Be 5 rfl) rfl<|RD.val (i:=19) (m' :=1048575) (W:=1072693248) (tk b0) rfl c0 (.yes rfl rfl) (AN rfl (J0 5 _ rfl)) rfl<|RD.vP 20 2097151 b0 rfl c0 (.yes rfl rfl) (fun _=>Ah rfl) rfl<|RD.ifb (s:=90) rfl h (fun X0 h=>?_) (fun X0 h=>?_)
 refine RD.vP 21 4194303 b0 rfl c0 (.yes rfl rfl) (fun _=>Be 3 rfl) rfl<|RD.val (i:=22) (m' :=8388607) (W:=1056964608) (tk b0) rfl c0 (.yes rfl rfl) (AN rfl ((q0.memA .hd) 3 _ rfl)) rfl<|RD.vP 23 16777215 b0 rfl c0 (.yes rfl rfl) (fun _=>Ah rfl) rfl<|RD.vP 24 33554431 b0 rfl c0 (.yes rfl rfl) (fun _=>Bi 6 g0 rfl F0 rfl rfl H0) rfl<|RD.vP 25 67108863 b0 rfl c0 (.yes rfl rfl) (fun _=>Be 5 rfl) rfl<|RD.val (i:=26) (m' :=134217727) (W:=939524096) (tk b0) rfl c0 (.yes rfl rfl) (AN rfl (M0 5 _ rfl)) rfl<|RD.vP 27 268435455 b0 rfl c0 (.yes rfl rfl) (fun _=>Bp rfl) rfl<|RD.vP 28 536870911 b0 rfl c0 (.yes rfl rfl) (fun _=>BP rfl rfl) rfl<|Rv 29 b0 rfl c0 (fun _=>Bc rfl rfl)<|AR (dk b0)<|BU rfl h (fun Y0 h=>?_) (fun Y0 h=>?_)
 refine Ap<|Aw<|Am<|Ac rfl<|Ab (Bf (i:=p0) (j:=1) rfl rfl (by omega))<|Af rfl<|Aa<|D0 (p0 + 1) q0 B0 h
 refine Ae<|Af rfl<|Aa ?_
 have h:=ap h C0
 have h:=ap h z0
 refine Ak rfl<|AQ hb0 func176 rfl rfl ?_
 cases h
 exact q0.gv
 refine Bz 268435455 2 [(21,91),(22,92),(23,93),(24,94),(25,95),(26,96),(27,97)] (F:=[(90,false)]) (U:=[]) b0 c0 (.cons rfl .nil) .nil ?_
 dsimp only [aP,List.map]
 refine RD.vP 28 536870911 b0 rfl c0 (.yes rfl rfl) (fun _=>Bc rfl rfl) rfl<|Rv 29 b0 rfl c0 (fun _=>Bc rfl rfl)<|AR (dk b0)<|BA rfl<|Ap<|Aw<|Am<|Ac rfl<|Ab (Bf (i:=p0) (j:=1) rfl rfl (by omega))<|Af rfl<|Aa<|D0 (p0 + 1) q0 B0 h
 refine AV rfl ?_
 have h:=aA h C0
 try dsimp only at h
 refine Aw<|Am<|Ac rfl<|Ab (Bf (i:=g0) (j:=1) rfl rfl (by omega))<|Af rfl<|Aa<|q1 (g0 + 1) q0 (Tt s1 B0) h
 refine Ae<|Af rfl<|Aa ?_
 have h:=ap h z0
 refine Ak rfl<|AQ hb0 func176 rfl rfl ?_
 cases h
 exact j0.gv
 refine AV rfl ?_
 have h:=aA h z0
 try dsimp only at h
 refine Ae<|Af rfl<|Aa<|Ak rfl<|AQ hb0 func176 rfl rfl ?_
 cases h
 exact j0.gv
 intro b2 x0 h
 try dsimp only at h
 refine Am<|AT 0 rfl<|AL rfl ((d0.memA .hd) 0 _ rfl)<|Ab (BO (i:=a0.fh) (j:=0) rfl rfl)<|Ac rfl<|Bv (s:=8) rfl h (fun Z0 h=>?_) (fun Z0 h=>?_)
 refine Al<|Al<|Al<|Bl rfl rfl<|Ac rfl<|Al<|Al<|Al<|Bl rfl rfl<|Ac rfl<|Al<|Al<|Al<|Bl rfl rfl<|Ac rfl<|Al<|Al<|Al<|Bl rfl rfl<|Ac rfl<|Al<|Al<|Al<|Bl rfl rfl<|Aa<|x0 true d0 (Bw _ _) h
 refine RG.fg 0 rfl<|Az (AN rfl ((d0.memA .hd) 0 _ rfl))<|Az (FV.gtr (i:=a0.fh) (j:=6) rfl rfl)<|Bn rfl rfl<|Ac rfl<|Bv (s:=13) rfl h (fun b1 h=>?_) (fun b1 h=>?_)
 refine Al<|Al<|Al<|Bl rfl rfl<|Ac rfl<|Al<|Al<|Al<|Bl rfl rfl<|Ac rfl<|Al<|Al<|Al<|Bl rfl rfl<|Ac rfl<|Al<|Al<|Al<|Bl rfl rfl<|Aa<|x0 true d0 (Bw _ _) h
 refine RG.fg 1 rfl<|Az (AN rfl ((d0.memA .hd) 1 _ rfl))<|Az (BO (i:=a0.fe) (j:=0) rfl rfl)<|Bn rfl rfl<|Ac rfl<|Bv (s:=18) rfl h (fun c1 h=>?_) (fun c1 h=>?_)
 refine Al<|Al<|Al<|Bl rfl rfl<|Ac rfl<|Al<|Al<|Al<|Bl rfl rfl<|Ac rfl<|Al<|Al<|Al<|Bl rfl rfl<|Aa<|x0 true d0 (Bw _ _) h
 refine RG.fg 1 rfl<|Az (AN rfl ((d0.memA .hd) 1 _ rfl))<|Az (FV.gtr (i:=a0.fe) (j:=12) rfl rfl)<|Bn rfl rfl<|Ac rfl<|Bv (s:=23) rfl h (fun d1 h=>?_) (fun d1 h=>?_)
 refine Al<|Al<|Al<|Bl rfl rfl<|Ac rfl<|Al<|Al<|Al<|Bl rfl rfl<|Aa<|x0 true d0 (Bw _ _) h
 refine RG.fg 2 rfl<|Az (AN rfl ((d0.memA .hd) 2 _ rfl))<|Az (BO (i:=a0.fj) (j:=0) rfl rfl)<|Bn rfl rfl<|Ac rfl<|Bv (s:=28) rfl h (fun g1 h=>?_) (fun g1 h=>?_)
 refine Al<|Al<|Al<|Bl rfl rfl<|Aa<|x0 true d0 (Bw _ _) h
 refine RG.fg 2 rfl<|Az (AN rfl ((d0.memA .hd) 2 _ rfl))<|Az (FV.gtr (i:=a0.fj) (j:=3) rfl rfl)<|Bn rfl rfl<|Aa<|x0 (decide (3 < a0.fj)) d0 (Bw _ _) h
def cz_p (n:Nat) (a0:Te) (a1:Int):Option Int:=
  (ak_p n a0).bind fun b0=>(if b0 = 0 then (if a1 < 1 then some (2:Int) else (if 8 < a1 then some (2:Int) else some (0:Int))) else some b0)
theorem cz_c (n:Nat) {L w} (hL:hl L w) (a0:Te) {v0_3:Value} (h0_3:Rep.R w L [v0_3] a0.fm) {a1:Int}  {r:Int} (h:cz_p n a0 a1 = some r) :
 Cl 150 #[.agg #[vI a0.fh,vI a0.fe,vI a0.fj,v0_3],vI a1] w (ae w fun _ u=>u = vI r):=by
 unfold cz_p at h
 refine AF func150 rfl rfl rfl fun _ cs0 hb0=>Ae<|RG.bx (AC w) rfl rfl fun t0 q0 b0 s0=>Af rfl<|Aa<|Ai<|Ae<|Ab (AK rfl (b0.memA .hd))<|bk h fun c0 p0 h=>Bk (vI c0) (bd 176) rfl (e1 rfl) (fun w9 hw9=>ak_c n (b0.hL0 hL hw9) a0 (b0.k0 h0_3 hw9) p0) rfl<|Af rfl<|Aa<|Ae<|Ac rfl<|Ab (FV.neq (i:=c0) (j:=0) rfl rfl)<|Aa<|MX.ifn rfl h (fun d0 h=>?_) (fun d0 h=>?_)
 refine Ap<|Ai<|Ae<|Ac rfl<|Ab (BO (i:=a1) (j:=1) rfl rfl)<|Ac rfl<|Bv (s:=13) rfl h (fun g0 h=>?_) (fun g0 h=>?_)
 refine Al<|Al<|Bl rfl rfl<|Aa<|AZ rfl<|Ae<|Af rfl<|Aa<|Ak rfl<|AQ hb0 func150 rfl rfl ?_
 cases h
 exact b0.gv
 refine Az (Ah rfl)<|Az (FV.gtr (i:=a1) (j:=8) rfl rfl)<|Bn rfl rfl<|Aa<|AO rfl h (fun j0 h=>?_) (fun j0 h=>?_)
 refine Ae<|Af rfl<|Aa<|Ak rfl<|AQ hb0 func150 rfl rfl ?_
 cases h
 exact b0.gv
 refine Ap<|Ae<|Af rfl<|Aa<|Ak rfl<|AQ hb0 func150 rfl rfl ?_
 cases h
 exact b0.gv
 refine Ae<|Ac rfl<|Af rfl<|Aa<|Ak rfl<|AQ hb0 func150 rfl rfl ?_
 cases h
 exact b0.gv
def aR_l1 (_n:Nat) (a2:Int) (j0:List Bool) (c0:Int -> Option (Bool ⊕ Unit)):Int -> Option (Bool ⊕ Unit)
  | b0=>(if b0 < a2 then (idx j0 b0).bind fun g0=>(if g0 = true then (chk (b0 + 1)).bind fun d0=>c0 d0 else some (.inl false)) else some (.inr ()))
def aR_l2 (_n:Nat) (a1:Int) (a0:List Int) (a2:Int) (g0:Int × (List Bool) -> Option (Bool ⊕ (List Bool))):Int × (List Bool) -> Option (Bool ⊕ (List Bool))
  | (d0,c0)=>(if d0 < a1 then (idx a0 d0).bind fun b0=>(if b0 < 0 then some (.inl false) else (if a2 <= b0 then some (.inl false) else (idx c0 b0).bind fun _x127=>(put c0 ((b0.toNat:Nat):Int) true).bind fun k0=>(chk (d0 + 1)).bind fun j0=>g0 (j0,k0))) else some (.inr c0))
def aR_p (n:Nat) (a0:List Int) (a1:Int) (a2:Int):Option Bool:=
  (if ((a0.length:Nat):Int) = a1 then (mk a2 false).bind fun c0=>thn (ah (aR_l2 n a1 a0 a2) n (0,c0)) (fun b0=>thn (ah (aR_l1 n a2 b0) n 0) (fun _=>some true)) else some false)
theorem aR_c (n:Nat) {L w} (_hL:hl L w) {a0:List Int} {v0_0:Value} (h0_0:Rep.R w L [v0_0] a0) {a1:Int} {a2:Int}  {r:Bool} (h:aR_p n a0 a1 a2 = some r) :
 Cl 151 #[v0_0,vI a1,vI a2] w (ae w fun _ u=>u = .bool r):=by
 unfold aR_p at h
 have hS0:=AC w
 refine AF func151 rfl rfl rfl fun _ cs0 hb0=>Ae<|Af rfl<|Aa<|Ai<|Ae<|Ac rfl ?_
 have hl1:a0.length <= 281474976710656:=AS h0_0
 refine Ab (AW (xs:=a0) underlying53 rfl h0_0)<|Ac rfl<|Ab (FV.neq (i:=((a0.length:Nat):Int)) (j:=a1) rfl rfl)<|Aa<|MX.ifn rfl h (fun c2 h=>?_) (fun c2 h=>?_)
 refine Ap<|Ae<|Ac rfl<|bk h fun J0 H0 h=>Ao .plain rfl (Does.mk (α:=Bool) H0 hS0 gp rfl) fun x2 k0 B0 s2=>Af rfl<|Aa<|Ai<|Ae<|Af rfl<|Aa<|Au<|tn h fun u2 B1 x0=>MX.lf (α:=Int × (List Bool) × (List Value)) (fun ⟨b0,c0,d0⟩=>[(0,v0_0),(1,vI a1),(2,vI a2),(7,(.slice (some ⟨k0,0,none⟩) a2.toNat a2.toNat)),(8,vI b0)]) (fun ⟨b0,c0,d0⟩=>[rr w 4 Bool (.slice (some ⟨k0,0,none⟩) a2.toNat a2.toNat) c0.length d0]) (fun ⟨b0,c0,d0⟩ I0=>Cells I0 (bl [rr w 4 Bool (.slice (some ⟨k0,0,none⟩) a2.toNat a2.toNat) c0.length d0] ++ L) d0 c0) (fun ⟨b0,c0,d0⟩=>(b0,c0)) (0,J0,(List.replicate a2.toNat [.bool false]).flatten) B1 B0 (AB (cs:=(List.replicate a2.toNat [.bool false]).flatten) (xs:=J0) B0 L (Cells.mk H0 rfl)) ?_
 rintro b2 ⟨b0,c0,d0⟩ I0 d1 j0 k1 s0 h
 unfold aR_l2 at h
 try dsimp only at h
 refine Ai<|Ae<|Ac rfl<|Ac rfl<|Ab (BO (i:=b0) (j:=a1) rfl rfl)<|Aa<|AO rfl h (fun R0 h=>?_) (fun R0 h=>?_)
 refine Ap<|Ai<|Au<|Ai<|Ae<|Ac rfl<|Ac rfl<|bk h fun q0 I1 h=>?_
 obtain ⟨y0,J1⟩:=aG I1
 obtain ⟨Z1,g2,t0,z0,Y0,D1,A0⟩:=Bg (AM h0_0 j0) J1
 have s1:Y0 = [vI q0]:=D1; subst s1
 refine Ab (Bi 1 (b0.toNat) rfl t0 rfl y0 z0)<|AL rfl (A0 0 _ rfl)<|Ab (BO (i:=q0) (j:=0) rfl rfl)<|Ac rfl<|Bv (s:=26) rfl h (fun U0 h=>?_) (fun U0 h=>?_)
 refine Al<|Al<|Al<|Al<|Al<|Al<|Bl rfl rfl<|Aa<|AZ rfl<|Ae<|Af rfl<|Aa ?_
 have h:=ap h x0
 refine Ak rfl<|AQ hb0 func151 rfl rfl ?_
 cases h
 exact j0.gv
 refine Az (Ah rfl)<|Az (Ah rfl)<|Az (Bi 1 (b0.toNat) rfl t0 rfl y0 z0)<|Az (AN rfl (A0 0 _ rfl))<|Az (Ah rfl)<|Az (FV.geq (i:=q0) (j:=a2) rfl rfl)<|Bn rfl rfl<|Aa<|AO rfl h (fun V0 h=>?_) (fun V0 h=>?_)
 refine Ae<|Af rfl<|Aa ?_
 have h:=ap h x0
 refine Ak rfl<|AQ hb0 func151 rfl rfl ?_
 cases h
 exact j0.gv
 refine Ap<|Am<|Ac rfl<|Ac rfl<|Ac rfl<|Ab (Bi 1 (b0.toNat) rfl t0 rfl y0 z0)<|AL rfl (A0 0 _ rfl)<|bk h fun W1 K1 h=>?_
 obtain ⟨y1,M1⟩:=aG K1
 obtain ⟨K0,j2,u0,F0,Z0,E1,t2⟩:=St.nth (α:=Bool) j0 .hd s0 M1
 obtain ⟨P0,k2,D0⟩:=BL (α:=Bool) j0 .hd F0
 obtain rfl:K0 = ⟨P0,0,none⟩:=by rw [D0] at u0; cases u0; rfl
 have u1:Z0 = [.bool W1]:=E1; subst u1
 refine Ab (Bi 1 (q0.toNat) rfl u0 rfl y1 F0)<|bk h fun Y1 R1 h=>RG.acts' .plain (Acts.set (α:=Bool) (i:=q0.toNat) R1 j0 D0 (fun _=>.hd) s0 rfl rfl rfl rfl rfl rfl) fun y2 ⟨b1,j1,p1,q1⟩=>Aa<|Aw<|Am<|Ac rfl<|bk h fun U1 G1 h=>Ab (BE (i:=b0) (j:=1) rfl rfl G1)<|Af rfl<|Aa<|d1 (U1,Y1,b1) j1 (Tt k1 p1) q1 h
 refine AV rfl ?_
 have h:=aA h x0
 try dsimp only at h
 refine Ai<|Ae<|Af rfl<|Aa<|Au<|tn h fun v2 C1 E0=>BT (α:=Int) (fun g0=>[(2,vI a2),(7,(.slice (some ⟨k0,0,none⟩) a2.toNat a2.toNat)),(9,vI g0)]) (fun g0=>[rr w 4 Bool (.slice (some ⟨k0,0,none⟩) a2.toNat a2.toNat) c0.length d0]) (fun g0=>g0) 0 C1 j0 ?_
 rintro d2 g0 z2 g1 p0 C0 h
 unfold aR_l1 at h
 try dsimp only at h
 refine Ai<|Ae<|Ac rfl<|Ac rfl<|Ab (BO (i:=g0) (j:=a2) rfl rfl)<|Aa<|AO rfl h (fun W0 h=>?_) (fun W0 h=>?_)
 refine Ap<|Ai<|Au<|Ae<|Ac rfl<|Ac rfl<|bk h fun X1 P1 h=>?_
 obtain ⟨z1,Q1⟩:=aG P1
 obtain ⟨M0,p2,v0,G0,c1,F1,A1⟩:=St.nth (α:=Bool) p0 .hd (Ay s0 C0) Q1
 obtain ⟨Q0,q2,v1⟩:=BL (α:=Bool) p0 .hd G0
 obtain rfl:M0 = ⟨Q0,0,none⟩:=by rw [v1] at v0; cases v0; rfl
 have x1:c1 = [.bool X1]:=F1; subst x1
 refine Ab (Bi 1 (g0.toNat) rfl v0 rfl z1 G0)<|AL rfl (A1 0 _ rfl)<|Ab (Bp rfl)<|Aa<|BU rfl h (fun X0 h=>?_) (fun X0 h=>?_)
 refine Ap<|Aw<|Am<|Ac rfl<|bk h fun V1 H1 h=>Ab (BE (i:=g0) (j:=1) rfl rfl H1)<|Af rfl<|Aa<|g1 V1 p0 C0 h
 refine Ae<|Af rfl<|Aa ?_
 have h:=ap h E0
 refine Ak rfl<|AQ hb0 func151 rfl rfl ?_
 cases h
 exact p0.gv
 refine AV rfl ?_
 have h:=aA h E0
 try dsimp only at h
 refine Ae<|Af rfl<|Aa<|Ak rfl<|AQ hb0 func151 rfl rfl ?_
 cases h
 exact p0.gv
 refine Ae<|Af rfl<|Aa<|Ak rfl<|AQ hb0 func151 rfl rfl ?_
 cases h
 exact hS0.gv
def bz_l1 (_n:Nat) (a0:Te) (c0:Nat -> Option Nat):Nat -> Option Nat
  | b0=>(if b0 < a0.fm.length then (a0.fm[b0]?).bind fun d0=>(if d0.fv = true then some b0 else c0 (b0 + 1)) else some b0)
def bz_p (n:Nat) (a0:Te):Option Int:=
  jn (fun c0=>some ((c0:Nat):Int)) (fun b0=>Option.bind (ah (bz_l1 n a0) n 0) (b0))
theorem bz_c (n:Nat) {L w} (_hL:hl L w) (a0:Te) {v0_3:Value} (h0_3:Rep.R w L [v0_3] a0.fm)  {r:Int} (h:bz_p n a0 = some r) :
 Cl 197 #[.agg #[vI a0.fh,vI a0.fe,vI a0.fj,v0_3]] w (ae w fun _ u=>u = vI r):=by
 unfold bz_p at h
 refine AF func197 rfl rfl rfl fun _ cs0 hb0=>Ae<|RG.bx (AC w) rfl rfl fun d1 k0 q0 Q0=>Af rfl<|Aa<|Ae<|Af rfl<|Aa<|Ai<|Au<|MX.xo (α:=Nat) 0 (fun d0=>[(3,vI ((d0:Nat):Int))]) (fun d0=>[]) (fun d0=>d0) q0 rfl h ?_ ?_
 rintro d0 j1 z0 R0 h
 try dsimp only at h
 refine Ae<|Ac rfl<|Af rfl<|Aa<|Ak rfl<|AQ hb0 func197 rfl rfl ?_
 cases h
 exact z0.gv
 intro K0 p0 h
 try dsimp only at h
 obtain ⟨Y0,F0,s0⟩:=ao h
 refine BT (α:=Nat) (fun b0=>[(1,vP k0),(3,vI ((b0:Nat):Int))]) (fun b0=>[.cells k0 [vI a0.fh,vI a0.fe,vI a0.fj,v0_3] 58]) (fun b0=>b0) 0 F0 q0 ?_
 rintro J0 b0 g1 v0 c0 g0 h
 unfold bz_l1 at h
 try dsimp only at h
 refine Ai<|Ae<|Ac rfl<|AT 3 rfl<|AL rfl ((c0.memA .hd) 3 _ rfl) ?_
 have j0:=AM h0_3 c0
 have U0:a0.fm.length <= 281474976710656:=AS j0
 refine Ab (AW (xs:=a0.fm) underlying56 rfl j0)<|Ab (Bj (i:=b0) (j:=a0.fm.length) rfl rfl)<|Ac rfl<|Bv (s:=9) rfl h (fun t0 h=>?_) (fun t0 h=>?_)
 refine RG.fg 3 rfl<|Az (AN rfl ((c0.memA .hd) 3 _ rfl))<|Az (Ah rfl)<|bk h fun k1 H0 h=>?_
 obtain ⟨I0,M0,C0,D0,P0,G0,E0⟩:=Bg j0 H0
 obtain ⟨Z0,b1,c1,rfl,V0,W0,X0⟩:=bm G0
 refine Az (Bi 6 b0 rfl C0 rfl rfl D0)<|RG.fg 5 rfl<|Az (AN rfl (E0 5 _ rfl))<|Az (Bp rfl)<|Bl rfl rfl<|Aa<|BU rfl h (fun u0 h=>?_) (fun u0 h=>?_)
 refine AV rfl ?_
 have h:=s0 _ h
 try dsimp only at h
 obtain ⟨x0,A0⟩:=AH c0 .done
 exact p0 b0 x0 (Tt g0 A0) h
 refine Ap<|Au<|Am<|Ac rfl<|Ab (Bf (i:=b0) (j:=1) rfl rfl (by omega))<|Af rfl<|Aa<|Aw<|v0 (b0 + 1) c0 g0 h
 refine Al<|Al<|Al<|Al<|Al<|Al<|Al<|Bn rfl rfl<|Aa<|BA rfl<|AV rfl ?_
 have h:=s0 _ h
 try dsimp only at h
 obtain ⟨y0,B0⟩:=AH c0 .done
 exact p0 b0 y0 (Tt g0 B0) h
def cT_p (n:Nat) (a0:Te):Option (Int × Int):=
  (ak_p n a0).bind fun b0=>(if b0 = 0 then (bz_p n a0).bind fun c0=>some (c0,(0:Int)) else some ((0:Int),b0))
theorem cT_c (n:Nat) {L w} (hL:hl L w) (a0:Te) {v0_3:Value} (h0_3:Rep.R w L [v0_3] a0.fm)  {r:Int × Int} (h:cT_p n a0 = some r) :
 Cl 177 #[.agg #[vI a0.fh,vI a0.fe,vI a0.fj,v0_3]] w (ae w fun _ u=>u = .tuple #[vI r.1,vI r.2]):=by
 unfold cT_p at h
 refine AF func177 rfl rfl rfl fun _ cs0 hb0=>Ae<|RG.bx (AC w) rfl rfl fun t0 q0 b0 s0=>Af rfl<|Af rfl<|Aa<|Ai<|Ae<|Ab (AK rfl (b0.memA .hd))<|bk h fun c0 g0 h=>Bk (vI c0) (bd 176) rfl (e1 rfl) (fun w9 hw9=>ak_c n (b0.hL0 hL hw9) a0 (b0.k0 h0_3 hw9) g0) rfl<|Af rfl<|Aa<|Ae<|Ac rfl<|Ab (FV.neq (i:=c0) (j:=0) rfl rfl)<|Aa<|MX.ifn rfl h (fun d0 h=>?_) (fun d0 h=>?_)
 refine Ap<|Ae<|Ab (AK rfl (b0.memA .hd))<|bk h fun p0 j0 h=>Bk (vI p0) (bd 197) rfl (e1 rfl) (fun w9 hw9=>bz_c n (b0.hL0 hL hw9) a0 (b0.k0 h0_3 hw9) j0) rfl<|Af rfl<|Af rfl<|Aa<|Ak rfl<|Ar hb0 func177 rfl (.cons (.tmp rfl) (.cons (.tmp rfl) .nil)) rfl ?_
 cases h
 exact b0.gv
 refine Ae<|Ac rfl<|Af rfl<|Af rfl<|Aa<|Ak rfl<|Ar hb0 func177 rfl (.cons (.tmp rfl) (.cons (.tmp rfl) .nil)) rfl ?_
 cases h
 exact b0.gv
def cU_p (n:Nat) (a0:Te):Option Int:=
  (cT_p n a0).bind fun b0=>some b0.1
theorem cU_c (n:Nat) {L w} (hL:hl L w) (a0:Te) {v0_3:Value} (h0_3:Rep.R w L [v0_3] a0.fm)  {r:Int} (h:cU_p n a0 = some r) :
 Cl 152 #[.agg #[vI a0.fh,vI a0.fe,vI a0.fj,v0_3]] w (ae w fun _ u=>u = vI r):=by
 unfold cU_p at h
 refine AF func152 rfl rfl rfl fun _ cs0 hb0=>Ae<|RG.bx (AC w) rfl rfl fun p0 g0 b0 j0=>Af rfl<|Aa<|Ae<|Ab (AK rfl (b0.memA .hd))<|bk h fun c0 d0 h=>Bk (.tuple #[vI c0.1,vI c0.2]) (bd 177) rfl (e1 rfl) (fun w9 hw9=>cT_c n (b0.hL0 hL hw9) a0 (b0.k0 h0_3 hw9) d0) rfl<|Ac rfl<|Ab (Aj rfl rfl)<|Ab (Aj rfl rfl)<|Af rfl<|Af rfl<|Aa<|Ae<|Ac rfl<|Af rfl<|Aa<|Ak rfl<|AQ hb0 func152 rfl rfl ?_
 cases h
 exact b0.gv
def cx_p (n:Nat) (a0:Te) (a1:List Int) (a2:Int):Option Int:=
  (cz_p n a0 a2).bind fun b0=>(if b0 = 0 then (cU_p n a0).bind fun c0=>(aR_p n a1 c0 a2).bind fun d0=>(if d0 = true then some (0:Int) else some (220:Int)) else some b0)
theorem cx_c (n:Nat) {L w} (hL:hl L w) (a0:Te) {v0_3:Value} (h0_3:Rep.R w L [v0_3] a0.fm) {a1:List Int} {v1_0:Value} (h1_0:Rep.R w L [v1_0] a1) {a2:Int}  {r:Int} (h:cx_p n a0 a1 a2 = some r) :
 Cl 112 #[.agg #[vI a0.fh,vI a0.fe,vI a0.fj,v0_3],v1_0,vI a2] w (ae w fun _ u=>u = vI r):=by
 unfold cx_p at h
 refine AF func112 rfl rfl rfl fun _ cs0 hb0=>Ae<|RG.bx (AC w) rfl rfl fun x0 u0 b0 v0=>Af rfl<|Aa<|Ai<|Ae<|Ab (AK rfl (b0.memA .hd))<|Ac rfl<|bk h fun c0 j0 h=>Bk (vI c0) (bd 150) rfl (e2 rfl rfl) (fun w9 hw9=>cz_c n (b0.hL0 hL hw9) a0 (b0.k0 h0_3 hw9) j0) rfl<|Af rfl<|Aa<|Ae<|Ac rfl<|Ab (FV.neq (i:=c0) (j:=0) rfl rfl)<|Aa<|MX.ifn rfl h (fun d0 h=>?_) (fun d0 h=>?_)
 refine Ap<|Ai<|Ae<|Ac rfl<|Ab (AK rfl (b0.memA .hd))<|bk h fun s0 p0 h=>Bk (vI s0) (bd 152) rfl (e1 rfl) (fun w9 hw9=>cU_c n (b0.hL0 hL hw9) a0 (b0.k0 h0_3 hw9) p0) rfl<|Ac rfl<|bk h fun t0 q0 h=>Bk (.bool t0) (bd 151) rfl (e3 rfl rfl rfl) (fun w9 hw9=>aR_c n (b0.hL0 hL hw9) (b0.k0 h1_0 hw9) q0) rfl<|Ab (Bp rfl)<|Aa<|BU rfl h (fun g0 h=>?_) (fun g0 h=>?_)
 refine Ap<|Ae<|Af rfl<|Aa<|Ak rfl<|AQ hb0 func112 rfl rfl ?_
 cases h
 exact b0.gv
 refine Ae<|Af rfl<|Aa<|Ak rfl<|AQ hb0 func112 rfl rfl ?_
 cases h
 exact b0.gv
 refine Ae<|Ac rfl<|Af rfl<|Aa<|Ak rfl<|AQ hb0 func112 rfl rfl ?_
 cases h
 exact b0.gv
def aD_p (n:Nat) (a0:List Ta) (a1:Te) (a2:List Int) (a3:Int):Option Int:=
  (cx_p n a1 a2 a3).bind fun b0=>(if b0 = 0 then (ah_p n ((a2.length:Nat):Int) a0).bind fun c0=>some c0 else some b0)
theorem aD_c (n:Nat) {L w} (hL:hl L w) {a0:List Ta} {v0_0:Value} (h0_0:Rep.R w L [v0_0] a0) (a1:Te) {v1_3:Value} (h1_3:Rep.R w L [v1_3] a1.fm) {a2:List Int} {v2_0:Value} (h2_0:Rep.R w L [v2_0] a2) {a3:Int}  {r:Int} (h:aD_p n a0 a1 a2 a3 = some r) :
 Cl 72 #[v0_0,.agg #[vI a1.fh,vI a1.fe,vI a1.fj,v1_3],v2_0,vI a3] w (ae w fun _ u=>u = vI r):=by
 unfold aD_p at h
 refine AF func72 rfl rfl rfl fun _ cs0 hb0=>Ae<|RG.bx (AC w) rfl rfl fun v0 s0 b0 t0=>Af rfl<|Aa<|Ai<|Ae<|Ab (AK rfl (b0.memA .hd))<|Ac rfl<|Ac rfl<|bk h fun d0 j0 h=>Bk (vI d0) (bd 112) rfl (e3 rfl rfl rfl) (fun w9 hw9=>cx_c n (b0.hL0 hL hw9) a1 (b0.k0 h1_3 hw9) (b0.k0 h2_0 hw9) j0) rfl<|Af rfl<|Aa<|Ae<|Ac rfl<|Ab (FV.neq (i:=d0) (j:=0) rfl rfl)<|Aa<|MX.ifn rfl h (fun g0 h=>?_) (fun g0 h=>?_)
 refine Ap<|Ae<|Ac rfl ?_
 have c0:=AM h2_0 b0
 have u0:a2.length <= 281474976710656:=AS c0
 refine Ab (AW (xs:=a2) underlying53 rfl c0)<|Ac rfl<|bk h fun q0 p0 h=>Bk (vI q0) (bd 14) rfl (e2 rfl rfl) (fun w9 hw9=>ah_c n (b0.hL0 hL hw9) (b0.k0 h0_0 hw9) p0) rfl<|Af rfl<|Aa<|Ak rfl<|AQ hb0 func72 rfl rfl ?_
 cases h
 exact b0.gv
 refine Ae<|Ac rfl<|Af rfl<|Aa<|Ak rfl<|AQ hb0 func72 rfl rfl ?_
 cases h
 exact b0.gv
def bE_l1 (n:Nat) (a1:List Int) (a0:Ta) (a2:Int) (d0:UInt64 × Nat -> Option UInt64):UInt64 × Nat -> Option UInt64
  | (c0,b0)=>(if b0 < a1.length then (bM_p n a0.fm ((b0:Nat):Int)).bind fun j0=>(if j0 = true then (a1[b0]?).bind fun g0=>(if g0 = a2 then d0 (c0 ||| (shlU (1:UInt64) b0),b0 + 1) else d0 (c0,b0 + 1)) else d0 (c0,b0 + 1)) else some c0)
def bE_p (n:Nat) (a0:Ta) (a1:List Int) (a2:Int):Option UInt64:=
  Option.bind (ah (bE_l1 n a1 a0 a2) n (0,0)) (fun b0=>some b0)
theorem bE_c (n:Nat) {L w} (hL:hl L w) (a0:Ta) {a1:List Int} {v1_0:Value} (h1_0:Rep.R w L [v1_0] a1) {a2:Int}  {r:UInt64} (h:bE_p n a0 a1 a2 = some r) :
 Cl 113 #[.agg #[.string a0.ft,vI a0.fE,vU a0.fm],v1_0,vI a2] w (ae w fun _ u=>u = vU r):=by
 unfold bE_p at h
 refine AF func113 rfl rfl rfl fun _ cs0 hb0=>Ae<|RG.bx (AC w) rfl rfl fun R0 p0 x0 M0=>Af rfl<|Aa<|Ae<|Af rfl<|Aa<|Ai<|Ae<|Af rfl<|Aa<|Au ?_
 obtain ⟨Q0,D0,A0⟩:=ao h
 refine BT (α:=UInt64 × Nat) (fun ⟨c0,b0⟩=>[(1,v1_0),(2,vI a2),(3,vP p0),(7,vU c0),(8,vI ((b0:Nat):Int))]) (fun ⟨c0,b0⟩=>[.cells p0 [.string a0.ft,vI a0.fE,vU a0.fm] 65]) (fun ⟨c0,b0⟩=>(c0,b0)) (0,0) D0 x0 ?_
 rintro J0 ⟨c0,b0⟩ U0 g0 d0 j0 h
 unfold bE_l1 at h
 try dsimp only at h
 refine Ai<|Ae<|Ac rfl<|Ac rfl ?_
 have k0:=AM h1_0 d0
 have P0:a1.length <= 281474976710656:=AS k0
 refine Ab (AW (xs:=a1) underlying53 rfl k0)<|Ab (Bj (i:=b0) (j:=a1.length) rfl rfl)<|Aa<|AO rfl h (fun s0 h=>?_) (fun s0 h=>?_)
 refine Ap<|Ai<|Au<|Ae<|AT 2 rfl<|AL rfl ((d0.memA .hd) 2 _ rfl)<|Ac rfl<|bk h fun H0 G0 h=>Bk (.bool H0) (bd 44) rfl (e2 rfl rfl) (fun w9 hw9=>bM_c n (d0.hL0 hL hw9) a0.fm G0) rfl<|Ac rfl<|RG.ifb (s:=19) rfl h (fun t0 h=>?_) (fun t0 h=>?_)
 refine Az (Ah rfl)<|Az (Ah rfl)<|bk h fun q0 F0 h=>?_
 obtain ⟨I0,K0,y0,B0,v0,E0,C0⟩:=Bg k0 F0
 have z0:v0 = [vI q0]:=E0; subst z0
 refine Az (Bi 1 b0 rfl y0 rfl rfl B0)<|Az (AN rfl (C0 0 _ rfl))<|Az (Ah rfl)<|Az (FV.eql (i:=q0) (j:=a2) rfl rfl)<|Bl rfl rfl<|Aa<|AO rfl h (fun u0 h=>?_) (fun u0 h=>?_)
 refine Am<|Ac rfl<|Ac rfl<|Ab (FV.shlU (a:=(1:UInt64)) (j:=b0) rfl rfl)<|Ab (FV.orU (a:=c0) (b:=shlU (1:UInt64) b0) rfl rfl)<|Af rfl<|Aa<|Aw<|Am<|Ac rfl<|Ab (Bf (i:=b0) (j:=1) rfl rfl (by omega))<|Af rfl<|Aa<|g0 (c0 ||| (shlU (1:UInt64) b0),b0 + 1) d0 j0 h
 refine Ap<|Aw<|Am<|Ac rfl<|Ab (Bf (i:=b0) (j:=1) rfl rfl (by omega))<|Af rfl<|Aa<|g0 (c0,b0 + 1) d0 j0 h
 refine Al<|Al<|Al<|Al<|Al<|Al<|Bn rfl rfl<|Aa<|BA rfl<|Ap<|Aw<|Am<|Ac rfl<|Ab (Bf (i:=b0) (j:=1) rfl rfl (by omega))<|Af rfl<|Aa<|g0 (c0,b0 + 1) d0 j0 h
 refine AV rfl ?_
 have h:=A0 _ h
 try dsimp only at h
 refine Ae<|Ac rfl<|Af rfl<|Aa<|Ak rfl<|AQ hb0 func113 rfl rfl ?_
 cases h
 exact d0.gv
def aP_l1 (n:Nat) (a2:Int) (a0:Ta) (a1:List Int) (d0:Int × (List UInt64) -> Option (List UInt64)):Int × (List UInt64) -> Option (List UInt64)
  | (b0,c0)=>(if b0 < a2 then (bE_p n a0 a1 b0).bind fun g0=>(if g0 = (0:UInt64) then (chk (b0 + 1)).bind fun k0=>d0 (k0,c0) else (app c0 ([g0]:List UInt64)).bind fun p0=>(chk (b0 + 1)).bind fun j0=>d0 (j0,p0)) else some c0)
def aP_p (n:Nat) (a0:Ta) (a1:List Int) (a2:Int):Option (List UInt64):=
  Option.bind (ah (aP_l1 n a2 a0 a1) n (0,([]:List UInt64))) (fun b0=>some b0)
theorem aP_c (n:Nat) {L w} (hL:hl L w) (a0:Ta) {a1:List Int} {v1_0:Value} (h1_0:Rep.R w L [v1_0] a1) {a2:Int}  {r:List UInt64} (h:aP_p n a0 a1 a2 = some r) :
 Cl 73 #[.agg #[.string a0.ft,vI a0.fE,vU a0.fm],v1_0,vI a2] w (ae w fun w' u=>∃ v0_0:Value,u = v0_0/\Rep.R w' L [v0_0] r):=by
 unfold aP_p at h
 refine AF func73 rfl rfl rfl fun _ cs0 hb0=>Ae<|RG.bx (AC w) rfl rfl fun q1 q0 x0 j1=>Af rfl<|Aa<|Ae<|Af rfl<|Aa<|Ai<|Ae<|Af rfl<|Aa<|Au ?_
 have y0:=x0.nilRow 28 (Rep.size UInt64)
 have k1:=BJ x0 28 (Rep.size UInt64)
 obtain ⟨p1,M0,K0⟩:=ao h
 refine MX.lf (α:=Int × (List UInt64) × Value × (List Value)) (fun ⟨g0,c0,b0,j0⟩=>[(1,v1_0),(2,vI a2),(3,vP q0),(7,b0),(8,vI g0)]) (fun ⟨g0,c0,b0,j0⟩=>[rr w 28 UInt64 b0 c0.length j0,.cells q0 [.string a0.ft,vI a0.fE,vU a0.fm] 65]) (fun ⟨g0,c0,b0,j0⟩ C0=>Cells C0 (bl [rr w 28 UInt64 b0 c0.length j0,.cells q0 [.string a0.ft,vI a0.fE,vU a0.fm] 65] ++ L) j0 c0) (fun ⟨g0,c0,b0,j0⟩=>(g0,c0)) (0,([]:List UInt64),vN,[]) M0 y0 (AB (cs:=[]) (xs:=([]:List UInt64)) y0 L (AG _ _)) ?_
 rintro b1 ⟨g0,c0,b0,j0⟩ C0 v0 p0 A0 u0 h
 unfold aP_l1 at h
 try dsimp only at h
 refine Ai<|Ae<|Ac rfl<|Ac rfl<|Ab (BO (i:=g0) (j:=a2) rfl rfl)<|Aa<|AO rfl h (fun D0 h=>?_) (fun D0 h=>?_)
 refine Ap<|Ai<|Au<|Ae<|Ab (AK rfl (p0.memA .t1))<|Ac rfl<|Ac rfl<|bk h fun d0 V0 h=>Bk (vU d0) (bd 113) rfl (e3 rfl rfl rfl) (fun w9 hw9=>bE_c n (p0.hL0 hL hw9) a0 (p0.k0 h1_0 hw9) V0) rfl<|Af rfl<|Aa<|Ae<|Ac rfl<|Ab (FV.neqU (a:=d0) (b:=(0:UInt64)) rfl rfl)<|Aa<|MX.ifn rfl h (fun E0 h=>?_) (fun E0 h=>?_)
 refine Ap<|Aw<|Am<|Ac rfl<|bk h fun X0 R0 h=>Ab (BE (i:=g0) (j:=1) rfl rfl R0)<|Af rfl<|Aa<|v0 (X0,c0,b0,j0) p0 A0 u0 h
 refine Am<|Ac rfl<|Ac rfl<|Ao .plain rfl (jA d0 (vU d0) p0 cT (e1 rfl)) fun s1 c1 t0 B0=>bk h fun Z0 U0 h=>BR .plain rfl (Bh (α:=UInt64) (ys:=([d0]:List UInt64)) U0 t0 (fun _ _=>.t1) cT rfl rfl (Ay u0 B0) (BN (α:=UInt64) t0 .hd (jC d0 (vU d0) t0 L rfl))) fun Y0 u1 ⟨F0,H0,I0,J0⟩=>Af rfl<|Aa<|Aw<|Am<|Ac rfl<|bk h fun W0 Q0 h=>Ab (BE (i:=g0) (j:=1) rfl rfl Q0)<|Af rfl<|Aa ?_
 obtain ⟨G0,z0⟩:=AH H0 .d1
 exact v0 (W0,Z0,Y0,F0) G0 (Tt A0 (Tt B0 (Tt I0 z0))) (Ay J0 z0) h
 refine AV rfl ?_
 have h:=K0 _ h
 try dsimp only at h
 refine Ae<|Ac rfl<|Af rfl<|Aa<|Ak rfl ?_
 have s0:=Bq p0 .hd
 have g1:=Br p0 .hd
 have P0:=Bs (α:=UInt64) (v:=b0) (xs:=c0) s0 L (Ba (α:=UInt64) p0 .hd u0 hL)
 refine AQ hb0 func73 rfl rfl ?_
 cases h
 exact ⟨s0.ag,fun w9 hw9=>⟨b0,rfl,s0.kd P0 hw9⟩⟩
def bc_l1 (n:Nat) (a0:List Ta) (a2:List Int) (a3:Int) (d0:Nat × (List Bool) -> Option (List Bool)):Nat × (List Bool) -> Option (List Bool)
  | (b0,c0)=>(if b0 < a0.length then (a0[b0]?).bind fun g0=>(aP_p n g0 a2 a3).bind fun k0=>(app c0 ([(decide (k0.length = 1))]:List Bool)).bind fun j0=>d0 (b0 + 1,j0) else some c0)
def bc_p (n:Nat) (a0:List Ta) (a1:Te) (a2:List Int) (a3:Int):Option ((List Bool) × Int):=
  (aD_p n a0 a1 a2 a3).bind fun b0=>(if b0 = 0 then Option.bind (ah (bc_l1 n a0 a2 a3) n (0,([]:List Bool))) (fun c0=>some (c0,(0:Int))) else some (([]:List Bool),b0))
theorem bc_c (n:Nat) {L w} (hL:hl L w) {a0:List Ta} {v0_0:Value} (h0_0:Rep.R w L [v0_0] a0) (a1:Te) {v1_3:Value} (h1_3:Rep.R w L [v1_3] a1.fm) {a2:List Int} {v2_0:Value} (h2_0:Rep.R w L [v2_0] a2) {a3:Int}  {r:(List Bool) × Int} (h:bc_p n a0 a1 a2 a3 = some r) :
 Cl 31 #[v0_0,.agg #[vI a1.fh,vI a1.fe,vI a1.fj,v1_3],v2_0,vI a3] w (ae w fun w' u=>∃ v0_0:Value,u = .tuple #[v0_0,vI r.2]/\Rep.R w' L [v0_0] r.1):=by
 unfold bc_p at h
 refine AF func31 rfl rfl rfl fun _ cs0 hb0=>Ae<|RG.bx (AC w) rfl rfl fun P1 A1 b0 E1=>Af rfl<|Af rfl<|Aa<|Ai<|Ae<|Ac rfl<|Ab (AK rfl (b0.memA .hd))<|Ac rfl<|Ac rfl<|bk h fun D0 s1 h=>Bk (vI D0) (bd 72) rfl (e4 rfl rfl rfl rfl) (fun w9 hw9=>aD_c n (b0.hL0 hL hw9) (b0.k0 h0_0 hw9) a1 (b0.k0 h1_3 hw9) (b0.k0 h2_0 hw9) s1) rfl<|Af rfl<|Aa<|Ae<|Ac rfl<|Ab (FV.neq (i:=D0) (j:=0) rfl rfl)<|Aa<|MX.ifn rfl h (fun F0 h=>?_) (fun F0 h=>?_)
 refine Ap<|Ae<|Af rfl<|Aa<|Ai<|Ae<|Af rfl<|Aa<|Au ?_
 have v0:=b0.nilRow 4 (Rep.size Bool)
 have G1:=BJ b0 4 (Rep.size Bool)
 obtain ⟨I0,P0⟩:=AH v0 (.a0 .done)
 obtain ⟨J1,b1,X0⟩:=ao h
 refine MX.lf (α:=Nat × (List Bool) × Value × (List Value)) (fun ⟨c0,j0,g0,p0⟩=>[(0,v0_0),(2,v2_0),(3,vI a3),(11,g0),(12,vI ((c0:Nat):Int))]) (fun ⟨c0,j0,g0,p0⟩=>[rr w 4 Bool g0 j0.length p0]) (fun ⟨c0,j0,g0,p0⟩ C0=>Cells C0 (bl [rr w 4 Bool g0 j0.length p0] ++ L) p0 j0) (fun ⟨c0,j0,g0,p0⟩=>(c0,j0)) (0,([]:List Bool),vN,[]) b1 I0 (Ay (AB (cs:=[]) (xs:=([]:List Bool)) v0 L (AG _ _)) P0) ?_
 rintro z1 ⟨c0,j0,g0,p0⟩ C0 H0 q0 Q0 A0 h
 unfold bc_l1 at h
 try dsimp only at h
 refine Ai<|Ae<|Ac rfl<|Ac rfl ?_
 have u0:=AM h0_0 q0
 have H1:a0.length <= 281474976710656:=AS u0
 refine Ab (AW (xs:=a0) underlying30 rfl u0)<|Ab (Bj (i:=c0) (j:=a0.length) rfl rfl)<|Aa<|AO rfl h (fun E0 h=>?_) (fun E0 h=>?_)
 refine Ap<|Ai<|Au<|Am<|Ac rfl<|Ac rfl<|Ac rfl<|bk h fun v1 k1 h=>?_
 obtain ⟨y1,C1,W0,Y0,D1,c1,Z0⟩:=Bg u0 k1
 obtain rfl:=bw c1
 refine Ab (Bi 3 c0 rfl W0 rfl rfl Y0)<|Ab (AK rfl Z0)<|Ac rfl<|Ac rfl<|bk h fun d0 q1 h=>jE (bd 73) rfl (e3 rfl rfl rfl) (fun w9 hw9=>aP_c n (q0.hL hL hw9) v1 (q0.km h2_0 hw9) q1) rfl fun Q1 M1 U0 ⟨K1,hu_,B0⟩=>?_
 subst hu_
 obtain ⟨J0,x0⟩:=q0.agr U0
 have I1:d0.length <= 281474976710656:=AS B0
 refine Ab (AW (xs:=d0) underlying75 rfl B0)<|Ab (BF (i:=d0.length) (j:=1) rfl rfl)<|Ao .plain rfl (AJ (α:=Bool) (xs:=([(decide (d0.length = 1))]:List Bool)) (vs:=[.bool (decide (d0.length = 1))]) (ds' :=[.bool (decide (d0.length = 1))]) rfl J0 gp rfl (e1 rfl) (by kernel_rfl) rfl) fun R1 B1 s0 y0=>bk h fun x1 p1 h=>BR .plain rfl (Bh (α:=Bool) (ys:=([(decide (d0.length = 1))]:List Bool)) p1 s0 (fun _ _=>.t1) gp rfl rfl (Ay A0 (Tt x0 y0)) (BN (α:=Bool) s0 .hd (AB (cs:=[.bool (decide (d0.length = 1))]) (xs:=(([(decide (d0.length = 1))]:List Bool):List Bool)) s0 L (Ax (cs:=[.bool (decide (d0.length = 1))]) (ds:=[]) rfl (AG _ _))))) fun u1 U1 ⟨G0,K0,R0,V0⟩=>Af rfl<|Aa<|Aw<|Am<|Ac rfl<|Ab (Bf (i:=c0) (j:=1) rfl rfl (by omega))<|Af rfl<|Aa ?_
 obtain ⟨M0,z0⟩:=AH K0 .d1
 exact H0 (c0 + 1,x1,u1,G0) M0 (Tt Q0 (Tt x0 (Tt y0 (Tt R0 z0)))) (Ay V0 z0) h
 refine AV rfl ?_
 have h:=X0 _ h
 try dsimp only at h
 refine Ae<|Ac rfl<|Af rfl<|Af rfl<|Aa<|Ak rfl ?_
 have t0:=Bq q0 .hd
 have F1:=Br q0 .hd
 have g1:=Bs (α:=Bool) (v:=g0) (xs:=j0) t0 L (Ba (α:=Bool) q0 .hd A0 hL)
 refine Ar hb0 func31 rfl (.cons (.tmp rfl) (.cons (.tmp rfl) .nil)) rfl ?_
 cases h
 exact ⟨t0.ag,fun w9 hw9=>⟨g0,rfl,t0.kd g1 hw9⟩⟩
 refine Ae<|Ac rfl<|Af rfl<|Af rfl<|Aa<|Ak rfl ?_
 have j1:=Rep.nilAt (α:=Bool) b0 L
 refine Ar hb0 func31 rfl (.cons (.tmp rfl) (.cons (.tmp rfl) .nil)) rfl ?_
 cases h
 exact ⟨b0.ag,fun w9 hw9=>⟨vN,rfl,b0.kd j1 hw9⟩⟩
def aX_l1 (n:Nat) (a0:List Ta) (a2:List Int) (a3:Int) (d0:Nat × (List (List UInt64)) -> Option (List (List UInt64))):Nat × (List (List UInt64)) -> Option (List (List UInt64))
  | (b0,c0)=>(if b0 < a0.length then (a0[b0]?).bind fun g0=>(aP_p n g0 a2 a3).bind fun k0=>(app c0 ([k0]:List (List UInt64))).bind fun j0=>d0 (b0 + 1,j0) else some c0)
def aX_p (n:Nat) (a0:List Ta) (a1:Te) (a2:List Int) (a3:Int):Option ((List (List UInt64)) × Int):=
  (aD_p n a0 a1 a2 a3).bind fun b0=>(if b0 = 0 then Option.bind (ah (aX_l1 n a0 a2 a3) n (0,([]:List (List UInt64)))) (fun c0=>some (c0,(0:Int))) else some (([]:List (List UInt64)),b0))
theorem aX_c (n:Nat) {L w} (hL:hl L w) {a0:List Ta} {v0_0:Value} (h0_0:Rep.R w L [v0_0] a0) (a1:Te) {v1_3:Value} (h1_3:Rep.R w L [v1_3] a1.fm) {a2:List Int} {v2_0:Value} (h2_0:Rep.R w L [v2_0] a2) {a3:Int}  {r:(List (List UInt64)) × Int} (h:aX_p n a0 a1 a2 a3 = some r) :
 Cl 32 #[v0_0,.agg #[vI a1.fh,vI a1.fe,vI a1.fj,v1_3],v2_0,vI a3] w (ae w fun w' u=>∃ v0_0:Value,u = .tuple #[v0_0,vI r.2]/\Rep.R w' L [v0_0] r.1):=by
 unfold aX_p at h
 refine AF func32 rfl rfl rfl fun _ cs0 hb0=>Ae<|RG.bx (AC w) rfl rfl fun R1 D1 b0 I1=>Af rfl<|Af rfl<|Aa<|Ai<|Ae<|Ac rfl<|Ab (AK rfl (b0.memA .hd))<|Ac rfl<|Ac rfl<|bk h fun E0 v1 h=>Bk (vI E0) (bd 72) rfl (e4 rfl rfl rfl rfl) (fun w9 hw9=>aD_c n (b0.hL0 hL hw9) (b0.k0 h0_0 hw9) a1 (b0.k0 h1_3 hw9) (b0.k0 h2_0 hw9) v1) rfl<|Af rfl<|Aa<|Ae<|Ac rfl<|Ab (FV.neq (i:=E0) (j:=0) rfl rfl)<|Aa<|MX.ifn rfl h (fun G0 h=>?_) (fun G0 h=>?_)
 refine Ap<|Ae<|Af rfl<|Aa<|Ai<|Ae<|Af rfl<|Aa<|Au ?_
 have y0:=b0.nilRow 75 (Rep.size (List UInt64))
 have K1:=BJ b0 75 (Rep.size (List UInt64))
 obtain ⟨J0,Q0⟩:=AH y0 (.a0 .done)
 obtain ⟨P1,c1,Y0⟩:=ao h
 refine MX.lf (α:=Nat × (List (List UInt64)) × Value × (List Value)) (fun ⟨c0,g0,d0,j0⟩=>[(0,v0_0),(2,v2_0),(3,vI a3),(11,d0),(12,vI ((c0:Nat):Int))]) (fun ⟨c0,g0,d0,j0⟩=>[rr w 75 (List UInt64) d0 g0.length j0]) (fun ⟨c0,g0,d0,j0⟩ D0=>Cells D0 (bl [rr w 75 (List UInt64) d0 g0.length j0] ++ L) j0 g0) (fun ⟨c0,g0,d0,j0⟩=>(c0,g0)) (0,([]:List (List UInt64)),vN,[]) c1 J0 (Ay (AB (cs:=[]) (xs:=([]:List (List UInt64))) y0 L (AG _ _)) Q0) ?_
 rintro C1 ⟨c0,g0,d0,j0⟩ D0 I0 p0 R0 B0 h
 unfold aX_l1 at h
 try dsimp only at h
 refine Ai<|Ae<|Ac rfl<|Ac rfl ?_
 have v0:=AM h0_0 p0
 have M1:a0.length <= 281474976710656:=AS v0
 refine Ab (AW (xs:=a0) underlying30 rfl v0)<|Ab (Bj (i:=c0) (j:=a0.length) rfl rfl)<|Aa<|AO rfl h (fun F0 h=>?_) (fun F0 h=>?_)
 refine Ap<|Ai<|Au<|Am<|Ac rfl<|Ac rfl<|Ac rfl<|bk h fun y1 q1 h=>?_
 obtain ⟨A1,F1,X0,Z0,H1,g1,b1⟩:=Bg v0 q1
 obtain rfl:=bw g1
 refine Ab (Bi 3 c0 rfl X0 rfl rfl Z0)<|Ab (AK rfl b1)<|Ac rfl<|Ac rfl<|bk h fun x0 u1 h=>jE (bd 73) rfl (e3 rfl rfl rfl) (fun w9 hw9=>aP_c n (p0.hL hL hw9) y1 (p0.km h2_0 hw9) u1) rfl fun U1 q0 V0 ⟨Q1,hu_,C0⟩=>?_
 subst hu_
 obtain ⟨K0,z0⟩:=p0.agr V0
 obtain ⟨B1,G1,p1,_⟩:=BI C0
 refine Ao .plain rfl (AJ (α:=List UInt64) (xs:=([x0]:List (List UInt64))) (vs:=[q0]) (ds' :=[q0]) rfl K0 el69 rfl (e1 rfl) (by rw [p1]; try kernel_rfl) rfl) fun V1 E1 s0 u0=>bk h fun z1 s1 h=>BR .plain rfl (Bh (α:=List UInt64) (ys:=([x0]:List (List UInt64))) s1 s0 (fun _ _=>.t1) el69 rfl rfl (Ay B0 (Tt z0 u0)) (BN (α:=List UInt64) s0 .hd (AB (cs:=[q0]) (xs:=(([x0]:List (List UInt64)):List (List UInt64))) s0 L (Ax (cs:=[q0]) (ds:=[]) (Aq C0 u0) (AG _ _))))) fun x1 W1 ⟨H0,M0,U0,W0⟩=>Af rfl<|Aa<|Aw<|Am<|Ac rfl<|Ab (Bf (i:=c0) (j:=1) rfl rfl (by omega))<|Af rfl<|Aa ?_
 obtain ⟨P0,A0⟩:=AH M0 .d1
 exact I0 (c0 + 1,z1,x1,H0) P0 (Tt R0 (Tt z0 (Tt u0 (Tt U0 A0)))) (Ay W0 A0) h
 refine AV rfl ?_
 have h:=Y0 _ h
 try dsimp only at h
 refine Ae<|Ac rfl<|Af rfl<|Af rfl<|Aa<|Ak rfl ?_
 have t0:=Bq p0 .hd
 have J1:=Br p0 .hd
 have j1:=Bs (α:=List UInt64) (v:=d0) (xs:=g0) t0 L (Ba (α:=List UInt64) p0 .hd B0 hL)
 refine Ar hb0 func32 rfl (.cons (.tmp rfl) (.cons (.tmp rfl) .nil)) rfl ?_
 cases h
 exact ⟨t0.ag,fun w9 hw9=>⟨d0,rfl,t0.kd j1 hw9⟩⟩
 refine Ae<|Ac rfl<|Af rfl<|Af rfl<|Aa<|Ak rfl ?_
 have k1:=Rep.nilAt (α:=List UInt64) b0 L
 refine Ar hb0 func32 rfl (.cons (.tmp rfl) (.cons (.tmp rfl) .nil)) rfl ?_
 cases h
 exact ⟨b0.ag,fun w9 hw9=>⟨vN,rfl,b0.kd k1 hw9⟩⟩
def az_l1 (_n:Nat) (a0:List Int) (c0:Int -> Option Int):Int -> Option Int
  | b0=>(if 0 < b0 then (chk (b0 - 1)).bind fun d0=>(idx a0 d0).bind fun j0=>(if j0 = 0 then (chk (b0 - 1)).bind fun g0=>c0 g0 else some b0) else some b0)
def az_p (n:Nat) (a0:List Int):Option (List Int):=
  jn (fun d0=>(cut a0 0 d0).bind fun c0=>some c0) (fun b0=>Option.bind (ah (az_l1 n a0) n ((a0.length:Nat):Int)) (b0))
theorem az_c (n:Nat) {L w} (_hL:hl L w) {a0:List Int} {v0_0:Value} (h0_0:Rep.R w L [v0_0] a0)  {r:List Int} (h:az_p n a0 = some r) :
 Cl 181 #[v0_0] w (ae w fun w' u=>∃ v0_0:Value,u = v0_0/\Rep.R w' L [v0_0] r):=by
 unfold az_p at h
 have hS0:=AC w
 refine AF func181 rfl rfl rfl fun _ cs0 hb0=>Ae<|Af rfl<|Aa<|Ae<|Ac rfl ?_
 have hl1:a0.length <= 281474976710656:=AS h0_0
 refine Ab (AW (xs:=a0) underlying52 rfl h0_0)<|Af rfl<|Aa<|Ai<|Au<|MX.xo (α:=Int) 0 (fun c0=>[(0,v0_0),(3,vI c0)]) (fun c0=>[]) (fun c0=>c0) hS0 rfl h ?_ ?_
 rintro c0 Y0 g0 W0 h
 try dsimp only at h
 refine Ae<|Ac rfl<|Ac rfl<|bk h fun b1 J0 h=>RG.valE .plain rfl (FV.cutL (α:=Int) J0 rfl rfl (AM h0_0 g0) rfl ⟨_,rfl⟩) fun P0 D0=>Af rfl<|Aa<|Ak rfl<|AQ hb0 func181 rfl rfl ?_
 cases h
 exact ⟨g0.ag,fun w9 hw9=>⟨P0,rfl,g0.kd D0 hw9⟩⟩
 intro R0 k0 h
 try dsimp only at h
 obtain ⟨X0,C0,p0⟩:=ao h
 refine BT (α:=Int) (fun b0=>[(0,v0_0),(3,vI b0)]) (fun b0=>[]) (fun b0=>b0) ((a0.length:Nat):Int) C0 hS0 ?_
 rintro U0 b0 Z0 v0 d0 j0 h
 unfold az_l1 at h
 try dsimp only at h
 refine Ai<|Ae<|Ac rfl<|Ab (FV.gtr (i:=b0) (j:=0) rfl rfl)<|Ac rfl<|Bv (s:=8) rfl h (fun s0 h=>?_) (fun s0 h=>?_)
 refine Az (Ah rfl)<|Az (Ah rfl)<|bk h fun K0 F0 h=>Az (FV.subc (i:=b0) (j:=1) rfl rfl F0)<|bk h fun q0 H0 h=>?_
 obtain ⟨z0,I0⟩:=aG H0
 obtain ⟨Q0,V0,x0,A0,u0,E0,B0⟩:=Bg (AM h0_0 d0) I0
 have y0:u0 = [vI q0]:=E0; subst y0
 refine Az (Bi 1 (K0.toNat) rfl x0 rfl z0 A0)<|Az (AN rfl (B0 0 _ rfl))<|Az (FV.eql (i:=q0) (j:=0) rfl rfl)<|Bl rfl rfl<|Aa<|AO rfl h (fun t0 h=>?_) (fun t0 h=>?_)
 refine Ap<|Au<|Am<|Ac rfl<|bk h fun M0 G0 h=>Ab (FV.subc (i:=b0) (j:=1) rfl rfl G0)<|Af rfl<|Aa<|Aw<|v0 M0 d0 j0 h
 refine AV rfl ?_
 have h:=p0 _ h
 try dsimp only at h
 exact k0 b0 d0 j0 h
 refine Al<|Al<|Al<|Al<|Al<|Al<|Bn rfl rfl<|Aa<|BA rfl<|AV rfl ?_
 have h:=p0 _ h
 try dsimp only at h
 exact k0 b0 d0 j0 h
def al_l1 (_n:Nat) (a0:List Int) (a1:List Int) (p0:Nat × Nat × (List Int) -> Option (List Int)):Nat × Nat × (List Int) -> Option (List Int)
  | (q0,b0,k0)=>(if b0 < a0.length then (a0[b0]?).bind fun v0=>(chk (v0 - ((q0:Nat):Int))).bind fun j0=>jn (fun c0=>jn (fun (s0,z0)=>(app k0 ([z0]:List Int)).bind fun y0=>p0 (s0,b0 + 1,y0)) (fun g0=>(if c0 < 0 then (chk (c0 + 4294967296)).bind fun t0=>g0 (1,t0) else g0 (0,c0)))) (fun d0=>(if b0 < a1.length then (a1[b0]?).bind fun x0=>(chk (j0 - x0)).bind fun u0=>d0 u0 else d0 j0)) else some k0)
def al_p (n:Nat) (a0:List Int) (a1:List Int):Option (List Int):=
  Option.bind (ah (al_l1 n a0 a1) n (0,0,([]:List Int))) (fun b0=>(az_p n b0).bind fun c0=>some c0)
theorem al_c (n:Nat) {L w} (hL:hl L w) {a0:List Int} {v0_0:Value} (h0_0:Rep.R w L [v0_0] a0) {a1:List Int} {v1_0:Value} (h1_0:Rep.R w L [v1_0] a1)  {r:List Int} (h:al_p n a0 a1 = some r) :
 Cl 180 #[v0_0,v1_0] w (ae w fun w' u=>∃ v0_0:Value,u = v0_0/\Rep.R w' L [v0_0] r):=by
 unfold al_p at h
 have hS0:=AC w
 refine AF func180 rfl rfl rfl fun _ cs0 hb0=>Ae<|Af rfl<|Aa<|Ae<|Af rfl<|Aa<|Ae<|Af rfl<|Aa<|Ai<|Ae<|Af rfl<|Aa<|Au ?_
 have B0:=hS0.nilRow 3 (Rep.size Int)
 have k2:=BJ hS0 3 (Rep.size Int)
 obtain ⟨u2,C1,x1⟩:=ao h
 refine MX.lf (α:=Nat × Nat × (List Int) × Value × (List Value)) (fun ⟨p0,b0,g0,c0,j0⟩=>[(0,v0_0),(1,v1_0),(5,c0),(6,vI ((p0:Nat):Int)),(7,vI ((b0:Nat):Int))]) (fun ⟨p0,b0,g0,c0,j0⟩=>[rr w 3 Int c0 g0.length j0]) (fun ⟨p0,b0,g0,c0,j0⟩ H0=>Cells H0 (bl [rr w 3 Int c0 g0.length j0] ++ L) j0 g0) (fun ⟨p0,b0,g0,c0,j0⟩=>(p0,b0,g0)) (0,0,([]:List Int),vN,[]) C1 B0 (AB (cs:=[]) (xs:=([]:List Int)) B0 L (AG _ _)) ?_
 rintro Z1 ⟨p0,b0,g0,c0,j0⟩ H0 V0 k0 Z0 E0 h
 unfold al_l1 at h
 try dsimp only at h
 refine Ai<|Ae<|Ac rfl<|Ac rfl ?_
 have x0:=AM h0_0 k0
 have s2:a0.length <= 281474976710656:=AS x0
 refine Ab (AW (xs:=a0) underlying52 rfl x0)<|Ab (Bj (i:=b0) (j:=a0.length) rfl rfl)<|Aa<|AO rfl h (fun K0 h=>?_) (fun K0 h=>?_)
 refine Ap<|Ai<|Au<|Ae<|Ac rfl<|Ac rfl<|bk h fun I0 J1 h=>?_
 obtain ⟨X1,g2,q1,y1,Q0,D1,A1⟩:=Bg x0 J1
 have s1:Q0 = [vI I0]:=D1; subst s1
 refine Ab (Bi 1 b0 rfl q1 rfl rfl y1)<|AL rfl (A1 0 _ rfl)<|Ac rfl<|bk h fun G0 G1 h=>Ab (FV.subc (i:=I0) (j:=((p0:Nat):Int)) rfl rfl G1)<|Af rfl<|Aa<|Ai<|Ae<|Ac rfl<|Ac rfl ?_
 have y0:=AM h1_0 k0
 have t2:a1.length <= 281474976710656:=AS y0
 refine Ab (AW (xs:=a1) underlying52 rfl y0)<|Ab (Bj (i:=b0) (j:=a1.length) rfl rfl)<|Aa<|MX.jo (α:=Int) (fun q0=>[(0,v0_0),(1,v1_0),(5,c0),(6,vI ((p0:Nat):Int)),(7,vI ((b0:Nat):Int)),(8,vI q0)]) (fun q0=>[rr w 3 Int c0 g0.length j0]) (fun q0=>q0) k0 h ?_ ?_
 rintro q0 A2 t0 b1 h
 try dsimp only at h
 refine Ae<|Af rfl<|Aa<|Ai<|Ae<|Ac rfl<|Ab (BO (i:=q0) (j:=0) rfl rfl)<|Aa<|MX.jo (α:=Nat × Int) (fun ⟨s0,d0⟩=>[(0,v0_0),(1,v1_0),(5,c0),(6,vI ((s0:Nat):Int)),(7,vI ((b0:Nat):Int)),(8,vI d0)]) (fun ⟨s0,d0⟩=>[rr w 3 Int c0 g0.length j0]) (fun ⟨s0,d0⟩=>(s0,d0)) t0 h ?_ ?_
 rintro ⟨s0,d0⟩ B2 W0 c1 h
 try dsimp only at h
 refine Am<|Ac rfl<|Ac rfl<|Ao .plain rfl (jA d0 (vI d0) W0 ay (e1 rfl)) fun x2 d2 u0 g1=>bk h fun W1 M1 h=>?_
 have F0:=Tt b1 (Tt c1 g1)
 refine BR .plain rfl (Bh (α:=Int) (ys:=([d0]:List Int)) M1 u0 (fun _ _=>.t1) ay rfl rfl (Ay E0 F0) (BN (α:=Int) u0 .hd (jC d0 (vI d0) u0 L rfl))) fun U1 y2 ⟨R0,X0,j1,p1⟩=>Af rfl<|Aa<|Aw<|Am<|Ac rfl<|Ab (Bf (i:=b0) (j:=1) rfl rfl (by omega))<|Af rfl<|Aa ?_
 obtain ⟨Y0,D0⟩:=AH X0 .d1
 exact V0 (s0,b0 + 1,W1,U1,R0) Y0 (Tt Z0 (Tt F0 (Tt j1 D0))) (Ay p1 D0) h
 intro c2 A0 h
 try dsimp only at h
 refine AO rfl h (fun M0 h=>?_) (fun M0 h=>?_)
 refine Ae<|Ac rfl<|bk h fun Q1 H1 h=>Ab (BE (i:=q0) (j:=4294967296) rfl rfl H1)<|Af rfl<|Aa<|Am<|Af rfl<|Aa<|A0 (1,Q1) t0 (Bw _ _) h
 refine Ap<|A0 (0,q0) t0 (Bw _ _) h
 intro b2 z0 h
 try dsimp only at h
 refine AO rfl h (fun P0 h=>?_) (fun P0 h=>?_)
 refine Am<|Ac rfl<|Ac rfl<|Ac rfl<|bk h fun J0 K1 h=>?_
 obtain ⟨Y1,j2,u1,z1,U0,E1,B1⟩:=Bg y0 K1
 have v1:U0 = [vI J0]:=E1; subst v1
 refine Ab (Bi 1 b0 rfl u1 rfl rfl z1)<|AL rfl (B1 0 _ rfl)<|bk h fun R1 I1 h=>Ab (FV.subc (i:=G0) (j:=J0) rfl rfl I1)<|Af rfl<|Aa<|z0 R1 k0 (Bw _ _) h
 refine Ap<|z0 G0 k0 (Bw _ _) h
 refine AV rfl ?_
 have h:=x1 _ h
 try dsimp only at h
 refine Ae<|Ac rfl ?_
 have v0:=Bq k0 .hd
 have p2:=Br k0 .hd
 refine bk h fun C2 P1 h=>jE (bd 181) rfl (e1 rfl) (fun w9 hw9=>az_c n (v0.hL hL hw9) (Av (Bs (α:=Int) (v:=c0) (xs:=g0) v0 L (Ba (α:=Int) k0 .hd E0 hL)) hw9) P1) rfl fun z2 V1 k1 ⟨v2,hu_,F1⟩=>?_
 subst hu_
 obtain ⟨C0,q2⟩:=v0.agr k1
 refine Af rfl<|Aa<|Ak rfl<|AQ hb0 func180 rfl rfl ?_
 cases h
 exact ⟨C0.ag,fun w9 hw9=>⟨V1,rfl,C0.kd F1 hw9⟩⟩
def aQ_l1 (_n:Nat) (a0:List Int) (a1:List Int) (g0:Int -> Option (Int ⊕ Unit)):Int -> Option (Int ⊕ Unit)
  | b0=>(if 0 <= b0 then (idx a0 b0).bind fun c0=>(idx a1 b0).bind fun d0=>(if c0 = d0 then (chk (b0 - 1)).bind fun j0=>g0 j0 else (chk (c0 - d0)).bind fun k0=>some (.inl k0)) else some (.inr ()))
def aQ_p (n:Nat) (a0:List Int) (a1:List Int):Option Int:=
  (if a0.length = a1.length then thn (ah (aQ_l1 n a0 a1) n (((a0.length:Nat):Int) - 1)) (fun _=>some (0:Int)) else some (((a0.length:Nat):Int) - ((a1.length:Nat):Int)))
theorem aQ_c (n:Nat) {L w} (_hL:hl L w) {a0:List Int} {v0_0:Value} (h0_0:Rep.R w L [v0_0] a0) {a1:List Int} {v1_0:Value} (h1_0:Rep.R w L [v1_0] a1)  {r:Int} (h:aQ_p n a0 a1 = some r) :
 Cl 183 #[v0_0,v1_0] w (ae w fun _ u=>u = vI r):=by
 unfold aQ_p at h
 have hS0:=AC w
 refine AF func183 rfl rfl rfl fun _ cs0 hb0=>Ae<|Af rfl<|Aa<|Ai<|Ae<|Ac rfl ?_
 have hl1:a0.length <= 281474976710656:=AS h0_0
 refine Ab (AW (xs:=a0) underlying52 rfl h0_0)<|Ac rfl ?_
 have hl2:a1.length <= 281474976710656:=AS h1_0
 refine Ab (AW (xs:=a1) underlying52 rfl h1_0)<|Ab (FV.neqN (i:=a0.length) (j:=a1.length) rfl rfl)<|Aa<|MX.ifn rfl h (fun c3 h=>?_) (fun c3 h=>?_)
 refine Ap<|Ai<|Ae<|Ac rfl<|Ab (AW (xs:=a0) underlying52 rfl h0_0)<|Ab (FV.subI (i:=((a0.length:Nat):Int)) (j:=1) rfl rfl (by omega))<|Af rfl<|Aa<|Au<|tn h fun j1 K0 u0=>BT (α:=Int) (fun c0=>[(0,v0_0),(1,v1_0),(5,vI c0)]) (fun c0=>[]) (fun c0=>c0) (((a0.length:Nat):Int) - 1) K0 hS0 ?_
 rintro c1 c0 p1 G0 k0 H0 h
 unfold aQ_l1 at h
 try dsimp only at h
 refine Ai<|Ae<|Ac rfl<|Ab (FV.geq (i:=c0) (j:=0) rfl rfl)<|Aa<|AO rfl h (fun C0 h=>?_) (fun C0 h=>?_)
 refine Ap<|Ai<|Au<|Ai<|du 9 fun g0 j0=>Rv 0 g0 rfl j0 (fun _=>Ah rfl)<|Rv 1 g0 rfl j0 (fun _=>Ah rfl)<|bk h fun p0 U0 h=>?_
 obtain ⟨v0,V0⟩:=aG U0
 obtain ⟨Z0,d1,s0,y0,E0,M0,A0⟩:=Bg (AM h0_0 k0) V0
 have I0:E0 = [vI p0]:=M0; subst I0
 refine Rv 2 g0 rfl j0 (fun _=>Bi 1 (c0.toNat) rfl s0 rfl v0 y0)<|Rx 3 256 g0 rfl j0 (AN rfl (A0 0 _ rfl))<|Rv 4 g0 rfl j0 (fun _=>Ah rfl)<|Rv 5 g0 rfl j0 (fun _=>Ah rfl)<|bk h fun q0 W0 h=>?_
 obtain ⟨x0,X0⟩:=aG W0
 obtain ⟨b1,g1,t0,z0,F0,P0,B0⟩:=Bg (AM h1_0 k0) X0
 have J0:F0 = [vI q0]:=P0; subst J0
 refine Rv 6 g0 rfl j0 (fun _=>Bi 1 (c0.toNat) rfl t0 rfl x0 z0)<|Rx 7 256 g0 rfl j0 (AN rfl (B0 0 _ rfl))<|Rv 8 g0 rfl j0 (fun _=>FV.neq (i:=p0) (j:=q0) rfl rfl)<|AR (dk g0)<|MX.ifn rfl h (fun D0 h=>?_) (fun D0 h=>?_)
 refine Ap<|Aw<|Am<|Ac rfl<|bk h fun Y0 Q0 h=>Ab (FV.subc (i:=c0) (j:=1) rfl rfl Q0)<|Af rfl<|Aa<|G0 Y0 k0 H0 h
 refine Ai<|du 10 fun b0 d0=>Rv 0 b0 rfl d0 (fun _=>Ah rfl)<|Rv 1 b0 rfl d0 (fun _=>Ah rfl)<|Rv 2 b0 rfl d0 (fun _=>Bi 1 (c0.toNat) rfl s0 rfl v0 y0)<|Rx 3 768 b0 rfl d0 (AN rfl (A0 0 _ rfl))<|Rv 4 b0 rfl d0 (fun _=>Ah rfl)<|Rv 5 b0 rfl d0 (fun _=>Ah rfl)<|Rv 6 b0 rfl d0 (fun _=>Bi 1 (c0.toNat) rfl t0 rfl x0 z0)<|Rx 7 768 b0 rfl d0 (AN rfl (B0 0 _ rfl))<|bk h fun k1 R0 h=>Rv 8 b0 rfl d0 (fun _=>FV.subc (i:=p0) (j:=q0) rfl rfl R0)<|Rv 9 b0 rfl d0 (fun _=>Bm rfl)<|AR (dk b0) ?_
 have h:=ap h u0
 refine Ak rfl<|AQ hb0 func183 rfl rfl ?_
 cases h
 exact k0.gv
 refine AV rfl ?_
 have h:=aA h u0
 try dsimp only at h
 refine Ae<|Af rfl<|Aa<|Ak rfl<|AQ hb0 func183 rfl rfl ?_
 cases h
 exact k0.gv
 refine Ae<|Ac rfl<|Ab (AW (xs:=a0) underlying52 rfl h0_0)<|Ac rfl<|Ab (AW (xs:=a1) underlying52 rfl h1_0)<|Ab (FV.subI (i:=((a0.length:Nat):Int)) (j:=((a1.length:Nat):Int)) rfl rfl (by omega))<|Af rfl<|Aa<|Ak rfl<|AQ hb0 func183 rfl rfl ?_
 cases h
 exact hS0.gv
structure Td where
  fc:Bool
  fD:List Int
  deriving DecidableEq
instance:Rep Td:=Rep.via (β:=Bool × (List Int)) fun x=>(x.fc,x.fD)
def aI_l1 (_n:Nat) (x0:List Int) (y0:Nat × U8 -> Option (U8)):Nat × U8 -> Option (U8)
  | (b0,j0,k0,p0,q0,s0,t0,u0,v0)=>(if b0 < x0.length then (([j0,k0,p0,q0,s0,t0,u0,v0]:List UInt64)[b0 / 2]?).bind fun g0=>(x0[b0]?).bind fun d0=>(chk (32 * ((b0 % 2:Nat):Int))).bind fun z0=>(aT z0).bind fun c0=>y0 (b0 + 1,au (b0 / 2) 0 (g0 + (shlU (ab d0) c0)) j0,au (b0 / 2) 1 (g0 + (shlU (ab d0) c0)) k0,au (b0 / 2) 2 (g0 + (shlU (ab d0) c0)) p0,au (b0 / 2) 3 (g0 + (shlU (ab d0) c0)) q0,au (b0 / 2) 4 (g0 + (shlU (ab d0) c0)) s0,au (b0 / 2) 5 (g0 + (shlU (ab d0) c0)) t0,au (b0 / 2) 6 (g0 + (shlU (ab d0) c0)) u0,au (b0 / 2) 7 (g0 + (shlU (ab d0) c0)) v0) else some (j0,k0,p0,q0,s0,t0,u0,v0))
def aI_l2 (_n:Nat) (x0:List Int) (y0:Nat × U8 -> Option (U8)):Nat × U8 -> Option (U8)
  | (b0,j0,k0,p0,q0,s0,t0,u0,v0)=>(if b0 < x0.length then (([j0,k0,p0,q0,s0,t0,u0,v0]:List UInt64)[b0 / 2]?).bind fun g0=>(x0[b0]?).bind fun d0=>(chk (32 * ((b0 % 2:Nat):Int))).bind fun z0=>(aT z0).bind fun c0=>y0 (b0 + 1,au (b0 / 2) 0 (g0 + (shlU (ab d0) c0)) j0,au (b0 / 2) 1 (g0 + (shlU (ab d0) c0)) k0,au (b0 / 2) 2 (g0 + (shlU (ab d0) c0)) p0,au (b0 / 2) 3 (g0 + (shlU (ab d0) c0)) q0,au (b0 / 2) 4 (g0 + (shlU (ab d0) c0)) s0,au (b0 / 2) 5 (g0 + (shlU (ab d0) c0)) t0,au (b0 / 2) 6 (g0 + (shlU (ab d0) c0)) u0,au (b0 / 2) 7 (g0 + (shlU (ab d0) c0)) v0) else some (j0,k0,p0,q0,s0,t0,u0,v0))
def aI_p (n:Nat) (a0:Td):Option ((U8) × Int):=
  (mk 16 (0:Int)).bind fun c0=>(c0[15]?).bind fun _x28=>(put c0 ((15:Nat):Int) (2147483648:Int)).bind fun I0=>(aQ_p n a0.fD I0).bind fun j0=>(if 0 < j0 then some ((0,0,0,0,0,0,0,0),(6:Int)) else (if j0 = 0 then (if a0.fc = true then (mk 17 (0:Int)).bind fun g0=>(g0[16]?).bind fun _x61=>(put g0 ((16:Nat):Int) (1:Int)).bind fun J0=>(al_p n J0 a0.fD).bind fun M0=>Option.bind (ah (aI_l1 n M0) n (0,0,0,0,0,0,0,0,0)) (fun (k0,p0,q0,s0,t0,u0,v0,x0)=>some ((k0,p0,q0,s0,t0,u0,v0,x0),(0:Int))) else some ((0,0,0,0,0,0,0,0),(6:Int))) else jn (fun G0=>Option.bind (ah (aI_l2 n G0) n (0,0,0,0,0,0,0,0,0)) (fun (y0,z0,A0,B0,C0,D0,E0,F0)=>some ((y0,z0,A0,B0,C0,D0,E0,F0),(0:Int)))) (fun b0=>(if a0.fc = true then (mk 17 (0:Int)).bind fun d0=>(d0[16]?).bind fun _x369=>(put d0 ((16:Nat):Int) (1:Int)).bind fun H0=>(al_p n H0 a0.fD).bind fun K0=>b0 K0 else b0 a0.fD))))
theorem aI_c (n:Nat) {L w} (hL:hl L w) (a0:Td) {v0_1:Value} (h0_1:Rep.R w L [v0_1] a0.fD)  {r:(U8) × Int} (h:aI_p n a0 = some r) :
 Cl 156 #[.agg #[.bool a0.fc,v0_1]] w (ae w fun _ u=>u = .tuple #[.agg ((ak r.1)).toArray,vI r.2]):=by
 unfold aI_p at h
 refine AF func156 rfl rfl rfl fun _ cs0 hb0=>Ae<|RG.bx (AC w) rfl rfl fun c6 X4 G2 x5=>RG.nl zP G2 fun d6 V0 I2 y5=>Af rfl<|Aa<|Ae<|bk h fun G6 q4 h=>RG.doesH .plain rfl (Does.mkH (α:=Int) (L:=L) q4 I2 ay rfl (fun _ _=>rfl)) fun Y5 p6 ⟨p5,k1,B5,Q1⟩=>Af rfl<|Aa<|Ae<|Ac rfl<|bk h fun H4 g4 h=>?_
 obtain ⟨d2,Z4,v1,Y1,A2,U3,Q5⟩:=St.nth (α:=Int) k1 .hd Q1 g4
 obtain ⟨k2,c5,W1⟩:=BL (α:=Int) k1 .hd Y1
 obtain rfl:d2 = ⟨k2,0,none⟩:=by rw [W1] at v1; cases v1; rfl
 have B3:A2 = [vI H4]:=U3; subst B3
 refine Ab (Bi 1 15 rfl v1 rfl rfl Y1)<|bk h fun I6 u4 h=>RG.acts' .plain (Acts.set (α:=Int) (i:=15) u4 k1 W1 (fun _=>.hd) Q1 rfl rfl rfl rfl rfl rfl) fun y6 ⟨t5,y0,E5,t3⟩=>Aa<|Ae<|AT 1 rfl<|AL rfl ((y0.memA .t2) 1 _ rfl)<|Ac rfl<|bk h fun B1 z4 h=>Bk (vI B1) (bd 183) rfl (e2 rfl rfl) (fun w9 hw9=>aQ_c n (y0.hL0 hL hw9) (y0.k0 h0_1 hw9) (Av (St.lend (α:=Int) (L:=L) y0 .hd t3 hL) hw9) z4) rfl<|Af rfl<|Aa<|Ai<|Ae<|Ac rfl<|Ab (FV.gtr (i:=B1) (j:=0) rfl rfl)<|Ac rfl<|Bv (s:=19) rfl h (fun x2 h=>?_) (fun x2 h=>?_)
 refine Al<|Al<|Al<|RG.un<|RG.un<|RG.un<|Al<|Bl rfl rfl<|Aa<|AZ rfl<|Ae<|Ab (AU (vs:=[]) (u:=.agg zQ) am (fun w9=>by kernel_rfl))<|AX zP y0 .t1 (aq rfl) fun z6 J1 F5=>Af rfl<|Aa<|Ak rfl<|Ar hb0 func156 rfl (.cons (.many (cs:=zP) rfl rfl (J1.memA .t1)) (.cons (.tmp rfl) .nil)) rfl ?_
 cases h
 exact J1.gv
 refine Az (Ah rfl)<|Az (FV.eql (i:=B1) (j:=0) rfl rfl)<|Az (Ah rfl)<|Bv (s:=22) rfl h (fun y2 h=>?_) (fun y2 h=>?_)
 refine RG.fg 0 rfl<|Az (AN rfl ((y0.memA .t2) 0 _ rfl))<|Az (Bp rfl)<|Az (BP rfl rfl)<|Bn rfl rfl<|Aa<|BU rfl h (fun D1 h=>?_) (fun D1 h=>?_)
 refine Ap<|Ae<|AT 1 rfl<|AL rfl ((y0.memA .t2) 1 _ rfl)<|Af rfl<|Aa<|Ai<|Ae<|AT 0 rfl<|AL rfl ((y0.memA .t2) 0 _ rfl)<|Aa<|MX.cond_kt rfl D1<|Ae<|bk h fun J6 v4 h=>RG.doesH .plain rfl (Does.mkH (α:=Int) (L:=L) v4 y0 ay rfl (fun _ _=>rfl)) fun E4 A6 ⟨u5,s1,G5,U1⟩=>Af rfl<|Aa<|Ae<|Ac rfl<|bk h fun J4 p4 h=>?_
 obtain ⟨j2,j5,y1,b2,D2,Y3,V5⟩:=St.nth (α:=Int) s1 .hd U1 p4
 obtain ⟨q2,k5,X1⟩:=BL (α:=Int) s1 .hd b2
 obtain rfl:j2 = ⟨q2,0,none⟩:=by rw [X1] at y1; cases y1; rfl
 have C3:D2 = [vI J4]:=Y3; subst C3
 refine Ab (Bi 1 16 rfl y1 rfl rfl b2)<|bk h fun M4 x4 h=>RG.acts' .plain (Acts.set (α:=Int) (i:=16) x4 s1 X1 (fun _=>.hd) U1 rfl rfl rfl rfl rfl rfl) fun B6 ⟨v5,u1,H5,u3⟩=>Aa<|Am<|Ac rfl<|Ac rfl ?_
 have j1:=Bq u1 .hd
 have I5:=Br u1 .hd
 refine bk h fun C1 A4 h=>jE (bd 180) rfl (e2 rfl rfl) (fun w9 hw9=>al_c n (j1.hL hL hw9) (Av (Bs (α:=Int) (v:=E4) (xs:=M4) j1 L (Ba (α:=Int) u1 .hd u3 hL)) hw9) (j1.km h0_1 hw9) A4) rfl fun C6 G4 q3 ⟨b6,hu_,Z3⟩=>?_
 subst hu_
 obtain ⟨U2,J5⟩:=j1.agr q3
 refine Af rfl<|Aa<|Ae<|RG.nl zP U2 fun D6 d1 V2 k3=>Aa<|Ai<|Ae<|Af rfl<|Aa<|Au ?_
 obtain ⟨H2,W2⟩:=AH V2 (.a0 (.a1 .done))
 obtain ⟨W5,M3,D3⟩:=ao h
 refine BT (α:=Nat × U8) (fun ⟨b0,z0,A0,B0,C0,D0,E0,F0,G0⟩=>[(2,vP V0),(6,G4),(8,vP d1),(9,vI ((b0:Nat):Int))]) (fun ⟨b0,z0,A0,B0,C0,D0,E0,F0,G0⟩=>[.cells d1 [vU z0,vU A0,vU B0,vU C0,vU D0,vU E0,vU F0,vU G0] 40,.cells V0 zP 40]) (fun ⟨b0,z0,A0,B0,C0,D0,E0,F0,G0⟩=>(b0,z0,A0,B0,C0,D0,E0,F0,G0)) (0,0,0,0,0,0,0,0,0) M3 H2 ?_
 rintro U4 ⟨b0,z0,A0,B0,C0,D0,E0,F0,G0⟩ E6 E2 X0 K1 h
 unfold aI_l1 at h
 try dsimp only at h
 refine Ai<|Ae<|Ac rfl<|Ac rfl ?_
 have z1:=Aq Z3 (Tt k3 (Tt W2 K1))
 have K5:C1.length <= 281474976710656:=AS z1
 refine Ab (AW (xs:=C1) underlying52 rfl z1)<|Ab (Bj (i:=b0) (j:=C1.length) rfl rfl)<|Aa<|AO rfl h (fun s2 h=>?_) (fun s2 h=>?_)
 refine Ap<|Ai<|Au<|du 17 fun j0 v0=>Rv 0 j0 rfl v0 (fun _=>Ah rfl)<|Rv 1 j0 rfl v0 (fun _=>FV.quoN (i:=b0) (j:=2) rfl rfl rfl (by omega))<|Rv 2 j0 rfl v0 (fun _=>Ah rfl)<|Rv 3 j0 rfl v0 (fun _=>FV.quoN (i:=b0) (j:=2) rfl rfl rfl (by omega))<|bk h fun t0 Z0 h=>Rv 4 j0 rfl v0 (fun _=>Bd (m:=1) (k:=b0 / 2) (len:=8) rfl rfl rfl rfl (aU Z0 rfl))<|Rx 5 229376 j0 rfl v0 (AN rfl ((aK (p:=⟨d1,0,none⟩) (cs:=([z0,A0,B0,C0,D0,E0,F0,G0]:List UInt64).map (fun z9:UInt64=>(vU z9:Value)) ++ []) (i:=b0 / 2) (X0.memA .hd) (bG (fun z9:UInt64=>(vU z9:Value)) Z0)) 0 _ rfl))<|Rv 6 j0 rfl v0 (fun _=>Ah rfl)<|Rv 7 j0 rfl v0 (fun _=>Ah rfl)<|bk h fun d0 d4 h=>?_
 obtain ⟨Q4,Y4,v3,F3,z2,Q3,J3⟩:=Bg z1 d4
 have x3:z2 = [vI d0]:=Q3; subst x3
 refine Rv 8 j0 rfl v0 (fun _=>Bi 1 b0 rfl v3 rfl rfl F3)<|Rx 9 246784 j0 rfl v0 (AN rfl (J3 0 _ rfl))<|Rv 10 j0 rfl v0 (fun _=>FV.convU (i:=d0) underlying3 underlying28 rfl)<|Rv 11 j0 rfl v0 (fun _=>Ah rfl)<|Rv 12 j0 rfl v0 (fun _=>FV.remN (i:=b0) (j:=2) rfl rfl rfl)<|bk h fun B4 b4 h=>Rv 13 j0 rfl v0 (fun _=>FV.mulc (i:=32) (j:=((b0 % 2:Nat):Int)) rfl rfl b4)<|bk h fun q0 G3 h=>Rv 14 j0 rfl v0 (fun _=>FV.shlI (a:=ab d0) (i:=B4) rfl rfl G3)<|Rv 15 j0 rfl v0 (fun _=>FV.addU (a:=t0) (b:=shlU (ab d0) q0) rfl rfl) ?_
 have P5:=aK (p:=⟨d1,0,none⟩) (cs:=([z0,A0,B0,C0,D0,E0,F0,G0]:List UInt64).map (fun z9:UInt64=>(vU z9:Value)) ++ []) (i:=b0 / 2) (X0.memA .hd) (bG (fun z9:UInt64=>(vU z9:Value)) Z0)
 refine Rv 16 j0 rfl v0 (fun _=>Bd (m:=1) (k:=b0 / 2) (len:=8) rfl rfl rfl rfl (aU Z0 rfl))<|BB 17 262143 j0 rfl rfl .plain (Acts.storeArr (fun z9:UInt64=>(vU z9:Value)) (xs:=([z0,A0,B0,C0,D0,E0,F0,G0]:List UInt64)) (pre:=[]) (post:=[]) (i:=b0 / 2) (m:=8) (x:=t0 + (shlU (ab d0) q0)) (old:=[vU z0,vU A0,vU B0,vU C0,vU D0,vU E0,vU F0,vU G0]) (new' :=[vW ((au (b0 / 2) 0 (t0 + (shlU (ab d0) q0)) z0).toNat:Int),vW ((au (b0 / 2) 1 (t0 + (shlU (ab d0) q0)) A0).toNat:Int),vW ((au (b0 / 2) 2 (t0 + (shlU (ab d0) q0)) B0).toNat:Int),vW ((au (b0 / 2) 3 (t0 + (shlU (ab d0) q0)) C0).toNat:Int),vW ((au (b0 / 2) 4 (t0 + (shlU (ab d0) q0)) D0).toNat:Int),vW ((au (b0 / 2) 5 (t0 + (shlU (ab d0) q0)) E0).toNat:Int),vW ((au (b0 / 2) 6 (t0 + (shlU (ab d0) q0)) F0).toNat:Int),vW ((au (b0 / 2) 7 (t0 + (shlU (ab d0) q0)) G0).toNat:Int)]) rfl rfl (aU Z0 rfl) X0 .hd rfl (eH _ _ _) rfl rfl (fun _=>⟨rfl,rfl⟩) rfl rfl) fun g6 J2 X2=>AR (dk j0)<|Aw<|Am<|Ac rfl<|Ab (Bf (i:=b0) (j:=1) rfl rfl (by omega))<|Af rfl<|Aa<|E2 (b0 + 1,au (b0 / 2) 0 (t0 + (shlU (ab d0) q0)) z0,au (b0 / 2) 1 (t0 + (shlU (ab d0) q0)) A0,au (b0 / 2) 2 (t0 + (shlU (ab d0) q0)) B0,au (b0 / 2) 3 (t0 + (shlU (ab d0) q0)) C0,au (b0 / 2) 4 (t0 + (shlU (ab d0) q0)) D0,au (b0 / 2) 5 (t0 + (shlU (ab d0) q0)) E0,au (b0 / 2) 6 (t0 + (shlU (ab d0) q0)) F0,au (b0 / 2) 7 (t0 + (shlU (ab d0) q0)) G0) J2 (Tt K1 X2) h
 refine AV rfl ?_
 have h:=D3 _ h
 try dsimp only at h
 refine Ae<|Ab (AK rfl (X0.memA .hd))<|AX [vU z0,vU A0,vU B0,vU C0,vU D0,vU E0,vU F0,vU G0] X0 .t1 (aq rfl) fun j6 F1 z5=>Af rfl<|Aa<|Ak rfl<|Ar hb0 func156 rfl (.cons (.many (cs:=[vU z0,vU A0,vU B0,vU C0,vU D0,vU E0,vU F0,vU G0]) rfl rfl (F1.memA .t1)) (.cons (.tmp rfl) .nil)) rfl ?_
 cases h
 exact F1.gv
 refine Ae<|Ab (AU (vs:=[]) (u:=.agg zQ) am (fun w9=>by kernel_rfl))<|AX zP y0 .t1 (aq rfl) fun k6 G1 A5=>Af rfl<|Aa<|Ak rfl<|Ar hb0 func156 rfl (.cons (.many (cs:=zP) rfl rfl (G1.memA .t1)) (.cons (.tmp rfl) .nil)) rfl ?_
 cases h
 exact G1.gv
 refine Al<|Al<|Al<|Az (Bc rfl rfl)<|Bn rfl rfl<|Aa<|BA rfl<|Ap<|Ae<|AT 1 rfl<|AL rfl ((y0.memA .t2) 1 _ rfl)<|Af rfl<|Aa<|Ai<|Ae<|AT 0 rfl<|AL rfl ((y0.memA .t2) 0 _ rfl)<|Aa<|MX.jf (α:=(List Int) × Value) (fun ⟨U0,W0⟩=>[(2,vP V0),(6,W0)]) (fun ⟨U0,W0⟩=>[.cells V0 zP 40]) (fun ⟨U0,W0⟩ c2=>Rep.R c2 (bl [.cells V0 zP 40] ++ L) [W0] U0) (fun ⟨U0,W0⟩=>U0) y0 h ?_ ?_
 rintro ⟨U0,W0⟩ c2 K2 C5 R3 h
 try dsimp only at h
 refine Ae<|RG.nl zP K2 fun q6 c1 M2 Y2=>Aa<|Ai<|Ae<|Af rfl<|Aa<|Au ?_
 obtain ⟨X5,P3,E3⟩:=ao h
 refine BT (α:=Nat × U8) (fun ⟨c0,H0,I0,J0,K0,M0,P0,Q0,R0⟩=>[(2,vP V0),(6,W0),(8,vP c1),(9,vI ((c0:Nat):Int))]) (fun ⟨c0,H0,I0,J0,K0,M0,P0,Q0,R0⟩=>[.cells c1 [vU H0,vU I0,vU J0,vU K0,vU M0,vU P0,vU Q0,vU R0] 40,.cells V0 zP 40]) (fun ⟨c0,H0,I0,J0,K0,M0,P0,Q0,R0⟩=>(c0,H0,I0,J0,K0,M0,P0,Q0,R0)) (0,0,0,0,0,0,0,0,0) P3 M2 ?_
 rintro W4 ⟨c0,H0,I0,J0,K0,M0,P0,Q0,R0⟩ F6 F2 Y0 M1 h
 unfold aI_l2 at h
 try dsimp only at h
 refine Ai<|Ae<|Ac rfl<|Ac rfl ?_
 have A1:=Aq R3 (Tt Y2 M1)
 have M5:U0.length <= 281474976710656:=AS A1
 refine Ab (AW (xs:=U0) underlying52 rfl A1)<|Ab (Bj (i:=c0) (j:=U0.length) rfl rfl)<|Aa<|AO rfl h (fun u2 h=>?_) (fun u2 h=>?_)
 refine Ap<|Ai<|Au<|du 17 fun p0 x0=>Rv 0 p0 rfl x0 (fun _=>Ah rfl)<|Rv 1 p0 rfl x0 (fun _=>FV.quoN (i:=c0) (j:=2) rfl rfl rfl (by omega))<|Rv 2 p0 rfl x0 (fun _=>Ah rfl)<|Rv 3 p0 rfl x0 (fun _=>FV.quoN (i:=c0) (j:=2) rfl rfl rfl (by omega))<|bk h fun u0 b1 h=>Rv 4 p0 rfl x0 (fun _=>Bd (m:=1) (k:=c0 / 2) (len:=8) rfl rfl rfl rfl (aU b1 rfl))<|Rx 5 229376 p0 rfl x0 (AN rfl ((aK (p:=⟨c1,0,none⟩) (cs:=([H0,I0,J0,K0,M0,P0,Q0,R0]:List UInt64).map (fun z9:UInt64=>(vU z9:Value)) ++ []) (i:=c0 / 2) (Y0.memA .hd) (bG (fun z9:UInt64=>(vU z9:Value)) b1)) 0 _ rfl))<|Rv 6 p0 rfl x0 (fun _=>Ah rfl)<|Rv 7 p0 rfl x0 (fun _=>Ah rfl)<|bk h fun g0 j4 h=>?_
 obtain ⟨R4,b5,y3,H3,B2,V3,K3⟩:=Bg A1 j4
 have z3:B2 = [vI g0]:=V3; subst z3
 refine Rv 8 p0 rfl x0 (fun _=>Bi 1 c0 rfl y3 rfl rfl H3)<|Rx 9 246784 p0 rfl x0 (AN rfl (K3 0 _ rfl))<|Rv 10 p0 rfl x0 (fun _=>FV.convU (i:=g0) underlying3 underlying28 rfl)<|Rv 11 p0 rfl x0 (fun _=>Ah rfl)<|Rv 12 p0 rfl x0 (fun _=>FV.remN (i:=c0) (j:=2) rfl rfl rfl)<|bk h fun C4 c4 h=>Rv 13 p0 rfl x0 (fun _=>FV.mulc (i:=32) (j:=((c0 % 2:Nat):Int)) rfl rfl c4)<|bk h fun s0 I3 h=>Rv 14 p0 rfl x0 (fun _=>FV.shlI (a:=ab g0) (i:=C4) rfl rfl I3)<|Rv 15 p0 rfl x0 (fun _=>FV.addU (a:=u0) (b:=shlU (ab g0) s0) rfl rfl) ?_
 have R5:=aK (p:=⟨c1,0,none⟩) (cs:=([H0,I0,J0,K0,M0,P0,Q0,R0]:List UInt64).map (fun z9:UInt64=>(vU z9:Value)) ++ []) (i:=c0 / 2) (Y0.memA .hd) (bG (fun z9:UInt64=>(vU z9:Value)) b1)
 refine Rv 16 p0 rfl x0 (fun _=>Bd (m:=1) (k:=c0 / 2) (len:=8) rfl rfl rfl rfl (aU b1 rfl))<|BB 17 262143 p0 rfl rfl .plain (Acts.storeArr (fun z9:UInt64=>(vU z9:Value)) (xs:=([H0,I0,J0,K0,M0,P0,Q0,R0]:List UInt64)) (pre:=[]) (post:=[]) (i:=c0 / 2) (m:=8) (x:=u0 + (shlU (ab g0) s0)) (old:=[vU H0,vU I0,vU J0,vU K0,vU M0,vU P0,vU Q0,vU R0]) (new' :=[vW ((au (c0 / 2) 0 (u0 + (shlU (ab g0) s0)) H0).toNat:Int),vW ((au (c0 / 2) 1 (u0 + (shlU (ab g0) s0)) I0).toNat:Int),vW ((au (c0 / 2) 2 (u0 + (shlU (ab g0) s0)) J0).toNat:Int),vW ((au (c0 / 2) 3 (u0 + (shlU (ab g0) s0)) K0).toNat:Int),vW ((au (c0 / 2) 4 (u0 + (shlU (ab g0) s0)) M0).toNat:Int),vW ((au (c0 / 2) 5 (u0 + (shlU (ab g0) s0)) P0).toNat:Int),vW ((au (c0 / 2) 6 (u0 + (shlU (ab g0) s0)) Q0).toNat:Int),vW ((au (c0 / 2) 7 (u0 + (shlU (ab g0) s0)) R0).toNat:Int)]) rfl rfl (aU b1 rfl) Y0 .hd rfl (eH _ _ _) rfl rfl (fun _=>⟨rfl,rfl⟩) rfl rfl) fun s6 P2 Z2=>AR (dk p0)<|Aw<|Am<|Ac rfl<|Ab (Bf (i:=c0) (j:=1) rfl rfl (by omega))<|Af rfl<|Aa<|F2 (c0 + 1,au (c0 / 2) 0 (u0 + (shlU (ab g0) s0)) H0,au (c0 / 2) 1 (u0 + (shlU (ab g0) s0)) I0,au (c0 / 2) 2 (u0 + (shlU (ab g0) s0)) J0,au (c0 / 2) 3 (u0 + (shlU (ab g0) s0)) K0,au (c0 / 2) 4 (u0 + (shlU (ab g0) s0)) M0,au (c0 / 2) 5 (u0 + (shlU (ab g0) s0)) P0,au (c0 / 2) 6 (u0 + (shlU (ab g0) s0)) Q0,au (c0 / 2) 7 (u0 + (shlU (ab g0) s0)) R0) P2 (Tt M1 Z2) h
 refine AV rfl ?_
 have h:=E3 _ h
 try dsimp only at h
 refine Ae<|Ab (AK rfl (Y0.memA .hd))<|AX [vU H0,vU I0,vU J0,vU K0,vU M0,vU P0,vU Q0,vU R0] Y0 .t1 (aq rfl) fun t6 H1 D5=>Af rfl<|Aa<|Ak rfl<|Ar hb0 func156 rfl (.cons (.many (cs:=[vU H0,vU I0,vU J0,vU K0,vU M0,vU P0,vU Q0,vU R0]) rfl rfl (H1.memA .t1)) (.cons (.tmp rfl) .nil)) rfl ?_
 cases h
 exact H1.gv
 intro V4 E1 h
 try dsimp only at h
 refine MX.ifb rfl h (fun v2 h=>?_) (fun v2 h=>?_)
 refine Ae<|bk h fun H6 s4 h=>RG.doesH .plain rfl (Does.mkH (α:=Int) (L:=L) s4 y0 ay rfl (fun _ _=>rfl)) fun D4 u6 ⟨q5,p1,b3,R1⟩=>Af rfl<|Aa<|Ae<|Ac rfl<|bk h fun I4 k4 h=>?_
 obtain ⟨g2,d5,x1,Z1,C2,W3,U5⟩:=St.nth (α:=Int) p1 .hd R1 k4
 obtain ⟨p2,g5,V1⟩:=BL (α:=Int) p1 .hd Z1
 obtain rfl:g2 = ⟨p2,0,none⟩:=by rw [V1] at x1; cases x1; rfl
 have A3:C2 = [vI I4]:=W3; subst A3
 refine Ab (Bi 1 16 rfl x1 rfl rfl Z1)<|bk h fun K4 t4 h=>RG.acts' .plain (Acts.set (α:=Int) (i:=16) t4 p1 V1 (fun _=>.hd) R1 rfl rfl rfl rfl rfl rfl) fun v6 ⟨s5,q1,c3,s3⟩=>Aa<|Am<|Ac rfl<|Ac rfl ?_
 have g1:=Bq q1 .hd
 have d3:=Br q1 .hd
 refine bk h fun P4 y4 h=>jE (bd 180) rfl (e2 rfl rfl) (fun w9 hw9=>al_c n (g1.hL hL hw9) (Av (Bs (α:=Int) (v:=D4) (xs:=K4) g1 L (Ba (α:=Int) q1 .hd s3 hL)) hw9) (g1.km h0_1 hw9) y4) rfl fun x6 F4 p3 ⟨Z5,hu_,X3⟩=>?_
 subst hu_
 obtain ⟨Q2,g3⟩:=g1.agr p3
 refine Af rfl<|Aa ?_
 obtain ⟨R2,P1⟩:=AH Q2 (.a1 .done)
 exact E1 (P4,F4) R2 (Tt b3 (Tt c3 (Tt d3 (Tt g3 P1)))) (Aq X3 P1) h
 refine Ap ?_
 obtain ⟨I1,j3⟩:=AH y0 (.a1 .done)
 exact E1 (a0.fD,v0_1) I1 j3 (AM h0_1 I1) h
structure Tg where
  fN:Td
  fD:Td
  deriving DecidableEq
instance:Rep Tg:=Rep.via (β:=Td × Td) fun x=>(x.fN,x.fD)
def bC_p (n:Nat) (a0:Tg):Option (Tb × Int):=
  (aI_p n a0.fN).bind fun b0=>(aI_p n a0.fD).bind fun c0=>(if b0.2 = 0 then (if c0.2 = 0 then some ((⟨b0.1,c0.1⟩:Tb),(0:Int)) else some ((⟨(0,0,0,0,0,0,0,0),(0,0,0,0,0,0,0,0)⟩:Tb),(6:Int))) else some ((⟨(0,0,0,0,0,0,0,0),(0,0,0,0,0,0,0,0)⟩:Tb),(6:Int)))
theorem bC_c (n:Nat) {L w} (hL:hl L w) (a0:Tg) {v0_1:Value} (h0_1:Rep.R w L [v0_1] a0.fN.fD) {v0_3:Value} (h0_3:Rep.R w L [v0_3] a0.fD.fD)  {r:Tb × Int} (h:bC_p n a0 = some r) :
 Cl 115 #[.agg #[.bool a0.fN.fc,v0_1,.bool a0.fD.fc,v0_3]] w (ae w fun _ u=>u = .tuple #[.agg ((ac r.1)).toArray,vI r.2]):=by
 unfold bC_p at h
 refine AF func115 rfl rfl rfl fun _ cs0 hb0=>Ae<|RG.bx (AC w) rfl rfl fun R0 B0 v0 F0=>RG.nl zL v0 fun U0 C0 g0 G0=>Af rfl<|Aa<|Ae<|AT 0 rfl<|Ab (Bo (cs:=[.bool a0.fN.fc,v0_1]) rfl rfl (ai (g0.memA .t1) 0 2))<|bk h fun b0 z0 h=>Bk (.tuple #[.agg ((ak b0.1)).toArray,vI b0.2]) (bd 156) rfl (e1 rfl) (fun w9 hw9=>aI_c n (g0.hL0 hL hw9) a0.fN (g0.k0 h0_1 hw9) z0) rfl<|Ac rfl<|Ab (Aj rfl rfl)<|Ab (Aj rfl rfl)<|RG.nl zP g0 fun V0 D0 x0 H0=>AX (ak b0.1) x0 .hd (aq rfl) fun W0 j0 I0=>Af rfl<|Aa<|Ae<|AT 2 rfl<|Ab (Bo (cs:=[.bool a0.fD.fc,v0_3]) rfl rfl (ai (j0.memA .t2) 2 2))<|bk h fun c0 A0 h=>Bk (.tuple #[.agg ((ak c0.1)).toArray,vI c0.2]) (bd 156) rfl (e1 rfl) (fun w9 hw9=>aI_c n (j0.hL0 hL hw9) a0.fD (j0.k0 h0_3 hw9) A0) rfl<|Ac rfl<|Ab (Aj rfl rfl)<|Ab (Aj rfl rfl)<|RG.nl zP j0 fun X0 E0 y0 J0=>AX (ak c0.1) y0 .hd (aq rfl) fun Y0 d0 K0=>Af rfl<|Aa<|Ai<|Ae<|Ac rfl<|Ab (FV.neq (i:=b0.2) (j:=0) rfl rfl) ?_
 refine Ac rfl<|RG.ifn (s:=22) rfl h (fun t0 h=>?_) (fun t0 h=>?_)
 refine Az (Ah rfl)<|Az (FV.neq (i:=c0.2) (j:=0) rfl rfl)<|Bn rfl rfl<|Aa<|MX.ifn rfl h (fun u0 h=>?_) (fun u0 h=>?_)
 refine Ap<|Ae<|Ab (AK rfl (d0.memA .t1))<|Ab (AK rfl (d0.memA .hd))<|Ab (AU (vs:=[.agg ((ak b0.1)).toArray,.agg ((ak c0.1)).toArray]) (u:=.agg ((ak b0.1 ++ ak c0.1)).toArray) (e2 rfl rfl) (fun w9=>by kernel_rfl))<|AX (ak b0.1 ++ ak c0.1) d0 .t2 (aq rfl) fun Z0 p0 M0=>Af rfl<|Aa<|Ak rfl<|Ar hb0 func115 rfl (.cons (.many (cs:=(ak b0.1 ++ ak c0.1)) rfl rfl (p0.memA .t2)) (.cons (.tmp rfl) .nil)) rfl ?_
 cases h
 exact p0.gv
 refine Ae<|Ab (AU (vs:=[]) (u:=.agg zM) am (fun w9=>by kernel_rfl))<|AX zL d0 .t2 (aq rfl) fun b1 q0 P0=>Af rfl<|Aa<|Ak rfl<|Ar hb0 func115 rfl (.cons (.many (cs:=zL) rfl rfl (q0.memA .t2)) (.cons (.tmp rfl) .nil)) rfl ?_
 cases h
 exact q0.gv
 refine Al<|Al<|Bl rfl rfl<|Aa<|AZ rfl<|Ae<|Ab (AU (vs:=[]) (u:=.agg zM) am (fun w9=>by kernel_rfl))<|AX zL d0 .t2 (aq rfl) fun c1 s0 Q0=>Af rfl<|Aa<|Ak rfl<|Ar hb0 func115 rfl (.cons (.many (cs:=zL) rfl rfl (s0.memA .t2)) (.cons (.tmp rfl) .nil)) rfl ?_
 cases h
 exact s0.gv

def bA_l1 (_n:Nat) (a0:List Int) (j0:Int × Nat × (List Int) -> Option ((List Int) × Int)):Int × Nat × (List Int) -> Option ((List Int) × Int)
  | (g0,b0,d0)=>(if b0 < a0.length then (a0[b0]?).bind fun s0=>(chk (2 * s0)).bind fun k0=>(chk (k0 + g0)).bind fun c0=>(bH c0 4294967296).bind fun p0=>(app d0 ([p0]:List Int)).bind fun t0=>(cG c0 4294967296).bind fun q0=>j0 (q0,b0 + 1,t0) else some (d0,g0))
def bA_p (n:Nat) (a0:List Int) (a1:Int):Option (List Int):=
  Option.bind (ah (bA_l1 n a0) n (a1,0,([]:List Int))) (fun (c0,g0)=>(app c0 ([g0]:List Int)).bind fun b0=>(az_p n b0).bind fun d0=>some d0)
theorem bA_c (n:Nat) {L w} (hL:hl L w) {a0:List Int} {v0_0:Value} (h0_0:Rep.R w L [v0_0] a0) {a1:Int}  {r:List Int} (h:bA_p n a0 a1 = some r) :
 Cl 198 #[v0_0,vI a1] w (ae w fun w' u=>∃ v0_0:Value,u = v0_0/\Rep.R w' L [v0_0] r):=by
 unfold bA_p at h
 have hS0:=AC w
 refine AF func198 rfl rfl rfl fun _ cs0 hb0=>Ae<|Af rfl<|Aa<|Ae<|Af rfl<|Aa<|Ai<|Ae<|Af rfl<|Aa<|Au ?_
 have x0:=hS0.nilRow 3 (Rep.size Int)
 have P1:=BJ hS0 3 (Rep.size Int)
 obtain ⟨W1,c1,Y0⟩:=ao h
 refine MX.lf (α:=Int × Nat × (List Int) × Value × (List Value)) (fun ⟨b0,c0,d0,k0,g0⟩=>[(0,v0_0),(1,vI b0),(5,k0),(6,vI ((c0:Nat):Int))]) (fun ⟨b0,c0,d0,k0,g0⟩=>[rr w 3 Int k0 d0.length g0]) (fun ⟨b0,c0,d0,k0,g0⟩ D0=>Cells D0 (bl [rr w 3 Int k0 d0.length g0] ++ L) g0 d0) (fun ⟨b0,c0,d0,k0,g0⟩=>(b0,c0,d0)) (a1,0,([]:List Int),vN,[]) c1 x0 (AB (cs:=[]) (xs:=([]:List Int)) x0 L (AG _ _)) ?_
 rintro H1 ⟨b0,c0,d0,k0,g0⟩ D0 I0 u0 Q0 B0 h
 unfold bA_l1 at h
 try dsimp only at h
 refine Ai<|Ae<|Ac rfl<|Ac rfl ?_
 have v0:=AM h0_0 u0
 have V1:a0.length <= 281474976710656:=AS v0
 refine Ab (AW (xs:=a0) underlying52 rfl v0)<|Ab (Bj (i:=c0) (j:=a0.length) rfl rfl)<|Aa<|AO rfl h (fun F0 h=>?_) (fun F0 h=>?_)
 refine Ap<|Ai<|Au<|Ae<|Ac rfl<|Ac rfl<|bk h fun E0 u1 h=>?_
 obtain ⟨G1,K1,W0,Z0,G0,g1,b1⟩:=Bg v0 u1
 have X0:G0 = [vI E0]:=g1; subst X0
 refine Ab (Bi 1 c0 rfl W0 rfl rfl Z0)<|AL rfl (b1 0 _ rfl)<|bk h fun z1 k1 h=>Ab (FV.mulc (i:=2) (j:=E0) rfl rfl k1)<|Ac rfl<|bk h fun C0 p1 h=>Ab (BE (i:=z1) (j:=b0) rfl rfl p1)<|Af rfl<|Aa<|Ae<|Ac rfl<|Ac rfl<|bk h fun j0 q1 h=>Ab (FV.remc (i:=C0) (j:=4294967296) rfl rfl q1)<|Ao .plain rfl (jA j0 (vI j0) u0 ay (e1 rfl)) fun Y1 I1 p0 z0=>bk h fun E1 v1 h=>BR .plain rfl (Bh (α:=Int) (ys:=([j0]:List Int)) v1 p0 (fun _ _=>.t1) ay rfl rfl (Ay B0 z0) (BN (α:=Int) p0 .hd (jC j0 (vI j0) p0 L rfl))) fun B1 Z1 ⟨H0,J0,M0,U0⟩=>Af rfl<|Aa<|Am<|Ac rfl<|bk h fun A1 s1 h=>Ab (FV.quoc (i:=C0) (j:=4294967296) rfl rfl s1)<|Af rfl<|Aa<|Aw<|Am<|Ac rfl<|Ab (Bf (i:=c0) (j:=1) rfl rfl (by omega))<|Af rfl<|Aa ?_
 obtain ⟨K0,A0⟩:=AH J0 .d1
 exact I0 (A1,c0 + 1,E1,B1,H0) K0 (Tt Q0 (Tt z0 (Tt M0 A0))) (Ay U0 A0) h
 refine AV rfl ?_
 have h:=Y0 _ h
 try dsimp only at h
 refine Ae<|Ac rfl<|Ac rfl<|Ao .plain rfl (jA b0 (vI b0) u0 ay (e1 rfl)) fun b2 J1 q0 P0=>bk h fun F1 x1 h=>BR .plain rfl (Bh (α:=Int) (ys:=([b0]:List Int)) x1 q0 (fun _ _=>.t1) ay rfl rfl (Ay B0 P0) (BN (α:=Int) q0 .hd (jC b0 (vI b0) q0 L rfl))) fun C1 c2 ⟨M1,s0,Q1,V0⟩=>?_
 have t0:=Bq s0 .t1
 have R1:=Br s0 .t1
 refine bk h fun g2 y1 h=>jE (bd 181) rfl (e1 rfl) (fun w9 hw9=>az_c n (t0.hL hL hw9) (Av (Bs (α:=Int) (v:=C1) (xs:=F1) t0 L (Ba (α:=Int) s0 .t1 V0 hL)) hw9) y1) rfl fun d2 D1 R0 ⟨X1,hu_,j1⟩=>?_
 subst hu_
 obtain ⟨y0,U1⟩:=t0.agr R0
 refine Af rfl<|Aa<|Ak rfl<|AQ hb0 func198 rfl rfl ?_
 cases h
 exact ⟨y0.ag,fun w9 hw9=>⟨D1,rfl,y0.kd j1 hw9⟩⟩
def aB_l1 (n:Nat) (a0:List Int) (g0:Int) (a1:List Int) (p0:(List Int) × Int × (List Int) -> Option ((List Int) × (List Int))):(List Int) × Int × (List Int) -> Option ((List Int) × (List Int))
  | (k0,c0,b0)=>(if 0 <= c0 then (idx a0 g0).bind fun x0=>(aT c0).bind fun q0=>(bH (shrS x0 q0) 2).bind fun t0=>(bA_p n k0 t0).bind fun d0=>(aQ_p n d0 a1).bind fun C0=>jn (fun (z0,A0)=>(chk (c0 - 1)).bind fun u0=>p0 (z0,u0,A0)) (fun j0=>(if 0 <= C0 then (al_p n d0 a1).bind fun D0=>(idx b0 g0).bind fun y0=>(aT c0).bind fun s0=>(chk (y0 + (shlS 1 s0))).bind fun v0=>(put b0 ((g0.toNat:Nat):Int) v0).bind fun B0=>j0 (D0,B0) else j0 (d0,b0))) else some (k0,b0))
def aB_l2 (n:Nat) (a0:List Int) (a1:List Int) (g0:(List Int) × Int × (List Int) -> Option ((List Int) × (List Int))):(List Int) × Int × (List Int) -> Option ((List Int) × (List Int))
  | (c0,b0,d0)=>(if 0 <= b0 then Option.bind (ah (aB_l1 n a0 b0 a1) n (c0,31,d0)) (fun (k0,p0)=>(chk (b0 - 1)).bind fun j0=>g0 (k0,j0,p0)) else some (d0,c0))
def aB_p (n:Nat) (a0:List Int) (a1:List Int):Option ((List Int) × (List Int)):=
  (if ((a0.length:Nat):Int) <= (((a1.length:Nat):Int) - 1) then (app ([]:List Int) a0).bind fun g0=>some (([]:List Int),g0) else (mk (((a0.length:Nat):Int) - (((a1.length:Nat):Int) - 1)) (0:Int)).bind fun b0=>(cut a0 (((a0.length:Nat):Int) - (((a1.length:Nat):Int) - 1)) (a0.length:Int)).bind fun j0=>(app ([]:List Int) j0).bind fun k0=>Option.bind (ah (aB_l2 n a0 a1) n (k0,((b0.length:Nat):Int) - 1,b0)) (fun (d0,c0)=>(az_p n d0).bind fun p0=>some (p0,c0)))
theorem aB_c (n:Nat) {L w} (hL:hl L w) {a0:List Int} {v0_0:Value} (h0_0:Rep.R w L [v0_0] a0) {a1:List Int} {v1_0:Value} (h1_0:Rep.R w L [v1_0] a1)  {r:(List Int) × (List Int)} (h:aB_p n a0 a1 = some r) :
 Cl 182 #[v0_0,v1_0] w (ae w fun w' u=>∃ v0_0 v1_0:Value,u = .tuple #[v0_0,v1_0]/\Rep.R w' L [v0_0] r.1/\Rep.R w' L [v1_0] r.2):=by
 unfold aB_p at h
 have hS0:=AC w
 refine AF func182 rfl rfl rfl fun _ cs0 hb0=>Ae<|Af rfl<|Af rfl<|Aa<|Ae<|Ac rfl ?_
 have hl1:a1.length <= 281474976710656:=AS h1_0
 refine Ab (AW (xs:=a1) underlying52 rfl h1_0)<|Ab (FV.subI (i:=((a1.length:Nat):Int)) (j:=1) rfl rfl (by omega))<|Af rfl<|Aa<|Ai<|Ae<|Ac rfl ?_
 have hl2:a0.length <= 281474976710656:=AS h0_0
 refine Ab (AW (xs:=a0) underlying52 rfl h0_0)<|Ac rfl<|Ab (FV.leq (i:=((a0.length:Nat):Int)) (j:=((a1.length:Nat):Int) - 1) rfl rfl)<|Aa<|AO rfl h (fun c3 h=>?_) (fun c3 h=>?_)
 refine Ae<|Ao .plain rfl (jB Int hS0 ay) fun C4 V3 M0 g4=>Ac rfl<|bk h fun G3 p3 h=>BR .plain rfl (Bh (α:=Int) (ys:=a0) p3 M0 (fun _ _=>.hd) ay rfl rfl (jD Int M0 L) (Src.rep (AM h0_0 M0))) fun D1 H4 ⟨c4,J0,j4,u2⟩=>Af rfl<|Af rfl<|Aa<|Ak rfl ?_
 have s4:=Rep.nilAt (α:=Int) J0 L
 have E0:=Bq J0 .hd
 have k4:=Br J0 .hd
 have V2:=Bs (α:=Int) (v:=D1) (xs:=G3) E0 L (Ba (α:=Int) J0 .hd u2 hL)
 refine Ar hb0 func182 rfl (.cons (.tmp rfl) (.cons (.tmp rfl) .nil)) rfl ?_
 cases h
 exact ⟨E0.ag,fun w9 hw9=>⟨vN,D1,rfl,E0.kd (Rep.nilAt (α:=Int) E0 L) hw9,E0.kd V2 hw9⟩⟩
 refine Ap<|Ae<|Ac rfl<|Ab (AW (xs:=a0) underlying52 rfl h0_0)<|Ac rfl<|Ab (FV.subI (i:=((a0.length:Nat):Int)) (j:=((a1.length:Nat):Int) - 1) rfl rfl (by omega))<|bk h fun G0 C1 h=>Ao .plain rfl (Does.mk (α:=Int) C1 hS0 ay rfl) fun I4 c0 j1 p4=>Af rfl<|Aa<|Ae<|Ao .plain rfl (jB Int j1 ay) fun J4 W3 U0 g2=>Ac rfl<|Ac rfl ?_
 have z1:=AM h0_0 U0
 refine Ab (AW (xs:=a0) underlying52 rfl z1)<|Ac rfl<|Ab (FV.subI (i:=((a0.length:Nat):Int)) (j:=((a1.length:Nat):Int) - 1) rfl rfl (by omega))<|bk h fun I3 s3 h=>RG.valE .plain rfl (FV.cutL (α:=Int) s3 rfl rfl z1 ⟨_,rfl⟩ rfl) fun B4 W2=>bk h fun G1 t3 h=>BR .plain rfl (Bh (α:=Int) (ys:=I3) t3 U0 (fun _ _=>.hd) ay rfl rfl (jD Int U0 L) (Src.rep W2)) fun E1 K4 ⟨d4,F0,j2,v2⟩=>Af rfl<|Aa<|Ai<|Ae<|Ac rfl ?_
 have q4:G0.length <= 4294967296:=St.rowLe (α:=Int) F0 .t1
 obtain ⟨P3,b4,A2⟩:=St.rowV (α:=Int) F0 .t1
 refine Ab (FV.lenV underlying52 rfl A2)<|Ab (FV.subI (i:=((G0.length:Nat):Int)) (j:=1) rfl rfl (by omega))<|Af rfl<|Aa<|Au ?_
 have k1:=Bq F0 .hd
 obtain ⟨t4,J2,B2⟩:=ao h
 refine MX.lf (α:=(List Int) × Int × (List Int) × Value × (List Value)) (fun ⟨B0,b0,g0,y0,u0⟩=>[(0,v0_0),(1,v1_0),(7,(.slice (some ⟨c0,0,none⟩) (((a0.length:Nat):Int) - (((a1.length:Nat):Int) - 1)).toNat (((a0.length:Nat):Int) - (((a1.length:Nat):Int) - 1)).toNat)),(8,y0),(9,vI b0)]) (fun ⟨B0,b0,g0,y0,u0⟩=>[rr w 3 Int (.slice (some ⟨c0,0,none⟩) (((a0.length:Nat):Int) - (((a1.length:Nat):Int) - 1)).toNat (((a0.length:Nat):Int) - (((a1.length:Nat):Int) - 1)).toNat) g0.length u0]) (fun ⟨B0,b0,g0,y0,u0⟩ Z0=>Rep.R Z0 (bl [rr w 3 Int (.slice (some ⟨c0,0,none⟩) (((a0.length:Nat):Int) - (((a1.length:Nat):Int) - 1)).toNat (((a0.length:Nat):Int) - (((a1.length:Nat):Int) - 1)).toNat) g0.length u0] ++ L) [y0] B0/\Cells Z0 (bl [rr w 3 Int (.slice (some ⟨c0,0,none⟩) (((a0.length:Nat):Int) - (((a1.length:Nat):Int) - 1)).toNat (((a0.length:Nat):Int) - (((a1.length:Nat):Int) - 1)).toNat) g0.length u0] ++ L) u0 g0) (fun ⟨B0,b0,g0,y0,u0⟩=>(B0,b0,g0)) (G1,((G0.length:Nat):Int) - 1,G0,E1,(List.replicate (((a0.length:Nat):Int) - (((a1.length:Nat):Int) - 1)).toNat [vI 0]).flatten) J2 k1 ⟨(Bs (α:=Int) (v:=E1) (xs:=G1) k1 L (Ba (α:=Int) F0 .hd v2 hL)),(Ay (AB (cs:=(List.replicate (((a0.length:Nat):Int) - (((a1.length:Nat):Int) - 1)).toNat [vI 0]).flatten) (xs:=G0) j1 L (Cells.mk C1 rfl)) (Tt g2 (Tt j2 (Br F0 .hd))))⟩ ?_
 rintro Q3 ⟨B0,b0,g0,y0,u0⟩ Z0 V1 H0 Z1 ⟨A1,u1⟩ h
 unfold aB_l2 at h
 try dsimp only at h
 refine Ai<|Ae<|Ac rfl<|Ab (FV.geq (i:=b0) (j:=0) rfl rfl)<|Aa<|AO rfl h (fun K1 h=>?_) (fun K1 h=>?_)
 refine Ap<|Ai<|Au<|Ae<|Af rfl<|Aa<|Au ?_
 obtain ⟨u4,K2,C2⟩:=ao h
 refine MX.lf (α:=(List Int) × Int × (List Int) × Value × (List Value)) (fun ⟨C0,p0,j0,z0,q0⟩=>[(0,v0_0),(1,v1_0),(7,(.slice (some ⟨c0,0,none⟩) (((a0.length:Nat):Int) - (((a1.length:Nat):Int) - 1)).toNat (((a0.length:Nat):Int) - (((a1.length:Nat):Int) - 1)).toNat)),(8,z0),(9,vI b0),(10,vI p0)]) (fun ⟨C0,p0,j0,z0,q0⟩=>[rr w 3 Int (.slice (some ⟨c0,0,none⟩) (((a0.length:Nat):Int) - (((a1.length:Nat):Int) - 1)).toNat (((a0.length:Nat):Int) - (((a1.length:Nat):Int) - 1)).toNat) j0.length q0]) (fun ⟨C0,p0,j0,z0,q0⟩ b1=>Rep.R b1 (bl [rr w 3 Int (.slice (some ⟨c0,0,none⟩) (((a0.length:Nat):Int) - (((a1.length:Nat):Int) - 1)).toNat (((a0.length:Nat):Int) - (((a1.length:Nat):Int) - 1)).toNat) j0.length q0] ++ L) [z0] C0/\Cells b1 (bl [rr w 3 Int (.slice (some ⟨c0,0,none⟩) (((a0.length:Nat):Int) - (((a1.length:Nat):Int) - 1)).toNat (((a0.length:Nat):Int) - (((a1.length:Nat):Int) - 1)).toNat) j0.length q0] ++ L) q0 j0) (fun ⟨C0,p0,j0,z0,q0⟩=>(C0,p0,j0)) (B0,31,g0,y0,u0) K2 H0 ⟨A1,u1⟩ ?_
 rintro R3 ⟨C0,p0,j0,z0,q0⟩ b1 W1 I0 p1 ⟨B1,W0⟩ h
 unfold aB_l1 at h
 try dsimp only at h
 refine Ai<|Ae<|Ac rfl<|Ab (FV.geq (i:=p0) (j:=0) rfl rfl)<|Aa<|AO rfl h (fun M1 h=>?_) (fun M1 h=>?_)
 refine Ap<|Ai<|Au<|Ae<|Ac rfl<|Ac rfl<|Ac rfl<|bk h fun d1 d3 h=>?_
 obtain ⟨D2,g3⟩:=aG d3
 obtain ⟨M3,X3,x2,E2,Q1,M2,H2⟩:=Bg (AM h0_0 I0) g3
 have y2:Q1 = [vI d1]:=M2; subst y2
 refine Ab (Bi 1 (b0.toNat) rfl x2 rfl D2 E2)<|AL rfl (H2 0 _ rfl)<|Ac rfl<|bk h fun z3 F2 h=>Ab (FV.shrSI (i:=d1) (q:=p0) rfl rfl F2)<|bk h fun v4 X2 h=>Ab (FV.remc (i:=shrS d1 z3) (j:=2) rfl rfl X2)<|bk h fun J3 u3 h=>jE (bd 198) rfl (e2 rfl rfl) (fun w9 hw9=>bA_c n (I0.hL hL hw9) (Av B1 hw9) u3) rfl fun D4 D3 k2 ⟨y4,hu_,Y0⟩=>?_
 subst hu_
 obtain ⟨x0,V0⟩:=I0.agr k2
 refine Af rfl<|Aa<|Ae<|Ac rfl<|Ac rfl<|bk h fun H1 v3 h=>Bk (vI H1) (bd 183) rfl (e2 rfl rfl) (fun w9 hw9=>aQ_c n (x0.hL0 hL hw9) (x0.kd Y0 hw9) (x0.k0 h1_0 hw9) v3) rfl<|Ab (FV.geq (i:=H1) (j:=0) rfl rfl)<|Aa<|MX.jf (α:=(List Int) × (List Int) × Value × (List Value)) (fun ⟨D0,t0,A0,v0⟩=>[(0,v0_0),(1,v1_0),(7,(.slice (some ⟨c0,0,none⟩) (((a0.length:Nat):Int) - (((a1.length:Nat):Int) - 1)).toNat (((a0.length:Nat):Int) - (((a1.length:Nat):Int) - 1)).toNat)),(8,A0),(9,vI b0),(10,vI p0)]) (fun ⟨D0,t0,A0,v0⟩=>[rr w 3 Int (.slice (some ⟨c0,0,none⟩) (((a0.length:Nat):Int) - (((a1.length:Nat):Int) - 1)).toNat (((a0.length:Nat):Int) - (((a1.length:Nat):Int) - 1)).toNat) t0.length v0]) (fun ⟨D0,t0,A0,v0⟩ c1=>Rep.R c1 (bl [rr w 3 Int (.slice (some ⟨c0,0,none⟩) (((a0.length:Nat):Int) - (((a1.length:Nat):Int) - 1)).toNat (((a0.length:Nat):Int) - (((a1.length:Nat):Int) - 1)).toNat) t0.length v0] ++ L) [A0] D0/\Cells c1 (bl [rr w 3 Int (.slice (some ⟨c0,0,none⟩) (((a0.length:Nat):Int) - (((a1.length:Nat):Int) - 1)).toNat (((a0.length:Nat):Int) - (((a1.length:Nat):Int) - 1)).toNat) t0.length v0] ++ L) v0 t0) (fun ⟨D0,t0,A0,v0⟩=>(D0,t0)) x0 h ?_ ?_
 rintro ⟨D0,t0,A0,v0⟩ c1 X1 b2 ⟨P2,s2⟩ h
 try dsimp only at h
 refine Aw<|Am<|Ac rfl<|bk h fun B3 Y2 h=>Ab (FV.subc (i:=p0) (j:=1) rfl rfl Y2)<|Af rfl<|Aa<|W1 (D0,B3,t0,A0,v0) X1 (Tt p1 (Tt V0 b2)) ⟨P2,s2⟩ h
 intro U3 g1 h
 try dsimp only at h
 refine AO rfl h (fun P1 h=>?_) (fun P1 h=>?_)
 refine Ae<|Ac rfl<|Ac rfl<|bk h fun K3 x3 h=>jE (bd 180) rfl (e2 rfl rfl) (fun w9 hw9=>al_c n (x0.hL hL hw9) (Av Y0 hw9) (x0.km h1_0 hw9) x3) rfl fun E4 E3 p2 ⟨z4,hu_,Q2⟩=>?_
 subst hu_
 obtain ⟨P0,q1⟩:=x0.agr p2
 refine Af rfl<|Aa<|du 10 fun d0 s0=>Rv 0 d0 rfl s0 (fun _=>Ah rfl)<|Rv 1 d0 rfl s0 (fun _=>Ah rfl)<|Rv 2 d0 rfl s0 (fun _=>Ah rfl)<|Rv 3 d0 rfl s0 (fun _=>Ah rfl)<|bk h fun F1 j3 h=>?_
 obtain ⟨x1,k3⟩:=aG j3
 have y1:=Ay W0 (Tt V0 q1)
 obtain ⟨I1,Y3,K0,X0,R1,R2,I2⟩:=St.nth (α:=Int) P0 .hd y1 k3
 obtain ⟨J1,Z3,v1⟩:=BL (α:=Int) P0 .hd X0
 obtain rfl:I1 = ⟨J1,0,none⟩:=by rw [v1] at K0; cases K0; rfl
 have z2:R1 = [vI F1]:=R2; subst z2
 refine Rv 4 d0 rfl s0 (fun _=>Bi 1 (b0.toNat) rfl K0 rfl x1 X0)<|Rx 5 1792 d0 rfl s0 (AN rfl (I2 0 _ rfl))<|Rv 6 d0 rfl s0 (fun _=>Ah rfl)<|bk h fun A3 G2 h=>Rv 7 d0 rfl s0 (fun _=>FV.shlSI (i:=1) (q:=p0) rfl rfl G2)<|bk h fun x4 Z2 h=>Rv 8 d0 rfl s0 (fun _=>BE (i:=F1) (j:=shlS 1 A3) rfl rfl Z2)<|Rv 9 d0 rfl s0 (fun _=>Bi 1 (b0.toNat) rfl K0 rfl x1 X0)<|bk h fun H3 q3 h=>BS (i:=10) (rk d0) (RO.acts (m' :=2047) (sk d0) rfl rfl .plain (Acts.set (α:=Int) (i:=b0.toNat) q3 P0 v1 (fun _=>.hd) y1 rfl rfl rfl rfl rfl rfl) (fun F4 ⟨U1,Y1,s1,t2⟩=>?_))
 refine AR (dk d0)<|g1 (K3,H3,E3,U1) Y1 (Tt q1 s1) ⟨(Aq Q2 s1),t2⟩ h
 refine Ap<|g1 (J3,j0,D3,q0) x0 (Bw _ _) ⟨Y0,(Ay W0 V0)⟩ h
 refine AV rfl ?_
 have h:=C2 _ h
 try dsimp only at h
 refine Aw<|Am<|Ac rfl<|bk h fun C3 b3 h=>Ab (FV.subc (i:=b0) (j:=1) rfl rfl b3)<|Af rfl<|Aa<|V1 (C0,C3,j0,z0,q0) I0 (Tt Z1 p1) ⟨B1,W0⟩ h
 refine AV rfl ?_
 have h:=B2 _ h
 try dsimp only at h
 refine Ae<|Ac rfl ?_
 have Q0:=Bq H0 .hd
 have c2:=Br H0 .hd
 refine bk h fun M4 y3 h=>jE (bd 181) rfl (e1 rfl) (fun w9 hw9=>az_c n (Q0.hL hL hw9) (Av (Bs (α:=Int) (v:=(.slice (some ⟨c0,0,none⟩) (((a0.length:Nat):Int) - (((a1.length:Nat):Int) - 1)).toNat (((a0.length:Nat):Int) - (((a1.length:Nat):Int) - 1)).toNat)) (xs:=g0) Q0 L (Ba (α:=Int) H0 .hd u1 hL)) hw9) y3) rfl fun G4 F3 q2 ⟨A4,hu_,U2⟩=>?_
 subst hu_
 obtain ⟨R0,d2⟩:=Q0.agr q2
 refine Ac rfl<|Af rfl<|Af rfl<|Aa<|Ak rfl<|Ar hb0 func182 rfl (.cons (.tmp rfl) (.cons (.tmp rfl) .nil)) rfl ?_
 cases h
 exact ⟨R0.ag,fun w9 hw9=>⟨F3,y0,rfl,R0.kd U2 hw9,R0.kd (Aq A1 (Tt c2 d2)) hw9⟩⟩
def aU_l1 (n:Nat) (d0:(List Int) × (List Int) -> Option (List Int)):(List Int) × (List Int) -> Option (List Int)
  | (c0,b0)=>(if 0 < b0.length then (aB_p n c0 b0).bind fun g0=>d0 (b0,g0.2) else some c0)
def aU_p (n:Nat) (a0:Td) (a1:Td):Option Td:=
  Option.bind (ah (aU_l1 n) n (a0.fD,a1.fD)) (fun b0=>some (⟨false,b0⟩:Td))
theorem aU_c (n:Nat) {L w} (hL:hl L w) (a0:Td) {v0_1:Value} (h0_1:Rep.R w L [v0_1] a0.fD) (a1:Td) {v1_1:Value} (h1_1:Rep.R w L [v1_1] a1.fD)  {r:Td} (h:aU_p n a0 a1 = some r) :
 Cl 155 #[.agg #[.bool a0.fc,v0_1],.agg #[.bool a1.fc,v1_1]] w (ae w fun w' u=>∃ v0_1:Value,u = .agg #[.bool r.fc,v0_1]/\Rep.R w' L [v0_1] r.fD):=by
 unfold aU_p at h
 refine AF func155 rfl rfl rfl fun _ cs0 hb0=>Ae<|RG.bx (AC w) rfl rfl fun s1 W0 C0 Z0=>RG.bx C0 rfl rfl fun u1 X0 D0 b1=>RG.nl [.bool false,vN] D0 fun v1 p0 t0 c1=>Aa<|Ai<|du 6 fun d0 j0=>Rv 0 d0 rfl j0 (fun _=>Be 1 rfl)<|Rx 1 48 d0 rfl j0 (AN rfl ((t0.memA .t2) 1 _ rfl))<|Rv 2 d0 rfl j0 (fun _=>Be 1 rfl)<|Rx 3 32 d0 rfl j0 (AN rfl ((t0.memA .t1) 1 _ rfl))<|Rv 4 d0 rfl j0 (fun _=>Bm rfl)<|Rv 5 d0 rfl j0 (fun _=>Bm rfl)<|AR (dk d0)<|Ai<|Au ?_
 obtain ⟨u0,d1⟩:=AH t0 (.a0 .done)
 obtain ⟨k1,J0,I0⟩:=ao h
 refine MX.lf (α:=(List Int) × (List Int) × Value × Value) (fun ⟨k0,c0,b0,g0⟩=>[(4,vP p0),(5,b0),(6,g0)]) (fun ⟨k0,c0,b0,g0⟩=>[.cells p0 [.bool false,vN] 189]) (fun ⟨k0,c0,b0,g0⟩ y0=>Rep.R y0 (bl [.cells p0 [.bool false,vN] 189] ++ L) [b0] k0/\Rep.R y0 (bl [.cells p0 [.bool false,vN] 189] ++ L) [g0] c0) (fun ⟨k0,c0,b0,g0⟩=>(k0,c0)) (a0.fD,a1.fD,v0_1,v1_1) J0 u0 ⟨(AM h0_1 u0),(AM h1_1 u0)⟩ ?_
 rintro V0 ⟨k0,c0,b0,g0⟩ y0 B0 v0 F0 ⟨q0,s0⟩ h
 unfold aU_l1 at h
 try dsimp only at h
 refine Ai<|Ae<|Ac rfl ?_
 have g1:c0.length <= 281474976710656:=AS s0
 refine Ab (AW (xs:=c0) underlying52 rfl s0)<|Ab (FV.gtrN (i:=c0.length) (j:=0) rfl rfl)<|Aa<|AO rfl h (fun A0 h=>?_) (fun A0 h=>?_)
 refine Ap<|Au<|Ae<|Ac rfl<|Ac rfl<|bk h fun R0 P0 h=>jE (bd 182) rfl (e2 rfl rfl) (fun w9 hw9=>aB_c n (v0.hL hL hw9) (Av q0 hw9) (Av s0 hw9) P0) rfl fun x1 q1 H0 ⟨p1,Q0,hu_,j1,K0⟩=>?_
 subst hu_
 obtain ⟨E0,z0⟩:=v0.agr H0
 refine Ac rfl<|Ab (Aj rfl rfl)<|Ab (Aj rfl rfl)<|Af rfl<|Af rfl<|Aa<|Am<|Ac rfl<|Ac rfl<|Af rfl<|Af rfl<|Aa<|Aw<|B0 (c0,R0.2,g0,Q0) E0 (Tt F0 z0) ⟨(Aq s0 z0),K0⟩ h
 refine AV rfl ?_
 have h:=I0 _ h
 try dsimp only at h
 refine Ae<|Ac rfl ?_
 obtain ⟨U0,Y0,M0,_⟩:=BI q0
 refine Ab (AU (vs:=[b0]) (u:=.agg #[.bool false,b0]) (e1 rfl) (fun w9=>by rw [M0]; try kernel_rfl))<|AX [.bool false,b0] v0 .hd (o2 rfl (AY q0)) fun y1 x0 G0=>Aa<|Ak rfl<|Ar hb0 func155 rfl (.cons (.many (cs:=[.bool false,b0]) rfl rfl (x0.memA .hd)) .nil) rfl ?_
 cases h
 exact ⟨x0.ag,fun w9 hw9=>⟨b0,rfl,x0.kd (Aq q0 G0) hw9⟩⟩
def aa_p (n:Nat) (a0:Bool) (a1:List Int):Option Td:=
  (az_p n a1).bind fun b0=>(if a0 = true then some (⟨(decide (0 < b0.length)),b0⟩:Td) else some (⟨false,b0⟩:Td))
theorem aa_c (n:Nat) {L w} (hL:hl L w) {a0:Bool} {a1:List Int} {v1_0:Value} (h1_0:Rep.R w L [v1_0] a1)  {r:Td} (h:aa_p n a0 a1 = some r) :
 Cl 179 #[.bool a0,v1_0] w (ae w fun w' u=>∃ v0_1:Value,u = .agg #[.bool r.fc,v0_1]/\Rep.R w' L [v0_1] r.fD):=by
 unfold aa_p at h
 refine AF func179 rfl rfl rfl fun _ cs0 hb0=>Ae<|RG.nl [.bool false,vN] (AC w) fun I0 B0 g0 E0=>Aa<|Ae<|Ac rfl<|bk h fun d0 y0 h=>jE (bd 181) rfl (e1 rfl) (fun w9 hw9=>az_c n (g0.hL hL hw9) (g0.km h1_0 hw9) y0) rfl fun J0 b0 u0 ⟨H0,hu_,c0⟩=>?_
 subst hu_
 obtain ⟨p0,F0⟩:=g0.agr u0
 refine Af rfl<|Aa<|Ae<|Ac rfl<|Ac rfl<|RG.ifb (s:=8) rfl h (fun q0 h=>?_) (fun q0 h=>?_)
 refine Az (Ah rfl) ?_
 have G0:d0.length <= 281474976710656:=AS c0
 refine Az (AW (xs:=d0) underlying52 rfl c0)<|Az (FV.gtrN (i:=d0.length) (j:=0) rfl rfl)<|Bl rfl rfl<|Ac rfl ?_
 obtain ⟨z0,C0,v0,_⟩:=BI c0
 refine Ab (AU (vs:=[.bool (decide (0 < d0.length)),b0]) (u:=.agg #[.bool (decide (0 < d0.length)),b0]) (e2 rfl rfl) (fun w9=>by rw [v0]; try kernel_rfl))<|AX [.bool (decide (0 < d0.length)),b0] p0 .hd (o2 rfl (AY c0)) fun K0 j0 s0=>Aa<|Ak rfl<|Ar hb0 func179 rfl (.cons (.many (cs:=[.bool (decide (0 < d0.length)),b0]) rfl rfl (j0.memA .hd)) .nil) rfl ?_
 cases h
 exact ⟨j0.ag,fun w9 hw9=>⟨b0,rfl,j0.kd (Aq c0 s0) hw9⟩⟩
 refine Al<|Al<|Al<|Bn rfl rfl<|Ac rfl ?_
 obtain ⟨A0,D0,x0,_⟩:=BI c0
 refine Ab (AU (vs:=[.bool false,b0]) (u:=.agg #[.bool false,b0]) (e2 rfl rfl) (fun w9=>by rw [x0]; try kernel_rfl))<|AX [.bool false,b0] p0 .hd (o2 rfl (AY c0)) fun M0 k0 t0=>Aa<|Ak rfl<|Ar hb0 func179 rfl (.cons (.many (cs:=[.bool false,b0]) rfl rfl (k0.memA .hd)) .nil) rfl ?_
 cases h
 exact ⟨k0.ag,fun w9 hw9=>⟨b0,rfl,k0.kd (Aq c0 t0) hw9⟩⟩
def cj_p (n:Nat) (a0:Td):Option Td:=
  (aa_p n (!a0.fc) a0.fD).bind fun b0=>some b0
theorem cj_c (n:Nat) {L w} (hL:hl L w) (a0:Td) {v0_1:Value} (h0_1:Rep.R w L [v0_1] a0.fD)  {r:Td} (h:cj_p n a0 = some r) :
 Cl 184 #[.agg #[.bool a0.fc,v0_1]] w (ae w fun w' u=>∃ v0_1:Value,u = .agg #[.bool r.fc,v0_1]/\Rep.R w' L [v0_1] r.fD):=by
 unfold cj_p at h
 refine AF func184 rfl rfl rfl fun _ cs0 hb0=>Ae<|RG.bx (AC w) rfl rfl fun B0 u0 k0 x0=>RG.nl [.bool false,vN] k0 fun C0 v0 b0 y0=>Aa<|Ae<|AT 0 rfl<|AL rfl ((b0.memA .t1) 0 _ rfl)<|Ab (Bp rfl)<|AT 1 rfl<|AL rfl ((b0.memA .t1) 1 _ rfl)<|bk h fun j0 t0 h=>jE (bd 179) rfl (e2 rfl rfl) (fun w9 hw9=>aa_c n (b0.hL hL hw9) (b0.km h0_1 hw9) t0) rfl fun D0 A0 s0 ⟨d0,hu_,g0⟩=>?_
 subst hu_
 obtain ⟨p0,z0⟩:=b0.agr s0
 refine AX [.bool j0.fc,d0] p0 .hd (o2 rfl (AY g0)) fun E0 c0 q0=>Aa<|Ak rfl<|Ar hb0 func184 rfl (.cons (.many (cs:=[.bool j0.fc,d0]) rfl rfl (c0.memA .hd)) .nil) rfl ?_
 cases h
 exact ⟨c0.ag,fun w9 hw9=>⟨d0,rfl,c0.kd (Aq g0 q0) hw9⟩⟩
def bF_l1 (_n:Nat) (a0:List Int) (a1:List Int) (g0:Int × Int × (List Int) -> Option (List Int)):Int × Int × (List Int) -> Option (List Int)
  | (c0,b0,d0)=>(if b0 < ((a0.length:Nat):Int) then (idx a0 b0).bind fun C0=>(chk (c0 + C0)).bind fun k0=>jn (fun q0=>(bH q0 4294967296).bind fun s0=>(app d0 ([s0]:List Int)).bind fun F0=>(cG q0 4294967296).bind fun t0=>(chk (b0 + 1)).bind fun u0=>g0 (t0,u0,F0)) (fun j0=>(if b0 < ((a1.length:Nat):Int) then (idx a1 b0).bind fun D0=>(chk (k0 + D0)).bind fun v0=>j0 v0 else j0 k0)) else (if b0 < ((a1.length:Nat):Int) then (idx a1 b0).bind fun E0=>(chk (c0 + E0)).bind fun p0=>(bH p0 4294967296).bind fun x0=>(app d0 ([x0]:List Int)).bind fun G0=>(cG p0 4294967296).bind fun y0=>g0 (y0,b0 + 1,G0) else (if 0 < c0 then (bH c0 4294967296).bind fun z0=>(app d0 ([z0]:List Int)).bind fun H0=>(cG c0 4294967296).bind fun A0=>(chk (b0 + 1)).bind fun B0=>g0 (A0,B0,H0) else some d0)))
def bF_p (n:Nat) (a0:List Int) (a1:List Int):Option (List Int):=
  Option.bind (ah (bF_l1 n a0 a1) n (0,0,([]:List Int))) (fun b0=>some b0)
theorem bF_c (n:Nat) {L w} (hL:hl L w) {a0:List Int} {v0_0:Value} (h0_0:Rep.R w L [v0_0] a0) {a1:List Int} {v1_0:Value} (h1_0:Rep.R w L [v1_0] a1)  {r:List Int} (h:bF_p n a0 a1 = some r) :
 Cl 187 #[v0_0,v1_0] w (ae w fun w' u=>∃ v0_0:Value,u = v0_0/\Rep.R w' L [v0_0] r):=by
 unfold bF_p at h
 have hS0:=AC w
 refine AF func187 rfl rfl rfl fun _ cs0 hb0=>Ae<|Af rfl<|Aa<|Ae<|Af rfl<|Aa<|Ae<|Af rfl<|Aa<|Ai<|Ae<|Af rfl<|Aa<|Au ?_
 have I0:=hS0.nilRow 3 (Rep.size Int)
 have B3:=BJ hS0 3 (Rep.size Int)
 obtain ⟨G3,j2,U1⟩:=ao h
 refine MX.lf (α:=Int × Int × (List Int) × Value × (List Value)) (fun ⟨g0,b0,j0,d0,k0⟩=>[(0,v0_0),(1,v1_0),(5,d0),(6,vI g0),(7,vI b0)]) (fun ⟨g0,b0,j0,d0,k0⟩=>[rr w 3 Int d0 j0.length k0]) (fun ⟨g0,b0,j0,d0,k0⟩ X0=>Cells X0 (bl [rr w 3 Int d0 j0.length k0] ++ L) k0 j0) (fun ⟨g0,b0,j0,d0,k0⟩=>(g0,b0,j0)) (0,0,([]:List Int),vN,[]) j2 I0 (AB (cs:=[]) (xs:=([]:List Int)) I0 L (AG _ _)) ?_
 rintro s3 ⟨g0,b0,j0,d0,k0⟩ X0 A0 c0 F0 y0 h
 unfold bF_l1 at h
 try dsimp only at h
 refine Ai<|Ae<|Ac rfl<|Ac rfl ?_
 have u0:=AM h0_0 c0
 have D3:a0.length <= 281474976710656:=AS u0
 refine Ab (AW (xs:=a0) underlying52 rfl u0)<|Ab (BO (i:=b0) (j:=((a0.length:Nat):Int)) rfl rfl)<|Ac rfl<|Bv (s:=12) rfl h (fun x0 h=>?_) (fun x0 h=>?_)
 refine Al<|Al<|Al<|Al<|Bl rfl rfl<|Ac rfl<|Al<|Al<|Bl rfl rfl<|Aa<|AZ rfl<|Ap<|Ai<|Au<|Ai<|Ae<|Ac rfl<|Ac rfl<|Ab (AW (xs:=a0) underlying52 rfl u0)<|Ab (BO (i:=b0) (j:=((a0.length:Nat):Int)) rfl rfl)<|Aa<|MX.cond_kt rfl (decide_eq_true x0)<|Am<|Ac rfl<|Ac rfl<|Ac rfl<|bk h fun Y0 F2 h=>?_
 obtain ⟨V1,G2⟩:=aG F2
 obtain ⟨k3,y3,J1,Y1,j1,k2,c2⟩:=Bg u0 G2
 have K1:j1 = [vI Y0]:=k2; subst K1
 refine Ab (Bi 1 (b0.toNat) rfl J1 rfl V1 Y1)<|AL rfl (c2 0 _ rfl)<|bk h fun V0 t2 h=>Ab (BE (i:=g0) (j:=Y0) rfl rfl t2)<|Af rfl<|Aa<|Ai<|Ae<|Ac rfl<|Ac rfl ?_
 have G0:=AM h1_0 c0
 have E3:a1.length <= 281474976710656:=AS G0
 refine Ab (AW (xs:=a1) underlying52 rfl G0)<|Ab (BO (i:=b0) (j:=((a1.length:Nat):Int)) rfl rfl)<|Aa<|MX.jo (α:=Int) (fun t0=>[(0,v0_0),(1,v1_0),(5,d0),(6,vI t0),(7,vI b0)]) (fun t0=>[rr w 3 Int d0 j0.length k0]) (fun t0=>t0) c0 h ?_ ?_
 rintro t0 Q3 v1 J0 h
 try dsimp only at h
 refine Ae<|Ac rfl<|Ac rfl<|bk h fun p0 u2 h=>Ab (FV.remc (i:=t0) (j:=4294967296) rfl rfl u2)<|Ao .plain rfl (jA p0 (vI p0) v1 ay (e1 rfl)) fun H3 u3 B0 K0=>bk h fun d3 M2 h=>BR .plain rfl (Bh (α:=Int) (ys:=([p0]:List Int)) M2 B0 (fun _ _=>.t1) ay rfl rfl (Ay y0 (Tt J0 K0)) (BN (α:=Int) B0 .hd (jC p0 (vI p0) B0 L rfl))) fun Z2 I3 ⟨k1,x1,D1,G1⟩=>Af rfl<|Aa<|Am<|Ac rfl<|bk h fun R2 v2 h=>Ab (FV.quoc (i:=t0) (j:=4294967296) rfl rfl v2)<|Af rfl<|Aa<|Aw<|Am<|Ac rfl<|bk h fun U2 x2 h=>Ab (BE (i:=b0) (j:=1) rfl rfl x2)<|Af rfl<|Aa ?_
 obtain ⟨y1,M0⟩:=AH x1 .d1
 exact A0 (R2,U2,d3,Z2,k1) y1 (Tt F0 (Tt J0 (Tt K0 (Tt D1 M0)))) (Ay G1 M0) h
 intro t3 H0 h
 try dsimp only at h
 refine AO rfl h (fun c1 h=>?_) (fun c1 h=>?_)
 refine Am<|Ac rfl<|Ac rfl<|Ac rfl<|bk h fun Z0 H2 h=>?_
 obtain ⟨W1,I2⟩:=aG H2
 obtain ⟨p3,z3,M1,Z1,p1,p2,d2⟩:=Bg G0 I2
 have P1:p1 = [vI Z0]:=p2; subst P1
 refine Ab (Bi 1 (b0.toNat) rfl M1 rfl W1 Z1)<|AL rfl (d2 0 _ rfl)<|bk h fun V2 y2 h=>Ab (BE (i:=V0) (j:=Z0) rfl rfl y2)<|Af rfl<|Aa<|H0 V2 c0 (Bw _ _) h
 refine Ap<|H0 V0 c0 (Bw _ _) h
 refine Az (Ah rfl)<|Az (Ah rfl) ?_
 have v0:=AM h1_0 c0
 have F3:a1.length <= 281474976710656:=AS v0
 refine Az (AW (xs:=a1) underlying52 rfl v0)<|Az (BO (i:=b0) (j:=((a1.length:Nat):Int)) rfl rfl)<|Bn rfl rfl<|Ac rfl<|Bv (s:=18) rfl h (fun z0 h=>?_) (fun z0 h=>?_)
 refine Al<|Al<|Bl rfl rfl<|Aa<|AZ rfl<|Ap<|Ai<|Au<|Ai<|Ae<|Ac rfl<|Ac rfl<|Ab (AW (xs:=a0) underlying52 rfl u0)<|Ab (BO (i:=b0) (j:=((a0.length:Nat):Int)) rfl rfl)<|Aa<|MX.cond_kf rfl (decide_eq_false x0)<|Ap<|Ai<|Ae<|Ac rfl<|Ac rfl<|Ab (AW (xs:=a1) underlying52 rfl v0)<|Ab (BO (i:=b0) (j:=((a1.length:Nat):Int)) rfl rfl)<|Aa<|MX.cond_kt rfl (decide_eq_true z0)<|Am<|Ac rfl<|Ac rfl<|Ac rfl<|bk h fun b1 J2 h=>?_
 obtain ⟨X1,K2⟩:=aG J2
 obtain ⟨q3,A3,Q1,b2,q1,q2,g2⟩:=Bg v0 K2
 have R1:q1 = [vI b1]:=q2; subst R1
 refine Ab (Bi 1 (b0.toNat) rfl Q1 rfl X1 b2)<|AL rfl (g2 0 _ rfl)<|bk h fun W0 z2 h=>Ab (BE (i:=g0) (j:=b1) rfl rfl z2)<|Af rfl<|Aa<|Ae<|Ac rfl<|Ac rfl<|bk h fun q0 A2 h=>Ab (FV.remc (i:=W0) (j:=4294967296) rfl rfl A2)<|Ao .plain rfl (jA q0 (vI q0) c0 ay (e1 rfl)) fun J3 v3 C0 P0=>bk h fun g3 P2 h=>BR .plain rfl (Bh (α:=Int) (ys:=([q0]:List Int)) P2 C0 (fun _ _=>.t1) ay rfl rfl (Ay y0 P0) (BN (α:=Int) C0 .hd (jC q0 (vI q0) C0 L rfl))) fun b3 K3 ⟨s1,z1,E1,H1⟩=>Af rfl<|Aa<|Am<|Ac rfl<|bk h fun W2 B2 h=>Ab (FV.quoc (i:=W0) (j:=4294967296) rfl rfl B2)<|Af rfl<|Aa<|Aw<|Am<|Ac rfl<|Ab (FV.addI (i:=b0) (j:=1) rfl rfl (by omega))<|Af rfl<|Aa ?_
 obtain ⟨A1,Q0⟩:=AH z1 .d1
 exact A0 (W2,b0 + 1,g3,b3,s1) A1 (Tt F0 (Tt P0 (Tt E1 Q0))) (Ay H1 Q0) h
 refine Az (Ah rfl)<|Az (FV.gtr (i:=g0) (j:=0) rfl rfl)<|Bn rfl rfl<|Aa<|AO rfl h (fun g1 h=>?_) (fun g1 h=>?_)
 refine Ap<|Ai<|Au<|Ai<|Ae<|Ac rfl<|Ac rfl<|Ab (AW (xs:=a0) underlying52 rfl u0)<|Ab (BO (i:=b0) (j:=((a0.length:Nat):Int)) rfl rfl)<|Aa<|MX.cond_kf rfl (decide_eq_false x0)<|Ap<|Ai<|Ae<|Ac rfl<|Ac rfl<|Ab (AW (xs:=a1) underlying52 rfl v0)<|Ab (BO (i:=b0) (j:=((a1.length:Nat):Int)) rfl rfl)<|Aa<|MX.cond_kf rfl (decide_eq_false z0)<|Ap<|Ae<|Ac rfl<|Ac rfl<|bk h fun s0 C2 h=>Ab (FV.remc (i:=g0) (j:=4294967296) rfl rfl C2)<|Ao .plain rfl (jA s0 (vI s0) c0 ay (e1 rfl)) fun M3 x3 D0 R0=>bk h fun j3 Q2 h=>BR .plain rfl (Bh (α:=Int) (ys:=([s0]:List Int)) Q2 D0 (fun _ _=>.t1) ay rfl rfl (Ay y0 R0) (BN (α:=Int) D0 .hd (jC s0 (vI s0) D0 L rfl))) fun c3 P3 ⟨u1,B1,F1,I1⟩=>Af rfl<|Aa<|Am<|Ac rfl<|bk h fun X2 D2 h=>Ab (FV.quoc (i:=g0) (j:=4294967296) rfl rfl D2)<|Af rfl<|Aa<|Aw<|Am<|Ac rfl<|bk h fun Y2 E2 h=>Ab (BE (i:=b0) (j:=1) rfl rfl E2)<|Af rfl<|Aa ?_
 obtain ⟨C1,U0⟩:=AH B1 .d1
 exact A0 (X2,Y2,j3,c3,u1) C1 (Tt F0 (Tt R0 (Tt F1 U0))) (Ay I1 U0) h
 refine AV rfl ?_
 have h:=U1 _ h
 try dsimp only at h
 refine Ae<|Ac rfl<|Af rfl<|Aa<|Ak rfl ?_
 have E0:=Bq c0 .hd
 have C3:=Br c0 .hd
 have s2:=Bs (α:=Int) (v:=d0) (xs:=j0) E0 L (Ba (α:=Int) c0 .hd y0 hL)
 refine AQ hb0 func187 rfl rfl ?_
 cases h
 exact ⟨E0.ag,fun w9 hw9=>⟨d0,rfl,E0.kd s2 hw9⟩⟩
def bt_p (n:Nat) (a0:Td) (a1:Td):Option Td:=
  (if (a0.fc == a1.fc) = true then (bF_p n a0.fD a1.fD).bind fun b0=>(aa_p n a0.fc b0).bind fun c0=>some c0 else (aQ_p n a0.fD a1.fD).bind fun d0=>(if 0 <= d0 then (al_p n a0.fD a1.fD).bind fun g0=>(aa_p n a0.fc g0).bind fun j0=>some j0 else (al_p n a1.fD a0.fD).bind fun k0=>(aa_p n a1.fc k0).bind fun p0=>some p0))
theorem bt_c (n:Nat) {L w} (hL:hl L w) (a0:Td) {v0_1:Value} (h0_1:Rep.R w L [v0_1] a0.fD) (a1:Td) {v1_1:Value} (h1_1:Rep.R w L [v1_1] a1.fD)  {r:Td} (h:bt_p n a0 a1 = some r) :
 Cl 159 #[.agg #[.bool a0.fc,v0_1],.agg #[.bool a1.fc,v1_1]] w (ae w fun w' u=>∃ v0_1:Value,u = .agg #[.bool r.fc,v0_1]/\Rep.R w' L [v0_1] r.fD):=by
 unfold bt_p at h
 refine AF func159 rfl rfl rfl fun _ cs0 hb0=>Ae<|RG.bx (AC w) rfl rfl fun b2 A1 M0 D1=>RG.bx M0 rfl rfl fun c2 B1 P0 E1=>RG.nl [.bool false,vN] P0 fun d2 C1 b0 F1=>Aa<|Ai<|Ae<|AT 0 rfl<|AL rfl ((b0.memA .t2) 0 _ rfl)<|AT 0 rfl<|AL rfl ((b0.memA .t1) 0 _ rfl)<|Ab (FV.eqlB (a:=a0.fc) (b:=a1.fc) underlying4 rfl rfl)<|Aa<|MX.ifb rfl h (fun J0 h=>?_) (fun J0 h=>?_)
 refine Ai<|du 8 fun c0 j0=>Rv 0 c0 rfl j0 (fun _=>Be 0 rfl)<|Rx 1 384 c0 rfl j0 (AN rfl ((b0.memA .t2) 0 _ rfl))<|Rv 2 c0 rfl j0 (fun _=>Be 1 rfl)<|Rx 3 448 c0 rfl j0 (AN rfl ((b0.memA .t2) 1 _ rfl))<|Rv 4 c0 rfl j0 (fun _=>Be 1 rfl)<|Rx 5 448 c0 rfl j0 (AN rfl ((b0.memA .t1) 1 _ rfl))<|bk h fun y2 q1 h=>Bu 6 127 c0 rfl .plain (bd 187) rfl (e2 rfl rfl) (fun w9 hw9=>bF_c n (b0.hL hL hw9) (b0.km h0_1 hw9) (b0.km h1_1 hw9) q1) rfl fun g2 U1 Y0 ⟨P1,hu_,j1⟩=>?_
 subst hu_
 obtain ⟨z0,G1⟩:=b0.agr Y0
 refine bk h fun F0 s1 h=>Bu 7 255 c0 rfl .plain (bd 179) rfl (e2 rfl rfl) (fun w9 hw9=>aa_c n (z0.hL hL hw9) (Av j1 hw9) s1) rfl fun j2 V1 Z0 ⟨v0,hu_,C0⟩=>?_
 subst hu_
 obtain ⟨Q0,H1⟩:=z0.agr Z0
 refine BB 8 511 c0 rfl rfl .plain (AD (news:=[.bool F0.fc,v0]) Q0 .hd rfl rfl rfl rfl rfl rfl (o2 rfl (AY C0))) fun k2 s0 V0=>AR (dk c0)<|Ak rfl<|Ar hb0 func159 rfl (.cons (.many (cs:=[.bool F0.fc,v0]) rfl rfl (s0.memA .hd)) .nil) rfl ?_
 cases h
 exact ⟨s0.ag,fun w9 hw9=>⟨v0,rfl,s0.kd (Aq C0 V0) hw9⟩⟩
 refine Ap<|Ai<|Ae<|AT 1 rfl<|AL rfl ((b0.memA .t2) 1 _ rfl)<|AT 1 rfl<|AL rfl ((b0.memA .t1) 1 _ rfl)<|bk h fun G0 u1 h=>Bk (vI G0) (bd 183) rfl (e2 rfl rfl) (fun w9 hw9=>aQ_c n (b0.hL0 hL hw9) (b0.k0 h0_1 hw9) (b0.k0 h1_1 hw9) u1) rfl<|Ab (FV.geq (i:=G0) (j:=0) rfl rfl)<|Aa<|AO rfl h (fun K0 h=>?_) (fun K0 h=>?_)
 refine Ai<|du 8 fun d0 p0=>Rv 0 d0 rfl p0 (fun _=>Be 0 rfl)<|Rx 1 384 d0 rfl p0 (AN rfl ((b0.memA .t2) 0 _ rfl))<|Rv 2 d0 rfl p0 (fun _=>Be 1 rfl)<|Rx 3 448 d0 rfl p0 (AN rfl ((b0.memA .t2) 1 _ rfl))<|Rv 4 d0 rfl p0 (fun _=>Be 1 rfl)<|Rx 5 448 d0 rfl p0 (AN rfl ((b0.memA .t1) 1 _ rfl))<|bk h fun z2 v1 h=>Bu 6 127 d0 rfl .plain (bd 180) rfl (e2 rfl rfl) (fun w9 hw9=>al_c n (b0.hL hL hw9) (b0.km h0_1 hw9) (b0.km h1_1 hw9) v1) rfl fun p2 W1 b1 ⟨Q1,hu_,k1⟩=>?_
 subst hu_
 obtain ⟨A0,I1⟩:=b0.agr b1
 refine bk h fun H0 x1 h=>Bu 7 255 d0 rfl .plain (bd 179) rfl (e2 rfl rfl) (fun w9 hw9=>aa_c n (A0.hL hL hw9) (Av k1 hw9) x1) rfl fun q2 X1 c1 ⟨x0,hu_,D0⟩=>?_
 subst hu_
 obtain ⟨R0,J1⟩:=A0.agr c1
 refine BB 8 511 d0 rfl rfl .plain (AD (news:=[.bool H0.fc,x0]) R0 .hd rfl rfl rfl rfl rfl rfl (o2 rfl (AY D0))) fun s2 t0 W0=>AR (dk d0)<|Ak rfl<|Ar hb0 func159 rfl (.cons (.many (cs:=[.bool H0.fc,x0]) rfl rfl (t0.memA .hd)) .nil) rfl ?_
 cases h
 exact ⟨t0.ag,fun w9 hw9=>⟨x0,rfl,t0.kd (Aq D0 W0) hw9⟩⟩
 refine Ap<|Ai<|du 8 fun g0 q0=>Rv 0 g0 rfl q0 (fun _=>Be 0 rfl)<|Rx 1 384 g0 rfl q0 (AN rfl ((b0.memA .t1) 0 _ rfl))<|Rv 2 g0 rfl q0 (fun _=>Be 1 rfl)<|Rx 3 448 g0 rfl q0 (AN rfl ((b0.memA .t1) 1 _ rfl))<|Rv 4 g0 rfl q0 (fun _=>Be 1 rfl)<|Rx 5 448 g0 rfl q0 (AN rfl ((b0.memA .t2) 1 _ rfl))<|bk h fun A2 y1 h=>Bu 6 127 g0 rfl .plain (bd 180) rfl (e2 rfl rfl) (fun w9 hw9=>al_c n (b0.hL hL hw9) (b0.km h1_1 hw9) (b0.km h0_1 hw9) y1) rfl fun u2 Y1 d1 ⟨R1,hu_,p1⟩=>?_
 subst hu_
 obtain ⟨B0,K1⟩:=b0.agr d1
 refine bk h fun I0 z1 h=>Bu 7 255 g0 rfl .plain (bd 179) rfl (e2 rfl rfl) (fun w9 hw9=>aa_c n (B0.hL hL hw9) (Av p1 hw9) z1) rfl fun v2 Z1 g1 ⟨y0,hu_,E0⟩=>?_
 subst hu_
 obtain ⟨U0,M1⟩:=B0.agr g1
 refine BB 8 511 g0 rfl rfl .plain (AD (news:=[.bool I0.fc,y0]) U0 .hd rfl rfl rfl rfl rfl rfl (o2 rfl (AY E0))) fun x2 u0 X0=>AR (dk g0)<|Ak rfl<|Ar hb0 func159 rfl (.cons (.many (cs:=[.bool I0.fc,y0]) rfl rfl (u0.memA .hd)) .nil) rfl ?_
 cases h
 exact ⟨u0.ag,fun w9 hw9=>⟨y0,rfl,u0.kd (Aq E0 X0) hw9⟩⟩
def bm_p (n:Nat) (a0:Int):Option Td:=
  jn (fun u16=>(aa_p n (decide (a0 < 0)) ([az (u16 % (4294967296:UInt64)),az (u16 / (4294967296:UInt64))]:List Int)).bind fun c0=>some c0) (fun b0=>(if a0 < 0 then b0 (-(ab a0)) else b0 (ab a0)))
theorem bm_c (n:Nat) {L w} (hL:hl L w) {a0:Int}  {r:Td} (h:bm_p n a0 = some r) :
 Cl 163 #[vI a0] w (ae w fun w' u=>∃ v0_1:Value,u = .agg #[.bool r.fc,v0_1]/\Rep.R w' L [v0_1] r.fD):=by
 unfold bm_p at h
 refine AF func163 rfl rfl rfl fun _ cs0 hb0=>Ae<|RG.nl [.bool false,vN] (AC w) fun I0 k0 c0 C0=>Aa<|Ae<|Ac rfl<|Ab (BO (i:=a0) (j:=0) rfl rfl)<|Af rfl<|Aa<|Ae<|Ac rfl<|Ab (FV.convU (i:=a0) underlying3 underlying28 rfl)<|Af rfl<|Aa<|Ai<|Ae<|Ac rfl<|Aa<|MX.jo (α:=UInt64) (fun u16=>[(2,vP k0),(3,.bool (decide (a0 < 0))),(4,vU u16)]) (fun u16=>[.cells k0 [.bool false,vN] 189]) (fun u16=>u16) c0 h ?_ ?_
 rintro u16 P0 v0 D0 h
 try dsimp only at h
 refine Ae<|Ac rfl<|Ac rfl<|Ab (FV.remU (a:=u16) (b:=(4294967296:UInt64)) rfl rfl (by decide))<|Ab (FV.convUI (a:=u16 % (4294967296:UInt64)) underlying28 underlying3 rfl)<|Ac rfl<|Ab (FV.quoU (a:=u16) (b:=(4294967296:UInt64)) rfl rfl (by decide))<|Ab (FV.convUI (a:=u16 / (4294967296:UInt64)) underlying28 underlying3 rfl)<|Ao .plain rfl (AJ (α:=Int) (xs:=([az (u16 % (4294967296:UInt64)),az (u16 / (4294967296:UInt64))]:List Int)) (vs:=[vI (az (u16 % (4294967296:UInt64))),vI (az (u16 / (4294967296:UInt64)))]) (ds' :=[vI (az (u16 % (4294967296:UInt64))),vI (az (u16 / (4294967296:UInt64)))]) rfl v0 ay rfl (e2 rfl rfl) (by kernel_rfl) rfl) fun J0 t0 b0 E0=>?_
 have d0:=Bq b0 .hd
 have F0:=Br b0 .hd
 refine bk h fun s0 A0 h=>jE (bd 179) rfl (e2 rfl rfl) (fun w9 hw9=>aa_c n (d0.hL hL hw9) (Av (Bs (α:=Int) (v:=(vS t0 2)) (xs:=([az (u16 % (4294967296:UInt64)),az (u16 / (4294967296:UInt64))]:List Int)) d0 L (Ba (α:=Int) b0 .hd (AB (cs:=[vI (az (u16 % (4294967296:UInt64))),vI (az (u16 / (4294967296:UInt64)))]) (xs:=(([az (u16 % (4294967296:UInt64)),az (u16 / (4294967296:UInt64))]:List Int):List Int)) b0 L (Ax (cs:=[vI (az (u16 % (4294967296:UInt64)))]) (ds:=[vI (az (u16 / (4294967296:UInt64)))]) rfl (Ax (cs:=[vI (az (u16 / (4294967296:UInt64)))]) (ds:=[]) rfl (AG _ _)))) hL)) hw9) A0) rfl fun K0 H0 z0 ⟨j0,hu_,q0⟩=>?_
 subst hu_
 obtain ⟨x0,G0⟩:=d0.agr z0
 refine AX [.bool s0.fc,j0] x0 .hd (o2 rfl (AY q0)) fun M0 g0 y0=>Aa<|Ak rfl<|Ar hb0 func163 rfl (.cons (.many (cs:=[.bool s0.fc,j0]) rfl rfl (g0.memA .hd)) .nil) rfl ?_
 cases h
 exact ⟨g0.ag,fun w9 hw9=>⟨j0,rfl,g0.kd (Aq q0 y0) hw9⟩⟩
 intro B0 p0 h
 try dsimp only at h
 refine AO rfl h (fun u0 h=>?_) (fun u0 h=>?_)
 refine Am<|Ac rfl<|Ab (FV.negU (a:=ab a0) rfl)<|Af rfl<|Aa<|p0 (-(ab a0)) c0 (Bw _ _) h
 refine Ap<|p0 (ab a0) c0 (Bw _ _) h
def de_p (n:Nat) (a0:Td) (a1:Td):Option Td:=
  (cj_p n a1).bind fun b0=>(bt_p n a0 b0).bind fun c0=>some c0
theorem de_c (n:Nat) {L w} (hL:hl L w) (a0:Td) {v0_1:Value} (h0_1:Rep.R w L [v0_1] a0.fD) (a1:Td) {v1_1:Value} (h1_1:Rep.R w L [v1_1] a1.fD)  {r:Td} (h:de_p n a0 a1 = some r) :
 Cl 199 #[.agg #[.bool a0.fc,v0_1],.agg #[.bool a1.fc,v1_1]] w (ae w fun w' u=>∃ v0_1:Value,u = .agg #[.bool r.fc,v0_1]/\Rep.R w' L [v0_1] r.fD):=by
 unfold de_p at h
 refine AF func199 rfl rfl rfl fun _ cs0 hb0=>Ae<|RG.bx (AC w) rfl rfl fun R0 D0 s0 G0=>RG.bx s0 rfl rfl fun U0 E0 t0 H0=>RG.nl [.bool false,vN] t0 fun V0 F0 c0 I0=>Aa<|Ai<|du 4 fun b0 p0=>Rx 0 24 b0 rfl p0 (AK rfl (c0.memA .t2))<|Rx 1 28 b0 rfl p0 (AK rfl (c0.memA .t1))<|bk h fun C0 A0 h=>Bu 2 7 b0 rfl .plain (bd 184) rfl (e1 rfl) (fun w9 hw9=>cj_c n (c0.hL hL hw9) a1 (c0.km h1_1 hw9) A0) rfl fun W0 P0 x0 ⟨M0,hu_,z0⟩=>?_
 subst hu_
 obtain ⟨d0,J0⟩:=c0.agr x0
 refine bk h fun q0 B0 h=>Bu 3 15 b0 rfl .plain (bd 159) rfl (e2 rfl rfl) (fun w9 hw9=>bt_c n (d0.hL hL hw9) a0 (d0.km h0_1 hw9) C0 (Av z0 hw9) B0) rfl fun X0 Q0 y0 ⟨j0,hu_,k0⟩=>?_
 subst hu_
 obtain ⟨u0,K0⟩:=d0.agr y0
 refine BB 4 31 b0 rfl rfl .plain (AD (news:=[.bool q0.fc,j0]) u0 .hd rfl rfl rfl rfl rfl rfl (o2 rfl (AY k0))) fun Y0 g0 v0=>AR (dk b0)<|Ak rfl<|Ar hb0 func199 rfl (.cons (.many (cs:=[.bool q0.fc,j0]) rfl rfl (g0.memA .hd)) .nil) rfl ?_
 cases h
 exact ⟨g0.ag,fun w9 hw9=>⟨j0,rfl,g0.kd (Aq k0 v0) hw9⟩⟩
def bH_p (n:Nat) (a0:Td) (a1:Td):Option (Td × Td):=
  (aB_p n a0.fD a1.fD).bind fun g0=>(aa_p n (!(a0.fc == a1.fc)) g0.1).bind fun b0=>(aa_p n a0.fc g0.2).bind fun c0=>(if c0.fc = true then (bt_p n c0 (⟨false,a1.fD⟩:Td)).bind fun d0=>(if a1.fc = true then (bm_p n (1:Int)).bind fun j0=>(bt_p n b0 j0).bind fun k0=>some (k0,d0) else (bm_p n (1:Int)).bind fun p0=>(de_p n b0 p0).bind fun q0=>some (q0,d0)) else some (b0,c0))
theorem bH_c (n:Nat) {L w} (hL:hl L w) (a0:Td) {v0_1:Value} (h0_1:Rep.R w L [v0_1] a0.fD) (a1:Td) {v1_1:Value} (h1_1:Rep.R w L [v1_1] a1.fD)  {r:Td × Td} (h:bH_p n a0 a1 = some r) :
 Cl 185 #[.agg #[.bool a0.fc,v0_1],.agg #[.bool a1.fc,v1_1]] w (ae w fun w' u=>∃ v0_1 v1_1:Value,u = .tuple #[.agg #[.bool r.1.fc,v0_1],.agg #[.bool r.2.fc,v1_1]]/\Rep.R w' L [v0_1] r.1.fD/\Rep.R w' L [v1_1] r.2.fD):=by
 unfold bH_p at h
 refine AF func185 rfl rfl rfl fun _ cs0 hb0=>Ae<|RG.bx (AC w) rfl rfl fun k6 H5 Q3 J5=>RG.bx Q3 rfl rfl fun p6 c2 R3 K5=>RG.nl [.bool false,vN] R3 fun z6 G0 Y3 P5=>RG.nl [.bool false,vN] Y3 fun A6 H0 z1 Q5=>Aa<|Ae<|AT 1 rfl<|AL rfl ((z1.memA .t3) 1 _ rfl)<|AT 1 rfl<|AL rfl ((z1.memA .t2) 1 _ rfl)<|bk h fun P6 v5 h=>jE (bd 182) rfl (e2 rfl rfl) (fun w9 hw9=>aB_c n (z1.hL hL hw9) (z1.km h0_1 hw9) (z1.km h1_1 hw9) v5) rfl fun B6 g6 b5 ⟨W5,X5,hu_,R1,B0⟩=>?_
 subst hu_
 obtain ⟨Z0,R5⟩:=z1.agr b5
 refine Ac rfl<|Ab (Aj rfl rfl)<|Ab (Aj rfl rfl)<|Af rfl<|Af rfl<|Aa<|Ai<|du 13 fun b0 V0=>Rv 0 b0 rfl V0 (fun _=>Be 0 rfl)<|Rx 1 25680 b0 rfl V0 (AN rfl ((Z0.memA .t3) 0 _ rfl))<|Rv 2 b0 rfl V0 (fun _=>Be 0 rfl)<|Rx 3 25680 b0 rfl V0 (AN rfl ((Z0.memA .t2) 0 _ rfl))<|Rv 4 b0 rfl V0 (fun _=>FV.neqB (a:=a0.fc) (b:=a1.fc) underlying4 rfl rfl)<|Rv 5 b0 rfl V0 (fun _=>Ah rfl)<|Rv 7 b0 rfl V0 (fun _=>Be 0 rfl)<|Rx 8 25600 b0 rfl V0 (AN rfl ((Z0.memA .t3) 0 _ rfl))<|Rv 9 b0 rfl V0 (fun _=>Ah rfl)<|bk h fun Y0 U1 h=>bk h fun y1 D0 h=>RD.mf (α:=Value × Value × Nat × Nat) (fun ⟨E0,M0,k1,p1⟩=>[(3,vP c2),(4,vP G0),(5,vP H0),(24,.agg #[.bool Y0.fc,E0]),(28,.agg #[.bool y1.fc,M0]),(8,vP p1),(9,vP k1)]) (fun ⟨E0,M0,k1,p1⟩=>[.cells k1 [.bool false,vN] 189,.cells p1 [.bool false,vN] 189,.cells H0 [.bool false,vN] 189,.cells G0 [.bool false,vN] 189,.cells c2 [.bool a1.fc,v1_1] 189]) (fun ⟨E0,M0,k1,p1⟩ J2=>Rep.R J2 (bl [.cells k1 [.bool false,vN] 189,.cells p1 [.bool false,vN] 189,.cells H0 [.bool false,vN] 189,.cells G0 [.bool false,vN] 189,.cells c2 [.bool a1.fc,v1_1] 189] ++ L) [E0] Y0.fD/\Rep.R J2 (bl [.cells k1 [.bool false,vN] 189,.cells p1 [.bool false,vN] 189,.cells H0 [.bool false,vN] 189,.cells G0 [.bool false,vN] 189,.cells c2 [.bool a1.fc,v1_1] 189] ++ L) [M0] y1.fD) Z0 2 8191 ?_ ?_
 rintro ⟨E0,M0,k1,p1⟩ J2 U3 M5 ⟨C1,s2⟩
 try dsimp only
 refine BB 13 16383 b0 rfl rfl .plain (AD (news:=[.bool Y0.fc,E0]) U3 .t1 rfl rfl rfl rfl rfl rfl (o2 rfl (AY C1))) fun q6 V3 s1=>BB 14 32767 b0 rfl rfl .plain (AD (news:=[.bool y1.fc,M0]) V3 .hd rfl rfl rfl rfl rfl rfl (o2 rfl (AY (Aq s2 s1)))) fun s6 x0 A1=>AR (dk b0)<|Ai<|Ae<|AT 0 rfl<|AL rfl ((x0.memA .hd) 0 _ rfl)<|Aa<|MX.ifb rfl h (fun M3 h=>?_) (fun M3 h=>?_)
 refine Ae<|Ab (AK rfl (x0.memA .hd))<|AT 1 rfl<|AL rfl ((x0.memA .t4) 1 _ rfl) ?_
 obtain ⟨G5,I5,q5,_⟩:=BI (AM h1_1 x0)
 refine Ab (AU (vs:=[v1_1]) (u:=.agg #[.bool false,v1_1]) (e1 rfl) (fun w9=>by rw [q5]; try kernel_rfl))<|bk h fun x1 s5 h=>jE (bd 159) rfl (e2 rfl rfl) (fun w9 hw9=>bt_c n (x0.hL hL hw9) y1 (Av (Aq s2 (Tt s1 A1)) hw9) (⟨false,a1.fD⟩:Td) (x0.km h1_1 hw9) s5) rfl fun t6 Y5 V4 ⟨W0,hu_,Q1⟩=>?_
 subst hu_
 obtain ⟨W3,U2⟩:=x0.agr V4
 refine AX [.bool x1.fc,W0] W3 .hd (o2 rfl (AY Q1)) fun u6 q1 B1=>Aa<|Ae<|AT 0 rfl<|AL rfl ((q1.memA .t4) 0 _ rfl)<|Aa<|MX.ifb rfl h (fun P3 h=>?_) (fun P3 h=>?_)
 refine du 3 fun V1 z5=>Rx 0 12 V1 rfl z5 (AK rfl (q1.memA .t1))<|bk h fun E5 t5 h=>Bu 1 3 V1 rfl .plain (bd 163) rfl (e1 rfl) (fun w9 hw9=>bm_c n (q1.hL hL hw9)  t5) rfl fun v6 Z5 W4 ⟨U5,hu_,k5⟩=>?_
 subst hu_
 obtain ⟨Q2,z2⟩:=q1.agr W4
 refine bk h fun Z1 u5 h=>Bu 2 7 V1 rfl .plain (bd 159) rfl (e2 rfl rfl) (fun w9 hw9=>bt_c n (Q2.hL hL hw9) Y0 (Av (Aq C1 (Tt s1 (Tt A1 (Tt U2 (Tt B1 z2))))) hw9) E5 (Av k5 hw9) u5) rfl fun x6 b6 X4 ⟨E1,hu_,u2⟩=>?_
 subst hu_
 obtain ⟨X3,V2⟩:=Q2.agr X4
 refine BB 3 15 V1 rfl rfl .plain (AD (news:=[.bool Z1.fc,E1]) X3 .t1 rfl rfl rfl rfl rfl rfl (o2 rfl (AY u2))) fun y6 H1 p2=>AR (dk V1)<|Ai<|du 2 fun b1 I3=>Rx 0 12 b1 rfl I3 (AK rfl (H1.memA .t1))<|RD.mo (α:=Unit) (fun ()=>[(4,vP G0),(5,vP H0),(45,.agg #[.bool x1.fc,W0])]) (fun ()=>[.cells H0 [.bool false,vN] 189,.cells G0 [.bool Z1.fc,E1] 189]) H1 1 7 ?_ ?_
 rintro ⟨⟩ J6 Z3 W2
 try dsimp only
 refine BB 3 15 b1 rfl rfl .plain (AD (news:=[.bool x1.fc,W0]) Z3 .hd rfl rfl rfl rfl rfl rfl (o2 rfl (AY (Aq Q1 (Tt B1 (Tt z2 (Tt V2 (Tt p2 W2)))))))) fun C6 I1 H4=>AR (dk b1)<|Ak rfl<|Ar hb0 func185 rfl (.cons (.many (cs:=[.bool Z1.fc,E1]) rfl rfl (I1.memA .t1)) (.cons (.many (cs:=[.bool x1.fc,W0]) rfl rfl (I1.memA .hd)) .nil)) rfl ?_
 cases h
 have v3:=Tt p2 (Tt W2 H4)
 exact ⟨I1.ag,fun w9 hw9=>⟨E1,W0,rfl,I1.kd (Aq u2 v3) hw9,I1.kd (Aq Q1 (Tt B1 (Tt z2 (Tt V2 v3)))) hw9⟩⟩
 intro K2
 refine By [1,2] (rk b1) ⟨?_,?_,trivial⟩
 refine RO.val (m' :=3) (sk b1) rfl .plain rfl (AK rfl (H1.memA .hd)) ?_
 have d5:=Aq u2 p2
 refine BB 2 7 b1 rfl rfl .plain (AD (news:=[.bool Z1.fc,E1]) H1 .t3 rfl rfl rfl rfl rfl rfl (o2 rfl (AY d5))) fun B5 d2 A2=>?_
 obtain ⟨b4,I4⟩:=AH d2 (.a2 (.a2 .done))
 exact K2 () b4 (Tt A2 I4)
 refine RO.now (m' :=5) (sk b1) rfl rfl .plain (AD (news:=[.bool Z1.fc,E1]) H1 .t3 rfl rfl rfl rfl rfl rfl (o2 rfl (AY (Aq u2 p2)))) fun B5 d2 A2=>Rx 1 8 b1 rfl I3 (AK rfl (d2.memA .hd)) ?_
 obtain ⟨c4,J4⟩:=AH d2 (.a2 (.a2 .done))
 exact K2 () c4 (Tt A2 J4)
 refine du 3 fun W1 A5=>Rx 0 12 W1 rfl A5 (AK rfl (q1.memA .t1))<|bk h fun F5 x5 h=>Bu 1 3 W1 rfl .plain (bd 163) rfl (e1 rfl) (fun w9 hw9=>bm_c n (q1.hL hL hw9)  x5) rfl fun D6 c6 Y4 ⟨V5,hu_,p5⟩=>?_
 subst hu_
 obtain ⟨R2,B2⟩:=q1.agr Y4
 refine bk h fun b2 y5 h=>Bu 2 7 W1 rfl .plain (bd 199) rfl (e2 rfl rfl) (fun w9 hw9=>de_c n (R2.hL hL hw9) Y0 (Av (Aq C1 (Tt s1 (Tt A1 (Tt U2 (Tt B1 B2))))) hw9) F5 (Av p5 hw9) y5) rfl fun E6 d6 Z4 ⟨F1,hu_,v2⟩=>?_
 subst hu_
 obtain ⟨d4,X2⟩:=R2.agr Z4
 refine BB 3 15 W1 rfl rfl .plain (AD (news:=[.bool b2.fc,F1]) d4 .t1 rfl rfl rfl rfl rfl rfl (o2 rfl (AY v2))) fun F6 J1 q2=>AR (dk W1)<|Ai<|du 2 fun c1 J3=>Rx 0 12 c1 rfl J3 (AK rfl (J1.memA .t1))<|RD.mo (α:=Unit) (fun ()=>[(4,vP G0),(5,vP H0),(45,.agg #[.bool x1.fc,W0])]) (fun ()=>[.cells H0 [.bool false,vN] 189,.cells G0 [.bool b2.fc,F1] 189]) J1 1 7 ?_ ?_
 rintro ⟨⟩ K6 g4 Y2
 try dsimp only
 refine BB 3 15 c1 rfl rfl .plain (AD (news:=[.bool x1.fc,W0]) g4 .hd rfl rfl rfl rfl rfl rfl (o2 rfl (AY (Aq Q1 (Tt B1 (Tt B2 (Tt X2 (Tt q2 Y2)))))))) fun H6 K1 K4=>AR (dk c1)<|Ak rfl<|Ar hb0 func185 rfl (.cons (.many (cs:=[.bool b2.fc,F1]) rfl rfl (K1.memA .t1)) (.cons (.many (cs:=[.bool x1.fc,W0]) rfl rfl (K1.memA .hd)) .nil)) rfl ?_
 cases h
 have x3:=Tt q2 (Tt Y2 K4)
 exact ⟨K1.ag,fun w9 hw9=>⟨F1,W0,rfl,K1.kd (Aq v2 x3) hw9,K1.kd (Aq Q1 (Tt B1 (Tt B2 (Tt X2 x3)))) hw9⟩⟩
 intro M2
 refine By [1,2] (rk c1) ⟨?_,?_,trivial⟩
 refine RO.val (m' :=3) (sk c1) rfl .plain rfl (AK rfl (J1.memA .hd)) ?_
 have g5:=Aq v2 q2
 refine BB 2 7 c1 rfl rfl .plain (AD (news:=[.bool b2.fc,F1]) J1 .t3 rfl rfl rfl rfl rfl rfl (o2 rfl (AY g5))) fun C5 j2 C2=>?_
 obtain ⟨j4,M4⟩:=AH j2 (.a2 (.a2 .done))
 exact M2 () j4 (Tt C2 M4)
 refine RO.now (m' :=5) (sk c1) rfl rfl .plain (AD (news:=[.bool b2.fc,F1]) J1 .t3 rfl rfl rfl rfl rfl rfl (o2 rfl (AY (Aq v2 q2)))) fun C5 j2 C2=>Rx 1 8 c1 rfl J3 (AK rfl (j2.memA .hd)) ?_
 obtain ⟨k4,P4⟩:=AH j2 (.a2 (.a2 .done))
 exact M2 () k4 (Tt C2 P4)
 refine Ap<|Ai<|du 2 fun d1 K3=>Rx 0 12 d1 rfl K3 (AK rfl (x0.memA .t1))<|RD.mo (α:=Unit) (fun ()=>[(4,vP G0),(5,vP H0),(45,.agg #[.bool y1.fc,M0])]) (fun ()=>[.cells H0 [.bool false,vN] 189,.cells G0 [.bool Y0.fc,E0] 189]) x0 1 7 ?_ ?_
 rintro ⟨⟩ M6 p4 Q4
 try dsimp only
 have G2:=Tt s1 (Tt A1 Q4)
 refine BB 3 15 d1 rfl rfl .plain (AD (news:=[.bool y1.fc,M0]) p4 .hd rfl rfl rfl rfl rfl rfl (o2 rfl (AY (Aq s2 G2)))) fun I6 M1 Z2=>AR (dk d1)<|Ak rfl<|Ar hb0 func185 rfl (.cons (.many (cs:=[.bool Y0.fc,E0]) rfl rfl (M1.memA .t1)) (.cons (.many (cs:=[.bool y1.fc,M0]) rfl rfl (M1.memA .hd)) .nil)) rfl ?_
 cases h
 exact ⟨M1.ag,fun w9 hw9=>⟨E0,M0,rfl,M1.kd (Aq C1 (Tt G2 Z2)) hw9,M1.kd (Aq s2 (Tt G2 Z2)) hw9⟩⟩
 intro P2
 refine By [1,2] (rk d1) ⟨?_,?_,trivial⟩
 refine RO.val (m' :=3) (sk d1) rfl .plain rfl (AK rfl (x0.memA .hd)) ?_
 have j5:=Aq C1 (Tt s1 A1)
 refine BB 2 7 d1 rfl rfl .plain (AD (news:=[.bool Y0.fc,E0]) x0 .t3 rfl rfl rfl rfl rfl rfl (o2 rfl (AY j5))) fun D5 k2 D2=>?_
 obtain ⟨q4,R4⟩:=AH k2 (.a2 (.a2 .done))
 exact P2 () q4 (Tt D2 R4)
 refine RO.now (m' :=5) (sk d1) rfl rfl .plain (AD (news:=[.bool Y0.fc,E0]) x0 .t3 rfl rfl rfl rfl rfl rfl (o2 rfl (AY (Aq C1 (Tt s1 A1))))) fun D5 k2 D2=>Rx 1 8 d1 rfl K3 (AK rfl (k2.memA .hd)) ?_
 obtain ⟨s4,U4⟩:=AH k2 (.a2 (.a2 .done))
 exact P2 () s4 (Tt D2 U4)
 intro v0
 refine By [6,11,12] (rk b0) ⟨?_,?_,?_,trivial⟩
 refine RO.call (m' :=1023) (fst:=[]) (cap:=[]) (sk b0) rfl .plain (bd 179) rfl (e2 rfl rfl) (fun w9 hw9=>aa_c n (Z0.hL hL hw9) (Av R1 hw9) U1) rfl fun G6 j6 c5 ⟨G1,hu_,D1⟩=>?_
 subst hu_
 obtain ⟨g2,z0⟩:=Z0.agr c5
 refine By [10,11,12] (rk b0) ⟨?_,?_,?_,trivial⟩
 have v1:=Aq B0 z0
 refine RO.call (m' :=2047) (fst:=[]) (cap:=[]) (sk b0) rfl .plain (bd 179) rfl (e2 rfl rfl) (fun w9 hw9=>aa_c n (g2.hL hL hw9) (Av v1 hw9) D0) rfl fun y2 x2 Q0 ⟨P0,hu_,K0⟩=>?_
 subst hu_
 obtain ⟨I0,J0⟩:=g2.agr Q0
 refine By [11,12] (rk b0) ⟨?_,?_,trivial⟩
 refine BG (m' :=4095) (sk b0) rfl .plain rfl (AE [.bool false,vN] I0) fun j1 p0 j0 d0=>BV 12 8191 b0 rfl .plain rfl (AE [.bool false,vN] j0) fun g1 k0 g0 c0=>?_
 obtain ⟨u4,b3⟩:=AH g0 (.a0 (.a0 (.a0 (.a0 (.a0 .done)))))
 have y3:=Tt J0 (Tt d0 (Tt c0 b3))
 exact v0 (G1,P0,k0,p0) u4 (Tt z0 y3) ⟨(Aq D1 y3),(Aq K0 (Tt d0 (Tt c0 b3)))⟩
 refine BG (m' :=6143) (sk b0) rfl .plain rfl (AE [.bool false,vN] I0) fun g1 k0 g0 c0=>BV 11 8191 b0 rfl .plain rfl (AE [.bool false,vN] g0) fun j1 p0 j0 d0=>?_
 obtain ⟨v4,c3⟩:=AH j0 (.a1 (.a0 (.a0 (.a0 (.a0 .done)))))
 have z3:=Tt J0 (Tt c0 (Tt d0 c3))
 exact v0 (G1,P0,k0,p0) v4 (Tt z0 z3) ⟨(Aq D1 z3),(Aq K0 (Tt c0 (Tt d0 c3)))⟩
 refine BG (m' :=3071) (sk b0) rfl .plain rfl (AE [.bool false,vN] g2) fun j1 p0 j0 d0=>By [10,12] (rk b0) ⟨?_,?_,trivial⟩
 have v1:=Aq B0 (Tt z0 d0)
 refine RO.call (m' :=4095) (fst:=[]) (cap:=[]) (sk b0) rfl .plain (bd 179) rfl (e2 rfl rfl) (fun w9 hw9=>aa_c n (j0.hL hL hw9) (Av v1 hw9) D0) rfl fun y2 x2 Q0 ⟨P0,hu_,K0⟩=>?_
 subst hu_
 obtain ⟨I0,J0⟩:=j0.agr Q0
 refine BV 12 8191 b0 rfl .plain rfl (AE [.bool false,vN] I0) fun g1 k0 g0 c0=>?_
 obtain ⟨x4,d3⟩:=AH g0 (.a0 (.a0 (.a0 (.a0 (.a0 .done)))))
 have A3:=Tt d0 (Tt J0 (Tt c0 d3))
 exact v0 (G1,P0,k0,p0) x4 (Tt z0 A3) ⟨(Aq D1 A3),(Aq K0 (Tt c0 d3))⟩
 refine BG (m' :=7167) (sk b0) rfl .plain rfl (AE [.bool false,vN] j0) fun g1 k0 g0 c0=>?_
 have u0:=Tt z0 (Tt d0 c0)
 have R0:=Aq B0 u0
 refine Bu 10 8191 b0 rfl .plain (bd 179) rfl (e2 rfl rfl) (fun w9 hw9=>aa_c n (g0.hL hL hw9) (Av R0 hw9) D0) rfl fun Y1 X1 A0 ⟨F0,hu_,C0⟩=>?_
 subst hu_
 obtain ⟨y0,t0⟩:=g0.agr A0
 obtain ⟨y4,g3⟩:=AH y0 (.a0 (.a0 (.a0 (.a0 (.a0 .done)))))
 have B3:=Tt d0 (Tt c0 (Tt t0 g3))
 exact v0 (G1,F0,k0,p0) y4 (Tt z0 B3) ⟨(Aq D1 B3),(Aq C0 g3)⟩
 refine BG (m' :=5119) (sk b0) rfl .plain rfl (AE [.bool false,vN] g2) fun g1 k0 g0 c0=>By [10,11] (rk b0) ⟨?_,?_,trivial⟩
 have v1:=Aq B0 (Tt z0 c0)
 refine RO.call (m' :=6143) (fst:=[]) (cap:=[]) (sk b0) rfl .plain (bd 179) rfl (e2 rfl rfl) (fun w9 hw9=>aa_c n (g0.hL hL hw9) (Av v1 hw9) D0) rfl fun y2 x2 Q0 ⟨P0,hu_,K0⟩=>?_
 subst hu_
 obtain ⟨I0,J0⟩:=g0.agr Q0
 refine BV 11 8191 b0 rfl .plain rfl (AE [.bool false,vN] I0) fun j1 p0 j0 d0=>?_
 obtain ⟨z4,j3⟩:=AH j0 (.a1 (.a0 (.a0 (.a0 (.a0 .done)))))
 have C3:=Tt c0 (Tt J0 (Tt d0 j3))
 exact v0 (G1,P0,k0,p0) z4 (Tt z0 C3) ⟨(Aq D1 C3),(Aq K0 (Tt d0 j3))⟩
 refine BG (m' :=7167) (sk b0) rfl .plain rfl (AE [.bool false,vN] g0) fun j1 p0 j0 d0=>?_
 have u0:=Tt z0 (Tt c0 d0)
 have R0:=Aq B0 u0
 refine Bu 10 8191 b0 rfl .plain (bd 179) rfl (e2 rfl rfl) (fun w9 hw9=>aa_c n (j0.hL hL hw9) (Av R0 hw9) D0) rfl fun Y1 X1 A0 ⟨F0,hu_,C0⟩=>?_
 subst hu_
 obtain ⟨y0,t0⟩:=j0.agr A0
 obtain ⟨A4,k3⟩:=AH y0 (.a1 (.a0 (.a0 (.a0 (.a0 .done)))))
 have D3:=Tt c0 (Tt d0 (Tt t0 k3))
 exact v0 (G1,F0,k0,p0) A4 (Tt z0 D3) ⟨(Aq D1 D3),(Aq C0 k3)⟩
 refine BG (m' :=3007) (sk b0) rfl .plain rfl (AE [.bool false,vN] Z0) fun j1 p0 j0 d0=>By [6,12] (rk b0) ⟨?_,?_,trivial⟩
 have P1:=Aq R1 d0
 refine RO.call (m' :=3071) (fst:=[]) (cap:=[]) (sk b0) rfl .plain (bd 179) rfl (e2 rfl rfl) (fun w9 hw9=>aa_c n (j0.hL hL hw9) (Av P1 hw9) U1) rfl fun I2 H2 u1 ⟨X0,hu_,U0⟩=>?_
 subst hu_
 obtain ⟨q0,s0⟩:=j0.agr u1
 refine By [10,12] (rk b0) ⟨?_,?_,trivial⟩
 have v1:=Aq B0 (Tt d0 s0)
 refine RO.call (m' :=4095) (fst:=[]) (cap:=[]) (sk b0) rfl .plain (bd 179) rfl (e2 rfl rfl) (fun w9 hw9=>aa_c n (q0.hL hL hw9) (Av v1 hw9) D0) rfl fun y2 x2 Q0 ⟨P0,hu_,K0⟩=>?_
 subst hu_
 obtain ⟨I0,J0⟩:=q0.agr Q0
 refine BV 12 8191 b0 rfl .plain rfl (AE [.bool false,vN] I0) fun g1 k0 g0 c0=>?_
 obtain ⟨B4,p3⟩:=AH g0 (.a0 (.a0 (.a0 (.a0 (.a0 .done)))))
 have E3:=Tt J0 (Tt c0 p3)
 exact v0 (X0,P0,k0,p0) B4 (Tt d0 (Tt s0 E3)) ⟨(Aq U0 E3),(Aq K0 (Tt c0 p3))⟩
 refine BG (m' :=7167) (sk b0) rfl .plain rfl (AE [.bool false,vN] q0) fun g1 k0 g0 c0=>?_
 have u0:=Tt d0 (Tt s0 c0)
 have R0:=Aq B0 u0
 refine Bu 10 8191 b0 rfl .plain (bd 179) rfl (e2 rfl rfl) (fun w9 hw9=>aa_c n (g0.hL hL hw9) (Av R0 hw9) D0) rfl fun Y1 X1 A0 ⟨F0,hu_,C0⟩=>?_
 subst hu_
 obtain ⟨y0,t0⟩:=g0.agr A0
 obtain ⟨C4,q3⟩:=AH y0 (.a0 (.a0 (.a0 (.a0 (.a0 .done)))))
 have F3:=Tt c0 (Tt t0 q3)
 exact v0 (X0,F0,k0,p0) C4 (Tt d0 (Tt s0 F3)) ⟨(Aq U0 F3),(Aq C0 q3)⟩
 refine BG (m' :=7103) (sk b0) rfl .plain rfl (AE [.bool false,vN] j0) fun g1 k0 g0 c0=>?_
 have P1:=Aq R1 (Tt d0 c0)
 refine Bu 6 7167 b0 rfl .plain (bd 179) rfl (e2 rfl rfl) (fun w9 hw9=>aa_c n (g0.hL hL hw9) (Av P1 hw9) U1) rfl fun I2 H2 u1 ⟨X0,hu_,U0⟩=>?_
 subst hu_
 obtain ⟨q0,s0⟩:=g0.agr u1
 have u0:=Tt d0 (Tt c0 s0)
 have R0:=Aq B0 u0
 refine Bu 10 8191 b0 rfl .plain (bd 179) rfl (e2 rfl rfl) (fun w9 hw9=>aa_c n (q0.hL hL hw9) (Av R0 hw9) D0) rfl fun Y1 X1 A0 ⟨F0,hu_,C0⟩=>?_
 subst hu_
 obtain ⟨y0,t0⟩:=q0.agr A0
 obtain ⟨D4,E2⟩:=AH y0 (.a0 (.a0 (.a0 (.a0 (.a0 .done)))))
 exact v0 (X0,F0,k0,p0) D4 (Tt u0 (Tt t0 E2)) ⟨(Aq U0 (Tt t0 E2)),(Aq C0 E2)⟩
 refine BG (m' :=5055) (sk b0) rfl .plain rfl (AE [.bool false,vN] Z0) fun g1 k0 g0 c0=>By [6,11] (rk b0) ⟨?_,?_,trivial⟩
 have P1:=Aq R1 c0
 refine RO.call (m' :=5119) (fst:=[]) (cap:=[]) (sk b0) rfl .plain (bd 179) rfl (e2 rfl rfl) (fun w9 hw9=>aa_c n (g0.hL hL hw9) (Av P1 hw9) U1) rfl fun I2 H2 u1 ⟨X0,hu_,U0⟩=>?_
 subst hu_
 obtain ⟨q0,s0⟩:=g0.agr u1
 refine By [10,11] (rk b0) ⟨?_,?_,trivial⟩
 refine RO.call (m' :=6143) (fst:=[]) (cap:=[]) (sk b0) rfl .plain (bd 179) rfl (e2 rfl rfl) (fun w9 hw9=>aa_c n (q0.hL hL hw9) (Av (Aq B0 (Tt c0 s0)) hw9) D0) rfl fun y2 x2 Q0 ⟨P0,hu_,K0⟩=>?_
 subst hu_
 obtain ⟨I0,J0⟩:=q0.agr Q0
 refine BV 11 8191 b0 rfl .plain rfl (AE [.bool false,vN] I0) fun j1 p0 j0 d0=>?_
 obtain ⟨E4,s3⟩:=AH j0 (.a1 (.a0 (.a0 (.a0 (.a0 .done)))))
 have G3:=Tt J0 (Tt d0 s3)
 exact v0 (X0,P0,k0,p0) E4 (Tt c0 (Tt s0 G3)) ⟨(Aq U0 G3),(Aq K0 (Tt d0 s3))⟩
 refine BG (m' :=7167) (sk b0) rfl .plain rfl (AE [.bool false,vN] q0) fun j1 p0 j0 d0=>?_
 have u0:=Tt c0 (Tt s0 d0)
 have R0:=Aq B0 u0
 refine Bu 10 8191 b0 rfl .plain (bd 179) rfl (e2 rfl rfl) (fun w9 hw9=>aa_c n (j0.hL hL hw9) (Av R0 hw9) D0) rfl fun Y1 X1 A0 ⟨F0,hu_,C0⟩=>?_
 subst hu_
 obtain ⟨y0,t0⟩:=j0.agr A0
 obtain ⟨F4,u3⟩:=AH y0 (.a1 (.a0 (.a0 (.a0 (.a0 .done)))))
 have H3:=Tt d0 (Tt t0 u3)
 exact v0 (X0,F0,k0,p0) F4 (Tt c0 (Tt s0 H3)) ⟨(Aq U0 H3),(Aq C0 u3)⟩
 refine BG (m' :=7103) (sk b0) rfl .plain rfl (AE [.bool false,vN] g0) fun j1 p0 j0 d0=>Bu 6 7167 b0 rfl .plain (bd 179) rfl (e2 rfl rfl) (fun w9 hw9=>aa_c n (j0.hL hL hw9) (Av (Aq R1 (Tt c0 d0)) hw9) U1) rfl fun I2 H2 u1 ⟨X0,hu_,U0⟩=>?_
 subst hu_
 obtain ⟨q0,s0⟩:=j0.agr u1
 have u0:=Tt c0 (Tt d0 s0)
 refine Bu 10 8191 b0 rfl .plain (bd 179) rfl (e2 rfl rfl) (fun w9 hw9=>aa_c n (q0.hL hL hw9) (Av (Aq B0 u0) hw9) D0) rfl fun Y1 X1 A0 ⟨F0,hu_,C0⟩=>?_
 subst hu_
 obtain ⟨y0,t0⟩:=q0.agr A0
 obtain ⟨G4,F2⟩:=AH y0 (.a1 (.a0 (.a0 (.a0 (.a0 .done)))))
 exact v0 (X0,F0,k0,p0) G4 (Tt u0 (Tt t0 F2)) ⟨(Aq U0 (Tt t0 F2)),(Aq C0 F2)⟩
def aZ_p (n:Nat) (a0:Td) (a1:Td):Option Tg:=
  (aU_p n a0 a1).bind fun b0=>jn (fun (d0,g0)=>(bH_p n a0 (⟨d0,g0⟩:Td)).bind fun k0=>(bH_p n a1 (⟨d0,g0⟩:Td)).bind fun p0=>some (⟨k0.1,p0.1⟩:Tg)) (fun c0=>(if a1.fc = true then (cj_p n b0).bind fun j0=>c0 (j0.fc,j0.fD) else c0 (b0.fc,b0.fD)))
theorem aZ_c (n:Nat) {L w} (hL:hl L w) (a0:Td) {v0_1:Value} (h0_1:Rep.R w L [v0_1] a0.fD) (a1:Td) {v1_1:Value} (h1_1:Rep.R w L [v1_1] a1.fD)  {r:Tg} (h:aZ_p n a0 a1 = some r) :
 Cl 157 #[.agg #[.bool a0.fc,v0_1],.agg #[.bool a1.fc,v1_1]] w (ae w fun w' u=>∃ v0_1 v0_3:Value,u = .agg #[.bool r.fN.fc,v0_1,.bool r.fD.fc,v0_3]/\Rep.R w' L [v0_1] r.fN.fD/\Rep.R w' L [v0_3] r.fD.fD):=by
 unfold aZ_p at h
 refine AF func157 rfl rfl rfl fun _ cs0 hb0=>Ae<|RG.bx (AC w) rfl rfl fun M2 y0 z1 B2=>RG.bx z1 rfl rfl fun X2 z0 C1 C2=>RG.nl [.bool false,vN,.bool false,vN] C1 fun Y2 A0 g0 D2=>Aa<|Ae<|Ab (AK rfl (g0.memA .t2))<|Ab (AK rfl (g0.memA .t1))<|bk h fun x0 c2 h=>jE (bd 155) rfl (e2 rfl rfl) (fun w9 hw9=>aU_c n (g0.hL hL hw9) a0 (g0.km h0_1 hw9) a1 (g0.km h1_1 hw9) c2) rfl fun Z2 H2 R1 ⟨q1,hu_,M0⟩=>?_
 subst hu_
 obtain ⟨D1,E2⟩:=g0.agr R1
 refine RG.nl [.bool false,vN] D1 fun b3 B0 E1 G0=>AX [.bool x0.fc,q1] E1 .hd (o2 rfl (AY (Aq M0 G0))) fun c3 j0 X0=>Aa<|Ai<|Ae<|AT 0 rfl<|AL rfl ((j0.memA .t2) 0 _ rfl)<|Aa<|MX.jf (α:=Bool × (List Int) × Value) (fun ⟨b0,c0,d0⟩=>[(2,vP y0),(3,vP z0),(4,vP A0),(5,vP B0)]) (fun ⟨b0,c0,d0⟩=>[.cells B0 [.bool b0,d0] 189,.cells A0 [.bool false,vN,.bool false,vN] 191,.cells z0 [.bool a1.fc,v1_1] 189,.cells y0 [.bool a0.fc,v0_1] 189]) (fun ⟨b0,c0,d0⟩ s1=>Rep.R s1 (bl [.cells B0 [.bool b0,d0] 189,.cells A0 [.bool false,vN,.bool false,vN] 191,.cells z0 [.bool a1.fc,v1_1] 189,.cells y0 [.bool a0.fc,v0_1] 189] ++ L) [d0] c0) (fun ⟨b0,c0,d0⟩=>(b0,c0)) j0 h ?_ ?_
 rintro ⟨b0,c0,d0⟩ s1 t0 F2 k1 h
 try dsimp only at h
 refine Ae<|Ab (AK rfl (t0.memA .t3))<|Ab (AK rfl (t0.memA .hd))<|bk h fun q0 d2 h=>jE (bd 185) rfl (e2 rfl rfl) (fun w9 hw9=>bH_c n (t0.hL hL hw9) a0 (t0.km h0_1 hw9) (⟨b0,c0⟩:Td) (Av k1 hw9) d2) rfl fun d3 I2 U1 ⟨p0,k2,hu_,P0,X1⟩=>?_
 subst hu_
 obtain ⟨F1,P1⟩:=t0.agr U1
 refine Ac rfl<|Ab (Aj rfl rfl)<|Ab (Aj rfl rfl)<|RG.nl [.bool false,vN] F1 fun g3 x2 G1 H0=>RG.nl [.bool false,vN] G1 fun j3 y2 H1 I0=>AX [.bool q0.1.fc,p0] H1 .t1 (o2 rfl (AY (Aq P0 (Tt H0 I0)))) fun k3 I1 Y0=>?_
 have g1:=Tt H0 (Tt I0 Y0)
 refine AX [.bool q0.2.fc,k2] I1 .hd (o2 rfl (AY (Aq X1 g1))) fun p3 u0 Z0=>Aa<|Ae<|Ab (AK rfl (u0.memA .t4))<|Ab (AK rfl (u0.memA .t2))<|bk h fun s0 g2 h=>jE (bd 185) rfl (e2 rfl rfl) (fun w9 hw9=>bH_c n (u0.hL hL hw9) a1 (u0.km h1_1 hw9) (⟨b0,c0⟩:Td) (Av (Aq k1 (Tt P1 (Tt H0 (Tt I0 (Tt Y0 Z0))))) hw9) g2) rfl fun q3 J2 V1 ⟨k0,j2,hu_,K0,W1⟩=>?_
 subst hu_
 obtain ⟨J1,K1⟩:=u0.agr V1
 refine Ac rfl<|Ab (Aj rfl rfl)<|Ab (Aj rfl rfl)<|RG.nl [.bool false,vN] J1 fun K2 u2 v1 D0=>RG.nl [.bool false,vN] v1 fun P2 v2 x1 E0=>AX [.bool s0.1.fc,k0] x1 .t1 (o2 rfl (AY (Aq K0 (Tt D0 E0)))) fun Q2 y1 U0=>?_
 have J0:=Tt D0 (Tt E0 U0)
 refine AX [.bool s0.2.fc,j2] y1 .hd (o2 rfl (AY (Aq W1 J0))) fun R2 C0 F0=>Aa<|Ae<|Ab (AK rfl (C0.memA .t3))<|Ab (AK rfl (C0.memA .t1)) ?_
 have d1:=Tt g1 (Tt Z0 (Tt K1 (Tt D0 (Tt E0 (Tt U0 F0)))))
 have b1:=Aq P0 d1
 obtain ⟨p2,z2,Y1,_⟩:=BI b1
 have c1:=Aq K0 (Tt J0 F0)
 obtain ⟨q2,A2,Z1,_⟩:=BI c1
 refine Ab (AU (vs:=[.agg #[.bool q0.1.fc,p0],.agg #[.bool s0.1.fc,k0]]) (u:=.agg #[.bool q0.1.fc,p0,.bool s0.1.fc,k0]) (e2 rfl rfl) (fun w9=>by rw [Y1,Z1]; try kernel_rfl))<|AX [.bool q0.1.fc,p0,.bool s0.1.fc,k0] C0 .t5 (o4 rfl (AY b1) rfl (AY c1)) fun U2 v0 V0=>Aa<|Ak rfl<|Ar hb0 func157 rfl (.cons (.many (cs:=[.bool q0.1.fc,p0,.bool s0.1.fc,k0]) rfl rfl (v0.memA .t5)) .nil) rfl ?_
 cases h
 exact ⟨v0.ag,fun w9 hw9=>⟨p0,k0,rfl,v0.kd (Aq P0 (Tt d1 V0)) hw9,v0.kd (Aq K0 (Tt J0 (Tt F0 V0))) hw9⟩⟩
 intro s2 R0 h
 try dsimp only at h
 refine MX.ifb rfl h (fun u1 h=>?_) (fun u1 h=>?_)
 refine Am<|Ab (AK rfl (j0.memA .hd))<|bk h fun Q0 b2 h=>jE (bd 184) rfl (e1 rfl) (fun w9 hw9=>cj_c n (j0.hL hL hw9) x0 (Av (Aq M0 (Tt G0 X0)) hw9) b2) rfl fun V2 G2 Q1 ⟨p1,hu_,j1⟩=>?_
 subst hu_
 obtain ⟨A1,M1⟩:=j0.agr Q1
 refine AX [.bool Q0.fc,p1] A1 .hd (o2 rfl (AY j1)) fun W2 B1 W0=>Aa<|R0 (Q0.fc,Q0.fD,p1) B1 (Tt M1 W0) (Aq j1 W0) h
 refine Ap<|R0 (x0.fc,x0.fD,q1) j0 (Bw _ _) (Aq M0 (Tt G0 X0)) h
def cO_p (n:Nat) (a0:Int) (a1:Int):Option Tg:=
  (bm_p n a0).bind fun b0=>(bm_p n a1).bind fun c0=>(aZ_p n b0 c0).bind fun d0=>some d0
theorem cO_c (n:Nat) {L w} (hL:hl L w) {a0:Int} {a1:Int}  {r:Tg} (h:cO_p n a0 a1 = some r) :
 Cl 127 #[vI a0,vI a1] w (ae w fun w' u=>∃ v0_1 v0_3:Value,u = .agg #[.bool r.fN.fc,v0_1,.bool r.fD.fc,v0_3]/\Rep.R w' L [v0_1] r.fN.fD/\Rep.R w' L [v0_3] r.fD.fD):=by
 unfold cO_p at h
 refine AF func127 rfl rfl rfl fun _ cs0 hb0=>Ae<|RG.nl [.bool false,vN,.bool false,vN] (AC w) fun V0 H0 j0 I0=>Aa<|Ae<|Ac rfl<|bk h fun F0 C0 h=>jE (bd 163) rfl (e1 rfl) (fun w9 hw9=>bm_c n (j0.hL hL hw9)  C0) rfl fun W0 Q0 x0 ⟨M0,hu_,A0⟩=>?_
 subst hu_
 obtain ⟨k0,J0⟩:=j0.agr x0
 refine Ac rfl<|bk h fun G0 D0 h=>jE (bd 163) rfl (e1 rfl) (fun w9 hw9=>bm_c n (k0.hL hL hw9)  D0) rfl fun X0 R0 y0 ⟨P0,hu_,B0⟩=>?_
 subst hu_
 obtain ⟨p0,v0⟩:=k0.agr y0
 refine bk h fun c0 E0 h=>jE (bd 157) rfl (e2 rfl rfl) (fun w9 hw9=>aZ_c n (p0.hL hL hw9) F0 (Av (Aq A0 v0) hw9) G0 (Av B0 hw9) E0) rfl fun Y0 U0 z0 ⟨d0,g0,hu_,s0,t0⟩=>?_
 subst hu_
 obtain ⟨u0,K0⟩:=p0.agr z0
 refine AX [.bool c0.fN.fc,d0,.bool c0.fD.fc,g0] u0 .hd (o4 rfl (AY s0) rfl (AY t0)) fun Z0 b0 q0=>Aa<|Ak rfl<|Ar hb0 func127 rfl (.cons (.many (cs:=[.bool c0.fN.fc,d0,.bool c0.fD.fc,g0]) rfl rfl (b0.memA .hd)) .nil) rfl ?_
 cases h
 exact ⟨b0.ag,fun w9 hw9=>⟨d0,g0,rfl,b0.kd (Aq s0 q0) hw9,b0.kd (Aq t0 q0) hw9⟩⟩
def df_p (n:Nat) (a0:Int) (a1:Int):Option (Tb × Int):=
  (if a1 = 0 then some ((⟨(0,0,0,0,0,0,0,0),(0,0,0,0,0,0,0,0)⟩:Tb),(7:Int)) else (cO_p n a0 a1).bind fun c0=>(bC_p n c0).bind fun b0=>some (b0.1,b0.2))
theorem df_c (n:Nat) {L w} (hL:hl L w) {a0:Int} {a1:Int}  {r:Tb × Int} (h:df_p n a0 a1 = some r) :
 Cl 89 #[vI a0,vI a1] w (ae w fun _ u=>u = .tuple #[.agg ((ac r.1)).toArray,vI r.2]):=by
 unfold df_p at h
 refine AF func89 rfl rfl rfl fun _ cs0 hb0=>Ae<|RG.nl zL (AC w) fun F0 x0 d0 y0=>Af rfl<|Aa<|Ai<|Ae<|Ac rfl<|Ab (FV.eql (i:=a1) (j:=0) rfl rfl)<|Aa<|AO rfl h (fun k0 h=>?_) (fun k0 h=>?_)
 refine Ae<|Ab (AU (vs:=[]) (u:=.agg zM) am (fun w9=>by kernel_rfl))<|AX zL d0 .hd (aq rfl) fun G0 g0 z0=>Af rfl<|Aa<|Ak rfl<|Ar hb0 func89 rfl (.cons (.many (cs:=zL) rfl rfl (g0.memA .hd)) (.cons (.tmp rfl) .nil)) rfl ?_
 cases h
 exact g0.gv
 refine Ap<|Ae<|Ac rfl<|Ac rfl<|bk h fun v0 t0 h=>jE (bd 127) rfl (e2 rfl rfl) (fun w9 hw9=>cO_c n (d0.hL hL hw9)  t0) rfl fun H0 E0 p0 ⟨C0,D0,hu_,q0,s0⟩=>?_
 subst hu_
 obtain ⟨b0,A0⟩:=d0.agr p0
 refine bk h fun c0 u0 h=>Bk (.tuple #[.agg ((ac c0.1)).toArray,vI c0.2]) (bd 115) rfl (e1 rfl) (fun w9 hw9=>bC_c n (b0.hL0 hL hw9) v0 (b0.kd q0 hw9) (b0.kd s0 hw9) u0) rfl<|Ab (Aj rfl rfl)<|Ab (Aj rfl rfl)<|AX (ac c0.1) b0 .hd (aq rfl) fun I0 j0 B0=>Af rfl<|Aa<|Ak rfl<|Ar hb0 func89 rfl (.cons (.many (cs:=(ac c0.1)) rfl rfl (j0.memA .hd)) (.cons (.tmp rfl) .nil)) rfl ?_
 cases h
 exact j0.gv
def bL_p (n:Nat) (a0:Int) (a1:Int):Option Tb:=
  (df_p n a0 a1).bind fun b0=>some b0.1
theorem bL_c (n:Nat) {L w} (hL:hl L w) {a0:Int} {a1:Int}  {r:Tb} (h:bL_p n a0 a1 = some r) :
 Cl 47 #[vI a0,vI a1] w (ae w fun _ u=>u = .agg ((ac r)).toArray):=by
 unfold bL_p at h
 refine AF func47 rfl rfl rfl fun _ cs0 hb0=>Ae<|RG.nl zL (AC w) fun x0 p0 c0 s0=>Aa<|Ae<|Ac rfl<|Ac rfl<|bk h fun b0 k0 h=>Bk (.tuple #[.agg ((ac b0.1)).toArray,vI b0.2]) (bd 89) rfl (e2 rfl rfl) (fun w9 hw9=>df_c n (c0.hL0 hL hw9)  k0) rfl<|Ac rfl<|Ab (Aj rfl rfl)<|Ab (Aj rfl rfl)<|RG.nl zL c0 fun y0 q0 j0 t0=>AX (ac b0.1) j0 .hd (aq rfl) fun z0 d0 u0=>Af rfl<|Aa<|Ae<|Ab (AK rfl (d0.memA .hd))<|AX (ac b0.1) d0 .t1 (aq rfl) fun A0 g0 v0=>Aa<|Ak rfl<|Ar hb0 func47 rfl (.cons (.many (cs:=(ac b0.1)) rfl rfl (g0.memA .t1)) .nil) rfl ?_
 cases h
 exact g0.gv
def aE_l1 (n:Nat) (a0:UInt64) (a2:Bool) (a1:Te) (d0:Int × Nat -> Option Int):Int × Nat -> Option Int
  | (c0,b0)=>(if b0 < 64 then (bM_p n a0 ((b0:Nat):Int)).bind fun p0=>(if p0 = true then (if a2 = true then (a1.fm[b0]?).bind fun k0=>(chk (c0 + k0.fx)).bind fun g0=>d0 (g0,b0 + 1) else (chk (c0 + 1)).bind fun j0=>d0 (j0,b0 + 1)) else d0 (c0,b0 + 1)) else some c0)
def aE_p (n:Nat) (a0:UInt64) (a1:Te) (a2:Bool):Option Int:=
  Option.bind (ah (aE_l1 n a0 a2 a1) n (0,0)) (fun b0=>some b0)
theorem aE_c (n:Nat) {L w} (hL:hl L w) (a0:UInt64) (a1:Te) {v1_3:Value} (h1_3:Rep.R w L [v1_3] a1.fm) {a2:Bool}  {r:Int} (h:aE_p n a0 a1 a2 = some r) :
 Cl 90 #[vU a0,.agg #[vI a1.fh,vI a1.fe,vI a1.fj,v1_3],.bool a2] w (ae w fun _ u=>u = vI r):=by
 unfold aE_p at h
 refine AF func90 rfl rfl rfl fun _ cs0 hb0=>Ae<|RG.bx (AC w) rfl rfl fun b1 k0 t0 Q0=>Af rfl<|Aa<|Ae<|Af rfl<|Aa<|Ai<|Ae<|Af rfl<|Aa<|Au ?_
 obtain ⟨W0,z0,v0⟩:=ao h
 refine BT (α:=Int × Nat) (fun ⟨c0,b0⟩=>[(0,vU a0),(2,.bool a2),(4,vP k0),(7,vI c0),(8,vI ((b0:Nat):Int))]) (fun ⟨c0,b0⟩=>[.cells k0 [vI a1.fh,vI a1.fe,vI a1.fj,v1_3] 58]) (fun ⟨c0,b0⟩=>(c0,b0)) (0,0) z0 t0 ?_
 rintro K0 ⟨c0,b0⟩ c1 g0 d0 j0 h
 unfold aE_l1 at h
 try dsimp only at h
 refine Ai<|Ae<|Ac rfl<|Ab (Bj (i:=b0) (j:=64) rfl rfl)<|Aa<|AO rfl h (fun p0 h=>?_) (fun p0 h=>?_)
 refine Ap<|Ai<|Au<|Ai<|Ae<|Ac rfl<|Ac rfl<|bk h fun I0 E0 h=>Bk (.bool I0) (bd 44) rfl (e2 rfl rfl) (fun w9 hw9=>bM_c n (d0.hL0 hL hw9) a0 E0) rfl<|Ab (Bp rfl)<|Aa<|BU rfl h (fun q0 h=>?_) (fun q0 h=>?_)
 refine Ap<|Ae<|Ac rfl<|Aa<|MX.ifb rfl h (fun s0 h=>?_) (fun s0 h=>?_)
 refine Am<|Ac rfl<|AT 3 rfl<|AL rfl ((d0.memA .hd) 3 _ rfl)<|Ac rfl<|bk h fun H0 D0 h=>?_
 obtain ⟨J0,M0,u0,x0,P0,A0,y0⟩:=Bg (AM h1_3 d0) D0
 obtain ⟨X0,Y0,Z0,rfl,R0,U0,V0⟩:=bm A0
 refine Ab (Bi 6 b0 rfl u0 rfl rfl x0)<|AT 1 rfl<|AL rfl (y0 1 _ rfl)<|bk h fun F0 B0 h=>Ab (BE (i:=c0) (j:=H0.fx) rfl rfl B0)<|Af rfl<|Aa<|Aw<|Am<|Ac rfl<|Ab (Bf (i:=b0) (j:=1) rfl rfl (by omega))<|Af rfl<|Aa<|g0 (F0,b0 + 1) d0 j0 h
 refine Am<|Ac rfl<|bk h fun G0 C0 h=>Ab (BE (i:=c0) (j:=1) rfl rfl C0)<|Af rfl<|Aa<|Aw<|Am<|Ac rfl<|Ab (Bf (i:=b0) (j:=1) rfl rfl (by omega))<|Af rfl<|Aa<|g0 (G0,b0 + 1) d0 j0 h
 refine AV rfl<|Am<|Ac rfl<|Ab (Bf (i:=b0) (j:=1) rfl rfl (by omega))<|Af rfl<|Aa<|g0 (c0,b0 + 1) d0 j0 h
 refine AV rfl ?_
 have h:=v0 _ h
 try dsimp only at h
 refine Ae<|Ac rfl<|Af rfl<|Aa<|Ak rfl<|AQ hb0 func90 rfl rfl ?_
 cases h
 exact d0.gv
def aV_l1 (n:Nat) (c0:List UInt64) (a1:Te) (k0:Int) (g0:Int × Nat -> Option Int):Int × Nat -> Option Int
  | (d0,b0)=>(if b0 < c0.length then (c0[b0]?).bind fun j0=>(aE_p n j0 a1 (decide (0 < k0))).bind fun p0=>g0 (max d0 p0,b0 + 1) else some d0)
def aV_p (n:Nat) (a0:Ta) (a1:Te) (a2:List Int) (a3:Int):Option Tb:=
  (aE_p n a0.fm a1 true).bind fun b0=>(aP_p n a0 a2 a3).bind fun g0=>Option.bind (ah (aV_l1 n g0 a1 b0) n (0,0)) (fun j0=>(aE_p n a0.fm a1 (decide (0 < b0))).bind fun c0=>(bL_p n j0 c0).bind fun d0=>some d0)
theorem aV_c (n:Nat) {L w} (hL:hl L w) (a0:Ta) (a1:Te) {v1_3:Value} (h1_3:Rep.R w L [v1_3] a1.fm) {a2:List Int} {v2_0:Value} (h2_0:Rep.R w L [v2_0] a2) {a3:Int}  {r:Tb} (h:aV_p n a0 a1 a2 a3 = some r) :
 Cl 74 #[.agg #[.string a0.ft,vI a0.fE,vU a0.fm],.agg #[vI a1.fh,vI a1.fe,vI a1.fj,v1_3],v2_0,vI a3] w (ae w fun _ u=>u = .agg ((ac r)).toArray):=by
 unfold aV_p at h
 refine AF func74 rfl rfl rfl fun _ cs0 hb0=>Ae<|RG.bx (AC w) rfl rfl fun D1 x0 G0 u1=>RG.bx G0 rfl rfl fun E1 y0 H0 v1=>RG.nl zL H0 fun F1 z0 j0 x1=>Aa<|Ae<|AT 2 rfl<|AL rfl ((j0.memA .t2) 2 _ rfl)<|Ab (AK rfl (j0.memA .t1))<|bk h fun t0 b1 h=>Bk (vI t0) (bd 90) rfl (e3 rfl rfl rfl) (fun w9 hw9=>aE_c n (j0.hL0 hL hw9) a0.fm a1 (j0.k0 h1_3 hw9) b1) rfl<|Ab (FV.gtr (i:=t0) (j:=0) rfl rfl)<|Af rfl<|Aa<|Ae<|Ab (AK rfl (j0.memA .t2))<|Ac rfl<|Ac rfl<|bk h fun u0 c1 h=>jE (bd 73) rfl (e3 rfl rfl rfl) (fun w9 hw9=>aP_c n (j0.hL hL hw9) a0 (j0.km h2_0 hw9) c1) rfl fun G1 g1 J0 ⟨B1,hu_,V0⟩=>?_
 subst hu_
 obtain ⟨I0,y1⟩:=j0.agr J0
 refine Af rfl<|Aa<|Ae<|Af rfl<|Aa<|Ai<|Ae<|Af rfl<|Aa<|Au ?_
 obtain ⟨A1,U0,P0⟩:=ao h
 refine BT (α:=Int × Nat) (fun ⟨p0,g0⟩=>[(4,vP x0),(5,vP y0),(8,vP z0),(9,.bool (decide (0 < t0))),(10,g1),(11,vI p0),(12,vI ((g0:Nat):Int))]) (fun ⟨p0,g0⟩=>[.cells z0 zL 42,.cells y0 [vI a1.fh,vI a1.fe,vI a1.fj,v1_3] 58,.cells x0 [.string a0.ft,vI a0.fE,vU a0.fm] 65]) (fun ⟨p0,g0⟩=>(p0,g0)) (0,0) U0 I0 ?_
 rintro p1 ⟨p0,g0⟩ H1 F0 c0 B0 h
 unfold aV_l1 at h
 try dsimp only at h
 refine Ai<|Ae<|Ac rfl<|Ac rfl ?_
 have q0:=Aq V0 B0
 have z1:u0.length <= 281474976710656:=AS q0
 refine Ab (AW (xs:=u0) underlying75 rfl q0)<|Ab (Bj (i:=g0) (j:=u0.length) rfl rfl)<|Aa<|AO rfl h (fun D0 h=>?_) (fun D0 h=>?_)
 refine Ap<|Ai<|Au<|du 10 fun b0 d0=>Rv 0 b0 rfl d0 (fun _=>Ah rfl)<|Rv 1 b0 rfl d0 (fun _=>Ah rfl)<|Rv 2 b0 rfl d0 (fun _=>Ah rfl)<|bk h fun C0 X0 h=>?_
 obtain ⟨k1,q1,K0,Q0,E0,W0,R0⟩:=Bg q0 X0
 have M0:E0 = [vU C0]:=W0; subst M0
 refine Rv 3 b0 rfl d0 (fun _=>Bi 1 g0 rfl K0 rfl rfl Q0)<|Rx 4 896 b0 rfl d0 (AN rfl (R0 0 _ rfl))<|Rx 5 896 b0 rfl d0 (AK rfl (c0.memA .t1))<|Rv 6 b0 rfl d0 (fun _=>Ah rfl)<|bk h fun v0 d1 h=>RD.cq 7 255 768 (vI v0) b0 rfl d0 (bd 90) rfl (e3 rfl rfl rfl) (fun w9 hw9=>aE_c n (c0.hL0 hL hw9) C0 a1 (c0.k0 h1_3 hw9) d1) rfl<|Rv 8 b0 rfl d0 (fun _=>FV.max2 (i:=p0) (j:=v0) rfl rfl)<|Rv 9 b0 rfl d0 (fun _=>Bm rfl)<|AR (dk b0)<|Aw<|Am<|Ac rfl<|Ab (Bf (i:=g0) (j:=1) rfl rfl (by omega))<|Af rfl<|Aa<|F0 (max p0 v0,g0 + 1) c0 B0 h
 refine AV rfl ?_
 have h:=P0 _ h
 try dsimp only at h
 refine Ae<|Ac rfl<|AT 2 rfl<|AL rfl ((c0.memA .t2) 2 _ rfl)<|Ab (AK rfl (c0.memA .t1))<|Ac rfl<|bk h fun j1 Y0 h=>Bk (vI j1) (bd 90) rfl (e3 rfl rfl rfl) (fun w9 hw9=>aE_c n (c0.hL0 hL hw9) a0.fm a1 (c0.k0 h1_3 hw9) Y0) rfl<|bk h fun s0 Z0 h=>Bk (.agg ((ac s0)).toArray) (bd 47) rfl (e2 rfl rfl) (fun w9 hw9=>bL_c n (c0.hL0 hL hw9)  Z0) rfl<|AX (ac s0) c0 .hd (aq rfl) fun C1 A0 s1=>Aa<|Ak rfl<|Ar hb0 func74 rfl (.cons (.many (cs:=(ac s0)) rfl rfl (A0.memA .hd)) .nil) rfl ?_
 cases h
 exact A0.gv
def aL_l1 (n:Nat) (a0:List Ta) (a1:Te) (a2:List Int) (a3:Int) (d0:Nat × (List Tb) -> Option (List Tb)):Nat × (List Tb) -> Option (List Tb)
  | (b0,c0)=>(if b0 < a0.length then (a0[b0]?).bind fun g0=>(aV_p n g0 a1 a2 a3).bind fun k0=>(app c0 ([k0]:List Tb)).bind fun j0=>d0 (b0 + 1,j0) else some c0)
def aL_p (n:Nat) (a0:List Ta) (a1:Te) (a2:List Int) (a3:Int):Option ((List Tb) × Int):=
  (aD_p n a0 a1 a2 a3).bind fun b0=>(if b0 = 0 then Option.bind (ah (aL_l1 n a0 a1 a2 a3) n (0,([]:List Tb))) (fun c0=>some (c0,(0:Int))) else some (([]:List Tb),b0))
theorem aL_c (n:Nat) {L w} (hL:hl L w) {a0:List Ta} {v0_0:Value} (h0_0:Rep.R w L [v0_0] a0) (a1:Te) {v1_3:Value} (h1_3:Rep.R w L [v1_3] a1.fm) {a2:List Int} {v2_0:Value} (h2_0:Rep.R w L [v2_0] a2) {a3:Int}  {r:(List Tb) × Int} (h:aL_p n a0 a1 a2 a3 = some r) :
 Cl 36 #[v0_0,.agg #[vI a1.fh,vI a1.fe,vI a1.fj,v1_3],v2_0,vI a3] w (ae w fun w' u=>∃ v0_0:Value,u = .tuple #[v0_0,vI r.2]/\Rep.R w' L [v0_0] r.1):=by
 unfold aL_p at h
 refine AF func36 rfl rfl rfl fun _ cs0 hb0=>Ae<|RG.bx (AC w) rfl rfl fun F1 u0 c0 A1=>Af rfl<|Af rfl<|Aa<|Ai<|Ae<|Ac rfl<|Ab (AK rfl (c0.memA .hd))<|Ac rfl<|Ac rfl<|bk h fun E0 k1 h=>Bk (vI E0) (bd 72) rfl (e4 rfl rfl rfl rfl) (fun w9 hw9=>aD_c n (c0.hL0 hL hw9) (c0.k0 h0_0 hw9) a1 (c0.k0 h1_3 hw9) (c0.k0 h2_0 hw9) k1) rfl<|Af rfl<|Aa<|Ae<|Ac rfl<|Ab (FV.neq (i:=E0) (j:=0) rfl rfl)<|Aa<|MX.ifn rfl h (fun G0 h=>?_) (fun G0 h=>?_)
 refine Ap<|Ae<|Af rfl<|Aa<|Ai<|Ae<|Af rfl<|Aa<|Au ?_
 have z0:=c0.nilRow 42 (Rep.size Tb)
 have C1:=BJ c0 42 (Rep.size Tb)
 obtain ⟨E1,X0,U0⟩:=ao h
 refine MX.lf (α:=Nat × (List Tb) × Value × (List Value)) (fun ⟨d0,s0,q0,t0⟩=>[(0,v0_0),(2,v2_0),(3,vI a3),(5,vP u0),(11,q0),(12,vI ((d0:Nat):Int))]) (fun ⟨d0,s0,q0,t0⟩=>[rr w 42 Tb q0 s0.length t0,.cells u0 [vI a1.fh,vI a1.fe,vI a1.fj,v1_3] 58]) (fun ⟨d0,s0,q0,t0⟩ D0=>Cells D0 (bl [rr w 42 Tb q0 s0.length t0,.cells u0 [vI a1.fh,vI a1.fe,vI a1.fj,v1_3] 58] ++ L) t0 s0) (fun ⟨d0,s0,q0,t0⟩=>(d0,s0)) (0,([]:List Tb),vN,[]) X0 z0 (AB (cs:=[]) (xs:=([]:List Tb)) z0 L (AG _ _)) ?_
 rintro v1 ⟨d0,s0,q0,t0⟩ D0 I0 p0 P0 C0 h
 unfold aL_l1 at h
 try dsimp only at h
 refine Ai<|Ae<|Ac rfl<|Ac rfl ?_
 have y0:=AM h0_0 p0
 have D1:a0.length <= 281474976710656:=AS y0
 refine Ab (AW (xs:=a0) underlying30 rfl y0)<|Ab (Bj (i:=d0) (j:=a0.length) rfl rfl)<|Aa<|AO rfl h (fun F0 h=>?_) (fun F0 h=>?_)
 refine Ap<|Ai<|Au<|du 10 fun b0 g0=>Rv 0 b0 rfl g0 (fun _=>Ah rfl)<|Rv 1 b0 rfl g0 (fun _=>Ah rfl)<|Rv 2 b0 rfl g0 (fun _=>Ah rfl)<|bk h fun q1 c1 h=>?_
 obtain ⟨u1,y1,R0,V0,z1,Y0,W0⟩:=Bg y0 c1
 obtain rfl:=bw Y0
 refine Rv 3 b0 rfl g0 (fun _=>Bi 3 d0 rfl R0 rfl rfl V0)<|Rx 4 3840 b0 rfl g0 (AK rfl W0)<|Rx 5 3840 b0 rfl g0 (AK rfl (p0.memA .t1))<|Rv 6 b0 rfl g0 (fun _=>Ah rfl)<|Rv 7 b0 rfl g0 (fun _=>Ah rfl)<|bk h fun j0 j1 h=>RD.cq 8 511 3584 (.agg ((ac j0)).toArray) b0 rfl g0 (bd 74) rfl (e4 rfl rfl rfl rfl) (fun w9 hw9=>aV_c n (p0.hL0 hL hw9) q1 a1 (p0.k0 h1_3 hw9) (p0.k0 h2_0 hw9) j1) rfl<|BV 9 1023 b0 rfl .plain rfl (AJ (α:=Tb) (xs:=([j0]:List Tb)) (vs:=[.agg ((ac j0)).toArray]) (ds' :=(ac j0)) rfl p0 im rfl (e1 rfl) (by kernel_rfl) rfl) fun G1 x1 v0 A0=>bk h fun s1 g1 h=>BS (i:=10) (rk b0) (BK (m' :=2047) (sk b0) rfl rfl .plain rfl (Bh (α:=Tb) (ys:=([j0]:List Tb)) g1 v0 (fun _ _=>.t1) im rfl rfl (Ay C0 A0) (BN (α:=Tb) v0 .hd (AB (cs:=(ac j0)) (xs:=(([j0]:List Tb):List Tb)) v0 L (Ax (cs:=(ac j0)) (ds:=[]) (ct j0.fN j0.fD) (AG _ _))))) (fun p1 H1 ⟨H0,J0,M0,Q0⟩=>?_))
 refine Rv 11 b0 rfl g0 (fun _=>Bm rfl)<|AR (dk b0)<|Aw<|Am<|Ac rfl<|Ab (Bf (i:=d0) (j:=1) rfl rfl (by omega))<|Af rfl<|Aa ?_
 obtain ⟨K0,B0⟩:=AH J0 .d1
 exact I0 (d0 + 1,s1,p1,H0) K0 (Tt P0 (Tt A0 (Tt M0 B0))) (Ay Q0 B0) h
 refine AV rfl ?_
 have h:=U0 _ h
 try dsimp only at h
 refine Ae<|Ac rfl<|Af rfl<|Af rfl<|Aa<|Ak rfl ?_
 have x0:=Bq p0 .hd
 have B1:=Br p0 .hd
 have Z0:=Bs (α:=Tb) (v:=q0) (xs:=s0) x0 L (Ba (α:=Tb) p0 .hd C0 hL)
 refine Ar hb0 func36 rfl (.cons (.tmp rfl) (.cons (.tmp rfl) .nil)) rfl ?_
 cases h
 exact ⟨x0.ag,fun w9 hw9=>⟨q0,rfl,x0.kd Z0 hw9⟩⟩
 refine Ae<|Ac rfl<|Af rfl<|Af rfl<|Aa<|Ak rfl ?_
 have b1:=Rep.nilAt (α:=Tb) c0 L
 refine Ar hb0 func36 rfl (.cons (.tmp rfl) (.cons (.tmp rfl) .nil)) rfl ?_
 cases h
 exact ⟨c0.ag,fun w9 hw9=>⟨vN,rfl,c0.kd b1 hw9⟩⟩
def bq_l1 (_n:Nat) (a0:U8) (g0:Nat × (List Int) -> Option (List Int)):Nat × (List Int) -> Option (List Int)
  | (b0,c0)=>(if b0 < 8 then (([a0.1,a0.2.1,a0.2.2.1,a0.2.2.2.1,a0.2.2.2.2.1,a0.2.2.2.2.2.1,a0.2.2.2.2.2.2.1,a0.2.2.2.2.2.2.2]:List UInt64)[b0]?).bind fun d0=>(app c0 ([az (d0 % (4294967296:UInt64)),az (d0 / (4294967296:UInt64))]:List Int)).bind fun j0=>g0 (b0 + 1,j0) else some c0)
def bq_p (n:Nat) (a0:U8):Option (List Int):=
  Option.bind (ah (bq_l1 n a0) n (0,([]:List Int))) (fun b0=>some b0)
theorem bq_c (n:Nat) {L w} (hL:hl L w) (a0:U8)  {r:List Int} (h:bq_p n a0 = some r) :
 Cl 178 #[.agg ((ak a0)).toArray] w (ae w fun w' u=>∃ v0_0:Value,u = v0_0/\Rep.R w' L [v0_0] r):=by
 unfold bq_p at h
 refine AF func178 rfl rfl rfl fun _ cs0 hb0=>Ae<|RG.bx (AC w) rfl rfl fun j1 s0 x0 Z0=>Af rfl<|Aa<|Ae<|Af rfl<|Aa<|Ai<|Ae<|Af rfl<|Aa<|Au ?_
 have y0:=x0.nilRow 3 (Rep.size Int)
 have b1:=BJ x0 3 (Rep.size Int)
 obtain ⟨c1,P0,M0⟩:=ao h
 refine MX.lf (α:=Nat × (List Int) × Value × (List Value)) (fun ⟨d0,k0,j0,p0⟩=>[(1,vP s0),(3,j0),(4,vI ((d0:Nat):Int))]) (fun ⟨d0,k0,j0,p0⟩=>[rr w 3 Int j0 k0.length p0,.cells s0 (ak a0) 40]) (fun ⟨d0,k0,j0,p0⟩ C0=>Cells C0 (bl [rr w 3 Int j0 k0.length p0,.cells s0 (ak a0) 40] ++ L) p0 k0) (fun ⟨d0,k0,j0,p0⟩=>(d0,k0)) (0,([]:List Int),vN,[]) P0 y0 (AB (cs:=[]) (xs:=([]:List Int)) y0 L (AG _ _)) ?_
 rintro W0 ⟨d0,k0,j0,p0⟩ C0 F0 q0 J0 B0 h
 unfold bq_l1 at h
 try dsimp only at h
 refine Ai<|Ae<|Ac rfl<|Ab (Bj (i:=d0) (j:=8) rfl rfl)<|Aa<|AO rfl h (fun D0 h=>?_) (fun D0 h=>?_)
 refine Ap<|Ai<|Au<|du 12 fun c0 g0=>Rv 0 c0 rfl g0 (fun _=>Ah rfl)<|Rv 1 c0 rfl g0 (fun _=>Ah rfl)<|bk h fun b0 t0 h=>Rv 2 c0 rfl g0 (fun _=>Bd (m:=1) (k:=d0) (len:=8) rfl rfl rfl rfl (aU t0 rfl))<|Rx 3 14384 c0 rfl g0 (AN rfl ((aK (p:=⟨s0,0,none⟩) (cs:=([a0.1,a0.2.1,a0.2.2.1,a0.2.2.2.1,a0.2.2.2.2.1,a0.2.2.2.2.2.1,a0.2.2.2.2.2.2.1,a0.2.2.2.2.2.2.2]:List UInt64).map (fun z9:UInt64=>(vU z9:Value)) ++ []) (i:=d0) (q0.memA .t1) (bG (fun z9:UInt64=>(vU z9:Value)) t0)) 0 _ rfl))<|Rv 4 c0 rfl g0 (fun _=>FV.remU (a:=b0) (b:=(4294967296:UInt64)) rfl rfl (by decide))<|Rv 5 c0 rfl g0 (fun _=>FV.convUI (a:=b0 % (4294967296:UInt64)) underlying28 underlying3 rfl)<|Rv 6 c0 rfl g0 (fun _=>Ah rfl)<|Rv 7 c0 rfl g0 (fun _=>Bd (m:=1) (k:=d0) (len:=8) rfl rfl rfl rfl (aU t0 rfl))<|Rx 8 15872 c0 rfl g0 (AN rfl ((aK (p:=⟨s0,0,none⟩) (cs:=([a0.1,a0.2.1,a0.2.2.1,a0.2.2.2.1,a0.2.2.2.2.1,a0.2.2.2.2.2.1,a0.2.2.2.2.2.2.1,a0.2.2.2.2.2.2.2]:List UInt64).map (fun z9:UInt64=>(vU z9:Value)) ++ []) (i:=d0) (q0.memA .t1) (bG (fun z9:UInt64=>(vU z9:Value)) t0)) 0 _ rfl))<|Rv 9 c0 rfl g0 (fun _=>FV.quoU (a:=b0) (b:=(4294967296:UInt64)) rfl rfl (by decide))<|Rv 10 c0 rfl g0 (fun _=>FV.convUI (a:=b0 / (4294967296:UInt64)) underlying28 underlying3 rfl)<|BV 11 4095 c0 rfl .plain rfl (AJ (α:=Int) (xs:=([az (b0 % (4294967296:UInt64)),az (b0 / (4294967296:UInt64))]:List Int)) (vs:=[vI (az (b0 % (4294967296:UInt64))),vI (az (b0 / (4294967296:UInt64)))]) (ds' :=[vI (az (b0 % (4294967296:UInt64))),vI (az (b0 / (4294967296:UInt64)))]) rfl q0 ay rfl (e2 rfl rfl) (by kernel_rfl) rfl) fun k1 X0 v0 A0=>bk h fun V0 R0 h=>BS (i:=12) (rk c0) (BK (m' :=8191) (sk c0) rfl rfl .plain rfl (Bh (α:=Int) (ys:=([az (b0 % (4294967296:UInt64)),az (b0 / (4294967296:UInt64))]:List Int)) R0 v0 (fun _ _=>.t1) ay rfl rfl (Ay B0 A0) (BN (α:=Int) v0 .hd (AB (cs:=[vI (az (b0 % (4294967296:UInt64))),vI (az (b0 / (4294967296:UInt64)))]) (xs:=(([az (b0 % (4294967296:UInt64)),az (b0 / (4294967296:UInt64))]:List Int):List Int)) v0 L (Ax (cs:=[vI (az (b0 % (4294967296:UInt64)))]) (ds:=[vI (az (b0 / (4294967296:UInt64)))]) rfl (Ax (cs:=[vI (az (b0 / (4294967296:UInt64)))]) (ds:=[]) rfl (AG _ _)))))) (fun U0 g1 ⟨E0,G0,I0,K0⟩=>?_))
 refine Rv 13 c0 rfl g0 (fun _=>Bm rfl)<|AR (dk c0)<|Aw<|Am<|Ac rfl<|Ab (Bf (i:=d0) (j:=1) rfl rfl (by omega))<|Af rfl<|Aa ?_
 obtain ⟨H0,z0⟩:=AH G0 .d1
 exact F0 (d0 + 1,V0,U0,E0) H0 (Tt J0 (Tt A0 (Tt I0 z0))) (Ay K0 z0) h
 refine AV rfl ?_
 have h:=M0 _ h
 try dsimp only at h
 refine Ae<|Ac rfl<|Af rfl<|Aa<|Ak rfl ?_
 have u0:=Bq q0 .hd
 have Y0:=Br q0 .hd
 have Q0:=Bs (α:=Int) (v:=j0) (xs:=k0) u0 L (Ba (α:=Int) q0 .hd B0 hL)
 refine AQ hb0 func178 rfl rfl ?_
 cases h
 exact ⟨u0.ag,fun w9 hw9=>⟨j0,rfl,u0.kd Q0 hw9⟩⟩
def ap_p (n:Nat) (a0:U8):Option Td:=
  (bq_p n a0).bind fun c0=>(if a0.2.2.2.2.2.2.2 < (9223372036854775808:UInt64) then (aa_p n false c0).bind fun g0=>some g0 else (mk 17 (0:Int)).bind fun b0=>(b0[16]?).bind fun _x49=>(put b0 ((16:Nat):Int) (1:Int)).bind fun d0=>(az_p n c0).bind fun j0=>(al_p n d0 j0).bind fun k0=>(aa_p n true k0).bind fun p0=>some p0)
theorem ap_c (n:Nat) {L w} (hL:hl L w) (a0:U8)  {r:Td} (h:ap_p n a0 = some r) :
 Cl 153 #[.agg ((ak a0)).toArray] w (ae w fun w' u=>∃ v0_1:Value,u = .agg #[.bool r.fc,v0_1]/\Rep.R w' L [v0_1] r.fD):=by
 unfold ap_p at h
 refine AF func153 rfl rfl rfl fun _ cs0 hb0=>Ae<|RG.bx (AC w) rfl rfl fun g2 D1 J0 J1=>RG.nl [.bool false,vN] J0 fun j2 E1 c0 K1=>Aa<|Ae<|Ab (AK rfl (c0.memA .t1))<|bk h fun A2 u1 h=>jE (bd 178) rfl (e1 rfl) (fun w9 hw9=>bq_c n (c0.hL hL hw9) a0 u1) rfl fun k2 Y1 W0 ⟨V1,hu_,A0⟩=>?_
 subst hu_
 obtain ⟨b0,M1⟩:=c0.agr W0
 refine Af rfl<|Aa<|Ai<|Ae<|Ab (Bd (m:=1) (k:=7) (len:=8) rfl rfl rfl rfl (by omega))<|AL rfl ((b0.memA .t1) 7 _ rfl)<|Ab (FV.lssU (a:=a0.2.2.2.2.2.2.2) (b:=(9223372036854775808:UInt64)) rfl rfl)<|Aa<|AO rfl h (fun H0 h=>?_) (fun H0 h=>?_)
 refine Ae<|Ac rfl<|bk h fun D0 v1 h=>jE (bd 179) rfl (e2 rfl rfl) (fun w9 hw9=>aa_c n (b0.hL hL hw9) (Av A0 hw9) v1) rfl fun p2 Z1 X0 ⟨s0,hu_,B0⟩=>?_
 subst hu_
 obtain ⟨K0,P1⟩:=b0.agr X0
 refine AX [.bool D0.fc,s0] K0 .hd (o2 rfl (AY B0)) fun q2 d0 Q0=>Aa<|Ak rfl<|Ar hb0 func153 rfl (.cons (.many (cs:=[.bool D0.fc,s0]) rfl rfl (d0.memA .hd)) .nil) rfl ?_
 cases h
 exact ⟨d0.ag,fun w9 hw9=>⟨s0,rfl,d0.kd (Aq B0 Q0) hw9⟩⟩
 refine Ap<|Ae<|bk h fun z2 q1 h=>RG.doesH .plain rfl (Does.mkH (α:=Int) (L:=L) q1 b0 ay rfl (fun _ _=>rfl)) fun A1 s2 ⟨H1,g0,R0,x0⟩=>Af rfl<|Aa<|Ae<|Ac rfl<|bk h fun B1 p1 h=>?_
 obtain ⟨F0,F1,q0,z0,I0,g1,U1⟩:=St.nth (α:=Int) g0 .hd x0 p1
 obtain ⟨G0,G1,y0⟩:=BL (α:=Int) g0 .hd z0
 obtain rfl:F0 = ⟨G0,0,none⟩:=by rw [y0] at q0; cases q0; rfl
 have d1:I0 = [vI B1]:=g1; subst d1
 refine Ab (Bi 1 16 rfl q0 rfl rfl z0)<|bk h fun C1 s1 h=>RG.acts' .plain (Acts.set (α:=Int) (i:=16) s1 g0 y0 (fun _=>.hd) x0 rfl rfl rfl rfl rfl rfl) fun t2 ⟨I1,u0,U0,c1⟩=>Aa<|Ae<|Ac rfl<|Ac rfl<|bk h fun B2 x1 h=>jE (bd 181) rfl (e1 rfl) (fun w9 hw9=>az_c n (u0.hL hL hw9) (Av (Aq A0 (Tt R0 U0)) hw9) x1) rfl fun u2 b2 Y0 ⟨W1,hu_,j1⟩=>?_
 subst hu_
 obtain ⟨j0,V0⟩:=u0.agr Y0
 have k0:=Bq j0 .hd
 refine bk h fun C2 y1 h=>jE (bd 180) rfl (e2 rfl rfl) (fun w9 hw9=>al_c n (k0.hL hL hw9) (Av (Bs (α:=Int) (v:=A1) (xs:=C1) k0 L (Ba (α:=Int) j0 .hd (Ay c1 V0) hL)) hw9) (Av (Aq j1 (Br j0 .hd)) hw9) y1) rfl fun v2 c2 Z0 ⟨X1,hu_,k1⟩=>?_
 subst hu_
 obtain ⟨v0,Q1⟩:=k0.agr Z0
 refine bk h fun E0 z1 h=>jE (bd 179) rfl (e2 rfl rfl) (fun w9 hw9=>aa_c n (v0.hL hL hw9) (Av k1 hw9) z1) rfl fun x2 d2 b1 ⟨t0,hu_,C0⟩=>?_
 subst hu_
 obtain ⟨M0,R1⟩:=v0.agr b1
 refine AX [.bool E0.fc,t0] M0 .hd (o2 rfl (AY C0)) fun y2 p0 P0=>Aa<|Ak rfl<|Ar hb0 func153 rfl (.cons (.many (cs:=[.bool E0.fc,t0]) rfl rfl (p0.memA .hd)) .nil) rfl ?_
 cases h
 exact ⟨p0.ag,fun w9 hw9=>⟨t0,rfl,p0.kd (Aq C0 P0) hw9⟩⟩
def cJ_p (_n:Nat) (a0:Td):Option Bool:=
  (if a0.fD.length = 1 then (a0.fD[0]?).bind fun b0=>(if b0 = 1 then some (!a0.fc) else some false) else some false)
theorem cJ_c (n:Nat) {L w} (_hL:hl L w) (a0:Td) {v0_1:Value} (h0_1:Rep.R w L [v0_1] a0.fD)  {r:Bool} (h:cJ_p n a0 = some r) :
 Cl 154 #[.agg #[.bool a0.fc,v0_1]] w (ae w fun _ u=>u = .bool r):=by
 unfold cJ_p at h
 refine AF func154 rfl rfl rfl fun _ cs0 hb0=>Ae<|RG.bx (AC w) rfl rfl fun C0 y0 b0 A0=>Af rfl<|Aa<|Ae<|AT 1 rfl<|AL rfl ((b0.memA .hd) 1 _ rfl) ?_
 have c0:=AM h0_1 b0
 have B0:a0.fD.length <= 281474976710656:=AS c0
 refine Ab (AW (xs:=a0.fD) underlying52 rfl c0)<|Ab (BF (i:=a0.fD.length) (j:=1) rfl rfl)<|Ac rfl<|Bv (s:=7) rfl h (fun g0 h=>?_) (fun g0 h=>?_)
 refine RG.fg 1 rfl<|Az (AN rfl ((b0.memA .hd) 1 _ rfl))<|bk h fun d0 v0 h=>?_
 obtain ⟨x0,z0,p0,s0,k0,u0,t0⟩:=Bg c0 v0
 have q0:k0 = [vI d0]:=u0; subst q0
 refine Az (Bi 1 0 rfl p0 rfl rfl s0)<|Az (AN rfl (t0 0 _ rfl))<|Az (FV.eql (i:=d0) (j:=1) rfl rfl)<|Bl rfl rfl<|Ac rfl<|Bv (s:=14) rfl h (fun j0 h=>?_) (fun j0 h=>?_)
 refine RG.fg 0 rfl<|Az (AN rfl ((b0.memA .hd) 0 _ rfl))<|Az (Bp rfl)<|Bl rfl rfl<|Af rfl<|Aa<|Ak rfl<|AQ hb0 func154 rfl rfl ?_
 cases h
 exact b0.gv
 refine Al<|Al<|Al<|Bn rfl rfl<|Af rfl<|Aa<|Ak rfl<|AQ hb0 func154 rfl rfl ?_
 cases h
 exact b0.gv
 refine Al<|Al<|Al<|Al<|Al<|Bn rfl rfl<|Ac rfl<|Al<|Al<|Al<|Bn rfl rfl<|Af rfl<|Aa<|Ak rfl<|AQ hb0 func154 rfl rfl ?_
 cases h
 exact b0.gv
end Go.Proofs.YtfccehcnajelgaaGreatDoor
