import Derived.Test.YtibdeoeglcngoaaGreatDoorVT6
namespace Go.Proofs.YtibdeoeglcngoaaGreatDoor
open Go Go.RowKit Tryz
set_option maxRecDepth 4000
set_option maxHeartbeats 4000000

def ao_l1 (_n:Nat) (s0:List Int) (a2:UInt8) (q0:(List Int) × Int) (d0:Nat × (List Int) -> Option (List Int)):Nat × (List Int) -> Option (List Int)
  | (b0,c0)=>(if b0 < s0.length then (c0[b0]?).bind fun k0=>(chk (k0 + ((a2.toNat:Nat):Int))).bind fun g0=>(dh g0 q0.2).bind fun j0=>(put c0 ((b0:Nat):Int) j0).bind fun p0=>d0 (b0 + 1,p0) else some c0)
def ao_p (n:Nat) (a0:Tj) (a1:Ti) (a2:UInt8):Option Bool:=
  (bP_p n).bind fun G0=>(if G0 = true then (ae_p n a0).bind fun b0=>(aT_p n a1 ((b0.1.length:Nat):Int)).bind fun c0=>(bh_p n b0.1).bind fun C0=>Option.bind (ap (ao_l1 n C0 a2 b0) n (0,C0)) (fun s0=>(bA_p n c0 b0.1 b0.2 (0:Int) (1:Int)).bind fun k0=>(bA_p n c0 b0.1 b0.2 (1:Int) (0:Int)).bind fun t0=>(bA_p n c0 s0 b0.2 (0:Int) (1:Int)).bind fun u0=>jn (fun D0=>(if D0 = true then some false else (bj_p n c0 b0.1 b0.2 (0:Int) (1:Int)).bind fun p0=>(bj_p n c0 b0.1 b0.2 (1:Int) (0:Int)).bind fun v0=>(bj_p n c0 s0 b0.2 (0:Int) (1:Int)).bind fun x0=>jn (fun E0=>(if E0 = true then some false else (bK_p n c0 b0.1 b0.2 (0:Int) (1:Int)).bind fun q0=>(bK_p n c0 b0.1 b0.2 (1:Int) (0:Int)).bind fun y0=>(bK_p n c0 s0 b0.2 (0:Int) (1:Int)).bind fun z0=>jn (fun F0=>(if F0 = true then some false else (bD_p n c0 b0.1 b0.2 (0:Int) (1:Int)).bind fun A0=>(bD_p n c0 s0 b0.2 (0:Int) (1:Int)).bind fun B0=>(if A0.2 = B0.2 then (ac_p n A0.1 B0.1).bind fun H0=>some H0 else some false))) (fun j0=>(if q0.2 = y0.2 then (if q0.2 = z0.2 then (if q0.1 = z0.1 then (if q0.2 = 0 then (aB_p n q0.1 y0.1).bind fun I0=>(if I0 = true then j0 false else j0 true) else j0 (!(decide (q0.2 = 7)))) else j0 true) else j0 true) else j0 true)))) (fun g0=>(if p0.2 = v0.2 then (if p0.2 = x0.2 then (if p0.1 = x0.1 then (if p0.2 = 0 then (aB_p n p0.1 v0.1).bind fun J0=>(if J0 = true then g0 false else g0 true) else g0 (!(decide (p0.2 = 7)))) else g0 true) else g0 true) else g0 true)))) (fun d0=>(if k0.2 = t0.2 then (if k0.2 = u0.2 then (if k0.1 = u0.1 then (if k0.2 = 0 then (aB_p n k0.1 t0.1).bind fun K0=>(if K0 = true then d0 false else d0 true) else d0 (!(decide (k0.2 = 7)))) else d0 true) else d0 true) else d0 true))) else some false)
theorem ao_c (n:Nat) {L w} (hL:hl L w) (a0:Tj) {v0_1:Value} (h0_1:Rep.R w L [v0_1] a0.fC) {v0_2:Value} (h0_2:Rep.R w L [v0_2] a0.fMore) {v0_3:Value} (h0_3:Rep.R w L [v0_3] a0.fLabels) (a1:Ti) {v1_4:Value} (h1_4:Rep.R w L [v1_4] a1.fNums) (a2:UInt8)  {r:Bool} (h:ao_p n a0 a1 a2 = some r) :
 Cl 8 #[.agg #[.int .u8 (a0.fN.toNat:Int),v0_1,v0_2,v0_3,.int .u8 (a0.fK.toNat:Int)],.agg #[.int .u8 (a1.fh.toNat:Int),.int .u8 (a1.fc.toNat:Int),.int .u8 (a1.fe.toNat:Int),.int .u8 (a1.fu.toNat:Int),v1_4],.int .u8 (a2.toNat:Int)] w (ai w fun _ u=>u = .bool r):=by
 unfold ao_p at h
 refine AE func8 rfl rfl rfl fun _ cs0 hb0=>Af<|RG.bx (Az w) rfl rfl fun u7 B6 E3 U6=>RG.bx E3 rfl rfl fun x7 E6 B0 V6=>Ag rfl<|Aa<|Ak<|Af<|bk h fun j6 H5 h=>AZ (.bool j6) (bd 10) rfl aj (fun p q=>bP_c n (B0.hL0 hL q)  H5) rfl<|Ac (BE rfl)<|Aa<|MX.ifnb rfl h (fun X2 h=>?_) (fun X2 h=>?_)
 refine Ap<|Af<|Ac (AC rfl (B0.memA .t1))<|bk h fun D0 J5 h=>jE (bd 21) rfl (e1 rfl) (fun p q=>ae_c n (B0.hL hL q) a0 (B0.km h0_1 q) (B0.km h0_2 q) (B0.km h0_3 q) J5) rfl fun H7 p7 b5 ⟨z1,hu_,x0⟩=>?_
 subst hu_
 obtain ⟨q1,W6⟩:=B0.agr b5
 refine Ae rfl<|Ac (Ai rfl rfl)<|Ac (Ai rfl rfl)<|Ag rfl<|Ag rfl<|Aa<|Af<|Ac (AC rfl (q1.memA .hd))<|Ae rfl ?_
 have Y6:D0.1.length <= 281474976710656:=AY x0
 refine Ac (Bf (xs:=D0.1) underlying39 rfl x0)<|bk h fun c0 U5 h=>jE (bd 22) rfl (e2 rfl rfl) (fun p q=>aT_c n (q1.hL hL q) a1 (q1.km h1_4 q) U5) rfl fun w32 s7 g5 ⟨K0,hu_,s0⟩=>?_
 subst hu_
 obtain ⟨X3,C0⟩:=q1.agr g5
 refine RG.nl [vI 0,vI 0,vI 0,vN] X3 fun Y7 z0 z4 E1=>AT [vI c0.fh,vI c0.fc,vI c0.fe,K0] z4 .hd (o4 rfl rfl rfl (Bd (AA s0 E1))) fun Z7 v1 E2=>Aa<|Af<|Ae rfl<|bk h fun p1 c6 h=>jE (bd 36) rfl (e1 rfl) (fun p q=>ca (b0:=w.heap.size) (bh_c n (v1.hL hL q) (Aw (AA x0 (Tt C0 (Tt E1 E2))) q) c6) q (Nat.le_trans v1.ag.size q.size)) rfl fun b8 y0 X6 ⟨k7,Q1,B5,P2,k5⟩=>?_
 subst B5
 have x1:=cJ v1 P2
 have Z4:=eK v1 P2
 refine Ag rfl<|Aa<|Ak<|Af<|Ae rfl ?_
 have Z6:p1.length <= 4294967296:=St.rowLe (α:=Int) x1 .hd
 obtain ⟨v6,R6,q5⟩:=St.rowV (α:=Int) x1 .hd
 refine Ac (FV.lenV underlying39 rfl q5)<|Ae rfl<|Aa<|Au ?_
 obtain ⟨F3,R1⟩:=AI x1 (.a0 (.a0 .done))
 obtain ⟨c7,u5,s5⟩:=au h
 refine MX.lf (α:=Nat × (List Int) × (List Value)) (fun ⟨t0,u0,v0⟩=>[(2,.int .u8 (a2.toNat:Int)),(7,z1),(8,vI D0.2),(9,vP z0),(10,y0),(38,vI ((p1.length:Nat):Int)),(39,vI ((t0:Nat):Int))]) (fun ⟨t0,u0,v0⟩=>[rr w 3 Int y0 u0.length v0,.cells z0 [vI c0.fh,vI c0.fc,vI c0.fe,K0] 37]) (fun ⟨t0,u0,v0⟩ Q2=>Cells Q2 (bl [rr w 3 Int y0 u0.length v0,.cells z0 [vI c0.fh,vI c0.fc,vI c0.fe,K0] 37] ++ L) v0 u0) (fun ⟨t0,u0,v0⟩=>(t0,u0)) (0,p1,Q1) u5 F3 (AK (AF (cs:=Q1) (xs:=(p1:List Int)) x1 L (ce k5)) R1) ?_
 rintro x6 ⟨t0,u0,v0⟩ Q2 D3 A0 U1 J0 h
 unfold ao_l1 at h
 try dsimp only at h
 refine Af<|Ac (Bj (i:=t0) (j:=p1.length) rfl rfl)<|Aa<|Ak<|AN rfl h (fun W2 h=>?_) (fun W2 h=>?_)
 refine Ap<|Ak<|Au<|Af<|Ae rfl<|Ag rfl<|Aa<|Am<|Ae rfl<|Ae rfl<|Ae rfl<|Ae rfl<|bk h fun R2 C5 h=>?_
 obtain ⟨U2,P6,y1,F1,B3,v5,t5⟩:=St.nth (α:=Int) A0 .hd J0 C5
 obtain ⟨V2,Q6,F2⟩:=Br (α:=Int) A0 .hd F1
 obtain rfl:U2 = ⟨V2,0,none⟩:=by rw [F2] at y1; cases y1; rfl
 have p5:B3 = [vI R2]:=v5; subst p5
 refine Ac (Bi 1 t0 rfl y1 rfl rfl F1)<|AP rfl (t5 0 _ rfl)<|Ae rfl ?_
 have b7:=a2.toNat_lt
 refine Ac (FV.convN (i:=a2.toNat) underlying5 underlying3 rfl (by omega))<|bk h fun d6 z5 h=>Ac (Bx (i:=R2) (j:=((a2.toNat:Nat):Int)) rfl rfl z5)<|Ae rfl<|bk h fun d7 A5 h=>Ac (FV.remc (i:=d6) (j:=D0.2) rfl rfl A5)<|Ac (Bi 1 t0 rfl y1 rfl rfl F1)<|bk h fun g6 D5 h=>RG.acts' .plain (Acts.set (α:=Int) (i:=t0) D5 A0 F2 (fun _=>.hd) J0 rfl rfl rfl rfl rfl rfl) fun v7 ⟨C3,G3,A4,j5⟩=>Aa<|Ax<|Am<|Ac (Bg (i:=t0) (j:=1) rfl rfl (by omega))<|Ae rfl<|Aa<|D3 (t0 + 1,g6,C3) G3 (Tt U1 A4) j5 h
 refine AV rfl ?_
 have h:=s5 _ h
 try dsimp only at h
 refine Ak<|Af<|Ac (AW (vs:=[.func (.func 12) #[] #[],.func (.func 14) #[] #[],.func (.func 18) #[] #[]]) (u:=.agg #[.func (.func 12) #[] #[],.func (.func 14) #[] #[],.func (.func 18) #[] #[]]) (e3 rfl rfl rfl) (fun p=>by kernel_rfl))<|Ae rfl<|Aa<|Au<|MX.loop1<|Af<|Ac (Bj (i:=0) (j:=3) rfl rfl)<|Aa<|Ak<|Bu rfl<|Ap<|Ak<|Au<|Af<|Ac (FV.idx1 (cs:=[.func (.func 12) #[] #[],.func (.func 14) #[] #[],.func (.func 18) #[] #[]]) (k:=0) (m:=1) (len:=3) rfl rfl rfl rfl rfl (by omega) rfl)<|Ag rfl<|Aa<|Af<|Ae rfl<|Ac (AC rfl (A0.memA .t1))<|Ae rfl<|Ae rfl<|bk h fun d0 E5 h=>?_
 have G1:=Tt E1 (Tt E2 (Tt Z4 (Tt R1 U1)))
 refine AZ (.tuple #[.agg ((ab d0.1)).toArray,vI d0.2]) (bd 12) rfl (e5 rfl rfl rfl rfl rfl) (fun p q=>bA_c n (A0.hL0 hL q) c0 (A0.kd (AA s0 G1) q) (A0.kd (AA x0 (Tt C0 G1)) q) E5) rfl<|Ae rfl<|Ac (Ai rfl rfl)<|Ac (Ai rfl rfl)<|RG.nl zL A0 fun y7 C6 H3 V1=>AT (ab d0.1) H3 .hd (ak rfl) fun z7 R0 W1=>Ag rfl<|Aa<|Af<|Ae rfl<|Ac (AC rfl (R0.memA .t2))<|Ae rfl<|Ae rfl<|bk h fun g1 F5 h=>?_
 have H1:=Tt G1 (Tt V1 W1)
 refine AZ (.tuple #[.agg ((ab g1.1)).toArray,vI g1.2]) (bd 12) rfl (e5 rfl rfl rfl rfl rfl) (fun p q=>bA_c n (R0.hL0 hL q) c0 (R0.kd (AA s0 H1) q) (R0.kd (AA x0 (Tt C0 H1)) q) F5) rfl<|Ae rfl<|Ac (Ai rfl rfl)<|Ac (Ai rfl rfl)<|RG.nl zL R0 fun A7 D6 I3 X1=>AT (ab g1.1) I3 .hd (ak rfl) fun B7 U0 Y1=>Ag rfl<|Aa<|Af<|Ae rfl<|Ac (AC rfl (U0.memA .t3))<|Ae rfl<|Ae rfl<|bk h fun M0 G5 h=>?_
 have G2:=Tt H1 (Tt X1 Y1)
 have H2:=Tt V1 (Tt W1 (Tt X1 Y1))
 refine AZ (.tuple #[.agg ((ab M0.1)).toArray,vI M0.2]) (bd 12) rfl (e5 rfl rfl rfl rfl rfl) (fun p q=>bA_c n (U0.hL0 hL q) c0 (U0.kd (AA s0 G2) q) (Aw (St.lend (α:=Int) (L:=L) U0 .t2 (AK J0 H2) hL) q) G5) rfl<|Ae rfl<|Ac (Ai rfl rfl)<|Ac (Ai rfl rfl)<|RG.nl zL U0 fun C7 F6 J3 Z1=>AT (ab M0.1) J3 .hd (ak rfl) fun D7 k0 b2=>Ag rfl<|Aa<|Ak<|MX.jo (α:=Bool) (fun b1=>[(7,z1),(8,vI D0.2),(9,vP z0),(10,y0),(55,.agg #[.func (.func 12) #[] #[],.func (.func 14) #[] #[],.func (.func 18) #[] #[]]),(56,vI 0),(113,.bool b1)]) (fun b1=>[rr w 3 Int y0 u0.length v0,.cells z0 [vI c0.fh,vI c0.fc,vI c0.fe,K0] 37]) (fun b1=>b1) k0 h ?_ ?_
 rintro b1 c8 H0 c2 h
 try dsimp only at h
 refine MX.ifb rfl h (fun Y2 h=>?_) (fun Y2 h=>?_)
 refine Af<|Ag rfl<|Aa<|Ao rfl<|AX hb0 func8 rfl rfl ?_
 cases h
 exact H0.gv
 refine Ap<|Ax<|Am<|Ac (FV.add (i:=0) (j:=1) (r:=1) rfl rfl (by decide))<|Ae rfl<|Aa<|MX.again1<|Af<|Ac (Bj (i:=1) (j:=3) rfl rfl)<|Aa<|Ak<|Bu rfl<|Ap<|Ak<|Au<|Af<|Ac (FV.idx1 (cs:=[.func (.func 12) #[] #[],.func (.func 14) #[] #[],.func (.func 18) #[] #[]]) (k:=1) (m:=1) (len:=3) rfl rfl rfl rfl rfl (by omega) rfl)<|Ag rfl<|Aa<|Af<|Ae rfl<|Ac (AC rfl (H0.memA .t1))<|Ae rfl<|Ae rfl<|bk h fun g0 I5 h=>?_
 have I1:=Tt G2 (Tt Z1 (Tt b2 c2))
 refine AZ (.tuple #[.agg ((ab g0.1)).toArray,vI g0.2]) (bd 14) rfl (e5 rfl rfl rfl rfl rfl) (fun p q=>bj_c n (H0.hL0 hL q) c0 (H0.kd (AA s0 I1) q) (H0.kd (AA x0 (Tt C0 I1)) q) I5) rfl<|Ae rfl<|Ac (Ai rfl rfl)<|Ac (Ai rfl rfl)<|RG.nl zL H0 fun E7 G6 K3 d2=>AT (ab g0.1) K3 .hd (ak rfl) fun F7 V0 g2=>Ag rfl<|Aa<|Af<|Ae rfl<|Ac (AC rfl (V0.memA .t2))<|Ae rfl<|Ae rfl<|bk h fun j1 K5 h=>?_
 have J1:=Tt I1 (Tt d2 g2)
 refine AZ (.tuple #[.agg ((ab j1.1)).toArray,vI j1.2]) (bd 14) rfl (e5 rfl rfl rfl rfl rfl) (fun p q=>bj_c n (V0.hL0 hL q) c0 (V0.kd (AA s0 J1) q) (V0.kd (AA x0 (Tt C0 J1)) q) K5) rfl<|Ae rfl<|Ac (Ai rfl rfl)<|Ac (Ai rfl rfl)<|RG.nl zL V0 fun G7 H6 M3 j2=>AT (ab j1.1) M3 .hd (ak rfl) fun I7 W0 k2=>Ag rfl<|Aa<|Af<|Ae rfl<|Ac (AC rfl (W0.memA .t3))<|Ae rfl<|Ae rfl<|bk h fun P0 M5 h=>?_
 have I2:=Tt J1 (Tt j2 k2)
 have J2:=Tt H2 (Tt Z1 (Tt b2 (Tt c2 (Tt d2 (Tt g2 (Tt j2 k2))))))
 refine AZ (.tuple #[.agg ((ab P0.1)).toArray,vI P0.2]) (bd 14) rfl (e5 rfl rfl rfl rfl rfl) (fun p q=>bj_c n (W0.hL0 hL q) c0 (W0.kd (AA s0 I2) q) (Aw (St.lend (α:=Int) (L:=L) W0 .t2 (AK J0 J2) hL) q) M5) rfl<|Ae rfl<|Ac (Ai rfl rfl)<|Ac (Ai rfl rfl)<|RG.nl zL W0 fun J7 I6 P3 p2=>AT (ab P0.1) P3 .hd (ak rfl) fun K7 p0 q2=>Ag rfl<|Aa<|Ak<|MX.jo (α:=Bool) (fun c1=>[(7,z1),(8,vI D0.2),(9,vP z0),(10,y0),(55,.agg #[.func (.func 12) #[] #[],.func (.func 14) #[] #[],.func (.func 18) #[] #[]]),(56,vI 1),(113,.bool c1)]) (fun c1=>[rr w 3 Int y0 u0.length v0,.cells z0 [vI c0.fh,vI c0.fc,vI c0.fe,K0] 37]) (fun c1=>c1) p0 h ?_ ?_
 rintro c1 d8 I0 s2 h
 try dsimp only at h
 refine MX.ifb rfl h (fun Z2 h=>?_) (fun Z2 h=>?_)
 refine Af<|Ag rfl<|Aa<|Ao rfl<|AX hb0 func8 rfl rfl ?_
 cases h
 exact I0.gv
 refine Ap<|Ax<|Am<|Ac (FV.add (i:=1) (j:=1) (r:=2) rfl rfl (by decide))<|Ae rfl<|Aa<|MX.again1<|Af<|Ac (Bj (i:=2) (j:=3) rfl rfl)<|Aa<|Ak<|Bu rfl<|Ap<|Ak<|Au<|Af<|Ac (FV.idx1 (cs:=[.func (.func 12) #[] #[],.func (.func 14) #[] #[],.func (.func 18) #[] #[]]) (k:=2) (m:=1) (len:=3) rfl rfl rfl rfl rfl (by omega) rfl)<|Ag rfl<|Aa<|Af<|Ae rfl<|Ac (AC rfl (I0.memA .t1))<|Ae rfl<|Ae rfl<|bk h fun j0 P5 h=>?_
 have K1:=Tt I2 (Tt p2 (Tt q2 s2))
 refine AZ (.tuple #[.agg ((ab j0.1)).toArray,vI j0.2]) (bd 18) rfl (e5 rfl rfl rfl rfl rfl) (fun p q=>bK_c n (I0.hL0 hL q) c0 (I0.kd (AA s0 K1) q) (I0.kd (AA x0 (Tt C0 K1)) q) P5) rfl<|Ae rfl<|Ac (Ai rfl rfl)<|Ac (Ai rfl rfl)<|RG.nl zL I0 fun M7 J6 Q3 u2=>AT (ab j0.1) Q3 .hd (ak rfl) fun P7 X0 v2=>Ag rfl<|Aa<|Af<|Ae rfl<|Ac (AC rfl (X0.memA .t2))<|Ae rfl<|Ae rfl<|bk h fun k1 Q5 h=>?_
 have M1:=Tt K1 (Tt u2 v2)
 refine AZ (.tuple #[.agg ((ab k1.1)).toArray,vI k1.2]) (bd 18) rfl (e5 rfl rfl rfl rfl rfl) (fun p q=>bK_c n (X0.hL0 hL q) c0 (X0.kd (AA s0 M1) q) (X0.kd (AA x0 (Tt C0 M1)) q) Q5) rfl<|Ae rfl<|Ac (Ai rfl rfl)<|Ac (Ai rfl rfl)<|RG.nl zL X0 fun Q7 K6 R3 x2=>AT (ab k1.1) R3 .hd (ak rfl) fun R7 Y0 y2=>Ag rfl<|Aa<|Af<|Ae rfl<|Ac (AC rfl (Y0.memA .t3))<|Ae rfl<|Ae rfl<|bk h fun Q0 R5 h=>?_
 have K2:=Tt M1 (Tt x2 y2)
 have M2:=Tt J2 (Tt p2 (Tt q2 (Tt s2 (Tt u2 (Tt v2 (Tt x2 y2))))))
 refine AZ (.tuple #[.agg ((ab Q0.1)).toArray,vI Q0.2]) (bd 18) rfl (e5 rfl rfl rfl rfl rfl) (fun p q=>bK_c n (Y0.hL0 hL q) c0 (Y0.kd (AA s0 K2) q) (Aw (St.lend (α:=Int) (L:=L) Y0 .t2 (AK J0 M2) hL) q) R5) rfl<|Ae rfl<|Ac (Ai rfl rfl)<|Ac (Ai rfl rfl)<|RG.nl zL Y0 fun U7 M6 U3 z2=>AT (ab Q0.1) U3 .hd (ak rfl) fun V7 q0 A2=>Ag rfl<|Aa<|Ak<|MX.jo (α:=Bool) (fun d1=>[(7,z1),(8,vI D0.2),(9,vP z0),(10,y0),(55,.agg #[.func (.func 12) #[] #[],.func (.func 14) #[] #[],.func (.func 18) #[] #[]]),(56,vI 2),(113,.bool d1)]) (fun d1=>[rr w 3 Int y0 u0.length v0,.cells z0 [vI c0.fh,vI c0.fc,vI c0.fe,K0] 37]) (fun d1=>d1) q0 h ?_ ?_
 rintro d1 g8 s1 B2 h
 try dsimp only at h
 refine MX.ifb rfl h (fun b3 h=>?_) (fun b3 h=>?_)
 refine Af<|Ag rfl<|Aa<|Ao rfl<|AX hb0 func8 rfl rfl ?_
 cases h
 exact s1.gv
 refine Ap<|Ax<|Am<|Ac (FV.add (i:=2) (j:=1) (r:=3) rfl rfl (by decide))<|Ae rfl<|Aa<|MX.again1<|Af<|Ac (Bj (i:=3) (j:=3) rfl rfl)<|Aa<|Ak<|Bo rfl<|AV rfl<|Af<|Ac (AC rfl (s1.memA .t1))<|Ae rfl<|Ae rfl<|bk h fun k6 V5 h=>?_
 have P1:=Tt K2 (Tt z2 (Tt A2 B2))
 refine jE (bd 16) rfl (e5 rfl rfl rfl rfl rfl) (fun p q=>bD_c n (s1.hL hL q) c0 (Aw (AA s0 P1) q) (Aw (AA x0 (Tt C0 P1)) q) V5) rfl fun W7 q7 c5 ⟨g7,hu_,x5⟩=>?_
 subst hu_
 obtain ⟨u1,C2⟩:=s1.agr c5
 refine Ae rfl<|Ac (Ai rfl rfl)<|Ac (Ai rfl rfl)<|Ag rfl<|Ag rfl<|Aa<|Af<|Ac (AC rfl (u1.memA .t1))<|Ae rfl<|Ae rfl ?_
 have D1:=St.delS u1 .hd
 have D2:=St.delT u1 .hd
 refine bk h fun p6 W5 h=>jE (bd 16) rfl (e5 rfl rfl rfl rfl rfl) (fun p q=>bD_c n (D1.hL hL q) c0 (Aw (AA s0 (Tt P1 (Tt C2 D2))) q) (Aw (Rep.at_ (α:=Int) (v:=y0) (xs:=u0) D1 L (Bv (α:=Int) u1 .hd (AK J0 (Tt M2 (Tt z2 (Tt A2 (Tt B2 C2))))) hL)) q) W5) rfl fun X7 t7 d5 ⟨j7,hu_,y5⟩=>?_
 subst hu_
 obtain ⟨Z0,B4⟩:=D1.agr d5
 refine Ae rfl<|Ac (Ai rfl rfl)<|Ac (Ai rfl rfl)<|Ag rfl<|Ag rfl<|Aa<|Af<|Ae rfl<|Ae rfl<|Ac (FV.eql (i:=k6.2) (j:=p6.2) rfl rfl)<|Ae rfl<|RG.ifd (s:=132) rfl h (fun c3 h=>?_) (fun c3 h=>?_)
 refine AG (Aj rfl)<|AG (Aj rfl)<|bk h fun q6 X5 h=>RG.callq' (v:=.bool q6) (fst:=[]) (cap:=[]) (.yes rfl rfl) (bd 20) rfl (e2 rfl rfl) (fun p q=>ac_c n (Z0.hL0 hL q) (Z0.kd (AA x5 (Tt D2 B4)) q) (Z0.kd y5 q) X5) rfl<|Bs rfl rfl<|Ag rfl<|Aa<|Ao rfl<|AX hb0 func8 rfl rfl ?_
 cases h
 exact Z0.gv
 refine Av<|Av<|Av<|RG.pf rfl rfl<|Ag rfl<|Aa<|Ao rfl<|AX hb0 func8 rfl rfl ?_
 cases h
 exact Z0.gv
 intro A6 G0 h
 try dsimp only at h
 refine Am<|Ae rfl<|Ae rfl<|Ac (FV.neq (i:=j0.2) (j:=k1.2) rfl rfl)<|Ae rfl<|RG.ifn (s:=86) rfl h (fun g3 h=>?_) (fun g3 h=>?_)
 refine AG (Aj rfl)<|AG (Aj rfl)<|AG (FV.neq (i:=j0.2) (j:=Q0.2) rfl rfl)<|RG.pf rfl rfl<|Ae rfl<|RG.ifn (s:=91) rfl h (fun j3 h=>?_) (fun j3 h=>?_)
 refine AG (AC rfl (q0.memA .t2))<|AG (AC rfl (q0.memA .hd))<|AG (FV.neqV (xs:=((ab j0.1)).toArray) (ys:=((ab Q0.1)).toArray) rfl rfl (by kernel_rfl) (cO j0.1 Q0.1))<|RG.pf rfl rfl<|Ae rfl<|RG.ifn (s:=96) rfl h (fun k3 h=>?_) (fun k3 h=>?_)
 refine AG (Aj rfl)<|AG (FV.eql (i:=j0.2) (j:=0) rfl rfl)<|AG (Aj rfl)<|RG.ifd (s:=99) rfl h (fun A1 h=>?_) (fun A1 h=>?_)
 refine AG (AC rfl (q0.memA .t2))<|AG (AC rfl (q0.memA .t1))<|bk h fun s6 Y5 h=>RG.callq' (v:=.bool s6) (fst:=[]) (cap:=[]) (.yes rfl rfl) (bd 37) rfl (e2 rfl rfl) (fun p q=>aB_c n (q0.hL0 hL q) j0.1 k1.1 Y5) rfl<|AG (BE rfl)<|AG (Bz rfl rfl)<|RG.pf rfl rfl<|Ae rfl<|RG.ifnb (s:=106) rfl h (fun p3 h=>?_) (fun p3 h=>?_)
 refine AG (Aj rfl)<|AG (FV.neq (i:=j0.2) (j:=0) rfl rfl)<|AG (Aj rfl)<|RG.known (s:=109) rfl (dY (decide_eq_true A1))<|Av<|Av<|AG (AH rfl rfl)<|RG.pf rfl rfl<|Aa ?_
 obtain ⟨V3,C4⟩:=AI q0 .d3
 exact G0 false V3 C4 h
 refine Av<|Av<|Av<|Bw<|Bw<|Av<|Bs rfl rfl<|Aa ?_
 obtain ⟨W3,D4⟩:=AI q0 .d3
 exact G0 true W3 D4 h
 refine Av<|Av<|Av<|Av<|AG (AH rfl rfl)<|RG.pf rfl rfl<|Ae rfl<|AG (Aj rfl)<|AG (FV.neq (i:=j0.2) (j:=0) rfl rfl)<|AG (Aj rfl)<|RG.known (s:=109) rfl (dY (decide_eq_false A1))<|AG (Aj rfl)<|AG (FV.neq (i:=j0.2) (j:=7) rfl rfl)<|AG (Bz rfl rfl)<|RG.pf rfl rfl<|Aa ?_
 obtain ⟨Y3,E4⟩:=AI q0 .d3
 exact G0 (!(decide (j0.2 = 7))) Y3 E4 h
 refine Av<|Av<|Av<|Bw<|Bw<|Bw<|Bw<|Av<|Bs rfl rfl<|Ae rfl<|Av<|Av<|Av<|Bw<|Bw<|Av<|Bs rfl rfl<|Aa ?_
 obtain ⟨Z3,F4⟩:=AI q0 .d3
 exact G0 true Z3 F4 h
 refine Av<|Av<|Av<|Bs rfl rfl<|Ae rfl<|Av<|Av<|Av<|Bw<|Bw<|Bw<|Bw<|Av<|Bs rfl rfl<|Ae rfl<|Av<|Av<|Av<|Bw<|Bw<|Av<|Bs rfl rfl<|Aa ?_
 obtain ⟨b4,G4⟩:=AI q0 .d3
 exact G0 true b4 G4 h
 refine Av<|Av<|Av<|Bs rfl rfl<|Ae rfl<|Av<|Av<|Av<|Bs rfl rfl<|Ae rfl<|Av<|Av<|Av<|Bw<|Bw<|Bw<|Bw<|Av<|Bs rfl rfl<|Ae rfl<|Av<|Av<|Av<|Bw<|Bw<|Av<|Bs rfl rfl<|Aa ?_
 obtain ⟨c4,H4⟩:=AI q0 .d3
 exact G0 true c4 H4 h
 intro z6 F0 h
 try dsimp only at h
 refine Am<|Ae rfl<|Ae rfl<|Ac (FV.neq (i:=g0.2) (j:=j1.2) rfl rfl)<|Ae rfl<|RG.ifn (s:=86) rfl h (fun q3 h=>?_) (fun q3 h=>?_)
 refine AG (Aj rfl)<|AG (Aj rfl)<|AG (FV.neq (i:=g0.2) (j:=P0.2) rfl rfl)<|RG.pf rfl rfl<|Ae rfl<|RG.ifn (s:=91) rfl h (fun s3 h=>?_) (fun s3 h=>?_)
 refine AG (AC rfl (p0.memA .t2))<|AG (AC rfl (p0.memA .hd))<|AG (FV.neqV (xs:=((ab g0.1)).toArray) (ys:=((ab P0.1)).toArray) rfl rfl (by kernel_rfl) (cO g0.1 P0.1))<|RG.pf rfl rfl<|Ae rfl<|RG.ifn (s:=96) rfl h (fun u3 h=>?_) (fun u3 h=>?_)
 refine AG (Aj rfl)<|AG (FV.eql (i:=g0.2) (j:=0) rfl rfl)<|AG (Aj rfl)<|RG.ifd (s:=99) rfl h (fun B1 h=>?_) (fun B1 h=>?_)
 refine AG (AC rfl (p0.memA .t2))<|AG (AC rfl (p0.memA .t1))<|bk h fun t6 Z5 h=>RG.callq' (v:=.bool t6) (fst:=[]) (cap:=[]) (.yes rfl rfl) (bd 37) rfl (e2 rfl rfl) (fun p q=>aB_c n (p0.hL0 hL q) g0.1 j1.1 Z5) rfl<|AG (BE rfl)<|AG (Bz rfl rfl)<|RG.pf rfl rfl<|Ae rfl<|RG.ifnb (s:=106) rfl h (fun v3 h=>?_) (fun v3 h=>?_)
 refine AG (Aj rfl)<|AG (FV.neq (i:=g0.2) (j:=0) rfl rfl)<|AG (Aj rfl)<|RG.known (s:=109) rfl (dY (decide_eq_true B1))<|Av<|Av<|AG (AH rfl rfl)<|RG.pf rfl rfl<|Aa ?_
 obtain ⟨d4,I4⟩:=AI p0 .d3
 exact F0 false d4 I4 h
 refine Av<|Av<|Av<|Bw<|Bw<|Av<|Bs rfl rfl<|Aa ?_
 obtain ⟨g4,J4⟩:=AI p0 .d3
 exact F0 true g4 J4 h
 refine Av<|Av<|Av<|Av<|AG (AH rfl rfl)<|RG.pf rfl rfl<|Ae rfl<|AG (Aj rfl)<|AG (FV.neq (i:=g0.2) (j:=0) rfl rfl)<|AG (Aj rfl)<|RG.known (s:=109) rfl (dY (decide_eq_false B1))<|AG (Aj rfl)<|AG (FV.neq (i:=g0.2) (j:=7) rfl rfl)<|AG (Bz rfl rfl)<|RG.pf rfl rfl<|Aa ?_
 obtain ⟨j4,K4⟩:=AI p0 .d3
 exact F0 (!(decide (g0.2 = 7))) j4 K4 h
 refine Av<|Av<|Av<|Bw<|Bw<|Bw<|Bw<|Av<|Bs rfl rfl<|Ae rfl<|Av<|Av<|Av<|Bw<|Bw<|Av<|Bs rfl rfl<|Aa ?_
 obtain ⟨k4,M4⟩:=AI p0 .d3
 exact F0 true k4 M4 h
 refine Av<|Av<|Av<|Bs rfl rfl<|Ae rfl<|Av<|Av<|Av<|Bw<|Bw<|Bw<|Bw<|Av<|Bs rfl rfl<|Ae rfl<|Av<|Av<|Av<|Bw<|Bw<|Av<|Bs rfl rfl<|Aa ?_
 obtain ⟨p4,P4⟩:=AI p0 .d3
 exact F0 true p4 P4 h
 refine Av<|Av<|Av<|Bs rfl rfl<|Ae rfl<|Av<|Av<|Av<|Bs rfl rfl<|Ae rfl<|Av<|Av<|Av<|Bw<|Bw<|Bw<|Bw<|Av<|Bs rfl rfl<|Ae rfl<|Av<|Av<|Av<|Bw<|Bw<|Av<|Bs rfl rfl<|Aa ?_
 obtain ⟨q4,Q4⟩:=AI p0 .d3
 exact F0 true q4 Q4 h
 intro y6 E0 h
 try dsimp only at h
 refine Am<|Ae rfl<|Ae rfl<|Ac (FV.neq (i:=d0.2) (j:=g1.2) rfl rfl)<|Ae rfl<|RG.ifn (s:=86) rfl h (fun x3 h=>?_) (fun x3 h=>?_)
 refine AG (Aj rfl)<|AG (Aj rfl)<|AG (FV.neq (i:=d0.2) (j:=M0.2) rfl rfl)<|RG.pf rfl rfl<|Ae rfl<|RG.ifn (s:=91) rfl h (fun y3 h=>?_) (fun y3 h=>?_)
 refine AG (AC rfl (k0.memA .t2))<|AG (AC rfl (k0.memA .hd))<|AG (FV.neqV (xs:=((ab d0.1)).toArray) (ys:=((ab M0.1)).toArray) rfl rfl (by kernel_rfl) (cO d0.1 M0.1))<|RG.pf rfl rfl<|Ae rfl<|RG.ifn (s:=96) rfl h (fun z3 h=>?_) (fun z3 h=>?_)
 refine AG (Aj rfl)<|AG (FV.eql (i:=d0.2) (j:=0) rfl rfl)<|AG (Aj rfl)<|RG.ifd (s:=99) rfl h (fun C1 h=>?_) (fun C1 h=>?_)
 refine AG (AC rfl (k0.memA .t2))<|AG (AC rfl (k0.memA .t1))<|bk h fun u6 b6 h=>RG.callq' (v:=.bool u6) (fst:=[]) (cap:=[]) (.yes rfl rfl) (bd 37) rfl (e2 rfl rfl) (fun p q=>aB_c n (k0.hL0 hL q) d0.1 g1.1 b6) rfl<|AG (BE rfl)<|AG (Bz rfl rfl)<|RG.pf rfl rfl<|Ae rfl<|RG.ifnb (s:=106) rfl h (fun A3 h=>?_) (fun A3 h=>?_)
 refine AG (Aj rfl)<|AG (FV.neq (i:=d0.2) (j:=0) rfl rfl)<|AG (Aj rfl)<|RG.known (s:=109) rfl (dY (decide_eq_true C1))<|Av<|Av<|AG (AH rfl rfl)<|RG.pf rfl rfl<|Aa ?_
 obtain ⟨s4,R4⟩:=AI k0 .d3
 exact E0 false s4 R4 h
 refine Av<|Av<|Av<|Bw<|Bw<|Av<|Bs rfl rfl<|Aa ?_
 obtain ⟨t4,U4⟩:=AI k0 .d3
 exact E0 true t4 U4 h
 refine Av<|Av<|Av<|Av<|AG (AH rfl rfl)<|RG.pf rfl rfl<|Ae rfl<|AG (Aj rfl)<|AG (FV.neq (i:=d0.2) (j:=0) rfl rfl)<|AG (Aj rfl)<|RG.known (s:=109) rfl (dY (decide_eq_false C1))<|AG (Aj rfl)<|AG (FV.neq (i:=d0.2) (j:=7) rfl rfl)<|AG (Bz rfl rfl)<|RG.pf rfl rfl<|Aa ?_
 obtain ⟨u4,V4⟩:=AI k0 .d3
 exact E0 (!(decide (d0.2 = 7))) u4 V4 h
 refine Av<|Av<|Av<|Bw<|Bw<|Bw<|Bw<|Av<|Bs rfl rfl<|Ae rfl<|Av<|Av<|Av<|Bw<|Bw<|Av<|Bs rfl rfl<|Aa ?_
 obtain ⟨v4,W4⟩:=AI k0 .d3
 exact E0 true v4 W4 h
 refine Av<|Av<|Av<|Bs rfl rfl<|Ae rfl<|Av<|Av<|Av<|Bw<|Bw<|Bw<|Bw<|Av<|Bs rfl rfl<|Ae rfl<|Av<|Av<|Av<|Bw<|Bw<|Av<|Bs rfl rfl<|Aa ?_
 obtain ⟨x4,X4⟩:=AI k0 .d3
 exact E0 true x4 X4 h
 refine Av<|Av<|Av<|Bs rfl rfl<|Ae rfl<|Av<|Av<|Av<|Bs rfl rfl<|Ae rfl<|Av<|Av<|Av<|Bw<|Bw<|Bw<|Bw<|Av<|Bs rfl rfl<|Ae rfl<|Av<|Av<|Av<|Bw<|Bw<|Av<|Bs rfl rfl<|Aa ?_
 obtain ⟨y4,Y4⟩:=AI k0 .d3
 exact E0 true y4 Y4 h
 refine Af<|Ag rfl<|Aa<|Ao rfl<|AX hb0 func8 rfl rfl ?_
 cases h
 exact B0.gv
end Go.Proofs.YtibdeoeglcngoaaGreatDoor
