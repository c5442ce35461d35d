import Derived.Test.YtibdeoeglcngoaaGreatDoorRZ6
namespace Go.Proofs.YtibdeoeglcngoaaGreatDoor
open Go Go.RowKit Tryz
set_option maxRecDepth 4000
set_option maxHeartbeats 4000000

def aa_l1 (_n:Nat) (d0:List Int) (g0:Int) (c0:Nat × (List Int) -> Option ((Bool ⊕ ((List Int) × Int × (List Int))) ⊕ (List Int))):Nat × (List Int) -> Option ((Bool ⊕ ((List Int) × Int × (List Int))) ⊕ (List Int))
  | (b0,j0)=>(if b0 < d0.length then (d0[b0]?).bind fun p0=>(j0[b0]?).bind fun s0=>(chk (s0 + p0)).bind fun q0=>(put j0 ((b0:Nat):Int) q0).bind fun k0=>(if 0 <= g0 then (if ((b0:Nat):Int) = g0 then c0 (b0 + 1,k0) else (idx d0 g0).bind fun t0=>(if t0 <= p0 then some (.inl (.inl false)) else c0 (b0 + 1,k0))) else c0 (b0 + 1,k0)) else some (.inr j0))
def aa_l2 (_n:Nat) (d0:Tc) (g0:Nat × (List Int) -> Option (List Int)):Nat × (List Int) -> Option (List Int)
  | (b0,c0)=>(if b0 < d0.fA.length then (d0.fA[b0]?).bind fun k0=>(c0[b0]?).bind fun p0=>(chk (p0 - k0)).bind fun j0=>(put c0 ((b0:Nat):Int) j0).bind fun q0=>g0 (b0 + 1,q0) else some c0)
def aa_l3 (n:Nat) (c0:List Int) (d0:Nat -> Option (Bool ⊕ Unit)):Nat -> Option (Bool ⊕ Unit)
  | b0=>(if b0 < c0.length then (c0[b0]?).bind fun g0=>(aQ_p n g0).bind fun j0=>(if j0 = true then some (.inl (!(decide (0 <= b0)))) else d0 (b0 + 1)) else some (.inr ()))
def aa_l4 (n:Nat) (d0:Tf) (g0:Nat × (List Int) -> Option (List Int)):Nat × (List Int) -> Option (List Int)
  | (b0,c0)=>(if b0 < d0.fq.length then (d0.fq[b0]?).bind fun j0=>Option.bind (ap (aa_l2 n j0) n (0,c0)) (fun k0=>g0 (b0 + 1,k0)) else some c0)
def aa_l5 (n:Nat) (s0:(List (List Int)) × Int) (q0:Tf) (B0:(List Int) × Int) (t0:Int × Nat × (List Int) × (List Int) -> Option (Bool ⊕ ((List Int) × Int × (List Int)))):Int × Nat × (List Int) × (List Int) -> Option (Bool ⊕ ((List Int) × Int × (List Int)))
  | (g0,c0,d0,p0)=>(if c0 < s0.1.length then (s0.1[c0]?).bind fun k0=>(if ((k0.length:Nat):Int) = q0.fc then (B0.1[c0]?).bind fun b0=>(if b0 < (-1) then some (.inl false) else (if q0.fc <= b0 then some (.inl false) else thn (ap (aa_l1 n k0 b0) n (0,p0)) (fun z0=>jn (fun (C0,A0)=>t0 (C0,c0 + 1,A0,z0)) (fun j0=>(if 0 <= b0 then (idx d0 b0).bind fun x0=>(chk (x0 + 1)).bind fun u0=>(put d0 ((b0.toNat:Nat):Int) u0).bind fun y0=>j0 (g0,y0) else (chk (g0 - 1)).bind fun v0=>j0 (v0,d0)))))) else some (.inl false)) else some (.inr (p0,g0,d0)))
def aa_p (n:Nat) (a0:Tj) (a1:Ti):Option Bool:=
  (bo_p n).bind fun y0=>(if y0 = true then (ac_p n a0).bind fun b0=>(ab_p n a1 ((b0.1.length:Nat):Int)).bind fun c0=>(bZ_p n c0 b0.1 b0.2).bind fun j0=>(bf_p n c0 b0.1 b0.2).bind fun k0=>(ba_p n c0 b0.1 b0.2).bind fun g0=>jn (fun p0=>(if p0 = true then some false else (mk c0.fc (0:Int)).bind fun v0=>(mk c0.fc (0:Int)).bind fun q0=>thn (ap (aa_l5 n j0 c0 k0) n (g0.2.1,0,q0,v0)) (fun (u0,z0,t0)=>Option.bind (ap (aa_l4 n c0) n (0,u0)) (fun s0=>(if z0 = 0 then (ak_p n t0 g0.1).bind fun x0=>(if x0 = true then thn (ap (aa_l3 n s0) n 0) (fun _=>some (!(decide (0 <= (-1))))) else some false) else some false))))) (fun d0=>(if j0.2 = 0 then (if k0.2 = 0 then (if g0.2.2 = 0 then (if ((j0.1.length:Nat):Int) = b0.2 then (if ((k0.1.length:Nat):Int) = b0.2 then d0 (!(decide (((g0.1.length:Nat):Int) = c0.fc))) else d0 true) else d0 true) else d0 true) else d0 true) else d0 true)) else some false)
theorem aa_c (n:Nat) {L w} (hL:hl L w) (a0:Tj) {v0_1:Value} (h0_1:Rep.R w L [v0_1] a0.fB) {v0_2:Value} (h0_2:Rep.R w L [v0_2] a0.fMore) {v0_3:Value} (h0_3:Rep.R w L [v0_3] a0.fLabels) (a1:Ti) {v1_4:Value} (h1_4:Rep.R w L [v1_4] a1.fNums)  {r:Bool} (h:aa_p n a0 a1 = some r) :
 Cl 5 #[.agg #[.int .u8 (a0.fN.toNat:Int),v0_1,v0_2,v0_3,.int .u8 (a0.fK.toNat:Int)],.agg #[.int .u8 (a1.fh.toNat:Int),.int .u8 (a1.fc.toNat:Int),.int .u8 (a1.fe.toNat:Int),.int .u8 (a1.ft.toNat:Int),v1_4]] w (aj w fun _ u=>u = .bool r):=by
 unfold aa_p at h
 refine AC func5 rfl rfl rfl fun _ cs0 hb0=>Ae<|RG.bx (Ax w) rfl rfl fun w11 t9 B5 W9=>RG.bx B5 rfl rfl fun w16 u9 R0 X9=>Af rfl<|Aa<|Aj<|Ae<|bk h fun P8 y8 h=>Bf (.bool P8) (bd 10) rfl ah (fun p q=>bo_c n (R0.hL0 hL q)  y8) rfl<|Ab (BB rfl)<|Aa<|MX.ifnb rfl h (fun J4 h=>?_) (fun J4 h=>?_)
 refine Ao<|Ae<|Ab (AE rfl (R0.memA .t1))<|bk h fun W1 z8 h=>jE (bd 21) rfl (e1 rfl) (fun p q=>ac_c n (R0.hL hL q) a0 (R0.km h0_1 q) (R0.km h0_2 q) (R0.km h0_3 q) z8) rfl fun w23 E00 g6 ⟨v28,hu_,z1⟩=>?_
 subst hu_
 obtain ⟨D1,Y9⟩:=R0.agr g6
 refine Ac rfl<|Ab (Ah rfl rfl)<|Ab (Ah rfl rfl)<|Af rfl<|Af rfl<|Aa<|Ae<|Ab (AE rfl (D1.memA .hd))<|Ac rfl ?_
 have p00:W1.1.length <= 281474976710656:=AT z1
 refine Ab (Bb (xs:=W1.1) underlying39 rfl z1)<|bk h fun b0 A8 h=>jE (bd 26) rfl (e2 rfl rfl) (fun p q=>ab_c n (D1.hL hL q) a1 (D1.km h1_4 q) A8) rfl fun w32 F00 j6 ⟨B0,hu_,g1⟩=>?_
 subst hu_
 obtain ⟨P5,X2⟩:=D1.agr j6
 refine RG.nl [vI 0,vI 0,vI 0,vN] P5 fun w40 v0 Q5 I1=>AV [vI b0.fh,vI b0.fc,vI b0.fe,B0] Q5 .hd (o4 rfl rfl rfl (Bc (Ay g1 I1))) fun w45 c2 p2=>Aa<|Ae<|Ab (AE rfl (c2.memA .hd))<|Ac rfl<|Ac rfl<|bk h fun H0 B8 h=>?_
 have K3:=Tt X2 (Tt I1 p2)
 refine jE (bd 23) rfl (e3 rfl rfl rfl) (fun p q=>bZ_c n (c2.hL hL q) b0 (Au (Ay g1 (Tt I1 p2)) q) (Au (Ay z1 K3) q) B8) rfl fun w52 G00 k6 ⟨U1,hu_,H2⟩=>?_
 subst hu_
 obtain ⟨d2,Y2⟩:=c2.agr k6
 refine Ac rfl<|Ab (Ah rfl rfl)<|Ab (Ah rfl rfl)<|Af rfl<|Af rfl<|Aa<|Ae<|Ab (AE rfl (d2.memA .hd))<|Ac rfl<|Ac rfl<|bk h fun X1 C8 h=>?_
 have Q1:=Tt I1 (Tt p2 Y2)
 refine jE (bd 24) rfl (e3 rfl rfl rfl) (fun p q=>bf_c n (d2.hL hL q) b0 (Au (Ay g1 Q1) q) (Au (Ay z1 (Tt X2 Q1)) q) C8) rfl fun w63 H00 p6 ⟨V1,hu_,R1⟩=>?_
 subst hu_
 obtain ⟨g2,s1⟩:=d2.agr p6
 refine Ac rfl<|Ab (Ah rfl rfl)<|Ab (Ah rfl rfl)<|Af rfl<|Af rfl<|Aa<|Ae<|Ab (AE rfl (g2.memA .hd))<|Ac rfl<|Ac rfl<|bk h fun Y0 D8 h=>jE (bd 27) rfl (e3 rfl rfl rfl) (fun p q=>ba_c n (g2.hL hL q) b0 (Au (Ay g1 (Tt Q1 s1)) q) (Au (Ay z1 (Tt K3 (Tt Y2 s1))) q) D8) rfl fun w74 I00 q6 ⟨j1,hu_,I2⟩=>?_
 subst hu_
 obtain ⟨V0,v1⟩:=g2.agr q6
 refine Ac rfl<|Ab (Ah rfl rfl)<|Ab (Ah rfl rfl)<|Ab (Ah rfl rfl)<|Af rfl<|Af rfl<|Af rfl<|Aa<|Aj<|Aj<|MX.jo (α:=Bool) (fun B1=>[(7,vP v0),(8,U1),(10,V1),(12,j1),(13,vI Y0.2.1),(86,.bool B1)]) (fun B1=>[.cells v0 [vI b0.fh,vI b0.fc,vI b0.fe,B0] 37]) (fun B1=>B1) V0 h ?_ ?_
 rintro B1 j01 j2 J1 h
 try dsimp only at h
 refine MX.ifb rfl h (fun X4 h=>?_) (fun X4 h=>?_)
 refine Ae<|Af rfl<|Aa<|Am rfl<|AW hb0 func5 rfl rfl ?_
 cases h
 exact j2.gv
 refine Ao<|Ae<|Bl 1 rfl<|AK rfl ((j2.memA .hd) 1 _ rfl)<|bk h fun j4 P3 h=>Ak .plain rfl (Does.mk (α:=Int) P3 j2 bb rfl) fun J00 g0 b2 F1=>Af rfl<|Aa<|Ae<|Bl 1 rfl<|AK rfl ((b2.memA .t1) 1 _ rfl)<|bk h fun g4 M3 h=>Ak .plain rfl (Does.mk (α:=Int) M3 b2 bb rfl) fun M00 p0 R2 p1=>Af rfl<|Aa<|Aj<|Ae<|Ac rfl ?_
 have J3:=Tt s1 (Tt v1 (Tt J1 (Tt F1 p1)))
 have B3:=Ay H2 J3
 have b00:H0.1.length <= 281474976710656:=AT B3
 refine Ab (Bb (xs:=H0.1) underlying64 rfl B3)<|Ac rfl<|Aa<|Ar<|tn h fun y00 x7 y1=>MX.lf (α:=Int × Nat × (List Int) × (List Int) × (List Value) × (List Value)) (fun ⟨z0,j0,q0,C0,s0,E0⟩=>[(7,vP v0),(10,V1),(12,j1),(13,vI z0),(15,(.slice (some ⟨g0,0,none⟩) b0.fc.toNat b0.fc.toNat)),(16,(.slice (some ⟨p0,0,none⟩) b0.fc.toNat b0.fc.toNat)),(93,U1),(94,vI ((H0.1.length:Nat):Int)),(95,vI ((j0:Nat):Int))]) (fun ⟨z0,j0,q0,C0,s0,E0⟩=>[rr w 3 Int (.slice (some ⟨p0,0,none⟩) b0.fc.toNat b0.fc.toNat) q0.length s0,rr w 3 Int (.slice (some ⟨g0,0,none⟩) b0.fc.toNat b0.fc.toNat) C0.length E0,.cells v0 [vI b0.fh,vI b0.fc,vI b0.fe,B0] 37]) (fun ⟨z0,j0,q0,C0,s0,E0⟩ K2=>Cells K2 (bl [rr w 3 Int (.slice (some ⟨p0,0,none⟩) b0.fc.toNat b0.fc.toNat) q0.length s0,rr w 3 Int (.slice (some ⟨g0,0,none⟩) b0.fc.toNat b0.fc.toNat) C0.length E0,.cells v0 [vI b0.fh,vI b0.fc,vI b0.fe,B0] 37] ++ L) s0 q0/\Cells K2 (bl [rr w 3 Int (.slice (some ⟨p0,0,none⟩) b0.fc.toNat b0.fc.toNat) q0.length s0,rr w 3 Int (.slice (some ⟨g0,0,none⟩) b0.fc.toNat b0.fc.toNat) C0.length E0,.cells v0 [vI b0.fh,vI b0.fc,vI b0.fe,B0] 37] ++ L) E0 C0) (fun ⟨z0,j0,q0,C0,s0,E0⟩=>(z0,j0,q0,C0)) (Y0.2.1,0,g4,j4,(List.replicate b0.fc.toNat [vI 0]).flatten,(List.replicate b0.fc.toNat [vI 0]).flatten) x7 R2 ⟨(AD (cs:=(List.replicate b0.fc.toNat [vI 0]).flatten) (xs:=g4) R2 L (Cells.mk M3 rfl)),(AG (AD (cs:=(List.replicate b0.fc.toNat [vI 0]).flatten) (xs:=j4) b2 L (Cells.mk P3 rfl)) p1)⟩ ?_
 rintro j9 ⟨z0,j0,q0,C0,s0,E0⟩ K2 z5 U0 u1 ⟨s2,g3⟩ h
 unfold aa_l5 at h
 try dsimp only at h
 refine Ae<|Ab (Bi (i:=j0) (j:=H0.1.length) rfl rfl)<|Aa<|Aj<|AJ rfl h (fun K4 h=>?_) (fun K4 h=>?_)
 refine Ao<|Aj<|Ar<|Ae<|Ac rfl<|bk h fun k1 b8 h=>?_
 obtain ⟨V8,D9,E6,X6,V9,F7,j7⟩:=Bk (Ay H2 (Tt J3 u1)) b8
 obtain ⟨R3,rfl,A1⟩:=bh F7
 refine Ab (Ba 1 j0 rfl E6 rfl rfl X6)<|AK rfl (j7 0 _ rfl)<|Af rfl<|Af rfl<|Aa<|Aj<|Aj<|du 21 fun c0 d0=>Rv 0 c0 rfl d0 (fun _=>Ai rfl) ?_
 have q00:k1.length <= 281474976710656:=AT A1
 refine Rx 1 2097136 c0 rfl d0 (Bb (xs:=k1) underlying38 rfl A1)<|Rv 2 c0 rfl d0 (fun _=>Bn 1 rfl)<|Rx 3 2097136 c0 rfl d0 (AY rfl ((U0.memA .t2) 1 _ rfl))<|Rv 4 c0 rfl d0 (fun _=>FV.neq (i:=((k1.length:Nat):Int)) (j:=b0.fc) rfl rfl)<|Rv 5 c0 rfl d0 (fun _=>Ai rfl)<|RD.ifn (s:=105) rfl h (fun M4 h=>?_) (fun M4 h=>?_)
 refine Bv 6 127 c0 rfl d0 (.yes rfl rfl) (fun _=>Ai rfl) rfl<|Bv 7 255 c0 rfl d0 (.yes rfl rfl) (fun _=>Ai rfl) rfl<|bk h fun y0 J2 h=>?_
 have F2:=Tt v1 (Tt J1 (Tt F1 (Tt p1 u1)))
 obtain ⟨W8,E9,k3,y3,j5,G7,F3⟩:=Bk (Ay R1 F2) J2
 have F6:j5 = [vI y0]:=G7; subst F6
 refine Bv 8 511 c0 rfl d0 (.yes rfl rfl) (fun _=>Ba 1 j0 rfl k3 rfl rfl y3) rfl<|RD.val (i:=9) (m' :=1023) (W:=2096128) (tk c0) rfl d0 (.yes rfl rfl) (AY rfl (F3 0 _ rfl)) rfl<|Bv 10 2047 c0 rfl d0 (.yes rfl rfl) (fun _=>FV.lss (i:=y0) (j:=(-1)) rfl rfl) rfl<|Rv 11 c0 rfl d0 (fun _=>AH rfl rfl)<|Rv 12 c0 rfl d0 (fun _=>Ai rfl)<|RD.ifd (s:=112) rfl h (fun P4 h=>?_) (fun P4 h=>?_)
 refine AZ 1048575 1 [(13,113),(14,114),(15,115),(16,116),(17,117),(18,118),(19,119)] (F:=[(112,true)]) (U:=[]) c0 d0 (.cons rfl .nil) .nil ?_
 dsimp only [az,List.map]
 refine Rv 20 c0 rfl d0 (fun _=>FV.pick_t rfl rfl)<|AI (dk c0)<|Bs rfl<|Ae<|Af rfl<|Aa ?_
 have h:=av h y1
 refine Am rfl<|AW hb0 func5 rfl rfl ?_
 cases h
 exact U0.gv
 refine Bv 13 16383 c0 rfl d0 (.yes rfl rfl) (fun _=>Ai rfl) rfl<|Bv 14 32767 c0 rfl d0 (.yes rfl rfl) (fun _=>Ai rfl) rfl<|Bv 15 65535 c0 rfl d0 (.yes rfl rfl) (fun _=>Ba 1 j0 rfl k3 rfl rfl y3) rfl<|RD.val (i:=16) (m' :=131071) (W:=1572864) (tk c0) rfl d0 (.yes rfl rfl) (AY rfl (F3 0 _ rfl)) rfl<|Bv 17 262143 c0 rfl d0 (.yes rfl rfl) (fun _=>Bn 1 rfl) rfl<|RD.val (i:=18) (m' :=524287) (W:=1572864) (tk c0) rfl d0 (.yes rfl rfl) (AY rfl ((U0.memA .t2) 1 _ rfl)) rfl<|Bv 19 1048575 c0 rfl d0 (.yes rfl rfl) (fun _=>FV.geq (i:=y0) (j:=b0.fc) rfl rfl) rfl<|Rv 20 c0 rfl d0 (fun _=>AH rfl rfl)<|AI (dk c0)<|AJ rfl h (fun Q4 h=>?_) (fun Q4 h=>?_)
 refine Ae<|Af rfl<|Aa ?_
 have h:=av h y1
 refine Am rfl<|AW hb0 func5 rfl rfl ?_
 cases h
 exact U0.gv
 refine Ao<|Aj<|Ae<|Ac rfl<|Ab (Bb (xs:=k1) underlying38 rfl A1)<|Ac rfl<|Aa<|Ar<|tn h fun z00 y7 u3=>MX.lf (α:=Nat × (List Int) × (List Value)) (fun ⟨k0,D0,F0⟩=>[(7,vP v0),(10,V1),(12,j1),(13,vI z0),(15,(.slice (some ⟨g0,0,none⟩) b0.fc.toNat b0.fc.toNat)),(16,(.slice (some ⟨p0,0,none⟩) b0.fc.toNat b0.fc.toNat)),(93,U1),(94,vI ((H0.1.length:Nat):Int)),(95,vI ((j0:Nat):Int)),(17,vI ((j0:Nat):Int)),(18,R3),(121,R3),(122,vI ((k1.length:Nat):Int)),(123,vI ((k0:Nat):Int))]) (fun ⟨k0,D0,F0⟩=>[rr w 3 Int (.slice (some ⟨p0,0,none⟩) b0.fc.toNat b0.fc.toNat) q0.length s0,rr w 3 Int (.slice (some ⟨g0,0,none⟩) b0.fc.toNat b0.fc.toNat) D0.length F0,.cells v0 [vI b0.fh,vI b0.fc,vI b0.fe,B0] 37]) (fun ⟨k0,D0,F0⟩ W3=>Cells W3 (bl [rr w 3 Int (.slice (some ⟨p0,0,none⟩) b0.fc.toNat b0.fc.toNat) q0.length s0,rr w 3 Int (.slice (some ⟨g0,0,none⟩) b0.fc.toNat b0.fc.toNat) D0.length F0,.cells v0 [vI b0.fh,vI b0.fc,vI b0.fe,B0] 37] ++ L) F0 D0) (fun ⟨k0,D0,F0⟩=>(k0,D0)) (0,C0,E0) y7 U0 g3 ?_
 rintro k9 ⟨k0,D0,F0⟩ W3 Z1 W0 G0 u2 h
 unfold aa_l1 at h
 try dsimp only at h
 refine Ae<|Ab (Bi (i:=k0) (j:=k1.length) rfl rfl)<|Aa<|Aj<|AJ rfl h (fun R4 h=>?_) (fun R4 h=>?_)
 refine Ao<|Aj<|Ar<|Ae<|Ac rfl<|bk h fun M2 c8 h=>?_
 obtain ⟨X8,F9,G6,Y6,k5,H7,k7⟩:=Bk (Ay A1 G0) c8
 have H6:k5 = [vI M2]:=H7; subst H6
 refine Ab (Ba 1 k0 rfl G6 rfl rfl Y6)<|AK rfl (k7 0 _ rfl)<|Af rfl<|Af rfl<|Aa<|Ae<|Ac rfl<|Ac rfl<|bk h fun b4 d8 h=>?_
 obtain ⟨q4,G9,M1,A2,p5,I7,p7⟩:=St.nth (α:=Int) W0 .t1 u2 d8
 obtain ⟨v4,H9,p3⟩:=Bp (α:=Int) W0 .t1 A2
 obtain rfl:q4 = ⟨v4,0,none⟩:=by rw [p3] at M1; cases M1; rfl
 have I6:p5 = [vI b4]:=I7; subst I6
 refine Ab (Ba 1 k0 rfl M1 rfl rfl A2)<|AK rfl (p7 0 _ rfl)<|Ac rfl<|bk h fun C00 V7 h=>Ab (Br (i:=b4) (j:=M2) rfl rfl V7)<|Ab (Ba 1 k0 rfl M1 rfl rfl A2)<|bk h fun P2 t8 h=>RG.acts' .plain (Acts.set (α:=Int) (i:=k0) t8 W0 p3 (fun _=>.t1) u2 rfl rfl rfl rfl rfl rfl) fun d01 ⟨Y1,E1,x1,v2⟩=>Aa<|Ae<|Ac rfl<|Ac rfl ?_
 obtain ⟨Y8,I9,y2,B2,q5,J7,D2⟩:=Bk (Ay R1 (Tt F2 (Tt G0 x1))) J2
 have J6:q5 = [vI y0]:=J7; subst J6
 refine Ab (Ba 1 j0 rfl y2 rfl rfl B2)<|AK rfl (D2 0 _ rfl)<|Ab (FV.geq (i:=y0) (j:=0) rfl rfl)<|Ac rfl<|RG.ifd (s:=140) rfl h (fun U4 h=>?_) (fun U4 h=>?_)
 refine AP (Ai rfl)<|AP (Ai rfl)<|AP (Ai rfl)<|AP (Ba 1 j0 rfl y2 rfl rfl B2)<|AP (AY rfl (D2 0 _ rfl))<|AP (FV.neq (i:=((k0:Nat):Int)) (j:=y0) rfl rfl)<|Bz rfl rfl<|Ac rfl<|RG.ifn (s:=148) rfl h (fun V4 h=>?_) (fun V4 h=>?_)
 refine Az<|Az<|Az<|Az<|Az<|Az<|Az<|Az<|Az<|RG.pf rfl rfl<|Aa<|Bm rfl<|Ao<|Av<|Al<|Ab (Bd (i:=k0) (j:=1) rfl rfl (by omega))<|Ac rfl<|Aa<|Z1 (k0 + 1,P2,Y1) E1 (Tt G0 x1) v2 h
 refine AP (Ai rfl)<|AP (Ai rfl)<|AP (Ai rfl)<|AP (Ai rfl)<|AP (Ba 1 j0 rfl y2 rfl rfl B2)<|AP (AY rfl (D2 0 _ rfl))<|bk h fun c4 g8 h=>?_
 obtain ⟨U6,j8⟩:=aD g8
 obtain ⟨Z8,J9,K6,Z6,s5,K7,q7⟩:=Bk (Ay A1 (Tt G0 x1)) j8
 have M6:s5 = [vI c4]:=K7; subst M6
 refine AP (Ba 1 (y0.toNat) rfl K6 rfl U6 Z6)<|AP (AY rfl (q7 0 _ rfl))<|AP (FV.geq (i:=M2) (j:=c4) rfl rfl)<|Bz rfl rfl<|Aa<|AJ rfl h (fun W4 h=>?_) (fun W4 h=>?_)
 refine Ae<|Af rfl<|Aa ?_
 have h:=av h u3
 have h:=av h y1
 refine Am rfl<|AW hb0 func5 rfl rfl ?_
 cases h
 exact E1.gv
 refine Ao<|Av<|Al<|Ab (Bd (i:=k0) (j:=1) rfl rfl (by omega))<|Ac rfl<|Aa<|Z1 (k0 + 1,P2,Y1) E1 (Tt G0 x1) v2 h
 refine Az<|Az<|Az<|Az<|Az<|Az<|RG.pf rfl rfl<|Ac rfl<|Az<|Az<|Az<|Az<|Az<|Az<|Az<|Az<|Az<|RG.pf rfl rfl<|Aa<|Bm rfl<|Ao<|Av<|Al<|Ab (Bd (i:=k0) (j:=1) rfl rfl (by omega))<|Ac rfl<|Aa<|Z1 (k0 + 1,P2,Y1) E1 (Tt G0 x1) v2 h
 refine AR rfl ?_
 have h:=aB h u3
 try dsimp only at h
 refine Ae<|Ac rfl<|Ac rfl ?_
 obtain ⟨b9,K9,q3,z3,t5,M7,G3⟩:=Bk (Ay R1 (Tt F2 G0)) J2
 have P6:t5 = [vI y0]:=M7; subst P6
 refine Ab (Ba 1 j0 rfl q3 rfl rfl z3)<|AK rfl (G3 0 _ rfl)<|Ab (FV.geq (i:=y0) (j:=0) rfl rfl)<|Aa<|MX.jf (α:=Int × (List Int) × (List Value)) (fun ⟨Z0,M0,Q0⟩=>[(7,vP v0),(10,V1),(12,j1),(13,vI Z0),(15,(.slice (some ⟨g0,0,none⟩) b0.fc.toNat b0.fc.toNat)),(16,(.slice (some ⟨p0,0,none⟩) b0.fc.toNat b0.fc.toNat)),(93,U1),(94,vI ((H0.1.length:Nat):Int)),(95,vI ((j0:Nat):Int))]) (fun ⟨Z0,M0,Q0⟩=>[rr w 3 Int (.slice (some ⟨p0,0,none⟩) b0.fc.toNat b0.fc.toNat) M0.length Q0,rr w 3 Int (.slice (some ⟨g0,0,none⟩) b0.fc.toNat b0.fc.toNat) D0.length F0,.cells v0 [vI b0.fh,vI b0.fc,vI b0.fe,B0] 37]) (fun ⟨Z0,M0,Q0⟩ X3=>Cells X3 (bl [rr w 3 Int (.slice (some ⟨p0,0,none⟩) b0.fc.toNat b0.fc.toNat) M0.length Q0,rr w 3 Int (.slice (some ⟨g0,0,none⟩) b0.fc.toNat b0.fc.toNat) D0.length F0,.cells v0 [vI b0.fh,vI b0.fc,vI b0.fe,B0] 37] ++ L) Q0 M0) (fun ⟨Z0,M0,Q0⟩=>(Z0,M0)) W0 h ?_ ?_
 rintro ⟨Z0,M0,Q0⟩ X3 R5 Z2 u6 h
 try dsimp only at h
 refine Av<|Al<|Ab (Bd (i:=j0) (j:=1) rfl rfl (by omega))<|Ac rfl<|Aa<|z5 (Z0,j0 + 1,M0,D0,Q0,F0) R5 (Tt u1 (Tt G0 Z2)) ⟨u6,(AG u2 Z2)⟩ h
 intro q9 Q2 h
 try dsimp only at h
 refine AJ rfl h (fun Y4 h=>?_) (fun Y4 h=>?_)
 refine Al<|Ac rfl<|Ac rfl<|Ac rfl<|Ab (Ba 1 j0 rfl q3 rfl rfl z3)<|AK rfl (G3 0 _ rfl)<|bk h fun d4 k8 h=>?_
 obtain ⟨v3,p8⟩:=aD k8
 have H3:=AG s2 G0
 obtain ⟨s4,M9,P1,C2,u5,P7,s7⟩:=St.nth (α:=Int) W0 .hd H3 p8
 obtain ⟨x4,P9,s3⟩:=Bp (α:=Int) W0 .hd C2
 obtain rfl:s4 = ⟨x4,0,none⟩:=by rw [s3] at P1; cases P1; rfl
 have v6:u5 = [vI d4]:=P7; subst v6
 refine Ab (Ba 1 (y0.toNat) rfl P1 rfl v3 C2)<|AK rfl (s7 0 _ rfl)<|bk h fun A00 Q7 h=>Ab (Br (i:=d4) (j:=1) rfl rfl Q7)<|Ab (Ba 1 (y0.toNat) rfl P1 rfl v3 C2)<|bk h fun I8 q8 h=>RG.acts' .plain (Acts.set (α:=Int) (i:=y0.toNat) q8 W0 s3 (fun _=>.hd) H3 rfl rfl rfl rfl rfl rfl) fun K00 ⟨Z4,A5,U5,s6⟩=>Aa<|Q2 (z0,I8,Z4) A5 U5 s6 h
 refine Al<|Ac rfl<|bk h fun E8 R7 h=>Ab (FV.subc (i:=z0) (j:=1) rfl rfl R7)<|Af rfl<|Aa<|Q2 (E8,q0,s0) W0 (Tr.refl _ _) (AG s2 G0) h
 refine AZ 2047 10 [(6,106),(7,107),(8,108),(9,109),(10,110)] (F:=[(105,true)]) (U:=[]) c0 d0 (.cons rfl .nil) .nil ?_
 dsimp only [az,List.map]
 refine Rv 11 c0 rfl d0 (fun _=>FV.pick_t rfl rfl)<|Rv 12 c0 rfl d0 (fun _=>Ai rfl)<|AZ 1048575 1 [(13,113),(14,114),(15,115),(16,116),(17,117),(18,118),(19,119)] (F:=[(112,true)]) (U:=[]) c0 d0 (.cons rfl .nil) .nil ?_
 dsimp only [az,List.map]
 refine Rv 20 c0 rfl d0 (fun _=>FV.pick_t rfl rfl)<|AI (dk c0)<|Bs rfl<|Ae<|Af rfl<|Aa ?_
 have h:=av h y1
 refine Am rfl<|AW hb0 func5 rfl rfl ?_
 cases h
 exact U0.gv
 refine AR rfl ?_
 have h:=aB h y1
 try dsimp only at h
 refine Aj<|Ae<|Bl 3 rfl<|AK rfl ((U0.memA .t2) 3 _ rfl) ?_
 have I3:=Tt Q1 (Tt s1 (Tt v1 (Tt J1 (Tt F1 (Tt p1 u1)))))
 have A3:=Ay g1 I3
 have Z9:b0.fq.length <= 281474976710656:=AT A3
 refine Ab (Bb (xs:=b0.fq) underlying35 rfl A3)<|Ac rfl<|Aa<|Ar ?_
 obtain ⟨C5,G1⟩:=AL U0 (.a0 (.a0 .done))
 obtain ⟨u00,t7,Q6⟩:=ar h
 refine MX.lf (α:=Nat × (List Int) × (List Value)) (fun ⟨A0,u0,I0⟩=>[(12,j1),(13,vI z0),(15,(.slice (some ⟨g0,0,none⟩) b0.fc.toNat b0.fc.toNat)),(16,(.slice (some ⟨p0,0,none⟩) b0.fc.toNat b0.fc.toNat)),(178,B0),(179,vI ((b0.fq.length:Nat):Int)),(180,vI ((A0:Nat):Int))]) (fun ⟨A0,u0,I0⟩=>[rr w 3 Int (.slice (some ⟨p0,0,none⟩) b0.fc.toNat b0.fc.toNat) q0.length s0,rr w 3 Int (.slice (some ⟨g0,0,none⟩) b0.fc.toNat b0.fc.toNat) u0.length I0]) (fun ⟨A0,u0,I0⟩ U3=>Cells U3 (bl [rr w 3 Int (.slice (some ⟨p0,0,none⟩) b0.fc.toNat b0.fc.toNat) q0.length s0,rr w 3 Int (.slice (some ⟨g0,0,none⟩) b0.fc.toNat b0.fc.toNat) u0.length I0] ++ L) I0 u0) (fun ⟨A0,u0,I0⟩=>(A0,u0)) (0,C0,E0) t7 C5 (AG g3 G1) ?_
 rintro c9 ⟨A0,u0,I0⟩ U3 v5 J0 H1 d3 h
 unfold aa_l4 at h
 try dsimp only at h
 refine Ae<|Ab (Bi (i:=A0) (j:=b0.fq.length) rfl rfl)<|Aa<|Aj<|AJ rfl h (fun y4 h=>?_) (fun y4 h=>?_)
 refine Ao<|Aj<|Ar<|Ae<|bk h fun X0 W7 h=>?_
 obtain ⟨Q8,v9,x6,V6,Q9,z7,b7⟩:=Bk (Ay g1 (Tt I3 (Tt G1 H1))) W7
 obtain ⟨F8,Q3,G8,rfl,A7,G2,B7⟩:=gy z7
 refine Ab (Ba 6 A0 rfl x6 rfl rfl V6)<|Ab (AE rfl b7)<|RG.nl [.string ⟨#[]⟩,vI 0,vN,vN,vN,.bool false] J0 fun Q00 s9 D5 q1=>AV [.string X0.fu,vI X0.fx,F8,Q3,G8,.bool X0.ft] D5 .hd (o6 rfl rfl (Bc (Ay A7 q1)) (Bc (Ay G2 q1)) (Bc (Ay B7 q1)) rfl) fun R00 U2 V2=>Aa<|Ae<|Bl 3 rfl<|AK rfl ((U2.memA .hd) 3 _ rfl) ?_
 have C3:=Ay G2 (Tt q1 V2)
 have c00:X0.fA.length <= 281474976710656:=AT C3
 refine Ab (Bb (xs:=X0.fA) underlying38 rfl C3)<|Ac rfl<|Aa<|Ar ?_
 obtain ⟨E5,V5⟩:=AL U2 .d1
 have E2:=Tt q1 (Tt V2 V5)
 obtain ⟨v00,u7,R6⟩:=ar h
 refine MX.lf (α:=Nat × (List Int) × (List Value)) (fun ⟨t0,K0,P0⟩=>[(12,j1),(13,vI z0),(15,(.slice (some ⟨g0,0,none⟩) b0.fc.toNat b0.fc.toNat)),(16,(.slice (some ⟨p0,0,none⟩) b0.fc.toNat b0.fc.toNat)),(178,B0),(179,vI ((b0.fq.length:Nat):Int)),(180,vI ((A0:Nat):Int)),(185,Q3),(186,vI ((X0.fA.length:Nat):Int)),(187,vI ((t0:Nat):Int))]) (fun ⟨t0,K0,P0⟩=>[rr w 3 Int (.slice (some ⟨p0,0,none⟩) b0.fc.toNat b0.fc.toNat) q0.length s0,rr w 3 Int (.slice (some ⟨g0,0,none⟩) b0.fc.toNat b0.fc.toNat) K0.length P0]) (fun ⟨t0,K0,P0⟩ V3=>Cells V3 (bl [rr w 3 Int (.slice (some ⟨p0,0,none⟩) b0.fc.toNat b0.fc.toNat) q0.length s0,rr w 3 Int (.slice (some ⟨g0,0,none⟩) b0.fc.toNat b0.fc.toNat) K0.length P0] ++ L) P0 K0) (fun ⟨t0,K0,P0⟩=>(t0,K0)) (0,u0,I0) u7 E5 (AG d3 E2) ?_
 rintro d9 ⟨t0,K0,P0⟩ V3 x5 C1 k2 q2 h
 unfold aa_l2 at h
 try dsimp only at h
 refine Ae<|Ab (Bi (i:=t0) (j:=X0.fA.length) rfl rfl)<|Aa<|Aj<|AJ rfl h (fun z4 h=>?_) (fun z4 h=>?_)
 refine Ao<|Aj<|Ar<|Ae<|Ac rfl<|bk h fun Y3 X7 h=>?_
 obtain ⟨R8,x9,y6,W6,b5,C7,c7⟩:=Bk (Ay G2 (Tt E2 k2)) X7
 have z6:b5 = [vI Y3]:=C7; subst z6
 refine Ab (Ba 1 t0 rfl y6 rfl rfl W6)<|AK rfl (c7 0 _ rfl)<|Af rfl<|Af rfl<|Aa<|Al<|Ac rfl<|Ac rfl<|bk h fun Z3 Y7 h=>?_
 obtain ⟨k4,y9,K1,z2,c5,D7,d7⟩:=St.nth (α:=Int) C1 .t1 q2 Y7
 obtain ⟨t4,z9,j3⟩:=Bp (α:=Int) C1 .t1 z2
 obtain rfl:k4 = ⟨t4,0,none⟩:=by rw [j3] at K1; cases K1; rfl
 have A6:c5 = [vI Z3]:=D7; subst A6
 refine Ab (Ba 1 t0 rfl K1 rfl rfl z2)<|AK rfl (d7 0 _ rfl)<|Ac rfl<|bk h fun B00 U7 h=>Ab (FV.subc (i:=Z3) (j:=Y3) rfl rfl U7)<|Ab (Ba 1 t0 rfl K1 rfl rfl z2)<|bk h fun J8 s8 h=>RG.acts' .plain (Acts.set (α:=Int) (i:=t0) s8 C1 j3 (fun _=>.t1) q2 rfl rfl rfl rfl rfl rfl) fun U00 ⟨d5,F5,W5,t6⟩=>Aa<|Av<|Al<|Ab (Bd (i:=t0) (j:=1) rfl rfl (by omega))<|Ac rfl<|Aa<|x5 (t0 + 1,J8,d5) F5 (Tt k2 W5) t6 h
 refine AR rfl ?_
 have h:=R6 _ h
 try dsimp only at h
 refine Av<|Al<|Ab (Bd (i:=A0) (j:=1) rfl rfl (by omega))<|Ac rfl<|Aa<|v5 (A0 + 1,K0,P0) C1 (Tt H1 (Tt E2 k2)) q2 h
 refine AR rfl ?_
 have h:=Q6 _ h
 try dsimp only at h
 refine Ae<|Ac rfl<|Ab (FV.eql (i:=z0) (j:=0) rfl rfl)<|Ac rfl<|RG.ifd (s:=203) rfl h (fun A4 h=>?_) (fun A4 h=>?_)
 refine AP (Ai rfl)<|AP (Ai rfl)<|bk h fun K8 v8 h=>RG.callq' (v:=.bool K8) (fst:=[]) (cap:=[]) (.yes rfl rfl) (bd 28) rfl (e2 rfl rfl) (fun p q=>ak_c n (J0.hL0 hL q) (Au (St.lend (α:=Int) (L:=L) J0 .hd (AG s2 (Tt G1 H1)) hL) q) (J0.kd (Ay I2 (Tt J1 (Tt F1 (Tt p1 (Tt u1 (Tt G1 H1)))))) q) v8) rfl<|Bz rfl rfl<|Ac rfl<|RG.ifb (s:=208) rfl h (fun B4 h=>?_) (fun B4 h=>?_)
 refine AP (Ai rfl)<|Bo (fst:=[]) (cap:=[]) (vs:=[(.slice (some ⟨g0,0,none⟩) b0.fc.toNat b0.fc.toNat),.func (.func 30) #[] #[]]) (.yes rfl rfl) (bd 29) func29 rfl rfl rfl rfl (e2 rfl rfl) rfl fun R9 b3 s00=>Ae<|Af rfl<|Aa<|Ae<|Ac rfl<|Ac rfl<|Bo (fst:=[]) (cap:=[]) (vs:=[(.slice (some ⟨g0,0,none⟩) b0.fc.toNat b0.fc.toNat),.func (.func 30) #[] #[]]) .plain (bd 80) func80 rfl rfl rfl rfl (e2 rfl rfl) rfl fun U9 c3 t00=>Ae<|Af rfl<|Aa<|Aj<|Ae<|Ac rfl ?_
 have d00:u0.length <= 4294967296:=St.rowLe (α:=Int) J0 .t1
 obtain ⟨U8,A9,B6⟩:=St.rowV (α:=Int) J0 .t1
 refine Ab (FV.lenV underlying38 rfl B6)<|Ac rfl<|Aa<|Ar<|tn h fun x00 v7 t3=>MX.lo (α:=Nat) (fun x0=>[(0,(.slice (some ⟨g0,0,none⟩) b0.fc.toNat b0.fc.toNat)),(1,.func (.func 30) #[] #[]),(7,vI ((u0.length:Nat):Int)),(8,vI ((x0:Nat):Int))]) (fun x0=>[rr w 3 Int (.slice (some ⟨p0,0,none⟩) b0.fc.toNat b0.fc.toNat) q0.length s0,rr w 3 Int (.slice (some ⟨g0,0,none⟩) b0.fc.toNat b0.fc.toNat) u0.length I0]) (fun x0=>x0) 0 v7 J0 ?_
 rintro g9 x0 g01 y5 c1 W2 h
 unfold aa_l3 at h
 try dsimp only at h
 refine Ae<|Ab (Bi (i:=x0) (j:=u0.length) rfl rfl)<|Aa<|Aj<|AJ rfl h (fun C4 h=>?_) (fun C4 h=>?_)
 refine Ao<|Aj<|Ar<|Ae<|Ac rfl<|Af rfl<|Aa<|Ae<|Ac rfl<|Ac rfl<|Ac rfl<|bk h fun H8 Z7 h=>?_
 obtain ⟨p4,B9,x2,x3,g5,E7,g7⟩:=St.nth (α:=Int) c1 .t1 (AG d3 W2) Z7
 obtain ⟨u4,C9,C6⟩:=Bp (α:=Int) c1 .t1 x3
 obtain rfl:p4 = ⟨u4,0,none⟩:=by rw [C6] at x2; cases x2; rfl
 have D6:g5 = [vI H8]:=E7; subst D6
 refine Ab (Ba 1 x0 rfl x2 rfl rfl x3)<|AK rfl (g7 0 _ rfl)<|bk h fun M8 x8 h=>Bf (.bool M8) (bd 30) rfl (e1 rfl) (fun p q=>aQ_c n (c1.hL0 hL q)  x8) rfl<|Aa<|MX.ifb rfl h (fun D4 h=>?_) (fun D4 h=>?_)
 refine Ae<|Ac rfl<|Af rfl<|Aa ?_
 have h:=av h t3
 refine Am rfl<|Ap (u:=vI ((x0:Nat):Int)) c3 func80 rfl (.cons (.tmp rfl) .nil) rfl<|Ab (FV.geqN (i:=x0) (j:=0) rfl rfl)<|Af rfl<|Aa<|Am rfl<|Ap (u:=.bool (decide (0 <= x0))) b3 func29 rfl (.cons (.tmp rfl) .nil) rfl<|AP (BB rfl)<|Bz rfl rfl<|Af rfl<|Aa<|Am rfl<|AW hb0 func5 rfl rfl ?_
 cases h
 exact c1.gv
 refine Ao<|Av<|Al<|Ab (Bd (i:=x0) (j:=1) rfl rfl (by omega))<|Ac rfl<|Aa<|y5 (x0 + 1) c1 W2 h
 refine AR rfl ?_
 have h:=aB h t3
 try dsimp only at h
 refine Ae<|Af rfl<|Aa<|Am rfl<|Ap (u:=vI (-1)) c3 func80 rfl (.cons (.tmp rfl) .nil) rfl<|Ab (FV.geq (i:=(-1)) (j:=0) rfl rfl)<|Af rfl<|Aa<|Am rfl<|Ap (u:=.bool (decide (0 <= (-1)))) b3 func29 rfl (.cons (.tmp rfl) .nil) rfl<|AP (BB rfl)<|Bz rfl rfl<|Af rfl<|Aa<|Am rfl<|AW hb0 func5 rfl rfl ?_
 cases h
 exact c1.gv
 refine Az<|Az<|Az<|RG.pf rfl rfl<|Af rfl<|Aa<|Am rfl<|AW hb0 func5 rfl rfl ?_
 cases h
 exact J0.gv
 refine Az<|Az<|Az<|RG.pf rfl rfl<|Ac rfl<|Az<|Az<|Az<|RG.pf rfl rfl<|Af rfl<|Aa<|Am rfl<|AW hb0 func5 rfl rfl ?_
 cases h
 exact J0.gv
 intro p9 b1 h
 try dsimp only at h
 refine Al<|Ac rfl<|Ab (FV.neq (i:=H0.2) (j:=0) rfl rfl)<|Ac rfl<|RG.ifn (s:=60) rfl h (fun E4 h=>?_) (fun E4 h=>?_)
 refine AP (Ai rfl)<|AP (FV.neq (i:=X1.2) (j:=0) rfl rfl)<|RG.pf rfl rfl<|Ac rfl<|RG.ifn (s:=64) rfl h (fun F4 h=>?_) (fun F4 h=>?_)
 refine AP (Ai rfl)<|AP (FV.neq (i:=Y0.2.2) (j:=0) rfl rfl)<|RG.pf rfl rfl<|Ac rfl<|RG.ifn (s:=68) rfl h (fun G4 h=>?_) (fun G4 h=>?_)
 refine AP (Ai rfl) ?_
 have D3:=Ay H2 (Tt s1 v1)
 have g00:H0.1.length <= 281474976710656:=AT D3
 refine AP (Bb (xs:=H0.1) underlying64 rfl D3)<|AP (Ai rfl)<|AP (FV.neq (i:=((H0.1.length:Nat):Int)) (j:=W1.2) rfl rfl)<|RG.pf rfl rfl<|Ac rfl<|RG.ifn (s:=74) rfl h (fun H4 h=>?_) (fun H4 h=>?_)
 refine AP (Ai rfl) ?_
 have E3:=Ay R1 v1
 have j00:X1.1.length <= 281474976710656:=AT E3
 refine AP (Bb (xs:=X1.1) underlying38 rfl E3)<|AP (Ai rfl)<|AP (FV.neq (i:=((X1.1.length:Nat):Int)) (j:=W1.2) rfl rfl)<|RG.pf rfl rfl<|Ac rfl<|RG.ifn (s:=80) rfl h (fun I4 h=>?_) (fun I4 h=>?_)
 refine AP (Ai rfl) ?_
 have k00:Y0.1.length <= 281474976710656:=AT I2
 refine AP (Bb (xs:=Y0.1) underlying38 rfl I2)<|RG.fg 1 rfl<|AP (AY rfl ((V0.memA .hd) 1 _ rfl))<|AP (FV.neq (i:=((Y0.1.length:Nat):Int)) (j:=b0.fc) rfl rfl)<|RG.pf rfl rfl<|Aa ?_
 obtain ⟨G5,X5⟩:=AL V0 (.a0 .done)
 exact b1 (!(decide (((Y0.1.length:Nat):Int) = b0.fc))) G5 X5 h
 refine Az<|Az<|Az<|Az<|Az<|Bz rfl rfl<|Aa ?_
 obtain ⟨H5,Y5⟩:=AL V0 (.a0 .done)
 exact b1 true H5 Y5 h
 refine Az<|Az<|Az<|Az<|Bz rfl rfl<|Ac rfl<|Az<|Az<|Az<|Az<|Az<|Bz rfl rfl<|Aa ?_
 obtain ⟨I5,Z5⟩:=AL V0 (.a0 .done)
 exact b1 true I5 Z5 h
 refine Az<|Az<|Az<|Az<|Bz rfl rfl<|Ac rfl<|Az<|Az<|Az<|Az<|Bz rfl rfl<|Ac rfl<|Az<|Az<|Az<|Az<|Az<|Bz rfl rfl<|Aa ?_
 obtain ⟨J5,b6⟩:=AL V0 (.a0 .done)
 exact b1 true J5 b6 h
 refine Az<|Az<|Bz rfl rfl<|Ac rfl<|Az<|Az<|Az<|Az<|Bz rfl rfl<|Ac rfl<|Az<|Az<|Az<|Az<|Bz rfl rfl<|Ac rfl<|Az<|Az<|Az<|Az<|Az<|Bz rfl rfl<|Aa ?_
 obtain ⟨K5,c6⟩:=AL V0 (.a0 .done)
 exact b1 true K5 c6 h
 refine Az<|Az<|Bz rfl rfl<|Ac rfl<|Az<|Az<|Bz rfl rfl<|Ac rfl<|Az<|Az<|Az<|Az<|Bz rfl rfl<|Ac rfl<|Az<|Az<|Az<|Az<|Bz rfl rfl<|Ac rfl<|Az<|Az<|Az<|Az<|Az<|Bz rfl rfl<|Aa ?_
 obtain ⟨M5,d6⟩:=AL V0 (.a0 .done)
 exact b1 true M5 d6 h
 refine Ae<|Af rfl<|Aa<|Am rfl<|AW hb0 func5 rfl rfl ?_
 cases h
 exact R0.gv
end Go.Proofs.YtibdeoeglcngoaaGreatDoor
