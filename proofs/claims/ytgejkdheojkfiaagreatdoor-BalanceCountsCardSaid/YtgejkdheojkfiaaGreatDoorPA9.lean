/- Functions of the program, and what they give: part 9. -/
import Derived.Test.YtgejkdheojkfiaaGreatDoorPA8
namespace Go.Proofs.YtgejkdheojkfiaaGreatDoor
open Go Go.RowKit
set_option maxRecDepth 4000
set_option maxHeartbeats 4000000

def ax_l1 (n:Nat) (s0:List Th) (x0:Nat -> Option (Bool ⊕ Unit)):Nat -> Option (Bool ⊕ Unit)
  | d0=>(if d0 < s0.length then (s0[d0]?).bind fun b0=>(bB_p n b0.fr b0.fp b0.fk).bind fun g0=>(ap_p n b0.fr b0.fp b0.fk).bind fun j0=>(ck_p n b0.fr b0.fk).bind fun k0=>(bE_p n b0.fr b0.fk).bind fun p0=>jn (fun y0=>(if y0 = true then some (.inl false) else (cv_p n b0.fr b0.fp b0.fk).bind fun q0=>(aP_p n b0.fr b0.fp b0.fk).bind fun t0=>(bT_p n b0.fr b0.fp b0.fk).bind fun u0=>(az_p n b0.fr b0.fp b0.fk).bind fun v0=>(aN_p n q0.1 t0.1).bind fun z0=>(if z0 = true then (if q0.2 = t0.2 then (if u0.1 = v0.1 then (if u0.2 = v0.2 then x0 (d0 + 1) else some (.inl false)) else some (.inl false)) else some (.inl false)) else some (.inl false)))) (fun c0=>(cy_p n b0.fr b0.fp b0.fk).bind fun A0=>(ba_p n b0.fr b0.fp b0.fk).bind fun B0=>(if A0 = B0 then (aJ_p n g0.1 j0.1).bind fun C0=>(if C0 = true then (if g0.2 = j0.2 then (if k0.1 = p0.1 then c0 (!(decide (k0.2 = p0.2))) else c0 true) else c0 true) else c0 true) else c0 true)) else some (.inr ()))
def ax_p (n:Nat) (a0:Tj) (a1:Ti) (a2:Tl) (a3:Tl) (a4:Int):Option Bool:=
  (cr_p n).bind fun b0=>(if b0 = true then (bZ_p n a0 a1 a2 a3 a4).bind fun c0=>thn (loopF (ax_l1 n c0) n 0) (fun _=>some true) else some false)
theorem ax_c (n:Nat) {L w} (hL:hl L w) (a0:Tj) {v0_1:Value} (h0_1:Rep.R w L [v0_1] a0.fB) {v0_2:Value} (h0_2:Rep.R w L [v0_2] a0.fMore) {v0_3:Value} (h0_3:Rep.R w L [v0_3] a0.fLabels) (a1:Ti) {v1_4:Value} (h1_4:Rep.R w L [v1_4] a1.fNums) (a2:Tl) (a3:Tl) {a4:Int}  {r:Bool} (h:ax_p n a0 a1 a2 a3 a4 = some r) :
 Cl 4 #[.agg #[.int .u8 (a0.fN.toNat:Int),v0_1,v0_2,v0_3,.int .u8 (a0.fK.toNat:Int)],.agg #[.int .u8 (a1.fe.toNat:Int),.int .u8 (a1.fh.toNat:Int),.int .u8 (a1.fj.toNat:Int),.int .u8 (a1.fu.toNat:Int),v1_4],.agg #[.int .u8 (a2.fE.toNat:Int),.int .u8 (a2.fAt.toNat:Int),vI a2.fN],.agg #[.int .u8 (a3.fE.toNat:Int),.int .u8 (a3.fAt.toNat:Int),vI a3.fN],vI a4] w (Gives w fun _ u=>u = .bool r):=by
 unfold ax_p at h
 refine AF Tryz.func4 rfl rfl rfl fun _ cs0 hb0=>Ac<|RG.bx (AB w) rfl rfl fun C4 P3 W1 c4=>RG.bx W1 rfl rfl fun D4 Q3 X1 d4=>RG.bx X1 rfl rfl fun E4 R3 Z1 g4=>RG.bx Z1 rfl rfl fun I4 W3 j0 j4=>Af rfl<|Aa<|Aj<|Ac<|bk h fun E3 p3 h=>Bi (.bool E3) (bd 5) rfl evs_nil (fun p q=>cr_c n (j0.hL0 hL q)  p3) rfl<|Ab (Bo rfl)<|Aa<|MX.ifnb rfl h (fun G1 h=>?_) (fun G1 h=>?_)
 refine Aq<|Aj<|Ac<|Ab (AK rfl (j0.memA .t3))<|Ab (AK rfl (j0.memA .t2))<|Ab (AK rfl (j0.memA .t1))<|Ab (AK rfl (j0.memA .hd))<|Ae rfl<|bk h fun P0 s3 h=>AZ (fst:=[]) (cap:=[]) .plain (bd 6) rfl (e5 rfl rfl rfl rfl rfl) (fun p q=>bZ_c n (j0.hL hL q) a0 (j0.km h0_1 q) (j0.km h0_2 q) (j0.km h0_3 q) a1 (j0.km h1_4 q) a2 a3 s3) rfl fun V4 C1 P2 ⟨x4,hu_,q1⟩=>?_
 subst hu_
 obtain ⟨p2,k4⟩:=j0.agr P2
 have p4:P0.length <= 281474976710656:=AY q1
 refine Ab (Bc (xs:=P0) Tryz.underlying39 rfl q1)<|Ae rfl<|Aa<|Ay ?_
 obtain ⟨Y1,z2⟩:=AI p2 .done
 refine tn h fun q4 V2 A0=>MX.lo (α:=Nat) (fun s0=>[(32,C1),(33,vI ((P0.length:Nat):Int)),(34,vI ((s0:Nat):Int))]) (fun s0=>[]) (fun s0=>s0) 0 V2 Y1 ?_
 rintro K3 s0 b5 V1 u1 v1 h
 unfold ax_l1 at h
 try dsimp only at h
 refine Ac<|Ab (Bu (i:=s0) (j:=P0.length) rfl rfl)<|Aa<|Aj<|AS rfl h (fun F1 h=>?_) (fun F1 h=>?_)
 refine Aq<|Aj<|Ay<|Ac<|bk h fun d0 c3 h=>?_
 obtain ⟨J3,Z3,Q2,R2,b4,W2,U2⟩:=Bl (Ao q1 (Tt z2 v1)) c3
 obtain ⟨k0,B1,rfl,q0,t0⟩:=op_Th W2
 refine Ab (Bm 6 s0 rfl Q2 rfl rfl R2)<|Ab (AK rfl U2)<|RG.nl [vI 0,vI 0,vI 0,vN,vN,vI 0] u1 fun F4 s1 b2 J0=>AQ [vI d0.fr.fe,vI d0.fr.fh,vI d0.fr.fj,k0,B1,vI d0.fk] b2 .hd (o6 rfl rfl rfl (AR (Ao q0 J0)) (AR (Ao t0 J0)) rfl) fun G4 E0 V0=>Aa<|Ac<|AV 0 rfl<|Ab (Bp (cs:=[vI d0.fr.fe,vI d0.fr.fh,vI d0.fr.fj,k0]) (by kernel_rfl) rfl (mem_part (E0.memA .hd) 0 4))<|AV 4 rfl<|AP rfl ((E0.memA .hd) 4 _ rfl)<|AV 5 rfl<|AP rfl ((E0.memA .hd) 5 _ rfl)<|bk h fun C3 d3 h=>AZ (fst:=[]) (cap:=[]) .plain (bd 13) rfl (e3 rfl rfl rfl) (fun p q=>bB_c n (E0.hL hL q) d0.fr (Ar (Ao q0 (Tt J0 V0)) q) (Ar (Ao t0 (Tt J0 V0)) q) d3) rfl fun H4 y4 I2 ⟨s4,hu_,X2⟩=>?_
 subst hu_
 obtain ⟨F0,A2⟩:=E0.agr I2
 refine Ae rfl<|Ab (Ah rfl rfl)<|Ab (Ah rfl rfl)<|Af rfl<|Af rfl<|Aa<|Ac<|AV 0 rfl<|Ab (Bp (cs:=[vI d0.fr.fe,vI d0.fr.fh,vI d0.fr.fj,k0]) (by kernel_rfl) rfl (mem_part (F0.memA .hd) 0 4))<|AV 4 rfl<|AP rfl ((F0.memA .hd) 4 _ rfl)<|AV 5 rfl<|AP rfl ((F0.memA .hd) 5 _ rfl)<|bk h fun D3 g3 h=>?_
 have U0:=Tt J0 (Tt V0 A2)
 refine AZ (fst:=[]) (cap:=[]) .plain (bd 14) rfl (e3 rfl rfl rfl) (fun p q=>ap_c n (F0.hL hL q) d0.fr (Ar (Ao q0 U0) q) (Ar (Ao t0 U0) q) g3) rfl fun J4 z4 J2 ⟨t4,hu_,Y2⟩=>?_
 subst hu_
 obtain ⟨G0,W0⟩:=F0.agr J2
 refine Ae rfl<|Ab (Ah rfl rfl)<|Ab (Ah rfl rfl)<|Af rfl<|Af rfl<|Aa<|Ac<|AV 0 rfl<|Ab (Bp (cs:=[vI d0.fr.fe,vI d0.fr.fh,vI d0.fr.fj,k0]) (by kernel_rfl) rfl (mem_part (G0.memA .hd) 0 4))<|AV 5 rfl<|AP rfl ((G0.memA .hd) 5 _ rfl)<|bk h fun x0 j3 h=>Bi (.tuple #[.agg ((cs_Ta x0.1)).toArray,vI x0.2]) (bd 15) rfl (e2 rfl rfl) (fun p q=>ck_c n (G0.hL0 hL q) d0.fr (G0.kd (Ao q0 (Tt U0 W0)) q) j3) rfl<|Ae rfl<|Ab (Ah rfl rfl)<|Ab (Ah rfl rfl)<|RG.nl zL G0 fun K4 U3 c2 X0=>AQ (cs_Ta x0.1) c2 .hd (onesB rfl) fun M4 H0 Y0=>Af rfl<|Aa<|Ac<|AV 0 rfl<|Ab (Bp (cs:=[vI d0.fr.fe,vI d0.fr.fh,vI d0.fr.fj,k0]) (by kernel_rfl) rfl (mem_part (H0.memA .t1) 0 4))<|AV 5 rfl<|AP rfl ((H0.memA .t1) 5 _ rfl)<|bk h fun y0 k3 h=>?_
 have j1:=Tt U0 (Tt W0 (Tt X0 Y0))
 refine Bi (.tuple #[.agg ((cs_Ta y0.1)).toArray,vI y0.2]) (bd 16) rfl (e2 rfl rfl) (fun p q=>bE_c n (H0.hL0 hL q) d0.fr (H0.kd (Ao q0 j1) q) k3) rfl<|Ae rfl<|Ab (Ah rfl rfl)<|Ab (Ah rfl rfl)<|RG.nl zL H0 fun P4 V3 g2 Q0=>AQ (cs_Ta y0.1) g2 .hd (onesB rfl) fun Q4 g0 R0=>Af rfl<|Aa<|Aj<|Aj<|MX.jo (α:=Bool) (fun M0=>[(32,C1),(33,vI ((P0.length:Nat):Int)),(34,vI ((s0:Nat):Int)),(12,vP s1),(109,.bool M0)]) (fun M0=>[.cells s1 [vI d0.fr.fe,vI d0.fr.fh,vI d0.fr.fj,k0,B1,vI d0.fk] 48]) (fun M0=>M0) g0 h ?_ ?_
 rintro M0 c5 z0 B2 h
 try dsimp only at h
 refine MX.ifb rfl h (fun H1 h=>?_) (fun H1 h=>?_)
 refine Ac<|Af rfl<|Aa ?_
 have h:=thn_inl h A0
 refine Al rfl<|AT hb0 Tryz.func4 rfl rfl ?_
 cases h
 exact z0.gv
 refine Aq<|Ac<|AV 0 rfl<|Ab (Bp (cs:=[vI d0.fr.fe,vI d0.fr.fh,vI d0.fr.fj,k0]) (by kernel_rfl) rfl (mem_part (z0.memA .hd) 0 4))<|AV 4 rfl<|AP rfl ((z0.memA .hd) 4 _ rfl)<|AV 5 rfl<|AP rfl ((z0.memA .hd) 5 _ rfl)<|bk h fun F3 q3 h=>?_
 have K0:=Tt j1 (Tt Q0 (Tt R0 B2))
 refine AZ (fst:=[]) (cap:=[]) .plain (bd 20) rfl (e3 rfl rfl rfl) (fun p q=>cv_c n (z0.hL hL q) d0.fr (Ar (Ao q0 K0) q) (Ar (Ao t0 K0) q) q3) rfl fun R4 A4 K2 ⟨u4,hu_,Z2⟩=>?_
 subst hu_
 obtain ⟨I0,Z0⟩:=z0.agr K2
 refine Ae rfl<|Ab (Ah rfl rfl)<|Ab (Ah rfl rfl)<|Af rfl<|Af rfl<|Aa<|Ac<|AV 0 rfl<|Ab (Bp (cs:=[vI d0.fr.fe,vI d0.fr.fh,vI d0.fr.fj,k0]) (by kernel_rfl) rfl (mem_part (I0.memA .hd) 0 4))<|AV 4 rfl<|AP rfl ((I0.memA .hd) 4 _ rfl)<|AV 5 rfl<|AP rfl ((I0.memA .hd) 5 _ rfl)<|bk h fun G3 u3 h=>AZ (fst:=[]) (cap:=[]) .plain (bd 21) rfl (e3 rfl rfl rfl) (fun p q=>aP_c n (I0.hL hL q) d0.fr (Ar (Ao q0 (Tt K0 Z0)) q) (Ar (Ao t0 (Tt K0 Z0)) q) u3) rfl fun U4 B4 M2 ⟨v4,hu_,b3⟩=>?_
 subst hu_
 obtain ⟨u0,x1⟩:=I0.agr M2
 refine Ae rfl<|Ab (Ah rfl rfl)<|Ab (Ah rfl rfl)<|Af rfl<|Af rfl<|Aa<|Ac<|AV 0 rfl<|Ab (Bp (cs:=[vI d0.fr.fe,vI d0.fr.fh,vI d0.fr.fj,k0]) (by kernel_rfl) rfl (mem_part (u0.memA .hd) 0 4))<|AV 4 rfl<|AP rfl ((u0.memA .hd) 4 _ rfl)<|AV 5 rfl<|AP rfl ((u0.memA .hd) 5 _ rfl)<|bk h fun B0 v3 h=>?_
 have k1:=Tt K0 (Tt Z0 x1)
 refine Bi (.tuple #[.agg ((cs_Ta B0.1)).toArray,vI B0.2]) (bd 22) rfl (e3 rfl rfl rfl) (fun p q=>bT_c n (u0.hL0 hL q) d0.fr (u0.kd (Ao q0 k1) q) (u0.kd (Ao t0 k1) q) v3) rfl<|Ae rfl<|Ab (Ah rfl rfl)<|Ab (Ah rfl rfl)<|RG.nl zL u0 fun W4 X3 j2 b1=>AQ (cs_Ta B0.1) j2 .hd (onesB rfl) fun X4 v0 c1=>Af rfl<|Aa<|Ac<|AV 0 rfl<|Ab (Bp (cs:=[vI d0.fr.fe,vI d0.fr.fh,vI d0.fr.fj,k0]) (by kernel_rfl) rfl (mem_part (v0.memA .t1) 0 4))<|AV 4 rfl<|AP rfl ((v0.memA .t1) 4 _ rfl)<|AV 5 rfl<|AP rfl ((v0.memA .t1) 5 _ rfl)<|bk h fun C0 x3 h=>?_
 have p1:=Tt k1 (Tt b1 c1)
 refine Bi (.tuple #[.agg ((cs_Ta C0.1)).toArray,vI C0.2]) (bd 23) rfl (e3 rfl rfl rfl) (fun p q=>az_c n (v0.hL0 hL q) d0.fr (v0.kd (Ao q0 p1) q) (v0.kd (Ao t0 p1) q) x3) rfl<|Ae rfl<|Ab (Ah rfl rfl)<|Ab (Ah rfl rfl)<|RG.nl zL v0 fun Y4 Y3 k2 d1=>AQ (cs_Ta C0.1) k2 .hd (onesB rfl) fun Z4 p0 g1=>Af rfl<|Aa<|Ac<|Ae rfl<|Ae rfl<|bk h fun H3 y3 h=>Bi (.bool H3) (bd 24) rfl (e2 rfl rfl) (fun p q=>aN_c n (p0.hL0 hL q) (p0.kd (Ao Z2 (Tt x1 (Tt b1 (Tt c1 (Tt d1 g1))))) q) (p0.kd (Ao b3 (Tt b1 (Tt c1 (Tt d1 g1)))) q) y3) rfl<|Ab (Bo rfl)<|Ae rfl<|RG.ifnb (s:=154) rfl h (fun I1 h=>?_) (fun I1 h=>?_)
 refine AJ (Ai rfl)<|AJ (Ai rfl)<|AJ (FV.neq (i:=F3.2) (j:=G3.2) rfl rfl)<|Bx rfl rfl<|Ae rfl<|RG.ifn (s:=159) rfl h (fun J1 h=>?_) (fun J1 h=>?_)
 refine AJ (AK rfl (p0.memA .t1))<|AJ (AK rfl (p0.memA .hd))<|AJ (FV.neqV (xs:=((cs_Ta B0.1)).toArray) (ys:=((cs_Ta C0.1)).toArray) rfl rfl (by kernel_rfl) (eqlD_37 B0.1 C0.1))<|Bx rfl rfl<|Ae rfl<|RG.ifn (s:=164) rfl h (fun K1 h=>?_) (fun K1 h=>?_)
 refine AJ (Ai rfl)<|AJ (Ai rfl)<|AJ (FV.neq (i:=B0.2) (j:=C0.2) rfl rfl)<|Bx rfl rfl<|Aa<|MX.ifn rfl h (fun M1 h=>?_) (fun M1 h=>?_)
 refine Aq<|AA<|Av<|Ab (Bw (i:=s0) (j:=1) rfl rfl (by omega))<|Ae rfl<|Aa ?_
 obtain ⟨q2,C2⟩:=AI p0 .done
 exact V1 (s0 + 1) q2 (Tt v1 (Tt p1 (Tt d1 (Tt g1 C2)))) h
 refine Ac<|Af rfl<|Aa ?_
 have h:=thn_inl h A0
 refine Al rfl<|AT hb0 Tryz.func4 rfl rfl ?_
 cases h
 exact p0.gv
 refine Aw<|Aw<|Aw<|Br rfl rfl<|Aa<|Bk rfl<|Ac<|Af rfl<|Aa ?_
 have h:=thn_inl h A0
 refine Al rfl<|AT hb0 Tryz.func4 rfl rfl ?_
 cases h
 exact p0.gv
 refine Aw<|Aw<|Aw<|Br rfl rfl<|Ae rfl<|Aw<|Aw<|Aw<|Br rfl rfl<|Aa<|Bk rfl<|Ac<|Af rfl<|Aa ?_
 have h:=thn_inl h A0
 refine Al rfl<|AT hb0 Tryz.func4 rfl rfl ?_
 cases h
 exact p0.gv
 refine Aw<|Aw<|Aw<|Br rfl rfl<|Ae rfl<|Aw<|Aw<|Aw<|Br rfl rfl<|Ae rfl<|Aw<|Aw<|Aw<|Br rfl rfl<|Aa<|Bk rfl<|Ac<|Af rfl<|Aa ?_
 have h:=thn_inl h A0
 refine Al rfl<|AT hb0 Tryz.func4 rfl rfl ?_
 cases h
 exact p0.gv
 intro M3 D0 h
 try dsimp only at h
 refine du 36 fun b0 c0=>Rv 0 b0 rfl c0 (fun _=>Bd 0 rfl)<|Rx 1 68719468608 b0 rfl c0 (Bp (cs:=[vI d0.fr.fe,vI d0.fr.fh,vI d0.fr.fj,k0]) (by kernel_rfl) rfl (mem_part (g0.memA .t2) 0 4))<|Rv 2 b0 rfl c0 (fun _=>Bd 4 rfl)<|Rx 3 68719468608 b0 rfl c0 (AL rfl ((g0.memA .t2) 4 _ rfl))<|Rv 4 b0 rfl c0 (fun _=>Bd 5 rfl)<|Rx 5 68719468608 b0 rfl c0 (AL rfl ((g0.memA .t2) 5 _ rfl))<|bk h fun D1 z3 h=>?_
 have A1:=Tt j1 (Tt Q0 R0)
 have y1:=Ao q0 A1
 have z1:=Ao t0 A1
 refine BT 6 127 68719468544 (vI D1) b0 rfl c0 (bd 17) rfl (e3 rfl rfl rfl) (fun p q=>cy_c n (g0.hL0 hL q) d0.fr (g0.kd y1 q) (g0.kd z1 q) z3) rfl<|Rv 7 b0 rfl c0 (fun _=>Bd 0 rfl)<|Rx 8 68719468544 b0 rfl c0 (Bp (cs:=[vI d0.fr.fe,vI d0.fr.fh,vI d0.fr.fj,k0]) (by kernel_rfl) rfl (mem_part (g0.memA .t2) 0 4))<|Rv 9 b0 rfl c0 (fun _=>Bd 4 rfl)<|Rx 10 68719468544 b0 rfl c0 (AL rfl ((g0.memA .t2) 4 _ rfl))<|Rv 11 b0 rfl c0 (fun _=>Bd 5 rfl)<|Rx 12 68719468544 b0 rfl c0 (AL rfl ((g0.memA .t2) 5 _ rfl))<|bk h fun E1 A3 h=>BT 13 16383 68719460352 (vI E1) b0 rfl c0 (bd 18) rfl (e3 rfl rfl rfl) (fun p q=>ba_c n (g0.hL0 hL q) d0.fr (g0.kd y1 q) (g0.kd z1 q) A3) rfl<|Rv 14 b0 rfl c0 (fun _=>FV.neq (i:=D1) (j:=E1) rfl rfl)<|Rv 15 b0 rfl c0 (fun _=>Ai rfl)<|RD.ifn (s:=89) rfl h (fun P1 h=>?_) (fun P1 h=>?_)
 refine BO 16 131071 b0 rfl c0 (.yes rfl rfl) (fun _=>Ai rfl) rfl<|BO 17 262143 b0 rfl c0 (.yes rfl rfl) (fun _=>Ai rfl) rfl<|bk h fun I3 B3 h=>RD.callq (i:=18) (m' :=524287) (W:=68718952448) (tk b0) rfl c0 (v:=.bool I3) (fst:=[]) (cap:=[]) (.yes rfl rfl) (bd 19) rfl (e2 rfl rfl) (fun p q=>aJ_c n (g0.hL0 hL q) (g0.kd (Ao X2 (Tt W0 (Tt X0 (Tt Y0 (Tt Q0 R0))))) q) (g0.kd (Ao Y2 (Tt X0 (Tt Y0 (Tt Q0 R0)))) q) B3) rfl<|BO 19 1048575 b0 rfl c0 (.yes rfl rfl) (fun _=>Bo rfl) rfl<|Rv 20 b0 rfl c0 (fun _=>Bh rfl rfl)<|Rv 21 b0 rfl c0 (fun _=>Ai rfl)<|RD.ifnb (s:=95) rfl h (fun Q1 h=>?_) (fun Q1 h=>?_)
 refine BO 22 8388607 b0 rfl c0 (.yes rfl rfl) (fun _=>Ai rfl) rfl<|BO 23 16777215 b0 rfl c0 (.yes rfl rfl) (fun _=>Ai rfl) rfl<|BO 24 33554431 b0 rfl c0 (.yes rfl rfl) (fun _=>FV.neq (i:=C3.2) (j:=D3.2) rfl rfl) rfl<|Rv 25 b0 rfl c0 (fun _=>Bh rfl rfl)<|Rv 26 b0 rfl c0 (fun _=>Ai rfl)<|RD.ifn (s:=100) rfl h (fun R1 h=>?_) (fun R1 h=>?_)
 refine RD.val (i:=27) (m' :=268435455) (W:=68182605824) (tk b0) rfl c0 (.yes rfl rfl) (AK rfl (g0.memA .t1)) rfl<|RD.val (i:=28) (m' :=536870911) (W:=68182605824) (tk b0) rfl c0 (.yes rfl rfl) (AK rfl (g0.memA .hd)) rfl<|BO 29 1073741823 b0 rfl c0 (.yes rfl rfl) (fun _=>FV.neqV (xs:=((cs_Ta x0.1)).toArray) (ys:=((cs_Ta y0.1)).toArray) rfl rfl (by kernel_rfl) (eqlD_37 x0.1 y0.1)) rfl<|Rv 30 b0 rfl c0 (fun _=>Bh rfl rfl)<|Rv 31 b0 rfl c0 (fun _=>Ai rfl)<|RD.ifn (s:=105) rfl h (fun U1 h=>?_) (fun U1 h=>?_)
 refine BO 32 8589934591 b0 rfl c0 (.yes rfl rfl) (fun _=>Ai rfl) rfl<|BO 33 17179869183 b0 rfl c0 (.yes rfl rfl) (fun _=>Ai rfl) rfl<|BO 34 34359738367 b0 rfl c0 (.yes rfl rfl) (fun _=>FV.neq (i:=x0.2) (j:=y0.2) rfl rfl) rfl<|Rv 35 b0 rfl c0 (fun _=>Bh rfl rfl)<|AM (dk b0) ?_
 obtain ⟨s2,D2⟩:=AI g0 .d2
 exact D0 (!(decide (x0.2 = y0.2))) s2 D2 h
 refine BD 34359738367 1 [(32,106),(33,107),(34,108)] (F:=[(105,true)]) (U:=[]) b0 c0 (.cons rfl .nil) .nil ?_
 dsimp only [offS,List.map]
 refine Rv 35 b0 rfl c0 (fun _=>BC rfl rfl)<|AM (dk b0) ?_
 obtain ⟨u2,E2⟩:=AI g0 .d2
 exact D0 true u2 E2 h
 refine BD 1073741823 6 [(27,101),(28,102),(29,103)] (F:=[(100,true)]) (U:=[]) b0 c0 (.cons rfl .nil) .nil ?_
 dsimp only [offS,List.map]
 refine Rv 30 b0 rfl c0 (fun _=>BC rfl rfl)<|Rv 31 b0 rfl c0 (fun _=>Ai rfl)<|BD 34359738367 1 [(32,106),(33,107),(34,108)] (F:=[(105,true)]) (U:=[]) b0 c0 (.cons rfl .nil) .nil ?_
 dsimp only [offS,List.map]
 refine Rv 35 b0 rfl c0 (fun _=>BC rfl rfl)<|AM (dk b0) ?_
 obtain ⟨v2,F2⟩:=AI g0 .d2
 exact D0 true v2 F2 h
 refine BD 33554431 11 [(22,96),(23,97),(24,98)] (F:=[(95,true)]) (U:=[]) b0 c0 (.cons rfl .nil) .nil ?_
 dsimp only [offS,List.map]
 refine Rv 25 b0 rfl c0 (fun _=>BC rfl rfl)<|Rv 26 b0 rfl c0 (fun _=>Ai rfl)<|BD 1073741823 6 [(27,101),(28,102),(29,103)] (F:=[(100,true)]) (U:=[]) b0 c0 (.cons rfl .nil) .nil ?_
 dsimp only [offS,List.map]
 refine Rv 30 b0 rfl c0 (fun _=>BC rfl rfl)<|Rv 31 b0 rfl c0 (fun _=>Ai rfl)<|BD 34359738367 1 [(32,106),(33,107),(34,108)] (F:=[(105,true)]) (U:=[]) b0 c0 (.cons rfl .nil) .nil ?_
 dsimp only [offS,List.map]
 refine Rv 35 b0 rfl c0 (fun _=>BC rfl rfl)<|AM (dk b0) ?_
 obtain ⟨x2,G2⟩:=AI g0 .d2
 exact D0 true x2 G2 h
 refine BD 1048575 16 [(16,90),(17,91),(18,92),(19,93)] (F:=[(89,true)]) (U:=[]) b0 c0 (.cons rfl .nil) .nil ?_
 dsimp only [offS,List.map]
 refine Rv 20 b0 rfl c0 (fun _=>BC rfl rfl)<|Rv 21 b0 rfl c0 (fun _=>Ai rfl)<|BD 33554431 11 [(22,96),(23,97),(24,98)] (F:=[(95,true)]) (U:=[]) b0 c0 (.cons rfl .nil) .nil ?_
 dsimp only [offS,List.map]
 refine Rv 25 b0 rfl c0 (fun _=>BC rfl rfl)<|Rv 26 b0 rfl c0 (fun _=>Ai rfl)<|BD 1073741823 6 [(27,101),(28,102),(29,103)] (F:=[(100,true)]) (U:=[]) b0 c0 (.cons rfl .nil) .nil ?_
 dsimp only [offS,List.map]
 refine Rv 30 b0 rfl c0 (fun _=>BC rfl rfl)<|Rv 31 b0 rfl c0 (fun _=>Ai rfl)<|BD 34359738367 1 [(32,106),(33,107),(34,108)] (F:=[(105,true)]) (U:=[]) b0 c0 (.cons rfl .nil) .nil ?_
 dsimp only [offS,List.map]
 refine Rv 35 b0 rfl c0 (fun _=>BC rfl rfl)<|AM (dk b0) ?_
 obtain ⟨y2,H2⟩:=AI g0 .d2
 exact D0 true y2 H2 h
 refine Ba rfl ?_
 have h:=thn_inr h A0
 try dsimp only at h
 refine Ac<|Af rfl<|Aa<|Al rfl<|AT hb0 Tryz.func4 rfl rfl ?_
 cases h
 exact u1.gv
 refine Ac<|Af rfl<|Aa<|Al rfl<|AT hb0 Tryz.func4 rfl rfl ?_
 cases h
 exact j0.gv
end Go.Proofs.YtgejkdheojkfiaaGreatDoor
