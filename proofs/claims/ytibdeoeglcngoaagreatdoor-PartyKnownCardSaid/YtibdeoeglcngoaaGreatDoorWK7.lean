import Derived.Test.YtibdeoeglcngoaaGreatDoorWK6
namespace Go.Proofs.YtibdeoeglcngoaaGreatDoor
open Go Go.RowKit Tryz
set_option maxRecDepth 4000
set_option maxHeartbeats 4000000

def aK_p (n:Nat):Option Bool:=
  (bq_p n).bind fun y1=>(if y1 = true then (aa_p n ([((0:Int),(0:Int)),((0:Int),(0:Int)),((0:Int),(0:Int))]:List (Int × Int))).bind fun c0=>(aa_p n ([]:List (Int × Int))).bind fun j0=>(j0.fq[0]?).bind fun g0=>(put j0.fq ((0:Nat):Int) (⟨g0.ft,g0.fv,g0.fh,([(1:Int)]:List Int),g0.fParents,g0.fx⟩:Tb)).bind fun F0=>(bu_p n c0 ([(0:Int),(1:Int),(2:Int)]:List Int) (3:Int)).bind fun p0=>(cb_p n (⟨j0.fh,j0.fc,j0.fj,F0⟩:Tg) ([]:List Int) (0:Int)).bind fun s0=>(aJ_p n c0 ([(0:Int),(1:Int),(2:Int)]:List Int) (0:Int)).bind fun G0=>(aZ_p n c0 ([(0:Int),(1:Int),(2:Int)]:List Int) (2:Int) (9:Int) (9:Int)).bind fun H0=>(aZ_p n c0 ([(0:Int),(1:Int),(2:Int)]:List Int) (3:Int) (0:Int) (1:Int)).bind fun I0=>(ba_p n c0 ([(0:Int),(1:Int),(2:Int)]:List Int) (3:Int) (0:Int) (1:Int)).bind fun K0=>(aD_p n c0 ([(0:Int),(1:Int),(2:Int)]:List Int) (3:Int) (-1:Int) (1:Int)).bind fun M0=>(bn_p n c0 ([(0:Int),(1:Int),(2:Int)]:List Int) (3:Int) (1:Int) (1:Int)).bind fun P0=>(aD_p n c0 ([(0:Int),(1:Int),(2:Int)]:List Int) (3:Int) (0:Int) (1:Int)).bind fun Q0=>(bn_p n c0 ([(0:Int),(1:Int),(2:Int)]:List Int) (3:Int) (0:Int) (1:Int)).bind fun R0=>jn (fun D0=>(if D0 = true then (aJ_p n (⟨(0:Int),(1:Int),(0:Int),([(⟨⟨#[97]⟩,(0:Int),([]:List Int),([(0:Int)]:List Int),([]:List Int),false⟩:Tb)]:List Tb)⟩:Tg) ([(0:Int)]:List Int) (1:Int)).bind fun t0=>(au_p n t0.1 t0.2 ([(0:Int)]:List Int)).bind fun J0=>(if J0 = true then (aJ_p n (⟨(0:Int),(0:Int),(0:Int),([(⟨⟨#[97]⟩,(0:Int),([]:List Int),([]:List Int),([]:List Int),false⟩:Tb)]:List Tb)⟩:Tg) ([(0:Int)]:List Int) (1:Int)).bind fun u0=>(au_p n u0.1 u0.2 ([(-1:Int)]:List Int)).bind fun U0=>(aa_p n ([((3:Int),(1:Int)),((0:Int),(0:Int)),((6:Int),(2:Int))]:List (Int × Int))).bind fun k0=>(aD_p n k0 ([(0:Int),(1:Int),(2:Int)]:List Int) (3:Int) (0:Int) (1:Int)).bind fun v0=>jn (fun E0=>(aa_p n ([((1:Int),(3:Int)),((2:Int),(2:Int)),((5:Int),(5:Int)),((7:Int),(0:Int))]:List (Int × Int))).bind fun q0=>(if E0 = true then (ba_p n q0 ([(3:Int),(2:Int),(1:Int),(0:Int)]:List Int) (4:Int) (0:Int) (1:Int)).bind fun x0=>(ab_p n x0.1 x0.2 (1:Int) (16:Int)).bind fun V0=>(if V0 = true then (bn_p n q0 ([(3:Int),(2:Int),(1:Int),(0:Int)]:List Int) (4:Int) (0:Int) (1:Int)).bind fun y0=>(ab_p n y0.1 y0.2 (-1:Int) (4:Int)).bind fun W0=>(if W0 = true then (aZ_p n q0 ([(3:Int),(2:Int),(1:Int),(0:Int)]:List Int) (4:Int) (0:Int) (1:Int)).bind fun z0=>(ab_p n z0.1 z0.2 (7:Int) (50:Int)).bind fun X0=>some X0 else some false) else some false) else some false)) (fun d0=>(if U0 = true then (if v0.2 = 0 then (ar_p n (-1:Int) (4:Int)).bind fun Y0=>(ae_p n v0.1 ([(⟨Y0,(2:Int),(2:Int)⟩:Tc)]:List Tc)).bind fun Z0=>(if Z0 = true then (ba_p n k0 ([(0:Int),(1:Int),(2:Int)]:List Int) (3:Int) (0:Int) (1:Int)).bind fun A0=>(ab_p n A0.1 A0.2 (0:Int) (1:Int)).bind fun b1=>(if b1 = true then (bn_p n k0 ([(0:Int),(1:Int),(2:Int)]:List Int) (3:Int) (0:Int) (1:Int)).bind fun B0=>(ab_p n B0.1 B0.2 (0:Int) (1:Int)).bind fun c1=>(if c1 = true then (aZ_p n k0 ([(0:Int),(1:Int),(2:Int)]:List Int) (3:Int) (0:Int) (1:Int)).bind fun C0=>(ab_p n C0.1 C0.2 (0:Int) (1:Int)).bind fun d1=>d0 d1 else d0 false) else d0 false) else d0 false) else d0 false) else d0 false)) else (aa_p n ([((3:Int),(1:Int)),((0:Int),(0:Int)),((6:Int),(2:Int))]:List (Int × Int))).bind fun g1=>(aD_p n g1 ([(0:Int),(1:Int),(2:Int)]:List Int) (3:Int) (0:Int) (1:Int)).bind fun _y3774=>(aa_p n ([((1:Int),(3:Int)),((2:Int),(2:Int)),((5:Int),(5:Int)),((7:Int),(0:Int))]:List (Int × Int))).bind fun _y3799=>some false) else (aa_p n ([((3:Int),(1:Int)),((0:Int),(0:Int)),((6:Int),(2:Int))]:List (Int × Int))).bind fun j1=>(aD_p n j1 ([(0:Int),(1:Int),(2:Int)]:List Int) (3:Int) (0:Int) (1:Int)).bind fun _y3881=>(aa_p n ([((1:Int),(3:Int)),((2:Int),(2:Int)),((5:Int),(5:Int)),((7:Int),(0:Int))]:List (Int × Int))).bind fun _y3906=>some false)) (fun b0=>(ap_p n p0.1 ([(0:Int),(0:Int)]:List Int)).bind fun k1=>(if k1 = true then (if p0.2.1 = 3 then (if p0.2.2 = 0 then (if s0.2 = 0 then b0 false else (if s0.2 = 2 then b0 false else (if G0.2 = 2 then (if H0.2 = 220 then (if I0.2 = 7 then (if K0.2 = 7 then (if M0.2 = 2 then (if P0.2 = 2 then (if Q0.2 = 7 then b0 (decide (R0.2 = 7)) else b0 false) else b0 false) else b0 false) else b0 false) else b0 false) else b0 false) else b0 false))) else b0 false) else b0 false) else b0 false)) else some false)
theorem aK_c (n:Nat) {L w} (hL:hl L w)  {r:Bool} (h:aK_p n = some r) :
 Cl 6 #[] w (ai w fun _ u=>u = .bool r):=by
 unfold aK_p at h
 have hS0:=AA w
 refine AG func6 rfl rfl rfl fun _ cs0 hb0=>Ae<|Ah rfl<|Aa<|Al<|Ae<|bk h fun y1 hy1 h=>Bc (.bool y1) (bd 10) rfl ae (fun p q=>bq_c n (hS0.hL0 hL q)  hy1) rfl<|Ab (FV.not rfl)<|Aa<|MX.ifnb rfl h (fun c2 h=>?_) (fun c2 h=>?_)
 refine Ar<|Ae<|Ak .plain rfl (AK (α:=Int) (xs:=([(0:Int),(1:Int),(2:Int)]:List Int)) (vs:=[vI 0,vI 1,vI 2]) (ds' :=[vI 0,vI 1,vI 2]) rfl hS0 cU rfl (e3 rfl rfl rfl) (by kernel_rfl) rfl) fun w11 M3 K6 E06=>?_
 have M02:=AD (cs:=[vI 0,vI 1,vI 2]) (xs:=(([(0:Int),(1:Int),(2:Int)]:List Int):List Int)) K6 L (Aj (cs:=[vI 0]) (ds:=[vI 1,vI 2]) rfl (Aj (cs:=[vI 1]) (ds:=[vI 2]) rfl (Aj (cs:=[vI 2]) (ds:=[]) rfl (AJ _ _))))
 refine Ah rfl<|Aa<|Ae<|Ab (AF (vs:=[]) (u:=.agg #[vI 0,vI 0]) ae (fun p=>by kernel_rfl))<|Ab (AF (vs:=[]) (u:=.agg #[vI 0,vI 0]) ae (fun p=>by kernel_rfl))<|Ab (AF (vs:=[]) (u:=.agg #[vI 0,vI 0]) ae (fun p=>by kernel_rfl))<|Ak .plain rfl (AK (α:=Int × Int) (xs:=([((0:Int),(0:Int)),((0:Int),(0:Int)),((0:Int),(0:Int))]:List (Int × Int))) (vs:=[.agg #[vI 0,vI 0],.agg #[vI 0,vI 0],.agg #[vI 0,vI 0]]) (ds' :=[vI 0,vI 0,vI 0,vI 0,vI 0,vI 0]) rfl K6 dP rfl (e3 rfl rfl rfl) (by kernel_rfl) rfl) fun w17 z9 v4 E01=>?_
 have G2:=Br v4 .hd
 have F01:=Bs v4 .hd
 refine bk h fun E0 q04 h=>jE (bd 31) rfl (e1 rfl) (fun p q=>aH (b0:=w.heap.size) (aa_c n (G2.hL hL q) (Am (Bt (α:=Int × Int) (v:=(vS z9 3)) (xs:=([((0:Int),(0:Int)),((0:Int),(0:Int)),((0:Int),(0:Int))]:List (Int × Int))) G2 L (Bd (α:=Int × Int) v4 .hd (AD (cs:=[vI 0,vI 0,vI 0,vI 0,vI 0,vI 0]) (xs:=(([((0:Int),(0:Int)),((0:Int),(0:Int)),((0:Int),(0:Int))]:List (Int × Int)):List (Int × Int))) v4 L (Aj (cs:=[vI 0,vI 0]) (ds:=[vI 0,vI 0,vI 0,vI 0]) (az (0:Int) (0:Int)) (Aj (cs:=[vI 0,vI 0]) (ds:=[vI 0,vI 0]) (az (0:Int) (0:Int)) (Aj (cs:=[vI 0,vI 0]) (ds:=[]) (az (0:Int) (0:Int)) (AJ _ _))))) hL)) q) q04) q (Nat.le_trans G2.ag.size q.size)) rfl fun w27 H08 g07 ⟨j9,t00,C03,I8,W02⟩=>?_
 subst C03
 have U6:=aM G2 I8
 have G01:=bh G2 I8
 have Y02:=AD (cs:=t00) (xs:=(E0.fq:List Tb)) U6 L (aI W02)
 refine RG.nl [vI 0,vI 0,vI 0,vN] U6 fun w40 b43 t7 Q7=>AQ [vI E0.fh,vI E0.fc,vI E0.fj,j9] t7 .hd (o4 rfl rfl rfl (St.o1 (α:=Tb) t7 .t1)) fun w44 W2 R7=>Aa<|Ae<|bk h fun U1 b05 h=>jE (bd 31) rfl (e1 rfl) (fun p q=>aH (b0:=w.heap.size) (aa_c n (W2.hL hL q) (Am (Rep.nilAt (α:=Int × Int) W2 L) q) b05) q (Nat.le_trans W2.ag.size q.size)) rfl fun w49 g09 B07 ⟨s9,A00,U03,b9,d03⟩=>?_
 subst U03
 have u7:=aM W2 b9
 have U7:=bh W2 b9
 have X7:=AD (cs:=A00) (xs:=(U1.fq:List Tb)) u7 L (aI d03)
 refine RG.nl [vI 0,vI 0,vI 0,vN] u7 fun w62 b65 v7 U5=>AQ [vI U1.fh,vI U1.fc,vI U1.fj,s9] v7 .hd (o4 rfl rfl rfl (St.o1 (α:=Tb) v7 .t1)) fun w66 x7 V5=>Aa<|Ae<|Bu 3 rfl<|AX rfl ((x7.memA .hd) 3 _ rfl)<|Ak .plain rfl (jA ((1:Int)) (vI 1) x7 cy (e1 rfl)) fun w70 p5 X1 W5=>?_
 have g03:=jC ((1:Int)) (vI 1) X1 L rfl
 refine bk h fun P0 G8 h=>?_
 have C8:=Tt U5 (Tt V5 W5)
 obtain ⟨y9,c77,b6,b8,D06,A03,J07⟩:=St.nth (α:=Tb) X1 .t2 (AT X7 C8) G8
 obtain ⟨G9,c86,Z7⟩:=By (α:=Tb) X1 .t2 b8
 obtain rfl:y9 = ⟨G9,0,none⟩:=by rw [Z7] at b6; cases b6; rfl
 obtain ⟨v88,v89,v90,rfl,Z07,b08,c08⟩:=dN A03
 refine Ab (Bk 6 0 rfl b6 rfl rfl b8)<|Bu 3 rfl ?_
 have J5:=Br X1 .hd
 have X5:=Bs X1 .hd
 have u6:=Bt (α:=Int) (v:=(vS p5 1)) (xs:=([(1:Int)]:List Int)) J5 L (Bd (α:=Int) X1 .hd g03 hL)
 have c8:=AT X7 (Tt C8 X5)
 obtain ⟨c98,k03,H07,B06,p03,I07,j03⟩:=St.nthAt (α:=Tb) J5 .t1 c8 G8 Z7
 obtain ⟨d9,c05,g9,rfl,q03,K07,s03⟩:=dN p03
 refine bk h fun t9 W03 h=>RG.acts' .plain (Acts.setPart (α:=Tb) (i:=0) (tot:=3) (ds:=[.string P0.ft,vI P0.fv,d9,c05,g9,.bool P0.fx]) (news:=[(vS p5 1)]) (full:=[.string P0.ft,vI P0.fv,d9,(vS p5 1),g9,.bool P0.fx]) W03 J5 k03 (fun _=>.t1) c8 j03 rfl rfl rfl rfl rfl (Rep.c1 u6) (eD P0.ft P0.fv P0.fh q03 ([(1:Int)]:List Int) u6 P0.fParents s03 P0.fx) rfl (o1 (Be u6))) fun p09 ⟨C06,p4,y7,K02⟩=>Aa<|Ae<|Ab (AE rfl (p4.memA .t2))<|Ac rfl ?_
 have q4:=Br p4 .t3
 have z7:=Bs p4 .t3
 have p1:=Bt (α:=Tb) (v:=j9) (xs:=E0.fq) q4 L (Bd (α:=Tb) p4 .t3 (AT Y02 (Tt Q7 (Tt R7 (Tt U7 (Tt U5 (Tt V5 (Tt W5 (Tt X5 y7)))))))) hL)
 have u5:=Br q4 .t3
 have K5:=Bs q4 .t3
 have x0:=Bt (α:=Int) (v:=(vS M3 3)) (xs:=([(0:Int),(1:Int),(2:Int)]:List Int)) u5 L (Bd (α:=Int) q4 .t3 (AT M02 (Tt E01 (Tt F01 (Tt G01 (Tt Q7 (Tt R7 (Tt U7 (Tt U5 (Tt V5 (Tt W5 (Tt X5 (Tt y7 z7)))))))))))) hL)
 refine bk h fun u9 X03 h=>jE (bd 27) rfl (e3 rfl rfl rfl) (fun p q=>bu_c n (u5.hL hL q) E0 (Am (Aw p1 K5) q) (Am x0 q) X03) rfl fun q09 A08 y02 ⟨d08,hu_,t03⟩=>?_
 subst hu_
 obtain ⟨s4,X2⟩:=u5.agr y02
 refine Ac rfl<|Ab (Ag rfl rfl)<|Ab (Ag rfl rfl)<|Ab (Ag rfl rfl)<|Ah rfl<|Ah rfl<|Ah rfl<|Aa<|Ae<|Ab (AE rfl (s4.memA .hd)) ?_
 have u4:=Br s4 .t1
 have Y2:=Bs s4 .t1
 refine bk h fun v9 Y03 h=>jE (bd 23) rfl (e3 rfl rfl rfl) (fun p q=>cb_c n (u4.hL hL q) (⟨U1.fh,U1.fc,U1.fj,t9⟩:Tg) (Am (Bt (α:=Tb) (v:=s9) (xs:=t9) u4 L (Bd (α:=Tb) s4 .t1 (AT K02 (Tt z7 (Tt K5 X2))) hL)) q) (Am (Rep.nilAt (α:=Int) u4 L) q) Y03) rfl fun s09 B08 z02 ⟨g08,hu_,M07⟩=>?_
 subst hu_
 obtain ⟨v5,Z2⟩:=u4.agr z02
 refine Ac rfl<|Ab (Ag rfl rfl)<|Ab (Ag rfl rfl)<|Ah rfl<|Ah rfl<|Aa<|Ae<|Ab (AE rfl (v5.memA .t1))<|Ac rfl<|bk h fun A05 Z03 h=>?_
 have c6:=Tt K5 (Tt X2 (Tt Y2 Z2))
 have d6:=Tt X2 (Tt Y2 Z2)
 refine jE (bd 24) rfl (e3 rfl rfl rfl) (fun p q=>aJ_c n (v5.hL hL q) E0 (Am (Aw p1 c6) q) (Am (Aw x0 d6) q) Z03) rfl fun t09 C08 A02 ⟨j08,hu_,P07⟩=>?_
 subst hu_
 obtain ⟨B2,F1⟩:=v5.agr A02
 refine Ac rfl<|Ab (Ag rfl rfl)<|Ab (Ag rfl rfl)<|Ah rfl<|Ah rfl<|Aa<|Ae<|Ab (AE rfl (B2.memA .t1))<|Ac rfl<|bk h fun b5 b04 h=>Bc (.tuple #[.agg ((aa b5.1)).toArray,vI b5.2]) (bd 12) rfl (e5 rfl rfl rfl rfl rfl) (fun p q=>aZ_c n (B2.hL0 hL q) E0 (B2.kd (Aw p1 (Tt c6 F1)) q) (B2.kd (Aw x0 (Tt d6 F1)) q) b04) rfl<|Ac rfl<|Ab (Ag rfl rfl)<|Ab (Ag rfl rfl)<|RG.nl zL B2 fun v09 U05 B00 b3=>AQ (aa b5.1) B00 .hd (am rfl) fun x09 C2 c3=>Ah rfl<|Aa<|Ae<|Ab (AE rfl (C2.memA .t2))<|Ac rfl<|bk h fun c5 c04 h=>?_
 have d8:=Tt c6 (Tt F1 (Tt b3 c3))
 have g8:=Tt d6 (Tt F1 (Tt b3 c3))
 refine Bc (.tuple #[.agg ((aa c5.1)).toArray,vI c5.2]) (bd 12) rfl (e5 rfl rfl rfl rfl rfl) (fun p q=>aZ_c n (C2.hL0 hL q) E0 (C2.kd (Aw p1 d8) q) (C2.kd (Aw x0 g8) q) c04) rfl<|Ac rfl<|Ab (Ag rfl rfl)<|Ab (Ag rfl rfl)<|RG.nl zL C2 fun y09 V05 C00 d3=>AQ (aa c5.1) C00 .hd (am rfl) fun z09 D2 g3=>Ah rfl<|Aa<|Ae<|Ab (AE rfl (D2.memA .t3))<|Ac rfl<|bk h fun d5 j04 h=>?_
 have j8:=Tt d8 (Tt d3 g3)
 have k8:=Tt g8 (Tt d3 g3)
 refine Bc (.tuple #[.agg ((aa d5.1)).toArray,vI d5.2]) (bd 14) rfl (e5 rfl rfl rfl rfl rfl) (fun p q=>ba_c n (D2.hL0 hL q) E0 (D2.kd (Aw p1 j8) q) (D2.kd (Aw x0 k8) q) j04) rfl<|Ac rfl<|Ab (Ag rfl rfl)<|Ab (Ag rfl rfl)<|RG.nl zL D2 fun B09 W05 D00 j3=>AQ (aa d5.1) D00 .hd (am rfl) fun C09 z5 k3=>Ah rfl<|Aa<|Ae<|Ab (AE rfl (z5.memA .t4))<|Ac rfl<|bk h fun C05 k04 h=>?_
 have g6:=Tt j8 (Tt j3 k3)
 have j6:=Tt k8 (Tt j3 k3)
 refine jE (bd 16) rfl (e5 rfl rfl rfl rfl rfl) (fun p q=>aD_c n (z5.hL hL q) E0 (Am (Aw p1 g6) q) (Am (Aw x0 j6) q) k04) rfl fun D09 E08 C02 ⟨p08,hu_,Q07⟩=>?_
 subst hu_
 obtain ⟨E2,I1⟩:=z5.agr C02
 refine Ac rfl<|Ab (Ag rfl rfl)<|Ab (Ag rfl rfl)<|Ah rfl<|Ah rfl<|Aa<|Ae<|Ab (AE rfl (E2.memA .t4))<|Ac rfl<|bk h fun g5 p04 h=>Bc (.tuple #[.agg ((aa g5.1)).toArray,vI g5.2]) (bd 18) rfl (e5 rfl rfl rfl rfl rfl) (fun p q=>bn_c n (E2.hL0 hL q) E0 (E2.kd (Aw p1 (Tt g6 I1)) q) (E2.kd (Aw x0 (Tt j6 I1)) q) p04) rfl<|Ac rfl<|Ab (Ag rfl rfl)<|Ab (Ag rfl rfl)<|RG.nl zL E2 fun E09 X05 E00 p3=>AQ (aa g5.1) E00 .hd (am rfl) fun F09 A5 q3=>Ah rfl<|Aa<|Ae<|Ab (AE rfl (A5.memA .t5))<|Ac rfl<|bk h fun D05 s04 h=>?_
 have p8:=Tt g6 (Tt I1 (Tt p3 q3))
 have E3:=Tt j6 (Tt I1 (Tt p3 q3))
 refine jE (bd 16) rfl (e5 rfl rfl rfl rfl rfl) (fun p q=>aD_c n (A5.hL hL q) E0 (Am (Aw p1 p8) q) (Am (Aw x0 E3) q) s04) rfl fun G09 F08 D02 ⟨q08,hu_,R07⟩=>?_
 subst hu_
 obtain ⟨F2,x1⟩:=A5.agr D02
 refine Ac rfl<|Ab (Ag rfl rfl)<|Ab (Ag rfl rfl)<|Ah rfl<|Ah rfl<|Aa<|Ae<|Ab (AE rfl (F2.memA .t5))<|Ac rfl<|bk h fun K3 t04 h=>Bc (.tuple #[.agg ((aa K3.1)).toArray,vI K3.2]) (bd 18) rfl (e5 rfl rfl rfl rfl rfl) (fun p q=>bn_c n (F2.hL0 hL q) E0 (F2.kd (Aw p1 (Tt p8 x1)) q) (F2.kd (Aw x0 (Tt E3 x1)) q) t04) rfl<|Ac rfl<|Ab (Ag rfl rfl)<|Ab (Ag rfl rfl)<|RG.nl zL F2 fun H09 Y05 F00 g2=>AQ (aa K3.1) F00 .hd (am rfl) fun I09 M6 j2=>Ah rfl<|Aa<|Al<|MX.jo (α:=Bool) (fun M1=>[(1,(vS M3 3)),(25,.bool M1)]) (fun M1=>[]) (fun M1=>M1) M6 h ?_ ?_
 rintro M1 c0b H00 u3 h
 try dsimp only at h
 refine Ae<|Ak .plain rfl (jA ((0:Int)) (vI 0) H00 cy (e1 rfl)) fun M09 R0 H2 v3=>Ab (AF (vs:=[.string ⟨#[97]⟩,(vS R0 1)]) (u:=.agg #[.string ⟨#[97]⟩,vI 0,vN,(vS R0 1),vN,.bool false]) (e2 rfl rfl) (fun p=>by kernel_rfl)) ?_
 have U07:=Rep.nilAt (α:=Int) H2 L
 have B5:=Br H2 .hd
 have x3:=Bs H2 .hd
 have V07:=Rep.nilAt (α:=Int) B5 L
 refine Ak .plain rfl (AK (α:=Tb) (xs:=([(⟨⟨#[97]⟩,(0:Int),([]:List Int),([(0:Int)]:List Int),([]:List Int),false⟩:Tb)]:List Tb)) (vs:=[.agg #[.string ⟨#[97]⟩,vI 0,vN,(vS R0 1),vN,.bool false]]) (ds' :=[.string ⟨#[97]⟩,vI 0,vN,(vS R0 1),vN,.bool false]) rfl B5 el35 rfl (e1 rfl) (by kernel_rfl) rfl) fun P09 u1 C5 p2=>?_
 have E8:=Rep.nilAt (α:=Int) C5 L
 refine Ab (AF (vs:=[vI 1,(vS u1 1)]) (u:=.agg #[vI 0,vI 1,vI 0,(vS u1 1)]) (e2 rfl rfl) (fun p=>by kernel_rfl))<|RG.nl [vI 0,vI 0,vI 0,vN] C5 fun Q09 Z05 P6 q2=>AQ [vI 0,vI 1,vI 0,(vS u1 1)] P6 .hd (o4 rfl rfl rfl (St.o1 (α:=Tb) P6 .t1)) fun R09 Q6 s2=>Aa<|Ae<|Ab (AF (vs:=[.string ⟨#[97]⟩]) (u:=.agg #[.string ⟨#[97]⟩,vI 0,vN,vN,vN,.bool false]) (e1 rfl) (fun p=>by kernel_rfl)) ?_
 have W07:=Rep.nilAt (α:=Int) Q6 L
 refine Ak .plain rfl (AK (α:=Tb) (xs:=([(⟨⟨#[97]⟩,(0:Int),([]:List Int),([]:List Int),([]:List Int),false⟩:Tb)]:List Tb)) (vs:=[.agg #[.string ⟨#[97]⟩,vI 0,vN,vN,vN,.bool false]]) (ds' :=[.string ⟨#[97]⟩,vI 0,vN,vN,vN,.bool false]) rfl Q6 el35 rfl (e1 rfl) (by kernel_rfl) rfl) fun U09 y0 D5 u2=>?_
 have q6:=Rep.nilAt (α:=Int) D5 L
 have Q02:=AD (cs:=[.string ⟨#[97]⟩,vI 0,vN,vN,vN,.bool false]) (xs:=(([(⟨⟨#[97]⟩,(0:Int),([]:List Int),([]:List Int),([]:List Int),false⟩:Tb)]:List Tb):List Tb)) D5 L (Aj (cs:=[.string ⟨#[97]⟩,vI 0,vN,vN,vN,.bool false]) (ds:=[]) (eD ⟨#[97]⟩ (0:Int) ([]:List Int) q6 ([]:List Int) q6 ([]:List Int) q6 false) (AJ _ _))
 refine Ab (AF (vs:=[(vS y0 1)]) (u:=.agg #[vI 0,vI 0,vI 0,(vS y0 1)]) (e1 rfl) (fun p=>by kernel_rfl))<|RG.nl [vI 0,vI 0,vI 0,vN] D5 fun V09 Q3 R6 J1=>AQ [vI 0,vI 0,vI 0,(vS y0 1)] R6 .hd (o4 rfl rfl rfl (St.o1 (α:=Tb) R6 .t1)) fun W09 I2 K1=>Aa<|Al<|du 22 fun j0 p0=>Rv 0 j0 rfl p0 (fun _=>Ai rfl)<|Rv 1 j0 rfl p0 (fun _=>Ai rfl)<|RD.ifb (s:=165) rfl h (fun I9 h=>?_) (fun I9 h=>?_)
 refine RD.val (i:=4) (m' :=19) (W:=4194240) (tk j0) rfl p0 (.yes rfl rfl) (AE rfl (I2.memA .t2)) rfl<|RD.mf (α:=Value × (List Value) × Value × Nat) (fun ⟨z1,B1,P1,s1⟩=>[(1,(vS M3 3)),(25,.bool M1),(27,vP Q3),(165,.bool true),(168,.agg #[vI 0,vI 1,vI 0,(vS u1 1)]),(167,.func (.func 81) #[] #[vP s1]),(169,z1)]) (fun ⟨z1,B1,P1,s1⟩=>[rr w 3 Int z1 (([(0:Int)]:List Int).length) B1,.cells s1 [P1] 38,.cells Q3 [vI 0,vI 0,vI 0,(vS y0 1)] 37,rr w 63 Tb (vS y0 1) (([(⟨⟨#[97]⟩,(0:Int),([]:List Int),([]:List Int),([]:List Int),false⟩:Tb)]:List Tb).length) [.string ⟨#[97]⟩,vI 0,vN,vN,vN,.bool false],rr w 63 Tb (vS u1 1) (([(⟨⟨#[97]⟩,(0:Int),([]:List Int),([(0:Int)]:List Int),([]:List Int),false⟩:Tb)]:List Tb).length) [.string ⟨#[97]⟩,vI 0,vN,(vS R0 1),vN,.bool false]]) (fun ⟨z1,B1,P1,s1⟩ C6=>Cells C6 (bl [rr w 3 Int z1 (([(0:Int)]:List Int).length) B1,.cells s1 [P1] 38,.cells Q3 [vI 0,vI 0,vI 0,(vS y0 1)] 37,rr w 63 Tb (vS y0 1) (([(⟨⟨#[97]⟩,(0:Int),([]:List Int),([]:List Int),([]:List Int),false⟩:Tb)]:List Tb).length) [.string ⟨#[97]⟩,vI 0,vN,vN,vN,.bool false],rr w 63 Tb (vS u1 1) (([(⟨⟨#[97]⟩,(0:Int),([]:List Int),([(0:Int)]:List Int),([]:List Int),false⟩:Tb)]:List Tb).length) [.string ⟨#[97]⟩,vI 0,vN,(vS R0 1),vN,.bool false]] ++ L) B1 (([(0:Int)]:List Int):List Int)/\Rep.R C6 (bl [rr w 3 Int z1 (([(0:Int)]:List Int).length) B1,.cells s1 [P1] 38,.cells Q3 [vI 0,vI 0,vI 0,(vS y0 1)] 37,rr w 63 Tb (vS y0 1) (([(⟨⟨#[97]⟩,(0:Int),([]:List Int),([]:List Int),([]:List Int),false⟩:Tb)]:List Tb).length) [.string ⟨#[97]⟩,vI 0,vN,vN,vN,.bool false],rr w 63 Tb (vS u1 1) (([(⟨⟨#[97]⟩,(0:Int),([]:List Int),([(0:Int)]:List Int),([]:List Int),false⟩:Tb)]:List Tb).length) [.string ⟨#[97]⟩,vI 0,vN,(vS R0 1),vN,.bool false]] ++ L) [P1] ([(0:Int)]:List Int)) I2 16 63 ?_ ?_
 rintro ⟨z1,B1,P1,s1⟩ C6 x5 Z1 ⟨P02,u03⟩
 try dsimp only
 have x4:=Br x5 .t4
 have G1:=Bs x5 .t4
 have y5:=Br x4 .hd
 have H1:=Bs x4 .hd
 refine bk h fun g0b d04 h=>Bx 6 127 j0 rfl (.yes rfl rfl) (bd 24) rfl (e3 rfl rfl rfl) (fun p q=>aJ_c n (y5.hL hL q) (⟨(0:Int),(1:Int),(0:Int),([(⟨⟨#[97]⟩,(0:Int),([]:List Int),([(0:Int)]:List Int),([]:List Int),false⟩:Tb)]:List Tb)⟩:Tg) (Am (Aw (Bt (α:=Tb) (v:=(vS u1 1)) (xs:=([(⟨⟨#[97]⟩,(0:Int),([]:List Int),([(0:Int)]:List Int),([]:List Int),false⟩:Tb)]:List Tb)) x4 L (Bd (α:=Tb) x5 .t4 (AT (AD (cs:=[.string ⟨#[97]⟩,vI 0,vN,(vS R0 1),vN,.bool false]) (xs:=(([(⟨⟨#[97]⟩,(0:Int),([]:List Int),([(0:Int)]:List Int),([]:List Int),false⟩:Tb)]:List Tb):List Tb)) C5 L (Aj (cs:=[.string ⟨#[97]⟩,vI 0,vN,(vS R0 1),vN,.bool false]) (ds:=[]) (eD ⟨#[97]⟩ (0:Int) ([]:List Int) E8 ([(0:Int)]:List Int) (Aw (Bt (α:=Int) (v:=(vS R0 1)) (xs:=([(0:Int)]:List Int)) B5 L (Bd (α:=Int) H2 .hd (jC ((0:Int)) (vI 0) H2 L rfl) hL)) p2) ([]:List Int) E8 false) (AJ _ _))) (Tt q2 (Tt s2 (Tt u2 (Tt J1 (Tt K1 Z1)))))) hL)) H1) q) (Am (Bt (α:=Int) (v:=z1) (xs:=([(0:Int)]:List Int)) y5 L (Bd (α:=Int) x4 .hd (AT P02 G1) hL)) q) d04) rfl fun A09 D08 B02 ⟨k08,hu_,v03⟩=>?_
 subst hu_
 obtain ⟨j1,b2⟩:=y5.agr B02
 refine Bl 7 255 j0 rfl p0 (.yes rfl rfl) (fun _=>Ag rfl rfl) rfl<|Bl 8 511 j0 rfl p0 (.yes rfl rfl) (fun _=>Ag rfl rfl) rfl<|bk h fun B05 g04 h=>BA (i:=9) (m' :=1023) (W:=4193280) (tk j0) rfl p0 (v:=.bool B05) (fst:=[]) (cap:=[vP s1]) (.yes rfl rfl) (bd 81) rfl (e2 rfl rfl) (fun p q=>au_c n (j1.hL0 hL q) (j1.kd v03 q) (j1.kd (Aw u03 (Tt G1 (Tt H1 b2))) q) (ab q (j1.memA .hd)) g04) rfl<|Rv 10 j0 rfl p0 (fun _=>Bp rfl rfl)<|Rv 11 j0 rfl p0 (fun _=>Ai rfl)<|RD.ifb (s:=175) rfl h (fun H9 h=>?_) (fun H9 h=>?_)
 refine RD.val (i:=14) (m' :=20479) (W:=4128768) (tk j0) rfl p0 (.yes rfl rfl) (AE rfl (j1.memA .t1)) rfl<|RD.mf (α:=Value × (List Value) × Value × Nat) (fun ⟨A1,C1,Q1,v1⟩=>[(1,(vS M3 3)),(25,.bool M1),(175,.bool true),(178,.agg #[vI 0,vI 0,vI 0,(vS y0 1)]),(177,.func (.func 81) #[] #[vP v1]),(179,A1)]) (fun ⟨A1,C1,Q1,v1⟩=>[rr w 3 Int A1 (([(0:Int)]:List Int).length) C1,.cells v1 [Q1] 38,rr w 63 Tb (vS y0 1) (([(⟨⟨#[97]⟩,(0:Int),([]:List Int),([]:List Int),([]:List Int),false⟩:Tb)]:List Tb).length) [.string ⟨#[97]⟩,vI 0,vN,vN,vN,.bool false]]) (fun ⟨A1,C1,Q1,v1⟩ D6=>Cells D6 (bl [rr w 3 Int A1 (([(0:Int)]:List Int).length) C1,.cells v1 [Q1] 38,rr w 63 Tb (vS y0 1) (([(⟨⟨#[97]⟩,(0:Int),([]:List Int),([]:List Int),([]:List Int),false⟩:Tb)]:List Tb).length) [.string ⟨#[97]⟩,vI 0,vN,vN,vN,.bool false]] ++ L) C1 (([(0:Int)]:List Int):List Int)/\Rep.R D6 (bl [rr w 3 Int A1 (([(0:Int)]:List Int).length) C1,.cells v1 [Q1] 38,rr w 63 Tb (vS y0 1) (([(⟨⟨#[97]⟩,(0:Int),([]:List Int),([]:List Int),([]:List Int),false⟩:Tb)]:List Tb).length) [.string ⟨#[97]⟩,vI 0,vN,vN,vN,.bool false]] ++ L) [Q1] ([(-1:Int)]:List Int)) j1 6 65535 ?_ ?_
 rintro ⟨A1,C1,Q1,v1⟩ D6 E5 K4 ⟨R02,x03⟩
 try dsimp only
 have y4:=Br E5 .t2
 have y3:=Bs E5 .t2
 have F5:=Br y4 .hd
 have z3:=Bs y4 .hd
 refine bk h fun j0b u04 h=>Bx 16 131071 j0 rfl (.yes rfl rfl) (bd 24) rfl (e3 rfl rfl rfl) (fun p q=>aJ_c n (F5.hL hL q) (⟨(0:Int),(0:Int),(0:Int),([(⟨⟨#[97]⟩,(0:Int),([]:List Int),([]:List Int),([]:List Int),false⟩:Tb)]:List Tb)⟩:Tg) (Am (Aw (Bt (α:=Tb) (v:=(vS y0 1)) (xs:=([(⟨⟨#[97]⟩,(0:Int),([]:List Int),([]:List Int),([]:List Int),false⟩:Tb)]:List Tb)) y4 L (Bd (α:=Tb) E5 .t2 (AT Q02 (Tt J1 (Tt K1 (Tt Z1 (Tt G1 (Tt H1 (Tt b2 K4))))))) hL)) z3) q) (Am (Bt (α:=Int) (v:=A1) (xs:=([(0:Int)]:List Int)) F5 L (Bd (α:=Int) y4 .hd (AT R02 y3) hL)) q) u04) rfl fun X09 I08 F02 ⟨s08,hu_,y03⟩=>?_
 subst hu_
 obtain ⟨J2,M4⟩:=F5.agr F02
 refine Bl 17 262143 j0 rfl p0 (.yes rfl rfl) (fun _=>Ag rfl rfl) rfl<|Bl 18 524287 j0 rfl p0 (.yes rfl rfl) (fun _=>Ag rfl rfl) rfl<|bk h fun E05 v04 h=>BA (i:=19) (m' :=1048575) (W:=3145728) (tk j0) rfl p0 (v:=.bool E05) (fst:=[]) (cap:=[vP v1]) (.yes rfl rfl) (bd 81) rfl (e2 rfl rfl) (fun p q=>au_c n (J2.hL0 hL q) (J2.kd y03 q) (J2.kd (Aw x03 (Tt y3 (Tt z3 M4))) q) (ab q (J2.memA .hd)) v04) rfl<|Rv 20 j0 rfl p0 (fun _=>Bp rfl rfl)<|Rv 21 j0 rfl p0 (fun _=>AR rfl)<|AI (dk j0)<|Ae<|Ab (AF (vs:=[vI 3,vI 1]) (u:=.agg #[vI 3,vI 1]) (e2 rfl rfl) (fun p=>by kernel_rfl))<|Ab (AF (vs:=[]) (u:=.agg #[vI 0,vI 0]) ae (fun p=>by kernel_rfl))<|Ab (AF (vs:=[vI 6,vI 2]) (u:=.agg #[vI 6,vI 2]) (e2 rfl rfl) (fun p=>by kernel_rfl))<|Ak .plain rfl (AK (α:=Int × Int) (xs:=([((3:Int),(1:Int)),((0:Int),(0:Int)),((6:Int),(2:Int))]:List (Int × Int))) (vs:=[.agg #[vI 3,vI 1],.agg #[vI 0,vI 0],.agg #[vI 6,vI 2]]) (ds' :=[vI 3,vI 1,vI 0,vI 0,vI 6,vI 2]) rfl J2 dP rfl (e3 rfl rfl rfl) (by kernel_rfl) rfl) fun Y09 A9 z4 M5=>?_
 have K2:=Br z4 .hd
 have P5:=Bs z4 .hd
 refine bk h fun q1 x04 h=>jE (bd 31) rfl (e1 rfl) (fun p q=>aH (b0:=w.heap.size) (aa_c n (K2.hL hL q) (Am (Bt (α:=Int × Int) (v:=(vS A9 3)) (xs:=([((3:Int),(1:Int)),((0:Int),(0:Int)),((6:Int),(2:Int))]:List (Int × Int))) K2 L (Bd (α:=Int × Int) z4 .hd (AD (cs:=[vI 3,vI 1,vI 0,vI 0,vI 6,vI 2]) (xs:=(([((3:Int),(1:Int)),((0:Int),(0:Int)),((6:Int),(2:Int))]:List (Int × Int)):List (Int × Int))) z4 L (Aj (cs:=[vI 3,vI 1]) (ds:=[vI 0,vI 0,vI 6,vI 2]) (az (3:Int) (1:Int)) (Aj (cs:=[vI 0,vI 0]) (ds:=[vI 6,vI 2]) (az (0:Int) (0:Int)) (Aj (cs:=[vI 6,vI 2]) (ds:=[]) (az (6:Int) (2:Int)) (AJ _ _))))) hL)) q) x04) q (Nat.le_trans K2.ag.size q.size)) rfl fun Z09 J08 j07 ⟨k9,s00,D03,J8,U02⟩=>?_
 subst D03
 have V6:=aM K2 J8
 have Q5:=bh K2 J8
 refine RG.nl [vI 0,vI 0,vI 0,vN] V6 fun b0a b06 W6 P4=>AQ [vI q1.fh,vI q1.fc,vI q1.fj,k9] W6 .hd (o4 rfl rfl rfl (St.o1 (α:=Tb) W6 .t1)) fun c0a A4 Q4=>Aa<|Ae<|Ab (AE rfl (A4.memA .hd))<|Ac rfl ?_
 have G5:=Br A4 .t1
 have R5:=Bs A4 .t1
 have Z4:=Bt (α:=Tb) (v:=k9) (xs:=q1.fq) G5 L (Bd (α:=Tb) A4 .t1 (AT (AD (cs:=s00) (xs:=(q1.fq:List Tb)) V6 L (aI U02)) (Tt P4 Q4)) hL)
 refine bk h fun F05 y04 h=>jE (bd 16) rfl (e5 rfl rfl rfl rfl rfl) (fun p q=>aD_c n (G5.hL hL q) q1 (Am Z4 q) (Am (Aw x0 (Tt E3 (Tt x1 (Tt g2 (Tt j2 (Tt u3 (Tt v3 (Tt x3 (Tt p2 (Tt q2 (Tt s2 (Tt u2 (Tt J1 (Tt K1 (Tt Z1 (Tt G1 (Tt H1 (Tt b2 (Tt K4 (Tt y3 (Tt z3 (Tt M4 (Tt M5 (Tt P5 (Tt Q5 (Tt P4 (Tt Q4 R5))))))))))))))))))))))))))) q) y04) rfl fun d0a K08 G02 ⟨t08,hu_,z03⟩=>?_
 subst hu_
 obtain ⟨M2,H01⟩:=G5.agr G02
 refine Ac rfl<|Ab (Ag rfl rfl)<|Ab (Ag rfl rfl)<|Ah rfl<|Ah rfl<|Aa<|Al<|MX.jo (α:=Bool) (fun H3=>[(25,.bool H3)]) (fun H3=>[]) (fun H3=>H3) M2 h ?_ ?_
 rintro H3 d0b I00 F06 h
 try dsimp only at h
 refine Ae<|Ab (AF (vs:=[vI 1,vI 3]) (u:=.agg #[vI 1,vI 3]) (e2 rfl rfl) (fun p=>by kernel_rfl))<|Ab (AF (vs:=[vI 2,vI 2]) (u:=.agg #[vI 2,vI 2]) (e2 rfl rfl) (fun p=>by kernel_rfl))<|Ab (AF (vs:=[vI 5,vI 5]) (u:=.agg #[vI 5,vI 5]) (e2 rfl rfl) (fun p=>by kernel_rfl))<|Ab (AF (vs:=[vI 7,vI 0]) (u:=.agg #[vI 7,vI 0]) (e2 rfl rfl) (fun p=>by kernel_rfl))<|Ak .plain rfl (AK (α:=Int × Int) (xs:=([((1:Int),(3:Int)),((2:Int),(2:Int)),((5:Int),(5:Int)),((7:Int),(0:Int))]:List (Int × Int))) (vs:=[.agg #[vI 1,vI 3],.agg #[vI 2,vI 2],.agg #[vI 5,vI 5],.agg #[vI 7,vI 0]]) (ds' :=[vI 1,vI 3,vI 2,vI 2,vI 5,vI 5,vI 7,vI 0]) rfl I00 dP rfl (e4 rfl rfl rfl rfl) (by kernel_rfl) rfl) fun g0a B9 B4 G06=>?_
 have P2:=Br B4 .hd
 have H06:=Bs B4 .hd
 refine bk h fun R1 z04 h=>jE (bd 31) rfl (e1 rfl) (fun p q=>aH (b0:=w.heap.size) (aa_c n (P2.hL hL q) (Am (Bt (α:=Int × Int) (v:=(vS B9 4)) (xs:=([((1:Int),(3:Int)),((2:Int),(2:Int)),((5:Int),(5:Int)),((7:Int),(0:Int))]:List (Int × Int))) P2 L (Bd (α:=Int × Int) B4 .hd (AD (cs:=[vI 1,vI 3,vI 2,vI 2,vI 5,vI 5,vI 7,vI 0]) (xs:=(([((1:Int),(3:Int)),((2:Int),(2:Int)),((5:Int),(5:Int)),((7:Int),(0:Int))]:List (Int × Int)):List (Int × Int))) B4 L (Aj (cs:=[vI 1,vI 3]) (ds:=[vI 2,vI 2,vI 5,vI 5,vI 7,vI 0]) (az (1:Int) (3:Int)) (Aj (cs:=[vI 2,vI 2]) (ds:=[vI 5,vI 5,vI 7,vI 0]) (az (2:Int) (2:Int)) (Aj (cs:=[vI 5,vI 5]) (ds:=[vI 7,vI 0]) (az (5:Int) (5:Int)) (Aj (cs:=[vI 7,vI 0]) (ds:=[]) (az (7:Int) (0:Int)) (AJ _ _)))))) hL)) q) z04) q (Nat.le_trans P2.ag.size q.size)) rfl fun j0a M08 k07 ⟨d05,u00,E03,K8,V02⟩=>?_
 subst E03
 have X6:=aM P2 K8
 have I06:=bh P2 K8
 have Y5:=AD (cs:=u00) (xs:=(R1.fq:List Tb)) X6 L (aI V02)
 refine RG.nl [vI 0,vI 0,vI 0,vN] X6 fun k0a c06 Y6 I01=>AQ [vI R1.fh,vI R1.fc,vI R1.fj,d05] Y6 .hd (o4 rfl rfl rfl (St.o1 (α:=Tb) Y6 .t1)) fun p0a J00 J01=>Aa<|Ae<|Ak .plain rfl (AK (α:=Int) (xs:=([(3:Int),(2:Int),(1:Int),(0:Int)]:List Int)) (vs:=[vI 3,vI 2,vI 1,vI 0]) (ds' :=[vI 3,vI 2,vI 1,vI 0]) rfl J00 cU rfl (e4 rfl rfl rfl rfl) (by kernel_rfl) rfl) fun s05 d06 W1 K01=>?_
 have Z5:=AD (cs:=[vI 3,vI 2,vI 1,vI 0]) (xs:=(([(3:Int),(2:Int),(1:Int),(0:Int)]:List Int):List Int)) W1 L (Aj (cs:=[vI 3]) (ds:=[vI 2,vI 1,vI 0]) rfl (Aj (cs:=[vI 2]) (ds:=[vI 1,vI 0]) rfl (Aj (cs:=[vI 1]) (ds:=[vI 0]) rfl (Aj (cs:=[vI 0]) (ds:=[]) rfl (AJ _ _)))))
 refine Ah rfl<|Aa<|Al<|du 31 fun g0 k0=>Rv 0 g0 rfl k0 (fun _=>Ai rfl)<|Bl 1 3 g0 rfl k0 (.yes rfl rfl) (fun _=>Ai rfl) rfl<|Rv 2 g0 rfl k0 (fun _=>Bp rfl rfl)<|Rv 3 g0 rfl k0 (fun _=>Ai rfl)<|RD.ifb (s:=245) rfl h (fun J9 h=>?_) (fun J9 h=>?_)
 refine RD.val (i:=5) (m' :=47) (W:=2147483520) (tk g0) rfl k0 (.yes rfl rfl) (AE rfl (W1.memA .t1)) rfl<|Bl 6 111 g0 rfl k0 (.yes rfl rfl) (fun _=>Ai rfl) rfl<|Bx 4 127 g0 rfl (.yes rfl rfl) (bd 25) rfl (e2 rfl rfl) (fun p q=>BE (aQ_c n (W1.hL hL q) (1:Int) (16:Int)) fun (w8:World) (u8:Value) ⟨b0_,b1_,hu_,s_⟩=>(⟨b0_,b1_,hu_,s_.from q⟩:∃ R3 U3:Nat,u8 = Value.func (.func 77) #[] #[vP R3,vP U3]/\St s05 w8 [.cells R3 [vI 1] 3,.cells U3 [vI 16] 3])) rfl fun t05 P08 p07 ⟨R3,U3,F03,M8⟩=>?_
 subst F03
 have I0:=aY W1 M8
 have R4:=bF W1 M8
 refine bk h fun E6 A04 h=>?_
 have k6:=Tt I01 (Tt J01 (Tt K01 R4))
 refine BA (i:=7) (m' :=255) (W:=2147483392) (tk g0) rfl k0 (v:=.tuple #[.agg ((aa E6.1)).toArray,vI E6.2]) (fst:=[]) (cap:=[]) (.yes rfl rfl) (bd 14) rfl (e5 rfl rfl rfl rfl rfl) (fun p q=>ba_c n (I0.hL0 hL q) R1 (Am (St.lend (α:=Tb) (L:=L) I0 .t4 (AT Y5 k6) hL) q) (Am (St.lend (α:=Int) (L:=L) I0 .t2 (AT Z5 R4) hL) q) A04) rfl<|Bl 8 511 g0 rfl k0 (.yes rfl rfl) (fun _=>Ag rfl rfl) rfl<|Bl 9 1023 g0 rfl k0 (.yes rfl rfl) (fun _=>Ag rfl rfl) rfl<|bk h fun G05 B04 h=>BA (i:=10) (m' :=2047) (W:=2147481600) (tk g0) rfl k0 (v:=.bool G05) (fst:=[]) (cap:=[vP R3,vP U3]) (.yes rfl rfl) (bd 77) rfl (e2 rfl rfl) (fun p q=>ab_c n (I0.hL0 hL q) E6.1 (ab q (I0.memA .hd)) (ab q (I0.memA .t1)) B04) rfl<|Rv 11 g0 rfl k0 (fun _=>Bp rfl rfl)<|Rv 12 g0 rfl k0 (fun _=>Ai rfl)<|RD.ifb (s:=254) rfl h (fun K9 h=>?_) (fun K9 h=>?_)
 refine RD.val (i:=14) (m' :=24575) (W:=2147418112) (tk g0) rfl k0 (.yes rfl rfl) (AE rfl (I0.memA .t3)) rfl<|Bl 15 57343 g0 rfl k0 (.yes rfl rfl) (fun _=>Ai rfl) rfl<|Bx 13 65535 g0 rfl (.yes rfl rfl) (bd 25) rfl (e2 rfl rfl) (fun p q=>BE (aQ_c n (I0.hL hL q) (-1:Int) (4:Int)) fun (w8:World) (u8:Value) ⟨b0_,b1_,hu_,s_⟩=>(⟨b0_,b1_,hu_,s_.from q⟩:∃ V3 W3:Nat,u8 = Value.func (.func 77) #[] #[vP V3,vP W3]/\St t05 w8 [.cells V3 [vI (-1)] 3,.cells W3 [vI 4] 3])) rfl fun u05 Q08 q07 ⟨V3,W3,G03,P8⟩=>?_
 subst G03
 have J0:=aY I0 P8
 have U4:=bF I0 P8
 refine bk h fun F6 C04 h=>BA (i:=16) (m' :=131071) (W:=2147352576) (tk g0) rfl k0 (v:=.tuple #[.agg ((aa F6.1)).toArray,vI F6.2]) (fst:=[]) (cap:=[]) (.yes rfl rfl) (bd 18) rfl (e5 rfl rfl rfl rfl rfl) (fun p q=>bn_c n (J0.hL0 hL q) R1 (Am (St.lend (α:=Tb) (L:=L) J0 .t6 (AT Y5 (Tt k6 U4)) hL) q) (Am (St.lend (α:=Int) (L:=L) J0 .t4 (AT Z5 (Tt R4 U4)) hL) q) C04) rfl<|Bl 17 262143 g0 rfl k0 (.yes rfl rfl) (fun _=>Ag rfl rfl) rfl<|Bl 18 524287 g0 rfl k0 (.yes rfl rfl) (fun _=>Ag rfl rfl) rfl<|bk h fun H05 D04 h=>BA (i:=19) (m' :=1048575) (W:=2146435072) (tk g0) rfl k0 (v:=.bool H05) (fst:=[]) (cap:=[vP V3,vP W3]) (.yes rfl rfl) (bd 77) rfl (e2 rfl rfl) (fun p q=>ab_c n (J0.hL0 hL q) F6.1 (ab q (J0.memA .hd)) (ab q (J0.memA .t1)) D04) rfl<|Rv 20 g0 rfl k0 (fun _=>Bp rfl rfl)<|Rv 21 g0 rfl k0 (fun _=>Ai rfl)<|RD.ifb (s:=263) rfl h (fun M9 h=>?_) (fun M9 h=>?_)
 refine RD.val (i:=23) (m' :=12582911) (W:=2113929216) (tk g0) rfl k0 (.yes rfl rfl) (AE rfl (J0.memA .t5)) rfl<|Bl 24 29360127 g0 rfl k0 (.yes rfl rfl) (fun _=>Ai rfl) rfl<|Bx 22 33554431 g0 rfl (.yes rfl rfl) (bd 25) rfl (e2 rfl rfl) (fun p q=>BE (aQ_c n (J0.hL hL q) (7:Int) (50:Int)) fun (w8:World) (u8:Value) ⟨b0_,b1_,hu_,s_⟩=>(⟨b0_,b1_,hu_,s_.from q⟩:∃ X3 Y3:Nat,u8 = Value.func (.func 77) #[] #[vP X3,vP Y3]/\St u05 w8 [.cells X3 [vI 7] 3,.cells Y3 [vI 50] 3])) rfl fun q0a R08 s07 ⟨X3,Y3,H03,Q8⟩=>?_
 subst H03
 have D1:=aY J0 Q8
 have B7:=bF J0 Q8
 refine bk h fun G6 E04 h=>BA (i:=25) (m' :=67108863) (W:=2080374784) (tk g0) rfl k0 (v:=.tuple #[.agg ((aa G6.1)).toArray,vI G6.2]) (fst:=[]) (cap:=[]) (.yes rfl rfl) (bd 12) rfl (e5 rfl rfl rfl rfl rfl) (fun p q=>aZ_c n (D1.hL0 hL q) R1 (Am (St.lend (α:=Tb) (L:=L) D1 .t8 (AT Y5 (Tt k6 (Tt U4 B7))) hL) q) (Am (St.lend (α:=Int) (L:=L) D1 .t6 (AT Z5 (Tt R4 (Tt U4 B7))) hL) q) E04) rfl<|Bl 26 134217727 g0 rfl k0 (.yes rfl rfl) (fun _=>Ag rfl rfl) rfl<|Bl 27 268435455 g0 rfl k0 (.yes rfl rfl) (fun _=>Ag rfl rfl) rfl<|bk h fun I05 F04 h=>BA (i:=28) (m' :=536870911) (W:=1610612736) (tk g0) rfl k0 (v:=.bool I05) (fst:=[]) (cap:=[vP X3,vP Y3]) (.yes rfl rfl) (bd 77) rfl (e2 rfl rfl) (fun p q=>ab_c n (D1.hL0 hL q) G6.1 (ab q (D1.memA .hd)) (ab q (D1.memA .t1)) F04) rfl<|Rv 29 g0 rfl k0 (fun _=>Bp rfl rfl)<|Rv 30 g0 rfl k0 (fun _=>AR rfl)<|AI (dk g0)<|Ao rfl<|Bb hb0 func6 rfl rfl ?_
 cases h
 exact D1.gv
 refine AH 536870911 2 [(22,264),(23,265),(24,266),(25,267),(26,268),(27,269),(28,270)] (F:=[(263,false)]) (U:=[]) g0 k0 (.cons rfl .nil) .nil ?_
 dsimp only [aq,List.map]
 refine Rv 29 g0 rfl k0 (fun _=>Av rfl rfl)<|Rv 30 g0 rfl k0 (fun _=>AR rfl)<|AI (dk g0)<|Ao rfl<|Bb hb0 func6 rfl rfl ?_
 cases h
 exact J0.gv
 refine AH 1048575 11 [(13,255),(14,256),(15,257),(16,258),(17,259),(18,260),(19,261)] (F:=[(254,false)]) (U:=[]) g0 k0 (.cons rfl .nil) .nil ?_
 dsimp only [aq,List.map]
 refine Rv 20 g0 rfl k0 (fun _=>Av rfl rfl)<|Rv 21 g0 rfl k0 (fun _=>Ai rfl)<|AH 536870911 2 [(22,264),(23,265),(24,266),(25,267),(26,268),(27,269),(28,270)] (F:=[(263,false)]) (U:=[]) g0 k0 (.cons rfl .nil) .nil ?_
 dsimp only [aq,List.map]
 refine Rv 29 g0 rfl k0 (fun _=>Av rfl rfl)<|Rv 30 g0 rfl k0 (fun _=>AR rfl)<|AI (dk g0)<|Ao rfl<|Bb hb0 func6 rfl rfl ?_
 cases h
 exact I0.gv
 refine AH 2047 20 [(4,246),(5,247),(6,248),(7,249),(8,250),(9,251),(10,252)] (F:=[(245,false)]) (U:=[]) g0 k0 (.cons rfl .nil) .nil ?_
 dsimp only [aq,List.map]
 refine Rv 11 g0 rfl k0 (fun _=>Av rfl rfl)<|Rv 12 g0 rfl k0 (fun _=>Ai rfl)<|AH 1048575 11 [(13,255),(14,256),(15,257),(16,258),(17,259),(18,260),(19,261)] (F:=[(254,false)]) (U:=[]) g0 k0 (.cons rfl .nil) .nil ?_
 dsimp only [aq,List.map]
 refine Rv 20 g0 rfl k0 (fun _=>Av rfl rfl)<|Rv 21 g0 rfl k0 (fun _=>Ai rfl)<|AH 536870911 2 [(22,264),(23,265),(24,266),(25,267),(26,268),(27,269),(28,270)] (F:=[(263,false)]) (U:=[]) g0 k0 (.cons rfl .nil) .nil ?_
 dsimp only [aq,List.map]
 refine Rv 29 g0 rfl k0 (fun _=>Av rfl rfl)<|Rv 30 g0 rfl k0 (fun _=>AR rfl)<|AI (dk g0)<|Ao rfl<|Bb hb0 func6 rfl rfl ?_
 cases h
 exact W1.gv
 intro R05 V1 h
 try dsimp only at h
 refine du 40 fun c0 d0=>Rv 0 c0 rfl d0 (fun _=>Ai rfl)<|Rv 1 c0 rfl d0 (fun _=>Ai rfl)<|RD.ifb (s:=197) rfl h (fun P9 h=>?_) (fun P9 h=>?_)
 refine Bl 2 7 c0 rfl d0 (.yes rfl rfl) (fun _=>Ai rfl) rfl<|Bl 3 15 c0 rfl d0 (.yes rfl rfl) (fun _=>FV.eql (i:=F05.2) (j:=0) rfl rfl) rfl<|Rv 4 c0 rfl d0 (fun _=>Bp rfl rfl)<|Rv 5 c0 rfl d0 (fun _=>Ai rfl)<|RD.ifd (s:=201) rfl h (fun Q9 h=>?_) (fun Q9 h=>?_)
 refine Bl 6 127 c0 rfl d0 (.yes rfl rfl) (fun _=>Ai rfl) rfl<|bk h fun Z0 G04 h=>BA (i:=7) (m' :=255) (W:=1099511627520) (tk c0) rfl d0 (v:=.agg ((aa Z0)).toArray) (fst:=[]) (cap:=[]) (.yes rfl rfl) (bd 33) rfl (e2 rfl rfl) (fun p q=>ar_c n (M2.hL0 hL q)  G04) rfl<|Bl 8 511 c0 rfl d0 (.yes rfl rfl) (fun _=>AF (vs:=[.agg ((aa Z0)).toArray,vI 2,vI 2]) (u:=.agg ((aa Z0 ++ ([vI 2,vI 2]:List Value))).toArray) (e3 rfl rfl rfl) (fun p=>by kernel_rfl)) rfl<|RD.nu 9 1023 c0 rfl (.yes rfl rfl) rfl (AK (α:=Tc) (xs:=([(⟨Z0,(2:Int),(2:Int)⟩:Tc)]:List Tc)) (vs:=[.agg ((aa Z0 ++ ([vI 2,vI 2]:List Value))).toArray]) (ds' :=(aa Z0 ++ ([vI 2,vI 2]:List Value))) rfl M2 eP rfl (e1 rfl) (by kernel_rfl) rfl) fun v05 g06 k1 v2=>bk h fun J05 H04 h=>BA (i:=10) (m' :=2047) (W:=1099511625728) (tk c0) rfl d0 (v:=.bool J05) (fst:=[]) (cap:=[]) (.yes rfl rfl) (bd 20) rfl (e2 rfl rfl) (fun p q=>ae_c n (k1.hL0 hL q) (k1.kd (Aw z03 v2) q) (Am (St.lend (α:=Tc) (L:=L) k1 .hd (AD (cs:=(aa Z0 ++ ([vI 2,vI 2]:List Value))) (xs:=(([(⟨Z0,(2:Int),(2:Int)⟩:Tc)]:List Tc):List Tc)) k1 L (Aj (cs:=(aa Z0 ++ ([vI 2,vI 2]:List Value))) (ds:=[]) (cC Z0 (2:Int) (2:Int)) (AJ _ _))) hL) q) H04) rfl<|Rv 11 c0 rfl d0 (fun _=>Bp rfl rfl)<|Rv 12 c0 rfl d0 (fun _=>Ai rfl)<|RD.ifb (s:=208) rfl h (fun R9 h=>?_) (fun R9 h=>?_)
 refine RD.val (i:=14) (m' :=24575) (W:=1099511562240) (tk c0) rfl d0 (.yes rfl rfl) (AE rfl (k1.memA .t1)) rfl<|Bl 15 57343 c0 rfl d0 (.yes rfl rfl) (fun _=>Ai rfl) rfl<|Bx 13 65535 c0 rfl (.yes rfl rfl) (bd 25) rfl (e2 rfl rfl) (fun p q=>BE (aQ_c n (k1.hL hL q) (0:Int) (1:Int)) fun (w8:World) (u8:Value) ⟨b0_,b1_,hu_,s_⟩=>(⟨b0_,b1_,hu_,s_.from q⟩:∃ Z3 b4:Nat,u8 = Value.func (.func 77) #[] #[vP Z3,vP b4]/\St v05 w8 [.cells Z3 [vI 0] 3,.cells b4 [vI 1] 3])) rfl fun x05 U08 t07 ⟨Z3,b4,I03,R8⟩=>?_
 subst I03
 have K0:=aY k1 R8
 have V4:=bF k1 R8
 refine bk h fun H6 I04 h=>?_
 have Y4:=Tt H01 (Tt v2 V4)
 have q8:=Tt X2 (Tt Y2 (Tt Z2 (Tt F1 (Tt b3 (Tt c3 (Tt d3 (Tt g3 (Tt j3 (Tt k3 (Tt I1 (Tt p3 (Tt q3 (Tt x1 (Tt g2 (Tt j2 (Tt u3 (Tt v3 (Tt x3 (Tt p2 (Tt q2 (Tt s2 (Tt u2 (Tt J1 (Tt K1 (Tt Z1 (Tt G1 (Tt H1 (Tt b2 (Tt K4 (Tt y3 (Tt z3 (Tt M4 (Tt M5 (Tt P5 (Tt Q5 (Tt P4 (Tt Q4 (Tt R5 Y4))))))))))))))))))))))))))))))))))))))
 refine BA (i:=16) (m' :=131071) (W:=1099511496704) (tk c0) rfl d0 (v:=.tuple #[.agg ((aa H6.1)).toArray,vI H6.2]) (fst:=[]) (cap:=[]) (.yes rfl rfl) (bd 14) rfl (e5 rfl rfl rfl rfl rfl) (fun p q=>ba_c n (K0.hL0 hL q) q1 (K0.kd (Aw Z4 Y4) q) (K0.kd (Aw x0 q8) q) I04) rfl<|Bl 17 262143 c0 rfl d0 (.yes rfl rfl) (fun _=>Ag rfl rfl) rfl<|Bl 18 524287 c0 rfl d0 (.yes rfl rfl) (fun _=>Ag rfl rfl) rfl<|bk h fun K05 J04 h=>BA (i:=19) (m' :=1048575) (W:=1099510579200) (tk c0) rfl d0 (v:=.bool K05) (fst:=[]) (cap:=[vP Z3,vP b4]) (.yes rfl rfl) (bd 77) rfl (e2 rfl rfl) (fun p q=>ab_c n (K0.hL0 hL q) H6.1 (ab q (K0.memA .hd)) (ab q (K0.memA .t1)) J04) rfl<|Rv 20 c0 rfl d0 (fun _=>Bp rfl rfl)<|Rv 21 c0 rfl d0 (fun _=>Ai rfl)<|RD.ifb (s:=217) rfl h (fun U9 h=>?_) (fun U9 h=>?_)
 refine RD.val (i:=23) (m' :=12582911) (W:=1099478073344) (tk c0) rfl d0 (.yes rfl rfl) (AE rfl (K0.memA .t3)) rfl<|Bl 24 29360127 c0 rfl d0 (.yes rfl rfl) (fun _=>Ai rfl) rfl<|Bx 22 33554431 c0 rfl (.yes rfl rfl) (bd 25) rfl (e2 rfl rfl) (fun p q=>BE (aQ_c n (K0.hL hL q) (0:Int) (1:Int)) fun (w8:World) (u8:Value) ⟨b0_,b1_,hu_,s_⟩=>(⟨b0_,b1_,hu_,s_.from q⟩:∃ c4 d4:Nat,u8 = Value.func (.func 77) #[] #[vP c4,vP d4]/\St x05 w8 [.cells c4 [vI 0] 3,.cells d4 [vI 1] 3])) rfl fun y05 V08 u07 ⟨c4,d4,J03,U8⟩=>?_
 subst J03
 have M0:=aY K0 U8
 have A3:=bF K0 U8
 refine bk h fun I6 K04 h=>BA (i:=25) (m' :=67108863) (W:=1099444518912) (tk c0) rfl d0 (v:=.tuple #[.agg ((aa I6.1)).toArray,vI I6.2]) (fst:=[]) (cap:=[]) (.yes rfl rfl) (bd 18) rfl (e5 rfl rfl rfl rfl rfl) (fun p q=>bn_c n (M0.hL0 hL q) q1 (M0.kd (Aw Z4 (Tt Y4 A3)) q) (M0.kd (Aw x0 (Tt q8 A3)) q) K04) rfl<|Bl 26 134217727 c0 rfl d0 (.yes rfl rfl) (fun _=>Ag rfl rfl) rfl<|Bl 27 268435455 c0 rfl d0 (.yes rfl rfl) (fun _=>Ag rfl rfl) rfl<|bk h fun M05 M04 h=>BA (i:=28) (m' :=536870911) (W:=1098974756864) (tk c0) rfl d0 (v:=.bool M05) (fst:=[]) (cap:=[vP c4,vP d4]) (.yes rfl rfl) (bd 77) rfl (e2 rfl rfl) (fun p q=>ab_c n (M0.hL0 hL q) I6.1 (ab q (M0.memA .hd)) (ab q (M0.memA .t1)) M04) rfl<|Rv 29 c0 rfl d0 (fun _=>Bp rfl rfl)<|Rv 30 c0 rfl d0 (fun _=>Ai rfl)<|RD.ifb (s:=226) rfl h (fun V9 h=>?_) (fun V9 h=>?_)
 refine RD.val (i:=32) (m' :=6442450943) (W:=1082331758592) (tk c0) rfl d0 (.yes rfl rfl) (AE rfl (M0.memA .t5)) rfl<|Bl 33 15032385535 c0 rfl d0 (.yes rfl rfl) (fun _=>Ai rfl) rfl<|Bx 31 17179869183 c0 rfl (.yes rfl rfl) (bd 25) rfl (e2 rfl rfl) (fun p q=>BE (aQ_c n (M0.hL hL q) (0:Int) (1:Int)) fun (w8:World) (u8:Value) ⟨b0_,b1_,hu_,s_⟩=>(⟨b0_,b1_,hu_,s_.from q⟩:∃ g4 j4:Nat,u8 = Value.func (.func 77) #[] #[vP g4,vP j4]/\St y05 w8 [.cells g4 [vI 0] 3,.cells j4 [vI 1] 3])) rfl fun s0a W08 v07 ⟨g4,j4,K03,V8⟩=>?_
 subst K03
 have E1:=aY M0 V8
 have C7:=bF M0 V8
 refine bk h fun J6 P04 h=>?_
 have s8:=Tt Y4 (Tt A3 C7)
 refine BA (i:=34) (m' :=34359738367) (W:=1065151889408) (tk c0) rfl d0 (v:=.tuple #[.agg ((aa J6.1)).toArray,vI J6.2]) (fst:=[]) (cap:=[]) (.yes rfl rfl) (bd 12) rfl (e5 rfl rfl rfl rfl rfl) (fun p q=>aZ_c n (E1.hL0 hL q) q1 (E1.kd (Aw Z4 s8) q) (E1.kd (Aw x0 (Tt X2 (Tt Y2 (Tt Z2 (Tt F1 (Tt b3 (Tt c3 (Tt d3 (Tt g3 (Tt j3 (Tt k3 (Tt I1 (Tt p3 (Tt q3 (Tt x1 (Tt g2 (Tt j2 (Tt u3 (Tt v3 (Tt x3 (Tt p2 (Tt q2 (Tt s2 (Tt u2 (Tt J1 (Tt K1 (Tt Z1 (Tt G1 (Tt H1 (Tt b2 (Tt K4 (Tt y3 (Tt z3 (Tt M4 (Tt M5 (Tt P5 (Tt Q5 (Tt P4 (Tt Q4 (Tt R5 s8)))))))))))))))))))))))))))))))))))))))) q) P04) rfl<|Bl 35 68719476735 c0 rfl d0 (.yes rfl rfl) (fun _=>Ag rfl rfl) rfl<|Bl 36 137438953471 c0 rfl d0 (.yes rfl rfl) (fun _=>Ag rfl rfl) rfl<|bk h fun x9 Q04 h=>BA (i:=37) (m' :=274877906943) (W:=824633720832) (tk c0) rfl d0 (v:=.bool x9) (fst:=[]) (cap:=[vP g4,vP j4]) (.yes rfl rfl) (bd 77) rfl (e2 rfl rfl) (fun p q=>ab_c n (E1.hL0 hL q) J6.1 (ab q (E1.memA .hd)) (ab q (E1.memA .t1)) Q04) rfl<|Rv 38 c0 rfl d0 (fun _=>Bp rfl rfl)<|Rv 39 c0 rfl d0 (fun _=>AR rfl)<|AI (dk c0) ?_
 obtain ⟨K00,M01⟩:=AL E1 .done
 exact V1 x9 K00 (Tt v2 (Tt V4 (Tt A3 (Tt C7 M01)))) h
 refine AH 274877906943 2 [(31,227),(32,228),(33,229),(34,230),(35,231),(36,232),(37,233)] (F:=[(226,false)]) (U:=[]) c0 d0 (.cons rfl .nil) .nil ?_
 dsimp only [aq,List.map]
 refine Rv 38 c0 rfl d0 (fun _=>Av rfl rfl)<|Rv 39 c0 rfl d0 (fun _=>AR rfl)<|AI (dk c0) ?_
 obtain ⟨M00,P01⟩:=AL M0 .done
 exact V1 false M00 (Tt v2 (Tt V4 (Tt A3 P01))) h
 refine AH 536870911 11 [(22,218),(23,219),(24,220),(25,221),(26,222),(27,223),(28,224)] (F:=[(217,false)]) (U:=[]) c0 d0 (.cons rfl .nil) .nil ?_
 dsimp only [aq,List.map]
 refine Rv 29 c0 rfl d0 (fun _=>Av rfl rfl)<|Rv 30 c0 rfl d0 (fun _=>Ai rfl)<|AH 274877906943 2 [(31,227),(32,228),(33,229),(34,230),(35,231),(36,232),(37,233)] (F:=[(226,false)]) (U:=[]) c0 d0 (.cons rfl .nil) .nil ?_
 dsimp only [aq,List.map]
 refine Rv 38 c0 rfl d0 (fun _=>Av rfl rfl)<|Rv 39 c0 rfl d0 (fun _=>AR rfl)<|AI (dk c0) ?_
 obtain ⟨P00,Q01⟩:=AL K0 .done
 exact V1 false P00 (Tt v2 (Tt V4 Q01)) h
 refine AH 1048575 20 [(13,209),(14,210),(15,211),(16,212),(17,213),(18,214),(19,215)] (F:=[(208,false)]) (U:=[]) c0 d0 (.cons rfl .nil) .nil ?_
 dsimp only [aq,List.map]
 refine Rv 20 c0 rfl d0 (fun _=>Av rfl rfl)<|Rv 21 c0 rfl d0 (fun _=>Ai rfl)<|AH 536870911 11 [(22,218),(23,219),(24,220),(25,221),(26,222),(27,223),(28,224)] (F:=[(217,false)]) (U:=[]) c0 d0 (.cons rfl .nil) .nil ?_
 dsimp only [aq,List.map]
 refine Rv 29 c0 rfl d0 (fun _=>Av rfl rfl)<|Rv 30 c0 rfl d0 (fun _=>Ai rfl)<|AH 274877906943 2 [(31,227),(32,228),(33,229),(34,230),(35,231),(36,232),(37,233)] (F:=[(226,false)]) (U:=[]) c0 d0 (.cons rfl .nil) .nil ?_
 dsimp only [aq,List.map]
 refine Rv 38 c0 rfl d0 (fun _=>Av rfl rfl)<|Rv 39 c0 rfl d0 (fun _=>AR rfl)<|AI (dk c0) ?_
 obtain ⟨Q00,R01⟩:=AL k1 .done
 exact V1 false Q00 (Tt v2 R01) h
 refine AH 2047 29 [(6,202),(7,203),(8,204),(9,205),(10,206)] (F:=[(201,false)]) (U:=[]) c0 d0 (.cons rfl .nil) .nil ?_
 dsimp only [aq,List.map]
 refine Rv 11 c0 rfl d0 (fun _=>Av rfl rfl)<|Rv 12 c0 rfl d0 (fun _=>Ai rfl)<|AH 1048575 20 [(13,209),(14,210),(15,211),(16,212),(17,213),(18,214),(19,215)] (F:=[(208,false)]) (U:=[]) c0 d0 (.cons rfl .nil) .nil ?_
 dsimp only [aq,List.map]
 refine Rv 20 c0 rfl d0 (fun _=>Av rfl rfl)<|Rv 21 c0 rfl d0 (fun _=>Ai rfl)<|AH 536870911 11 [(22,218),(23,219),(24,220),(25,221),(26,222),(27,223),(28,224)] (F:=[(217,false)]) (U:=[]) c0 d0 (.cons rfl .nil) .nil ?_
 dsimp only [aq,List.map]
 refine Rv 29 c0 rfl d0 (fun _=>Av rfl rfl)<|Rv 30 c0 rfl d0 (fun _=>Ai rfl)<|AH 274877906943 2 [(31,227),(32,228),(33,229),(34,230),(35,231),(36,232),(37,233)] (F:=[(226,false)]) (U:=[]) c0 d0 (.cons rfl .nil) .nil ?_
 dsimp only [aq,List.map]
 refine Rv 38 c0 rfl d0 (fun _=>Av rfl rfl)<|Rv 39 c0 rfl d0 (fun _=>AR rfl)<|AI (dk c0) ?_
 obtain ⟨R00,U01⟩:=AL M2 .done
 exact V1 false R00 U01 h
 refine AH 15 36 [(2,198),(3,199)] (F:=[(197,false)]) (U:=[]) c0 d0 (.cons rfl .nil) .nil ?_
 dsimp only [aq,List.map]
 refine Rv 4 c0 rfl d0 (fun _=>Av rfl rfl)<|Rv 5 c0 rfl d0 (fun _=>Ai rfl)<|AH 2047 29 [(6,202),(7,203),(8,204),(9,205),(10,206)] (F:=[(201,false)]) (U:=[]) c0 d0 (.cons rfl .nil) .nil ?_
 dsimp only [aq,List.map]
 refine Rv 11 c0 rfl d0 (fun _=>Av rfl rfl)<|Rv 12 c0 rfl d0 (fun _=>Ai rfl)<|AH 1048575 20 [(13,209),(14,210),(15,211),(16,212),(17,213),(18,214),(19,215)] (F:=[(208,false)]) (U:=[]) c0 d0 (.cons rfl .nil) .nil ?_
 dsimp only [aq,List.map]
 refine Rv 20 c0 rfl d0 (fun _=>Av rfl rfl)<|Rv 21 c0 rfl d0 (fun _=>Ai rfl)<|AH 536870911 11 [(22,218),(23,219),(24,220),(25,221),(26,222),(27,223),(28,224)] (F:=[(217,false)]) (U:=[]) c0 d0 (.cons rfl .nil) .nil ?_
 dsimp only [aq,List.map]
 refine Rv 29 c0 rfl d0 (fun _=>Av rfl rfl)<|Rv 30 c0 rfl d0 (fun _=>Ai rfl)<|AH 274877906943 2 [(31,227),(32,228),(33,229),(34,230),(35,231),(36,232),(37,233)] (F:=[(226,false)]) (U:=[]) c0 d0 (.cons rfl .nil) .nil ?_
 dsimp only [aq,List.map]
 refine Rv 38 c0 rfl d0 (fun _=>Av rfl rfl)<|Rv 39 c0 rfl d0 (fun _=>AR rfl)<|AI (dk c0) ?_
 obtain ⟨U00,V01⟩:=AL M2 .done
 exact V1 false U00 V01 h
 intro q5
 refine RD.each [12,15] (rk j0) ⟨?_,?_,trivial⟩
 refine RO.new (m' :=24575) (sk j0) rfl (.yes rfl rfl) rfl (jA ((-1:Int)) (vI (-1)) j1 cy (e1 rfl)) fun z6 Q0 W0 I4=>?_
 have W7:=jC ((-1:Int)) (vI (-1)) W0 L rfl
 refine RD.each [13,15] (rk j0) ⟨?_,?_,trivial⟩
 have p6:=Bd (α:=Int) W0 .hd W7 hL
 have z0:=Br W0 .hd
 have s3:=Bs W0 .hd
 have F3:=Bt (α:=Int) (v:=(vS Q0 1)) (xs:=([(-1:Int)]:List Int)) z0 L p6
 refine RO.call (m' :=32767) (fst:=[]) (cap:=[]) (sk j0) rfl (.yes rfl rfl) (bd 32) rfl (e1 rfl) (fun p q=>BE (aT_c n (z0.hL hL q) ([(-1:Int)]:List Int) (Am F3 q)) fun (w8:World) (u8:Value) ⟨b0_,hu_,s_⟩=>(⟨b0_,hu_,s_.from q⟩:∃ b1:Nat,u8 = Value.func (.func 81) #[] #[vP b1]/\St z6 w8 [.cells b1 [(vS Q0 1)] 38])) rfl fun q05 k05 E02 ⟨b1,v6,I3⟩=>?_
 subst v6
 have G00:=aX z0 I3
 have J4:=bD z0 I3
 refine RD.nu 15 65535 j0 rfl (.yes rfl rfl) rfl (jA ((0:Int)) (vI 0) G00 cU (e1 rfl)) fun A6 A2 X0 k2=>?_
 have D3:=jC ((0:Int)) (vI 0) X0 L rfl
 obtain ⟨V00,D7⟩:=AL X0 (.a0 (.a0 .d2))
 have v8:=Tt J4 (Tt k2 D7)
 exact q5 ((vS A2 1),[vI 0],(vS Q0 1),b1) V00 (Tt I4 (Tt s3 v8)) ⟨(AT D3 D7),(Aw F3 v8)⟩
 refine RO.new (m' :=57343) (sk j0) rfl (.yes rfl rfl) rfl (jA ((0:Int)) (vI 0) W0 cU (e1 rfl)) fun A6 A2 X0 k2=>?_
 have D3:=jC ((0:Int)) (vI 0) X0 L rfl
 have p6:=Bd (α:=Int) X0 .t1 (AT W7 k2) hL
 have z0:=Br X0 .t1
 have s3:=Bs X0 .t1
 have D8:=Bt (α:=Int) (v:=(vS Q0 1)) (xs:=([(-1:Int)]:List Int)) z0 L p6
 refine Bx 13 65535 j0 rfl (.yes rfl rfl) (bd 32) rfl (e1 rfl) (fun p q=>BE (aT_c n (z0.hL hL q) ([(-1:Int)]:List Int) (Am D8 q)) fun (w8:World) (u8:Value) ⟨b0_,hu_,s_⟩=>(⟨b0_,hu_,s_.from q⟩:∃ P3:Nat,u8 = Value.func (.func 81) #[] #[vP P3]/\St A6 w8 [.cells P3 [(vS Q0 1)] 38])) rfl fun J09 G08 d07 ⟨P3,B03,H8⟩=>?_
 subst B03
 have A7:=bD z0 H8
 obtain ⟨W00,E7⟩:=AL (aX z0 H8) (.a1 (.a0 .d2))
 have x8:=Tt s3 (Tt A7 E7)
 exact q5 ((vS A2 1),[vI 0],(vS Q0 1),P3) W00 (Tt I4 (Tt k2 x8)) ⟨(AT D3 x8),(Aw D8 (Tt A7 E7))⟩
 refine RO.new (m' :=53247) (sk j0) rfl (.yes rfl rfl) rfl (jA ((0:Int)) (vI 0) j1 cU (e1 rfl)) fun A6 A2 X0 k2=>?_
 have D3:=jC ((0:Int)) (vI 0) X0 L rfl
 refine RD.nu 12 57343 j0 rfl (.yes rfl rfl) rfl (jA ((-1:Int)) (vI (-1)) X0 cy (e1 rfl)) fun z6 Q0 W0 I4=>?_
 have z0:=Br W0 .hd
 have s3:=Bs W0 .hd
 have F3:=Bt (α:=Int) (v:=(vS Q0 1)) (xs:=([(-1:Int)]:List Int)) z0 L (Bd (α:=Int) W0 .hd (jC ((-1:Int)) (vI (-1)) W0 L rfl) hL)
 refine Bx 13 65535 j0 rfl (.yes rfl rfl) (bd 32) rfl (e1 rfl) (fun p q=>BE (aT_c n (z0.hL hL q) ([(-1:Int)]:List Int) (Am F3 q)) fun (w8:World) (u8:Value) ⟨b0_,hu_,s_⟩=>(⟨b0_,hu_,s_.from q⟩:∃ b1:Nat,u8 = Value.func (.func 81) #[] #[vP b1]/\St z6 w8 [.cells b1 [(vS Q0 1)] 38])) rfl fun q05 k05 E02 ⟨b1,v6,I3⟩=>?_
 subst v6
 have J4:=bD z0 I3
 obtain ⟨X00,F7⟩:=AL (aX z0 I3) (.a1 (.a0 .d2))
 have y8:=Tt I4 (Tt s3 (Tt J4 F7))
 exact q5 ((vS A2 1),[vI 0],(vS Q0 1),b1) X00 (Tt k2 y8) ⟨(AT D3 y8),(Aw F3 (Tt J4 F7))⟩
 refine AH 1048575 2 [(12,176),(13,177),(14,178),(15,179),(16,180),(17,181),(18,182),(19,183)] (F:=[(175,false)]) (U:=[]) j0 p0 (.cons rfl .nil) .nil ?_
 dsimp only [aq,List.map]
 refine Rv 20 j0 rfl p0 (fun _=>Av rfl rfl)<|Rv 21 j0 rfl p0 (fun _=>AR rfl)<|AI (dk j0)<|Ae<|Ab (AF (vs:=[vI 3,vI 1]) (u:=.agg #[vI 3,vI 1]) (e2 rfl rfl) (fun p=>by kernel_rfl))<|Ab (AF (vs:=[]) (u:=.agg #[vI 0,vI 0]) ae (fun p=>by kernel_rfl))<|Ab (AF (vs:=[vI 6,vI 2]) (u:=.agg #[vI 6,vI 2]) (e2 rfl rfl) (fun p=>by kernel_rfl))<|Ak .plain rfl (AK (α:=Int × Int) (xs:=([((3:Int),(1:Int)),((0:Int),(0:Int)),((6:Int),(2:Int))]:List (Int × Int))) (vs:=[.agg #[vI 3,vI 1],.agg #[vI 0,vI 0],.agg #[vI 6,vI 2]]) (ds' :=[vI 3,vI 1,vI 0,vI 0,vI 6,vI 2]) rfl j1 dP rfl (e3 rfl rfl rfl) (by kernel_rfl) rfl) fun t0a C9 C4 W01=>?_
 have Q2:=Br C4 .hd
 have X01:=Bs C4 .hd
 refine bk h fun x2 R04 h=>jE (bd 31) rfl (e1 rfl) (fun p q=>aH (b0:=w.heap.size) (aa_c n (Q2.hL hL q) (Am (Bt (α:=Int × Int) (v:=(vS C9 3)) (xs:=([((3:Int),(1:Int)),((0:Int),(0:Int)),((6:Int),(2:Int))]:List (Int × Int))) Q2 L (Bd (α:=Int × Int) C4 .hd (AD (cs:=[vI 3,vI 1,vI 0,vI 0,vI 6,vI 2]) (xs:=(([((3:Int),(1:Int)),((0:Int),(0:Int)),((6:Int),(2:Int))]:List (Int × Int)):List (Int × Int))) C4 L (Aj (cs:=[vI 3,vI 1]) (ds:=[vI 0,vI 0,vI 6,vI 2]) (az (3:Int) (1:Int)) (Aj (cs:=[vI 0,vI 0]) (ds:=[vI 6,vI 2]) (az (0:Int) (0:Int)) (Aj (cs:=[vI 6,vI 2]) (ds:=[]) (az (6:Int) (2:Int)) (AJ _ _))))) hL)) q) R04) q (Nat.le_trans Q2.ag.size q.size)) rfl fun u0a X08 x07 ⟨p9,v00,M03,W8,X02⟩=>?_
 subst M03
 have Z6:=aM Q2 W8
 refine RG.nl [vI 0,vI 0,vI 0,vN] Z6 fun v0a j06 b7 G7=>AQ [vI x2.fh,vI x2.fc,vI x2.fj,p9] b7 .hd (o4 rfl rfl rfl (St.o1 (α:=Tb) b7 .t1)) fun x0a D4 H7=>Aa<|Ae<|Ab (AE rfl (D4.memA .hd))<|Ac rfl ?_
 have H5:=Br D4 .t1
 refine bk h fun k0b U04 h=>jE (bd 16) rfl (e5 rfl rfl rfl rfl rfl) (fun p q=>aD_c n (H5.hL hL q) x2 (Am (Bt (α:=Tb) (v:=p9) (xs:=x2.fq) H5 L (Bd (α:=Tb) D4 .t1 (AT (AD (cs:=v00) (xs:=(x2.fq:List Tb)) Z6 L (aI X02)) (Tt G7 H7)) hL)) q) (Am (Aw x0 (Tt E3 (Tt x1 (Tt g2 (Tt j2 (Tt u3 (Tt v3 (Tt x3 (Tt p2 (Tt q2 (Tt s2 (Tt u2 (Tt J1 (Tt K1 (Tt Z1 (Tt G1 (Tt H1 (Tt b2 (Tt W01 (Tt X01 (Tt (bh Q2 W8) (Tt G7 (Tt H7 (Bs D4 .t1)))))))))))))))))))))))) q) U04) rfl fun y0a Y08 H02 ⟨u08,hu_,X07⟩=>?_
 subst hu_
 obtain ⟨Y00,J06⟩:=H5.agr H02
 refine Ac rfl<|Ab (Ag rfl rfl)<|Ab (Ag rfl rfl)<|Ah rfl<|Ah rfl<|Aa<|Al<|du 40 fun q0 u0=>Rv 0 q0 rfl u0 (fun _=>Ai rfl)<|Rv 1 q0 rfl u0 (fun _=>Ai rfl)<|AH 15 36 [(2,198),(3,199)] (F:=[(197,false)]) (U:=[]) q0 u0 (.cons rfl .nil) .nil ?_
 dsimp only [aq,List.map]
 refine Rv 4 q0 rfl u0 (fun _=>Av rfl rfl)<|Rv 5 q0 rfl u0 (fun _=>Ai rfl)<|AH 2047 29 [(6,202),(7,203),(8,204),(9,205),(10,206)] (F:=[(201,false)]) (U:=[]) q0 u0 (.cons rfl .nil) .nil ?_
 dsimp only [aq,List.map]
 refine Rv 11 q0 rfl u0 (fun _=>Av rfl rfl)<|Rv 12 q0 rfl u0 (fun _=>Ai rfl)<|AH 1048575 20 [(13,209),(14,210),(15,211),(16,212),(17,213),(18,214),(19,215)] (F:=[(208,false)]) (U:=[]) q0 u0 (.cons rfl .nil) .nil ?_
 dsimp only [aq,List.map]
 refine Rv 20 q0 rfl u0 (fun _=>Av rfl rfl)<|Rv 21 q0 rfl u0 (fun _=>Ai rfl)<|AH 536870911 11 [(22,218),(23,219),(24,220),(25,221),(26,222),(27,223),(28,224)] (F:=[(217,false)]) (U:=[]) q0 u0 (.cons rfl .nil) .nil ?_
 dsimp only [aq,List.map]
 refine Rv 29 q0 rfl u0 (fun _=>Av rfl rfl)<|Rv 30 q0 rfl u0 (fun _=>Ai rfl)<|AH 274877906943 2 [(31,227),(32,228),(33,229),(34,230),(35,231),(36,232),(37,233)] (F:=[(226,false)]) (U:=[]) q0 u0 (.cons rfl .nil) .nil ?_
 dsimp only [aq,List.map]
 refine Rv 38 q0 rfl u0 (fun _=>Av rfl rfl)<|Rv 39 q0 rfl u0 (fun _=>AR rfl)<|AI (dk q0)<|Ae<|Ab (AF (vs:=[vI 1,vI 3]) (u:=.agg #[vI 1,vI 3]) (e2 rfl rfl) (fun p=>by kernel_rfl))<|Ab (AF (vs:=[vI 2,vI 2]) (u:=.agg #[vI 2,vI 2]) (e2 rfl rfl) (fun p=>by kernel_rfl))<|Ab (AF (vs:=[vI 5,vI 5]) (u:=.agg #[vI 5,vI 5]) (e2 rfl rfl) (fun p=>by kernel_rfl))<|Ab (AF (vs:=[vI 7,vI 0]) (u:=.agg #[vI 7,vI 0]) (e2 rfl rfl) (fun p=>by kernel_rfl))<|Ak .plain rfl (AK (α:=Int × Int) (xs:=([((1:Int),(3:Int)),((2:Int),(2:Int)),((5:Int),(5:Int)),((7:Int),(0:Int))]:List (Int × Int))) (vs:=[.agg #[vI 1,vI 3],.agg #[vI 2,vI 2],.agg #[vI 5,vI 5],.agg #[vI 7,vI 0]]) (ds' :=[vI 1,vI 3,vI 2,vI 2,vI 5,vI 5,vI 7,vI 0]) rfl Y00 dP rfl (e4 rfl rfl rfl rfl) (by kernel_rfl) rfl) fun z0a D9 E4 K06=>?_
 have R2:=Br E4 .hd
 have M06:=Bs E4 .hd
 refine bk h fun j5 V04 h=>jE (bd 31) rfl (e1 rfl) (fun p q=>aH (b0:=w.heap.size) (aa_c n (R2.hL hL q) (Am (Bt (α:=Int × Int) (v:=(vS D9 4)) (xs:=([((1:Int),(3:Int)),((2:Int),(2:Int)),((5:Int),(5:Int)),((7:Int),(0:Int))]:List (Int × Int))) R2 L (Bd (α:=Int × Int) E4 .hd (AD (cs:=[vI 1,vI 3,vI 2,vI 2,vI 5,vI 5,vI 7,vI 0]) (xs:=(([((1:Int),(3:Int)),((2:Int),(2:Int)),((5:Int),(5:Int)),((7:Int),(0:Int))]:List (Int × Int)):List (Int × Int))) E4 L (Aj (cs:=[vI 1,vI 3]) (ds:=[vI 2,vI 2,vI 5,vI 5,vI 7,vI 0]) (az (1:Int) (3:Int)) (Aj (cs:=[vI 2,vI 2]) (ds:=[vI 5,vI 5,vI 7,vI 0]) (az (2:Int) (2:Int)) (Aj (cs:=[vI 5,vI 5]) (ds:=[vI 7,vI 0]) (az (5:Int) (5:Int)) (Aj (cs:=[vI 7,vI 0]) (ds:=[]) (az (7:Int) (0:Int)) (AJ _ _)))))) hL)) q) V04) q (Nat.le_trans R2.ag.size q.size)) rfl fun A0a Z08 y07 ⟨g05,x00,P03,X8,Z02⟩=>?_
 subst P03
 have c7:=aM R2 X8
 have P06:=bh R2 X8
 have D07:=AD (cs:=x00) (xs:=(j5.fq:List Tb)) c7 L (aI Z02)
 refine RG.nl [vI 0,vI 0,vI 0,vN] c7 fun B0a k06 d7 Q06=>AQ [vI j5.fh,vI j5.fc,vI j5.fj,g05] d7 .hd (o4 rfl rfl rfl (St.o1 (α:=Tb) d7 .t1)) fun C0a Z00 R06=>Aa<|Ae<|Ak .plain rfl (AK (α:=Int) (xs:=([(3:Int),(2:Int),(1:Int),(0:Int)]:List Int)) (vs:=[vI 3,vI 2,vI 1,vI 0]) (ds' :=[vI 3,vI 2,vI 1,vI 0]) rfl Z00 cU rfl (e4 rfl rfl rfl rfl) (by kernel_rfl) rfl) fun D0a p06 g7 U06=>?_
 have E07:=AD (cs:=[vI 3,vI 2,vI 1,vI 0]) (xs:=(([(3:Int),(2:Int),(1:Int),(0:Int)]:List Int):List Int)) g7 L (Aj (cs:=[vI 3]) (ds:=[vI 2,vI 1,vI 0]) rfl (Aj (cs:=[vI 2]) (ds:=[vI 1,vI 0]) rfl (Aj (cs:=[vI 1]) (ds:=[vI 0]) rfl (Aj (cs:=[vI 0]) (ds:=[]) rfl (AJ _ _)))))
 refine Ah rfl<|Aa<|Al<|du 31 fun C0 G0=>Rv 0 C0 rfl G0 (fun _=>Ai rfl)<|Bl 1 3 C0 rfl G0 (.yes rfl rfl) (fun _=>Ai rfl) rfl<|Rv 2 C0 rfl G0 (fun _=>Bp rfl rfl)<|Rv 3 C0 rfl G0 (fun _=>Ai rfl)<|AH 2047 20 [(4,246),(5,247),(6,248),(7,249),(8,250),(9,251),(10,252)] (F:=[(245,false)]) (U:=[]) C0 G0 (.cons rfl .nil) .nil ?_
 dsimp only [aq,List.map]
 refine Rv 11 C0 rfl G0 (fun _=>Av rfl rfl)<|Rv 12 C0 rfl G0 (fun _=>Ai rfl)<|AH 1048575 11 [(13,255),(14,256),(15,257),(16,258),(17,259),(18,260),(19,261)] (F:=[(254,false)]) (U:=[]) C0 G0 (.cons rfl .nil) .nil ?_
 dsimp only [aq,List.map]
 refine Rv 20 C0 rfl G0 (fun _=>Av rfl rfl)<|Rv 21 C0 rfl G0 (fun _=>Ai rfl)<|AH 536870911 2 [(22,264),(23,265),(24,266),(25,267),(26,268),(27,269),(28,270)] (F:=[(263,false)]) (U:=[]) C0 G0 (.cons rfl .nil) .nil ?_
 dsimp only [aq,List.map]
 refine Rv 29 C0 rfl G0 (fun _=>Av rfl rfl)<|Rv 30 C0 rfl G0 (fun _=>AR rfl)<|AI (dk C0)<|Ao rfl<|Bb hb0 func6 rfl rfl ?_
 cases h
 exact g7.gv
 intro s5
 refine RD.each [2,5] (rk j0) ⟨?_,?_,trivial⟩
 refine RO.new (m' :=23) (sk j0) rfl (.yes rfl rfl) rfl (jA ((0:Int)) (vI 0) I2 cy (e1 rfl)) fun B6 U0 Y0 W4=>?_
 have Y7:=jC ((0:Int)) (vI 0) Y0 L rfl
 refine RD.each [3,5] (rk j0) ⟨?_,?_,trivial⟩
 have s6:=Bd (α:=Int) Y0 .hd Y7 hL
 have A0:=Br Y0 .hd
 have B3:=Bs Y0 .hd
 have G3:=Bt (α:=Int) (v:=(vS U0 1)) (xs:=([(0:Int)]:List Int)) A0 L s6
 refine RO.call (m' :=31) (fst:=[]) (cap:=[]) (sk j0) rfl (.yes rfl rfl) (bd 32) rfl (e1 rfl) (fun p q=>BE (aT_c n (A0.hL hL q) ([(0:Int)]:List Int) (Am G3 q)) fun (w8:World) (u8:Value) ⟨b0_,hu_,s_⟩=>(⟨b0_,hu_,s_.from q⟩:∃ g1:Nat,u8 = Value.func (.func 81) #[] #[vP g1]/\St B6 w8 [.cells g1 [(vS U0 1)] 38])) rfl fun z05 p05 J02 ⟨g1,x6,J3⟩=>?_
 subst x6
 have D01:=aX A0 J3
 have X4:=bD A0 J3
 refine RD.nu 5 63 j0 rfl (.yes rfl rfl) rfl (jA ((0:Int)) (vI 0) D01 cU (e1 rfl)) fun y6 z2 V0 Y1=>?_
 have C3:=jC ((0:Int)) (vI 0) V0 L rfl
 obtain ⟨b01,I7⟩:=AL V0 (.a0 (.a0 (.a0 (.a0 .d1))))
 have z8:=Tt X4 (Tt Y1 I7)
 exact s5 ((vS z2 1),[vI 0],(vS U0 1),g1) b01 (Tt W4 (Tt B3 z8)) ⟨(AT C3 I7),(Aw G3 z8)⟩
 refine RO.new (m' :=55) (sk j0) rfl (.yes rfl rfl) rfl (jA ((0:Int)) (vI 0) Y0 cU (e1 rfl)) fun y6 z2 V0 Y1=>?_
 have C3:=jC ((0:Int)) (vI 0) V0 L rfl
 have s6:=Bd (α:=Int) V0 .t1 (AT Y7 Y1) hL
 have A0:=Br V0 .t1
 have B3:=Bs V0 .t1
 have F8:=Bt (α:=Int) (v:=(vS U0 1)) (xs:=([(0:Int)]:List Int)) A0 L s6
 refine Bx 3 63 j0 rfl (.yes rfl rfl) (bd 32) rfl (e1 rfl) (fun p q=>BE (aT_c n (A0.hL hL q) ([(0:Int)]:List Int) (Am F8 q)) fun (w8:World) (u8:Value) ⟨b0_,hu_,s_⟩=>(⟨b0_,hu_,s_.from q⟩:∃ k4:Nat,u8 = Value.func (.func 81) #[] #[vP k4]/\St y6 w8 [.cells k4 [(vS U0 1)] 38])) rfl fun b0b j09 C07 ⟨k4,V03,c9⟩=>?_
 subst V03
 have V7:=bD A0 c9
 obtain ⟨c01,J7⟩:=AL (aX A0 c9) (.a1 (.a0 (.a0 (.a0 .d1))))
 have A8:=Tt B3 (Tt V7 J7)
 exact s5 ((vS z2 1),[vI 0],(vS U0 1),k4) c01 (Tt W4 (Tt Y1 A8)) ⟨(AT C3 A8),(Aw F8 (Tt V7 J7))⟩
 refine RO.new (m' :=51) (sk j0) rfl (.yes rfl rfl) rfl (jA ((0:Int)) (vI 0) I2 cU (e1 rfl)) fun y6 z2 V0 Y1=>?_
 have C3:=jC ((0:Int)) (vI 0) V0 L rfl
 refine RD.nu 2 55 j0 rfl (.yes rfl rfl) rfl (jA ((0:Int)) (vI 0) V0 cy (e1 rfl)) fun B6 U0 Y0 W4=>?_
 have A0:=Br Y0 .hd
 have B3:=Bs Y0 .hd
 have G3:=Bt (α:=Int) (v:=(vS U0 1)) (xs:=([(0:Int)]:List Int)) A0 L (Bd (α:=Int) Y0 .hd (jC ((0:Int)) (vI 0) Y0 L rfl) hL)
 refine Bx 3 63 j0 rfl (.yes rfl rfl) (bd 32) rfl (e1 rfl) (fun p q=>BE (aT_c n (A0.hL hL q) ([(0:Int)]:List Int) (Am G3 q)) fun (w8:World) (u8:Value) ⟨b0_,hu_,s_⟩=>(⟨b0_,hu_,s_.from q⟩:∃ g1:Nat,u8 = Value.func (.func 81) #[] #[vP g1]/\St B6 w8 [.cells g1 [(vS U0 1)] 38])) rfl fun z05 p05 J02 ⟨g1,x6,J3⟩=>?_
 subst x6
 have X4:=bD A0 J3
 obtain ⟨d01,K7⟩:=AL (aX A0 J3) (.a1 (.a0 (.a0 (.a0 .d1))))
 have B8:=Tt W4 (Tt B3 (Tt X4 K7))
 exact s5 ((vS z2 1),[vI 0],(vS U0 1),g1) d01 (Tt Y1 B8) ⟨(AT C3 B8),(Aw G3 (Tt X4 K7))⟩
 refine AH 1023 12 [(2,166),(3,167),(4,168),(5,169),(6,170),(7,171),(8,172),(9,173)] (F:=[(165,false)]) (U:=[]) j0 p0 (.cons rfl .nil) .nil ?_
 dsimp only [aq,List.map]
 refine Rv 10 j0 rfl p0 (fun _=>Av rfl rfl)<|Rv 11 j0 rfl p0 (fun _=>Ai rfl)<|AH 1048575 2 [(12,176),(13,177),(14,178),(15,179),(16,180),(17,181),(18,182),(19,183)] (F:=[(175,false)]) (U:=[]) j0 p0 (.cons rfl .nil) .nil ?_
 dsimp only [aq,List.map]
 refine Rv 20 j0 rfl p0 (fun _=>Av rfl rfl)<|Rv 21 j0 rfl p0 (fun _=>AR rfl)<|AI (dk j0)<|Ae<|Ab (AF (vs:=[vI 3,vI 1]) (u:=.agg #[vI 3,vI 1]) (e2 rfl rfl) (fun p=>by kernel_rfl))<|Ab (AF (vs:=[]) (u:=.agg #[vI 0,vI 0]) ae (fun p=>by kernel_rfl))<|Ab (AF (vs:=[vI 6,vI 2]) (u:=.agg #[vI 6,vI 2]) (e2 rfl rfl) (fun p=>by kernel_rfl))<|Ak .plain rfl (AK (α:=Int × Int) (xs:=([((3:Int),(1:Int)),((0:Int),(0:Int)),((6:Int),(2:Int))]:List (Int × Int))) (vs:=[.agg #[vI 3,vI 1],.agg #[vI 0,vI 0],.agg #[vI 6,vI 2]]) (ds' :=[vI 3,vI 1,vI 0,vI 0,vI 6,vI 2]) rfl I2 dP rfl (e3 rfl rfl rfl) (by kernel_rfl) rfl) fun E0a E9 F4 Y01=>?_
 have U2:=Br F4 .hd
 have Z01:=Bs F4 .hd
 refine bk h fun y2 W04 h=>jE (bd 31) rfl (e1 rfl) (fun p q=>aH (b0:=w.heap.size) (aa_c n (U2.hL hL q) (Am (Bt (α:=Int × Int) (v:=(vS E9 3)) (xs:=([((3:Int),(1:Int)),((0:Int),(0:Int)),((6:Int),(2:Int))]:List (Int × Int))) U2 L (Bd (α:=Int × Int) F4 .hd (AD (cs:=[vI 3,vI 1,vI 0,vI 0,vI 6,vI 2]) (xs:=(([((3:Int),(1:Int)),((0:Int),(0:Int)),((6:Int),(2:Int))]:List (Int × Int)):List (Int × Int))) F4 L (Aj (cs:=[vI 3,vI 1]) (ds:=[vI 0,vI 0,vI 6,vI 2]) (az (3:Int) (1:Int)) (Aj (cs:=[vI 0,vI 0]) (ds:=[vI 6,vI 2]) (az (0:Int) (0:Int)) (Aj (cs:=[vI 6,vI 2]) (ds:=[]) (az (6:Int) (2:Int)) (AJ _ _))))) hL)) q) W04) q (Nat.le_trans U2.ag.size q.size)) rfl fun F0a b09 z07 ⟨q9,y00,Q03,Y8,b03⟩=>?_
 subst Q03
 have j7:=aM U2 Y8
 refine RG.nl [vI 0,vI 0,vI 0,vN] j7 fun G0a q06 k7 M7=>AQ [vI y2.fh,vI y2.fc,vI y2.fj,q9] k7 .hd (o4 rfl rfl rfl (St.o1 (α:=Tb) k7 .t1)) fun H0a G4 P7=>Aa<|Ae<|Ab (AE rfl (G4.memA .hd))<|Ac rfl ?_
 have I5:=Br G4 .t1
 refine bk h fun p0b X04 h=>jE (bd 16) rfl (e5 rfl rfl rfl rfl rfl) (fun p q=>aD_c n (I5.hL hL q) y2 (Am (Bt (α:=Tb) (v:=q9) (xs:=y2.fq) I5 L (Bd (α:=Tb) G4 .t1 (AT (AD (cs:=y00) (xs:=(y2.fq:List Tb)) j7 L (aI b03)) (Tt M7 P7)) hL)) q) (Am (Aw x0 (Tt E3 (Tt x1 (Tt g2 (Tt j2 (Tt u3 (Tt v3 (Tt x3 (Tt p2 (Tt q2 (Tt s2 (Tt u2 (Tt J1 (Tt K1 (Tt Y01 (Tt Z01 (Tt (bh U2 Y8) (Tt M7 (Tt P7 (Bs G4 .t1)))))))))))))))))))) q) X04) rfl fun I0a c09 I02 ⟨v08,hu_,Y07⟩=>?_
 subst hu_
 obtain ⟨g01,V06⟩:=I5.agr I02
 refine Ac rfl<|Ab (Ag rfl rfl)<|Ab (Ag rfl rfl)<|Ah rfl<|Ah rfl<|Aa<|Al<|du 40 fun s0 v0=>Rv 0 s0 rfl v0 (fun _=>Ai rfl)<|Rv 1 s0 rfl v0 (fun _=>Ai rfl)<|AH 15 36 [(2,198),(3,199)] (F:=[(197,false)]) (U:=[]) s0 v0 (.cons rfl .nil) .nil ?_
 dsimp only [aq,List.map]
 refine Rv 4 s0 rfl v0 (fun _=>Av rfl rfl)<|Rv 5 s0 rfl v0 (fun _=>Ai rfl)<|AH 2047 29 [(6,202),(7,203),(8,204),(9,205),(10,206)] (F:=[(201,false)]) (U:=[]) s0 v0 (.cons rfl .nil) .nil ?_
 dsimp only [aq,List.map]
 refine Rv 11 s0 rfl v0 (fun _=>Av rfl rfl)<|Rv 12 s0 rfl v0 (fun _=>Ai rfl)<|AH 1048575 20 [(13,209),(14,210),(15,211),(16,212),(17,213),(18,214),(19,215)] (F:=[(208,false)]) (U:=[]) s0 v0 (.cons rfl .nil) .nil ?_
 dsimp only [aq,List.map]
 refine Rv 20 s0 rfl v0 (fun _=>Av rfl rfl)<|Rv 21 s0 rfl v0 (fun _=>Ai rfl)<|AH 536870911 11 [(22,218),(23,219),(24,220),(25,221),(26,222),(27,223),(28,224)] (F:=[(217,false)]) (U:=[]) s0 v0 (.cons rfl .nil) .nil ?_
 dsimp only [aq,List.map]
 refine Rv 29 s0 rfl v0 (fun _=>Av rfl rfl)<|Rv 30 s0 rfl v0 (fun _=>Ai rfl)<|AH 274877906943 2 [(31,227),(32,228),(33,229),(34,230),(35,231),(36,232),(37,233)] (F:=[(226,false)]) (U:=[]) s0 v0 (.cons rfl .nil) .nil ?_
 dsimp only [aq,List.map]
 refine Rv 38 s0 rfl v0 (fun _=>Av rfl rfl)<|Rv 39 s0 rfl v0 (fun _=>AR rfl)<|AI (dk s0)<|Ae<|Ab (AF (vs:=[vI 1,vI 3]) (u:=.agg #[vI 1,vI 3]) (e2 rfl rfl) (fun p=>by kernel_rfl))<|Ab (AF (vs:=[vI 2,vI 2]) (u:=.agg #[vI 2,vI 2]) (e2 rfl rfl) (fun p=>by kernel_rfl))<|Ab (AF (vs:=[vI 5,vI 5]) (u:=.agg #[vI 5,vI 5]) (e2 rfl rfl) (fun p=>by kernel_rfl))<|Ab (AF (vs:=[vI 7,vI 0]) (u:=.agg #[vI 7,vI 0]) (e2 rfl rfl) (fun p=>by kernel_rfl))<|Ak .plain rfl (AK (α:=Int × Int) (xs:=([((1:Int),(3:Int)),((2:Int),(2:Int)),((5:Int),(5:Int)),((7:Int),(0:Int))]:List (Int × Int))) (vs:=[.agg #[vI 1,vI 3],.agg #[vI 2,vI 2],.agg #[vI 5,vI 5],.agg #[vI 7,vI 0]]) (ds' :=[vI 1,vI 3,vI 2,vI 2,vI 5,vI 5,vI 7,vI 0]) rfl g01 dP rfl (e4 rfl rfl rfl rfl) (by kernel_rfl) rfl) fun J0a F9 H4 W06=>?_
 have V2:=Br H4 .hd
 have X06:=Bs H4 .hd
 refine bk h fun k5 Y04 h=>jE (bd 31) rfl (e1 rfl) (fun p q=>aH (b0:=w.heap.size) (aa_c n (V2.hL hL q) (Am (Bt (α:=Int × Int) (v:=(vS F9 4)) (xs:=([((1:Int),(3:Int)),((2:Int),(2:Int)),((5:Int),(5:Int)),((7:Int),(0:Int))]:List (Int × Int))) V2 L (Bd (α:=Int × Int) H4 .hd (AD (cs:=[vI 1,vI 3,vI 2,vI 2,vI 5,vI 5,vI 7,vI 0]) (xs:=(([((1:Int),(3:Int)),((2:Int),(2:Int)),((5:Int),(5:Int)),((7:Int),(0:Int))]:List (Int × Int)):List (Int × Int))) H4 L (Aj (cs:=[vI 1,vI 3]) (ds:=[vI 2,vI 2,vI 5,vI 5,vI 7,vI 0]) (az (1:Int) (3:Int)) (Aj (cs:=[vI 2,vI 2]) (ds:=[vI 5,vI 5,vI 7,vI 0]) (az (2:Int) (2:Int)) (Aj (cs:=[vI 5,vI 5]) (ds:=[vI 7,vI 0]) (az (5:Int) (5:Int)) (Aj (cs:=[vI 7,vI 0]) (ds:=[]) (az (7:Int) (0:Int)) (AJ _ _)))))) hL)) q) Y04) q (Nat.le_trans V2.ag.size q.size)) rfl fun K0a d09 A07 ⟨j05,z00,R03,Z8,c03⟩=>?_
 subst R03
 have p7:=aM V2 Z8
 have Y06:=bh V2 Z8
 have F07:=AD (cs:=z00) (xs:=(k5.fq:List Tb)) p7 L (aI c03)
 refine RG.nl [vI 0,vI 0,vI 0,vN] p7 fun M0a s06 q7 Z06=>AQ [vI k5.fh,vI k5.fc,vI k5.fj,j05] q7 .hd (o4 rfl rfl rfl (St.o1 (α:=Tb) q7 .t1)) fun P0a j01 b07=>Aa<|Ae<|Ak .plain rfl (AK (α:=Int) (xs:=([(3:Int),(2:Int),(1:Int),(0:Int)]:List Int)) (vs:=[vI 3,vI 2,vI 1,vI 0]) (ds' :=[vI 3,vI 2,vI 1,vI 0]) rfl j01 cU rfl (e4 rfl rfl rfl rfl) (by kernel_rfl) rfl) fun Q0a t06 s7 c07=>?_
 have G07:=AD (cs:=[vI 3,vI 2,vI 1,vI 0]) (xs:=(([(3:Int),(2:Int),(1:Int),(0:Int)]:List Int):List Int)) s7 L (Aj (cs:=[vI 3]) (ds:=[vI 2,vI 1,vI 0]) rfl (Aj (cs:=[vI 2]) (ds:=[vI 1,vI 0]) rfl (Aj (cs:=[vI 1]) (ds:=[vI 0]) rfl (Aj (cs:=[vI 0]) (ds:=[]) rfl (AJ _ _)))))
 refine Ah rfl<|Aa<|Al<|du 31 fun D0 H0=>Rv 0 D0 rfl H0 (fun _=>Ai rfl)<|Bl 1 3 D0 rfl H0 (.yes rfl rfl) (fun _=>Ai rfl) rfl<|Rv 2 D0 rfl H0 (fun _=>Bp rfl rfl)<|Rv 3 D0 rfl H0 (fun _=>Ai rfl)<|AH 2047 20 [(4,246),(5,247),(6,248),(7,249),(8,250),(9,251),(10,252)] (F:=[(245,false)]) (U:=[]) D0 H0 (.cons rfl .nil) .nil ?_
 dsimp only [aq,List.map]
 refine Rv 11 D0 rfl H0 (fun _=>Av rfl rfl)<|Rv 12 D0 rfl H0 (fun _=>Ai rfl)<|AH 1048575 11 [(13,255),(14,256),(15,257),(16,258),(17,259),(18,260),(19,261)] (F:=[(254,false)]) (U:=[]) D0 H0 (.cons rfl .nil) .nil ?_
 dsimp only [aq,List.map]
 refine Rv 20 D0 rfl H0 (fun _=>Av rfl rfl)<|Rv 21 D0 rfl H0 (fun _=>Ai rfl)<|AH 536870911 2 [(22,264),(23,265),(24,266),(25,267),(26,268),(27,269),(28,270)] (F:=[(263,false)]) (U:=[]) D0 H0 (.cons rfl .nil) .nil ?_
 dsimp only [aq,List.map]
 refine Rv 29 D0 rfl H0 (fun _=>Av rfl rfl)<|Rv 30 D0 rfl H0 (fun _=>AR rfl)<|AI (dk D0)<|Ao rfl<|Bb hb0 func6 rfl rfl ?_
 cases h
 exact s7.gv
 intro Q05 F0 h
 try dsimp only at h
 refine Aq<|Ac rfl<|Ak .plain rfl (AK (α:=Int) (xs:=([(0:Int),(0:Int)]:List Int)) (vs:=[vI 0,vI 0]) (ds' :=[vI 0,vI 0]) rfl M6 cy rfl (e2 rfl rfl) (by kernel_rfl) rfl) fun R0a u06 t0 B0=>bk h fun P05 Z04 h=>Bc (.bool P05) (bd 28) rfl (e2 rfl rfl) (fun p q=>ap_c n (t0.hL0 hL q) (t0.kd (Aw t03 (Tt Y2 (Tt Z2 (Tt F1 (Tt b3 (Tt c3 (Tt d3 (Tt g3 (Tt j3 (Tt k3 (Tt I1 (Tt p3 (Tt q3 (Tt x1 (Tt g2 (Tt j2 B0)))))))))))))))) q) (Am (St.lend (α:=Int) (L:=L) t0 .hd (AD (cs:=[vI 0,vI 0]) (xs:=(([(0:Int),(0:Int)]:List Int):List Int)) t0 L (Aj (cs:=[vI 0]) (ds:=[vI 0]) rfl (Aj (cs:=[vI 0]) (ds:=[]) rfl (AJ _ _)))) hL) q) Z04) rfl<|Ac rfl<|RG.ifb (s:=109) rfl h (fun W9 h=>?_) (fun W9 h=>?_)
 refine AW (Ai rfl)<|AW (FV.eql (i:=u9.2.1) (j:=3) rfl rfl)<|RG.pt rfl rfl<|Ac rfl<|RG.ifd (s:=113) rfl h (fun X9 h=>?_) (fun X9 h=>?_)
 refine AW (Ai rfl)<|AW (FV.eql (i:=u9.2.2) (j:=0) rfl rfl)<|RG.pt rfl rfl<|Ac rfl<|RG.ifd (s:=117) rfl h (fun Y9 h=>?_) (fun Y9 h=>?_)
 refine AW (Ai rfl)<|AW (FV.neq (i:=v9.2) (j:=0) rfl rfl)<|RG.pt rfl rfl<|Ac rfl<|RG.ifn (s:=121) rfl h (fun Z9 h=>?_) (fun Z9 h=>?_)
 refine Au<|Au<|Ba rfl rfl<|Ac rfl<|Au<|Au<|Ba rfl rfl<|Ac rfl<|Au<|Au<|Ba rfl rfl<|Ac rfl<|Au<|Au<|Ba rfl rfl<|Ac rfl<|Au<|Au<|Ba rfl rfl<|Ac rfl<|Au<|Au<|Ba rfl rfl<|Ac rfl<|Au<|Au<|Ba rfl rfl<|Ac rfl<|Au<|Au<|Ba rfl rfl<|Ac rfl<|Au<|Au<|Ba rfl rfl<|Ah rfl<|Aa ?_
 obtain ⟨k01,b02⟩:=AL t0 .done
 exact F0 false k01 (Tt B0 b02) h
 refine AW (Ai rfl)<|AW (FV.neq (i:=v9.2) (j:=2) rfl rfl)<|RG.pt rfl rfl<|Ac rfl<|RG.ifn (s:=125) rfl h (fun b00 h=>?_) (fun b00 h=>?_)
 refine Au<|Au<|Ba rfl rfl<|Ac rfl<|Au<|Au<|Ba rfl rfl<|Ac rfl<|Au<|Au<|Ba rfl rfl<|Ac rfl<|Au<|Au<|Ba rfl rfl<|Ac rfl<|Au<|Au<|Ba rfl rfl<|Ac rfl<|Au<|Au<|Ba rfl rfl<|Ac rfl<|Au<|Au<|Ba rfl rfl<|Ac rfl<|Au<|Au<|Ba rfl rfl<|Ah rfl<|Aa ?_
 obtain ⟨p01,c02⟩:=AL t0 .done
 exact F0 false p01 (Tt B0 c02) h
 refine AW (Ai rfl)<|AW (FV.eql (i:=A05.2) (j:=2) rfl rfl)<|RG.pt rfl rfl<|Ac rfl<|RG.ifd (s:=129) rfl h (fun c00 h=>?_) (fun c00 h=>?_)
 refine AW (Ai rfl)<|AW (FV.eql (i:=b5.2) (j:=220) rfl rfl)<|RG.pt rfl rfl<|Ac rfl<|RG.ifd (s:=133) rfl h (fun d00 h=>?_) (fun d00 h=>?_)
 refine AW (Ai rfl)<|AW (FV.eql (i:=c5.2) (j:=7) rfl rfl)<|RG.pt rfl rfl<|Ac rfl<|RG.ifd (s:=137) rfl h (fun g00 h=>?_) (fun g00 h=>?_)
 refine AW (Ai rfl)<|AW (FV.eql (i:=d5.2) (j:=7) rfl rfl)<|RG.pt rfl rfl<|Ac rfl<|RG.ifd (s:=141) rfl h (fun j00 h=>?_) (fun j00 h=>?_)
 refine AW (Ai rfl)<|AW (FV.eql (i:=C05.2) (j:=2) rfl rfl)<|RG.pt rfl rfl<|Ac rfl<|RG.ifd (s:=145) rfl h (fun k00 h=>?_) (fun k00 h=>?_)
 refine AW (Ai rfl)<|AW (FV.eql (i:=g5.2) (j:=2) rfl rfl)<|RG.pt rfl rfl<|Ac rfl<|RG.ifd (s:=149) rfl h (fun p00 h=>?_) (fun p00 h=>?_)
 refine AW (Ai rfl)<|AW (FV.eql (i:=D05.2) (j:=7) rfl rfl)<|RG.pt rfl rfl<|Ac rfl<|RG.ifd (s:=153) rfl h (fun q00 h=>?_) (fun q00 h=>?_)
 refine AW (Ai rfl)<|AW (FV.eql (i:=K3.2) (j:=7) rfl rfl)<|RG.pt rfl rfl<|Ah rfl<|Aa ?_
 obtain ⟨q01,d02⟩:=AL t0 .done
 exact F0 (decide (K3.2 = 7)) q01 (Tt B0 d02) h
 refine Au<|Au<|Ba rfl rfl<|Ah rfl<|Aa ?_
 obtain ⟨s01,g02⟩:=AL t0 .done
 exact F0 false s01 (Tt B0 g02) h
 refine Au<|Au<|Ba rfl rfl<|Ac rfl<|Au<|Au<|Ba rfl rfl<|Ah rfl<|Aa ?_
 obtain ⟨t01,j02⟩:=AL t0 .done
 exact F0 false t01 (Tt B0 j02) h
 refine Au<|Au<|Ba rfl rfl<|Ac rfl<|Au<|Au<|Ba rfl rfl<|Ac rfl<|Au<|Au<|Ba rfl rfl<|Ah rfl<|Aa ?_
 obtain ⟨u01,k02⟩:=AL t0 .done
 exact F0 false u01 (Tt B0 k02) h
 refine Au<|Au<|Ba rfl rfl<|Ac rfl<|Au<|Au<|Ba rfl rfl<|Ac rfl<|Au<|Au<|Ba rfl rfl<|Ac rfl<|Au<|Au<|Ba rfl rfl<|Ah rfl<|Aa ?_
 obtain ⟨v01,p02⟩:=AL t0 .done
 exact F0 false v01 (Tt B0 p02) h
 refine Au<|Au<|Ba rfl rfl<|Ac rfl<|Au<|Au<|Ba rfl rfl<|Ac rfl<|Au<|Au<|Ba rfl rfl<|Ac rfl<|Au<|Au<|Ba rfl rfl<|Ac rfl<|Au<|Au<|Ba rfl rfl<|Ah rfl<|Aa ?_
 obtain ⟨x01,q02⟩:=AL t0 .done
 exact F0 false x01 (Tt B0 q02) h
 refine Au<|Au<|Ba rfl rfl<|Ac rfl<|Au<|Au<|Ba rfl rfl<|Ac rfl<|Au<|Au<|Ba rfl rfl<|Ac rfl<|Au<|Au<|Ba rfl rfl<|Ac rfl<|Au<|Au<|Ba rfl rfl<|Ac rfl<|Au<|Au<|Ba rfl rfl<|Ah rfl<|Aa ?_
 obtain ⟨y01,s02⟩:=AL t0 .done
 exact F0 false y01 (Tt B0 s02) h
 refine Au<|Au<|Ba rfl rfl<|Ac rfl<|Au<|Au<|Ba rfl rfl<|Ac rfl<|Au<|Au<|Ba rfl rfl<|Ac rfl<|Au<|Au<|Ba rfl rfl<|Ac rfl<|Au<|Au<|Ba rfl rfl<|Ac rfl<|Au<|Au<|Ba rfl rfl<|Ac rfl<|Au<|Au<|Ba rfl rfl<|Ah rfl<|Aa ?_
 obtain ⟨z01,t02⟩:=AL t0 .done
 exact F0 false z01 (Tt B0 t02) h
 refine Au<|Au<|Ba rfl rfl<|Ac rfl<|Au<|Au<|Ba rfl rfl<|Ac rfl<|Au<|Au<|Ba rfl rfl<|Ac rfl<|Au<|Au<|Ba rfl rfl<|Ac rfl<|Au<|Au<|Ba rfl rfl<|Ac rfl<|Au<|Au<|Ba rfl rfl<|Ac rfl<|Au<|Au<|Ba rfl rfl<|Ac rfl<|Au<|Au<|Ba rfl rfl<|Ac rfl<|Au<|Au<|Ba rfl rfl<|Ac rfl<|Au<|Au<|Ba rfl rfl<|Ah rfl<|Aa ?_
 obtain ⟨A01,u02⟩:=AL t0 .done
 exact F0 false A01 (Tt B0 u02) h
 refine Au<|Au<|Ba rfl rfl<|Ac rfl<|Au<|Au<|Ba rfl rfl<|Ac rfl<|Au<|Au<|Ba rfl rfl<|Ac rfl<|Au<|Au<|Ba rfl rfl<|Ac rfl<|Au<|Au<|Ba rfl rfl<|Ac rfl<|Au<|Au<|Ba rfl rfl<|Ac rfl<|Au<|Au<|Ba rfl rfl<|Ac rfl<|Au<|Au<|Ba rfl rfl<|Ac rfl<|Au<|Au<|Ba rfl rfl<|Ac rfl<|Au<|Au<|Ba rfl rfl<|Ac rfl<|Au<|Au<|Ba rfl rfl<|Ah rfl<|Aa ?_
 obtain ⟨B01,v02⟩:=AL t0 .done
 exact F0 false B01 (Tt B0 v02) h
 refine Au<|Au<|Ba rfl rfl<|Ac rfl<|Au<|Au<|Ba rfl rfl<|Ac rfl<|Au<|Au<|Ba rfl rfl<|Ac rfl<|Au<|Au<|Ba rfl rfl<|Ac rfl<|Au<|Au<|Ba rfl rfl<|Ac rfl<|Au<|Au<|Ba rfl rfl<|Ac rfl<|Au<|Au<|Ba rfl rfl<|Ac rfl<|Au<|Au<|Ba rfl rfl<|Ac rfl<|Au<|Au<|Ba rfl rfl<|Ac rfl<|Au<|Au<|Ba rfl rfl<|Ac rfl<|Au<|Au<|Ba rfl rfl<|Ac rfl<|Au<|Au<|Ba rfl rfl<|Ah rfl<|Aa ?_
 obtain ⟨C01,x02⟩:=AL t0 .done
 exact F0 false C01 (Tt B0 x02) h
 refine Ae<|Ah rfl<|Aa<|Ao rfl<|Bb hb0 func6 rfl rfl ?_
 cases h
 exact hS0.gv
end Go.Proofs.YtibdeoeglcngoaaGreatDoor
