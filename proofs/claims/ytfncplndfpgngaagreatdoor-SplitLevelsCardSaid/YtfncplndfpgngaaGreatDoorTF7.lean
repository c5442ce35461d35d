/- Functions of the program, and what they give: part 7. -/
import Derived.Test.YtfncplndfpgngaaGreatDoorTF6
namespace Go.Proofs.YtfncplndfpgngaaGreatDoor
open Go Go.RowKit
set_option maxRecDepth 4000
set_option maxHeartbeats 4000000

def tb6_4:List (Nat × Nat × Nat):=[(0,70368744177664,8192),(0,140737488355328,128),(2,281474976710656,140737488355328),(0,562949953421312,256),(0,1125899906842624,8192),(28,2251799813685248,1688849860263936),(0,4503599627370496,0),(101,9007199254740992,7107243161944064),(0,18014398509481984,0)]
theorem body27:bodyB Tryz.prog 27 = true:=by kernel_rfl
theorem body28:bodyB Tryz.prog 28 = true:=by kernel_rfl
theorem body30:bodyB Tryz.prog 30 = true:=by kernel_rfl
theorem body31:bodyB Tryz.prog 31 = true:=by kernel_rfl
theorem body32:bodyB Tryz.prog 32 = true:=by kernel_rfl
def wardmotelaw23_SplitLevels_l1 (n:Nat) (a5:UInt16) (a4:Int) (a3:Int) (d0:TRoll) (x0:Nat → Option ((Bool ⊕ Unit) ⊕ Unit)):Nat → Option ((Bool ⊕ Unit) ⊕ Unit)
  | g0=>(if g0 < 3 then (([((0:Int),((a5.toNat:Nat):Int)),((1:Int),a4),(a3,(0:Int))]:List (Int × Int))[g0]?).bind fun b0=>(split_Parents_p n d0 b0.1).bind fun j0=>(wardmoteref23_Parents_p n d0 b0.1).bind fun k0=>(split_People_p n d0 b0.1).bind fun p0=>(wardmoteref23_People_p n d0 b0.1).bind fun q0=>(split_Forced_p n d0 b0.1 b0.2).bind fun s0=>(wardmoteref23_Forced_p n d0 b0.1 b0.2).bind fun t0=>(split_Nested_p n d0 b0.1 (1:Int)).bind fun u0=>(wardmoteref23_Nested_p n d0 b0.1 (1:Int)).bind fun v0=>jn (fun y0=>(if y0 = true then some (.inl (.inl false)) else x0 (g0 + 1))) (fun c0=>(slices_Equal_int_int_p n j0.1 k0.1).bind fun z0=>(if z0 = true then (if j0.2 = k0.2 then (slices_Equal_int_int_p n p0.1 q0.1).bind fun A0=>(if A0 = true then (if p0.2 = q0.2 then (slices_Equal_int_int_p n s0.1 t0.1).bind fun B0=>(if B0 = true then (if s0.2 = t0.2 then (if (u0.1 == v0.1) = true then c0 (!(decide (u0.2 = v0.2))) else c0 true) else c0 true) else c0 true) else c0 true) else c0 true) else c0 true) else c0 true)) else some (.inr ()))
def wardmotelaw23_SplitLevels_l2 (n:Nat) (k0:TRoll) (p0:TRoll) (q0:TRoll) (a5:UInt16) (a4:Int) (a3:Int) (j0:Nat → Option (Bool ⊕ Unit)):Nat → Option (Bool ⊕ Unit)
  | b0=>(if b0 < 4 then (([k0,p0,q0,(⟨(0:Int),(0:Int),(0:Int),([]:List TUnit)⟩:TRoll)]:List TRoll)[b0]?).bind fun c0=>thn (loopF (wardmotelaw23_SplitLevels_l1 n a5 a4 a3 c0) n 0) (fun _=>(split_Nested_p n c0 (0:Int) a3).bind fun d0=>(wardmoteref23_Nested_p n c0 (0:Int) a3).bind fun g0=>(if (d0.1 == g0.1) = true then (if d0.2 = g0.2 then j0 (b0 + 1) else some (.inl false)) else some (.inl false))) else some (.inr ()))
def wardmotelaw23_SplitLevels_p (n:Nat) (a0:UInt8) (a1:TDraft26) (a2:TBend) (a3:Int) (a4:Int) (a5:UInt16):Option Bool:=
  (wardmotelaw23_works_p n).bind fun c0=>(if c0 = true then (wardmoteref22_Draft_Full_p n a1 ((1 + ((a0 % (12:UInt8)).toNat):Nat):Int)).bind fun b0=>(wardmoteref22_Draft_Roll_p n a1 (3:Int)).bind fun d0=>(wardmoteref22_Bend_Of_p n a2 b0).bind fun g0=>thn (loopF (wardmotelaw23_SplitLevels_l2 n b0 d0 g0 a5 a4 a3) n 0) (fun _=>some true) else some false)
theorem wardmotelaw23_SplitLevels_c (n:Nat) (L:List Nat) (w:World) (hL:∀ b ∈ L,b < w.heap.size) (a0:UInt8) (a1:TDraft26) {v1_4:Value} (h1_4:Rep.R w L [v1_4] a1.fF) (a2:TBend) (a3:Int) (a4:Int) (a5:UInt16)  {r:Bool} (h:wardmotelaw23_SplitLevels_p n a0 a1 a2 a3 a4 a5 = some r) :
    Calls Tryz.prog 6 #[.int .u8 (a0.toNat:Int),.agg #[.int .u8 (a1.fe.toNat:Int),.int .u8 (a1.fc.toNat:Int),.int .u8 (a1.fh.toNat:Int),.int .u8 (a1.fo.toNat:Int),v1_4],.agg #[.int .u8 (a2.fB.toNat:Int),.int .u8 (a2.fAt.toNat:Int),vI a2.fN],vI a3,vI a4,.int .u16 (a5.toNat:Int)] w (Gives w fun _ u=>u = .bool r):=by
 unfold wardmotelaw23_SplitLevels_p at h
 have hS0:=AD w
 refine AI Tryz.func6 rfl rfl rfl (fun _ cs0 hb0=>?_)
 refine Ae<|Az .plain rfl (AK hS0 rfl rfl) (fun U6 W5 I2 j6=>?_)
 refine Az .plain rfl (AK I2 rfl rfl) (fun V6 X5 A0 k6=>?_)
 refine Af rfl<|Aa<|Aj<|Ae ?_
 obtain ⟨H5,b5,h⟩:=bi h
 refine Bp (.bool H5) body9 rfl evs_nil (fun w9 hw9=>wardmotelaw23_works_c n _ w9 (A0.hL0 hL hw9)  b5) rfl<|Ac (Be rfl)<|Aa<|MX.ifnb rfl h (fun p2 h=>?_) (fun p2 h=>?_)
 refine Am<|Ae<|Ac (AE rfl (A0.memA (.tl .hd)))<|Ab rfl<|Ac (FV.rem8 (a:=a0) (b:=(12:UInt8)) rfl rfl (by decide)) ?_
 have t6:=(a0 % (12:UInt8)).toNat_lt
 refine Ac (FV.convN (i:=(a0 % (12:UInt8)).toNat) Tryz.underlying5 Tryz.underlying3 rfl (by omega))<|Ac (AT (i:=1) (j:=(a0 % (12:UInt8)).toNat) rfl rfl (by omega)) ?_
 obtain ⟨d0,c5,h⟩:=bi h
 refine AQ (fst:=[]) (cap:=[]) .plain body11 rfl (e2 rfl rfl) (fun w9 hw9=>own_gives (b0:=w.heap.size) (wardmoteref22_Draft_Full_c n _ w9 (A0.hL hL hw9) a1 (A0.km h1_4 hw9) ((1 + ((a0 % (12:UInt8)).toNat):Nat):Int) c5) hw9 (Nat.le_trans A0.ag.size hw9.size)) rfl (fun W6 G6 q6 ⟨B0,E2,U4,X1,I3⟩=>?_)
 subst U4
 have E1:=own_push A0 X1
 have p6:=own_tr A0 X1
 have J3:=Av (cs:=E2) (xs:=(d0.fm:List TUnit)) E1 L (own_cells I3)
 refine Az .plain rfl (Ba [vI 0,vI 0,vI 0,vN] E1) (fun X6 Y5 F1 c3=>?_)
 refine Bu [vI d0.fe,vI d0.fc,vI d0.fh,B0] F1 .hd (o4 rfl rfl rfl (St.o1 (α:=TUnit) F1 (.tl .hd))) (fun Y6 u0 d3=>?_)
 refine Aa<|Aj<|Aj<|dt 9 tb6_4 (fun t0 E0=>?_)
 refine AV 0 1 128 t0 rfl E0 (AE rfl (u0.memA .hd)) rfl<|AV 1 3 164 t0 rfl E0 (AE rfl (u0.memA (.tl (.tl (.tl .hd))))) rfl<|AV 3 11 160 t0 rfl E0 (AE rfl (u0.memA (.tl (.tl .hd)))) rfl<|AV 4 27 160 t0 rfl E0 (AE rfl (u0.memA .hd)) rfl<|Ai 6 91 t0 rfl E0 (fun _=>Bh (vs:=[]) (u:=.agg #[vI 0,vI 0,vI 0,vN]) evs_nil (fun w9=>by kernel_rfl)) rfl<|Ai 8 347 t0 rfl E0 (fun _=>Ah rfl) rfl ?_
 obtain ⟨j0,d5,h⟩:=bi h
 refine RD.cl 2 351 t0 rfl .plain body12 rfl (e2 rfl rfl) (fun w9 hw9=>own_gives (b0:=w.heap.size) (wardmoteref22_Draft_Roll_c n _ w9 (u0.hL hL hw9) a1 (u0.km h1_4 hw9) (3:Int) d5) hw9 (Nat.le_trans u0.ag.size hw9.size)) rfl (fun b7 H6 s6 ⟨G0,F2,V4,Y1,K3⟩=>?_)
 subst V4
 have U0:=own_push u0 Y1
 have g3:=own_tr u0 Y1
 have M3:=Av (cs:=F2) (xs:=(j0.fm:List TUnit)) U0 L (own_cells K3)
 have x4:=Tt c3 (Tt d3 g3)
 have b4:=Ap J3 x4
 have G4:=AU (α:=TUnit) U0 (.tl (.tl .hd)) b4 hL
 have j1:=Bk U0 (.tl (.tl .hd))
 have j3:=Bl U0 (.tl (.tl .hd))
 have A1:=Bm (α:=TUnit) (v:=B0) (xs:=d0.fm) j1 L G4
 obtain ⟨k0,g5,h⟩:=bi h
 refine RD.cl 5 383 t0 rfl .plain body13 rfl (e2 rfl rfl) (fun w9 hw9=>wardmoteref22_Bend_Of_c n _ w9 (j1.hL hL hw9) a2 d0 (AH A1 hw9) g5) rfl (fun G5 R6 H3 ⟨H0,hu_,W1⟩=>?_)
 subst hu_
 obtain ⟨Z0,v1⟩:=j1.agr H3
 have s4:=Aw A1 v1
 obtain ⟨M5,Z5,Y4,_⟩:=Rep.sl s4
 obtain ⟨P5,b6,P3⟩:=St.rowV (α:=TUnit) Z0 .hd
 obtain ⟨Q5,c6,Z4,_⟩:=Rep.sl W1
 refine Ai 7 511 t0 rfl E0 (fun _=>Bh (vs:=[.agg #[vI d0.fe,vI d0.fc,vI d0.fh,B0],.agg #[vI j0.fe,vI j0.fc,vI j0.fh,G0],.agg #[vI k0.fe,vI k0.fc,vI k0.fh,H0],.agg #[vI 0,vI 0,vI 0,vN]]) (u:=.agg #[vI d0.fe,vI d0.fc,vI d0.fh,B0,vI j0.fe,vI j0.fc,vI j0.fh,G0,vI k0.fe,vI k0.fc,vI k0.fh,H0,vI 0,vI 0,vI 0,vN]) (e4 rfl rfl rfl rfl) (fun w9=>by rw [Y4,P3,Z4]; try kernel_rfl)) rfl<|AX (dk t0)<|Au ?_
 have t4:=Ap M3 (Tt j3 v1)
 have Q4:=AU (α:=TUnit) Z0 .hd t4 hL
 have H1:=Bk Z0 .hd
 have A3:=Bl Z0 .hd
 have R4:=Bm (α:=TUnit) (v:=G0) (xs:=j0.fm) H1 L Q4
 obtain ⟨J2,I1⟩:=Ay H1 .done
 obtain ⟨v6,u4,b1⟩:=thn_in h
 refine AW (α:=Nat) (fun s0=>[(3,vI a3),(4,vI a4),(5,.int .u16 (a5.toNat:Int)),(54,vI ((s0:Nat):Int)),(53,.agg #[vI d0.fe,vI d0.fc,vI d0.fh,B0,vI j0.fe,vI j0.fc,vI j0.fh,G0,vI k0.fe,vI k0.fc,vI k0.fh,H0,vI 0,vI 0,vI 0,vN])]) (fun s0 B1=>St w B1 []∧Tr G5 [] B1 []) (fun s0=>s0) 0 u4 ⟨rfl,rfl,rfl,rfl,rfl,trivial⟩ ⟨J2,AA _ _⟩ ?_
 rintro R5 s0 B1 G2 ⟨g1,k1⟩ h
 unfold wardmotelaw23_SplitLevels_l2 at h
 try dsimp only at h
 refine Ae<|Ac (Bg (i:=s0) (j:=4) rfl rfl)<|Aa<|Aj<|AM rfl h (fun q2 h=>?_) (fun q2 h=>?_)
 refine Am<|Aj<|Au<|Ae ?_
 have D4:=Bt (α:=TUnit) g1 L
 obtain ⟨c0,C5,h⟩:=bi h
 have U1:=Tt A3 (Tt I1 k1)
 have Q3:=Aw W1 U1
 have R3:=Aw R4 (Tt I1 k1)
 have U3:=Aw A1 (Tt v1 U1)
 refine RG.valE .plain rfl (FV.idxR (css:=[[vI d0.fe,vI d0.fc,vI d0.fh,B0],[vI j0.fe,vI j0.fc,vI j0.fh,G0],[vI k0.fe,vI k0.fc,vI k0.fh,H0],[vI 0,vI 0,vI 0,vN]]) (xs:=([d0,j0,k0,(⟨(0:Int),(0:Int),(0:Int),([]:List TUnit)⟩:TRoll)]:List TRoll)) (len:=4) (by kernel_rfl) (by kernel_rfl) rfl rfl rfl rfl rfl (.cons (mk_TRoll d0.fe d0.fc d0.fh d0.fm U3) (.cons (mk_TRoll j0.fe j0.fc j0.fh j0.fm R3) (.cons (mk_TRoll k0.fe k0.fc k0.fh k0.fm Q3) (.cons (mk_TRoll (0:Int) (0:Int) (0:Int) ([]:List TUnit) D4) .nil)))) C5) (fun y6 ⟨d6,W4,E4⟩=>?_)
 subst W4
 obtain ⟨F0,rfl,v0⟩:=op_TRoll E4
 refine Az .plain rfl (Ba [vI 0,vI 0,vI 0,vN] g1) (fun Z6 y0 K2 p1=>?_)
 have V3:=Aw v0 p1
 refine Bu [vI c0.fe,vI c0.fc,vI c0.fh,F0] K2 .hd (o4 rfl rfl rfl (BI V3)) (fun E5 M2 J1=>?_)
 refine Aa<|Aj<|Ae<|Ab rfl ?_
 have u6:=a5.toNat_lt
 refine Ac (FV.convN (i:=a5.toNat) Tryz.underlying66 Tryz.underlying3 rfl (by omega))<|Ac (Bh (vs:=[vI 0,vI ((a5.toNat:Nat):Int)]) (u:=.agg #[vI 0,vI ((a5.toNat:Nat):Int)]) (e2 rfl rfl) (fun w9=>by kernel_rfl))<|Ab rfl<|Ac (Bh (vs:=[vI 1,vI a4]) (u:=.agg #[vI 1,vI a4]) (e2 rfl rfl) (fun w9=>by kernel_rfl))<|Ab rfl<|Ac (Bh (vs:=[vI a3,vI 0]) (u:=.agg #[vI a3,vI 0]) (e2 rfl rfl) (fun w9=>by kernel_rfl))<|Ac (Bh (vs:=[.agg #[vI 0,vI ((a5.toNat:Nat):Int)],.agg #[vI 1,vI a4],.agg #[vI a3,vI 0]]) (u:=.agg #[vI 0,vI ((a5.toNat:Nat):Int),vI 1,vI a4,vI a3,vI 0]) (e3 rfl rfl rfl) (fun w9=>by kernel_rfl))<|Ab rfl<|Aa<|Au ?_
 obtain ⟨x6,v4,P1⟩:=thn_in h
 refine AW (α:=Nat) (fun x0=>[(3,vI a3),(4,vI a4),(5,.int .u16 (a5.toNat:Int)),(54,vI ((s0:Nat):Int)),(53,.agg #[vI d0.fe,vI d0.fc,vI d0.fh,B0,vI j0.fe,vI j0.fc,vI j0.fh,G0,vI k0.fe,vI k0.fc,vI k0.fh,H0,vI 0,vI 0,vI 0,vN]),(15,vP y0),(64,.agg #[vI 0,vI ((a5.toNat:Nat):Int),vI 1,vI a4,vI a3,vI 0]),(65,vI ((x0:Nat):Int))]) (fun x0 C1=>St w C1 [.cells y0 [vI c0.fe,vI c0.fc,vI c0.fh,F0] 38]∧Tr E5 [.cells y0 [vI c0.fe,vI c0.fc,vI c0.fh,F0] 38] C1 [.cells y0 [vI c0.fe,vI c0.fc,vI c0.fh,F0] 38]) (fun x0=>x0) 0 v4 ⟨rfl,rfl,rfl,rfl,rfl,rfl,rfl,rfl,trivial⟩ ⟨M2,AA _ _⟩ ?_
 rintro U5 x0 C1 H2 ⟨q0,q1⟩ h
 unfold wardmotelaw23_SplitLevels_l1 at h
 try dsimp only at h
 refine Ae<|Ac (Bg (i:=x0) (j:=3) rfl rfl)<|Aa<|Aj<|AM rfl h (fun s2 h=>?_) (fun s2 h=>?_)
 refine Am<|Aj<|Au<|Ae ?_
 obtain ⟨p0,D5,h⟩:=bi h
 refine RG.valE .plain rfl (FV.idxR (L:=[]) (css:=[[vI 0,vI ((a5.toNat:Nat):Int)],[vI 1,vI a4],[vI a3,vI 0]]) (xs:=([((0:Int),((a5.toNat:Nat):Int)),((1:Int),a4),(a3,(0:Int))]:List (Int × Int))) (len:=3) (by kernel_rfl) (by kernel_rfl) rfl rfl rfl rfl rfl (.cons (mk_A44 (0:Int) ((a5.toNat:Nat):Int)) (.cons (mk_A44 (1:Int) a4) (.cons (mk_A44 a3 (0:Int)) .nil))) D5) (fun z6 ⟨g6,X4,F4⟩=>?_)
 subst X4
 obtain rfl:=op_A44 F4
 refine Az .plain rfl (Ba [vI 0,vI 0] q0) (fun c7 k2 P2 K1=>?_)
 refine Bu [vI p0.1,vI p0.2] P2 .hd (onesB rfl) (fun d7 V0 M1=>?_)
 refine Aa<|Ae<|Ac (AE rfl (V0.memA (.tl .hd)))<|Ac (Bj (m:=1) (k:=0) (len:=2) (by kernel_rfl) rfl rfl rfl (by omega))<|AN rfl ((V0.memA .hd) 0 _ rfl) ?_
 obtain ⟨Z1,j5,h⟩:=bi h
 have x1:=Tt p1 (Tt J1 (Tt q1 (Tt K1 M1)))
 have W3:=Aw v0 x1
 refine AQ (fst:=[]) (cap:=[]) .plain body22 rfl (e2 rfl rfl) (fun w9 hw9=>split_Parents_c n _ w9 (V0.hL hL hw9) c0 (AH W3 hw9) p0.1 j5) rfl (fun g7 I6 B3 ⟨A6,hu_,H4⟩=>?_)
 subst hu_
 obtain ⟨W0,s1⟩:=V0.agr B3
 refine Ab rfl<|Ac (Ak rfl rfl)<|Ac (Ak rfl rfl)<|Af rfl<|Af rfl<|Aa<|Ae<|Ac (AE rfl (W0.memA (.tl .hd)))<|Ac (Bj (m:=1) (k:=0) (len:=2) (by kernel_rfl) rfl rfl rfl (by omega))<|AN rfl ((W0.memA .hd) 0 _ rfl) ?_
 obtain ⟨b2,k5,h⟩:=bi h
 have X3:=Aw v0 (Tt x1 s1)
 refine AQ (fst:=[]) (cap:=[]) .plain body27 rfl (e2 rfl rfl) (fun w9 hw9=>wardmoteref23_Parents_c n _ w9 (W0.hL hL hw9) c0 (AH X3 hw9) p0.1 k5) rfl (fun j7 J6 C3 ⟨B6,hu_,I4⟩=>?_)
 subst hu_
 obtain ⟨X0,u1⟩:=W0.agr C3
 refine Ab rfl<|Ac (Ak rfl rfl)<|Ac (Ak rfl rfl)<|Af rfl<|Af rfl<|Aa<|Ae<|Ac (AE rfl (X0.memA (.tl .hd)))<|Ac (Bj (m:=1) (k:=0) (len:=2) (by kernel_rfl) rfl rfl rfl (by omega))<|AN rfl ((X0.memA .hd) 0 _ rfl) ?_
 obtain ⟨c2,p5,h⟩:=bi h
 have y1:=Tt x1 (Tt s1 u1)
 have Y3:=Aw v0 y1
 refine AQ (fst:=[]) (cap:=[]) .plain body23 rfl (e2 rfl rfl) (fun w9 hw9=>split_People_c n _ w9 (X0.hL hL hw9) c0 (AH Y3 hw9) p0.1 p5) rfl (fun k7 K6 D3 ⟨C6,hu_,J4⟩=>?_)
 subst hu_
 obtain ⟨Y0,K0⟩:=X0.agr D3
 refine Ab rfl<|Ac (Ak rfl rfl)<|Ac (Ak rfl rfl)<|Af rfl<|Af rfl<|Aa<|Ae<|Ac (AE rfl (Y0.memA (.tl .hd)))<|Ac (Bj (m:=1) (k:=0) (len:=2) (by kernel_rfl) rfl rfl rfl (by omega))<|AN rfl ((Y0.memA .hd) 0 _ rfl) ?_
 obtain ⟨d2,q5,h⟩:=bi h
 have Z3:=Aw v0 (Tt y1 K0)
 refine AQ (fst:=[]) (cap:=[]) .plain body28 rfl (e2 rfl rfl) (fun w9 hw9=>wardmoteref23_People_c n _ w9 (Y0.hL hL hw9) c0 (AH Z3 hw9) p0.1 q5) rfl (fun p7 M6 E3 ⟨D6,hu_,K4⟩=>?_)
 subst hu_
 obtain ⟨I0,M0⟩:=Y0.agr E3
 refine Ab rfl<|Ac (Ak rfl rfl)<|Ac (Ak rfl rfl)<|Af rfl<|Af rfl<|Aa<|Ae<|Ac (AE rfl (I0.memA (.tl .hd)))<|Ac (Bj (m:=1) (k:=0) (len:=2) (by kernel_rfl) rfl rfl rfl (by omega))<|AN rfl ((I0.memA .hd) 0 _ rfl)<|Ac (Bj (m:=1) (k:=1) (len:=2) (by kernel_rfl) rfl rfl rfl (by omega))<|AN rfl ((I0.memA .hd) 1 _ rfl) ?_
 obtain ⟨g2,s5,h⟩:=bi h
 have z1:=Tt y1 (Tt K0 M0)
 have c4:=Aw v0 z1
 refine AQ (fst:=[]) (cap:=[]) .plain body29 rfl (e3 rfl rfl rfl) (fun w9 hw9=>split_Forced_c n _ w9 (I0.hL hL hw9) c0 (AH c4 hw9) p0.1 p0.2 s5) rfl (fun q7 P6 F3 ⟨E6,hu_,M4⟩=>?_)
 subst hu_
 obtain ⟨J0,C0⟩:=I0.agr F3
 refine Ab rfl<|Ac (Ak rfl rfl)<|Ac (Ak rfl rfl)<|Af rfl<|Af rfl<|Aa<|Ae<|Ac (AE rfl (J0.memA (.tl .hd)))<|Ac (Bj (m:=1) (k:=0) (len:=2) (by kernel_rfl) rfl rfl rfl (by omega))<|AN rfl ((J0.memA .hd) 0 _ rfl)<|Ac (Bj (m:=1) (k:=1) (len:=2) (by kernel_rfl) rfl rfl rfl (by omega))<|AN rfl ((J0.memA .hd) 1 _ rfl) ?_
 obtain ⟨j2,t5,h⟩:=bi h
 have d4:=Aw v0 (Tt z1 C0)
 refine AQ (fst:=[]) (cap:=[]) .plain body30 rfl (e3 rfl rfl rfl) (fun w9 hw9=>wardmoteref23_Forced_c n _ w9 (J0.hL hL hw9) c0 (AH d4 hw9) p0.1 p0.2 t5) rfl (fun F5 Q6 G3 ⟨F6,hu_,P4⟩=>?_)
 subst hu_
 obtain ⟨g0,D0⟩:=J0.agr G3
 refine Ab rfl<|Ac (Ak rfl rfl)<|Ac (Ak rfl rfl)<|Af rfl<|Af rfl<|Aa<|Ae<|Ac (AE rfl (g0.memA (.tl .hd)))<|Ac (Bj (m:=1) (k:=0) (len:=2) (by kernel_rfl) rfl rfl rfl (by omega))<|AN rfl ((g0.memA .hd) 0 _ rfl) ?_
 obtain ⟨Q0,u5,h⟩:=bi h
 have y4:=Tt z1 (Tt C0 D0)
 have Q1:=Aw v0 y4
 refine Bp (.tuple #[.bool Q0.1,vI Q0.2]) body31 rfl (e3 rfl rfl rfl) (fun w9 hw9=>split_Nested_c n _ w9 (g0.hL0 hL hw9) c0 (g0.kd Q1 hw9) p0.1 (1:Int) u5) rfl<|Ab rfl<|Ac (Ak rfl rfl)<|Ac (Ak rfl rfl)<|Af rfl<|Af rfl<|Aa<|Ae<|Ac (AE rfl (g0.memA (.tl .hd)))<|Ac (Bj (m:=1) (k:=0) (len:=2) (by kernel_rfl) rfl rfl rfl (by omega))<|AN rfl ((g0.memA .hd) 0 _ rfl) ?_
 obtain ⟨R0,v5,h⟩:=bi h
 refine Bp (.tuple #[.bool R0.1,vI R0.2]) body32 rfl (e3 rfl rfl rfl) (fun w9 hw9=>wardmoteref23_Nested_c n _ w9 (g0.hL0 hL hw9) c0 (g0.kd Q1 hw9) p0.1 (1:Int) v5) rfl<|Ab rfl<|Ac (Ak rfl rfl)<|Ac (Ak rfl rfl)<|Af rfl<|Af rfl<|Aa<|Aj<|MX.join (α:=Bool) (fun P0=>[(3,vI a3),(4,vI a4),(5,.int .u16 (a5.toNat:Int)),(54,vI ((s0:Nat):Int)),(53,.agg #[vI d0.fe,vI d0.fc,vI d0.fh,B0,vI j0.fe,vI j0.fc,vI j0.fh,G0,vI k0.fe,vI k0.fc,vI k0.fh,H0,vI 0,vI 0,vI 0,vN]),(15,vP y0),(64,.agg #[vI 0,vI ((a5.toNat:Nat):Int),vI 1,vI a4,vI a3,vI 0]),(65,vI ((x0:Nat):Int)),(168,.bool P0)]) (fun P0 D1=>St w D1 [.cells y0 [vI c0.fe,vI c0.fc,vI c0.fh,F0] 38]∧Tr F5 [.cells k2 [vI p0.1,vI p0.2] 44,.cells y0 [vI c0.fe,vI c0.fc,vI c0.fh,F0] 38] D1 [.cells y0 [vI c0.fe,vI c0.fc,vI c0.fh,F0] 38]) (fun P0=>P0) h ?_ ?_
 rintro P0 D1 ⟨G1,k3⟩ h
 try dsimp only at h
 refine MX.ifb rfl h (fun t2 h=>?_) (fun t2 h=>?_)
 refine Ae<|Af rfl<|Aa ?_
 have h:=thn_inl h P1
 have h:=thn_inl h b1
 refine Ao rfl<|AL hb0 Tryz.func6 rfl rfl ?_
 cases h
 exact G1.gv
 refine Am<|Aq<|Al<|Ac (AT (i:=x0) (j:=1) rfl rfl (by omega))<|Ab rfl<|Aa ?_
 have z4:=Tt K1 (Tt M1 (Tt s1 (Tt u1 (Tt K0 (Tt M0 (Tt C0 (Tt D0 k3)))))))
 exact H2 (x0 + 1) _ _ ⟨rfl,rfl,rfl,rfl,rfl,rfl,rfl,rfl,trivial⟩ ⟨G1,(Tt q1 z4)⟩ h
 intro V5 z0 h
 try dsimp only at h
 refine Al<|Ab rfl<|Ab rfl ?_
 obtain ⟨I5,x5,h⟩:=bi h
 have A4:=Tt u1 (Tt K0 (Tt M0 (Tt C0 D0)))
 have g4:=Aw H4 A4
 have B4:=Tt K0 (Tt M0 (Tt C0 D0))
 have j4:=Aw I4 B4
 refine Bp (.bool I5) body21 rfl (e2 rfl rfl) (fun w9 hw9=>slices_Equal_int_int_c n _ w9 (g0.hL0 hL hw9) Z1.1 (g0.kd g4 hw9) b2.1 (g0.kd j4 hw9) x5) rfl<|Ac (Be rfl)<|Ab rfl<|RG.ifnb (s:=132) rfl h (fun u2 h=>?_) (fun u2 h=>?_)
 refine Ar (Ah rfl)<|Ar (Ah rfl)<|Ar (Bs (i:=Z1.2) (j:=b2.2) rfl rfl)<|Bd rfl rfl<|Ab rfl<|RG.ifn (s:=137) rfl h (fun v2 h=>?_) (fun v2 h=>?_)
 refine Ar (Ah rfl)<|Ar (Ah rfl) ?_
 obtain ⟨J5,y5,h⟩:=bi h
 have C4:=Tt M0 (Tt C0 D0)
 have k4:=Aw J4 C4
 have p4:=Aw K4 (Tt C0 D0)
 refine RG.callq' (v:=.bool J5) (fst:=[]) (cap:=[]) (.yes rfl rfl) body21 rfl (e2 rfl rfl) (fun w9 hw9=>slices_Equal_int_int_c n _ w9 (g0.hL0 hL hw9) c2.1 (g0.kd k4 hw9) d2.1 (g0.kd p4 hw9) y5) rfl<|Ar (Be rfl)<|Bd rfl rfl<|Ab rfl<|RG.ifnb (s:=143) rfl h (fun x2 h=>?_) (fun x2 h=>?_)
 refine Ar (Ah rfl)<|Ar (Ah rfl)<|Ar (Bs (i:=c2.2) (j:=d2.2) rfl rfl)<|Bd rfl rfl<|Ab rfl<|RG.ifn (s:=148) rfl h (fun y2 h=>?_) (fun y2 h=>?_)
 refine Ar (Ah rfl)<|Ar (Ah rfl) ?_
 obtain ⟨K5,z5,h⟩:=bi h
 have q4:=Aw M4 D0
 refine RG.callq' (v:=.bool K5) (fst:=[]) (cap:=[]) (.yes rfl rfl) body21 rfl (e2 rfl rfl) (fun w9 hw9=>slices_Equal_int_int_c n _ w9 (g0.hL0 hL hw9) g2.1 (g0.kd q4 hw9) j2.1 (g0.kd P4 hw9) z5) rfl<|Ar (Be rfl)<|Bd rfl rfl<|Ab rfl<|RG.ifnb (s:=154) rfl h (fun z2 h=>?_) (fun z2 h=>?_)
 refine Ar (Ah rfl)<|Ar (Ah rfl)<|Ar (Bs (i:=g2.2) (j:=j2.2) rfl rfl)<|Bd rfl rfl<|Ab rfl<|RG.ifn (s:=159) rfl h (fun A2 h=>?_) (fun A2 h=>?_)
 refine Ar (Ah rfl)<|Ar (Ah rfl)<|Ar (FV.neqB (a:=Q0.1) (b:=R0.1) Tryz.underlying4 rfl rfl)<|Bd rfl rfl<|Ab rfl<|RG.ifnb (s:=164) rfl h (fun B2 h=>?_) (fun B2 h=>?_)
 refine Ar (Ah rfl)<|Ar (Ah rfl)<|Ar (Bs (i:=Q0.2) (j:=R0.2) rfl rfl)<|Bd rfl rfl<|Aa ?_
 obtain ⟨Q2,p3⟩:=Ay g0 (.one (.tl .hd) .done)
 exact z0 (!(decide (Q0.2 = R0.2))) _ _ ⟨rfl,rfl,rfl,rfl,rfl,rfl,rfl,rfl,rfl,trivial⟩ ⟨Q2,p3⟩ h
 refine Ag<|Ag<|Ag<|AG rfl rfl<|Aa ?_
 obtain ⟨R2,q3⟩:=Ay g0 (.one (.tl .hd) .done)
 exact z0 true _ _ ⟨rfl,rfl,rfl,rfl,rfl,rfl,rfl,rfl,rfl,trivial⟩ ⟨R2,q3⟩ h
 refine Ag<|Ag<|Ag<|AG rfl rfl<|Ab rfl<|Ag<|Ag<|Ag<|AG rfl rfl<|Aa ?_
 obtain ⟨U2,s3⟩:=Ay g0 (.one (.tl .hd) .done)
 exact z0 true _ _ ⟨rfl,rfl,rfl,rfl,rfl,rfl,rfl,rfl,rfl,trivial⟩ ⟨U2,s3⟩ h
 refine Ag<|Ag<|Ag<|AG rfl rfl<|Ab rfl<|Ag<|Ag<|Ag<|AG rfl rfl<|Ab rfl<|Ag<|Ag<|Ag<|AG rfl rfl<|Aa ?_
 obtain ⟨V2,t3⟩:=Ay g0 (.one (.tl .hd) .done)
 exact z0 true _ _ ⟨rfl,rfl,rfl,rfl,rfl,rfl,rfl,rfl,rfl,trivial⟩ ⟨V2,t3⟩ h
 refine Ag<|Ag<|Ag<|Ag<|AG rfl rfl<|Ab rfl<|Ag<|Ag<|Ag<|AG rfl rfl<|Ab rfl<|Ag<|Ag<|Ag<|AG rfl rfl<|Ab rfl<|Ag<|Ag<|Ag<|AG rfl rfl<|Aa ?_
 obtain ⟨W2,u3⟩:=Ay g0 (.one (.tl .hd) .done)
 exact z0 true _ _ ⟨rfl,rfl,rfl,rfl,rfl,rfl,rfl,rfl,rfl,trivial⟩ ⟨W2,u3⟩ h
 refine Ag<|Ag<|Ag<|AG rfl rfl<|Ab rfl<|Ag<|Ag<|Ag<|Ag<|AG rfl rfl<|Ab rfl<|Ag<|Ag<|Ag<|AG rfl rfl<|Ab rfl<|Ag<|Ag<|Ag<|AG rfl rfl<|Ab rfl<|Ag<|Ag<|Ag ?_
 refine AG rfl rfl<|Aa ?_
 obtain ⟨X2,v3⟩:=Ay g0 (.one (.tl .hd) .done)
 exact z0 true _ _ ⟨rfl,rfl,rfl,rfl,rfl,rfl,rfl,rfl,rfl,trivial⟩ ⟨X2,v3⟩ h
 refine Ag<|Ag<|Ag<|Ag<|AG rfl rfl<|Ab rfl<|Ag<|Ag<|Ag<|AG rfl rfl<|Ab rfl<|Ag<|Ag<|Ag<|Ag<|AG rfl rfl<|Ab rfl<|Ag<|Ag<|Ag<|AG rfl rfl<|Ab rfl<|Ag<|Ag ?_
 refine Ag<|AG rfl rfl<|Ab rfl<|Ag<|Ag<|Ag<|AG rfl rfl<|Aa ?_
 obtain ⟨Y2,x3⟩:=Ay g0 (.one (.tl .hd) .done)
 exact z0 true _ _ ⟨rfl,rfl,rfl,rfl,rfl,rfl,rfl,rfl,rfl,trivial⟩ ⟨Y2,x3⟩ h
 refine Ag<|Ag<|Ag<|AG rfl rfl<|Ab rfl<|Ag<|Ag<|Ag<|Ag<|AG rfl rfl<|Ab rfl<|Ag<|Ag<|Ag<|AG rfl rfl<|Ab rfl<|Ag<|Ag<|Ag<|Ag<|AG rfl rfl<|Ab rfl<|Ag<|Ag ?_
 refine Ag<|AG rfl rfl<|Ab rfl<|Ag<|Ag<|Ag<|AG rfl rfl<|Ab rfl<|Ag<|Ag<|Ag<|AG rfl rfl<|Aa ?_
 obtain ⟨Z2,y3⟩:=Ay g0 (.one (.tl .hd) .done)
 exact z0 true _ _ ⟨rfl,rfl,rfl,rfl,rfl,rfl,rfl,rfl,rfl,trivial⟩ ⟨Z2,y3⟩ h
 refine AR rfl ?_
 have h:=thn_inr h P1
 try dsimp only at h
 refine Ae<|Ac (AE rfl (q0.memA .hd))<|Ab rfl ?_
 obtain ⟨c1,A5,h⟩:=bi h
 have V1:=Tt p1 (Tt J1 q1)
 have R1:=Aw v0 V1
 refine Bp (.tuple #[.bool c1.1,vI c1.2]) body31 rfl (e3 rfl rfl rfl) (fun w9 hw9=>split_Nested_c n _ w9 (q0.hL0 hL hw9) c0 (q0.kd R1 hw9) (0:Int) a3 A5) rfl<|Ab rfl<|Ac (Ak rfl rfl)<|Ac (Ak rfl rfl)<|Af rfl<|Af rfl<|Aa<|Ae<|Ac (AE rfl (q0.memA .hd))<|Ab rfl ?_
 obtain ⟨d1,B5,h⟩:=bi h
 refine Bp (.tuple #[.bool d1.1,vI d1.2]) body32 rfl (e3 rfl rfl rfl) (fun w9 hw9=>wardmoteref23_Nested_c n _ w9 (q0.hL0 hL hw9) c0 (q0.kd R1 hw9) (0:Int) a3 B5) rfl<|Ab rfl<|Ac (Ak rfl rfl)<|Ac (Ak rfl rfl)<|Af rfl<|Af rfl<|Aa<|Ae<|Ab rfl<|Ab rfl<|Ac (FV.neqB (a:=c1.1) (b:=d1.1) Tryz.underlying4 rfl rfl)<|Ab rfl<|RG.ifnb (s:=185) rfl h (fun C2 h=>?_) (fun C2 h=>?_)
 refine Ar (Ah rfl)<|Ar (Ah rfl)<|Ar (Bs (i:=c1.2) (j:=d1.2) rfl rfl)<|Bd rfl rfl<|Aa<|MX.ifn rfl h (fun D2 h=>?_) (fun D2 h=>?_)
 refine Am<|Aq<|Al<|Ac (AT (i:=s0) (j:=1) rfl rfl (by omega))<|Ab rfl<|Aa ?_
 obtain ⟨b3,z3⟩:=Ay q0 .done
 exact G2 (s0 + 1) _ _ ⟨rfl,rfl,rfl,rfl,rfl,trivial⟩ ⟨b3,(Tt k1 (Tt V1 z3))⟩ h
 refine Ae<|Af rfl<|Aa ?_
 have h:=thn_inl h b1
 refine Ao rfl<|AL hb0 Tryz.func6 rfl rfl ?_
 cases h
 exact q0.gv
 refine Ag<|Ag<|Ag<|AG rfl rfl<|Aa<|Bq rfl<|Ae<|Af rfl<|Aa ?_
 have h:=thn_inl h b1
 refine Ao rfl<|AL hb0 Tryz.func6 rfl rfl ?_
 cases h
 exact q0.gv
 refine AR rfl ?_
 have h:=thn_inr h b1
 try dsimp only at h
 refine Ae<|Af rfl<|Aa<|Ao rfl<|AL hb0 Tryz.func6 rfl rfl ?_
 cases h
 exact g1.gv
 refine Ae<|Af rfl<|Aa<|Ao rfl<|AL hb0 Tryz.func6 rfl rfl ?_
 cases h
 exact A0.gv
def slices_Index_int_int_l1 (_n:Nat) (a0:List Int) (a1:Int) (c0:Nat → Option (Int ⊕ Unit)):Nat → Option (Int ⊕ Unit)
  | b0=>(if b0 < a0.length then (a0[b0]?).bind fun d0=>(if a1 = d0 then some (.inl ((b0:Nat):Int)) else c0 (b0 + 1)) else some (.inr ()))
def slices_Index_int_int_p (n:Nat) (a0:List Int) (a1:Int):Option Int:=
  thn (loopF (slices_Index_int_int_l1 n a0 a1) n 0) (fun _=>some (-1:Int))
theorem slices_Index_int_int_c (n:Nat) (L:List Nat) (w:World) (_hL:∀ b ∈ L,b < w.heap.size) (a0:List Int) {v0_0:Value} (h0_0:Rep.R w L [v0_0] a0) (a1:Int)  {r:Int} (h:slices_Index_int_int_p n a0 a1 = some r) :
    Calls Tryz.prog 33 #[v0_0,vI a1] w (Gives w fun _ u=>u = vI r):=by
 unfold slices_Index_int_int_p at h
 have hS0:=AD w
 refine AI Tryz.func33 rfl rfl rfl (fun _ cs0 hb0=>?_)
 refine Ae<|Af rfl<|Aa<|Aj<|Ae<|Ab rfl ?_
 have hl1:a0.length ≤ 281474976710656:=AO h0_0
 refine Ac (AZ (xs:=a0) Tryz.underlying32 rfl h0_0)<|Ab rfl<|Aa<|Au ?_
 obtain ⟨G0,A0,g0⟩:=thn_in h
 refine AW (α:=Nat) (fun b0=>[(0,v0_0),(1,vI a1),(7,vI ((a0.length:Nat):Int)),(8,vI ((b0:Nat):Int))]) (fun b0 d0=>St w d0 []∧Tr w [] d0 []) (fun b0=>b0) 0 A0 ⟨rfl,rfl,rfl,rfl,trivial⟩ ⟨hS0,AA _ _⟩ ?_
 rintro E0 b0 d0 s0 ⟨c0,t0⟩ h
 unfold slices_Index_int_int_l1 at h
 try dsimp only at h
 refine Ae<|Ac (Bg (i:=b0) (j:=a0.length) rfl rfl)<|Aa<|Aj<|AM rfl h (fun k0 h=>?_) (fun k0 h=>?_)
 refine Am<|Aj<|Au<|Ae<|Ab rfl<|Af rfl<|Aa<|Ae<|Ab rfl<|Ab rfl<|Ab rfl ?_
 obtain ⟨j0,C0,h⟩:=bi h
 have z0:=Bn h0_0 c0
 obtain ⟨D0,F0,u0,x0,q0,B0,y0⟩:=AS z0 C0
 have v0:q0 = [vI j0]:=B0; subst v0
 refine Ac (AY 1 b0 rfl u0 rfl rfl x0)<|AN rfl (y0 0 _ rfl)<|Ac (FV.eql (i:=a1) (j:=j0) rfl rfl)<|Aa<|AM rfl h (fun p0 h=>?_) (fun p0 h=>?_)
 refine Ae<|Ab rfl<|Af rfl<|Aa ?_
 have h:=thn_inl h g0
 refine Ao rfl<|AL hb0 Tryz.func33 rfl rfl ?_
 cases h
 exact c0.gv
 refine Am<|Aq<|Al<|Ac (AT (i:=b0) (j:=1) rfl rfl (by omega))<|Ab rfl<|Aa ?_
 exact s0 (b0 + 1) _ _ ⟨rfl,rfl,rfl,rfl,trivial⟩ ⟨c0,t0⟩ h
 refine AR rfl ?_
 have h:=thn_inr h g0
 try dsimp only at h
 refine Ae<|Af rfl<|Aa<|Ao rfl<|AL hb0 Tryz.func33 rfl rfl ?_
 cases h
 exact c0.gv
def tb7_9:List (Nat × Nat × Nat):=[(0,1125899906842624,512),(1,2251799813685248,1125899906842624),(0,4503599627370496,1024),(0,9007199254740992,512),(8,18014398509481984,9007199254740992),(0,36028797018963968,1024),(48,72057594037927936,54043195528445952),(64,144115188075855872,72057594037927936),(128,288230376151711744,144115188075855872),(256,576460752303423488,288230376151711744),(512,1152921504606846976,576460752303423488),(0,2305843009213693952,512),(2048,4611686018427387904,2305843009213693952),(0,9223372036854775808,1024),(12288,18446744073709551616,13835058055282163712),(16384,36893488147419103232,18446744073709551616),(32768,73786976294838206464,36893488147419103232),(65536,147573952589676412928,73786976294838206464),(131072,295147905179352825856,147573952589676412928),(0,590295810358705651712,4),(524288,1180591620717411303424,590295810358705651712),(1048576,2361183241434822606848,1180591620717411303424),(2097152,4722366482869645213696,2361183241434822606848),(4456448,9444732965739290427392,5017514388048998039552),(8389632,18889465931478580854784,9445885887243897274368),(33554431,37778931862957161709568,6755399441055744),(67108863,75557863725914323419136,37778931862957161709568),(100663295,0,94447329657392904273920)]
def tb7_11:List (Nat × Nat × Nat):=[(0,302231454903657293676544,0),(0,604462909807314587353088,512),(3,1208925819614629174706176,604462909807314587353088),(4,2417851639229258349412352,1208925819614629174706176),(4,4835703278458516698824704,1208925819614629174706176),(29,9671406556917033397649408,7555786372591432341913600),(32,19342813113834066795298816,9671406556917033397649408),(96,38685626227668133590597632,19342813113834066795298816),(128,77371252455336267181195264,38685626227668133590597632),(128,154742504910672534362390528,38685626227668133590598144),(896,309485009821345068724781056,193428131138340667952988160),(1152,618970019642690137449562112,348170636049013202315378688),(1152,1237940039285380274899124224,348170636049013202315378688),(7552,2475880078570760549798248448,1972966937611074813120479232),(8320,4951760157141521099596496896,2514565704798428683388846080),(16512,9903520314283042199192993792,4990445783369189233187094528)]
def tb7_38:List (Nat × Nat × Nat):=[(0,25711008708143844408671393477458601640355247900524685364822016,131072),(1,51422017416287688817342786954917203280710495801049370729644032,25711008708143844408671393477458601640355247900524685364822016),(2,102844034832575377634685573909834406561420991602098741459288064,51422017416287688817342786954917203280710495801049370729644032),(0,205688069665150755269371147819668813122841983204197482918576128,512),(0,411376139330301510538742295639337626245683966408394965837152256,16777216),(0,822752278660603021077484591278675252491367932816789931674304512,131072),(32,1645504557321206042154969182557350504982735865633579863348609024,822752278660603021077484591278675252491367932816789931674304512),(92,3291009114642412084309938365114701009965471731267159726697218048,2262568766316658307963082626016356944351261815246172312104337408),(128,6582018229284824168619876730229402019930943462534319453394436096,3291009114642412084309938365114701009965471731267159726697218048),(128,13164036458569648337239753460458804039861886925068638906788872192,3291009114642412084309938365114701009965471731267159726697218048),(900,26328072917139296674479506920917608079723773850137277813577744384,19848898722687047883494315764598040466354251379205057101642596352),(1024,52656145834278593348959013841835216159447547700274555627155488768,26328072917139296674479506920917608079723773850137277813577744384),(2048,105312291668557186697918027683670432318895095400549111254310977536,52656145834278593348959013841835216159447547700274555627155496960),(6144,210624583337114373395836055367340864637790190801098222508621955072,157968437502835780046877041525505648478342643100823666881466466304),(10240,421249166674228746791672110734681729275580381602196445017243910144,263280729171392966744795069209176080797237738501372778135777443840),(2048,842498333348457493583344221469363458551160763204392890034487820288,52656145834278593348959013841835216159447547700274555627155489280),(2048,1684996666696914987166688442938726917102321526408785780068975640576,52656145834278593348959013841835216159447547700274555627172265984),(2048,3369993333393829974333376885877453834204643052817571560137951281152,52656145834278593348959013841835216159447547700274555627155619840),(133120,6739986666787659948666753771754907668409286105635143120275902562304,3422649479228108567682335899719289050364090600517846115765106769920),(378880,13479973333575319897333507543509815336818572211270286240551805124608,9320137812667311022765745450004833260222215942948596346006521511936),(526336,26959946667150639794667015087019630673637144422540572481103610249216,13532629479409598490682466557351650552978019758970560796178960613376),(526336,53919893334301279589334030174039261347274288845081144962207220498432,13532629479409598490682466557351650552978019758970560796178960613376),(3688448,107839786668602559178668060348078522694548577690162289924414440996864,81353745313960426724141676385635408966346461196924188443955230146560),(4196352,215679573337205118357336120696157045389097155380324579848828881993728,107892442814436837772017019361920357910708025237862564480041596485632),(16777215,64,215679573337205118357336120696157045389097155380324579848828881993728)]
theorem body33:bodyB Tryz.prog 33 = true:=by kernel_rfl
def wardmotelaw23_SplitNests_l1 (_n:Nat) (g0:(List Int) × Int) (a2:UInt8) (q0:Int) (u0:(List Int) × Int) (j0:Int × Nat → Option Int):Int × Nat → Option Int
  | (c0,b0)=>(if b0 < g0.1.length then (g0.1[b0]?).bind fun s0=>(remI s0 ((1 + ((a2 % (3:UInt8)).toNat):Nat):Int)).bind fun k0=>jn (fun v0=>j0 (v0,b0 + 1)) (fun d0=>(if k0 = q0 then (u0.1[b0]?).bind fun t0=>(chk (c0 + t0)).bind fun p0=>d0 p0 else d0 c0)) else some c0)
def wardmotelaw23_SplitNests_l2 (n:Nat) (k0:List Int) (q0:List TUnit) (t0:(List Int) × Int) (d0:Nat × (List Int) → Option (List Int)):Nat × (List Int) → Option (List Int)
  | (b0,c0)=>(if b0 < k0.length then (q0[b0]?).bind fun g0=>(g0.fw[1]?).bind fun j0=>(slices_Index_int_int_p n t0.1 j0).bind fun s0=>(c0[b0]?).bind fun _x1168=>(put c0 ((b0:Nat):Int) s0).bind fun p0=>d0 (b0 + 1,p0) else some c0)
def wardmotelaw23_SplitNests_l3 (n:Nat) (c0:(List Int) × Int) (p0:(List Int) × Int) (a2:UInt8) (k0:(List Int) × Int) (q0:(List Int) × Int) (d0:Nat → Option (Bool ⊕ Unit)):Nat → Option (Bool ⊕ Unit)
  | b0=>(if b0 < c0.1.length then (c0.1[b0]?).bind fun g0=>Option.bind (loopF (wardmotelaw23_SplitNests_l1 n p0 a2 g0 k0) n (0,0)) (fun s0=>(q0.1[b0]?).bind fun j0=>(if s0 < j0 then some (.inl false) else d0 (b0 + 1))) else some (.inr ()))
def wardmotelaw23_SplitNests_l4 (_n:Nat) (t0:TRoll) (a2:UInt8) (k0:Nat × (List TUnit) → Option (List TUnit)):Nat × (List TUnit) → Option (List TUnit)
  | (c0,d0)=>(if c0 < t0.fm.length then (d0[c0]?).bind fun b0=>jn (fun q0=>k0 (c0 + 1,q0)) (fun g0=>(if b0.fo = true then g0 d0 else (b0.fw[0]?).bind fun j0=>(remI j0 ((1 + ((a2 % (3:UInt8)).toNat):Nat):Int)).bind fun p0=>(put d0 ((c0:Nat):Int) (⟨b0.ft,b0.fp,b0.fe,b0.fC,([j0,p0]:List Int),b0.fo⟩:TUnit)).bind fun s0=>g0 s0)) else some d0)
def wardmotelaw23_SplitNests_p (n:Nat) (a0:TDraft) (a1:TDraft26) (a2:UInt8):Option Bool:=
  (wardmotelaw23_works_p n).bind fun C0=>(if C0 = true then (wardmoteref21_Draft_Loose_p n a0).bind fun j0=>(wardmoteref22_Draft_Full_p n a1 ((j0.1.length:Nat):Int)).bind fun b0=>Option.bind (loopF (wardmotelaw23_SplitNests_l4 n b0 a2) n (0,b0.fm)) (fun c0=>(split_Nested_p n (⟨b0.fe,b0.fc,b0.fh,c0⟩:TRoll) (0:Int) (0:Int)).bind fun x0=>(wardmotelaw23_truth_1_p n x0.1 x0.2 true).bind fun D0=>(if D0 = true then (split_Nested_p n (⟨b0.fe,b0.fc,b0.fh,c0⟩:TRoll) (0:Int) (1:Int)).bind fun y0=>(wardmotelaw23_truth_1_p n y0.1 y0.2 true).bind fun E0=>(if E0 = true then (split_Pieces_p n (⟨b0.fe,b0.fc,b0.fh,c0⟩:TRoll) j0.1 j0.2 (0:Int)).bind fun p0=>(split_Parents_p n (⟨b0.fe,b0.fc,b0.fh,c0⟩:TRoll) (0:Int)).bind fun k0=>(split_Pieces_p n (⟨b0.fe,b0.fc,b0.fh,c0⟩:TRoll) j0.1 j0.2 (1:Int)).bind fun q0=>(split_Parents_p n (⟨b0.fe,b0.fc,b0.fh,c0⟩:TRoll) (1:Int)).bind fun d0=>jn (fun z0=>(if z0 = true then some false else thn (loopF (wardmotelaw23_SplitNests_l3 n d0 k0 a2 p0 q0) n 0) (fun _=>(mk ((j0.1.length:Nat):Int) (0:Int)).bind fun s0=>Option.bind (loopF (wardmotelaw23_SplitNests_l2 n s0 c0 d0) n (0,s0)) (fun t0=>(split_Splits_p n (⟨b0.fe,b0.fc,b0.fh,c0⟩:TRoll) t0 ((d0.1.length:Nat):Int) (1:Int)).bind fun u0=>(wardmotelaw23_count_1_p n u0.1 u0.2 (0:Int) ((d0.1.length:Nat):Int)).bind fun A0=>(if A0 = true then (split_Splits_p n (⟨b0.fe,b0.fc,b0.fh,c0⟩:TRoll) t0 ((d0.1.length:Nat):Int) (0:Int)).bind fun v0=>(wardmotelaw23_count_1_p n v0.1 v0.2 (0:Int) ((k0.1.length:Nat):Int)).bind fun B0=>some B0 else some false))))) (fun g0=>(if p0.2 = 0 then (if k0.2 = 0 then (if q0.2 = 0 then (if d0.2 = 0 then (if p0.1.length = k0.1.length then g0 (!(decide (q0.1.length = d0.1.length))) else g0 true) else g0 true) else g0 true) else g0 true) else g0 true)) else some false) else some false)) else some false)
theorem wardmotelaw23_SplitNests_c (n:Nat) (L:List Nat) (w:World) (hL:∀ b ∈ L,b < w.heap.size) (a0:TDraft) {v0_1:Value} (h0_1:Rep.R w L [v0_1] a0.fw) {v0_2:Value} (h0_2:Rep.R w L [v0_2] a0.fMore) {v0_3:Value} (h0_3:Rep.R w L [v0_3] a0.fE) (a1:TDraft26) {v1_4:Value} (h1_4:Rep.R w L [v1_4] a1.fF) (a2:UInt8)  {r:Bool} (h:wardmotelaw23_SplitNests_p n a0 a1 a2 = some r) :
    Calls Tryz.prog 7 #[.agg #[.int .u8 (a0.fN.toNat:Int),v0_1,v0_2,v0_3,.int .u8 (a0.fK.toNat:Int)],.agg #[.int .u8 (a1.fe.toNat:Int),.int .u8 (a1.fc.toNat:Int),.int .u8 (a1.fh.toNat:Int),.int .u8 (a1.fo.toNat:Int),v1_4],.int .u8 (a2.toNat:Int)] w (Gives w fun _ u=>u = .bool r):=by
 unfold wardmotelaw23_SplitNests_p at h
 have hS0:=AD w
 refine AI Tryz.func7 rfl rfl rfl (fun _ cs0 hb0=>?_)
 refine Ae<|Az .plain rfl (AK hS0 rfl rfl) (fun w11 b14 v5 k01=>?_)
 refine Az .plain rfl (AK v5 rfl rfl) (fun w16 b19 X0 p01=>?_)
 refine Af rfl<|Aa<|Aj<|Ae ?_
 obtain ⟨y20,u9,h⟩:=bi h
 refine Bp (.bool y20) body9 rfl evs_nil (fun w9 hw9=>wardmotelaw23_works_c n _ w9 (X0.hL0 hL hw9)  u9) rfl<|Ac (Be rfl)<|Aa<|MX.ifnb rfl h (fun J4 h=>?_) (fun J4 h=>?_)
 refine Am<|Ae<|Ac (AE rfl (X0.memA (.tl .hd))) ?_
 obtain ⟨s0,x9,h⟩:=bi h
 refine AQ (fst:=[]) (cap:=[]) .plain body10 rfl (e1 rfl) (fun w9 hw9=>wardmoteref21_Draft_Loose_c n _ w9 (X0.hL hL hw9) a0 (X0.km h0_1 hw9) (X0.km h0_2 hw9) (X0.km h0_3 hw9) x9) rfl (fun w23 B02 Y5 ⟨z1,hu_,M1⟩=>?_)
 subst hu_
 obtain ⟨s1,q01⟩:=X0.agr Y5
 refine Ab rfl<|Ac (Ak rfl rfl)<|Ac (Ak rfl rfl)<|Af rfl<|Af rfl<|Aa<|Ae<|Ac (AE rfl (s1.memA .hd))<|Ab rfl ?_
 have F01:s0.1.length ≤ 281474976710656:=AO M1
 refine Ac (AZ (xs:=s0.1) Tryz.underlying33 rfl M1) ?_
 obtain ⟨c0,y9,h⟩:=bi h
 refine AQ (fst:=[]) (cap:=[]) .plain body11 rfl (e2 rfl rfl) (fun w9 hw9=>own_gives (b0:=w.heap.size) (wardmoteref22_Draft_Full_c n _ w9 (s1.hL hL hw9) a1 (s1.km h1_4 hw9) ((s0.1.length:Nat):Int) y9) hw9 (Nat.le_trans s1.ag.size hw9.size)) rfl (fun w32 C02 u01 ⟨d0,D2,P8,c4,k6⟩=>?_)
 subst P8
 have Z2:=own_push s1 c4
 have R5:=own_tr s1 c4
 have p6:=Av (cs:=D2) (xs:=(c0.fm:List TUnit)) Z2 L (own_cells k6)
 refine Az .plain rfl (Ba [vI 0,vI 0,vI 0,vN] Z2) (fun w45 g0 b3 p3=>?_)
 refine Bu [vI c0.fe,vI c0.fc,vI c0.fh,d0] b3 .hd (o4 rfl rfl rfl (St.o1 (α:=TUnit) b3 (.tl .hd))) (fun P9 c2 q3=>?_)
 refine Aa<|Aj<|Ae<|Bf 3 rfl<|AN rfl ((c2.memA .hd) 3 _ rfl) ?_
 have G01:c0.fm.length ≤ 4294967296:=St.rowLe (α:=TUnit) c2 (.tl .hd)
 obtain ⟨A53,c54,F6⟩:=St.rowV (α:=TUnit) c2 (.tl .hd)
 refine Ac (FV.lenV Tryz.underlying36 rfl F6)<|Ab rfl<|Aa<|Au ?_
 obtain ⟨D5,j3⟩:=Ay c2 (.one .hd (.one .hd .done))
 have c8:=Tt p3 (Tt q3 j3)
 have y7:=Ap p6 c8
 obtain ⟨d02,Q7,R6⟩:=bind_in2 h
 refine AW (α:=Nat × (List TUnit) × (List Value)) (fun ⟨y0,v0,P0⟩=>[(2,.int .u8 (a2.toNat:Int)),(7,z1),(8,vI s0.2),(9,vP g0),(39,vI ((c0.fm.length:Nat):Int)),(40,vI ((y0:Nat):Int))]) (fun ⟨y0,v0,P0⟩ A1=>St w A1 [.cells g0 [vI c0.fe,vI c0.fc,vI c0.fh,d0] 38,.row w.heap.size 61 (Rep.size TUnit) d0 v0.length P0]∧Tr P9 [.cells g0 [vI c0.fe,vI c0.fc,vI c0.fh,d0] 38,.row w.heap.size 61 (Rep.size TUnit) d0 c0.fm.length D2] A1 [.cells g0 [vI c0.fe,vI c0.fc,vI c0.fh,d0] 38,.row w.heap.size 61 (Rep.size TUnit) d0 v0.length P0]∧Cells A1 (bl [.cells g0 [vI c0.fe,vI c0.fc,vI c0.fh,d0] 38,.row w.heap.size 61 (Rep.size TUnit) d0 v0.length P0] ++ L) P0 v0) (fun ⟨y0,v0,P0⟩=>(y0,v0)) (0,c0.fm,D2) Q7 ⟨rfl,rfl,rfl,rfl,rfl,rfl,trivial⟩ ⟨D5,AA _ _,y7⟩ ?_
 rintro y00 ⟨y0,v0,P0⟩ A1 q5 ⟨B0,k3,y1⟩ h
 unfold wardmotelaw23_SplitNests_l4 at h
 try dsimp only at h
 refine Ae<|Ac (Bg (i:=y0) (j:=c0.fm.length) rfl rfl)<|Aa<|Aj<|AM rfl h (fun K4 h=>?_) (fun K4 h=>?_)
 refine Am<|Aj<|Au<|Ae<|Ab rfl<|Af rfl<|Aa<|Ae<|Bf 3 rfl<|AN rfl ((B0.memA .hd) 3 _ rfl)<|Ab rfl ?_
 obtain ⟨H0,V2,h⟩:=bi h
 obtain ⟨v4,M00,K1,k2,d01,t8,Q2⟩:=St.nth (α:=TUnit) B0 (.tl .hd) y1 V2
 obtain ⟨z4,P00,C6⟩:=St.nthOwn (α:=TUnit) B0 (.tl .hd) k2
 obtain rfl:v4 = ⟨z4,0,none⟩:=by rw [C6] at K1; cases K1; rfl
 obtain ⟨s02,t02,u02,rfl,R01,U01,v8⟩:=op_TUnit t8
 refine Ac (AY 6 y0 rfl K1 rfl rfl k2)<|Bf 5 rfl<|AN rfl (Q2 5 _ rfl)<|Ac (Be rfl)<|Aa<|MX.join (α:=(List TUnit) × (List Value)) (fun ⟨V0,W0⟩=>[(2,.int .u8 (a2.toNat:Int)),(7,z1),(8,vI s0.2),(9,vP g0),(39,vI ((c0.fm.length:Nat):Int)),(40,vI ((y0:Nat):Int))]) (fun ⟨V0,W0⟩ t2=>St w t2 [.cells g0 [vI c0.fe,vI c0.fc,vI c0.fh,d0] 38,.row w.heap.size 61 (Rep.size TUnit) d0 V0.length W0]∧Tr A1 [.cells g0 [vI c0.fe,vI c0.fc,vI c0.fh,d0] 38,.row w.heap.size 61 (Rep.size TUnit) d0 v0.length P0] t2 [.cells g0 [vI c0.fe,vI c0.fc,vI c0.fh,d0] 38,.row w.heap.size 61 (Rep.size TUnit) d0 V0.length W0]∧Cells t2 (bl [.cells g0 [vI c0.fe,vI c0.fc,vI c0.fh,d0] 38,.row w.heap.size 61 (Rep.size TUnit) d0 V0.length W0] ++ L) W0 V0) (fun ⟨V0,W0⟩=>V0) h ?_ ?_
 rintro ⟨V0,W0⟩ t2 ⟨E5,U5,q6⟩ h
 try dsimp only at h
 refine Aq<|Al<|Ac (AT (i:=y0) (j:=1) rfl rfl (by omega))<|Ab rfl<|Aa ?_
 exact q5 (y0 + 1,V0,W0) _ _ ⟨rfl,rfl,rfl,rfl,rfl,rfl,trivial⟩ ⟨E5,(Tt k3 U5),q6⟩ h
 intro z00 X2 h
 try dsimp only at h
 refine MX.ifnb rfl h (fun M4 h=>?_) (fun M4 h=>?_)
 refine Am ?_
 exact X2 (v0,P0) _ _ ⟨rfl,rfl,rfl,rfl,rfl,rfl,trivial⟩ ⟨B0,AA _ _,y1⟩ h
 refine dt 27 tb7_9 (fun k0 q0=>?_)
 refine Ai 0 1 k0 rfl q0 (fun _=>Br 3 rfl) rfl<|AV 1 3 234881024 k0 rfl q0 (AJ rfl ((B0.memA .hd) 3 _ rfl)) rfl<|Ai 2 7 k0 rfl q0 (fun _=>Ah rfl) rfl<|Ai 3 15 k0 rfl q0 (fun _=>Br 3 rfl) rfl<|AV 4 31 251660224 k0 rfl q0 (AJ rfl ((B0.memA .hd) 3 _ rfl)) rfl<|Ai 5 63 k0 rfl q0 (fun _=>Ah rfl) rfl<|Ai 6 127 k0 rfl q0 (fun _=>AY 6 y0 rfl K1 rfl rfl k2) rfl<|Ai 7 255 k0 rfl q0 (fun _=>Br 4 rfl) rfl<|AV 8 511 251659776 k0 rfl q0 (AJ rfl (Q2 4 _ rfl)) rfl ?_
 obtain ⟨K0,X8,h⟩:=bi h
 obtain ⟨p00,Q00,v3,A3,c5,x8,H3⟩:=AS v8 X8
 have D6:c5 = [vI K0]:=x8; subst D6
 refine Ai 9 1023 k0 rfl q0 (fun _=>AY 1 0 rfl v3 rfl rfl A3) rfl<|AV 10 2047 251658240 k0 rfl q0 (AJ rfl (H3 0 _ rfl)) rfl<|Ai 11 4095 k0 rfl q0 (fun _=>Br 3 rfl) rfl<|AV 12 8191 260554752 k0 rfl q0 (AJ rfl ((B0.memA .hd) 3 _ rfl)) rfl<|Ai 13 16383 k0 rfl q0 (fun _=>Ah rfl) rfl<|Ai 14 32767 k0 rfl q0 (fun _=>AY 6 y0 rfl K1 rfl rfl k2) rfl<|Ai 15 65535 k0 rfl q0 (fun _=>Br 4 rfl) rfl<|AV 16 131071 260440064 k0 rfl q0 (AJ rfl (Q2 4 _ rfl)) rfl<|Ai 17 262143 k0 rfl q0 (fun _=>AY 1 0 rfl v3 rfl rfl A3) rfl<|AV 18 524287 260046848 k0 rfl q0 (AJ rfl (H3 0 _ rfl)) rfl<|Ai 19 1048575 k0 rfl q0 (fun _=>Ah rfl) rfl<|Ai 20 2097151 k0 rfl q0 (fun _=>FV.rem8 (a:=a2) (b:=(3:UInt8)) rfl rfl (by decide)) rfl ?_
 have Z01:=(a2 % (3:UInt8)).toNat_lt
 refine Ai 21 4194303 k0 rfl q0 (fun _=>FV.convN (i:=(a2 % (3:UInt8)).toNat) Tryz.underlying5 Tryz.underlying3 rfl (by omega)) rfl<|Ai 22 8388607 k0 rfl q0 (fun _=>AT (i:=1) (j:=(a2 % (3:UInt8)).toNat) rfl rfl (by omega)) rfl ?_
 obtain ⟨U0,H8,h⟩:=bi h
 refine Ai 23 16777215 k0 rfl q0 (fun _=>FV.remc (i:=K0) (j:=((1 + ((a2 % (3:UInt8)).toNat):Nat):Int)) rfl rfl H8) rfl<|RD.nu 24 33554431 k0 rfl .plain rfl (AF (α:=Int) (xs:=([K0,U0]:List Int)) (vs:=[vI K0,vI U0]) (ds' :=[vI K0,vI U0]) rfl B0 el32 rfl (e2 rfl rfl) (by kernel_rfl) rfl) (fun V02 C2 u1 J2=>?_)
 have s6:=Av (cs:=[vI K0,vI U0]) (xs:=(([K0,U0]:List Int):List Int)) u1 L (Ax (cs:=[vI K0]) (ds:=[vI U0]) rfl (Ax (cs:=[vI U0]) (ds:=[]) rfl (AC _ _)))
 have z7:=Ap y1 J2
 obtain ⟨x4,R00,P2,B3,g01,y8,K01⟩:=St.nth (α:=TUnit) u1 (.tl (.tl .hd)) z7 V2
 obtain ⟨A4,U00,x3⟩:=St.nthOwn (α:=TUnit) u1 (.tl (.tl .hd)) B3
 obtain rfl:x4 = ⟨A4,0,none⟩:=by rw [x3] at P2; cases P2; rfl
 obtain ⟨v02,x02,y02,rfl,V01,W01,X01⟩:=op_TUnit y8
 refine Ai 25 67108863 k0 rfl q0 (fun _=>AY 6 y0 rfl P2 rfl rfl B3) rfl<|Ai 26 134217727 k0 rfl q0 (fun _=>Br 4 rfl) rfl ?_
 have z8:=AU (α:=Int) u1 .hd s6 hL
 have E2:=Bk u1 .hd
 have s3:=Bl u1 .hd
 have U2:=Bm (α:=Int) (v:=(vS C2 2)) (xs:=([K0,U0]:List Int)) E2 L z8
 have I3:=Ap y1 (Tt J2 s3)
 obtain ⟨V00,E6,y01,j01,A8,M01,u6⟩:=St.nthAt (α:=TUnit) E2 (.tl .hd) I3 V2 x3
 obtain ⟨j4,k4,J9,rfl,B8,C8,Y01⟩:=op_TUnit A8
 obtain ⟨W9,g9,h⟩:=bi h
 refine RD.one (i:=27) (rk k0) (RO.acts (m' :=268435455) (sk k0) rfl rfl .plain (Acts.setPart (α:=TUnit) (i:=y0) (tot:=4) (ds:=[.string H0.ft,vI H0.fp,j4,k4,J9,.bool H0.fo]) (news:=[(vS C2 2)]) (full:=[.string H0.ft,vI H0.fp,j4,k4,(vS C2 2),.bool H0.fo]) g9 E2 E6 (fun _=>(.tl .hd)) I3 u6 rfl (by kernel_rfl) rfl rfl rfl (Rep.c1 U2) (mk_TUnit H0.ft H0.fp H0.fe B8 H0.fC C8 ([K0,U0]:List Int) U2 H0.fo) (by kernel_rfl) (o1 (BI U2))) (fun W02 ⟨d5,F5,V5,t6⟩=>?_))
 refine AX (dk k0) ?_
 have d8:=Tt J2 (Tt s3 V5)
 exact X2 (W9,d5) _ _ ⟨rfl,rfl,rfl,rfl,rfl,rfl,trivial⟩ ⟨F5,d8,t6⟩ h
 refine AR rfl ?_
 have h:=R6 _ h
 try dsimp only at h
 refine Aj<|Aj<|dt 16 tb7_11 (fun t0 x0=>?_)
 refine AV 1 2 65532 t0 rfl x0 (AE rfl (B0.memA .hd)) rfl<|RD.cl 0 3 t0 rfl .plain body24 rfl (e1 rfl) (fun w9 hw9=>BC (wardmotelaw23_truth_c n _ w9 (B0.hL hL hw9) true) fun (w8:World) (u8:Value) ⟨b0_,hu_,s_⟩=>(⟨b0_,hu_,s_.from hw9⟩:∃ E1:Nat,u8 = Value.func (.func 57) #[] #[vP E1]∧St A1 w8 [.cells E1 [.bool true] 4])) rfl (fun Q9 D02 v01 ⟨E1,Q8,d4⟩=>?_)
 subst Q8
 have Q0:=mk_push1 B0 d4
 have K2:=mk_tr1 B0 d4
 obtain ⟨z2,z9,h⟩:=bi h
 have A7:=Ap y1 K2
 refine RD.cq 2 7 65528 (.tuple #[.bool z2.1,vI z2.2]) t0 rfl x0 body31 rfl (e3 rfl rfl rfl) (fun w9 hw9=>split_Nested_c n _ w9 (Q0.hL0 hL hw9) (⟨c0.fe,c0.fc,c0.fh,v0⟩:TRoll) (AH (St.lend (α:=TUnit) (L:=L) Q0 (.tl (.tl .hd)) A7 hL) hw9) (0:Int) (0:Int) z9) rfl<|Ai 3 15 t0 rfl x0 (fun _=>Ak rfl rfl) rfl<|Ai 4 31 t0 rfl x0 (fun _=>Ak rfl rfl) rfl ?_
 obtain ⟨c00,A9,h⟩:=bi h
 refine RD.callq (i:=5) (m' :=63) (W:=65472) (tk t0) rfl x0 (v:=.bool c00) (fst:=[]) (cap:=[vP E1]) .plain body57 rfl (e2 rfl rfl) (fun w9 hw9=>wardmotelaw23_truth_1_c n _ w9 (Q0.hL0 hL hw9) z2.1 z2.2 true (fun j9 v9 h9=>hw9.cell0 ((Q0.memA .hd) j9 v9 h9)) A9) rfl<|Ai 6 127 t0 rfl x0 (fun _=>Be rfl) rfl<|Ai 7 255 t0 rfl x0 (fun _=>Ah rfl) rfl<|RD.ifnb (s:=85) rfl h (fun P4 h=>?_) (fun P4 h=>?_)
 refine RD.val (i:=9) (m' :=767) (W:=64512) (tk t0) rfl x0 (.yes rfl rfl) (AE rfl (Q0.memA (.tl .hd))) rfl<|RD.cl 8 1023 t0 rfl (.yes rfl rfl) body24 rfl (e1 rfl) (fun w9 hw9=>BC (wardmotelaw23_truth_c n _ w9 (Q0.hL hL hw9) true) fun (w8:World) (u8:Value) ⟨b0_,hu_,s_⟩=>(⟨b0_,hu_,s_.from hw9⟩:∃ F1:Nat,u8 = Value.func (.func 57) #[] #[vP F1]∧St Q9 w8 [.cells F1 [.bool true] 4])) rfl (fun X02 E02 x01 ⟨F1,R8,g4⟩=>?_)
 subst R8
 have R0:=mk_push1 Q0 g4
 have t3:=mk_tr1 Q0 g4
 obtain ⟨A2,B9,h⟩:=bi h
 have J3:=Ap y1 (Tt K2 t3)
 refine RD.callq (i:=10) (m' :=2047) (W:=63488) (tk t0) rfl x0 (v:=.tuple #[.bool A2.1,vI A2.2]) (fst:=[]) (cap:=[]) (.yes rfl rfl) body31 rfl (e3 rfl rfl rfl) (fun w9 hw9=>split_Nested_c n _ w9 (R0.hL0 hL hw9) (⟨c0.fe,c0.fc,c0.fh,v0⟩:TRoll) (AH (St.lend (α:=TUnit) (L:=L) R0 (.tl (.tl (.tl .hd))) J3 hL) hw9) (0:Int) (1:Int) B9) rfl<|Bb 11 4095 t0 rfl x0 (.yes rfl rfl) (fun _=>Ak rfl rfl) rfl<|Bb 12 8191 t0 rfl x0 (.yes rfl rfl) (fun _=>Ak rfl rfl) rfl ?_
 obtain ⟨d00,C9,h⟩:=bi h
 refine RD.callq (i:=13) (m' :=16383) (W:=49152) (tk t0) rfl x0 (v:=.bool d00) (fst:=[]) (cap:=[vP F1]) (.yes rfl rfl) body57 rfl (e2 rfl rfl) (fun w9 hw9=>wardmotelaw23_truth_1_c n _ w9 (R0.hL0 hL hw9) A2.1 A2.2 true (fun j9 v9 h9=>hw9.cell0 ((R0.memA .hd) j9 v9 h9)) C9) rfl<|Bb 14 32767 t0 rfl x0 (.yes rfl rfl) (fun _=>Be rfl) rfl<|Ai 15 65535 t0 rfl x0 (fun _=>AP rfl rfl) rfl<|AX (dk t0)<|MX.ifnb rfl h (fun Q4 h=>?_) (fun Q4 h=>?_)
 refine Am<|Ae<|Ac (AE rfl (R0.memA (.tl (.tl .hd))))<|Ab rfl<|Ab rfl ?_
 have D8:=AU (α:=TUnit) R0 (.tl (.tl (.tl .hd))) J3 hL
 have F2:=Bk R0 (.tl (.tl (.tl .hd)))
 have W5:=Bl R0 (.tl (.tl (.tl .hd)))
 have j1:=Bm (α:=TUnit) (v:=d0) (xs:=v0) F2 L D8
 obtain ⟨B2,D9,h⟩:=bi h
 have R3:=Tt R5 (Tt p3 (Tt q3 (Tt j3 (Tt k3 (Tt K2 (Tt t3 W5))))))
 have B7:=Aw M1 R3
 refine AQ (fst:=[]) (cap:=[]) .plain body15 rfl (e4 rfl rfl rfl rfl) (fun w9 hw9=>split_Pieces_c n _ w9 (F2.hL hL hw9) (⟨c0.fe,c0.fc,c0.fh,v0⟩:TRoll) (AH j1 hw9) s0.1 (AH B7 hw9) s0.2 (0:Int) D9) rfl (fun Y02 F02 Z5 ⟨q2,hu_,W3⟩=>?_)
 subst hu_
 obtain ⟨G2,g2⟩:=F2.agr Z5
 refine Ab rfl<|Ac (Ak rfl rfl)<|Ac (Ak rfl rfl)<|Af rfl<|Af rfl<|Aa<|Ae<|Ac (AE rfl (G2.memA (.tl (.tl .hd)))) ?_
 obtain ⟨A0,E9,h⟩:=bi h
 have C7:=Aw j1 g2
 refine AQ (fst:=[]) (cap:=[]) .plain body22 rfl (e2 rfl rfl) (fun w9 hw9=>split_Parents_c n _ w9 (G2.hL hL hw9) (⟨c0.fe,c0.fc,c0.fh,v0⟩:TRoll) (AH C7 hw9) (0:Int) E9) rfl (fun Z02 G02 b6 ⟨p1,hu_,p2⟩=>?_)
 subst hu_
 obtain ⟨H2,I1⟩:=G2.agr b6
 refine Ab rfl<|Ac (Ak rfl rfl)<|Ac (Ak rfl rfl)<|Af rfl<|Af rfl<|Aa<|Ae<|Ac (AE rfl (H2.memA (.tl (.tl .hd))))<|Ab rfl<|Ab rfl ?_
 obtain ⟨V1,F9,h⟩:=bi h
 have D7:=Aw j1 (Tt g2 I1)
 have U3:=Tt R3 (Tt g2 I1)
 have E7:=Aw M1 U3
 refine AQ (fst:=[]) (cap:=[]) .plain body15 rfl (e4 rfl rfl rfl rfl) (fun w9 hw9=>split_Pieces_c n _ w9 (H2.hL hL hw9) (⟨c0.fe,c0.fc,c0.fh,v0⟩:TRoll) (AH D7 hw9) s0.1 (AH E7 hw9) s0.2 (1:Int) F9) rfl (fun b03 H02 c6 ⟨s2,hu_,X3⟩=>?_)
 subst hu_
 obtain ⟨I2,g1⟩:=H2.agr c6
 refine Ab rfl<|Ac (Ak rfl rfl)<|Ac (Ak rfl rfl)<|Af rfl<|Af rfl<|Aa<|Ae<|Ac (AE rfl (I2.memA (.tl (.tl .hd)))) ?_
 obtain ⟨u0,G9,h⟩:=bi h
 have R2:=Tt g2 (Tt I1 g1)
 have F7:=Aw j1 R2
 refine AQ (fst:=[]) (cap:=[]) .plain body22 rfl (e2 rfl rfl) (fun w9 hw9=>split_Parents_c n _ w9 (I2.hL hL hw9) (⟨c0.fe,c0.fc,c0.fh,v0⟩:TRoll) (AH F7 hw9) (1:Int) G9) rfl (fun R9 I02 d6 ⟨Y0,hu_,k1⟩=>?_)
 subst hu_
 obtain ⟨v1,J0⟩:=I2.agr d6
 refine Ab rfl<|Ac (Ak rfl rfl)<|Ac (Ak rfl rfl)<|Af rfl<|Af rfl<|Aa<|Aj<|Aj<|MX.join (α:=Bool) (fun P1=>[(2,.int .u8 (a2.toNat:Int)),(7,z1),(9,vP g0),(11,q2),(13,p1),(15,s2),(17,Y0),(145,.bool P1)]) (fun P1 u2=>St w u2 [.cells g0 [vI c0.fe,vI c0.fc,vI c0.fh,d0] 38]∧Tr R9 [.cells F1 [.bool true] 4,.cells E1 [.bool true] 4,.cells g0 [vI c0.fe,vI c0.fc,vI c0.fh,d0] 38] u2 [.cells g0 [vI c0.fe,vI c0.fc,vI c0.fh,d0] 38]) (fun P1=>P1) h ?_ ?_
 rintro P1 u2 ⟨c3,D0⟩ h
 try dsimp only at h
 refine MX.ifb rfl h (fun R4 h=>?_) (fun R4 h=>?_)
 refine Ae<|Af rfl<|Aa<|Ao rfl<|AL hb0 Tryz.func7 rfl rfl ?_
 cases h
 exact c3.gv
 refine Am<|Aj<|Ae<|Ab rfl ?_
 have K3:=Aw k1 D0
 have H01:u0.1.length ≤ 281474976710656:=AO K3
 refine Ac (AZ (xs:=u0.1) Tryz.underlying32 rfl K3)<|Ab rfl<|Aa<|Au ?_
 obtain ⟨g02,R7,y3⟩:=thn_in h
 refine AW (α:=Nat) (fun z0=>[(2,.int .u8 (a2.toNat:Int)),(7,z1),(9,vP g0),(11,q2),(13,p1),(15,s2),(17,Y0),(146,Y0),(147,vI ((u0.1.length:Nat):Int)),(148,vI ((z0:Nat):Int))]) (fun z0 v2=>St w v2 [.cells g0 [vI c0.fe,vI c0.fc,vI c0.fh,d0] 38]∧Tr u2 [.cells g0 [vI c0.fe,vI c0.fc,vI c0.fh,d0] 38] v2 [.cells g0 [vI c0.fe,vI c0.fc,vI c0.fh,d0] 38]) (fun z0=>z0) 0 R7 ⟨rfl,rfl,rfl,rfl,rfl,rfl,rfl,rfl,rfl,rfl,trivial⟩ ⟨c3,AA _ _⟩ ?_
 rintro B00 z0 v2 s5 ⟨d3,E0⟩ h
 unfold wardmotelaw23_SplitNests_l3 at h
 try dsimp only at h
 refine Ae<|Ac (Bg (i:=z0) (j:=u0.1.length) rfl rfl)<|Aa<|Aj<|AM rfl h (fun U4 h=>?_) (fun U4 h=>?_)
 refine Am<|Aj<|Au<|Ae<|Ab rfl ?_
 obtain ⟨y2,Y8,h⟩:=bi h
 have H7:=Aw k1 (Tt D0 E0)
 obtain ⟨s00,X00,G6,X6,g5,E8,G7⟩:=AS H7 Y8
 have H6:g5 = [vI y2]:=E8; subst H6
 refine Ac (AY 1 z0 rfl G6 rfl rfl X6)<|AN rfl (G7 0 _ rfl)<|Af rfl<|Af rfl<|Aa<|Ae<|Af rfl<|Aa<|Aj<|Ae<|Ab rfl ?_
 have V3:=Tt g1 (Tt J0 (Tt D0 E0))
 have M3:=Aw p2 V3
 have I01:A0.1.length ≤ 281474976710656:=AO M3
 refine Ac (AZ (xs:=A0.1) Tryz.underlying32 rfl M3)<|Ab rfl<|Aa<|Au ?_
 obtain ⟨j02,U7,U6⟩:=bind_in2 h
 refine AW (α:=Int × Nat) (fun ⟨Z0,G0⟩=>[(2,.int .u8 (a2.toNat:Int)),(7,z1),(9,vP g0),(11,q2),(13,p1),(15,s2),(17,Y0),(146,Y0),(147,vI ((u0.1.length:Nat):Int)),(148,vI ((z0:Nat):Int)),(19,vI ((z0:Nat):Int)),(20,vI y2),(21,vI Z0),(153,p1),(154,vI ((A0.1.length:Nat):Int)),(155,vI ((G0:Nat):Int))]) (fun ⟨Z0,G0⟩ x2=>St w x2 [.cells g0 [vI c0.fe,vI c0.fc,vI c0.fh,d0] 38]∧Tr v2 [.cells g0 [vI c0.fe,vI c0.fc,vI c0.fh,d0] 38] x2 [.cells g0 [vI c0.fe,vI c0.fc,vI c0.fh,d0] 38]) (fun ⟨Z0,G0⟩=>(Z0,G0)) (0,0) U7 ⟨rfl,rfl,rfl,rfl,rfl,rfl,rfl,rfl,rfl,rfl,rfl,rfl,rfl,rfl,rfl,rfl,trivial⟩ ⟨d3,AA _ _⟩ ?_
 rintro C00 ⟨Z0,G0⟩ x2 t5 ⟨d2,J1⟩ h
 unfold wardmotelaw23_SplitNests_l1 at h
 try dsimp only at h
 refine Ae<|Ac (Bg (i:=G0) (j:=A0.1.length) rfl rfl)<|Aa<|Aj<|AM rfl h (fun V4 h=>?_) (fun V4 h=>?_)
 refine Am<|Aj<|Au<|Ae<|Ab rfl ?_
 obtain ⟨q4,Z8,h⟩:=bi h
 have J7:=Aw p2 (Tt V3 J1)
 obtain ⟨t00,Y00,I6,Y6,j5,F8,I7⟩:=AS J7 Z8
 have J6:j5 = [vI q4]:=F8; subst J6
 refine Ac (AY 1 G0 rfl I6 rfl rfl Y6)<|AN rfl (I7 0 _ rfl)<|Af rfl<|Af rfl<|Aa<|Ae<|Ab rfl<|Ab rfl<|Ac (FV.rem8 (a:=a2) (b:=(3:UInt8)) rfl rfl (by decide)) ?_
 have b02:=(a2 % (3:UInt8)).toNat_lt
 refine Ac (FV.convN (i:=(a2 % (3:UInt8)).toNat) Tryz.underlying5 Tryz.underlying3 rfl (by omega))<|Ac (AT (i:=1) (j:=(a2 % (3:UInt8)).toNat) rfl rfl (by omega)) ?_
 obtain ⟨H9,I8,h⟩:=bi h
 refine Ac (FV.remc (i:=q4) (j:=((1 + ((a2 % (3:UInt8)).toNat):Nat):Int)) rfl rfl I8)<|Ab rfl<|Ac (FV.eql (i:=H9) (j:=y2) rfl rfl)<|Aa<|MX.join (α:=Int) (fun C1=>[(2,.int .u8 (a2.toNat:Int)),(7,z1),(9,vP g0),(11,q2),(13,p1),(15,s2),(17,Y0),(146,Y0),(147,vI ((u0.1.length:Nat):Int)),(148,vI ((z0:Nat):Int)),(19,vI ((z0:Nat):Int)),(20,vI y2),(21,vI C1),(153,p1),(154,vI ((A0.1.length:Nat):Int)),(155,vI ((G0:Nat):Int))]) (fun C1 W2=>St w W2 [.cells g0 [vI c0.fe,vI c0.fc,vI c0.fh,d0] 38]∧Tr x2 [.cells g0 [vI c0.fe,vI c0.fc,vI c0.fh,d0] 38] W2 [.cells g0 [vI c0.fe,vI c0.fc,vI c0.fh,d0] 38]) (fun C1=>C1) h ?_ ?_
 rintro C1 W2 ⟨G5,X5⟩ h
 try dsimp only at h
 refine Aq<|Al<|Ac (AT (i:=G0) (j:=1) rfl rfl (by omega))<|Ab rfl<|Aa ?_
 exact t5 (C1,G0 + 1) _ _ ⟨rfl,rfl,rfl,rfl,rfl,rfl,rfl,rfl,rfl,rfl,rfl,rfl,rfl,rfl,rfl,rfl,trivial⟩ ⟨G5,(Tt J1 X5)⟩ h
 intro D00 Y2 h
 try dsimp only at h
 refine AM rfl h (fun W4 h=>?_) (fun W4 h=>?_)
 refine Al<|Ab rfl<|Ab rfl<|Ab rfl ?_
 obtain ⟨s4,b9,h⟩:=bi h
 have g8:=Tt I1 (Tt g1 (Tt J0 (Tt D0 (Tt E0 J1))))
 have M7:=Aw W3 g8
 obtain ⟨u00,Z00,K6,Z6,k5,G8,K7⟩:=AS M7 b9
 have M6:k5 = [vI s4]:=G8; subst M6
 refine Ac (AY 1 G0 rfl K6 rfl rfl Z6)<|AN rfl (K7 0 _ rfl) ?_
 obtain ⟨I9,J8,h⟩:=bi h
 refine Ac (By (i:=Z0) (j:=s4) rfl rfl J8)<|Af rfl<|Aa ?_
 exact Y2 I9 _ _ ⟨rfl,rfl,rfl,rfl,rfl,rfl,rfl,rfl,rfl,rfl,rfl,rfl,rfl,rfl,rfl,rfl,trivial⟩ ⟨d2,AA _ _⟩ h
 refine Am ?_
 exact Y2 Z0 _ _ ⟨rfl,rfl,rfl,rfl,rfl,rfl,rfl,rfl,rfl,rfl,rfl,rfl,rfl,rfl,rfl,rfl,trivial⟩ ⟨d2,AA _ _⟩ h
 refine AR rfl ?_
 have h:=U6 _ h
 try dsimp only at h
 refine Ae<|Ab rfl<|Ab rfl ?_
 obtain ⟨t4,c9,h⟩:=bi h
 have V7:=Tt J0 (Tt D0 (Tt E0 J1))
 have d7:=Aw X3 V7
 obtain ⟨v00,b01,P6,b7,X4,j8,c7⟩:=AS d7 c9
 have v6:X4 = [vI t4]:=j8; subst v6
 refine Ac (AY 1 z0 rfl P6 rfl rfl b7)<|AN rfl (c7 0 _ rfl)<|Ab rfl<|Ac (FV.gtr (i:=t4) (j:=Z0) rfl rfl)<|Aa<|AM rfl h (fun B4 h=>?_) (fun B4 h=>?_)
 refine Ae<|Af rfl<|Aa ?_
 have h:=thn_inl h y3
 refine Ao rfl<|AL hb0 Tryz.func7 rfl rfl ?_
 cases h
 exact d2.gv
 refine Am<|Aq<|Al<|Ac (AT (i:=z0) (j:=1) rfl rfl (by omega))<|Ab rfl<|Aa ?_
 exact s5 (z0 + 1) _ _ ⟨rfl,rfl,rfl,rfl,rfl,rfl,rfl,rfl,rfl,rfl,trivial⟩ ⟨d2,(Tt E0 J1)⟩ h
 refine AR rfl ?_
 have h:=thn_inr h y3
 try dsimp only at h
 refine Ae<|Ab rfl ?_
 have W7:=Tt U3 (Tt g1 (Tt J0 (Tt D0 E0)))
 have g7:=Aw M1 W7
 refine Ac (AZ (xs:=s0.1) Tryz.underlying33 rfl g7) ?_
 obtain ⟨B1,Y3,h⟩:=bi h
 refine Az .plain rfl (Does.mk (α:=Int) Y3 d3 el33 rfl) (fun K9 D1 b2 G1=>?_)
 have g6:=Av (cs:=(List.replicate ((s0.1.length:Nat):Int).toNat [vI 0]).flatten) (xs:=B1) b2 L (Cells.mk Y3 rfl)
 refine Af rfl<|Aa<|Aj<|Ae<|Ab rfl ?_
 have z01:B1.length ≤ 4294967296:=St.rowLe (α:=Int) b2 .hd
 obtain ⟨g00,G00,x6⟩:=St.rowV (α:=Int) b2 .hd
 refine Ac (FV.lenV Tryz.underlying33 rfl x6)<|Ab rfl<|Aa<|Au ?_
 obtain ⟨c02,P7,Q6⟩:=bind_in2 h
 refine AW (α:=Nat × (List Int) × (List Value)) (fun ⟨F0,M0,b1⟩=>[(9,vP g0),(13,p1),(17,Y0),(24,(.slice (some ⟨D1,0,none⟩) ((s0.1.length:Nat):Int).toNat ((s0.1.length:Nat):Int).toNat)),(186,vI ((B1.length:Nat):Int)),(187,vI ((F0:Nat):Int))]) (fun ⟨F0,M0,b1⟩ Q1=>St w Q1 [.row w.heap.size 3 (Rep.size Int) (.slice (some ⟨D1,0,none⟩) ((s0.1.length:Nat):Int).toNat ((s0.1.length:Nat):Int).toNat) M0.length b1,.cells g0 [vI c0.fe,vI c0.fc,vI c0.fh,d0] 38]∧Tr K9 [.row w.heap.size 3 (Rep.size Int) (.slice (some ⟨D1,0,none⟩) ((s0.1.length:Nat):Int).toNat ((s0.1.length:Nat):Int).toNat) B1.length ((List.replicate ((s0.1.length:Nat):Int).toNat [vI 0]).flatten),.cells g0 [vI c0.fe,vI c0.fc,vI c0.fh,d0] 38] Q1 [.row w.heap.size 3 (Rep.size Int) (.slice (some ⟨D1,0,none⟩) ((s0.1.length:Nat):Int).toNat ((s0.1.length:Nat):Int).toNat) M0.length b1,.cells g0 [vI c0.fe,vI c0.fc,vI c0.fh,d0] 38]∧Cells Q1 (bl [.row w.heap.size 3 (Rep.size Int) (.slice (some ⟨D1,0,none⟩) ((s0.1.length:Nat):Int).toNat ((s0.1.length:Nat):Int).toNat) M0.length b1,.cells g0 [vI c0.fe,vI c0.fc,vI c0.fh,d0] 38] ++ L) b1 M0) (fun ⟨F0,M0,b1⟩=>(F0,M0)) (0,B1,(List.replicate ((s0.1.length:Nat):Int).toNat [vI 0]).flatten) P7 ⟨rfl,rfl,rfl,rfl,rfl,rfl,trivial⟩ ⟨b2,AA _ _,g6⟩ ?_
 rintro x00 ⟨F0,M0,b1⟩ Q1 p5 ⟨I0,x1,j2⟩ h
 unfold wardmotelaw23_SplitNests_l2 at h
 try dsimp only at h
 refine Ae<|Ac (Bg (i:=F0) (j:=B1.length) rfl rfl)<|Aa<|Aj<|AM rfl h (fun C4 h=>?_) (fun C4 h=>?_)
 refine Am<|Aj<|Au<|Ae<|Ab rfl<|Af rfl<|Aa<|Al<|Ab rfl<|Ab rfl<|Ab rfl<|Bf 3 rfl<|AN rfl ((I0.memA (.tl .hd)) 3 _ rfl)<|Ab rfl ?_
 obtain ⟨c03,U8,h⟩:=bi h
 have X7:=Tt R2 (Tt J0 (Tt D0 (Tt E0 (Tt G1 x1))))
 have k7:=Aw j1 X7
 obtain ⟨j00,H00,y6,V6,c01,k8,j7⟩:=AS k7 U8
 obtain ⟨k02,p02,q02,rfl,P01,Q01,p8⟩:=op_TUnit k8
 refine Ac (AY 6 F0 rfl y6 rfl rfl V6)<|Bf 4 rfl<|AN rfl (j7 4 _ rfl) ?_
 obtain ⟨p4,V8,h⟩:=bi h
 obtain ⟨k00,I00,z6,W6,Y4,q8,p7⟩:=AS p8 V8
 have A6:Y4 = [vI p4]:=q8; subst A6
 refine Ac (AY 1 1 rfl z6 rfl rfl W6)<|AN rfl (p7 0 _ rfl) ?_
 obtain ⟨X9,k9,h⟩:=bi h
 have Y7:=Tt D0 (Tt E0 (Tt G1 x1))
 have q7:=Aw k1 Y7
 refine Bp (vI X9) body33 rfl (e2 rfl rfl) (fun w9 hw9=>slices_Index_int_int_c n _ w9 (I0.hL0 hL hw9) u0.1 (I0.kd q7 hw9) p4 k9) rfl ?_
 obtain ⟨U9,W8,h⟩:=bi h
 obtain ⟨u4,J00,M2,z3,Z4,s8,J01⟩:=St.nth (α:=Int) I0 .hd j2 W8
 obtain ⟨y4,K00,u3⟩:=St.nthOwn (α:=Int) I0 .hd z3
 obtain rfl:u4 = ⟨y4,0,none⟩:=by rw [u3] at M2; cases M2; rfl
 have B6:Z4 = [vI U9]:=s8; subst B6
 refine Ac (AY 1 F0 rfl M2 rfl rfl z3) ?_
 obtain ⟨V9,d9,h⟩:=bi h
 refine RG.acts' .plain (Acts.set (α:=Int) (i:=F0) d9 I0 u3 (fun _=>.hd) j2 rfl rfl rfl rfl rfl (by kernel_rfl)) (fun K02 ⟨b5,u5,H5,j6⟩=>?_)
 refine Aa<|Aq<|Al<|Ac (AT (i:=F0) (j:=1) rfl rfl (by omega))<|Ab rfl<|Aa ?_
 exact p5 (F0 + 1,V9,b5) _ _ ⟨rfl,rfl,rfl,rfl,rfl,rfl,trivial⟩ ⟨u5,(Tt x1 H5),j6⟩ h
 refine AR rfl ?_
 have h:=Q6 _ h
 try dsimp only at h
 refine Aj<|dt 25 tb7_38 (fun j0 p0=>?_)
 refine Ai 0 1 j0 rfl p0 (fun _=>Ah rfl) rfl ?_
 have P3:=Tt D0 (Tt E0 (Tt G1 x1))
 have C3:=Aw k1 P3
 refine AV 1 3 33554308 j0 rfl p0 (AZ (xs:=u0.1) Tryz.underlying32 rfl C3) rfl<|AV 3 11 33554304 j0 rfl p0 (AE rfl (I0.memA (.tl .hd))) rfl<|Ai 4 27 j0 rfl p0 (fun _=>Ah rfl) rfl<|Ai 5 59 j0 rfl p0 (fun _=>Ah rfl) rfl<|AV 6 123 33554304 j0 rfl p0 (AZ (xs:=u0.1) Tryz.underlying32 rfl C3) rfl<|RD.cl 2 127 j0 rfl .plain body26 rfl (e2 rfl rfl) (fun w9 hw9=>BC (wardmotelaw23_count_c n _ w9 (I0.hL hL hw9) (0:Int) ((u0.1.length:Nat):Int)) fun (w8:World) (u8:Value) ⟨b0_,b1_,hu_,s_⟩=>(⟨b0_,b1_,hu_,s_.from hw9⟩:∃ W1 X1:Nat,u8 = Value.func (.func 58) #[] #[vP W1,vP X1]∧St Q1 w8 [.cells W1 [vI 0] 3,.cells X1 [vI ((u0.1.length:Nat):Int)] 3])) rfl (fun M9 z02 s01 ⟨W1,X1,K8,Z3⟩=>?_)
 subst K8
 have C0:=mk_push2 I0 Z3
 have H1:=mk_tr2 I0 Z3
 obtain ⟨R1,p9,h⟩:=bi h
 have Q3:=Tt R2 (Tt J0 (Tt D0 (Tt E0 (Tt G1 (Tt x1 H1)))))
 have s7:=Aw j1 Q3
 have t7:=Ap j2 H1
 refine RD.cq 7 255 33554176 (.tuple #[.agg #[vI R1.1.fx,vI R1.1.fv],vI R1.2]) j0 rfl p0 body17 rfl (e4 rfl rfl rfl rfl) (fun w9 hw9=>split_Splits_c n _ w9 (C0.hL0 hL hw9) (⟨c0.fe,c0.fc,c0.fh,v0⟩:TRoll) (C0.kd s7 hw9) M0 (AH (St.lend (α:=Int) (L:=L) C0 (.tl (.tl .hd)) t7 hL) hw9) ((u0.1.length:Nat):Int) (1:Int) p9) rfl<|Ai 8 511 j0 rfl p0 (fun _=>Ak rfl rfl) rfl<|Ai 9 1023 j0 rfl p0 (fun _=>Ak rfl rfl) rfl ?_
 obtain ⟨Y9,q9,h⟩:=bi h
 refine RD.callq (i:=10) (m' :=2047) (W:=33552384) (tk j0) rfl p0 (v:=.bool Y9) (fst:=[]) (cap:=[vP W1,vP X1]) .plain body58 rfl (e2 rfl rfl) (fun w9 hw9=>wardmotelaw23_count_1_c n _ w9 (C0.hL0 hL hw9) R1.1 R1.2 (0:Int) (fun j9 v9 h9=>hw9.cell0 ((C0.memA .hd) j9 v9 h9)) ((u0.1.length:Nat):Int) (fun j9 v9 h9=>hw9.cell0 ((C0.memA (.tl .hd)) j9 v9 h9)) q9) rfl<|Ai 11 4095 j0 rfl p0 (fun _=>Ah rfl) rfl<|RD.ifb (s:=215) rfl h (fun D4 h=>?_) (fun D4 h=>?_)
 refine Bb 12 8191 j0 rfl p0 (.yes rfl rfl) (fun _=>Ah rfl) rfl ?_
 have Z7:=Tt g1 (Tt J0 (Tt D0 (Tt E0 (Tt G1 (Tt x1 H1)))))
 have D3:=Aw p2 Z7
 have A01:A0.1.length ≤ 281474976710656:=AO D3
 refine RD.val (i:=13) (m' :=16383) (W:=33046528) (tk j0) rfl p0 (.yes rfl rfl) (AZ (xs:=A0.1) Tryz.underlying32 rfl D3) rfl<|RD.val (i:=15) (m' :=49151) (W:=33030144) (tk j0) rfl p0 (.yes rfl rfl) (AE rfl (C0.memA (.tl (.tl (.tl .hd))))) rfl<|Bb 16 114687 j0 rfl p0 (.yes rfl rfl) (fun _=>Ah rfl) rfl<|Bb 17 245759 j0 rfl p0 (.yes rfl rfl) (fun _=>Ah rfl) rfl ?_
 have u7:=Aw k1 (Tt P3 H1)
 refine RD.val (i:=18) (m' :=507903) (W:=33030144) (tk j0) rfl p0 (.yes rfl rfl) (AZ (xs:=u0.1) Tryz.underlying32 rfl u7) rfl<|RD.cl 14 524287 j0 rfl (.yes rfl rfl) body26 rfl (e2 rfl rfl) (fun w9 hw9=>BC (wardmotelaw23_count_c n _ w9 (C0.hL hL hw9) (0:Int) ((A0.1.length:Nat):Int)) fun (w8:World) (u8:Value) ⟨b0_,b1_,hu_,s_⟩=>(⟨b0_,b1_,hu_,s_.from hw9⟩:∃ Y1 Z1:Nat,u8 = Value.func (.func 58) #[] #[vP Y1,vP Z1]∧St M9 w8 [.cells Y1 [vI 0] 3,.cells Z1 [vI ((A0.1.length:Nat):Int)] 3])) rfl (fun M02 A02 t01 ⟨Y1,Z1,M8,b4⟩=>?_)
 subst M8
 have d1:=mk_push2 C0 b4
 have g3:=mk_tr2 C0 b4
 obtain ⟨U1,s9,h⟩:=bi h
 have v7:=Aw j1 (Tt Q3 g3)
 have x7:=Ap j2 (Tt H1 g3)
 refine RD.callq (i:=19) (m' :=1048575) (W:=32505856) (tk j0) rfl p0 (v:=.tuple #[.agg #[vI U1.1.fx,vI U1.1.fv],vI U1.2]) (fst:=[]) (cap:=[]) (.yes rfl rfl) body17 rfl (e4 rfl rfl rfl rfl) (fun w9 hw9=>split_Splits_c n _ w9 (d1.hL0 hL hw9) (⟨c0.fe,c0.fc,c0.fh,v0⟩:TRoll) (d1.kd v7 hw9) M0 (AH (St.lend (α:=Int) (L:=L) d1 (.tl (.tl (.tl (.tl .hd)))) x7 hL) hw9) ((u0.1.length:Nat):Int) (0:Int) s9) rfl<|Bb 20 2097151 j0 rfl p0 (.yes rfl rfl) (fun _=>Ak rfl rfl) rfl<|Bb 21 4194303 j0 rfl p0 (.yes rfl rfl) (fun _=>Ak rfl rfl) rfl ?_
 obtain ⟨Z9,t9,h⟩:=bi h
 refine RD.callq (i:=22) (m' :=8388607) (W:=25165824) (tk j0) rfl p0 (v:=.bool Z9) (fst:=[]) (cap:=[vP Y1,vP Z1]) (.yes rfl rfl) body58 rfl (e2 rfl rfl) (fun w9 hw9=>wardmotelaw23_count_1_c n _ w9 (d1.hL0 hL hw9) U1.1 U1.2 (0:Int) (fun j9 v9 h9=>hw9.cell0 ((d1.memA .hd) j9 v9 h9)) ((A0.1.length:Nat):Int) (fun j9 v9 h9=>hw9.cell0 ((d1.memA (.tl .hd)) j9 v9 h9)) t9) rfl<|Ai 23 16777215 j0 rfl p0 (fun _=>Bz rfl rfl) rfl<|Ai 24 33554431 j0 rfl p0 (fun _=>Bw rfl) rfl<|AX (dk j0)<|Ao rfl<|AL hb0 Tryz.func7 rfl rfl ?_
 cases h
 exact d1.gv
 refine Bo 8388607 2 [(12,216),(13,217),(14,218),(15,219),(16,220),(17,221),(18,222),(19,223),(20,224),(21,225),(22,226)] (F:=[(215,false)]) (U:=[]) j0 p0 (.cons rfl .nil) .nil ?_
 dsimp only [offS,List.map]
 refine Ai 23 16777215 j0 rfl p0 (fun _=>AP rfl rfl) rfl<|Ai 24 33554431 j0 rfl p0 (fun _=>Bw rfl) rfl<|AX (dk j0)<|Ao rfl<|AL hb0 Tryz.func7 rfl rfl ?_
 cases h
 exact C0.gv
 intro A00 q1 h
 try dsimp only at h
 refine Al<|Ab rfl<|Ac (Bs (i:=B2.2) (j:=0) rfl rfl)<|Ab rfl<|RG.ifn (s:=120) rfl h (fun E4 h=>?_) (fun E4 h=>?_)
 refine Ar (Ah rfl)<|Ar (Bs (i:=A0.2) (j:=0) rfl rfl)<|Bd rfl rfl<|Ab rfl<|RG.ifn (s:=124) rfl h (fun F4 h=>?_) (fun F4 h=>?_)
 refine Ar (Ah rfl)<|Ar (Bs (i:=V1.2) (j:=0) rfl rfl)<|Bd rfl rfl<|Ab rfl<|RG.ifn (s:=128) rfl h (fun G4 h=>?_) (fun G4 h=>?_)
 refine Ar (Ah rfl)<|Ar (Bs (i:=u0.2) (j:=0) rfl rfl)<|Bd rfl rfl<|Ab rfl<|RG.ifn (s:=132) rfl h (fun H4 h=>?_) (fun H4 h=>?_)
 refine Ar (Ah rfl) ?_
 have b8:=Tt I1 (Tt g1 J0)
 have E3:=Aw W3 b8
 have B01:B2.1.length ≤ 281474976710656:=AO E3
 refine Ar (AZ (xs:=B2.1) Tryz.underlying32 rfl E3)<|Ar (Ah rfl) ?_
 have F3:=Aw p2 (Tt g1 J0)
 have C01:A0.1.length ≤ 281474976710656:=AO F3
 refine Ar (AZ (xs:=A0.1) Tryz.underlying32 rfl F3)<|Ar (FV.neqN (i:=B2.1.length) (j:=A0.1.length) rfl rfl)<|Bd rfl rfl<|Ab rfl<|RG.ifn (s:=139) rfl h (fun I4 h=>?_) (fun I4 h=>?_)
 refine Ar (Ah rfl) ?_
 have G3:=Aw X3 J0
 have D01:V1.1.length ≤ 281474976710656:=AO G3
 refine Ar (AZ (xs:=V1.1) Tryz.underlying32 rfl G3)<|Ar (Ah rfl) ?_
 have E01:u0.1.length ≤ 281474976710656:=AO k1
 refine Ar (AZ (xs:=u0.1) Tryz.underlying32 rfl k1)<|Ar (FV.neqN (i:=V1.1.length) (j:=u0.1.length) rfl rfl)<|Bd rfl rfl<|Aa ?_
 obtain ⟨x5,I5⟩:=Ay v1 (.one (.tl (.tl .hd)) .done)
 exact q1 (!(decide (V1.1.length = u0.1.length))) _ _ ⟨rfl,rfl,rfl,rfl,rfl,rfl,rfl,rfl,trivial⟩ ⟨x5,I5⟩ h
 refine Ag<|Ag<|Ag<|Ag<|Ag<|AG rfl rfl<|Aa ?_
 obtain ⟨y5,J5⟩:=Ay v1 (.one (.tl (.tl .hd)) .done)
 exact q1 true _ _ ⟨rfl,rfl,rfl,rfl,rfl,rfl,rfl,rfl,trivial⟩ ⟨y5,J5⟩ h
 refine Ag<|Ag<|Ag<|Ag<|Ag<|AG rfl rfl<|Ab rfl<|Ag<|Ag<|Ag<|Ag<|Ag<|AG rfl rfl<|Aa ?_
 obtain ⟨z5,K5⟩:=Ay v1 (.one (.tl (.tl .hd)) .done)
 exact q1 true _ _ ⟨rfl,rfl,rfl,rfl,rfl,rfl,rfl,rfl,trivial⟩ ⟨z5,K5⟩ h
 refine Ag<|Ag<|AG rfl rfl<|Ab rfl<|Ag<|Ag<|Ag<|Ag<|Ag<|AG rfl rfl<|Ab rfl<|Ag<|Ag<|Ag<|Ag<|Ag<|AG rfl rfl<|Aa ?_
 obtain ⟨A5,M5⟩:=Ay v1 (.one (.tl (.tl .hd)) .done)
 exact q1 true _ _ ⟨rfl,rfl,rfl,rfl,rfl,rfl,rfl,rfl,trivial⟩ ⟨A5,M5⟩ h
 refine Ag<|Ag<|AG rfl rfl<|Ab rfl<|Ag<|Ag<|AG rfl rfl<|Ab rfl<|Ag<|Ag<|Ag<|Ag<|Ag<|AG rfl rfl<|Ab rfl<|Ag<|Ag<|Ag<|Ag<|Ag<|AG rfl rfl<|Aa ?_
 obtain ⟨B5,P5⟩:=Ay v1 (.one (.tl (.tl .hd)) .done)
 exact q1 true _ _ ⟨rfl,rfl,rfl,rfl,rfl,rfl,rfl,rfl,trivial⟩ ⟨B5,P5⟩ h
 refine Ag<|Ag<|AG rfl rfl<|Ab rfl<|Ag<|Ag<|AG rfl rfl<|Ab rfl<|Ag<|Ag<|AG rfl rfl<|Ab rfl<|Ag<|Ag<|Ag<|Ag<|Ag<|AG rfl rfl<|Ab rfl<|Ag<|Ag<|Ag<|Ag<|Ag ?_
 refine AG rfl rfl<|Aa ?_
 obtain ⟨C5,Q5⟩:=Ay v1 (.one (.tl (.tl .hd)) .done)
 exact q1 true _ _ ⟨rfl,rfl,rfl,rfl,rfl,rfl,rfl,rfl,trivial⟩ ⟨C5,Q5⟩ h
 refine Ae<|Af rfl<|Aa<|Ao rfl<|AL hb0 Tryz.func7 rfl rfl ?_
 cases h
 exact R0.gv
 refine Bo 32767 1 [(8,86),(9,87),(10,88),(11,89),(12,90),(13,91),(14,92)] (F:=[(85,true)]) (U:=[]) t0 x0 (.cons rfl .nil) .nil ?_
 dsimp only [offS,List.map]
 refine Ai 15 65535 t0 rfl x0 (fun _=>Bz rfl rfl) rfl<|AX (dk t0)<|Bq rfl<|Ae<|Af rfl<|Aa<|Ao rfl<|AL hb0 Tryz.func7 rfl rfl ?_
 cases h
 exact Q0.gv
 refine Ae<|Af rfl<|Aa<|Ao rfl<|AL hb0 Tryz.func7 rfl rfl ?_
 cases h
 exact X0.gv
def tb67_6:List (Nat × Nat × Nat):=[(0,262144,32),(0,524288,8),(0,1048576,64),(6,2097152,1572864),(8,4194304,2097152),(17,8388608,4456448),(32,16777216,8388608),(0,33554432,128),(128,67108864,33554432),(320,134217728,83886080),(1023,268435456,4456448),(2047,0,402653184)]
def balance_count_totals_l1 (_n:Nat) (a0:Tcount) (a1:List Int) (j0:Nat × (List Int) → Option ((Except Tbroken (List Int)) ⊕ (List Int))):Nat × (List Int) → Option ((Except Tbroken (List Int)) ⊕ (List Int))
  | (b0,c0)=>(if b0 < a0.fj.fm.length then (a0.fj.fm[b0]?).bind fun d0=>(if d0.fo = true then some (.inl (.ok c0)) else (a1[b0]?).bind fun g0=>(idx c0 g0).bind fun p0=>(chk (p0 + d0.fp)).bind fun k0=>(put c0 ((g0.toNat:Nat):Int) k0).bind fun q0=>j0 (b0 + 1,q0)) else some (.inr c0))
def balance_count_totals_p (n:Nat) (a0:Tcount) (a1:List Int):Option (Except Tbroken (List Int)):=
  (balance_count_check_p n a0 a1).bind fun g0=>exc g0 (fun _y23=>(mk a0.fk (0:Int)).bind fun d0=>thn (loopF (balance_count_totals_l1 n a0 a1) n (0,d0)) (fun c0=>some (.ok c0))) (fun b0=>some (.error b0))
theorem balance_count_totals_c (n:Nat) (L:List Nat) (w:World) (hL:∀ b ∈ L,b < w.heap.size) (a0:Tcount) {v0_3:Value} (h0_3:Rep.R w L [v0_3] a0.fj.fm) (a1:List Int) {v1_0:Value} (h1_0:Rep.R w L [v1_0] a1)  {r:Except Tbroken (List Int)} (h:balance_count_totals_p n a0 a1 = some r) :
    Calls Tryz.prog 67 #[.agg #[vI a0.fj.fe,vI a0.fj.fc,vI a0.fj.fh,v0_3,vI a0.fk],v1_0] w (PGives w (fun (y:List Int) w' u=>∃ v0_0:Value,u = v0_0∧Rep.R w' L [v0_0] y) (fun e=>.iface 129 (.agg #[vI e.fD])) r):=by
 unfold balance_count_totals_p at h
 have hS0:=AD w
 refine MX.startP Tryz.func67 rfl rfl rfl (fun _ cs0 hb0 hp0=>?_)
 refine Ae<|Az .plain rfl (AK hS0 rfl rfl) (fun R4 B0 d1 B4=>?_)
 have Z2:=Bn h1_0 d1
 refine Az .plain rfl (AK d1 rfl (Rep.c1 Z2)) (fun U4 C0 d0 C4=>?_)
 refine Af rfl<|Aa<|Ae<|Ac (AE rfl (d0.memA (.tl .hd)))<|AN rfl ((d0.memA .hd) 0 _ rfl) ?_
 obtain ⟨d4,G1,h⟩:=bi h
 rcases d4 with A4 | u5
 have h:=exc_e h
 try dsimp only at h
 refine RG.callE (fst:=[]) (cap:=[]) .plain body83 rfl (e2 rfl rfl) (fun w9 hw9=>balance_count_check_c n _ w9 (d0.hL0 hL hw9) a0 (d0.k0 h0_3 hw9) a1 (d0.k0 h1_0 hw9) G1) (fun V4 K2=>?_)
 obtain ⟨W1,D4⟩:=d0.agr K2
 cases h
 exact PN.leave hp0 Tryz.func67 ⟨W1.ag,rfl⟩
 have h:=exc_o h
 try dsimp only at h
 refine Bp (.tuple #[]) body83 rfl (e2 rfl rfl) (fun w9 hw9=>Calls.okp (balance_count_check_c n _ w9 (d0.hL0 hL hw9) a0 (d0.k0 h0_3 hw9) a1 (d0.k0 h1_0 hw9) G1)) rfl<|Aa<|Ae<|Bf 4 rfl<|AN rfl ((d0.memA (.tl .hd)) 4 _ rfl) ?_
 obtain ⟨b1,F1,h⟩:=bi h
 refine Az .plain rfl (Does.mk (α:=Int) F1 d0 el32 rfl) (fun c5 c0 j1 F4=>?_)
 have P2:=Av (cs:=(List.replicate a0.fk.toNat [vI 0]).flatten) (xs:=b1) j1 L (Cells.mk F1 rfl)
 refine Az .plain rfl (Ba [vN] j1) (fun q5 D0 R0 G2=>?_)
 refine RG.now .plain (Acts.storeAll (news:=[(.slice (some ⟨c0,0,none⟩) a0.fk.toNat a0.fk.toNat)]) R0 .hd rfl rfl rfl (St.c1 (α:=Int) R0 (.tl .hd)) rfl rfl (o1 (St.o1 (α:=Int) R0 (.tl .hd)))) (fun Z3 x0 H2=>?_)
 refine Aa<|Aj<|Ae<|Ac (AE rfl (x0.memA (.tl (.tl (.tl .hd)))))<|AQ (fst:=[]) (cap:=[]) .plain body84 rfl (e1 rfl) (fun w9 hw9=>BC (balance_count_land_c n _ w9 (x0.hL hL hw9) a0 (x0.km h0_3 hw9)) fun (w8:World) (u8:Value) ⟨b0_,hu_,s_⟩=>(⟨b0_,hu_,s_.from hw9⟩:∃ s0:Nat,u8 = Value.func (.func 95) #[] #[vP s0]∧St Z3 w8 [.cells s0 [vI a0.fj.fe,vI a0.fj.fc,vI a0.fj.fh,v0_3,vI a0.fk] 110])) rfl (fun t5 Q4 H4 ⟨s0,Q3,H1⟩=>?_)
 subst Q3
 have q2:=mk_push1 x0 H1
 have I2:=mk_tr1 x0 H1
 refine Aa<|Au<|MX.rangeP (lb:=[vP s0]) rfl q2 rfl body95 Tryz.func95 rfl rfl rfl (fun b4 z0 A0 G0 z4 U0 J2 Y3 u1 K4=>?_)
 refine Ae<|Bf 0 rfl<|Bf 3 rfl<|Ac (AJ rfl ((mem_from (U0.memA (.tl (.tl .hd))) 0) 3 _ rfl)) ?_
 have A1:=Bn h0_3 U0
 have I4:a0.fj.fm.length ≤ 281474976710656:=AO A1
 refine Ac (AZ (xs:=a0.fj.fm) Tryz.underlying36 rfl A1)<|Ab rfl<|Aa<|Au ?_
 have B3:=Tt G2 (Tt H2 (Tt I2 J2))
 have b3:=Ap P2 B3
 obtain ⟨M4,A3,x1⟩:=thn_in h
 refine AW (α:=Nat × (List Int) × (List Value)) (fun ⟨g0,q0,t0⟩=>[(0,.func (.yield z0) #[] #[]),(7,v0_3),(8,vI ((a0.fj.fm.length:Nat):Int)),(9,vI ((g0:Nat):Int))]) (fun ⟨g0,q0,t0⟩ H0=>St w H0 [.obj z0 (lpO G0 .ready none),.obj A0 (.deferred (some [])),.cells s0 [vI a0.fj.fe,vI a0.fj.fc,vI a0.fj.fh,v0_3,vI a0.fk] 110,.cells D0 [(.slice (some ⟨c0,0,none⟩) a0.fk.toNat a0.fk.toNat)] 32,.row w.heap.size 3 (Rep.size Int) (.slice (some ⟨c0,0,none⟩) a0.fk.toNat a0.fk.toNat) q0.length t0,.cells C0 [v1_0] 33,.cells B0 [vI a0.fj.fe,vI a0.fj.fc,vI a0.fj.fh,v0_3,vI a0.fk] 110]∧Tr b4 [.obj z0 (lpO G0 .ready none),.obj A0 (.deferred (some [])),.cells s0 [vI a0.fj.fe,vI a0.fj.fc,vI a0.fj.fh,v0_3,vI a0.fk] 110,.cells D0 [(.slice (some ⟨c0,0,none⟩) a0.fk.toNat a0.fk.toNat)] 32,.row w.heap.size 3 (Rep.size Int) (.slice (some ⟨c0,0,none⟩) a0.fk.toNat a0.fk.toNat) b1.length ((List.replicate a0.fk.toNat [vI 0]).flatten),.cells C0 [v1_0] 33,.cells B0 [vI a0.fj.fe,vI a0.fj.fc,vI a0.fj.fh,v0_3,vI a0.fk] 110] H0 [.obj z0 (lpO G0 .ready none),.obj A0 (.deferred (some [])),.cells s0 [vI a0.fj.fe,vI a0.fj.fc,vI a0.fj.fh,v0_3,vI a0.fk] 110,.cells D0 [(.slice (some ⟨c0,0,none⟩) a0.fk.toNat a0.fk.toNat)] 32,.row w.heap.size 3 (Rep.size Int) (.slice (some ⟨c0,0,none⟩) a0.fk.toNat a0.fk.toNat) q0.length t0,.cells C0 [v1_0] 33,.cells B0 [vI a0.fj.fe,vI a0.fj.fc,vI a0.fj.fh,v0_3,vI a0.fk] 110]∧Cells H0 (bl [.obj z0 (lpO G0 .ready none),.obj A0 (.deferred (some [])),.cells s0 [vI a0.fj.fe,vI a0.fj.fc,vI a0.fj.fh,v0_3,vI a0.fk] 110,.cells D0 [(.slice (some ⟨c0,0,none⟩) a0.fk.toNat a0.fk.toNat)] 32,.row w.heap.size 3 (Rep.size Int) (.slice (some ⟨c0,0,none⟩) a0.fk.toNat a0.fk.toNat) q0.length t0,.cells C0 [v1_0] 33,.cells B0 [vI a0.fj.fe,vI a0.fj.fc,vI a0.fj.fh,v0_3,vI a0.fk] 110] ++ L) t0 q0) (fun ⟨g0,q0,t0⟩=>(g0,q0)) (0,b1,(List.replicate a0.fk.toNat [vI 0]).flatten) A3 ⟨rfl,rfl,rfl,rfl,trivial⟩ ⟨U0,AA _ _,b3⟩ ?_
 rintro k4 ⟨g0,q0,t0⟩ H0 V1 ⟨J0,s2,V0⟩ h
 unfold balance_count_totals_l1 at h
 try dsimp only at h
 refine Ae<|Ac (Bg (i:=g0) (j:=a0.fj.fm.length) rfl rfl)<|Aa<|Aj<|AM rfl h (fun M1 h=>?_) (fun M1 h=>?_)
 refine Am<|Aj<|Au<|Ae<|Ab rfl ?_
 obtain ⟨p0,R3,h⟩:=bi h
 have d3:=Bn h0_3 J0
 obtain ⟨g4,s4,R2,X2,x4,F3,c3⟩:=AS d3 R3
 obtain ⟨X0,Y0,Z0,rfl,C1,D1,E1⟩:=op_TUnit F3
 refine Ac (AY 6 g0 rfl R2 rfl rfl X2)<|Ac (AE rfl c3)<|Az .plain rfl (Ba [.string ⟨#[]⟩,vI 0,vN,vN,vN,.bool false] J0) (fun W4 p4 X1 y0=>?_)
 refine Af rfl ?_
 have g3:=Aw C1 y0
 have j3:=Aw D1 y0
 have k3:=Aw E1 y0
 refine Bu [.string p0.ft,vI p0.fp,X0,Y0,Z0,.bool p0.fo] X1 .hd (o6 rfl rfl (BI g3) (BI j3) (BI k3) rfl) (fun X4 v0 p1=>?_)
 refine Aa<|Ae<|Bf 5 rfl<|AN rfl ((v0.memA .hd) 5 _ rfl)<|Ab rfl<|RG.ifb (s:=16) rfl h (fun P1 h=>?_) (fun P1 h=>?_)
 refine Ag<|Ag<|Ag<|Ag<|Ag<|AG rfl rfl<|Aa<|Bq rfl ?_
 have h:=thn_inl h x1
 refine Ao rfl<|AB (u:=.tuple #[]) u1 Tryz.func95 rfl .nil rfl<|MX.endRange0 v0 (.tl .hd) (by intro h9; cases h9) (fun Y4 Y1 t2=>?_)
 obtain ⟨g1,u2⟩:=Ay Y1 (.one .hd (.one (.tl .hd) (.one (.tl .hd) (.one (.tl .hd) (.one (.tl .hd) (.one (.tl .hd) (.one (.tl .hd) .done)))))))
 refine Aq<|Ae<|Ac (AJ rfl ((g1.memA (.tl (.tl (.tl .hd)))) 0 _ rfl))<|Af rfl<|Aa<|Ao rfl<|RT.take g1 (.tl .hd) (fun Z4 Z1 v2=>?_)
 obtain ⟨K0,x2⟩:=Ay Z1 (.one .hd (.one (.tl .hd) (.one (.tl .hd) (.one (.tl .hd) (.one (.tl .hd) (.one (.tl .hd) .done))))))
 have C3:=Tt y0 (Tt p1 (Tt t2 (Tt u2 (Tt v2 x2))))
 have p3:=Ap V0 C3
 have G3:=AU (α:=Int) K0 (.tl (.tl (.tl .hd))) p3 hL
 have M0:=Bk K0 (.tl (.tl (.tl .hd)))
 have E4:=Bl K0 (.tl (.tl (.tl .hd)))
 have H3:=Bm (α:=Int) (v:=(.slice (some ⟨c0,0,none⟩) a0.fk.toNat a0.fk.toNat)) (xs:=q0) M0 L G3
 refine AL hb0 Tryz.func67 rfl rfl ?_
 cases h
 exact ⟨M0.ag,fun w9 hw9=>okOf_in ⟨(.slice (some ⟨c0,0,none⟩) a0.fk.toNat a0.fk.toNat),rfl,M0.kd H3 hw9⟩⟩
 refine Ar (Ah rfl)<|Ar (Ah rfl)<|Ar (AE rfl (v0.memA .hd))<|RG.yieldP (fd:=67) (vs:=[vI ((g0:Nat):Int),.agg #[.string p0.ft,vI p0.fp,X0,Y0,Z0,.bool p0.fo]]) (.yes rfl rfl) rfl (e2 rfl rfl) v0 (.tl .hd) Y3 rfl rfl rfl (fun y4 M2 J4=>?_)
 refine Ae<|Af rfl<|Aa<|Al<|Az .plain rfl (Ba [.string ⟨#[]⟩,vI 0,vN,vN,vN,.bool false] v0) (fun b5 q4 b2 y2=>?_)
 have F0:=Tt y0 (Tt p1 y2)
 have q3:=Aw C1 F0
 have s3:=Aw D1 F0
 have t3:=Aw E1 F0
 refine Bu [.string p0.ft,vI p0.fp,X0,Y0,Z0,.bool p0.fo] b2 .hd (o6 rfl rfl (BI q3) (BI s3) (BI t3) rfl) (fun d5 c2 z2=>?_)
 refine Aa<|MX.begin c2 (.tl (.tl .hd)) (fun g5 u0 A2=>?_)
 refine Au<|dt 11 tb67_6 (fun b0 j0=>?_)
 refine AV 0 1 3680 b0 rfl j0 (AJ rfl ((u0.memA (.tl (.tl (.tl (.tl (.tl .hd)))))) 0 _ rfl)) rfl<|AV 1 3 3704 b0 rfl j0 (AJ rfl ((u0.memA (.tl (.tl (.tl (.tl (.tl (.tl (.tl .hd)))))))) 0 _ rfl)) rfl<|Ai 2 7 b0 rfl j0 (fun _=>Ah rfl) rfl ?_
 obtain ⟨I0,U3,h⟩:=bi h
 have v3:=Bn h1_0 u0
 obtain ⟨j4,t4,U2,Y2,Q1,I3,u3⟩:=AS v3 U3
 have V2:Q1 = [vI I0]:=I3; subst V2
 refine Ai 3 15 b0 rfl j0 (fun _=>AY 1 g0 rfl U2 rfl rfl Y2) rfl<|AV 4 31 3680 b0 rfl j0 (AJ rfl (u3 0 _ rfl)) rfl ?_
 obtain ⟨I1,V3,h⟩:=bi h
 obtain ⟨y1,W3⟩:=idx_in V3
 have B1:=Tt F0 (Tt z2 A2)
 have z1:=Ap V0 B1
 obtain ⟨J1,u4,E0,W0,R1,J3,x3⟩:=St.nth (α:=Int) u0 (.tl (.tl (.tl (.tl (.tl (.tl .hd)))))) z1 W3
 obtain ⟨K1,v4,v1⟩:=St.nthOwn (α:=Int) u0 (.tl (.tl (.tl (.tl (.tl (.tl .hd)))))) W0
 obtain rfl:J1 = ⟨K1,0,none⟩:=by rw [v1] at E0; cases E0; rfl
 have W2:R1 = [vI I1]:=J3; subst W2
 refine Ai 5 63 b0 rfl j0 (fun _=>AY 1 (I0.toNat) rfl E0 rfl y1 W0) rfl<|AV 6 127 3584 b0 rfl j0 (AJ rfl (x3 0 _ rfl)) rfl<|Ai 7 255 b0 rfl j0 (fun _=>Br 1 rfl) rfl<|AV 8 511 3584 b0 rfl j0 (AJ rfl ((u0.memA .hd) 1 _ rfl)) rfl ?_
 obtain ⟨P4,P3,h⟩:=bi h
 refine Ai 9 1023 b0 rfl j0 (fun _=>By (i:=I1) (j:=p0.fp) rfl rfl P3) rfl<|Ai 10 2047 b0 rfl j0 (fun _=>AY 1 (I0.toNat) rfl E0 rfl y1 W0) rfl ?_
 obtain ⟨c4,X3,h⟩:=bi h
 refine RD.one (i:=11) (rk b0) (RO.acts (m' :=4095) (sk b0) rfl rfl .plain (Acts.set (α:=Int) (i:=I0.toNat) X3 u0 v1 (fun _=>(.tl (.tl (.tl (.tl (.tl (.tl .hd))))))) z1 rfl rfl rfl rfl rfl (by kernel_rfl)) (fun j5 ⟨U1,d2,B2,Q2⟩=>?_))
 refine AX (dk b0)<|Aq<|MX.roundEnd M2 d2 (.tl (.tl .hd)) (fun k5 g2 q1=>?_)
 refine Ar (Be rfl)<|Bd rfl rfl<|Aa<|Bv rfl<|Am<|Aq<|Al<|Ac (AT (i:=g0) (j:=1) rfl rfl (by omega))<|Ab rfl<|Aa ?_
 obtain ⟨j2,s1⟩:=Ay g2 (.one (.tl (.tl .hd)) (.one (.tl (.tl .hd)) (.one (.tl (.tl .hd)) (.one (.tl (.tl .hd)) (.one (.tl (.tl .hd)) (.one (.tl (.tl .hd)) (.one (.tl (.tl .hd)) .done)))))))
 have y3:=Ap Q2 (Tt q1 s1)
 have D3:=Tt B1 (Tt B2 (Tt q1 s1))
 exact V1 (g0 + 1,c4,U1) _ _ ⟨rfl,rfl,rfl,rfl,trivial⟩ ⟨j2,(Tt s2 D3),y3⟩ h
 refine AR rfl ?_
 have h:=thn_inr h x1
 try dsimp only at h
 refine MX.fin rfl<|AB (u:=.tuple #[]) u1 Tryz.func95 rfl .nil rfl<|MX.endRange0 J0 .hd (by intro h9; cases h9) (fun p5 k2 C2=>?_)
 obtain ⟨k1,D2⟩:=Ay k2 (.one (.tl .hd) (.one (.tl .hd) (.one (.tl .hd) (.one (.tl .hd) (.one (.tl .hd) (.one (.tl .hd) .done))))))
 refine Aq<|Ae<|AN rfl ((k1.memA (.tl (.tl .hd))) 0 _ rfl)<|Af rfl<|Aa<|Ao rfl<|RT.take k1 .hd (fun s5 p2 E2=>?_)
 obtain ⟨P0,F2⟩:=Ay p2 (.one (.tl .hd) (.one (.tl .hd) (.one (.tl .hd) (.one (.tl .hd) (.one (.tl .hd) .done)))))
 have E3:=Tt C2 (Tt D2 (Tt E2 F2))
 have z3:=Ap V0 E3
 have K3:=AU (α:=Int) P0 (.tl (.tl .hd)) z3 hL
 have Q0:=Bk P0 (.tl (.tl .hd))
 have G4:=Bl P0 (.tl (.tl .hd))
 have M3:=Bm (α:=Int) (v:=(.slice (some ⟨c0,0,none⟩) a0.fk.toNat a0.fk.toNat)) (xs:=q0) Q0 L K3
 refine AL hb0 Tryz.func67 rfl rfl ?_
 cases h
 exact ⟨Q0.ag,fun w9 hw9=>okOf_in ⟨(.slice (some ⟨c0,0,none⟩) a0.fk.toNat a0.fk.toNat),rfl,Q0.kd M3 hw9⟩⟩
def tb65_1:List (Nat × Nat × Nat):=[(0,16,1),(0,32,2),(3,64,48),(0,128,4),(12,256,192),(31,8,256)]
theorem body67:bodyB Tryz.prog 67 = true:=by kernel_rfl
def balance_Totals_1_p (n:Nat) (a0:TRoll) (a1:Int) (a2:List Int):Option (Except Tbroken (List Int)):=
  (balance_counted_p n a0 a1).bind fun y3=>exc y3 (fun d0=>(balance_count_totals_p n d0 a2).bind fun g0=>exc g0 (fun j0=>some (.ok j0)) (fun c0=>some (.error c0))) (fun b0=>some (.error b0))
theorem balance_Totals_1_c (n:Nat) (L:List Nat) (w:World) (hL:∀ b ∈ L,b < w.heap.size) (a0:TRoll) {v0_3:Value} (h0_3:Rep.R w L [v0_3] a0.fm) {p0:Nat} (m0:∀ j9 v9,([vI a0.fe,vI a0.fc,vI a0.fh,v0_3]:List Value)[j9]? = some v9 → w.cell? ((⟨p0,0,none⟩:Addr).add j9) = some v9) (a1:Int) {p1:Nat} (m1:∀ j9 v9,([vI a1]:List Value)[j9]? = some v9 → w.cell? ((⟨p1,0,none⟩:Addr).add j9) = some v9) (a2:List Int) {v2_0:Value} (h2_0:Rep.R w L [v2_0] a2) {p2:Nat} (m2:∀ j9 v9,([v2_0]:List Value)[j9]? = some v9 → w.cell? ((⟨p2,0,none⟩:Addr).add j9) = some v9)  {r:Except Tbroken (List Int)} (h:balance_Totals_1_p n a0 a1 a2 = some r) :
    Calls Tryz.prog 65 #[.pointer (some ⟨p0,0,none⟩),.pointer (some ⟨p1,0,none⟩),.pointer (some ⟨p2,0,none⟩)] w (PGives w (fun (y:List Int) w' u=>∃ v0_0:Value,u = v0_0∧Rep.R w' L [v0_0] y) (fun e=>.iface 129 (.agg #[vI e.fD])) r):=by
 unfold balance_Totals_1_p at h
 have hS0:=AD w
 refine MX.startP Tryz.func65 rfl rfl rfl (fun _ cs0 hb0 hp0=>?_)
 refine Ae<|Af rfl<|Aa<|Aj<|dt 6 tb65_1 (fun kt1 kp2=>?_)
 refine AV 0 1 52 kt1 rfl kp2 (AE rfl (fun j9 v9 h9=>hS0.ag.cell0 (m0 j9 v9 h9))) rfl<|AV 1 3 52 kt1 rfl kp2 (AJ rfl ((fun j9 v9 h9=>hS0.ag.cell0 (m1 j9 v9 h9)) 0 _ rfl)) rfl ?_
 obtain ⟨y3,hy3,h⟩:=bi h
 rcases y3 with A0 | j0
 have h:=exc_e h
 try dsimp only at h
 refine AV 3 11 48 kt1 rfl kp2 (AJ rfl ((fun j9 v9 h9=>hS0.ag.cell0 (m2 j9 v9 h9)) 0 _ rfl)) rfl<|RD.one (i:=2) (rk kt1) (RO.callE (fst:=[]) (cap:=[]) rfl .plain body66 rfl (e2 rfl rfl) (fun w9 hw9=>balance_counted_c n _ w9 (hS0.hL hL hw9) a0 (AH h0_3 hw9) a1 hy3) (fun J0 s0=>?_))
 obtain ⟨k0,C0⟩:=hS0.agr s0
 cases h
 exact PN.leave hp0 Tryz.func65 ⟨k0.ag,rfl⟩
 have h:=exc_o h
 try dsimp only at h
 refine AV 3 11 48 kt1 rfl kp2 (AJ rfl ((fun j9 v9 h9=>hS0.ag.cell0 (m2 j9 v9 h9)) 0 _ rfl)) rfl<|RD.cl 2 15 kt1 rfl .plain body66 rfl (e2 rfl rfl) (fun w9 hw9=>Calls.okp (balance_counted_c n _ w9 (hS0.hL hL hw9) a0 (AH h0_3 hw9) a1 hy3)) rfl (fun K0 I0 t0 ⟨G0,hu_,d0⟩=>?_)
 subst hu_
 obtain ⟨b0,D0⟩:=hS0.agr t0
 obtain ⟨z0,g0,h⟩:=bi h
 rcases z0 with B0 | Q0
 have h:=exc_e h
 try dsimp only at h
 refine RD.one (i:=4) (rk kt1) (RO.callE (fst:=[]) (cap:=[]) rfl .plain body67 rfl (e2 rfl rfl) (fun w9 hw9=>balance_count_totals_c n _ w9 (b0.hL hL hw9) j0 (AH d0 hw9) a2 (b0.km h2_0 hw9) g0) (fun M0 u0=>?_))
 obtain ⟨q0,E0⟩:=b0.agr u0
 cases h
 exact PN.leave hp0 Tryz.func65 ⟨q0.ag,rfl⟩
 have h:=exc_o h
 try dsimp only at h
 refine RD.cl 4 31 kt1 rfl .plain body67 rfl (e2 rfl rfl) (fun w9 hw9=>Calls.okp (balance_count_totals_c n _ w9 (b0.hL hL hw9) j0 (AH d0 hw9) a2 (b0.km h2_0 hw9) g0)) rfl (fun P0 y0 v0 ⟨H0,hu_,x0⟩=>?_)
 subst hu_
 obtain ⟨c0,F0⟩:=b0.agr v0
 refine Ai 5 63 kt1 rfl kp2 (fun _=>Bw rfl) rfl<|AX (dk kt1)<|Ao rfl<|AL hb0 Tryz.func65 rfl rfl ?_
 cases h
 exact ⟨c0.ag,fun w9 hw9=>okOf_in ⟨y0,rfl,c0.kd x0 hw9⟩⟩
def tb80_6:List (Nat × Nat × Nat):=[(0,131072,32),(0,262144,8),(2,524288,262144),(1,0,131073),(15,0,524290)]
theorem body64:bodyB Tryz.prog 64 = true:=by kernel_rfl
theorem body65:bodyB Tryz.prog 65 = true:=by kernel_rfl
theorem body80:bodyB Tryz.prog 80 = true:=by kernel_rfl
def balance_Totals_p (n:Nat) (a0:TRoll) (a1:List Int) (a2:Int):Option ((List Int) × Int):=
  (balance_Totals_1_p n a0 a2 a1).bind fun c0=>exc c0 (fun d0=>some (d0,(0:Int))) (fun b0=>some (([]:List Int),b0.fD))
theorem balance_Totals_c (n:Nat) (L:List Nat) (w:World) (hL:∀ b ∈ L,b < w.heap.size) (a0:TRoll) {v0_3:Value} (h0_3:Rep.R w L [v0_3] a0.fm) (a1:List Int) {v1_0:Value} (h1_0:Rep.R w L [v1_0] a1) (a2:Int)  {r:(List Int) × Int} (h:balance_Totals_p n a0 a1 a2 = some r) :
    Calls Tryz.prog 34 #[.agg #[vI a0.fe,vI a0.fc,vI a0.fh,v0_3],v1_0,vI a2] w (Gives w fun w' u=>∃ v0_0:Value,u = .tuple #[v0_0,vI r.2]∧Rep.R w' L [v0_0] r.1):=by
 unfold balance_Totals_p at h
 have hS0:=AD w
 refine AI Tryz.func34 rfl rfl rfl (fun _ cs0 hb0=>?_)
 refine Ae<|Az .plain rfl (AK hS0 rfl rfl) (fun R1 g0 D0 E1=>?_)
 have s1:=Bn h1_0 D0
 refine Az .plain rfl (AK D0 rfl (Rep.c1 s1)) (fun Y1 j0 Q0 F1=>?_)
 refine Az .plain rfl (AK Q0 rfl rfl) (fun Z1 k0 R0 G1=>?_)
 refine Af rfl<|Af rfl<|Aa<|Ae<|Ac (FV.makeFunc (vs:=[]) (us:=[vP g0,vP k0,vP j0]) evs_nil (e3 rfl rfl rfl))<|BE (fst:=[]) (cap:=[]) (vs:=[.func (.func 65) #[] #[vP g0,vP k0,vP j0]]) .plain body64 Tryz.func64 rfl rfl rfl rfl (e1 rfl) rfl (fun A1 E0 P1=>?_)
 refine Ae<|Az .plain rfl (Ba [vN] R0) (fun b2 p0 U0 H1=>?_)
 refine Az .plain rfl (Ba [vI 0] U0) (fun c2 d0 b0 I1=>?_)
 refine Aa<|Ae<|Ac (FV.makeFunc (vs:=[]) (us:=[vP p0,vP d0]) evs_nil (e2 rfl rfl))<|RG.defer (fst:=[]) (cap:=[vP p0,vP d0]) (vs:=[]) rfl .plain rfl evs_nil<|Aa<|Ae<|Ab rfl ?_
 obtain ⟨x1,G0,h⟩:=bi h
 rcases x1 with q0 | j2
 have h:=exc_e h
 try dsimp only at h
 refine RG.callE (fst:=[]) (cap:=[vP g0,vP k0,vP j0]) .plain body65 rfl evs_nil (fun w9 hw9=>balance_Totals_1_c n _ w9 (b0.hL hL hw9) a0 (b0.km h0_3 hw9) (fun j9 v9 h9=>hw9.cell0 ((b0.memA (.tl (.tl (.tl (.tl .hd))))) j9 v9 h9)) a2 (fun j9 v9 h9=>hw9.cell0 ((b0.memA (.tl (.tl .hd))) j9 v9 h9)) a1 (b0.km h1_0 hw9) (fun j9 v9 h9=>hw9.cell0 ((b0.memA (.tl (.tl (.tl .hd)))) j9 v9 h9)) G0) (fun d2 g1=>?_)
 obtain ⟨V0,J1⟩:=b0.agr g1
 refine PN.callD (vs:=[]) (cap:=[vP p0,vP d0]) body80 Tryz.func80 rfl rfl rfl (fun z1 j1 p1=>?_)
 refine Ae<|RG.recover1 .plain j1 rfl<|Af rfl<|Aa<|Ae<|Ab rfl<|Ac (FV.neqI Tryz.underlying20 rfl rfl)<|Aa<|Bq rfl<|Ae<|Ab rfl<|Ac (FV.assertT (by kernel_rfl) rfl)<|Ab rfl<|Ac (Ak rfl rfl)<|Ac (Ak rfl rfl)<|Az .plain rfl (Ba [vI 0] V0) (fun g2 H0 W0 K1=>?_)
 refine Bu [vI q0.fD] W0 .hd (o1 rfl) (fun u1 v0 M1=>?_)
 refine Af rfl<|Aa<|Aj<|Ae<|Ab rfl<|Ac (Be rfl)<|Aa<|Bv rfl<|Am<|Ae<|Af rfl<|Aa<|dt 3 tb80_6 (fun c0 z0=>?_)
 refine Ai 0 1 c0 rfl z0 (fun _=>Ah rfl) rfl<|Ai 1 3 c0 rfl z0 (fun _=>Br 0 rfl) rfl<|RD.meet (α:=Unit) (fun ()=>[(1,vP d0),(19,vI q0.fD)]) (fun () B0=>St w B0 [.cells d0 [vI 0] 46,.cells p0 [vN] 32,.cells k0 [vI a2] 3,.cells j0 [v1_0] 33,.cells g0 [vI a0.fe,vI a0.fc,vI a0.fh,v0_3] 38]∧Tr u1 [.cells H0 [vI q0.fD] 129,.cells d0 [vI 0] 46,.cells p0 [vN] 32,.cells k0 [vI a2] 3,.cells j0 [v1_0] 33,.cells g0 [vI a0.fe,vI a0.fc,vI a0.fh,v0_3] 38] B0 [.cells d0 [vI 0] 46,.cells p0 [vN] 32,.cells k0 [vI a2] 3,.cells j0 [v1_0] 33,.cells g0 [vI a0.fe,vI a0.fc,vI a0.fh,v0_3] 38]) 1 15 ?_ ?_
 rintro ⟨⟩ B0 ⟨I0,B1⟩
 try dsimp only
 refine RD.nw 4 31 c0 rfl rfl .plain (Acts.storeAll (news:=[vI q0.fD]) I0 .hd rfl rfl rfl rfl rfl rfl (o1 rfl)) (fun U1 s0 C1=>?_)
 refine AX (dk c0)<|MX.fin rfl<|RT.leaveD1 p1 Tryz.func80 rfl .nil<|AB (u:=.tuple #[vN,vI q0.fD]) E0 Tryz.func64 rfl (.cons (.one (by kernel_rfl) rfl ((s0.memA (.tl .hd)) 0 _ rfl)) (.cons (.one (by kernel_rfl) rfl ((s0.memA .hd) 0 _ rfl)) .nil)) rfl<|Ac (Ak rfl rfl)<|Ac (Ak rfl rfl)<|Af rfl<|Af rfl<|Aa<|Ao rfl ?_
 have t1:=Bt (α:=Int) s0 L
 refine AB hb0 Tryz.func34 rfl (.cons (.tmp rfl) (.cons (.tmp rfl) .nil)) rfl ?_
 cases h
 exact ⟨s0.ag,fun w9 hw9=>⟨vN,rfl,s0.kd t1 hw9⟩⟩
 intro C0
 refine RD.each [2,3] (rk c0) ⟨?_,?_,trivial⟩
 refine RO.val (m' :=7) (sk c0) rfl .plain rfl (AJ rfl ((v0.memA .hd) 0 _ rfl))<|RD.nw 3 15 c0 rfl rfl .plain (Acts.storeAll (news:=[vN]) v0 (.tl (.tl .hd)) rfl rfl rfl rfl rfl rfl (o1 rfl)) (fun v1 u0 x0=>?_)
 obtain ⟨J0,X0⟩:=Ay u0 (.one (.tl .hd) (.one (.tl .hd) (.one (.tl .hd) (.one (.tl .hd) (.one (.tl .hd) .done)))))
 exact C0 () _ _ ⟨rfl,rfl,trivial⟩ ⟨J0,(Tt x0 X0)⟩
 refine RO.now (m' :=11) (sk c0) rfl rfl .plain (Acts.storeAll (news:=[vN]) v0 (.tl (.tl .hd)) rfl rfl rfl rfl rfl rfl (o1 rfl)) (fun v1 u0 x0=>?_)
 refine AV 2 15 16 c0 rfl z0 (AJ rfl ((u0.memA .hd) 0 _ rfl)) rfl ?_
 obtain ⟨K0,Y0⟩:=Ay u0 (.one (.tl .hd) (.one (.tl .hd) (.one (.tl .hd) (.one (.tl .hd) (.one (.tl .hd) .done)))))
 exact C0 () _ _ ⟨rfl,rfl,trivial⟩ ⟨K0,(Tt x0 Y0)⟩
 have h:=exc_o h
 try dsimp only at h
 refine AQ (fst:=[]) (cap:=[vP g0,vP k0,vP j0]) .plain body65 rfl evs_nil (fun w9 hw9=>Calls.okp (balance_Totals_1_c n _ w9 (b0.hL hL hw9) a0 (b0.km h0_3 hw9) (fun j9 v9 h9=>hw9.cell0 ((b0.memA (.tl (.tl (.tl (.tl .hd))))) j9 v9 h9)) a2 (fun j9 v9 h9=>hw9.cell0 ((b0.memA (.tl (.tl .hd))) j9 v9 h9)) a1 (b0.km h1_0 hw9) (fun j9 v9 h9=>hw9.cell0 ((b0.memA (.tl (.tl (.tl .hd)))) j9 v9 h9)) G0)) rfl (fun V1 A0 d1 ⟨Q1,hu_,y0⟩=>?_)
 subst hu_
 obtain ⟨M0,D1⟩:=b0.agr d1
 refine RG.now .plain (Acts.storeAll (news:=[A0]) M0 (.tl .hd) rfl rfl rfl (Rep.c1 y0) rfl rfl (o1 (BI y0))) (fun W1 P0 Z0=>?_)
 refine Bu [vI 0] P0 .hd (o1 rfl) (fun X1 t0 b1=>?_)
 refine Aa<|Ao rfl<|RT.callD (vs:=[]) (cap:=[vP p0,vP d0]) body80 Tryz.func80 rfl rfl rfl (fun y1 F0 k1=>?_)
 refine Ae<|RG.recover0 .plain F0 rfl<|Af rfl<|Aa<|Ae<|Ab rfl<|Ac (FV.neqI0 Tryz.underlying20 rfl rfl)<|Aa<|Bv rfl<|Am<|MX.fin rfl<|RT.leaveD0 F0 k1 Tryz.func80 rfl .nil<|AB (u:=.tuple #[A0,vI 0]) E0 Tryz.func64 rfl (.cons (.one (by kernel_rfl) rfl ((t0.memA (.tl .hd)) 0 _ rfl)) (.cons (.one (by kernel_rfl) rfl ((t0.memA .hd) 0 _ rfl)) .nil)) rfl<|Ac (Ak rfl rfl)<|Ac (Ak rfl rfl)<|Af rfl<|Af rfl<|Aa<|Ao rfl<|AB hb0 Tryz.func34 rfl (.cons (.tmp rfl) (.cons (.tmp rfl) .nil)) rfl ?_
 cases h
 have q1:=Aw y0 (Tt Z0 b1)
 exact ⟨t0.ag,fun w9 hw9=>⟨A0,rfl,t0.kd q1 hw9⟩⟩
def slices_Max_int_int_l1 (_n:Nat) (a0:List Int) (d0:Int × Nat → Option Int):Int × Nat → Option Int
  | (c0,b0)=>(if b0 < a0.length then (a0[b0]?).bind fun g0=>d0 (max c0 g0,b0 + 1) else some c0)
def slices_Max_int_int_p (n:Nat) (a0:List Int):Option Int:=
  (if a0.length < 1 then none else (a0[0]?).bind fun x3=>Option.bind (loopF (slices_Max_int_int_l1 n a0) n (x3,1)) (fun b0=>some b0))
theorem slices_Max_int_int_c (n:Nat) (L:List Nat) (w:World) (_hL:∀ b ∈ L,b < w.heap.size) (a0:List Int) {v0_0:Value} (h0_0:Rep.R w L [v0_0] a0)  {r:Int} (h:slices_Max_int_int_p n a0 = some r) :
    Calls Tryz.prog 35 #[v0_0] w (Gives w fun _ u=>u = vI r):=by
 unfold slices_Max_int_int_p at h
 have hS0:=AD w
 refine AI Tryz.func35 rfl rfl rfl (fun _ cs0 hb0=>?_)
 refine Ae<|Af rfl<|Aa<|Aj<|Ae<|Ab rfl ?_
 have hl1:a0.length ≤ 281474976710656:=AO h0_0
 refine Ac (AZ (xs:=a0) Tryz.underlying32 rfl h0_0)<|Ac (Bg (i:=a0.length) (j:=1) rfl rfl)<|Aa<|AM rfl h (fun c2 h=>?_) (fun c2 h=>?_)
 refine Al ?_
 cases h
 refine Am<|Ae<|Ab rfl ?_
 obtain ⟨x3,hx3,h⟩:=bi h
 obtain ⟨A4,c5,he6,hk7,cs8,hr9,A0⟩:=AS h0_0 hx3
 have u0:cs8 = [vI x3]:=hr9; subst u0
 refine Ac (AY 1 0 rfl he6 rfl rfl hk7)<|AN rfl (A0 0 _ rfl)<|Af rfl<|Aa<|Aj<|Ae<|Af rfl<|Aa<|Au ?_
 obtain ⟨I0,C0,y0⟩:=bind_in2 h
 refine AW (α:=Int × Nat) (fun ⟨c0,b0⟩=>[(0,v0_0),(3,vI c0),(4,vI ((b0:Nat):Int))]) (fun ⟨c0,b0⟩ g0=>St w g0 []∧Tr w [] g0 []) (fun ⟨c0,b0⟩=>(c0,b0)) (x3,1) C0 ⟨rfl,rfl,rfl,trivial⟩ ⟨hS0,AA _ _⟩ ?_
 rintro G0 ⟨c0,b0⟩ g0 s0 ⟨d0,t0⟩ h
 unfold slices_Max_int_int_l1 at h
 try dsimp only at h
 refine Aj<|Ae<|Ab rfl<|Ab rfl ?_
 have k0:=Bn h0_0 d0
 refine Ac (AZ (xs:=a0) Tryz.underlying32 rfl k0)<|Ac (Bg (i:=b0) (j:=a0.length) rfl rfl)<|Aa<|AM rfl h (fun p0 h=>?_) (fun p0 h=>?_)
 refine Am<|Aj<|Au<|Al<|Ab rfl<|Ab rfl<|Ab rfl ?_
 obtain ⟨j0,E0,h⟩:=bi h
 obtain ⟨F0,H0,v0,z0,q0,D0,B0⟩:=AS k0 E0
 have x0:q0 = [vI j0]:=D0; subst x0
 refine Ac (AY 1 b0 rfl v0 rfl rfl z0)<|AN rfl (B0 0 _ rfl)<|Ac (FV.max2 (i:=c0) (j:=j0) rfl rfl)<|Af rfl<|Aa<|Aq<|Al<|Ab rfl<|Ac (AT (i:=b0) (j:=1) rfl rfl (by omega))<|Af rfl<|Aa ?_
 exact s0 (max c0 j0,b0 + 1) _ _ ⟨rfl,rfl,rfl,trivial⟩ ⟨d0,t0⟩ h
 refine AR rfl ?_
 have h:=y0 _ h
 try dsimp only at h
 refine Ae<|Ab rfl<|Af rfl<|Aa<|Ao rfl<|AL hb0 Tryz.func35 rfl rfl ?_
 cases h
 exact d0.gv
def tb8_8:List (Nat × Nat × Nat):=[(0,8796093022208,128),(0,17592186044416,256),(2,35184372088832,17592186044416),(5,70368744177664,43980465111040),(8,4398046511104,70368744177664),(16,140737488355328,4398046511104),(16,281474976710656,4398046511104),(63,1024,140737488355328),(255,512,281474976710656)]
def tb8_14:List (Nat × Nat × Nat):=[(0,144115188075855872,0),(0,288230376151711744,128),(0,576460752303423488,32),(0,1152921504606846976,64),(0,2305843009213693952,4096),(31,4611686018427387904,4323455642275676160),(32,9223372036854775808,4611686018427387904),(32,18446744073709551616,4611686018427387904),(225,36893488147419103232,27814231298640183296),(256,73786976294838206464,36893488147419103232)]
def tb8_24:List (Nat × Nat × Nat):=[(0,9671406556917033397649408,512),(1,19342813113834066795298816,9671406556917033397649408),(2,38685626227668133590597632,19342813113834066795298816),(4,77371252455336267181195264,38685626227668133590663168),(12,154742504910672534362390528,116056878683004400771792896),(4,309485009821345068724781056,38685626227668133590597760),(52,618970019642690137449562112,348170636049013202315378688),(68,1237940039285380274899124224,657655645870358271040159744),(68,2475880078570760549798248448,657655645870358271040159744),(468,4951760157141521099596496896,3907248248994481492650360832),(516,9903520314283042199192993792,4990445783369189233187094528),(1536,19807040628566084398385987584,9903520314283042199192993792),(2048,39614081257132168796771975168,19807040628566084398385987584),(2048,79228162514264337593543950336,19807040628566084398385987712),(2048,158456325028528675187087900672,19807040628566084398385995776),(30720,316912650057057350374175801344,257491528171359097179017838592),(34816,633825300114114700748351602688,336719690685623434772561788928),(34816,1267650600228229401496703205376,336719690685623434772561788928),(235520,2535301200456458802993406410752,1960897022228042355440212770816),(264192,5070602400912917605986812821504,2555108241085024887391792398336),(1048575,16,5070602400912917605986812821504)]
theorem body34:bodyB Tryz.prog 34 = true:=by kernel_rfl
theorem body35:bodyB Tryz.prog 35 = true:=by kernel_rfl
def wardmotelaw23_SplitForces_l1 (_n:Nat) (c0:(List Int) × Int) (g0:Int × Nat → Option Int):Int × Nat → Option Int
  | (d0,b0)=>(if b0 < c0.1.length then (c0.1[b0]?).bind fun k0=>(chk (d0 + k0)).bind fun j0=>g0 (j0,b0 + 1) else some d0)
def wardmotelaw23_SplitForces_l2 (n:Nat) (g0:(List Int) × Int) (q0:TRoll) (d0:(List Int) × Int) (j0:Nat → Option (Bool ⊕ Unit)):Nat → Option (Bool ⊕ Unit)
  | b0=>(if b0 < g0.1.length then (g0.1[b0]?).bind fun k0=>(split_Keeps_p n q0 d0.1 d0.2 (0:Int) k0).bind fun c0=>(wardmotelaw23_truth_1_p n c0.1 c0.2 false).bind fun p0=>(if p0 = true then j0 (b0 + 1) else some (.inl false)) else some (.inr ()))
def wardmotelaw23_SplitForces_p (n:Nat) (a0:TDraft) (a1:TDraft26):Option Bool:=
  (wardmotelaw23_works_p n).bind fun q0=>(if q0 = true then (wardmoteref21_Draft_Loose_p n a0).bind fun c0=>(wardmoteref22_Draft_Full_p n a1 ((c0.1.length:Nat):Int)).bind fun b0=>(balance_Totals_p n b0 c0.1 c0.2).bind fun d0=>(if d0.2 = 0 then (if d0.1.length = 0 then some false else (slices_Max_int_int_p n d0.1).bind fun u0=>(split_Forced_p n b0 (0:Int) u0).bind fun p0=>(if p0.2 = 0 then thn (loopF (wardmotelaw23_SplitForces_l2 n p0 b0 c0) n 0) (fun _=>Option.bind (loopF (wardmotelaw23_SplitForces_l1 n d0) n (0,0)) (fun v0=>(split_Parents_p n b0 (0:Int)).bind fun g0=>(if g0.2 = 0 then (split_Forced_p n b0 (0:Int) (-1:Int)).bind fun j0=>(wardmotelaw23_is_1_p n j0.1 j0.2 g0.1).bind fun s0=>(if s0 = true then (split_Forced_p n b0 (0:Int) v0).bind fun k0=>(wardmotelaw23_is_1_p n k0.1 k0.2 ([]:List Int)).bind fun t0=>some t0 else some false) else some false))) else some false)) else some false) else some false)
theorem wardmotelaw23_SplitForces_c (n:Nat) (L:List Nat) (w:World) (hL:∀ b ∈ L,b < w.heap.size) (a0:TDraft) {v0_1:Value} (h0_1:Rep.R w L [v0_1] a0.fw) {v0_2:Value} (h0_2:Rep.R w L [v0_2] a0.fMore) {v0_3:Value} (h0_3:Rep.R w L [v0_3] a0.fE) (a1:TDraft26) {v1_4:Value} (h1_4:Rep.R w L [v1_4] a1.fF)  {r:Bool} (h:wardmotelaw23_SplitForces_p n a0 a1 = some r) :
    Calls Tryz.prog 8 #[.agg #[.int .u8 (a0.fN.toNat:Int),v0_1,v0_2,v0_3,.int .u8 (a0.fK.toNat:Int)],.agg #[.int .u8 (a1.fe.toNat:Int),.int .u8 (a1.fc.toNat:Int),.int .u8 (a1.fh.toNat:Int),.int .u8 (a1.fo.toNat:Int),v1_4]] w (Gives w fun _ u=>u = .bool r):=by
 unfold wardmotelaw23_SplitForces_p at h
 have hS0:=AD w
 refine AI Tryz.func8 rfl rfl rfl (fun _ cs0 hb0=>?_)
 refine Ae<|Az .plain rfl (AK hS0 rfl rfl) (fun B5 I4 A2 P4=>?_)
 refine Az .plain rfl (AK A2 rfl rfl) (fun D5 J4 v0 Q4=>?_)
 refine Af rfl<|Aa<|Aj<|Ae ?_
 obtain ⟨B4,X3,h⟩:=bi h
 refine Bp (.bool B4) body9 rfl evs_nil (fun w9 hw9=>wardmotelaw23_works_c n _ w9 (v0.hL0 hL hw9)  X3) rfl<|Ac (Be rfl)<|Aa<|MX.ifnb rfl h (fun g2 h=>?_) (fun g2 h=>?_)
 refine Am<|Ae<|Ac (AE rfl (v0.memA (.tl .hd))) ?_
 obtain ⟨z0,Z3,h⟩:=bi h
 refine AQ (fst:=[]) (cap:=[]) .plain body10 rfl (e1 rfl) (fun w9 hw9=>wardmoteref21_Draft_Loose_c n _ w9 (v0.hL hL hw9) a0 (v0.km h0_1 hw9) (v0.km h0_2 hw9) (v0.km h0_3 hw9) Z3) rfl (fun E5 t5 H2 ⟨u4,hu_,Y0⟩=>?_)
 subst hu_
 obtain ⟨E0,R4⟩:=v0.agr H2
 refine Ab rfl<|Ac (Ak rfl rfl)<|Ac (Ak rfl rfl)<|Af rfl<|Af rfl<|Aa<|Ae<|Ac (AE rfl (E0.memA .hd))<|Ab rfl ?_
 have Z4:z0.1.length ≤ 281474976710656:=AO Y0
 refine Ac (AZ (xs:=z0.1) Tryz.underlying33 rfl Y0) ?_
 obtain ⟨d0,j4,h⟩:=bi h
 refine AQ (fst:=[]) (cap:=[]) .plain body11 rfl (e2 rfl rfl) (fun w9 hw9=>own_gives (b0:=w.heap.size) (wardmoteref22_Draft_Full_c n _ w9 (E0.hL hL hw9) a1 (E0.km h1_4 hw9) ((z0.1.length:Nat):Int) j4) hw9 (Nat.le_trans E0.ag.size hw9.size)) rfl (fun I5 y5 Y4 ⟨y0,v2,Q3,R1,M2⟩=>?_)
 subst Q3
 have x1:=own_push E0 R1
 have D1:=own_tr E0 R1
 have P2:=Av (cs:=v2) (xs:=(d0.fm:List TUnit)) x1 L (own_cells M2)
 refine Az .plain rfl (Ba [vI 0,vI 0,vI 0,vN] x1) (fun J5 u0 y1 d1=>?_)
 refine Bu [vI d0.fe,vI d0.fc,vI d0.fh,y0] y1 .hd (o4 rfl rfl rfl (St.o1 (α:=TUnit) y1 (.tl .hd))) (fun K5 W0 g1=>?_)
 refine Aa<|Ae<|Ac (AE rfl (W0.memA .hd))<|Ab rfl<|Ab rfl ?_
 have u3:=Ap P2 (Tt d1 g1)
 have I3:=AU (α:=TUnit) W0 (.tl .hd) u3 hL
 have b1:=Bk W0 (.tl .hd)
 have E1:=Bl W0 (.tl .hd)
 have F0:=Bm (α:=TUnit) (v:=y0) (xs:=d0.fm) b1 L I3
 obtain ⟨A0,k4,h⟩:=bi h
 have C3:=Tt D1 (Tt d1 (Tt g1 E1))
 have v3:=Aw Y0 C3
 refine AQ (fst:=[]) (cap:=[]) .plain body34 rfl (e3 rfl rfl rfl) (fun w9 hw9=>balance_Totals_c n _ w9 (b1.hL hL hw9) d0 (AH F0 hw9) z0.1 (AH v3 hw9) z0.2 k4) rfl (fun M5 z5 J2 ⟨U1,hu_,J0⟩=>?_)
 subst hu_
 obtain ⟨C0,j1⟩:=b1.agr J2
 refine Ab rfl<|Ac (Ak rfl rfl)<|Ac (Ak rfl rfl)<|Af rfl<|Af rfl<|Aa<|Aj<|Ae<|Ab rfl<|Ac (Bs (i:=A0.2) (j:=0) rfl rfl)<|Ab rfl<|RG.ifn (s:=37) rfl h (fun p2 h=>?_) (fun p2 h=>?_)
 refine Ar (Ah rfl) ?_
 have b5:A0.1.length ≤ 281474976710656:=AO J0
 refine Ar (AZ (xs:=A0.1) Tryz.underlying32 rfl J0)<|Ar (BG (i:=A0.1.length) (j:=0) rfl rfl)<|Bd rfl rfl<|Aa<|AM rfl h (fun q2 h=>?_) (fun q2 h=>?_)
 refine Ae<|Af rfl<|Aa<|Ao rfl<|AL hb0 Tryz.func8 rfl rfl ?_
 cases h
 exact C0.gv
 refine Am<|Aj<|dt 9 tb8_8 (fun p0 x0=>?_)
 refine AV 0 1 504 p0 rfl x0 (AE rfl (C0.memA .hd)) rfl<|Ai 1 3 p0 rfl x0 (fun _=>Ah rfl) rfl ?_
 obtain ⟨Z1,p4,h⟩:=bi h
 refine RD.cq 2 7 504 (vI Z1) p0 rfl x0 body35 rfl (e1 rfl) (fun w9 hw9=>slices_Max_int_int_c n _ w9 (C0.hL0 hL hw9) A0.1 (C0.kd J0 hw9) p4) rfl ?_
 obtain ⟨M0,q4,h⟩:=bi h
 have x3:=Aw F0 j1
 refine RD.cl 3 15 p0 rfl .plain body29 rfl (e3 rfl rfl rfl) (fun w9 hw9=>split_Forced_c n _ w9 (C0.hL hL hw9) d0 (AH x3 hw9) (0:Int) Z1 q4) rfl (fun z4 A5 K2 ⟨v4,hu_,p1⟩=>?_)
 subst hu_
 obtain ⟨z1,k1⟩:=C0.agr K2
 refine Ai 4 31 p0 rfl x0 (fun _=>Ah rfl) rfl<|Ai 5 63 p0 rfl x0 (fun _=>Ak rfl rfl) rfl<|Ai 6 127 p0 rfl x0 (fun _=>Ak rfl rfl) rfl<|Ai 7 255 p0 rfl x0 (fun _=>Bw rfl) rfl<|Ai 8 511 p0 rfl x0 (fun _=>Bw rfl) rfl<|AX (dk p0)<|Aj<|Ae<|Ab rfl<|Ac (Bs (i:=M0.2) (j:=0) rfl rfl)<|Aa<|MX.ifn rfl h (fun s2 h=>?_) (fun s2 h=>?_)
 refine Am<|Aj<|Ae<|Ab rfl ?_
 have c5:M0.1.length ≤ 281474976710656:=AO p1
 refine Ac (AZ (xs:=M0.1) Tryz.underlying32 rfl p1)<|Ab rfl<|Aa<|Au ?_
 obtain ⟨z2,X0⟩:=Ay z1 (.one .hd .done)
 obtain ⟨d5,y3,F1⟩:=thn_in h
 refine AW (α:=Nat) (fun q0=>[(5,u4),(6,vI z0.2),(7,vP u0),(8,U1),(51,v4),(52,vI ((M0.1.length:Nat):Int)),(53,vI ((q0:Nat):Int))]) (fun q0 K0=>St w K0 [.cells u0 [vI d0.fe,vI d0.fc,vI d0.fh,y0] 38]∧Tr z4 [.cells u0 [vI d0.fe,vI d0.fc,vI d0.fh,y0] 38] K0 [.cells u0 [vI d0.fe,vI d0.fc,vI d0.fh,y0] 38]) (fun q0=>q0) 0 y3 ⟨rfl,rfl,rfl,rfl,rfl,rfl,rfl,trivial⟩ ⟨z2,AA _ _⟩ ?_
 rintro G4 q0 K0 x2 ⟨G0,I0⟩ h
 unfold wardmotelaw23_SplitForces_l2 at h
 try dsimp only at h
 refine Ae<|Ac (Bg (i:=q0) (j:=M0.1.length) rfl rfl)<|Aa<|Aj<|AM rfl h (fun b2 h=>?_) (fun b2 h=>?_)
 refine Am<|Aj<|Au<|Ae ?_
 obtain ⟨V1,R3,h⟩:=bi h
 have b3:=Aw p1 (Tt X0 I0)
 obtain ⟨E4,K4,Q2,X2,t2,D3,Z2⟩:=AS b3 R3
 have R2:t2 = [vI V1]:=D3; subst R2
 refine Ac (AY 1 q0 rfl Q2 rfl rfl X2)<|AN rfl (Z2 0 _ rfl)<|Af rfl<|Aa<|Aj<|dt 10 tb8_14 (fun j0 t0=>?_)
 refine AV 1 2 992 j0 rfl t0 (AE rfl (G0.memA .hd)) rfl<|Ai 2 6 j0 rfl t0 (fun _=>Ah rfl) rfl<|Ai 3 14 j0 rfl t0 (fun _=>Ah rfl) rfl<|Ai 4 30 j0 rfl t0 (fun _=>Ah rfl) rfl<|RD.cl 0 31 j0 rfl .plain body24 rfl (e1 rfl) (fun w9 hw9=>BC (wardmotelaw23_truth_c n _ w9 (G0.hL hL hw9) false) fun (w8:World) (u8:Value) ⟨b0_,hu_,s_⟩=>(⟨b0_,hu_,s_.from hw9⟩:∃ P0:Nat,u8 = Value.func (.func 57) #[] #[vP P0]∧St K0 w8 [.cells P0 [.bool false] 4])) rfl (fun C5 p5 V4 ⟨P0,K3,M1⟩=>?_)
 subst K3
 have B0:=mk_push1 G0 M1
 have A1:=mk_tr1 G0 M1
 obtain ⟨Z0,V3,h⟩:=bi h
 have G1:=Tt j1 (Tt k1 (Tt X0 (Tt I0 A1)))
 have c3:=Aw F0 G1
 have A3:=Tt D1 (Tt d1 (Tt g1 (Tt E1 G1)))
 have d3:=Aw Y0 A3
 refine RD.cq 5 63 960 (.tuple #[.bool Z0.1,vI Z0.2]) j0 rfl t0 body19 rfl (e5 rfl rfl rfl rfl rfl) (fun w9 hw9=>split_Keeps_c n _ w9 (B0.hL0 hL hw9) d0 (B0.kd c3 hw9) z0.1 (B0.kd d3 hw9) z0.2 (0:Int) V1 V3) rfl<|Ai 6 127 j0 rfl t0 (fun _=>Ak rfl rfl) rfl<|Ai 7 255 j0 rfl t0 (fun _=>Ak rfl rfl) rfl ?_
 obtain ⟨A4,W3,h⟩:=bi h
 refine RD.callq (i:=8) (m' :=511) (W:=512) (tk j0) rfl t0 (v:=.bool A4) (fst:=[]) (cap:=[vP P0]) .plain body57 rfl (e2 rfl rfl) (fun w9 hw9=>wardmotelaw23_truth_1_c n _ w9 (B0.hL0 hL hw9) Z0.1 Z0.2 false (fun j9 v9 h9=>hw9.cell0 ((B0.memA .hd) j9 v9 h9)) W3) rfl<|Ai 9 1023 j0 rfl t0 (fun _=>Be rfl) rfl<|AX (dk j0)<|MX.ifnb rfl h (fun c2 h=>?_) (fun c2 h=>?_)
 refine Am<|Aq<|Al<|Ac (AT (i:=q0) (j:=1) rfl rfl (by omega))<|Ab rfl<|Aa ?_
 obtain ⟨B2,C2⟩:=Ay B0 (.one (.tl .hd) .done)
 exact x2 (q0 + 1) _ _ ⟨rfl,rfl,rfl,rfl,rfl,rfl,rfl,trivial⟩ ⟨B2,(Tt I0 (Tt A1 C2))⟩ h
 refine Ae<|Af rfl<|Aa ?_
 have h:=thn_inl h F1
 refine Ao rfl<|AL hb0 Tryz.func8 rfl rfl ?_
 cases h
 exact B0.gv
 refine AR rfl ?_
 have h:=thn_inr h F1
 try dsimp only at h
 refine Ae<|Af rfl<|Aa<|Aj<|Ae<|Ab rfl ?_
 have H1:=Tt k1 (Tt X0 I0)
 have g3:=Aw J0 H1
 refine Ac (AZ (xs:=A0.1) Tryz.underlying32 rfl g3)<|Ab rfl<|Aa<|Au ?_
 obtain ⟨g5,z3,W2⟩:=bind_in2 h
 refine AW (α:=Int × Nat) (fun ⟨D0,s0⟩=>[(7,vP u0),(13,vI D0),(68,U1),(69,vI ((A0.1.length:Nat):Int)),(70,vI ((s0:Nat):Int))]) (fun ⟨D0,s0⟩ q1=>St w q1 [.cells u0 [vI d0.fe,vI d0.fc,vI d0.fh,y0] 38]∧Tr K0 [.cells u0 [vI d0.fe,vI d0.fc,vI d0.fh,y0] 38] q1 [.cells u0 [vI d0.fe,vI d0.fc,vI d0.fh,y0] 38]) (fun ⟨D0,s0⟩=>(D0,s0)) (0,0) z3 ⟨rfl,rfl,rfl,rfl,rfl,trivial⟩ ⟨G0,AA _ _⟩ ?_
 rintro H4 ⟨D0,s0⟩ q1 y2 ⟨U0,c1⟩ h
 unfold wardmotelaw23_SplitForces_l1 at h
 try dsimp only at h
 refine Ae<|Ac (Bg (i:=s0) (j:=A0.1.length) rfl rfl)<|Aa<|Aj<|AM rfl h (fun d2 h=>?_) (fun d2 h=>?_)
 refine Am<|Aj<|Au<|Ae ?_
 obtain ⟨W1,U3,h⟩:=bi h
 have k3:=Aw J0 (Tt H1 c1)
 obtain ⟨F4,M4,U2,Y2,u2,E3,j3⟩:=AS k3 U3
 have V2:u2 = [vI W1]:=E3; subst V2
 refine Ac (AY 1 s0 rfl U2 rfl rfl Y2)<|AN rfl (j3 0 _ rfl)<|Af rfl<|Aa<|Al<|Ab rfl<|Ab rfl ?_
 obtain ⟨s4,J3,h⟩:=bi h
 refine Ac (By (i:=D0) (j:=W1) rfl rfl J3)<|Af rfl<|Aa<|Aq<|Al<|Ac (AT (i:=s0) (j:=1) rfl rfl (by omega))<|Ab rfl<|Aa ?_
 exact y2 (s4,s0 + 1) _ _ ⟨rfl,rfl,rfl,rfl,rfl,trivial⟩ ⟨U0,c1⟩ h
 refine AR rfl ?_
 have h:=W2 _ h
 try dsimp only at h
 refine Ae<|Ac (AE rfl (U0.memA .hd)) ?_
 obtain ⟨s1,Y3,h⟩:=bi h
 have I1:=Tt j1 (Tt k1 (Tt X0 (Tt I0 c1)))
 have p3:=Aw F0 I1
 refine AQ (fst:=[]) (cap:=[]) .plain body22 rfl (e2 rfl rfl) (fun w9 hw9=>split_Parents_c n _ w9 (U0.hL hL hw9) d0 (AH p3 hw9) (0:Int) Y3) rfl (fun x4 q5 F2 ⟨t4,hu_,K1⟩=>?_)
 subst hu_
 obtain ⟨H0,D2⟩:=U0.agr F2
 refine Ab rfl<|Ac (Ak rfl rfl)<|Ac (Ak rfl rfl)<|Af rfl<|Af rfl<|Aa<|Aj<|dt 21 tb8_24 (fun c0 g0=>?_)
 refine Ai 0 1 c0 rfl g0 (fun _=>Ah rfl) rfl<|Ai 1 3 c0 rfl g0 (fun _=>FV.eql (i:=s1.2) (j:=0) rfl rfl) rfl<|Ai 2 7 c0 rfl g0 (fun _=>Ah rfl) rfl<|RD.ifd (s:=85) rfl h (fun j2 h=>?_) (fun j2 h=>?_)
 refine Bb 3 15 c0 rfl g0 (.yes rfl rfl) (fun _=>Ah rfl) rfl<|RD.val (i:=5) (m' :=47) (W:=2097088) (tk c0) rfl g0 (.yes rfl rfl) (AE rfl (H0.memA .hd)) rfl<|RD.cl 4 63 c0 rfl (.yes rfl rfl) body36 rfl (e1 rfl) (fun w9 hw9=>BC (wardmotelaw23_is_c n _ w9 (H0.hL hL hw9) s1.1 (AH K1 hw9)) fun (w8:World) (u8:Value) ⟨b0_,hu_,s_⟩=>(⟨b0_,hu_,s_.from hw9⟩:∃ Q0:Nat,u8 = Value.func (.func 68) #[] #[vP Q0]∧St x4 w8 [.cells Q0 [t4] 32])) rfl (fun F5 s5 W4 ⟨Q0,M3,P1⟩=>?_)
 subst M3
 have u1:=mk_push1 H0 P1
 have B1:=mk_tr1 H0 P1
 obtain ⟨X1,b4,h⟩:=bi h
 have J1:=Tt I1 (Tt D2 B1)
 have q3:=Aw F0 J1
 refine RD.cl 6 127 c0 rfl (.yes rfl rfl) body29 rfl (e3 rfl rfl rfl) (fun w9 hw9=>split_Forced_c n _ w9 (u1.hL hL hw9) d0 (AH q3 hw9) (0:Int) (-1:Int) b4) rfl (fun y4 u5 G2 ⟨j5,hu_,F3⟩=>?_)
 subst hu_
 obtain ⟨k0,C1⟩:=u1.agr G2
 refine Bb 7 255 c0 rfl g0 (.yes rfl rfl) (fun _=>Ak rfl rfl) rfl<|Bb 8 511 c0 rfl g0 (.yes rfl rfl) (fun _=>Ak rfl rfl) rfl ?_
 obtain ⟨C4,c4,h⟩:=bi h
 have s3:=Aw K1 (Tt B1 C1)
 refine RD.callq (i:=9) (m' :=1023) (W:=2096128) (tk c0) rfl g0 (v:=.bool C4) (fst:=[]) (cap:=[vP Q0]) (.yes rfl rfl) body68 rfl (e2 rfl rfl) (fun w9 hw9=>wardmotelaw23_is_1_c n _ w9 (k0.hL0 hL hw9) X1.1 (k0.kd F3 hw9) X1.2 s1.1 (k0.kd s3 hw9) (fun j9 v9 h9=>hw9.cell0 ((k0.memA .hd) j9 v9 h9)) c4) rfl<|Ai 10 2047 c0 rfl g0 (fun _=>Bz rfl rfl) rfl<|Ai 11 4095 c0 rfl g0 (fun _=>Ah rfl) rfl<|RD.ifb (s:=94) rfl h (fun k2 h=>?_) (fun k2 h=>?_)
 refine RD.val (i:=13) (m' :=12287) (W:=2064384) (tk c0) rfl g0 (.yes rfl rfl) (AE rfl (k0.memA (.tl .hd))) rfl<|Bb 14 28671 c0 rfl g0 (.yes rfl rfl) (fun _=>Ah rfl) rfl ?_
 have G3:=Bt (α:=Int) k0 L
 refine RD.cl 12 32767 c0 rfl (.yes rfl rfl) body36 rfl (e1 rfl) (fun w9 hw9=>BC (wardmotelaw23_is_c n _ w9 (k0.hL hL hw9) ([]:List Int) (AH G3 hw9)) fun (w8:World) (u8:Value) ⟨b0_,hu_,s_⟩=>(⟨b0_,hu_,s_.from hw9⟩:∃ R0:Nat,u8 = Value.func (.func 68) #[] #[vP R0]∧St y4 w8 [.cells R0 [vN] 32])) rfl (fun G5 v5 X4 ⟨R0,P3,Q1⟩=>?_)
 subst P3
 have v1:=mk_push1 k0 Q1
 have E2:=mk_tr1 k0 Q1
 obtain ⟨Y1,d4,h⟩:=bi h
 have B3:=Tt J1 (Tt C1 E2)
 have t3:=Aw F0 B3
 refine RD.cl 15 65535 c0 rfl (.yes rfl rfl) body29 rfl (e3 rfl rfl rfl) (fun w9 hw9=>split_Forced_c n _ w9 (v1.hL hL hw9) d0 (AH t3 hw9) (0:Int) D0 d4) rfl (fun H5 x5 I2 ⟨k5,hu_,H3⟩=>?_)
 subst hu_
 obtain ⟨V0,U4⟩:=v1.agr I2
 refine Bb 16 131071 c0 rfl g0 (.yes rfl rfl) (fun _=>Ak rfl rfl) rfl<|Bb 17 262143 c0 rfl g0 (.yes rfl rfl) (fun _=>Ak rfl rfl) rfl ?_
 obtain ⟨D4,g4,h⟩:=bi h
 refine RD.callq (i:=18) (m' :=524287) (W:=1572864) (tk c0) rfl g0 (v:=.bool D4) (fst:=[]) (cap:=[vP R0]) (.yes rfl rfl) body68 rfl (e2 rfl rfl) (fun w9 hw9=>wardmotelaw23_is_1_c n _ w9 (V0.hL0 hL hw9) Y1.1 (V0.kd H3 hw9) Y1.2 ([]:List Int) (AH (Rep.nilSlice _ _) hw9) (fun j9 v9 h9=>hw9.cell0 ((V0.memA .hd) j9 v9 h9)) g4) rfl<|Ai 19 1048575 c0 rfl g0 (fun _=>Bz rfl rfl) rfl<|Ai 20 2097151 c0 rfl g0 (fun _=>Bw rfl) rfl<|AX (dk c0)<|Ao rfl<|AL hb0 Tryz.func8 rfl rfl ?_
 cases h
 exact V0.gv
 refine Bo 524287 2 [(12,95),(13,96),(14,97),(15,98),(16,99),(17,100),(18,101)] (F:=[(94,false)]) (U:=[]) c0 g0 (.cons rfl .nil) .nil ?_
 dsimp only [offS,List.map]
 refine Ai 19 1048575 c0 rfl g0 (fun _=>AP rfl rfl) rfl<|Ai 20 2097151 c0 rfl g0 (fun _=>Bw rfl) rfl<|AX (dk c0)<|Ao rfl<|AL hb0 Tryz.func8 rfl rfl ?_
 cases h
 exact k0.gv
 refine Bo 1023 11 [(3,86),(4,87),(5,88),(6,89),(7,90),(8,91),(9,92)] (F:=[(85,false)]) (U:=[]) c0 g0 (.cons rfl .nil) .nil ?_
 dsimp only [offS,List.map]
 refine Ai 10 2047 c0 rfl g0 (fun _=>AP rfl rfl) rfl<|Ai 11 4095 c0 rfl g0 (fun _=>Ah rfl) rfl<|Bo 524287 2 [(12,95),(13,96),(14,97),(15,98),(16,99),(17,100),(18,101)] (F:=[(94,false)]) (U:=[]) c0 g0 (.cons rfl .nil) .nil ?_
 dsimp only [offS,List.map]
 refine Ai 19 1048575 c0 rfl g0 (fun _=>AP rfl rfl) rfl<|Ai 20 2097151 c0 rfl g0 (fun _=>Bw rfl) rfl<|AX (dk c0)<|Ao rfl<|AL hb0 Tryz.func8 rfl rfl ?_
 cases h
 exact H0.gv
 refine Ae<|Af rfl<|Aa<|Ao rfl<|AL hb0 Tryz.func8 rfl rfl ?_
 cases h
 exact z1.gv
 refine Ag<|Ag<|Ag<|AG rfl rfl<|Aa<|Bq rfl<|Ae<|Af rfl<|Aa<|Ao rfl<|AL hb0 Tryz.func8 rfl rfl ?_
 cases h
 exact C0.gv
 refine Ae<|Af rfl<|Aa<|Ao rfl<|AL hb0 Tryz.func8 rfl rfl ?_
 cases h
 exact v0.gv
end Go.Proofs.YtfncplndfpgngaaGreatDoor
