import Derived.Test.YtkommhmbkbhmlaaGreatRL6
namespace Go.Proofs.YtkommhmbkbhmlaaGreat
open Go Go.RowKit Tryz
set_option maxRecDepth 4000
set_option maxHeartbeats 4000000

def az_l1 (n:Nat) (j0:List Tb) (p0:Tc) (g0:Nat × (List (Ta × Tc)) -> Oa (List (Ta × Tc))):Nat × (List (Ta × Tc)) -> Oa (List (Ta × Tc))
  | (c0,b0)=>(if c0 < j0.length then (j0[c0]?).bind fun d0=>(aK_p n d0).bind fun q0=>(aw_p n q0 p0).bind fun k0=>dh (bc b0 d0.fm) (g0 (c0 + 1,aB b0 d0.fm k0)) (fun s0=>(ae_p n k0 s0).bind fun t0=>g0 (c0 + 1,aB b0 d0.fm t0)) else some b0)
def cI (n:Nat) (c0:Ta × Tc) (g0:(List Tb) × Bool -> Oa ((List Tb) × Int)):(List Tb) × Bool -> Oa ((List Tb) × Int)
  | (p0,j0)=>(ak_p n c0.2).bind fun d0=>jn (fun k0=>(app p0 ([(⟨c0.1,d0.1⟩:Tb)]:List Tb)).bind fun q0=>g0 (q0,k0)) (fun b0=>(if d0.2 = 0 then b0 j0 else b0 true))
def az_l2 (n:Nat) (a0:List (List Tb)) (a1:List Ta) (d0:Nat × (List (Ta × Tc)) -> Oa (List (Ta × Tc))):Nat × (List (Ta × Tc)) -> Oa (List (Ta × Tc))
  | (b0,c0)=>(if b0 < a0.length then (a0[b0]?).bind fun k0=>(a1[b0]?).bind fun p0=>(am_p n p0).bind fun g0=>(aI_p n g0.fh).bind fun q0=>(if q0 = 0 then d0 (b0 + 1,c0) else Option.bind (az (az_l1 n k0 g0) n (0,c0)) (fun j0=>d0 (b0 + 1,j0))) else some c0)
def az_l3 (n:Nat) (a1:List Ta) (p0:Nat × Bool × (List Ua) × Bool × (List Ua) -> Oa (Bool × (List Ua) × Bool × (List Ua))):Nat × Bool × (List Ua) × Bool × (List Ua) -> Oa (Bool × (List Ua) × Bool × (List Ua))
  | (c0,d0,j0,g0,k0)=>(if c0 < a1.length then (a1[c0]?).bind fun q0=>(am_p n q0).bind fun s0=>(ae_p n (⟨(⟨d0,j0⟩:Td),(⟨g0,k0⟩:Td)⟩:Tc) s0).bind fun b0=>p0 (c0 + 1,b0.fh.fc,b0.fh.fj,b0.fe.fc,b0.fe.fj) else some (d0,j0,g0,k0))
def az_l4 (n:Nat) (j0:List Tb) (p0:Tc) (g0:Nat × (List (Ta × Tc)) -> Oa (List (Ta × Tc))):Nat × (List (Ta × Tc)) -> Oa (List (Ta × Tc))
  | (c0,b0)=>(if c0 < j0.length then (j0[c0]?).bind fun d0=>(aK_p n d0).bind fun q0=>(aw_p n q0 p0).bind fun k0=>dh (bc b0 d0.fm) (g0 (c0 + 1,aB b0 d0.fm k0)) (fun s0=>(ae_p n k0 s0).bind fun t0=>g0 (c0 + 1,aB b0 d0.fm t0)) else some b0)
def cF (n:Nat) (c0:Ta × Tc) (g0:(List Tb) × Bool -> Oa ((List Tb) × Int)):(List Tb) × Bool -> Oa ((List Tb) × Int)
  | (p0,j0)=>(ak_p n c0.2).bind fun d0=>jn (fun k0=>(app p0 ([(⟨c0.1,d0.1⟩:Tb)]:List Tb)).bind fun q0=>g0 (q0,k0)) (fun b0=>(if d0.2 = 0 then b0 j0 else b0 true))
def az_l5 (n:Nat) (a0:List (List Tb)) (a1:List Ta) (d0:Nat × (List (Ta × Tc)) -> Oa (List (Ta × Tc))):Nat × (List (Ta × Tc)) -> Oa (List (Ta × Tc))
  | (b0,c0)=>(if b0 < a0.length then (a0[b0]?).bind fun k0=>(a1[b0]?).bind fun p0=>(am_p n p0).bind fun g0=>(aI_p n g0.fh).bind fun q0=>(if q0 = 0 then d0 (b0 + 1,c0) else Option.bind (az (az_l4 n k0 g0) n (0,c0)) (fun j0=>d0 (b0 + 1,j0))) else some c0)
def az_l6 (n:Nat) (a1:List Ta) (p0:Nat × Bool × (List Ua) × Bool × (List Ua) -> Oa (Bool × (List Ua) × Bool × (List Ua))):Nat × Bool × (List Ua) × Bool × (List Ua) -> Oa (Bool × (List Ua) × Bool × (List Ua))
  | (c0,d0,j0,g0,k0)=>(if c0 < a1.length then (a1[c0]?).bind fun q0=>(am_p n q0).bind fun s0=>(ae_p n (⟨(⟨d0,j0⟩:Td),(⟨g0,k0⟩:Td)⟩:Tc) s0).bind fun b0=>p0 (c0 + 1,b0.fh.fc,b0.fh.fj,b0.fe.fc,b0.fe.fj) else some (d0,j0,g0,k0))
def az_l7 (n:Nat) (a1:List Ta) (a0:List (List Tb)) (g0:Nat -> Oa (((List Tb) × Int) ⊕ Unit)):Nat -> Oa (((List Tb) × Int) ⊕ Unit)
  | i32=>(if i32 < a1.length then (a1[i32]?).bind fun q0=>(bR_p n q0).bind fun z0=>(if z0 = true then ((if 0 <= i32 then some (([]:List Tb),(2:Int)) else (aB_p n (0:Int)).bind fun b0=>Option.bind (az (az_l3 n a1) n (0,b0.fh.fc,b0.fh.fj,b0.fe.fc,b0.fe.fj)) (fun (k0,t0,p0,u0)=>(aB_p n (1:Int)).bind fun x0=>(aG_p n (⟨(⟨k0,t0⟩:Td),(⟨p0,u0⟩:Td)⟩:Tc) x0).bind fun y0=>(if y0 = 0 then Option.bind (az (az_l2 n a0 a1) n (0,([]:List (Ta × Tc)))) (fun c0=>(if 400 < c0.length then some (([]:List Tb),(3:Int)) else mloop (fun (d0,j0)=>(if j0 = true then some (([]:List Tb),(6:Int)) else (aQ_p n (ai ((d0.length:Nat):Int))).bind fun v0=>(de (fun x9 y9=>aj_p n x9 y9) v0 d0).bind fun s0=>some (s0,(0:Int)))) (cI n) n c0 (([]:List Tb),false))) else some (([]:List Tb),(2:Int)))))).map .inl else g0 (i32 + 1)) else some (.inr ()))
def az_p (n:Nat) (a0:List (List Tb)) (a1:List Ta):Oa ((List Tb) × Int):=
  (if 40 < a0.length then some (([]:List Tb),(3:Int)) else (if 40 < a1.length then some (([]:List Tb),(3:Int)) else (aq_p n a0 a1).bind fun y7=>(if y7 = 0 then (if a0.length = a1.length then thn (az (az_l7 n a1 a0) n 0) (fun _=>(if 0 <= (-1) then some (([]:List Tb),(2:Int)) else (aB_p n (0:Int)).bind fun b0=>Option.bind (az (az_l6 n a1) n (0,b0.fh.fc,b0.fh.fj,b0.fe.fc,b0.fe.fj)) (fun (g0,p0,j0,q0)=>(aB_p n (1:Int)).bind fun t0=>(aG_p n (⟨(⟨g0,p0⟩:Td),(⟨j0,q0⟩:Td)⟩:Tc) t0).bind fun u0=>(if u0 = 0 then Option.bind (az (az_l5 n a0 a1) n (0,([]:List (Ta × Tc)))) (fun c0=>(if 400 < c0.length then some (([]:List Tb),(3:Int)) else mloop (fun (d0,k0)=>(if k0 = true then some (([]:List Tb),(6:Int)) else (aQ_p n (ai ((d0.length:Nat):Int))).bind fun v0=>(de (fun x9 y9=>aj_p n x9 y9) v0 d0).bind fun s0=>some (s0,(0:Int)))) (cF n) n c0 (([]:List Tb),false))) else some (([]:List Tb),(2:Int)))))) else some (([]:List Tb),(2:Int))) else some (([]:List Tb),y7))))
theorem az_c (n:Nat) {L w} (hL:hl L w) {a0:List (List Tb)} {v0_0:Vc} (h0_0:Rep.R w L [v0_0] a0) {a1:List Ta} {v1_0:Vc} (h1_0:Rep.R w L [v1_0] a1)  {r:(List Tb) × Int} (h:az_p n a0 a1 = some r) :
 Cl 31 #[v0_0,v1_0] w (ar w fun w' u=>∃ v0_0:Vc,u = .tuple #[v0_0,vI r.2]/\Rep.R w' L [v0_0] r.1):=by
 unfold az_p at h
 have hS0:=AS w
 refine AT func31 I I I fun _ cs0 hb0=>Af<|Ai I<|Ai I<|Aa<|Ak<|Af<|Ae I ?_
 have hl1:=Bg h0_0
 refine Ab (Bh (xs:=a0) underlying57 I h0_0)<|Ab (FV.gtrN (i:=a0.length) (j:=40) I I)<|Ae I<|RG.ifd (s:=16) I h (fun c2 h=>?_) (fun c2 h=>?_)
 refine Av<|Av<|Av<|RG.pt I I<|Aa<|AW I<|Af<|Ai I<|Ai I<|Aa<|Au I ?_
 have hr3:=Bq (α:=Tb) hS0 L
 refine Aq hb0 func31 I (.cons (.tmp I) (.cons (.tmp I) .nil)) I ?_
 cases h
 exact ⟨hS0.ag,fun w9 hw9=>⟨vN,I,hS0.kd hr3 hw9⟩⟩
 refine Ax (Aj I) ?_
 have hl4:=Bg h1_0
 refine Ax (Bh (xs:=a1) underlying51 I h1_0)<|Ax (FV.gtrN (i:=a1.length) (j:=40) I I)<|Bp I I<|Aa<|Bb I h (fun c5 h=>?_) (fun c5 h=>?_)
 refine Af<|Ai I<|Ai I<|Aa<|Au I ?_
 have hr6:=Bq (α:=Tb) hS0 L
 refine Aq hb0 func31 I (.cons (.tmp I) (.cons (.tmp I) .nil)) I ?_
 cases h
 exact ⟨hS0.ag,fun w9 hw9=>⟨vN,I,hS0.kd hr6 hw9⟩⟩
 refine Ar<|Ak<|Af<|Ae I<|Ae I<|bk h fun y7 hy7 h=>Bo (vI y7) (bd 63) I (e2 I I) (fun w9 hw9=>aq_c n (hS0.hL0 hL hw9) (hS0.kd h0_0 hw9) (hS0.kd h1_0 hw9) hy7) I<|Ai I<|Aa<|Af<|Ae I<|Ab (BM (i:=y7) (j:=0) I I)<|Aa<|MX.ifn I h (fun c8 h=>?_) (fun c8 h=>?_)
 refine Ar<|Ak<|Af<|Ae I<|Ab (Bh (xs:=a0) underlying57 I h0_0)<|Ae I<|Ab (Bh (xs:=a1) underlying51 I h1_0)<|Ab (FV.neqN (i:=a0.length) (j:=a1.length) I I)<|Ae I<|RG.ifn (s:=32) I h (fun c9 h=>?_) (fun c9 h=>?_)
 refine Ax (Aj I)<|Bs (fst:=[]) (cap:=[]) (vs:=[v1_0,.func (.func 94) #[] #[]]) (.yes I I) (bd 93) func93 I I I I (e2 I I) I fun d0a g7 g0b=>Af<|Ai I<|Aa<|Af<|Ae I<|Ae I<|Bs (fst:=[]) (cap:=[]) (vs:=[v1_0,.func (.func 94) #[] #[]]) .plain (bd 146) func146 I I I I (e2 I I) I fun k0a j7 j0b=>Af<|Ai I<|Aa<|Ak<|Af<|Ae I<|Ab (Bh (xs:=a1) underlying51 I h1_0)<|Ae I<|Aa<|Aw<|tn h fun o38 q05 t7=>MX.lo (α:=Nat) (fun i32=>[(0,v1_0),(1,.func (.func 94) #[] #[]),(7,vn a1.length),(8,vn i32)]) (fun i32=>[]) (fun i32=>i32) 0 q05 hS0 ?_
 rintro J40 i32 I0e d00 W0 J02 h
 unfold az_l7 at h
 try dsimp only at h
 refine Af<|Ab (AY (i:=i32) (j:=a1.length) I I)<|Aa<|Ak<|Bb I h (fun R9 h=>?_) (fun R9 h=>?_)
 refine Ar<|Ak<|Aw<|Af<|Ae I<|Ai I<|Aa<|Af<|Ae I<|Ae I<|Ae I<|bk h fun x43 c07 h=>?_
 obtain ⟨A44,c45,d04,E04,I0a,K06,W04⟩:=Bv (AO h1_0 W0) c07
 obtain rfl:=dH K06
 refine Ab (BJ 16 i32 I d04 I I E04)<|Ab (AF I W04)<|bk h fun y52 R07 h=>Bo (.bool y52) (bd 94) I (e1 I) (fun w9 hw9=>bR_c n (W0.hL0 hL hw9) x43 R07) I<|Aa<|MX.ifb I h (fun U9 h=>?_) (fun U9 h=>?_)
 refine Af<|Ae I<|Ai I<|Aa ?_
 have h:=eY h t7
 refine Au I<|Aq (u:=vn i32) j7 func146 I (.cons (.tmp I) .nil) I<|Ab (FV.geqN (i:=i32) (j:=0) I I)<|Ai I<|Aa<|Au I<|Aq (u:=.bool (decide (0 <= i32))) g7 func93 I (.cons (.tmp I) .nil) I<|Bp I I<|Ae I<|RG.ifd (s:=36) I h (fun V9 h=>?_) (fun V9 h=>?_)
 refine Av<|Av<|Av<|Av<|Av<|RG.pt I I<|Aa<|AW I<|Af<|Ai I<|Ai I<|Aa<|Au I ?_
 have M06:=Bq (α:=Tb) W0 L
 refine Aq hb0 func31 I (.cons (.tmp I) (.cons (.tmp I) .nil)) I ?_
 cases h
 exact ⟨W0.ag,fun w9 hw9=>⟨vN,I,W0.kd M06 hw9⟩⟩
 refine Ax (Aj I)<|Bs (fst:=[]) (cap:=[]) (vs:=[v1_0,.func (.func 68) #[] #[]]) (.yes I I) (bd 95) func95 I I I I (e2 I I) I fun J0a I03 x0b=>Af<|RG.nl [.bool false,vN,.bool false,vN] W0 fun w60 G2 d6 X0a=>Aa<|Af<|bk h fun k2 U07 h=>jE (bd 71) I (e1 I) (fun w9 hw9=>aB_c n (d6.hL hL hw9)  U07) I fun w65 v0c E03 ⟨Q8,R8,hu_,P06,Q06⟩=>?_
 subst hu_
 obtain ⟨P01,Y0a⟩:=d6.agr E03
 refine RG.nl [.bool false,vN,.bool false,vN] P01 fun w75 H2 Q01 c7=>?_
 have P7:=Ag P06 c7
 have Q7:=Ag Q06 c7
 refine AQ [.bool k2.fh.fc,Q8,.bool k2.fe.fc,R8] Q01 .hd (o4 I (AE P7) I (AE Q7)) fun w81 g6 d7=>Aa<|Ak<|Af<|Ae I<|Ab (Bh (xs:=a1) underlying51 I (AO h1_0 g6))<|Ae I<|Aa<|Aw ?_
 obtain ⟨A0b,g05,k04⟩:=aw h
 refine MX.lf (α:=Nat × Bool × (List Ua) × Bool × (List Ua) × Vc × Vc) (fun ⟨p1,B0,K1,C0,M1,X0,Y0⟩=>[(1,.func (.func 68) #[] #[]),(4,vP G2),(5,vP H2),(9,v1_0),(10,vn a1.length),(11,vn p1)]) (fun ⟨p1,B0,K1,C0,M1,X0,Y0⟩=>[.cells H2 [.bool B0,X0,.bool C0,Y0] 109,.cells G2 [.bool false,vN,.bool false,vN] 109]) (fun ⟨p1,B0,K1,C0,M1,X0,Y0⟩ k5=>Rep.R k5 (bl [.cells H2 [.bool B0,X0,.bool C0,Y0] 109,.cells G2 [.bool false,vN,.bool false,vN] 109] ++ L) [X0] K1/\Rep.R k5 (bl [.cells H2 [.bool B0,X0,.bool C0,Y0] 109,.cells G2 [.bool false,vN,.bool false,vN] 109] ++ L) [Y0] M1) (fun ⟨p1,B0,K1,C0,M1,X0,Y0⟩=>(p1,B0,K1,C0,M1)) (0,k2.fh.fc,k2.fh.fj,k2.fe.fc,k2.fe.fj,Q8,R8) g05 g6 ⟨(Ag P7 d7),(Ag Q7 d7)⟩ ?_
 rintro j09 ⟨p1,B0,K1,C0,M1,X0,Y0⟩ k5 Z9 K2 u02 ⟨U4,V4⟩ h
 unfold az_l3 at h
 try dsimp only at h
 refine Af<|Ab (AY (i:=p1) (j:=a1.length) I I)<|Aa<|Ak<|Bb I h (fun F9 h=>?_) (fun F9 h=>?_)
 refine Ar<|Ak<|Aw<|Af<|bk h fun Z8 X06 h=>?_
 obtain ⟨U08,W09,X03,A04,z0a,b06,Q04⟩:=Bv (AO h1_0 K2) X06
 obtain rfl:=dH b06
 refine Ab (BJ 16 p1 I X03 I I A04)<|Ab (AF I Q04)<|RG.nl zL K2 fun C0d E09 Y00 C02=>AQ (aa Z8) Y00 .hd (ak I) fun D0d Q2 D02=>Aa<|du 5 fun W1 d5=>Rx 0 48 W1 I d5 (AF I (Q2.memA .t1))<|Rv 1 W1 I d5 (fun _=>Aj I)<|Rx 2 56 W1 I d5 (AF I (Q2.memA .hd))<|bk h fun G08 D07 h=>AU 3 15 W1 I .plain (bd 68) I (e1 I) (fun w9 hw9=>am_c n (Q2.hL hL hw9) Z8 D07) I fun E0d j0c x03 ⟨M0b,P0b,hu_,c06,d06⟩=>?_
 subst hu_
 obtain ⟨U5,E02⟩:=Q2.agr x03
 refine bk h fun j2 E07 h=>?_
 have M4:=Tt C02 (Tt D02 E02)
 refine AU 4 31 W1 I .plain (bd 81) I (e2 I I) (fun w9 hw9=>ae_c n (U5.hL hL hw9) (⟨(⟨B0,K1⟩:Td),(⟨C0,M1⟩:Td)⟩:Tc) (Ah (Ag U4 M4) hw9) (Ah (Ag V4 M4) hw9) G08 (Ah c06 hw9) (Ah d06 hw9) E07) I fun F0d k0c y03 ⟨M8,P8,hu_,u8,v8⟩=>?_
 subst hu_
 obtain ⟨Z00,F02⟩:=U5.agr y03
 refine BF 5 63 W1 I I .plain (AJ (news:=[.bool j2.fh.fc,M8,.bool j2.fe.fc,P8]) Z00 .t1 I I I I I I (o4 I (AE u8) I (AE v8))) fun G0d b01 q4=>AN (dk W1)<|Ay<|Ap<|Ab (Bj (i:=p1) (j:=1) I I (by omega))<|Ae I<|Aa ?_
 obtain ⟨c01,s4⟩:=AA b01 .d1
 exact Z9 (p1 + 1,j2.fh.fc,j2.fh.fj,j2.fe.fc,j2.fe.fj,M8,P8) c01 (Tt u02 (Tt M4 (Tt F02 (Tt q4 s4)))) ⟨(Ag u8 (Tt q4 s4)),(Ag v8 (Tt q4 s4))⟩ h
 refine Bd I ?_
 have h:=k04 _ h
 try dsimp only at h
 refine Af<|Ab (AF I (K2.memA .hd))<|AQ [.bool B0,X0,.bool C0,Y0] K2 .t1 (o4 I (AE U4) I (AE V4)) fun H0d Q3 H6=>Aa<|Au I<|Aq (u:=.agg #[.bool B0,X0,.bool C0,Y0]) I03 func95 I (.cons (.many (cs:=[.bool B0,X0,.bool C0,Y0]) I I (Q3.memA .t1)) .nil) I<|bk h fun H08 F07 h=>Az (fst:=[]) (cap:=[]) (.yes I I) (bd 71) I (e1 I) (fun w9 hw9=>aB_c n (Q3.hL hL hw9)  F07) I fun I0d p0c z03 ⟨Q0b,R0b,hu_,g06,j06⟩=>?_
 subst hu_
 obtain ⟨x1,I6⟩:=Q3.agr z03
 refine bk h fun p9 G07 h=>AL (v:=vI p9) (fst:=[]) (cap:=[]) (.yes I I) (bd 69) I (e2 I I) (fun w9 hw9=>aG_c n (x1.hL0 hL hw9) (⟨(⟨B0,K1⟩:Td),(⟨C0,M1⟩:Td)⟩:Tc) (x1.kd (Ag U4 (Tt H6 I6)) hw9) (x1.kd (Ag V4 (Tt H6 I6)) hw9) H08 (x1.kd g06 hw9) (x1.kd j06 hw9) G07) I<|Ax (BM (i:=p9) (j:=0) I I)<|Bp I I<|Aa<|MX.ifn I h (fun H9 h=>?_) (fun H9 h=>?_)
 refine Ar<|Af<|Am .plain I (Does.makeMap (κ:=Ta) (ν:=List Vc) x1) fun J0d c0 V5 U0a=>Ab (AI (vs:=[.map (some c0)]) (u:=.agg #[.map (some c0),.bool false]) (e1 I) (fun w9=>by kernel_rfl))<|RG.bx V5 I I fun K0d v0 W5 G02=>Ai I<|Aa<|Ak<|Af<|Ae I<|Ab (Bh (xs:=a0) underlying57 I (AO h0_0 W5))<|Ae I<|Aa<|Aw ?_
 obtain ⟨g00,R01⟩:=AA W5 (.a0 (.a0 .done))
 obtain ⟨y0b,c05,g04⟩:=aw h
 refine MX.lf (α:=Nat × (List (Ta × Tc)) × (List (Ta × List Vc))) (fun ⟨x0,c1,d0⟩=>[(1,v1_0),(7,vP v0),(46,v0_0),(47,vn a0.length),(48,vn x0)]) (fun ⟨x0,c1,d0⟩=>[.cells v0 [.map (some c0),.bool false] 126,.obj c0 (ay d0)]) (fun ⟨x0,c1,d0⟩ U8=>MR U8 (bl [.cells v0 [.map (some c0),.bool false] 126,.obj c0 (ay d0)] ++ L) d0 c1) (fun ⟨x0,c1,d0⟩=>(x0,c1)) (0,([]:List (Ta × Tc)),([]:List (Ta × List Vc))) c05 g00 (BE (MR.at_ (Z:=([]:List (Ta × List Vc))) (M:=([]:List (Ta × Tc))) V5 L trivial) (Tt G02 R01)) ?_
 rintro b09 ⟨x0,c1,d0⟩ U8 z5 U0 j6 c3 h
 unfold az_l2 at h
 try dsimp only at h
 refine Af<|Ab (AY (i:=x0) (j:=a0.length) I I)<|Aa<|Ak<|Bb I h (fun t9 h=>?_) (fun t9 h=>?_)
 refine Ar<|Ak<|Aw<|Af<|Ae I<|bk h fun C3 R06 h=>?_
 obtain ⟨K08,P09,Q03,v04,g0a,u05,J04⟩:=Bv (AO h0_0 U0) R06
 obtain ⟨X07,rfl,v05⟩:=fv u05
 refine Ab (BJ 1 x0 I Q03 I I v04)<|BH I (J04 0 _ I)<|Ai I<|Ai I<|Aa<|Af<|Ae I<|Ae I<|bk h fun y08 U06 h=>?_
 obtain ⟨M08,Q09,R03,x04,j0a,x05,K04⟩:=Bv (AO h1_0 U0) U06
 obtain rfl:=dH x05
 refine Ab (BJ 16 x0 I R03 I I x04)<|Ab (AF I K04)<|bk h fun C1 p07 h=>jE (bd 68) I (e1 I) (fun w9 hw9=>am_c n (U0.hL hL hw9) y08 p07) I fun x0c W0b j03 ⟨j3,g5,hu_,y05,z05⟩=>?_
 subst hu_
 obtain ⟨j00,k6⟩:=U0.agr j03
 refine RG.nl [.bool false,vN,.bool false,vN] j00 fun y0c E3 k00 V2=>?_
 have u7:=Ag y05 V2
 have v7:=Ag z05 V2
 refine AQ [.bool C1.fh.fc,j3,.bool C1.fe.fc,g5] k00 .hd (o4 I (AE u7) I (AE v7)) fun z0c p2 W2=>Aa<|Ak<|Af<|BB 0 I<|Ab (AZ (cs:=[.bool C1.fh.fc,j3]) I I (aj (p2.memA .hd) 0 2))<|bk h fun g9 q07 h=>?_
 have x7:=Ag u7 W2
 refine Bo (vI g9) (bd 67) I (e1 I) (fun w9 hw9=>aI_c n (p2.hL0 hL hw9) C1.fh (p2.kd x7 hw9) q07) I<|Ab (FV.eql (i:=g9) (j:=0) I I)<|Aa<|Bb I h (fun u9 h=>?_) (fun u9 h=>?_)
 refine Bd I<|Ap<|Ab (Bj (i:=x0) (j:=1) I I (by omega))<|Ae I<|Aa ?_
 obtain ⟨p00,U01⟩:=AA p2 .d1
 have R7:=Tt k6 (Tt V2 (Tt W2 U01))
 exact z5 (x0 + 1,c1,d0) p00 (Tt j6 R7) (BE c3 R7) h
 refine Ar<|Af<|Ae I ?_
 have H4:=Tt k6 (Tt V2 W2)
 have D4:=Ag v05 H4
 have Z0a:=Bg D4
 refine Ab (Bh (xs:=C3) underlying24 I D4)<|Ae I<|Aa<|Aw ?_
 obtain ⟨z0b,d05,j04⟩:=aw h
 refine MX.lf (α:=Nat × (List (Ta × Tc)) × (List (Ta × List Vc))) (fun ⟨J0,s1,j1⟩=>[(1,v1_0),(7,vP v0),(46,v0_0),(47,vn a0.length),(48,vn x0),(10,vP E3),(62,X07),(63,vn C3.length),(64,vn J0)]) (fun ⟨J0,s1,j1⟩=>[.cells E3 [.bool C1.fh.fc,j3,.bool C1.fe.fc,g5] 109,.cells v0 [.map (some c0),.bool false] 126,.obj c0 (ay j1)]) (fun ⟨J0,s1,j1⟩ V8=>MR V8 (bl [.cells E3 [.bool C1.fh.fc,j3,.bool C1.fe.fc,g5] 109,.cells v0 [.map (some c0),.bool false] 126,.obj c0 (ay j1)] ++ L) j1 s1) (fun ⟨J0,s1,j1⟩=>(J0,s1)) (0,c1,d0) d05 p2 (BE c3 H4) ?_
 rintro c09 ⟨J0,s1,j1⟩ V8 A5 F5 y2 B8 h
 unfold az_l1 at h
 try dsimp only at h
 refine Af<|Ab (AY (i:=J0) (j:=C3.length) I I)<|Aa<|Ak<|Bb I h (fun v9 h=>?_) (fun v9 h=>?_)
 refine Ar<|Ak<|Aw<|Af<|bk h fun p0 V06 h=>?_
 obtain ⟨P08,R09,U03,y04,p0a,A05,M04⟩:=Bv (Ag D4 y2) V06
 obtain rfl:=aY A05
 refine Ab (BJ 32 J0 I U03 I I y04)<|Ab (AF I M04)<|RG.nl [vW 0,vW 0,vW 0,vW 0,vW 0,vW 0,vW 0,vW 0,vW 0,vW 0,vW 0,vW 0,vW 0,vW 0,vW 0,vW 0,vW 0,vW 0,vW 0,vW 0,vW 0,vW 0,vW 0,vW 0,vW 0,vW 0,vW 0,vW 0,vW 0,vW 0,vW 0,vW 0] F5 fun A0c v09 q00 p6=>AQ (aA p0) q00 .hd (ak I) fun B0c X1 q6=>Aa<|du 10 fun z0 I1=>Rv 0 z0 I I1 (fun _=>Aj I)<|Rv 1 z0 I I1 (fun _=>Bf I)<|Rv 2 z0 I I1 (fun _=>Bw 0 I)<|Rx 3 1024 z0 I I1 (Bx I ((X1.memA .t2) 0 _ I))<|Rv 4 z0 I I1 (fun _=>Bw 0 I)<|Rx 5 1024 z0 I I1 (AZ (cs:=(aa p0.fm)) I I (aj (X1.memA .hd) 0 16))<|Rx 6 1664 z0 I I1 (AF I (X1.memA .hd))<|Rx 8 1536 z0 I I1 (AF I (X1.memA .t1))<|bk h fun D08 s07 h=>AU 7 511 z0 I .plain (bd 66) I (e1 I) (fun w9 hw9=>aK_c n (X1.hL hL hw9) p0 s07) I fun C0c X0b k03 ⟨F0b,G0b,hu_,B05,C05⟩=>?_
 subst hu_
 obtain ⟨G5,s6⟩:=X1.agr k03
 refine bk h fun H0 t07 h=>?_
 have U7:=Tt y2 (Tt p6 (Tt q6 s6))
 refine AU 9 1023 z0 I .plain (bd 80) I (e2 I I) (fun w9 hw9=>aw_c n (G5.hL hL hw9) D08 (Ah B05 hw9) (Ah C05 hw9) C1 (Ah (Ag x7 U7) hw9) (Ah (Ag v7 (Tt W2 U7)) hw9) t07) I fun D0c Y0b p03 ⟨k3,p3,hu_,j8,k8⟩=>?_
 subst hu_
 obtain ⟨s00,V01⟩:=G5.agr p03
 refine BK (i:=10) (rk z0) (RO.enterPT (m' :=2047) (fst:=[]) (cap:=[]) (vs:=[.map (some c0),.agg ((aa p0.fm)).toArray,.agg #[.bool H0.fh.fc,k3,.bool H0.fe.fc,p3]]) (sk z0) I I .plain (bd 88) func88 I I I I (e3 I I I) I (fun _ q0a k7 k0b=>?_))
 refine Af<|RG.bx s00 I I fun E0c x09 t00 Z3=>RG.bx t00 I I fun F0c y09 q2 b4=>Aa<|Ak<|Af<|Ae I<|Ab (AF I (q2.memA .t1)) ?_
 have I4:=Tt p6 (Tt q6 (Tt s6 (Tt V01 (Tt Z3 b4))))
 have E4:=BE B8 I4
 rcases MR.get p0.fm E4 with ⟨B4,Y4⟩ | ⟨s0a,q5,Y4,B4,D05⟩
 have h:=cw h B4
 refine Ab (FV.lookupK (kv:=p0.fm) (q:=false) au q2 .t5 underlying124 (z:=.agg #[.bool false,vN,.bool false,vN]) I I I (.inl ⟨Y4,I,I⟩))<|Ae I<|Ab (Ac I I)<|Ab (Ac I I)<|RG.nl [.bool false,vN,.bool false,vN] q2 fun G0c z09 u00 c4=>AQ [.bool false,vN,.bool false,vN] u00 .hd (ak I) fun H0c G3 g4=>Ai I<|Aa<|Af<|Ae I<|Aa<|BG I<|Ar<|Ap<|Ae I<|Ab (AF I (G3.memA .t2))<|Ab (AF I (G3.memA .t1)) ?_
 have V7:=Tt Z3 (Tt b4 (Tt c4 g4))
 refine RG.now .plain (BA (kv:=p0.fm) (vv:=[.bool H0.fh.fc,k3,.bool H0.fe.fc,p3]) au G3 .t6 underlying124 I I I) fun I0c v00 u6=>Aa<|MX.fin I<|Aq (u:=.tuple #[]) k7 func88 I .nil I<|AN (dk z0)<|Ay<|Ap<|Ab (Bj (i:=J0) (j:=1) I I (by omega))<|Ae I<|Aa ?_
 obtain ⟨x00,v6⟩:=AA v00 .d4
 exact A5 (J0 + 1,aB s1 p0.fm H0,(aB j1 p0.fm [.bool H0.fh.fc,k3,.bool H0.fe.fc,p3])) x00 (Tt y2 (Tt I4 (Tt c4 (Tt g4 (Tt u6 v6))))) (BE (MR.set (k:=p0.fm) (c:=[.bool H0.fh.fc,k3,.bool H0.fe.fc,p3]) (y:=H0) (bT H0.fh (Ag j8 V7) H0.fe (Ag k8 V7)) (BE E4 (Tt c4 g4))) (Tt u6 v6)) h
 have h:=ct h B4
 obtain ⟨Y07,Z07,rfl,E05,F05⟩:=cp D05
 refine Ab (FV.lookupK (kv:=p0.fm) (q:=true) au q2 .t5 underlying124 (z:=.agg #[.bool false,vN,.bool false,vN]) I I I (.inr ⟨_,Y4,I,I⟩))<|Ae I<|Ab (Ac I I)<|Ab (Ac I I)<|RG.nl [.bool false,vN,.bool false,vN] q2 fun J0c A09 y00 z2=>?_
 have z7:=Ag E05 z2
 have A7:=Ag F05 z2
 refine AQ [.bool q5.fh.fc,Y07,.bool q5.fe.fc,Z07] y00 .hd (o4 I (AE z7) I (AE A7)) fun K0c I2 A2=>Ai I<|Aa<|Af<|Ae I<|Aa<|AW I<|Ap<|Ab (AF I (I2.memA .t1))<|Ab (AF I (I2.memA .hd))<|bk h fun Q0 u07 h=>?_
 have W7:=Tt Z3 (Tt b4 (Tt z2 A2))
 refine jE (bd 81) I (e2 I I) (fun w9 hw9=>ae_c n (I2.hL hL hw9) H0 (Ah (Ag j8 W7) hw9) (Ah (Ag k8 W7) hw9) q5 (Ah (Ag z7 A2) hw9) (Ah (Ag A7 A2) hw9) u07) I fun M0c Z0b q03 ⟨q3,s3,hu_,p8,q8⟩=>?_
 subst hu_
 obtain ⟨z00,x6⟩:=I2.agr q03
 refine AQ [.bool Q0.fh.fc,q3,.bool Q0.fe.fc,s3] z00 .t1 (o4 I (AE p8) I (AE q8)) fun P0c H3 X2=>Aa<|Ap<|Ae I<|Ab (AF I (H3.memA .t2))<|Ab (AF I (H3.memA .t1))<|RG.now .plain (BA (kv:=p0.fm) (vv:=[.bool Q0.fh.fc,q3,.bool Q0.fe.fc,s3]) au H3 .t6 underlying124 I I I) fun Q0c A00 y6=>Aa<|MX.fin I<|Aq (u:=.tuple #[]) k7 func88 I .nil I<|AN (dk z0)<|Ay<|Ap<|Ab (Bj (i:=J0) (j:=1) I I (by omega))<|Ae I<|Aa ?_
 obtain ⟨B00,z6⟩:=AA A00 .d4
 exact A5 (J0 + 1,aB s1 p0.fm Q0,(aB j1 p0.fm [.bool Q0.fh.fc,q3,.bool Q0.fe.fc,s3])) B00 (Tt y2 (Tt I4 (Tt z2 (Tt A2 (Tt x6 (Tt X2 (Tt y6 z6))))))) (BE (MR.set (k:=p0.fm) (c:=[.bool Q0.fh.fc,q3,.bool Q0.fe.fc,s3]) (y:=Q0) (bT Q0.fh (Ag p8 X2) Q0.fe (Ag q8 X2)) (BE E4 (Tt z2 (Tt A2 (Tt x6 X2))))) (Tt y6 z6)) h
 refine Bd I ?_
 have h:=j04 _ h
 try dsimp only at h
 refine Ay<|Ap<|Ab (Bj (i:=x0) (j:=1) I I (by omega))<|Ae I<|Aa ?_
 obtain ⟨C00,A6⟩:=AA F5 .d1
 exact z5 (x0 + 1,s1,j1) C00 (Tt j6 (Tt H4 (Tt y2 A6))) (BE B8 A6) h
 refine Bd I ?_
 have h:=g04 _ h
 try dsimp only at h
 refine Af<|Ae I<|Bs (fst:=[]) (cap:=[]) (vs:=[vP v0]) .plain (bd 87) func87 I I I I (e1 I) I fun t0a z4 p0b=>Af<|Ai I<|Ai I<|Aa<|Ak<|Af<|Ae I<|Ab (Bf I)<|BB 0 I<|BH I ((U0.memA .hd) 0 _ I)<|Ab (FV.as (FV.len_map (D:=d0) U0 .t1 underlying124 I) (congrArg (fun n9:Nat=>Value.int .i64 (n9:Int)) (MR.len c3)))<|Ab (FV.gtrN (i:=c1.length) (j:=400) I I)<|Aa<|Bb I h (fun A9 h=>?_) (fun A9 h=>?_)
 refine Af<|Ai I<|Ai I<|Aa<|Au I<|Aq (u:=.tuple #[vN,vI 3]) z4 func87 I (.cons (.tmp I) (.cons (.tmp I) .nil)) I<|Ab (Ac I I)<|Ab (Ac I I)<|Ai I<|Ai I<|Aa<|Au I ?_
 have G05:=Bq (α:=Tb) U0 L
 refine Aq hb0 func31 I (.cons (.tmp I) (.cons (.tmp I) .nil)) I ?_
 cases h
 exact ⟨U0.ag,fun w9 hw9=>⟨vN,I,U0.kd G05 hw9⟩⟩
 refine Ar<|Af<|Ai I<|Aa<|Ak<|Af<|Ae I<|Ab (Bf I)<|BB 0 I<|BH I ((U0.memA .hd) 0 _ I)<|Am .plain I (Does.range (D:=d0) U0 .t1 underlying124 I) fun t08 R1 H5 W01=>Aa<|Aw ?_
 have I5:=H5.nilRow 37 (Rep.size Tb)
 refine MX.mloop (α:=(List Tb) × Bool × Vc × (List Vc) × (Array Nat)) (fun ⟨M0,y1,F0,E1,A1⟩=>[(0,vP v0),(4,F0),(19,vP R1)]) (fun F8 ⟨M0,y1,F0,E1,A1⟩ A3=>St w A3 [rr w 37 Tb F0 M0.length E1,.obj R1 (aC c0 d0.length A1),.cells v0 [.map (some c0),.bool y1] 126,.obj c0 (ay d0)]/\Tr t08 [rr w 37 Tb vN (([]:List Tb).length) [],.obj R1 (aC c0 d0.length #[]),.cells v0 [.map (some c0),.bool false] 126,.obj c0 (ay d0)] A3 [rr w 37 Tb F0 M0.length E1,.obj R1 (aC c0 d0.length A1),.cells v0 [.map (some c0),.bool y1] 126,.obj c0 (ay d0)]/\Cells A3 (bl [rr w 37 Tb F0 M0.length E1,.obj R1 (aC c0 d0.length A1),.cells v0 [.map (some c0),.bool y1] 126,.obj c0 (ay d0)] ++ L) E1 M0/\left c1 A1 = F8) (fun ⟨M0,y1,F0,E1,A1⟩=>(M0,y1)) (([]:List Tb),false,vN,[],#[]) h ⟨rfl,rfl,rfl,trivial⟩ ⟨I5,Tr.refl _ _,(AC (cs:=[]) (xs:=([]:List Tb)) I5 L (AH _ _)),(cn _)⟩ ?_
 rintro F8 ⟨M0,y1,F0,E1,A1⟩ A3 d09 Y9 ⟨D00,B6,q7,F04⟩ X04 M03
 refine Af<|RG.nextR (W:=d0) (BE c3 (Tt W01 (Tt (St.nilRowT H5 37 (Rep.size Tb)) B6))) D00 .t3 (fun _=>.t1) I I F04 (fun R0c Y04 G1 X01=>?_) (fun U0c D8 j0 u0a V07 t04 H05 s05 G04 J5 Y01=>?_)
 have h:=X04 Y04
 try dsimp only at h
 refine Ab (Ac I I)<|Aa<|Ak<|BG I<|Bd I<|Ak<|Af<|Ae I<|Ab (Bf I)<|BB 1 I<|BH I ((G1.memA .t2) 1 _ I)<|Aa<|MX.ifb I h (fun B9 h=>?_) (fun B9 h=>?_)
 refine Af<|Ai I<|Ai I<|Aa<|Au I<|Aq (u:=.tuple #[vN,vI 6]) z4 func87 I (.cons (.tmp I) (.cons (.tmp I) .nil)) I<|Ab (Ac I I)<|Ab (Ac I I)<|Ai I<|Ai I<|Aa<|Au I ?_
 have I05:=Bq (α:=Tb) G1 L
 refine Aq hb0 func31 I (.cons (.tmp I) (.cons (.tmp I) .nil)) I ?_
 cases h
 exact ⟨G1.ag,fun w9 hw9=>⟨vN,I,G1.kd I05 hw9⟩⟩
 refine Ar<|Af<|Ae I<|Bs (fst:=[]) (cap:=[]) (vs:=[F0,.func (.func 144) #[] #[]]) .plain (bd 143) func143 I I I I (e2 I I) I fun v0a F03 q0b=>Af<|Ae I ?_
 have b0b:M0.length <= 4294967296:=St.rowLe (α:=Tb) G1 .hd
 obtain ⟨Q08,U09,V03⟩:=St.rowV (α:=Tb) G1 .hd
 refine Ab (FV.lenV underlying24 I V03)<|Ai I<|Aa<|Ap<|Ae I<|Ae I<|Ae I<|Ab (FV.convU (i:=((M0.length:Nat):Int)) underlying3 underlying193 I)<|bk h fun j9 v07 h=>Bo (vI j9) (bd 174) I (e1 I) (fun w9 hw9=>aQ_c n (G1.hL0 hL hw9) (ai ((M0.length:Nat):Int)) v07) I<|Ae I<|bk h fun b9 d07 h=>RG.sort (enc:=aA) (ρ:=Tryz.srt173_ren) (c:=(fun x9 y9=>aj_p n x9 y9)) (li:=j9) d07 I (fun _ _ _ _ h9=>aY h9) (fun w9 L9 z9=>bg (w:=w9) (L:=L9) z9.fm z9.fP) Tryz.srt173 (fun w9=>Tryz.isAgg37 w9) (fun w9=>Tryz.sizeOf37 w9) (enters_of func144 I I) (fun x9 y9 r9 w9 h9=>aj_c n (L:=[]) (w:=w9) (fun _ h8=>nomatch h8) x9 y9 h9) .plain (bd 173) I (e5 I I I I I) I G1 (AK q7 X01) .hd fun u08 J2 K0a=>Aa<|MX.fin I<|Aq (u:=.tuple #[]) F03 func143 I .nil I<|Aa<|Af<|Ae I<|Ai I<|Ai I<|Aa<|Au I<|Aq (u:=.tuple #[F0,vI 0]) z4 func87 I (.cons (.tmp I) (.cons (.tmp I) .nil)) I<|Ab (Ac I I)<|Ab (Ac I I)<|Ai I<|Ai I<|Aa<|Au I ?_
 have I3:=Bl J2 .hd
 have M0a:=Bm J2 .hd
 have J05:=Bn (α:=Tb) (v:=F0) (xs:=b9) I3 L (Ba (α:=Tb) J2 .hd (AC J2 L (bp (α:=Tb) (enc:=aA) (fun w9 L9 z9=>bg (w:=w9) (L:=L9) z9.fm z9.fP) u08 _ b9)) hL)
 refine Aq hb0 func31 I (.cons (.tmp I) (.cons (.tmp I) .nil)) I ?_
 cases h
 exact ⟨I3.ag,fun w9 hw9=>⟨F0,I,I3.kd J05 hw9⟩⟩
 obtain ⟨b08,c08,rfl,K05,M05⟩:=cp H05
 have h:=M03 _ _ s05
 unfold cI at h
 try dsimp only at h
 refine Ab (Ac I I)<|Aa<|Ak<|AW I<|Ar<|Aw<|Af<|Ab (FV.entry (D:=d0) J5 .t3 .t1 t04 I)<|Ab (Ac I I)<|Ab (Ac I I)<|RG.nl zL J5 fun V0c u5 E00 Z01=>RG.nl [.bool false,vN,.bool false,vN] E00 fun W0c B09 F00 b02=>AQ (aa j0.1) F00 .t1 (ak I) fun X0c G00 c02=>?_
 have J4:=Tt Y01 (Tt Z01 (Tt b02 c02))
 have B7:=Ag K05 J4
 have C7:=Ag M05 J4
 refine AQ [.bool j0.2.fh.fc,b08,.bool j0.2.fe.fc,c08] G00 .hd (o4 I (AE B7) I (AE C7)) fun Y0c s2 j4=>Aa<|Af<|Ab (AF I (s2.memA .hd))<|bk h fun s0 x07 h=>Bo (.tuple #[.agg ((aa s0.1)).toArray,vI s0.2]) (bd 77) I (e1 I) (fun w9 hw9=>ak_c n (s2.hL0 hL hw9) j0.2 (s2.kd (Ag B7 j4) hw9) (s2.kd (Ag C7 j4) hw9) x07) I<|Ae I<|Ab (Ac I I)<|Ab (Ac I I)<|RG.nl zL s2 fun Z0c v5 H00 d02=>AQ (aa s0.1) H00 .hd (ak I) fun b0d J3 g02=>Ai I<|Aa<|Ak<|Af<|Ae I<|Ab (BM (i:=s0.2) (j:=0) I I)<|Aa<|MX.jo (α:=Bool) (fun Z1=>[(0,vP v0),(4,F0),(19,vP R1),(5,vP u5),(7,vP v5)]) (fun Z1=>[.cells v5 (aa s0.1) 34,.cells u5 (aa j0.1) 34,rr w 37 Tb F0 M0.length E1,.obj R1 (aC c0 d0.length (A1.push D8)),.cells v0 [.map (some c0),.bool Z1] 126,.obj c0 (ay d0)]) (fun Z1=>Z1) J3 h ?_ ?_
 rintro Z1 H0e K3 j02 h
 try dsimp only at h
 refine Ap<|Ae I<|Ab (AF I (K3.memA .t1))<|Ab (AF I (K3.memA .hd))<|Ab (AI (vs:=[.agg ((aa j0.1)).toArray,.agg ((aa s0.1)).toArray]) (u:=.agg ((aa j0.1 ++ aa s0.1)).toArray) (e2 I I) (fun w9=>by kernel_rfl))<|Am .plain I (AG (α:=Tb) (xs:=([(⟨j0.1,s0.1⟩:Tb)]:List Tb)) (vs:=[.agg ((aa j0.1 ++ aa s0.1)).toArray]) (ds' :=(aa j0.1 ++ aa s0.1)) I K3 dq I (e1 I) (by kernel_rfl) I) fun c0d C09 M3 k02=>bk h fun B08 g07 h=>?_
 have X7:=Tt J4 (Tt j4 (Tt d02 (Tt g02 (Tt j02 k02))))
 refine BN .plain I (Bz (α:=Tb) (ys:=([(⟨j0.1,s0.1⟩:Tb)]:List Tb)) g07 M3 (fun _ _=>.t3) dq I I (AK q7 X7) (Src.row (α:=Tb) M3 .hd (AC (cs:=(aa j0.1 ++ aa s0.1)) (xs:=(([(⟨j0.1,s0.1⟩:Tb)]:List Tb):List Tb)) M3 L (Ao (cs:=(aa j0.1 ++ aa s0.1)) (ds:=[]) (bg j0.1 s0.1) (AH _ _))))) fun d08 d0d ⟨W9,I00,p02,J03⟩=>Ai I<|Aa<|Ay ?_
 obtain ⟨J00,C6⟩:=AA I00 .d3
 exact Y9 V07 (B08,Z1,d08,W9,(A1.push D8)) _ _ ⟨I,I,I,trivial⟩ ⟨J00,(Tt B6 (Tt X7 (Tt p02 C6))),(AK J03 C6),G04⟩ h
 intro g09 B5 h
 try dsimp only at h
 refine MX.ifn I h (fun C9 h=>?_) (fun C9 h=>?_)
 refine Ar ?_
 obtain ⟨K00,q02⟩:=AA J3 (.a0 .d1)
 exact B5 y1 K00 q02 h
 refine Ap<|Ae I<|Ab (Bf I)<|BB 1 I<|RG.now .plain (BL (j:=1) (old:=[.map (some c0),.bool y1]) (news:=[.bool true]) (new' :=[.map (some c0),.bool true]) J3 .t5 I I I I I I (o1 I) I) fun g0d M00 s02=>Aa ?_
 obtain ⟨P00,t02⟩:=AA M00 (.a0 .d1)
 exact B5 true P00 (Tt s02 t02) h
 refine Af<|Ai I<|Ai I<|Aa<|Au I ?_
 have P05:=Bq (α:=Tb) x1 L
 refine Aq hb0 func31 I (.cons (.tmp I) (.cons (.tmp I) .nil)) I ?_
 cases h
 exact ⟨x1.ag,fun w9 hw9=>⟨vN,I,x1.kd P05 hw9⟩⟩
 refine Ar<|Ay<|Ap<|Ab (Bj (i:=i32) (j:=1) I I (by omega))<|Ae I<|Aa<|d00 (i32 + 1) W0 J02 h
 refine Bd I ?_
 have h:=cx h t7
 try dsimp only at h
 refine Af<|Ai I<|Aa<|Au I<|Aq (u:=vI (-1)) j7 func146 I (.cons (.tmp I) .nil) I<|Ab (FV.geq (i:=(-1)) (j:=0) I I)<|Ai I<|Aa<|Au I<|Aq (u:=.bool (decide (0 <= (-1)))) g7 func93 I (.cons (.tmp I) .nil) I<|Bp I I<|Ae I<|RG.ifd (s:=36) I h (fun D9 h=>?_) (fun D9 h=>?_)
 refine Av<|Av<|Av<|Av<|Av<|RG.pt I I<|Aa<|AW I<|Af<|Ai I<|Ai I<|Aa<|Au I ?_
 have Q05:=Bq (α:=Tb) W0 L
 refine Aq hb0 func31 I (.cons (.tmp I) (.cons (.tmp I) .nil)) I ?_
 cases h
 exact ⟨W0.ag,fun w9 hw9=>⟨vN,I,W0.kd Q05 hw9⟩⟩
 refine Ax (Aj I)<|Bs (fst:=[]) (cap:=[]) (vs:=[v1_0,.func (.func 68) #[] #[]]) (.yes I I) (bd 95) func95 I I I I (e2 I I) I fun x0a G03 s0b=>Af<|RG.nl [.bool false,vN,.bool false,vN] W0 fun j0d E2 K5 P0a=>Aa<|Af<|bk h fun d2 y07 h=>jE (bd 71) I (e1 I) (fun w9 hw9=>aB_c n (K5.hL hL hw9)  y07) I fun k0d b0c s03 ⟨H8,I8,hu_,R05,U05⟩=>?_
 subst hu_
 obtain ⟨Q00,Q0a⟩:=K5.agr s03
 refine RG.nl [.bool false,vN,.bool false,vN] Q00 fun p0d F2 R00 D6=>?_
 have D7:=Ag R05 D6
 have E7:=Ag U05 D6
 refine AQ [.bool d2.fh.fc,H8,.bool d2.fe.fc,I8] R00 .hd (o4 I (AE D7) I (AE E7)) fun q0d M5 E6=>Aa<|Ak<|Af<|Ae I<|Ab (Bh (xs:=a1) underlying51 I (AO h1_0 M5))<|Ae I<|Aa<|Aw ?_
 obtain ⟨B0b,j05,p04⟩:=aw h
 refine MX.lf (α:=Nat × Bool × (List Ua) × Bool × (List Ua) × Vc × Vc) (fun ⟨q1,D0,P1,E0,Q1,Z0,b1⟩=>[(1,.func (.func 68) #[] #[]),(4,vP E2),(5,vP F2),(9,v1_0),(10,vn a1.length),(11,vn q1)]) (fun ⟨q1,D0,P1,E0,Q1,Z0,b1⟩=>[.cells F2 [.bool D0,Z0,.bool E0,b1] 109,.cells E2 [.bool false,vN,.bool false,vN] 109]) (fun ⟨q1,D0,P1,E0,Q1,Z0,b1⟩ p5=>Rep.R p5 (bl [.cells F2 [.bool D0,Z0,.bool E0,b1] 109,.cells E2 [.bool false,vN,.bool false,vN] 109] ++ L) [Z0] P1/\Rep.R p5 (bl [.cells F2 [.bool D0,Z0,.bool E0,b1] 109,.cells E2 [.bool false,vN,.bool false,vN] 109] ++ L) [b1] Q1) (fun ⟨q1,D0,P1,E0,Q1,Z0,b1⟩=>(q1,D0,P1,E0,Q1)) (0,d2.fh.fc,d2.fh.fj,d2.fe.fc,d2.fe.fj,H8,I8) j05 M5 ⟨(Ag D7 E6),(Ag E7 E6)⟩ ?_
 rintro k09 ⟨q1,D0,P1,E0,Q1,Z0,b1⟩ p5 b00 M2 v02 ⟨W4,X4⟩ h
 unfold az_l6 at h
 try dsimp only at h
 refine Af<|Ab (AY (i:=q1) (j:=a1.length) I I)<|Aa<|Ak<|Bb I h (fun E9 h=>?_) (fun E9 h=>?_)
 refine Ar<|Ak<|Aw<|Af<|bk h fun Y8 W06 h=>?_
 obtain ⟨R08,V09,W03,z04,y0a,V05,P04⟩:=Bv (AO h1_0 M2) W06
 obtain rfl:=dH V05
 refine Ab (BJ 16 q1 I W03 I I z04)<|Ab (AF I P04)<|RG.nl zL M2 fun s0d D09 U00 x02=>AQ (aa Y8) U00 .hd (ak I) fun t0d P2 y02=>Aa<|du 5 fun V1 b5=>Rx 0 48 V1 I b5 (AF I (P2.memA .t1))<|Rv 1 V1 I b5 (fun _=>Aj I)<|Rx 2 56 V1 I b5 (AF I (P2.memA .hd))<|bk h fun E08 z07 h=>AU 3 15 V1 I .plain (bd 68) I (e1 I) (fun w9 hw9=>am_c n (P2.hL hL hw9) Y8 z07) I fun u0d c0c t03 ⟨H0b,I0b,hu_,W05,X05⟩=>?_
 subst hu_
 obtain ⟨P5,z02⟩:=P2.agr t03
 refine bk h fun g2 A07 h=>?_
 have K4:=Tt x02 (Tt y02 z02)
 refine AU 4 31 V1 I .plain (bd 81) I (e2 I I) (fun w9 hw9=>ae_c n (P5.hL hL hw9) (⟨(⟨D0,P1⟩:Td),(⟨E0,Q1⟩:Td)⟩:Tc) (Ah (Ag W4 K4) hw9) (Ah (Ag X4 K4) hw9) E08 (Ah W05 hw9) (Ah X05 hw9) A07) I fun v0d d0c u03 ⟨J8,K8,hu_,s8,t8⟩=>?_
 subst hu_
 obtain ⟨V00,A02⟩:=P5.agr u03
 refine BF 5 63 V1 I I .plain (AJ (news:=[.bool g2.fh.fc,J8,.bool g2.fe.fc,K8]) V00 .t1 I I I I I I (o4 I (AE s8) I (AE t8))) fun x0d W00 k4=>AN (dk V1)<|Ay<|Ap<|Ab (Bj (i:=q1) (j:=1) I I (by omega))<|Ae I<|Aa ?_
 obtain ⟨X00,p4⟩:=AA W00 .d1
 exact b00 (q1 + 1,g2.fh.fc,g2.fh.fj,g2.fe.fc,g2.fe.fj,J8,K8) X00 (Tt v02 (Tt K4 (Tt A02 (Tt k4 p4)))) ⟨(Ag s8 (Tt k4 p4)),(Ag t8 (Tt k4 p4))⟩ h
 refine Bd I ?_
 have h:=p04 _ h
 try dsimp only at h
 refine Af<|Ab (AF I (M2.memA .hd))<|AQ [.bool D0,Z0,.bool E0,b1] M2 .t1 (o4 I (AE W4) I (AE X4)) fun y0d P3 F6=>Aa<|Au I<|Aq (u:=.agg #[.bool D0,Z0,.bool E0,b1]) G03 func95 I (.cons (.many (cs:=[.bool D0,Z0,.bool E0,b1]) I I (P3.memA .t1)) .nil) I<|bk h fun F08 B07 h=>Az (fst:=[]) (cap:=[]) (.yes I I) (bd 71) I (e1 I) (fun w9 hw9=>aB_c n (P3.hL hL hw9)  B07) I fun z0d g0c v03 ⟨J0b,K0b,hu_,Y05,Z05⟩=>?_
 subst hu_
 obtain ⟨v1,G6⟩:=P3.agr v03
 refine bk h fun k9 C07 h=>AL (v:=vI k9) (fst:=[]) (cap:=[]) (.yes I I) (bd 69) I (e2 I I) (fun w9 hw9=>aG_c n (v1.hL0 hL hw9) (⟨(⟨D0,P1⟩:Td),(⟨E0,Q1⟩:Td)⟩:Tc) (v1.kd (Ag W4 (Tt F6 G6)) hw9) (v1.kd (Ag X4 (Tt F6 G6)) hw9) F08 (v1.kd Y05 hw9) (v1.kd Z05 hw9) C07) I<|Ax (BM (i:=k9) (j:=0) I I)<|Bp I I<|Aa<|MX.ifn I h (fun G9 h=>?_) (fun G9 h=>?_)
 refine Ar<|Af<|Am .plain I (Does.makeMap (κ:=Ta) (ν:=List Vc) v1) fun A0d b0 Q5 R0a=>Ab (AI (vs:=[.map (some b0)]) (u:=.agg #[.map (some b0),.bool false]) (e1 I) (fun w9=>by kernel_rfl))<|RG.bx Q5 I I fun B0d u0 R5 B02=>Ai I<|Aa<|Ak<|Af<|Ae I<|Ab (Bh (xs:=a0) underlying57 I (AO h0_0 R5))<|Ae I<|Aa<|Aw ?_
 obtain ⟨d01,H02⟩:=AA R5 (.a0 (.a0 .done))
 obtain ⟨C0b,k05,q04⟩:=aw h
 refine MX.lf (α:=Nat × (List (Ta × Tc)) × (List (Ta × List Vc))) (fun ⟨y0,g1,g0⟩=>[(1,v1_0),(7,vP u0),(46,v0_0),(47,vn a0.length),(48,vn y0)]) (fun ⟨y0,g1,g0⟩=>[.cells u0 [.map (some b0),.bool false] 126,.obj b0 (ay g0)]) (fun ⟨y0,g1,g0⟩ W8=>MR W8 (bl [.cells u0 [.map (some b0),.bool false] 126,.obj b0 (ay g0)] ++ L) g0 g1) (fun ⟨y0,g1,g0⟩=>(y0,g1)) (0,([]:List (Ta × Tc)),([]:List (Ta × List Vc))) k05 d01 (BE (MR.at_ (Z:=([]:List (Ta × List Vc))) (M:=([]:List (Ta × Tc))) Q5 L trivial) (Tt B02 H02)) ?_
 rintro p09 ⟨y0,g1,g0⟩ W8 C5 V0 J6 g3 h
 unfold az_l5 at h
 try dsimp only at h
 refine Af<|Ab (AY (i:=y0) (j:=a0.length) I I)<|Aa<|Ak<|Bb I h (fun I9 h=>?_) (fun I9 h=>?_)
 refine Ar<|Ak<|Aw<|Af<|Ae I<|bk h fun D3 Y06 h=>?_
 obtain ⟨V08,X09,Y03,B04,A0a,k06,R04⟩:=Bv (AO h0_0 V0) Y06
 obtain ⟨g08,rfl,p06⟩:=fv k06
 refine Ab (BJ 1 y0 I Y03 I I B04)<|BH I (R04 0 _ I)<|Ai I<|Ai I<|Aa<|Af<|Ae I<|Ae I<|bk h fun z08 Z06 h=>?_
 obtain ⟨W08,Y09,Z03,C04,B0a,q06,U04⟩:=Bv (AO h1_0 V0) Z06
 obtain rfl:=dH q06
 refine Ab (BJ 16 y0 I Z03 I I C04)<|Ab (AF I U04)<|bk h fun D1 H07 h=>jE (bd 68) I (e1 I) (fun w9 hw9=>am_c n (V0.hL hL hw9) z08 H07) I fun M0d q0c A03 ⟨u3,j5,hu_,s06,t06⟩=>?_
 subst hu_
 obtain ⟨g01,K6⟩:=V0.agr A03
 refine RG.nl [.bool false,vN,.bool false,vN] g01 fun P0d F3 j01 Y2=>?_
 have F7:=Ag s06 Y2
 have G7:=Ag t06 Y2
 refine AQ [.bool D1.fh.fc,u3,.bool D1.fe.fc,j5] j01 .hd (o4 I (AE F7) I (AE G7)) fun Q0d u2 Z2=>Aa<|Ak<|Af<|BB 0 I<|Ab (AZ (cs:=[.bool D1.fh.fc,u3]) I I (aj (u2.memA .hd) 0 2))<|bk h fun q9 I07 h=>?_
 have H7:=Ag F7 Z2
 refine Bo (vI q9) (bd 67) I (e1 I) (fun w9 hw9=>aI_c n (u2.hL0 hL hw9) D1.fh (u2.kd H7 hw9) I07) I<|Ab (FV.eql (i:=q9) (j:=0) I I)<|Aa<|Bb I h (fun J9 h=>?_) (fun J9 h=>?_)
 refine Bd I<|Ap<|Ab (Bj (i:=y0) (j:=1) I I (by omega))<|Ae I<|Aa ?_
 obtain ⟨k01,I02⟩:=AA u2 .d1
 have Y7:=Tt K6 (Tt Y2 (Tt Z2 I02))
 exact C5 (y0 + 1,g1,g0) k01 (Tt J6 Y7) (BE g3 Y7) h
 refine Ar<|Af<|Ae I ?_
 have P4:=Tt K6 (Tt Y2 Z2)
 have F4:=Ag p06 P4
 have c0b:=Bg F4
 refine Ab (Bh (xs:=D3) underlying24 I F4)<|Ae I<|Aa<|Aw ?_
 obtain ⟨D0b,p05,s04⟩:=aw h
 refine MX.lf (α:=Nat × (List (Ta × Tc)) × (List (Ta × List Vc))) (fun ⟨K0,u1,k1⟩=>[(1,v1_0),(7,vP u0),(46,v0_0),(47,vn a0.length),(48,vn y0),(10,vP F3),(62,g08),(63,vn D3.length),(64,vn K0)]) (fun ⟨K0,u1,k1⟩=>[.cells F3 [.bool D1.fh.fc,u3,.bool D1.fe.fc,j5] 109,.cells u0 [.map (some b0),.bool false] 126,.obj b0 (ay k1)]) (fun ⟨K0,u1,k1⟩ X8=>MR X8 (bl [.cells F3 [.bool D1.fh.fc,u3,.bool D1.fe.fc,j5] 109,.cells u0 [.map (some b0),.bool false] 126,.obj b0 (ay k1)] ++ L) k1 u1) (fun ⟨K0,u1,k1⟩=>(K0,u1)) (0,g1,g0) p05 u2 (BE g3 P4) ?_
 rintro q09 ⟨K0,u1,k1⟩ X8 D5 X5 B2 C8 h
 unfold az_l4 at h
 try dsimp only at h
 refine Af<|Ab (AY (i:=K0) (j:=D3.length) I I)<|Aa<|Ak<|Bb I h (fun K9 h=>?_) (fun K9 h=>?_)
 refine Ar<|Ak<|Aw<|Af<|bk h fun q0 b07 h=>?_
 obtain ⟨X08,Z09,b04,D04,C0a,u06,V04⟩:=Bv (Ag F4 B2) b07
 obtain rfl:=aY u06
 refine Ab (BJ 32 K0 I b04 I I D04)<|Ab (AF I V04)<|RG.nl [vW 0,vW 0,vW 0,vW 0,vW 0,vW 0,vW 0,vW 0,vW 0,vW 0,vW 0,vW 0,vW 0,vW 0,vW 0,vW 0,vW 0,vW 0,vW 0,vW 0,vW 0,vW 0,vW 0,vW 0,vW 0,vW 0,vW 0,vW 0,vW 0,vW 0,vW 0,vW 0] X5 fun R0d F09 p01 M6=>AQ (aA q0) p01 .hd (ak I) fun U0d Y1 P6=>Aa<|du 10 fun A0 J1=>Rv 0 A0 I J1 (fun _=>Aj I)<|Rv 1 A0 I J1 (fun _=>Bf I)<|Rv 2 A0 I J1 (fun _=>Bw 0 I)<|Rx 3 1024 A0 I J1 (Bx I ((Y1.memA .t2) 0 _ I))<|Rv 4 A0 I J1 (fun _=>Bw 0 I)<|Rx 5 1024 A0 I J1 (AZ (cs:=(aa q0.fm)) I I (aj (Y1.memA .hd) 0 16))<|Rx 6 1664 A0 I J1 (AF I (Y1.memA .hd))<|Rx 8 1536 A0 I J1 (AF I (Y1.memA .t1))<|bk h fun I08 J07 h=>AU 7 511 A0 I .plain (bd 66) I (e1 I) (fun w9 hw9=>aK_c n (Y1.hL hL hw9) q0 J07) I fun V0d s0c B03 ⟨U0b,V0b,hu_,v06,x06⟩=>?_
 subst hu_
 obtain ⟨Y5,Q6⟩:=Y1.agr B03
 refine bk h fun I0 K07 h=>?_
 have Z7:=Tt B2 (Tt M6 (Tt P6 Q6))
 refine AU 9 1023 A0 I .plain (bd 80) I (e2 I I) (fun w9 hw9=>aw_c n (Y5.hL hL hw9) I08 (Ah v06 hw9) (Ah x06 hw9) D1 (Ah (Ag H7 Z7) hw9) (Ah (Ag G7 (Tt Z2 Z7)) hw9) K07) I fun W0d t0c C03 ⟨v3,x3,hu_,x8,y8⟩=>?_
 subst hu_
 obtain ⟨q01,K02⟩:=Y5.agr C03
 refine BK (i:=10) (rk A0) (RO.enterPT (m' :=2047) (fst:=[]) (cap:=[]) (vs:=[.map (some b0),.agg ((aa q0.fm)).toArray,.agg #[.bool I0.fh.fc,v3,.bool I0.fe.fc,x3]]) (sk A0) I I .plain (bd 88) func88 I I I I (e3 I I I) I (fun _ D0a p7 t0b=>?_))
 refine Af<|RG.bx q01 I I fun X0d G09 s01 t4=>RG.bx s01 I I fun Y0d H09 v2 u4=>Aa<|Ak<|Af<|Ae I<|Ab (AF I (v2.memA .t1)) ?_
 have Q4:=Tt M6 (Tt P6 (Tt Q6 (Tt K02 (Tt t4 u4))))
 have G4:=BE C8 Q4
 rcases MR.get q0.fm G4 with ⟨C4,Z4⟩ | ⟨E0a,s5,Z4,C4,y06⟩
 have h:=cw h C4
 refine Ab (FV.lookupK (kv:=q0.fm) (q:=false) au v2 .t5 underlying124 (z:=.agg #[.bool false,vN,.bool false,vN]) I I I (.inl ⟨Z4,I,I⟩))<|Ae I<|Ab (Ac I I)<|Ab (Ac I I)<|RG.nl [.bool false,vN,.bool false,vN] v2 fun Z0d I09 t01 v4=>AQ [.bool false,vN,.bool false,vN] t01 .hd (ak I) fun b0e R3 x4=>Ai I<|Aa<|Af<|Ae I<|Aa<|BG I<|Ar<|Ap<|Ae I<|Ab (AF I (R3.memA .t2))<|Ab (AF I (R3.memA .t1)) ?_
 have b8:=Tt t4 (Tt u4 (Tt v4 x4))
 refine RG.now .plain (BA (kv:=q0.fm) (vv:=[.bool I0.fh.fc,v3,.bool I0.fe.fc,x3]) au R3 .t6 underlying124 I I I) fun c0e u01 R6=>Aa<|MX.fin I<|Aq (u:=.tuple #[]) p7 func88 I .nil I<|AN (dk A0)<|Ay<|Ap<|Ab (Bj (i:=K0) (j:=1) I I (by omega))<|Ae I<|Aa ?_
 obtain ⟨v01,U6⟩:=AA u01 .d4
 exact D5 (K0 + 1,aB u1 q0.fm I0,(aB k1 q0.fm [.bool I0.fh.fc,v3,.bool I0.fe.fc,x3])) v01 (Tt B2 (Tt Q4 (Tt v4 (Tt x4 (Tt R6 U6))))) (BE (MR.set (k:=q0.fm) (c:=[.bool I0.fh.fc,v3,.bool I0.fe.fc,x3]) (y:=I0) (bT I0.fh (Ag x8 b8) I0.fe (Ag y8 b8)) (BE G4 (Tt v4 x4))) (Tt R6 U6)) h
 have h:=ct h C4
 obtain ⟨j08,k08,rfl,z06,A06⟩:=cp y06
 refine Ab (FV.lookupK (kv:=q0.fm) (q:=true) au v2 .t5 underlying124 (z:=.agg #[.bool false,vN,.bool false,vN]) I I I (.inr ⟨_,Z4,I,I⟩))<|Ae I<|Ab (Ac I I)<|Ab (Ac I I)<|RG.nl [.bool false,vN,.bool false,vN] v2 fun d0e J09 x01 C2=>?_
 have I7:=Ag z06 C2
 have J7:=Ag A06 C2
 refine AQ [.bool s5.fh.fc,j08,.bool s5.fe.fc,k08] x01 .hd (o4 I (AE I7) I (AE J7)) fun g0e R2 D2=>Ai I<|Aa<|Af<|Ae I<|Aa<|AW I<|Ap<|Ab (AF I (R2.memA .t1))<|Ab (AF I (R2.memA .hd))<|bk h fun R0 M07 h=>?_
 have d8:=Tt t4 (Tt u4 (Tt C2 D2))
 refine jE (bd 81) I (e2 I I) (fun w9 hw9=>ae_c n (R2.hL hL hw9) I0 (Ah (Ag x8 d8) hw9) (Ah (Ag y8 d8) hw9) s5 (Ah (Ag I7 D2) hw9) (Ah (Ag J7 D2) hw9) M07) I fun j0e u0c D03 ⟨y3,z3,hu_,z8,A8⟩=>?_
 subst hu_
 obtain ⟨y01,V6⟩:=R2.agr D03
 refine AQ [.bool R0.fh.fc,y3,.bool R0.fe.fc,z3] y01 .t1 (o4 I (AE z8) I (AE A8)) fun k0e U3 b3=>Aa<|Ap<|Ae I<|Ab (AF I (U3.memA .t2))<|Ab (AF I (U3.memA .t1))<|RG.now .plain (BA (kv:=q0.fm) (vv:=[.bool R0.fh.fc,y3,.bool R0.fe.fc,z3]) au U3 .t6 underlying124 I I I) fun p0e z01 W6=>Aa<|MX.fin I<|Aq (u:=.tuple #[]) p7 func88 I .nil I<|AN (dk A0)<|Ay<|Ap<|Ab (Bj (i:=K0) (j:=1) I I (by omega))<|Ae I<|Aa ?_
 obtain ⟨A01,X6⟩:=AA z01 .d4
 exact D5 (K0 + 1,aB u1 q0.fm R0,(aB k1 q0.fm [.bool R0.fh.fc,y3,.bool R0.fe.fc,z3])) A01 (Tt B2 (Tt Q4 (Tt C2 (Tt D2 (Tt V6 (Tt b3 (Tt W6 X6))))))) (BE (MR.set (k:=q0.fm) (c:=[.bool R0.fh.fc,y3,.bool R0.fe.fc,z3]) (y:=R0) (bT R0.fh (Ag z8 b3) R0.fe (Ag A8 b3)) (BE G4 (Tt C2 (Tt D2 (Tt V6 b3))))) (Tt W6 X6)) h
 refine Bd I ?_
 have h:=s04 _ h
 try dsimp only at h
 refine Ay<|Ap<|Ab (Bj (i:=y0) (j:=1) I I (by omega))<|Ae I<|Aa ?_
 obtain ⟨B01,Y6⟩:=AA X5 .d1
 exact C5 (y0 + 1,u1,k1) B01 (Tt J6 (Tt P4 (Tt B2 Y6))) (BE C8 Y6) h
 refine Bd I ?_
 have h:=q04 _ h
 try dsimp only at h
 refine Af<|Ae I<|Bs (fst:=[]) (cap:=[]) (vs:=[vP u0]) .plain (bd 87) func87 I I I I (e1 I) I fun F0a A4 u0b=>Af<|Ai I<|Ai I<|Aa<|Ak<|Af<|Ae I<|Ab (Bf I)<|BB 0 I<|BH I ((V0.memA .hd) 0 _ I)<|Ab (FV.as (FV.len_map (D:=g0) V0 .t1 underlying124 I) (congrArg (fun n9:Nat=>Value.int .i64 (n9:Int)) (MR.len g3)))<|Ab (FV.gtrN (i:=g1.length) (j:=400) I I)<|Aa<|Bb I h (fun M9 h=>?_) (fun M9 h=>?_)
 refine Af<|Ai I<|Ai I<|Aa<|Au I<|Aq (u:=.tuple #[vN,vI 3]) A4 func87 I (.cons (.tmp I) (.cons (.tmp I) .nil)) I<|Ab (Ac I I)<|Ab (Ac I I)<|Ai I<|Ai I<|Aa<|Au I ?_
 have B06:=Bq (α:=Tb) V0 L
 refine Aq hb0 func31 I (.cons (.tmp I) (.cons (.tmp I) .nil)) I ?_
 cases h
 exact ⟨V0.ag,fun w9 hw9=>⟨vN,I,V0.kd B06 hw9⟩⟩
 refine Ar<|Af<|Ai I<|Aa<|Ak<|Af<|Ae I<|Ab (Bf I)<|BB 0 I<|BH I ((V0.memA .hd) 0 _ I)<|Am .plain I (Does.range (D:=g0) V0 .t1 underlying124 I) fun v08 U1 Z5 M02=>Aa<|Aw ?_
 have b6:=Z5.nilRow 37 (Rep.size Tb)
 refine MX.mloop (α:=(List Tb) × Bool × Vc × (List Vc) × (Array Nat)) (fun ⟨P0,z1,G0,F1,B1⟩=>[(0,vP u0),(4,G0),(19,vP U1)]) (fun G8 ⟨P0,z1,G0,F1,B1⟩ B3=>St w B3 [rr w 37 Tb G0 P0.length F1,.obj U1 (aC b0 g0.length B1),.cells u0 [.map (some b0),.bool z1] 126,.obj b0 (ay g0)]/\Tr v08 [rr w 37 Tb vN (([]:List Tb).length) [],.obj U1 (aC b0 g0.length #[]),.cells u0 [.map (some b0),.bool false] 126,.obj b0 (ay g0)] B3 [rr w 37 Tb G0 P0.length F1,.obj U1 (aC b0 g0.length B1),.cells u0 [.map (some b0),.bool z1] 126,.obj b0 (ay g0)]/\Cells B3 (bl [rr w 37 Tb G0 P0.length F1,.obj U1 (aC b0 g0.length B1),.cells u0 [.map (some b0),.bool z1] 126,.obj b0 (ay g0)] ++ L) F1 P0/\left g1 B1 = G8) (fun ⟨P0,z1,G0,F1,B1⟩=>(P0,z1)) (([]:List Tb),false,vN,[],#[]) h ⟨rfl,rfl,rfl,trivial⟩ ⟨b6,Tr.refl _ _,(AC (cs:=[]) (xs:=([]:List Tb)) b6 L (AH _ _)),(cn _)⟩ ?_
 rintro G8 ⟨P0,z1,G0,F1,B1⟩ B3 s09 c00 ⟨C01,Z6,s7,H04⟩ Z04 P03
 refine Af<|RG.nextR (W:=g0) (BE g3 (Tt M02 (Tt (St.nilRowT Z5 37 (Rep.size Tb)) Z6))) C01 .t3 (fun _=>.t1) I I H04 (fun q0e b05 H1 P02=>?_) (fun s0e E8 k0 G0a W07 u04 C06 t05 I04 c6 Q02=>?_)
 have h:=Z04 b05
 try dsimp only at h
 refine Ab (Ac I I)<|Aa<|Ak<|BG I<|Bd I<|Ak<|Af<|Ae I<|Ab (Bf I)<|BB 1 I<|BH I ((H1.memA .t2) 1 _ I)<|Aa<|MX.ifb I h (fun P9 h=>?_) (fun P9 h=>?_)
 refine Af<|Ai I<|Ai I<|Aa<|Au I<|Aq (u:=.tuple #[vN,vI 6]) A4 func87 I (.cons (.tmp I) (.cons (.tmp I) .nil)) I<|Ab (Ac I I)<|Ab (Ac I I)<|Ai I<|Ai I<|Aa<|Au I ?_
 have D06:=Bq (α:=Tb) H1 L
 refine Aq hb0 func31 I (.cons (.tmp I) (.cons (.tmp I) .nil)) I ?_
 cases h
 exact ⟨H1.ag,fun w9 hw9=>⟨vN,I,H1.kd D06 hw9⟩⟩
 refine Ar<|Af<|Ae I<|Bs (fst:=[]) (cap:=[]) (vs:=[G0,.func (.func 144) #[] #[]]) .plain (bd 143) func143 I I I I (e2 I I) I fun H0a H03 v0b=>Af<|Ae I ?_
 have d0b:P0.length <= 4294967296:=St.rowLe (α:=Tb) H1 .hd
 obtain ⟨Y08,b0a,c04⟩:=St.rowV (α:=Tb) H1 .hd
 refine Ab (FV.lenV underlying24 I c04)<|Ai I<|Aa<|Ap<|Ae I<|Ae I<|Ae I<|Ab (FV.convU (i:=((P0.length:Nat):Int)) underlying3 underlying193 I)<|bk h fun s9 P07 h=>Bo (vI s9) (bd 174) I (e1 I) (fun w9 hw9=>aQ_c n (H1.hL0 hL hw9) (ai ((P0.length:Nat):Int)) P07) I<|Ae I<|bk h fun d9 j07 h=>RG.sort (enc:=aA) (ρ:=Tryz.srt173_ren) (c:=(fun x9 y9=>aj_p n x9 y9)) (li:=s9) j07 I (fun _ _ _ _ h9=>aY h9) (fun w9 L9 z9=>bg (w:=w9) (L:=L9) z9.fm z9.fP) Tryz.srt173 (fun w9=>Tryz.isAgg37 w9) (fun w9=>Tryz.sizeOf37 w9) (enters_of func144 I I) (fun x9 y9 r9 w9 h9=>aj_c n (L:=[]) (w:=w9) (fun _ h8=>nomatch h8) x9 y9 h9) .plain (bd 173) I (e5 I I I I I) I H1 (AK s7 P02) .hd fun x08 U2 V0a=>Aa<|MX.fin I<|Aq (u:=.tuple #[]) H03 func143 I .nil I<|Aa<|Af<|Ae I<|Ai I<|Ai I<|Aa<|Au I<|Aq (u:=.tuple #[G0,vI 0]) A4 func87 I (.cons (.tmp I) (.cons (.tmp I) .nil)) I<|Ab (Ac I I)<|Ab (Ac I I)<|Ai I<|Ai I<|Aa<|Au I ?_
 have V3:=Bl U2 .hd
 have W0a:=Bm U2 .hd
 have E06:=Bn (α:=Tb) (v:=G0) (xs:=d9) V3 L (Ba (α:=Tb) U2 .hd (AC U2 L (bp (α:=Tb) (enc:=aA) (fun w9 L9 z9=>bg (w:=w9) (L:=L9) z9.fm z9.fP) x08 _ d9)) hL)
 refine Aq hb0 func31 I (.cons (.tmp I) (.cons (.tmp I) .nil)) I ?_
 cases h
 exact ⟨V3.ag,fun w9 hw9=>⟨G0,I,V3.kd E06 hw9⟩⟩
 obtain ⟨p08,q08,rfl,F06,G06⟩:=cp C06
 have h:=P03 _ _ t05
 unfold cF at h
 try dsimp only at h
 refine Ab (Ac I I)<|Aa<|Ak<|AW I<|Ar<|Aw<|Af<|Ab (FV.entry (D:=g0) c6 .t3 .t1 u04 I)<|Ab (Ac I I)<|Ab (Ac I I)<|RG.nl zL c6 fun t0e x5 D01 R02=>RG.nl [.bool false,vN,.bool false,vN] D01 fun u0e K09 E01 U02=>AQ (aa k0.1) E01 .t1 (ak I) fun v0e F01 V02=>?_
 have R4:=Tt Q02 (Tt R02 (Tt U02 V02))
 have K7:=Ag F06 R4
 have M7:=Ag G06 R4
 refine AQ [.bool k0.2.fh.fc,p08,.bool k0.2.fe.fc,q08] F01 .hd (o4 I (AE K7) I (AE M7)) fun x0e x2 y4=>Aa<|Af<|Ab (AF I (x2.memA .hd))<|bk h fun t0 Q07 h=>Bo (.tuple #[.agg ((aa t0.1)).toArray,vI t0.2]) (bd 77) I (e1 I) (fun w9 hw9=>ak_c n (x2.hL0 hL hw9) k0.2 (x2.kd (Ag K7 y4) hw9) (x2.kd (Ag M7 y4) hw9) Q07) I<|Ae I<|Ab (Ac I I)<|Ab (Ac I I)<|RG.nl zL x2 fun y0e y5 G01 W02=>AQ (aa t0.1) G01 .hd (ak I) fun z0e W3 X02=>Ai I<|Aa<|Ak<|Af<|Ae I<|Ab (BM (i:=t0.2) (j:=0) I I)<|Aa<|MX.jo (α:=Bool) (fun b2=>[(0,vP u0),(4,G0),(19,vP U1),(5,vP x5),(7,vP y5)]) (fun b2=>[.cells y5 (aa t0.1) 34,.cells x5 (aa k0.1) 34,rr w 37 Tb G0 P0.length F1,.obj U1 (aC b0 g0.length (B1.push E8)),.cells u0 [.map (some b0),.bool b2] 126,.obj b0 (ay g0)]) (fun b2=>b2) W3 h ?_ ?_
 rintro b2 J0e X3 Y02 h
 try dsimp only at h
 refine Ap<|Ae I<|Ab (AF I (X3.memA .t1))<|Ab (AF I (X3.memA .hd))<|Ab (AI (vs:=[.agg ((aa k0.1)).toArray,.agg ((aa t0.1)).toArray]) (u:=.agg ((aa k0.1 ++ aa t0.1)).toArray) (e2 I I) (fun w9=>by kernel_rfl))<|Am .plain I (AG (α:=Tb) (xs:=([(⟨k0.1,t0.1⟩:Tb)]:List Tb)) (vs:=[.agg ((aa k0.1 ++ aa t0.1)).toArray]) (ds' :=(aa k0.1 ++ aa t0.1)) I X3 dq I (e1 I) (by kernel_rfl) I) fun A0e M09 Y3 Z02=>bk h fun C08 k07 h=>?_
 have g8:=Tt R4 (Tt y4 (Tt W02 (Tt X02 (Tt Y02 Z02))))
 refine BN .plain I (Bz (α:=Tb) (ys:=([(⟨k0.1,t0.1⟩:Tb)]:List Tb)) k07 Y3 (fun _ _=>.t3) dq I I (AK s7 g8) (Src.row (α:=Tb) Y3 .hd (AC (cs:=(aa k0.1 ++ aa t0.1)) (xs:=(([(⟨k0.1,t0.1⟩:Tb)]:List Tb):List Tb)) Y3 L (Ao (cs:=(aa k0.1 ++ aa t0.1)) (ds:=[]) (bg k0.1 t0.1) (AH _ _))))) fun s08 B0e ⟨X9,H01,b03,K03⟩=>Ai I<|Aa<|Ay ?_
 obtain ⟨I01,b7⟩:=AA H01 .d3
 exact c00 W07 (C08,b2,s08,X9,(B1.push E8)) _ _ ⟨I,I,I,trivial⟩ ⟨I01,(Tt Z6 (Tt g8 (Tt b03 b7))),(AK K03 b7),I04⟩ h
 intro t09 E5 h
 try dsimp only at h
 refine MX.ifn I h (fun Q9 h=>?_) (fun Q9 h=>?_)
 refine Ar ?_
 obtain ⟨J01,c03⟩:=AA W3 (.a0 .d1)
 exact E5 z1 J01 c03 h
 refine Ap<|Ae I<|Ab (Bf I)<|BB 1 I<|RG.now .plain (BL (j:=1) (old:=[.map (some b0),.bool z1]) (news:=[.bool true]) (new' :=[.map (some b0),.bool true]) W3 .t5 I I I I I I (o1 I) I) fun C0e K01 d03=>Aa ?_
 obtain ⟨M01,g03⟩:=AA K01 (.a0 .d1)
 exact E5 true M01 (Tt d03 g03) h
 refine Af<|Ai I<|Ai I<|Aa<|Au I ?_
 have H06:=Bq (α:=Tb) v1 L
 refine Aq hb0 func31 I (.cons (.tmp I) (.cons (.tmp I) .nil)) I ?_
 cases h
 exact ⟨v1.ag,fun w9 hw9=>⟨vN,I,v1.kd H06 hw9⟩⟩
 refine Av<|Av<|RG.pt I I<|Ae I<|Av<|Av<|Av<|Av<|Av<|RG.pt I I<|Aa<|AW I<|Af<|Ai I<|Ai I<|Aa<|Au I ?_
 have I06:=Bq (α:=Tb) hS0 L
 refine Aq hb0 func31 I (.cons (.tmp I) (.cons (.tmp I) .nil)) I ?_
 cases h
 exact ⟨hS0.ag,fun w9 hw9=>⟨vN,I,hS0.kd I06 hw9⟩⟩
 refine Af<|Ae I<|Ai I<|Ai I<|Aa<|Au I ?_
 have J06:=Bq (α:=Tb) hS0 L
 refine Aq hb0 func31 I (.cons (.tmp I) (.cons (.tmp I) .nil)) I ?_
 cases h
 exact ⟨hS0.ag,fun w9 hw9=>⟨vN,I,hS0.kd J06 hw9⟩⟩

theorem bC:ElT Tryz.prog 102 26 (Rep.size (Int × Int)) 16 (.agg #[vI 0,vI 0]) [vI 0,vI 0]:=⟨underlying102,by kernel_rfl,rfl,rfl,rfl,rfl⟩
def bf_p (n:Nat):Oa Bool:=
  (ah_p n (2:Int) ([((0:Int),(1:Int)),((2:Int),(1:Int))]:List (Int × Int))).bind fun b0=>(ah_p n (1:Int) ([((2:Int),(1:Int))]:List (Int × Int))).bind fun j0=>jn (fun D0=>(ac_p n (1:Int) (1:Int)).bind fun F0=>(bv_p n b0 F0).bind fun g0=>jn (fun E0=>(if E0 = true then (ah_p n (6:Int) ([((0:Int),(1:Int)),((2:Int),(5:Int))]:List (Int × Int))).bind fun G0=>(ac_p n (1:Int) (3:Int)).bind fun H0=>(ac_p n (2:Int) (3:Int)).bind fun I0=>(az_p n ([b0,j0]:List (List Tb)) ([H0,I0]:List Ta)).bind fun k0=>(av_p n k0.1 k0.2 G0).bind fun J0=>(if J0 = true then (au_p n b0 j0).bind fun p0=>(ar_p n p0.1 p0.2 (1:Int) (2:Int)).bind fun K0=>some K0 else some false) else some false)) (fun c0=>(if D0 = true then (aR_p n b0).bind fun q0=>(ar_p n q0.1 q0.2 (1:Int) (2:Int)).bind fun M0=>(if M0 = true then (ax_p n b0).bind fun s0=>(ar_p n s0.1 s0.2 (1:Int) (4:Int)).bind fun P0=>(if P0 = true then (ac_p n (1:Int) (2:Int)).bind fun Q0=>(if g0.1 = Q0 then (ac_p n (1:Int) (2:Int)).bind fun R0=>(if g0.2.1 = R0 then (if g0.2.2 = 0 then (ac_p n (1:Int) (2:Int)).bind fun U0=>(ao_p n b0 U0).bind fun t0=>(ar_p n t0.1 t0.2 (0:Int) (1:Int)).bind fun V0=>(if V0 = true then (ac_p n (2:Int) (3:Int)).bind fun W0=>(ao_p n b0 W0).bind fun u0=>(ar_p n u0.1 u0.2 (1:Int) (1:Int)).bind fun X0=>(if X0 = true then (ac_p n (0:Int) (1:Int)).bind fun Y0=>(ao_p n b0 Y0).bind fun v0=>(aa_p n v0.1 v0.2 (2:Int)).bind fun Z0=>c0 Z0 else c0 false) else c0 false) else c0 false) else c0 false) else c0 false) else c0 false) else c0 false) else c0 false))) (fun d0=>(ah_p n (3:Int) ([((2:Int),(1:Int)),((6:Int),(2:Int))]:List (Int × Int))).bind fun b1=>(ac_p n (3:Int) (1:Int)).bind fun c1=>(ac_p n (1:Int) (1:Int)).bind fun d1=>(ac_p n (3:Int) (1:Int)).bind fun g1=>(aM_p n ([c1,d1,g1]:List Ta)).bind fun x0=>(av_p n x0.1 x0.2 b1).bind fun j1=>(if j1 = true then (aM_p n ([]:List Ta)).bind fun y0=>(ab_p n y0.1 y0.2 (4:Int)).bind fun k1=>(if k1 = true then (ap_p n ([]:List Tb)).bind fun p1=>(if p1 = 50 then (ah_p n (4:Int) ([((0:Int),(1:Int)),((2:Int),(2:Int)),((4:Int),(1:Int))]:List (Int × Int))).bind fun q1=>(aA_p n b0 b0).bind fun z0=>(av_p n z0.1 z0.2 q1).bind fun s1=>(if s1 = true then (ah_p n (2:Int) ([((-4:Int),(1:Int)),((0:Int),(1:Int))]:List (Int × Int))).bind fun t1=>(ac_p n (-2:Int) (1:Int)).bind fun u1=>(aU_p n b0 u1).bind fun A0=>(av_p n A0.1 A0.2 t1).bind fun v1=>(if v1 = true then (ah_p n (1:Int) ([((0:Int),(1:Int))]:List (Int × Int))).bind fun x1=>(ac_p n (0:Int) (1:Int)).bind fun y1=>(aU_p n b0 y1).bind fun B0=>(av_p n B0.1 B0.2 x1).bind fun z1=>(if z1 = true then (ah_p n (2:Int) ([((1:Int),(1:Int)),((3:Int),(1:Int))]:List (Int × Int))).bind fun A1=>(ac_p n (1:Int) (2:Int)).bind fun B1=>(aL_p n b0 B1).bind fun C0=>(av_p n C0.1 C0.2 A1).bind fun C1=>d0 C1 else d0 false) else d0 false) else d0 false) else d0 false) else d0 false) else d0 false))
theorem bf_c (n:Nat) {L w} (hL:hl L w)  {r:Bool} (h:bf_p n = some r) :
 Cl 12 #[] w (ar w fun _ u=>u = .bool r):=by
 unfold bf_p at h
 refine AT func12 I I I fun _ cs0 hb0=>Af<|Ai I<|Aa<|Af<|Ab (AI (vs:=[vI 0,vI 1]) (u:=.agg #[vI 0,vI 1]) (e2 I I) (fun p=>by kernel_rfl))<|Ab (AI (vs:=[vI 2,vI 1]) (u:=.agg #[vI 2,vI 1]) (e2 I I) (fun p=>by kernel_rfl))<|Am .plain I (AG (α:=Int × Int) (xs:=([((0:Int),(1:Int)),((2:Int),(1:Int))]:List (Int × Int))) (vs:=[.agg #[vI 0,vI 1],.agg #[vI 2,vI 1]]) (ds' :=[vI 0,vI 1,vI 2,vI 1]) I (AS w) bC I (e2 I I) (by kernel_rfl) I) fun w11 q5 R1 Q00=>?_
 have y2:=Bl R1 .hd
 have R00:=Bm R1 .hd
 refine bk h fun s3 k8 h=>jE (bd 13) I (e2 I I) (fun p q=>ah_c n (y2.hL hL q) (Ah (Bn (α:=Int × Int) (v:=(vS q5 2)) (xs:=([((0:Int),(1:Int)),((2:Int),(1:Int))]:List (Int × Int))) y2 L (Ba (α:=Int × Int) R1 .hd (AC (cs:=[vI 0,vI 1,vI 2,vI 1]) (xs:=(([((0:Int),(1:Int)),((2:Int),(1:Int))]:List (Int × Int)):List (Int × Int))) R1 L (Ao (cs:=[vI 0,vI 1]) (ds:=[vI 2,vI 1]) (aK (0:Int) (1:Int)) (Ao (cs:=[vI 2,vI 1]) (ds:=[]) (aK (2:Int) (1:Int)) (AH _ _)))) hL)) q) k8) I fun w21 b1 g7 ⟨v26,hu_,y4⟩=>?_
 subst hu_
 obtain ⟨Z5,U00⟩:=y2.agr g7
 refine Ai I<|Aa<|Af<|Ab (AI (vs:=[vI 2,vI 1]) (u:=.agg #[vI 2,vI 1]) (e2 I I) (fun p=>by kernel_rfl))<|Am .plain I (AG (α:=Int × Int) (xs:=([((2:Int),(1:Int))]:List (Int × Int))) (vs:=[.agg #[vI 2,vI 1]]) (ds' :=[vI 2,vI 1]) I Z5 bC I (e1 I) (by kernel_rfl) I) fun w29 s5 V1 M3=>?_
 have z2:=Bl V1 .hd
 have P3:=Bm V1 .hd
 refine bk h fun t3 s8 h=>jE (bd 13) I (e2 I I) (fun p q=>ah_c n (z2.hL hL q) (Ah (Bn (α:=Int × Int) (v:=(vS s5 1)) (xs:=([((2:Int),(1:Int))]:List (Int × Int))) z2 L (Ba (α:=Int × Int) V1 .hd (AC (cs:=[vI 2,vI 1]) (xs:=(([((2:Int),(1:Int))]:List (Int × Int)):List (Int × Int))) V1 L (Ao (cs:=[vI 2,vI 1]) (ds:=[]) (aK (2:Int) (1:Int)) (AH _ _))) hL)) q) s8) I fun w39 R0 j7 ⟨v44,hu_,D7⟩=>?_
 subst hu_
 obtain ⟨E3,R3⟩:=z2.agr j7
 refine Ai I<|Aa<|Ak<|MX.jo (α:=Bool) (fun s1=>[(1,b1),(2,R0),(3,.bool s1)]) (fun s1=>[]) (fun s1=>s1) E3 h ?_ ?_
 rintro s1 c03 U1 G3 h
 try dsimp only at h
 refine Af<|Ae I<|bk h fun X4 p8 h=>Bo (.agg ((aa X4)).toArray) (bd 15) I (e2 I I) (fun p q=>ac_c n (U1.hL0 hL q)  p8) I<|bk h fun s0 q8 h=>?_
 have p3:=Ag y4 (Tt M3 (Tt P3 (Tt R3 G3)))
 refine Bo (.tuple #[.agg ((aa s0.1)).toArray,.agg ((aa s0.2.1)).toArray,vI s0.2.2]) (bd 27) I (e2 I I) (fun p q=>bv_c n (U1.hL0 hL q) (U1.kd p3 q) X4 q8) I<|Ae I<|Ab (Ac I I)<|Ab (Ac I I)<|Ab (Ac I I)<|RG.nl zL U1 fun u02 J00 b6 H3=>RG.nl zL b6 fun v02 K00 c6 I3=>AQ (aa s0.1) c6 .t1 (ak I) fun x02 d6 J3=>AQ (aa s0.2.1) d6 .hd (ak I) fun M9 c1 K3=>Ai I<|Aa<|Ak<|MX.jo (α:=Bool) (fun u1=>[(1,b1),(2,R0),(3,.bool u1)]) (fun u1=>[]) (fun u1=>u1) c1 h ?_ ?_
 rintro u1 d03 D3 E6 h
 try dsimp only at h
 refine Af<|Ae I<|Ae I<|RG.ifb (s:=156) I h (fun E5 h=>?_) (fun E5 h=>?_)
 refine Ax (AI (vs:=[vI 0,vI 1]) (u:=.agg #[vI 0,vI 1]) (e2 I I) (fun p=>by kernel_rfl))<|Ax (AI (vs:=[vI 2,vI 5]) (u:=.agg #[vI 2,vI 5]) (e2 I I) (fun p=>by kernel_rfl))<|Am (.yes I I) I (AG (α:=Int × Int) (xs:=([((0:Int),(1:Int)),((2:Int),(5:Int))]:List (Int × Int))) (vs:=[.agg #[vI 0,vI 1],.agg #[vI 2,vI 5]]) (ds' :=[vI 0,vI 1,vI 2,vI 5]) I D3 bC I (e2 I I) (by kernel_rfl) I) fun z02 u5 W1 F6=>?_
 have A2:=Bl W1 .hd
 have G6:=Bm W1 .hd
 refine bk h fun g00 t8 h=>Az (fst:=[]) (cap:=[]) (.yes I I) (bd 13) I (e2 I I) (fun p q=>ah_c n (A2.hL hL q) (Ah (Bn (α:=Int × Int) (v:=(vS u5 2)) (xs:=([((0:Int),(1:Int)),((2:Int),(5:Int))]:List (Int × Int))) A2 L (Ba (α:=Int × Int) W1 .hd (AC (cs:=[vI 0,vI 1,vI 2,vI 5]) (xs:=(([((0:Int),(1:Int)),((2:Int),(5:Int))]:List (Int × Int)):List (Int × Int))) W1 L (Ao (cs:=[vI 0,vI 1]) (ds:=[vI 2,vI 5]) (aK (0:Int) (1:Int)) (Ao (cs:=[vI 2,vI 5]) (ds:=[]) (aK (2:Int) (5:Int)) (AH _ _)))) hL)) q) t8) I fun P9 F9 k7 ⟨t01,hu_,z4⟩=>?_
 subst hu_
 obtain ⟨B2,H6⟩:=A2.agr k7
 refine Az (fst:=[]) (cap:=[]) (.yes I I) (bd 28) I (e1 I) (fun p q=>AD (aW_c n (B2.hL hL q) g00 (Ah z4 q)) fun (w8:World) (u8:Vc) ⟨b0_,hu_,s_⟩=>(⟨b0_,hu_,s_.from q⟩:∃ v1:Nat,u8 = Value.func (.func 91) #[] #[vP v1]/\St P9 w8 [.cells v1 [F9] 24])) I fun A02 I01 V00 ⟨v1,M7,F4⟩=>?_
 subst M7
 have Q3:=am B2 F4
 refine Ax (Aj I)<|Ax (Aj I) ?_
 have v4:=Tt H3 (Tt I3 (Tt J3 (Tt K3 (Tt E6 (Tt F6 (Tt G6 (Tt H6 Q3)))))))
 have b4:=Ag p3 v4
 have c4:=Ag D7 (Tt G3 v4)
 obtain ⟨F00,M00,g8,_⟩:=BD b4
 obtain ⟨G00,P00,j8,_⟩:=BD c4
 refine Am (.yes I I) I (AG (α:=List Tb) (xs:=([s3,t3]:List (List Tb))) (vs:=[b1,R0]) (ds' :=[b1,R0]) I (ah B2 F4) bW I (e2 I I) (by rw [g8,j8]; try kernel_rfl) I) fun B02 v5 X1 X2=>?_
 have d4:=Ag c4 X2
 have g4:=Ag b4 X2
 refine bk h fun t0 v8 h=>AL (v:=.agg ((aa t0)).toArray) (fst:=[]) (cap:=[]) (.yes I I) (bd 15) I (e2 I I) (fun p q=>ac_c n (X1.hL0 hL q)  v8) I<|bk h fun j0 x8 h=>AL (v:=.agg ((aa j0)).toArray) (fst:=[]) (cap:=[]) (.yes I I) (bd 15) I (e2 I I) (fun p q=>ac_c n (X1.hL0 hL q)  x8) I<|Am (.yes I I) I (AG (α:=Ta) (xs:=([t0,j0]:List Ta)) (vs:=[.agg ((aa t0)).toArray,.agg ((aa j0)).toArray]) (ds' :=(aa t0 ++ aa j0)) I X1 bq I (e2 I I) (by kernel_rfl) I) fun C02 x5 Y1 Y2=>?_
 have Z1:=Bl Y1 .t1
 have Z2:=Bm Y1 .t1
 have C2:=Bl Z1 .hd
 have b3:=Bm Z1 .hd
 refine bk h fun g03 y8 h=>Az (fst:=[]) (cap:=[]) (.yes I I) (bd 31) I (e2 I I) (fun p q=>az_c n (C2.hL hL q) (Ah (Ag (Bn (α:=List Tb) (v:=(vS v5 2)) (xs:=([s3,t3]:List (List Tb))) Z1 L (Ba (α:=List Tb) Y1 .t1 (AK (AC (cs:=[b1,R0]) (xs:=(([s3,t3]:List (List Tb)):List (List Tb))) X1 L (Ao (cs:=[b1]) (ds:=[R0]) g4 (Ao (cs:=[R0]) (ds:=[]) d4 (AH _ _)))) Y2) hL)) b3) q) (Ah (Bn (α:=Ta) (v:=(vS x5 2)) (xs:=([t0,j0]:List Ta)) C2 L (Ba (α:=Ta) Z1 .hd (AK (AC (cs:=(aa t0 ++ aa j0)) (xs:=(([t0,j0]:List Ta):List Ta)) Y1 L (Ao (cs:=(aa t0)) (ds:=(aa j0)) (aG t0.fN t0.fD) (Ao (cs:=(aa j0)) (ds:=[]) (aG j0.fN j0.fD) (AH _ _)))) Z2) hL)) q) y8) I fun Q9 J01 p7 ⟨v01,hu_,E7⟩=>?_
 subst hu_
 obtain ⟨D0,U3⟩:=C2.agr p7
 refine Ax (Ac I I)<|Ax (Ac I I)<|bk h fun j00 z8 h=>AL (v:=.bool j00) (fst:=[]) (cap:=[vP v1]) (.yes I I) (bd 91) I (e2 I I) (fun p q=>av_c n (D0.hL0 hL q) (D0.kd E7 q) (D0.kd (Ag z4 (Tt Q3 (Tt X2 (Tt Y2 (Tt Z2 (Tt b3 U3)))))) q) (ae q (D0.memA .hd)) z8) I<|RG.pt I I<|Ae I<|RG.ifb (s:=173) I h (fun F5 h=>?_) (fun F5 h=>?_)
 refine Az (fst:=[]) (cap:=[]) (.yes I I) (bd 30) I (e2 I I) (fun p q=>AD (ba_c n (D0.hL hL q) (1:Int) (2:Int)) fun (w8:World) (u8:Vc) ⟨b0_,b1_,hu_,s_⟩=>(⟨b0_,b1_,hu_,s_.from q⟩:∃ x1 y1:Nat,u8 = Value.func (.func 92) #[] #[vP x1,vP y1]/\St Q9 w8 [.cells x1 [vI 1] 3,.cells y1 [vI 2] 3])) I fun D02 K01 W00 ⟨x1,y1,P7,G4⟩=>?_
 subst P7
 have K0:=br D0 G4
 refine Ax (Aj I)<|Ax (Aj I)<|bk h fun u3 A8 h=>?_
 have x4:=Tt Y2 (Tt Z2 (Tt b3 (Tt U3 (cM D0 G4))))
 refine AL (v:=.tuple #[.agg ((aa u3.1)).toArray,vI u3.2]) (fst:=[]) (cap:=[]) (.yes I I) (bd 25) I (e2 I I) (fun p q=>au_c n (K0.hL0 hL q) (K0.kd (Ag g4 x4) q) (K0.kd (Ag d4 x4) q) A8) I<|Ax (Ac I I)<|Ax (Ac I I)<|bk h fun k00 B8 h=>AL (v:=.bool k00) (fst:=[]) (cap:=[vP x1,vP y1]) (.yes I I) (bd 92) I (e2 I I) (fun p q=>ar_c n (K0.hL0 hL q) u3.1 (ae q (K0.memA .hd)) (ae q (K0.memA .t1)) B8) I<|RG.pt I I<|Ai I<|Aa<|Au I<|By hb0 func12 I I ?_
 cases h
 exact K0.gv
 refine Av<|Av<|Av<|Av<|Av<|Av<|Av<|Bp I I<|Ai I<|Aa<|Au I<|By hb0 func12 I I ?_
 cases h
 exact D0.gv
 refine Av<|Av<|Av<|Av<|Av<|Av<|Av<|Av<|Av<|Av<|Av<|Av<|Av<|Av<|Av<|Bp I I<|Ae I<|Av<|Av<|Av<|Av<|Av<|Av<|Av<|Bp I I<|Ai I<|Aa<|Au I<|By hb0 func12 I I ?_
 cases h
 exact D3.gv
 intro I00 v0 h
 try dsimp only at h
 refine du 59 fun b0 c0=>Rv 0 b0 I c0 (fun _=>Aj I)<|Rv 1 b0 I c0 (fun _=>Aj I)<|RD.ifb (s:=98) I h (fun G5 h=>?_) (fun G5 h=>?_)
 refine AX 3 11 b0 I c0 (.yes I I) (fun _=>Aj I) I<|AU 2 15 b0 I (.yes I I) (bd 30) I (e2 I I) (fun p q=>AD (ba_c n (c1.hL hL q) (1:Int) (2:Int)) fun (w8:World) (u8:Vc) ⟨b0_,b1_,hu_,s_⟩=>(⟨b0_,b1_,hu_,s_.from q⟩:∃ z1 A1:Nat,u8 = Value.func (.func 92) #[] #[vP z1,vP A1]/\St M9 w8 [.cells z1 [vI 1] 3,.cells A1 [vI 2] 3])) I fun R9 M01 X00 ⟨z1,A1,Q7,H4⟩=>?_
 subst Q7
 have x0:=br c1 H4
 have y0:=cM c1 H4
 refine bk h fun v3 C8 h=>?_
 have j4:=Ag p3 (Tt H3 (Tt I3 (Tt J3 (Tt K3 y0))))
 refine AV (i:=4) (m' :=31) (W:=576460752303423456) (tk b0) I c0 (v:=.tuple #[.agg ((aa v3.1)).toArray,vI v3.2]) (fst:=[]) (cap:=[]) (.yes I I) (bd 19) I (e1 I) (fun p q=>aR_c n (x0.hL0 hL q) (x0.kd j4 q) C8) I<|AX 5 63 b0 I c0 (.yes I I) (fun _=>Ac I I) I<|AX 6 127 b0 I c0 (.yes I I) (fun _=>Ac I I) I<|bk h fun p00 D8 h=>AV (i:=7) (m' :=255) (W:=576460752303423232) (tk b0) I c0 (v:=.bool p00) (fst:=[]) (cap:=[vP z1,vP A1]) (.yes I I) (bd 92) I (e2 I I) (fun p q=>ar_c n (x0.hL0 hL q) v3.1 (ae q (x0.memA .hd)) (ae q (x0.memA .t1)) D8) I<|Rv 8 b0 I c0 (fun _=>Bc I I)<|Rv 9 b0 I c0 (fun _=>Aj I)<|RD.ifb (s:=106) I h (fun H5 h=>?_) (fun H5 h=>?_)
 refine AX 11 3071 b0 I c0 (.yes I I) (fun _=>Aj I) I<|AU 10 4095 b0 I (.yes I I) (bd 30) I (e2 I I) (fun p q=>AD (ba_c n (x0.hL hL q) (1:Int) (4:Int)) fun (w8:World) (u8:Vc) ⟨b0_,b1_,hu_,s_⟩=>(⟨b0_,b1_,hu_,s_.from q⟩:∃ B1 C1:Nat,u8 = Value.func (.func 92) #[] #[vP B1,vP C1]/\St R9 w8 [.cells B1 [vI 1] 3,.cells C1 [vI 4] 3])) I fun U9 P01 Y00 ⟨B1,C1,R7,I4⟩=>?_
 subst R7
 have d0:=br x0 I4
 have F0:=cM x0 I4
 refine bk h fun x3 E8 h=>?_
 have k4:=Ag j4 F0
 refine AV (i:=12) (m' :=8191) (W:=576460752303415296) (tk b0) I c0 (v:=.tuple #[.agg ((aa x3.1)).toArray,vI x3.2]) (fst:=[]) (cap:=[]) (.yes I I) (bd 20) I (e1 I) (fun p q=>ax_c n (d0.hL0 hL q) (d0.kd k4 q) E8) I<|AX 13 16383 b0 I c0 (.yes I I) (fun _=>Ac I I) I<|AX 14 32767 b0 I c0 (.yes I I) (fun _=>Ac I I) I<|bk h fun q00 F8 h=>AV (i:=15) (m' :=65535) (W:=576460752303357952) (tk b0) I c0 (v:=.bool q00) (fst:=[]) (cap:=[vP B1,vP C1]) (.yes I I) (bd 92) I (e2 I I) (fun p q=>ar_c n (d0.hL0 hL q) x3.1 (ae q (d0.memA .hd)) (ae q (d0.memA .t1)) F8) I<|Rv 16 b0 I c0 (fun _=>Bc I I)<|Rv 17 b0 I c0 (fun _=>Aj I)<|RD.ifb (s:=114) I h (fun I5 h=>?_) (fun I5 h=>?_)
 refine RD.val (i:=18) (m' :=524287) (W:=576460752302374912) (tk b0) I c0 (.yes I I) (AF I (d0.memA .t5)) I<|bk h fun y3 G8 h=>AV (i:=19) (m' :=1048575) (W:=576460752302374912) (tk b0) I c0 (v:=.agg ((aa y3)).toArray) (fst:=[]) (cap:=[]) (.yes I I) (bd 15) I (e2 I I) (fun p q=>ac_c n (d0.hL0 hL q)  G8) I<|AX 20 2097151 b0 I c0 (.yes I I) (fun _=>FV.eqlV (v:=.agg ((aa s0.1)).toArray) (u:=.agg ((aa y3)).toArray) I I (fw s0.1 y3)) I<|Rv 21 b0 I c0 (fun _=>Bc I I)<|Rv 22 b0 I c0 (fun _=>Aj I)<|RD.ifd (s:=119) I h (fun J5 h=>?_) (fun J5 h=>?_)
 refine RD.val (i:=23) (m' :=16777215) (W:=576460752269869056) (tk b0) I c0 (.yes I I) (AF I (d0.memA .t4)) I<|bk h fun z3 H8 h=>AV (i:=24) (m' :=33554431) (W:=576460752269869056) (tk b0) I c0 (v:=.agg ((aa z3)).toArray) (fst:=[]) (cap:=[]) (.yes I I) (bd 15) I (e2 I I) (fun p q=>ac_c n (d0.hL0 hL q)  H8) I<|AX 25 67108863 b0 I c0 (.yes I I) (fun _=>FV.eqlV (v:=.agg ((aa s0.2.1)).toArray) (u:=.agg ((aa z3)).toArray) I I (fw s0.2.1 z3)) I<|Rv 26 b0 I c0 (fun _=>Bc I I)<|Rv 27 b0 I c0 (fun _=>Aj I)<|RD.ifd (s:=124) I h (fun K5 h=>?_) (fun K5 h=>?_)
 refine AX 28 536870911 b0 I c0 (.yes I I) (fun _=>Aj I) I<|AX 29 1073741823 b0 I c0 (.yes I I) (fun _=>FV.eql (i:=s0.2.2) (j:=0) I I) I<|Rv 30 b0 I c0 (fun _=>Bc I I)<|Rv 31 b0 I c0 (fun _=>Aj I)<|RD.ifd (s:=128) I h (fun M5 h=>?_) (fun M5 h=>?_)
 refine AX 33 12884901887 b0 I c0 (.yes I I) (fun _=>Aj I) I<|AU 32 17179869183 b0 I (.yes I I) (bd 30) I (e2 I I) (fun p q=>AD (ba_c n (d0.hL hL q) (0:Int) (1:Int)) fun (w8:World) (u8:Vc) ⟨b0_,b1_,hu_,s_⟩=>(⟨b0_,b1_,hu_,s_.from q⟩:∃ D1 E1:Nat,u8 = Value.func (.func 92) #[] #[vP D1,vP E1]/\St U9 w8 [.cells D1 [vI 0] 3,.cells E1 [vI 1] 3])) I fun V9 Q01 Z00 ⟨D1,E1,U7,J4⟩=>?_
 subst U7
 have p0:=br d0 J4
 have q2:=cM d0 J4
 refine bk h fun Y4 I8 h=>AV (i:=34) (m' :=34359738367) (W:=576460717943685120) (tk b0) I c0 (v:=.agg ((aa Y4)).toArray) (fst:=[]) (cap:=[]) (.yes I I) (bd 15) I (e2 I I) (fun p q=>ac_c n (p0.hL0 hL q)  I8) I<|bk h fun A3 J8 h=>?_
 have p4:=Ag k4 q2
 refine AV (i:=35) (m' :=68719476735) (W:=576460683583946752) (tk b0) I c0 (v:=.tuple #[.agg ((aa A3.1)).toArray,vI A3.2]) (fst:=[]) (cap:=[]) (.yes I I) (bd 21) I (e2 I I) (fun p q=>ao_c n (p0.hL0 hL q) (p0.kd p4 q) Y4 J8) I<|AX 36 137438953471 b0 I c0 (.yes I I) (fun _=>Ac I I) I<|AX 37 274877906943 b0 I c0 (.yes I I) (fun _=>Ac I I) I<|bk h fun s00 K8 h=>AV (i:=38) (m' :=549755813887) (W:=576460202547609600) (tk b0) I c0 (v:=.bool s00) (fst:=[]) (cap:=[vP D1,vP E1]) (.yes I I) (bd 92) I (e2 I I) (fun p q=>ar_c n (p0.hL0 hL q) A3.1 (ae q (p0.memA .hd)) (ae q (p0.memA .t1)) K8) I<|Rv 39 b0 I c0 (fun _=>Bc I I)<|Rv 40 b0 I c0 (fun _=>Aj I)<|RD.ifb (s:=137) I h (fun P5 h=>?_) (fun P5 h=>?_)
 refine AX 42 6597069766655 b0 I c0 (.yes I I) (fun _=>Aj I) I<|AU 41 8796093022207 b0 I (.yes I I) (bd 30) I (e2 I I) (fun p q=>AD (ba_c n (p0.hL hL q) (1:Int) (1:Int)) fun (w8:World) (u8:Vc) ⟨b0_,b1_,hu_,s_⟩=>(⟨b0_,b1_,hu_,s_.from q⟩:∃ F1 G1:Nat,u8 = Value.func (.func 92) #[] #[vP F1,vP G1]/\St V9 w8 [.cells F1 [vI 1] 3,.cells G1 [vI 1] 3])) I fun W9 R01 b01 ⟨F1,G1,V7,K4⟩=>?_
 subst V7
 have q0:=br p0 K4
 have c3:=cM p0 K4
 refine bk h fun Z4 M8 h=>AV (i:=43) (m' :=17592186044415) (W:=576443160117379072) (tk b0) I c0 (v:=.agg ((aa Z4)).toArray) (fst:=[]) (cap:=[]) (.yes I I) (bd 15) I (e2 I I) (fun p q=>ac_c n (q0.hL0 hL q)  M8) I<|bk h fun B3 P8 h=>?_
 have q4:=Ag p4 c3
 refine AV (i:=44) (m' :=35184372088831) (W:=576425567931334656) (tk b0) I c0 (v:=.tuple #[.agg ((aa B3.1)).toArray,vI B3.2]) (fst:=[]) (cap:=[]) (.yes I I) (bd 21) I (e2 I I) (fun p q=>ao_c n (q0.hL0 hL q) (q0.kd q4 q) Z4 P8) I<|AX 45 70368744177663 b0 I c0 (.yes I I) (fun _=>Ac I I) I<|AX 46 140737488355327 b0 I c0 (.yes I I) (fun _=>Ac I I) I<|bk h fun t00 Q8 h=>AV (i:=47) (m' :=281474976710655) (W:=576179277326712832) (tk b0) I c0 (v:=.bool t00) (fst:=[]) (cap:=[vP F1,vP G1]) (.yes I I) (bd 92) I (e2 I I) (fun p q=>ar_c n (q0.hL0 hL q) B3.1 (ae q (q0.memA .hd)) (ae q (q0.memA .t1)) Q8) I<|Rv 48 b0 I c0 (fun _=>Bc I I)<|Rv 49 b0 I c0 (fun _=>Aj I)<|RD.ifb (s:=146) I h (fun Q5 h=>?_) (fun Q5 h=>?_)
 refine AX 51 3377699720527871 b0 I c0 (.yes I I) (fun _=>Aj I) I<|AU 50 4503599627370495 b0 I (.yes I I) (bd 18) I (e1 I) (fun p q=>AD (al_c n (q0.hL hL q) (2:Int)) fun (w8:World) (u8:Vc) ⟨b0_,hu_,s_⟩=>(⟨b0_,hu_,s_.from q⟩:∃ H1:Nat,u8 = Value.func (.func 74) #[] #[vP H1]/\St W9 w8 [.cells H1 [vI 2] 27])) I fun E02 U01 c01 ⟨H1,W7,M4⟩=>?_
 subst W7
 have U0:=ah q0 M4
 have V3:=am q0 M4
 refine bk h fun b5 R8 h=>AV (i:=52) (m' :=9007199254740991) (W:=567453553048682496) (tk b0) I c0 (v:=.agg ((aa b5)).toArray) (fst:=[]) (cap:=[]) (.yes I I) (bd 15) I (e2 I I) (fun p q=>ac_c n (U0.hL0 hL q)  R8) I<|bk h fun C3 U8 h=>AV (i:=53) (m' :=18014398509481983) (W:=558446353793941504) (tk b0) I c0 (v:=.tuple #[.agg ((aa C3.1)).toArray,vI C3.2]) (fst:=[]) (cap:=[]) (.yes I I) (bd 21) I (e2 I I) (fun p q=>ao_c n (U0.hL0 hL q) (U0.kd (Ag q4 V3) q) b5 U8) I<|AX 54 36028797018963967 b0 I c0 (.yes I I) (fun _=>Ac I I) I<|AX 55 72057594037927935 b0 I c0 (.yes I I) (fun _=>Ac I I) I<|bk h fun c5 V8 h=>AV (i:=56) (m' :=144115188075855871) (W:=432345564227567616) (tk b0) I c0 (v:=.bool c5) (fst:=[]) (cap:=[vP H1]) (.yes I I) (bd 74) I (e2 I I) (fun p q=>aa_c n (U0.hL0 hL q) C3.1 (ae q (U0.memA .hd)) V8) I<|Rv 57 b0 I c0 (fun _=>Bc I I)<|Rv 58 b0 I c0 (fun _=>Bk I)<|AN (dk b0) ?_
 obtain ⟨g6,I6⟩:=AA U0 .done
 exact v0 c5 g6 (Tt y0 (Tt F0 (Tt q2 (Tt c3 (Tt V3 I6))))) h
 refine Bu 144115188075855871 2 [(50,147),(51,148),(52,149),(53,150),(54,151),(55,152),(56,153)] (F:=[(146,false)]) (U:=[]) b0 c0 (.cons I .nil) .nil ?_
 dsimp only [aQ,List.map]
 refine Rv 57 b0 I c0 (fun _=>Be I I)<|Rv 58 b0 I c0 (fun _=>Bk I)<|AN (dk b0) ?_
 obtain ⟨j6,J6⟩:=AA q0 .done
 exact v0 false j6 (Tt y0 (Tt F0 (Tt q2 (Tt c3 J6)))) h
 refine Bu 281474976710655 11 [(41,138),(42,139),(43,140),(44,141),(45,142),(46,143),(47,144)] (F:=[(137,false)]) (U:=[]) b0 c0 (.cons I .nil) .nil ?_
 dsimp only [aQ,List.map]
 refine Rv 48 b0 I c0 (fun _=>Be I I)<|Rv 49 b0 I c0 (fun _=>Aj I)<|Bu 144115188075855871 2 [(50,147),(51,148),(52,149),(53,150),(54,151),(55,152),(56,153)] (F:=[(146,false)]) (U:=[]) b0 c0 (.cons I .nil) .nil ?_
 dsimp only [aQ,List.map]
 refine Rv 57 b0 I c0 (fun _=>Be I I)<|Rv 58 b0 I c0 (fun _=>Bk I)<|AN (dk b0) ?_
 obtain ⟨k6,K6⟩:=AA p0 .done
 exact v0 false k6 (Tt y0 (Tt F0 (Tt q2 K6))) h
 refine Bu 549755813887 20 [(32,129),(33,130),(34,131),(35,132),(36,133),(37,134),(38,135)] (F:=[(128,false)]) (U:=[]) b0 c0 (.cons I .nil) .nil ?_
 dsimp only [aQ,List.map]
 refine Rv 39 b0 I c0 (fun _=>Be I I)<|Rv 40 b0 I c0 (fun _=>Aj I)<|Bu 281474976710655 11 [(41,138),(42,139),(43,140),(44,141),(45,142),(46,143),(47,144)] (F:=[(137,false)]) (U:=[]) b0 c0 (.cons I .nil) .nil ?_
 dsimp only [aQ,List.map]
 refine Rv 48 b0 I c0 (fun _=>Be I I)<|Rv 49 b0 I c0 (fun _=>Aj I)<|Bu 144115188075855871 2 [(50,147),(51,148),(52,149),(53,150),(54,151),(55,152),(56,153)] (F:=[(146,false)]) (U:=[]) b0 c0 (.cons I .nil) .nil ?_
 dsimp only [aQ,List.map]
 refine Rv 57 b0 I c0 (fun _=>Be I I)<|Rv 58 b0 I c0 (fun _=>Bk I)<|AN (dk b0) ?_
 obtain ⟨p6,M6⟩:=AA d0 .done
 exact v0 false p6 (Tt y0 (Tt F0 M6)) h
 refine Bu 1073741823 29 [(28,125),(29,126)] (F:=[(124,false)]) (U:=[]) b0 c0 (.cons I .nil) .nil ?_
 dsimp only [aQ,List.map]
 refine Rv 30 b0 I c0 (fun _=>Be I I)<|Rv 31 b0 I c0 (fun _=>Aj I)<|Bu 549755813887 20 [(32,129),(33,130),(34,131),(35,132),(36,133),(37,134),(38,135)] (F:=[(128,false)]) (U:=[]) b0 c0 (.cons I .nil) .nil ?_
 dsimp only [aQ,List.map]
 refine Rv 39 b0 I c0 (fun _=>Be I I)<|Rv 40 b0 I c0 (fun _=>Aj I)<|Bu 281474976710655 11 [(41,138),(42,139),(43,140),(44,141),(45,142),(46,143),(47,144)] (F:=[(137,false)]) (U:=[]) b0 c0 (.cons I .nil) .nil ?_
 dsimp only [aQ,List.map]
 refine Rv 48 b0 I c0 (fun _=>Be I I)<|Rv 49 b0 I c0 (fun _=>Aj I)<|Bu 144115188075855871 2 [(50,147),(51,148),(52,149),(53,150),(54,151),(55,152),(56,153)] (F:=[(146,false)]) (U:=[]) b0 c0 (.cons I .nil) .nil ?_
 dsimp only [aQ,List.map]
 refine Rv 57 b0 I c0 (fun _=>Be I I)<|Rv 58 b0 I c0 (fun _=>Bk I)<|AN (dk b0) ?_
 obtain ⟨q6,P6⟩:=AA d0 .done
 exact v0 false q6 (Tt y0 (Tt F0 P6)) h
 refine Bu 67108863 33 [(23,120),(24,121),(25,122)] (F:=[(119,false)]) (U:=[]) b0 c0 (.cons I .nil) .nil ?_
 dsimp only [aQ,List.map]
 refine Rv 26 b0 I c0 (fun _=>Be I I)<|Rv 27 b0 I c0 (fun _=>Aj I)<|Bu 1073741823 29 [(28,125),(29,126)] (F:=[(124,false)]) (U:=[]) b0 c0 (.cons I .nil) .nil ?_
 dsimp only [aQ,List.map]
 refine Rv 30 b0 I c0 (fun _=>Be I I)<|Rv 31 b0 I c0 (fun _=>Aj I)<|Bu 549755813887 20 [(32,129),(33,130),(34,131),(35,132),(36,133),(37,134),(38,135)] (F:=[(128,false)]) (U:=[]) b0 c0 (.cons I .nil) .nil ?_
 dsimp only [aQ,List.map]
 refine Rv 39 b0 I c0 (fun _=>Be I I)<|Rv 40 b0 I c0 (fun _=>Aj I)<|Bu 281474976710655 11 [(41,138),(42,139),(43,140),(44,141),(45,142),(46,143),(47,144)] (F:=[(137,false)]) (U:=[]) b0 c0 (.cons I .nil) .nil ?_
 dsimp only [aQ,List.map]
 refine Rv 48 b0 I c0 (fun _=>Be I I)<|Rv 49 b0 I c0 (fun _=>Aj I)<|Bu 144115188075855871 2 [(50,147),(51,148),(52,149),(53,150),(54,151),(55,152),(56,153)] (F:=[(146,false)]) (U:=[]) b0 c0 (.cons I .nil) .nil ?_
 dsimp only [aQ,List.map]
 refine Rv 57 b0 I c0 (fun _=>Be I I)<|Rv 58 b0 I c0 (fun _=>Bk I)<|AN (dk b0) ?_
 obtain ⟨s6,Q6⟩:=AA d0 .done
 exact v0 false s6 (Tt y0 (Tt F0 Q6)) h
 refine Bu 2097151 38 [(18,115),(19,116),(20,117)] (F:=[(114,false)]) (U:=[]) b0 c0 (.cons I .nil) .nil ?_
 dsimp only [aQ,List.map]
 refine Rv 21 b0 I c0 (fun _=>Be I I)<|Rv 22 b0 I c0 (fun _=>Aj I)<|Bu 67108863 33 [(23,120),(24,121),(25,122)] (F:=[(119,false)]) (U:=[]) b0 c0 (.cons I .nil) .nil ?_
 dsimp only [aQ,List.map]
 refine Rv 26 b0 I c0 (fun _=>Be I I)<|Rv 27 b0 I c0 (fun _=>Aj I)<|Bu 1073741823 29 [(28,125),(29,126)] (F:=[(124,false)]) (U:=[]) b0 c0 (.cons I .nil) .nil ?_
 dsimp only [aQ,List.map]
 refine Rv 30 b0 I c0 (fun _=>Be I I)<|Rv 31 b0 I c0 (fun _=>Aj I)<|Bu 549755813887 20 [(32,129),(33,130),(34,131),(35,132),(36,133),(37,134),(38,135)] (F:=[(128,false)]) (U:=[]) b0 c0 (.cons I .nil) .nil ?_
 dsimp only [aQ,List.map]
 refine Rv 39 b0 I c0 (fun _=>Be I I)<|Rv 40 b0 I c0 (fun _=>Aj I)<|Bu 281474976710655 11 [(41,138),(42,139),(43,140),(44,141),(45,142),(46,143),(47,144)] (F:=[(137,false)]) (U:=[]) b0 c0 (.cons I .nil) .nil ?_
 dsimp only [aQ,List.map]
 refine Rv 48 b0 I c0 (fun _=>Be I I)<|Rv 49 b0 I c0 (fun _=>Aj I)<|Bu 144115188075855871 2 [(50,147),(51,148),(52,149),(53,150),(54,151),(55,152),(56,153)] (F:=[(146,false)]) (U:=[]) b0 c0 (.cons I .nil) .nil ?_
 dsimp only [aQ,List.map]
 refine Rv 57 b0 I c0 (fun _=>Be I I)<|Rv 58 b0 I c0 (fun _=>Bk I)<|AN (dk b0) ?_
 obtain ⟨t6,R6⟩:=AA d0 .done
 exact v0 false t6 (Tt y0 (Tt F0 R6)) h
 refine Bu 65535 43 [(10,107),(11,108),(12,109),(13,110),(14,111),(15,112)] (F:=[(106,false)]) (U:=[]) b0 c0 (.cons I .nil) .nil ?_
 dsimp only [aQ,List.map]
 refine Rv 16 b0 I c0 (fun _=>Be I I)<|Rv 17 b0 I c0 (fun _=>Aj I)<|Bu 2097151 38 [(18,115),(19,116),(20,117)] (F:=[(114,false)]) (U:=[]) b0 c0 (.cons I .nil) .nil ?_
 dsimp only [aQ,List.map]
 refine Rv 21 b0 I c0 (fun _=>Be I I)<|Rv 22 b0 I c0 (fun _=>Aj I)<|Bu 67108863 33 [(23,120),(24,121),(25,122)] (F:=[(119,false)]) (U:=[]) b0 c0 (.cons I .nil) .nil ?_
 dsimp only [aQ,List.map]
 refine Rv 26 b0 I c0 (fun _=>Be I I)<|Rv 27 b0 I c0 (fun _=>Aj I)<|Bu 1073741823 29 [(28,125),(29,126)] (F:=[(124,false)]) (U:=[]) b0 c0 (.cons I .nil) .nil ?_
 dsimp only [aQ,List.map]
 refine Rv 30 b0 I c0 (fun _=>Be I I)<|Rv 31 b0 I c0 (fun _=>Aj I)<|Bu 549755813887 20 [(32,129),(33,130),(34,131),(35,132),(36,133),(37,134),(38,135)] (F:=[(128,false)]) (U:=[]) b0 c0 (.cons I .nil) .nil ?_
 dsimp only [aQ,List.map]
 refine Rv 39 b0 I c0 (fun _=>Be I I)<|Rv 40 b0 I c0 (fun _=>Aj I)<|Bu 281474976710655 11 [(41,138),(42,139),(43,140),(44,141),(45,142),(46,143),(47,144)] (F:=[(137,false)]) (U:=[]) b0 c0 (.cons I .nil) .nil ?_
 dsimp only [aQ,List.map]
 refine Rv 48 b0 I c0 (fun _=>Be I I)<|Rv 49 b0 I c0 (fun _=>Aj I)<|Bu 144115188075855871 2 [(50,147),(51,148),(52,149),(53,150),(54,151),(55,152),(56,153)] (F:=[(146,false)]) (U:=[]) b0 c0 (.cons I .nil) .nil ?_
 dsimp only [aQ,List.map]
 refine Rv 57 b0 I c0 (fun _=>Be I I)<|Rv 58 b0 I c0 (fun _=>Bk I)<|AN (dk b0) ?_
 obtain ⟨u6,U6⟩:=AA x0 .done
 exact v0 false u6 (Tt y0 U6) h
 refine Bu 255 51 [(2,99),(3,100),(4,101),(5,102),(6,103),(7,104)] (F:=[(98,false)]) (U:=[]) b0 c0 (.cons I .nil) .nil ?_
 dsimp only [aQ,List.map]
 refine Rv 8 b0 I c0 (fun _=>Be I I)<|Rv 9 b0 I c0 (fun _=>Aj I)<|Bu 65535 43 [(10,107),(11,108),(12,109),(13,110),(14,111),(15,112)] (F:=[(106,false)]) (U:=[]) b0 c0 (.cons I .nil) .nil ?_
 dsimp only [aQ,List.map]
 refine Rv 16 b0 I c0 (fun _=>Be I I)<|Rv 17 b0 I c0 (fun _=>Aj I)<|Bu 2097151 38 [(18,115),(19,116),(20,117)] (F:=[(114,false)]) (U:=[]) b0 c0 (.cons I .nil) .nil ?_
 dsimp only [aQ,List.map]
 refine Rv 21 b0 I c0 (fun _=>Be I I)<|Rv 22 b0 I c0 (fun _=>Aj I)<|Bu 67108863 33 [(23,120),(24,121),(25,122)] (F:=[(119,false)]) (U:=[]) b0 c0 (.cons I .nil) .nil ?_
 dsimp only [aQ,List.map]
 refine Rv 26 b0 I c0 (fun _=>Be I I)<|Rv 27 b0 I c0 (fun _=>Aj I)<|Bu 1073741823 29 [(28,125),(29,126)] (F:=[(124,false)]) (U:=[]) b0 c0 (.cons I .nil) .nil ?_
 dsimp only [aQ,List.map]
 refine Rv 30 b0 I c0 (fun _=>Be I I)<|Rv 31 b0 I c0 (fun _=>Aj I)<|Bu 549755813887 20 [(32,129),(33,130),(34,131),(35,132),(36,133),(37,134),(38,135)] (F:=[(128,false)]) (U:=[]) b0 c0 (.cons I .nil) .nil ?_
 dsimp only [aQ,List.map]
 refine Rv 39 b0 I c0 (fun _=>Be I I)<|Rv 40 b0 I c0 (fun _=>Aj I)<|Bu 281474976710655 11 [(41,138),(42,139),(43,140),(44,141),(45,142),(46,143),(47,144)] (F:=[(137,false)]) (U:=[]) b0 c0 (.cons I .nil) .nil ?_
 dsimp only [aQ,List.map]
 refine Rv 48 b0 I c0 (fun _=>Be I I)<|Rv 49 b0 I c0 (fun _=>Aj I)<|Bu 144115188075855871 2 [(50,147),(51,148),(52,149),(53,150),(54,151),(55,152),(56,153)] (F:=[(146,false)]) (U:=[]) b0 c0 (.cons I .nil) .nil ?_
 dsimp only [aQ,List.map]
 refine Rv 57 b0 I c0 (fun _=>Be I I)<|Rv 58 b0 I c0 (fun _=>Bk I)<|AN (dk b0) ?_
 obtain ⟨v6,V6⟩:=AA c1 .done
 exact v0 false v6 V6 h
 intro H00 J0 h
 try dsimp only at h
 refine Ap<|Ab (AI (vs:=[vI 2,vI 1]) (u:=.agg #[vI 2,vI 1]) (e2 I I) (fun p=>by kernel_rfl))<|Ab (AI (vs:=[vI 6,vI 2]) (u:=.agg #[vI 6,vI 2]) (e2 I I) (fun p=>by kernel_rfl))<|Am .plain I (AG (α:=Int × Int) (xs:=([((2:Int),(1:Int)),((6:Int),(2:Int))]:List (Int × Int))) (vs:=[.agg #[vI 2,vI 1],.agg #[vI 6,vI 2]]) (ds' :=[vI 2,vI 1,vI 6,vI 2]) I E3 bC I (e2 I I) (by kernel_rfl) I) fun F02 y5 b2 G0=>?_
 have D2:=Bl b2 .hd
 have H0:=Bm b2 .hd
 refine bk h fun u00 W8 h=>jE (bd 13) I (e2 I I) (fun p q=>ah_c n (D2.hL hL q) (Ah (Bn (α:=Int × Int) (v:=(vS y5 2)) (xs:=([((2:Int),(1:Int)),((6:Int),(2:Int))]:List (Int × Int))) D2 L (Ba (α:=Int × Int) b2 .hd (AC (cs:=[vI 2,vI 1,vI 6,vI 2]) (xs:=(([((2:Int),(1:Int)),((6:Int),(2:Int))]:List (Int × Int)):List (Int × Int))) b2 L (Ao (cs:=[vI 2,vI 1]) (ds:=[vI 6,vI 2]) (aK (2:Int) (1:Int)) (Ao (cs:=[vI 6,vI 2]) (ds:=[]) (aK (6:Int) (2:Int)) (AH _ _)))) hL)) q) W8) I fun X9 G9 q7 ⟨x01,hu_,A4⟩=>?_
 subst hu_
 obtain ⟨E2,I0⟩:=D2.agr q7
 refine jE (bd 28) I (e1 I) (fun p q=>AD (aW_c n (E2.hL hL q) u00 (Ah A4 q)) fun (w8:World) (u8:Vc) ⟨b0_,hu_,s_⟩=>(⟨b0_,hu_,s_.from q⟩:∃ I1:Nat,u8 = Value.func (.func 91) #[] #[vP I1]/\St X9 w8 [.cells I1 [G9] 24])) I fun G02 V01 d01 ⟨I1,X7,P4⟩=>?_
 subst X7
 have c2:=ah E2 P4
 have z0:=am E2 P4
 refine bk h fun u0 X8 h=>Bo (.agg ((aa u0)).toArray) (bd 15) I (e2 I I) (fun p q=>ac_c n (c2.hL0 hL q)  X8) I<|bk h fun k0 Y8 h=>Bo (.agg ((aa k0)).toArray) (bd 15) I (e2 I I) (fun p q=>ac_c n (c2.hL0 hL q)  Y8) I<|bk h fun g0 Z8 h=>Bo (.agg ((aa g0)).toArray) (bd 15) I (e2 I I) (fun p q=>ac_c n (c2.hL0 hL q)  Z8) I<|Am .plain I (AG (α:=Ta) (xs:=([u0,k0,g0]:List Ta)) (vs:=[.agg ((aa u0)).toArray,.agg ((aa k0)).toArray,.agg ((aa g0)).toArray]) (ds' :=(aa u0 ++ aa k0 ++ aa g0)) I c2 bq I (e3 I I I) (by kernel_rfl) I) fun H02 z5 d2 A0=>?_
 have F2:=Bl d2 .hd
 have B0:=Bm d2 .hd
 refine bk h fun j03 b9 h=>jE (bd 26) I (e1 I) (fun p q=>aM_c n (F2.hL hL q) (Ah (Bn (α:=Ta) (v:=(vS z5 3)) (xs:=([u0,k0,g0]:List Ta)) F2 L (Ba (α:=Ta) d2 .hd (AC (cs:=(aa u0 ++ aa k0 ++ aa g0)) (xs:=(([u0,k0,g0]:List Ta):List Ta)) d2 L (Ao (cs:=(aa u0)) (ds:=(aa k0 ++ aa g0)) (aG u0.fN u0.fD) (Ao (cs:=(aa k0)) (ds:=(aa g0)) (aG k0.fN k0.fD) (Ao (cs:=(aa g0)) (ds:=[]) (aG g0.fN g0.fD) (AH _ _))))) hL)) q) b9) I fun Y9 W01 s7 ⟨y01,hu_,F7⟩=>?_
 subst hu_
 obtain ⟨E0,C0⟩:=F2.agr s7
 refine Ab (Ac I I)<|Ab (Ac I I)<|bk h fun v00 c9 h=>AL (v:=.bool v00) (fst:=[]) (cap:=[vP I1]) .plain (bd 91) I (e2 I I) (fun p q=>av_c n (E0.hL0 hL q) (E0.kd F7 q) (E0.kd (Ag A4 (Tt z0 (Tt A0 (Tt B0 C0)))) q) (ae q (E0.memA .hd)) c9) I<|Ae I<|RG.ifb (s:=27) I h (fun R5 h=>?_) (fun R5 h=>?_)
 refine Az (fst:=[]) (cap:=[]) (.yes I I) (bd 22) I (e1 I) (fun p q=>AD (ai_c n (E0.hL hL q) (4:Int)) fun (w8:World) (u8:Vc) ⟨b0_,hu_,s_⟩=>(⟨b0_,hu_,s_.from q⟩:∃ J1:Nat,u8 = Value.func (.func 82) #[] #[vP J1]/\St Y9 w8 [.cells J1 [vI 4] 27])) I fun I02 X01 g01 ⟨J1,Y7,Q4⟩=>?_
 subst Y7
 have G2:=ah E0 Q4
 have P0:=am E0 Q4
 refine bk h fun k03 d9 h=>Az (fst:=[]) (cap:=[]) (.yes I I) (bd 26) I (e1 I) (fun p q=>aM_c n (G2.hL hL q) (Ah (Bq (α:=Ta) G2 L) q) d9) I fun J02 Y01 t7 ⟨z01,hu_,G7⟩=>?_
 subst hu_
 obtain ⟨M0,Q0⟩:=G2.agr t7
 refine Ax (Ac I I)<|Ax (Ac I I)<|bk h fun x00 g9 h=>AL (v:=.bool x00) (fst:=[]) (cap:=[vP J1]) (.yes I I) (bd 82) I (e2 I I) (fun p q=>ab_c n (M0.hL0 hL q) (M0.kd G7 q) (ae q (M0.memA .hd)) g9) I<|RG.pt I I<|Ae I<|RG.ifb (s:=34) I h (fun U5 h=>?_) (fun U5 h=>?_)
 refine bk h fun d5 j9 h=>AL (v:=vI d5) (fst:=[]) (cap:=[]) (.yes I I) (bd 16) I (e1 I) (fun p q=>ap_c n (M0.hL0 hL q) (Ah (Rep.nilSlice _ _) q) j9) I<|Ax (FV.eql (i:=d5) (j:=50) I I)<|RG.pt I I<|Ae I<|RG.ifd (s:=38) I h (fun V5 h=>?_) (fun V5 h=>?_)
 refine Ax (AI (vs:=[vI 0,vI 1]) (u:=.agg #[vI 0,vI 1]) (e2 I I) (fun p=>by kernel_rfl))<|Ax (AI (vs:=[vI 2,vI 2]) (u:=.agg #[vI 2,vI 2]) (e2 I I) (fun p=>by kernel_rfl))<|Ax (AI (vs:=[vI 4,vI 1]) (u:=.agg #[vI 4,vI 1]) (e2 I I) (fun p=>by kernel_rfl))<|Am (.yes I I) I (AG (α:=Int × Int) (xs:=([((0:Int),(1:Int)),((2:Int),(2:Int)),((4:Int),(1:Int))]:List (Int × Int))) (vs:=[.agg #[vI 0,vI 1],.agg #[vI 2,vI 2],.agg #[vI 4,vI 1]]) (ds' :=[vI 0,vI 1,vI 2,vI 2,vI 4,vI 1]) I M0 bC I (e3 I I I) (by kernel_rfl) I) fun K02 A5 g2 g1=>?_
 have H2:=Bl g2 .hd
 have j1:=Bm g2 .hd
 refine bk h fun y00 k9 h=>Az (fst:=[]) (cap:=[]) (.yes I I) (bd 13) I (e2 I I) (fun p q=>ah_c n (H2.hL hL q) (Ah (Bn (α:=Int × Int) (v:=(vS A5 3)) (xs:=([((0:Int),(1:Int)),((2:Int),(2:Int)),((4:Int),(1:Int))]:List (Int × Int))) H2 L (Ba (α:=Int × Int) g2 .hd (AC (cs:=[vI 0,vI 1,vI 2,vI 2,vI 4,vI 1]) (xs:=(([((0:Int),(1:Int)),((2:Int),(2:Int)),((4:Int),(1:Int))]:List (Int × Int)):List (Int × Int))) g2 L (Ao (cs:=[vI 0,vI 1]) (ds:=[vI 2,vI 2,vI 4,vI 1]) (aK (0:Int) (1:Int)) (Ao (cs:=[vI 2,vI 2]) (ds:=[vI 4,vI 1]) (aK (2:Int) (2:Int)) (Ao (cs:=[vI 4,vI 1]) (ds:=[]) (aK (4:Int) (1:Int)) (AH _ _))))) hL)) q) k9) I fun Z9 H9 u7 ⟨A01,hu_,B4⟩=>?_
 subst hu_
 obtain ⟨I2,k1⟩:=H2.agr u7
 refine Az (fst:=[]) (cap:=[]) (.yes I I) (bd 28) I (e1 I) (fun p q=>AD (aW_c n (I2.hL hL q) y00 (Ah B4 q)) fun (w8:World) (u8:Vc) ⟨b0_,hu_,s_⟩=>(⟨b0_,hu_,s_.from q⟩:∃ K1:Nat,u8 = Value.func (.func 91) #[] #[vP K1]/\St Z9 w8 [.cells K1 [H9] 24])) I fun M02 Z01 j01 ⟨K1,Z7,R4⟩=>?_
 subst Z7
 have F3:=ah I2 R4
 have Y0:=am I2 R4
 refine Ax (Aj I)<|Ax (Aj I)<|bk h fun p03 p9 h=>?_
 have q3:=Ag y4 (Tt M3 (Tt P3 (Tt R3 (Tt G0 (Tt H0 (Tt I0 (Tt z0 (Tt A0 (Tt B0 (Tt C0 (Tt P0 (Tt Q0 (Tt g1 (Tt j1 (Tt k1 Y0)))))))))))))))
 refine Az (fst:=[]) (cap:=[]) (.yes I I) (bd 24) I (e2 I I) (fun p q=>aA_c n (F3.hL hL q) (Ah q3 q) (Ah q3 q) p9) I fun P02 b02 v7 ⟨B01,hu_,H7⟩=>?_
 subst hu_
 obtain ⟨V0,Z0⟩:=F3.agr v7
 refine Ax (Ac I I)<|Ax (Ac I I)<|bk h fun z00 q9 h=>AL (v:=.bool z00) (fst:=[]) (cap:=[vP K1]) (.yes I I) (bd 91) I (e2 I I) (fun p q=>av_c n (V0.hL0 hL q) (V0.kd H7 q) (V0.kd (Ag B4 (Tt Y0 Z0)) q) (ae q (V0.memA .hd)) q9) I<|RG.pt I I<|Ae I<|RG.ifb (s:=52) I h (fun W5 h=>?_) (fun W5 h=>?_)
 refine Ax (AI (vs:=[vI (-4),vI 1]) (u:=.agg #[vI (-4),vI 1]) (e2 I I) (fun p=>by kernel_rfl))<|Ax (AI (vs:=[vI 0,vI 1]) (u:=.agg #[vI 0,vI 1]) (e2 I I) (fun p=>by kernel_rfl))<|Am (.yes I I) I (AG (α:=Int × Int) (xs:=([((-4:Int),(1:Int)),((0:Int),(1:Int))]:List (Int × Int))) (vs:=[.agg #[vI (-4),vI 1],.agg #[vI 0,vI 1]]) (ds' :=[vI (-4),vI 1,vI 0,vI 1]) I V0 bC I (e2 I I) (by kernel_rfl) I) fun Q02 B5 j2 s2=>?_
 have J2:=Bl j2 .hd
 have t2:=Bm j2 .hd
 refine bk h fun A00 s9 h=>Az (fst:=[]) (cap:=[]) (.yes I I) (bd 13) I (e2 I I) (fun p q=>ah_c n (J2.hL hL q) (Ah (Bn (α:=Int × Int) (v:=(vS B5 2)) (xs:=([((-4:Int),(1:Int)),((0:Int),(1:Int))]:List (Int × Int))) J2 L (Ba (α:=Int × Int) j2 .hd (AC (cs:=[vI (-4),vI 1,vI 0,vI 1]) (xs:=(([((-4:Int),(1:Int)),((0:Int),(1:Int))]:List (Int × Int)):List (Int × Int))) j2 L (Ao (cs:=[vI (-4),vI 1]) (ds:=[vI 0,vI 1]) (aK (-4:Int) (1:Int)) (Ao (cs:=[vI 0,vI 1]) (ds:=[]) (aK (0:Int) (1:Int)) (AH _ _)))) hL)) q) s9) I fun b00 I9 x7 ⟨C01,hu_,C4⟩=>?_
 subst hu_
 obtain ⟨K2,u2⟩:=J2.agr x7
 refine Az (fst:=[]) (cap:=[]) (.yes I I) (bd 28) I (e1 I) (fun p q=>AD (aW_c n (K2.hL hL q) A00 (Ah C4 q)) fun (w8:World) (u8:Vc) ⟨b0_,hu_,s_⟩=>(⟨b0_,hu_,s_.from q⟩:∃ M1:Nat,u8 = Value.func (.func 91) #[] #[vP M1]/\St b00 w8 [.cells M1 [I9] 24])) I fun R02 c02 k01 ⟨M1,b8,U4⟩=>?_
 subst b8
 have M2:=ah K2 U4
 have p1:=am K2 U4
 refine Ax (Aj I)<|bk h fun g5 t9 h=>AL (v:=.agg ((aa g5)).toArray) (fst:=[]) (cap:=[]) (.yes I I) (bd 15) I (e2 I I) (fun p q=>ac_c n (M2.hL0 hL q)  t9) I<|bk h fun q03 u9 h=>?_
 have s4:=Ag q3 (Tt Z0 (Tt s2 (Tt t2 (Tt u2 p1))))
 refine Az (fst:=[]) (cap:=[]) (.yes I I) (bd 29) I (e2 I I) (fun p q=>aU_c n (M2.hL hL q) (Ah s4 q) g5 u9) I fun U02 d02 y7 ⟨D01,hu_,I7⟩=>?_
 subst hu_
 obtain ⟨W0,q1⟩:=M2.agr y7
 refine Ax (Ac I I)<|Ax (Ac I I)<|bk h fun B00 v9 h=>AL (v:=.bool B00) (fst:=[]) (cap:=[vP M1]) (.yes I I) (bd 91) I (e2 I I) (fun p q=>av_c n (W0.hL0 hL q) (W0.kd I7 q) (W0.kd (Ag C4 (Tt p1 q1)) q) (ae q (W0.memA .hd)) v9) I<|RG.pt I I<|Ae I<|RG.ifb (s:=65) I h (fun X5 h=>?_) (fun X5 h=>?_)
 refine Ax (AI (vs:=[vI 0,vI 1]) (u:=.agg #[vI 0,vI 1]) (e2 I I) (fun p=>by kernel_rfl))<|Am (.yes I I) I (AG (α:=Int × Int) (xs:=([((0:Int),(1:Int))]:List (Int × Int))) (vs:=[.agg #[vI 0,vI 1]]) (ds' :=[vI 0,vI 1]) I W0 bC I (e1 I) (by kernel_rfl) I) fun V02 C5 k2 d3=>?_
 have P2:=Bl k2 .hd
 have g3:=Bm k2 .hd
 refine bk h fun C00 x9 h=>Az (fst:=[]) (cap:=[]) (.yes I I) (bd 13) I (e2 I I) (fun p q=>ah_c n (P2.hL hL q) (Ah (Bn (α:=Int × Int) (v:=(vS C5 1)) (xs:=([((0:Int),(1:Int))]:List (Int × Int))) P2 L (Ba (α:=Int × Int) k2 .hd (AC (cs:=[vI 0,vI 1]) (xs:=(([((0:Int),(1:Int))]:List (Int × Int)):List (Int × Int))) k2 L (Ao (cs:=[vI 0,vI 1]) (ds:=[]) (aK (0:Int) (1:Int)) (AH _ _))) hL)) q) x9) I fun c00 J9 z7 ⟨E01,hu_,D4⟩=>?_
 subst hu_
 obtain ⟨Q2,j3⟩:=P2.agr z7
 refine Az (fst:=[]) (cap:=[]) (.yes I I) (bd 28) I (e1 I) (fun p q=>AD (aW_c n (Q2.hL hL q) C00 (Ah D4 q)) fun (w8:World) (u8:Vc) ⟨b0_,hu_,s_⟩=>(⟨b0_,hu_,s_.from q⟩:∃ P1:Nat,u8 = Value.func (.func 91) #[] #[vP P1]/\St c00 w8 [.cells P1 [J9] 24])) I fun W02 g02 p01 ⟨P1,c8,V4⟩=>?_
 subst c8
 have R2:=ah Q2 V4
 have v2:=am Q2 V4
 refine Ax (Aj I)<|bk h fun j5 y9 h=>AL (v:=.agg ((aa j5)).toArray) (fst:=[]) (cap:=[]) (.yes I I) (bd 15) I (e2 I I) (fun p q=>ac_c n (R2.hL0 hL q)  y9) I<|bk h fun s03 z9 h=>?_
 have u4:=Ag s4 (Tt q1 (Tt d3 (Tt g3 (Tt j3 v2))))
 refine Az (fst:=[]) (cap:=[]) (.yes I I) (bd 29) I (e2 I I) (fun p q=>aU_c n (R2.hL hL q) (Ah u4 q) j5 z9) I fun X02 j02 A7 ⟨F01,hu_,J7⟩=>?_
 subst hu_
 obtain ⟨X0,x2⟩:=R2.agr A7
 refine Ax (Ac I I)<|Ax (Ac I I)<|bk h fun D00 A9 h=>AL (v:=.bool D00) (fst:=[]) (cap:=[vP P1]) (.yes I I) (bd 91) I (e2 I I) (fun p q=>av_c n (X0.hL0 hL q) (X0.kd J7 q) (X0.kd (Ag D4 (Tt v2 x2)) q) (ae q (X0.memA .hd)) A9) I<|RG.pt I I<|Ae I<|RG.ifb (s:=77) I h (fun Y5 h=>?_) (fun Y5 h=>?_)
 refine Ax (AI (vs:=[vI 1,vI 1]) (u:=.agg #[vI 1,vI 1]) (e2 I I) (fun p=>by kernel_rfl))<|Ax (AI (vs:=[vI 3,vI 1]) (u:=.agg #[vI 3,vI 1]) (e2 I I) (fun p=>by kernel_rfl))<|Am (.yes I I) I (AG (α:=Int × Int) (xs:=([((1:Int),(1:Int)),((3:Int),(1:Int))]:List (Int × Int))) (vs:=[.agg #[vI 1,vI 1],.agg #[vI 3,vI 1]]) (ds' :=[vI 1,vI 1,vI 3,vI 1]) I X0 bC I (e2 I I) (by kernel_rfl) I) fun Y02 D5 p2 W3=>?_
 have U2:=Bl p2 .hd
 have X3:=Bm p2 .hd
 refine bk h fun E00 B9 h=>Az (fst:=[]) (cap:=[]) (.yes I I) (bd 13) I (e2 I I) (fun p q=>ah_c n (U2.hL hL q) (Ah (Bn (α:=Int × Int) (v:=(vS D5 2)) (xs:=([((1:Int),(1:Int)),((3:Int),(1:Int))]:List (Int × Int))) U2 L (Ba (α:=Int × Int) p2 .hd (AC (cs:=[vI 1,vI 1,vI 3,vI 1]) (xs:=(([((1:Int),(1:Int)),((3:Int),(1:Int))]:List (Int × Int)):List (Int × Int))) p2 L (Ao (cs:=[vI 1,vI 1]) (ds:=[vI 3,vI 1]) (aK (1:Int) (1:Int)) (Ao (cs:=[vI 3,vI 1]) (ds:=[]) (aK (3:Int) (1:Int)) (AH _ _)))) hL)) q) B9) I fun d00 K9 B7 ⟨G01,hu_,E4⟩=>?_
 subst hu_
 obtain ⟨V2,Y3⟩:=U2.agr B7
 refine Az (fst:=[]) (cap:=[]) (.yes I I) (bd 28) I (e1 I) (fun p q=>AD (aW_c n (V2.hL hL q) E00 (Ah E4 q)) fun (w8:World) (u8:Vc) ⟨b0_,hu_,s_⟩=>(⟨b0_,hu_,s_.from q⟩:∃ Q1:Nat,u8 = Value.func (.func 91) #[] #[vP Q1]/\St d00 w8 [.cells Q1 [K9] 24])) I fun Z02 k02 q01 ⟨Q1,d8,W4⟩=>?_
 subst d8
 have W2:=ah V2 W4
 have k3:=am V2 W4
 refine Ax (Aj I)<|bk h fun k5 C9 h=>AL (v:=.agg ((aa k5)).toArray) (fst:=[]) (cap:=[]) (.yes I I) (bd 15) I (e2 I I) (fun p q=>ac_c n (W2.hL0 hL q)  C9) I<|bk h fun t03 D9 h=>Az (fst:=[]) (cap:=[]) (.yes I I) (bd 23) I (e2 I I) (fun p q=>aL_c n (W2.hL hL q) (Ah (Ag u4 (Tt x2 (Tt W3 (Tt X3 (Tt Y3 k3))))) q) k5 D9) I fun b03 p02 C7 ⟨H01,hu_,K7⟩=>?_
 subst hu_
 obtain ⟨d1,Z3⟩:=W2.agr C7
 refine Ax (Ac I I)<|Ax (Ac I I)<|bk h fun p5 E9 h=>AL (v:=.bool p5) (fst:=[]) (cap:=[vP Q1]) (.yes I I) (bd 91) I (e2 I I) (fun p q=>av_c n (d1.hL0 hL q) (d1.kd K7 q) (d1.kd (Ag E4 (Tt k3 Z3)) q) (ae q (d1.memA .hd)) E9) I<|RG.pt I I<|Ai I<|Aa ?_
 obtain ⟨x6,W6⟩:=AA d1 .done
 exact J0 p5 x6 (Tt G0 (Tt H0 (Tt I0 (Tt z0 (Tt A0 (Tt B0 (Tt C0 (Tt P0 (Tt Q0 (Tt g1 (Tt j1 (Tt k1 (Tt Y0 (Tt Z0 (Tt s2 (Tt t2 (Tt u2 (Tt p1 (Tt q1 (Tt d3 (Tt g3 (Tt j3 (Tt v2 (Tt x2 (Tt W3 (Tt X3 (Tt Y3 (Tt k3 (Tt Z3 W6))))))))))))))))))))))))))))) h
 refine Av<|Av<|Av<|Av<|Av<|Av<|Av<|Av<|Av<|Av<|Av<|Bp I I<|Ai I<|Aa ?_
 obtain ⟨y6,X6⟩:=AA X0 .done
 exact J0 false y6 (Tt G0 (Tt H0 (Tt I0 (Tt z0 (Tt A0 (Tt B0 (Tt C0 (Tt P0 (Tt Q0 (Tt g1 (Tt j1 (Tt k1 (Tt Y0 (Tt Z0 (Tt s2 (Tt t2 (Tt u2 (Tt p1 (Tt q1 (Tt d3 (Tt g3 (Tt j3 (Tt v2 (Tt x2 X6)))))))))))))))))))))))) h
 refine Av<|Av<|Av<|Av<|Av<|Av<|Av<|Av<|Av<|Av<|Bp I I<|Ae I<|Av<|Av<|Av<|Av<|Av<|Av<|Av<|Av<|Av<|Av<|Av<|Bp I I<|Ai I<|Aa ?_
 obtain ⟨z6,Y6⟩:=AA W0 .done
 exact J0 false z6 (Tt G0 (Tt H0 (Tt I0 (Tt z0 (Tt A0 (Tt B0 (Tt C0 (Tt P0 (Tt Q0 (Tt g1 (Tt j1 (Tt k1 (Tt Y0 (Tt Z0 (Tt s2 (Tt t2 (Tt u2 (Tt p1 (Tt q1 Y6))))))))))))))))))) h
 refine Av<|Av<|Av<|Av<|Av<|Av<|Av<|Av<|Av<|Av<|Av<|Bp I I<|Ae I<|Av<|Av<|Av<|Av<|Av<|Av<|Av<|Av<|Av<|Av<|Bp I I<|Ae I<|Av<|Av<|Av<|Av<|Av<|Av<|Av<|Av<|Av<|Av<|Av<|Bp I I<|Ai I<|Aa ?_
 obtain ⟨A6,Z6⟩:=AA V0 .done
 exact J0 false A6 (Tt G0 (Tt H0 (Tt I0 (Tt z0 (Tt A0 (Tt B0 (Tt C0 (Tt P0 (Tt Q0 (Tt g1 (Tt j1 (Tt k1 (Tt Y0 (Tt Z0 Z6)))))))))))))) h
 refine Av<|Av<|Av<|Av<|Av<|Av<|Av<|Av<|Av<|Av<|Av<|Av<|Bp I I<|Ae I<|Av<|Av<|Av<|Av<|Av<|Av<|Av<|Av<|Av<|Av<|Av<|Bp I I<|Ae I<|Av<|Av<|Av<|Av<|Av<|Av<|Av<|Av<|Av<|Av<|Bp I I<|Ae I<|Av<|Av<|Av<|Av<|Av<|Av<|Av<|Av<|Av<|Av<|Av<|Bp I I<|Ai I<|Aa ?_
 obtain ⟨B6,b7⟩:=AA M0 .done
 exact J0 false B6 (Tt G0 (Tt H0 (Tt I0 (Tt z0 (Tt A0 (Tt B0 (Tt C0 (Tt P0 (Tt Q0 b7))))))))) h
 refine Av<|Av<|Bp I I<|Ae I<|Av<|Av<|Av<|Av<|Av<|Av<|Av<|Av<|Av<|Av<|Av<|Av<|Bp I I<|Ae I<|Av<|Av<|Av<|Av<|Av<|Av<|Av<|Av<|Av<|Av<|Av<|Bp I I<|Ae I<|Av<|Av<|Av<|Av<|Av<|Av<|Av<|Av<|Av<|Av<|Bp I I<|Ae I<|Av<|Av<|Av<|Av<|Av<|Av<|Av<|Av<|Av<|Av<|Av<|Bp I I<|Ai I<|Aa ?_
 obtain ⟨C6,c7⟩:=AA M0 .done
 exact J0 false C6 (Tt G0 (Tt H0 (Tt I0 (Tt z0 (Tt A0 (Tt B0 (Tt C0 (Tt P0 (Tt Q0 c7))))))))) h
 refine Av<|Av<|Av<|Av<|Av<|Bp I I<|Ae I<|Av<|Av<|Bp I I<|Ae I<|Av<|Av<|Av<|Av<|Av<|Av<|Av<|Av<|Av<|Av<|Av<|Av<|Bp I I<|Ae I<|Av<|Av<|Av<|Av<|Av<|Av<|Av<|Av<|Av<|Av<|Av<|Bp I I<|Ae I<|Av<|Av<|Av<|Av<|Av<|Av<|Av<|Av<|Av<|Av<|Bp I I<|Ae I<|Av<|Av<|Av<|Av<|Av<|Av<|Av<|Av<|Av<|Av ?_
 refine Av<|Bp I I<|Ai I<|Aa ?_
 obtain ⟨D6,d7⟩:=AA E0 .done
 exact J0 false D6 (Tt G0 (Tt H0 (Tt I0 (Tt z0 (Tt A0 (Tt B0 (Tt C0 d7))))))) h
def bH_p (n:Nat) (a0:Ta):Oa ((List Tb) × Int):=
  (aq_p n ([]:List (List Tb)) ([a0]:List Ta)).bind fun b0=>(if b0 = 0 then (bO_p n (1:Int) (1:Int)).bind fun c0=>some (([(⟨a0,c0.1⟩:Tb)]:List Tb),(0:Int)) else some (([]:List Tb),b0))
theorem bH_c (n:Nat) {L w} (hL:hl L w) (a0:Ta)  {r:(List Tb) × Int} (h:bH_p n a0 = some r) :
 Cl 14 #[.agg ((aa a0)).toArray] w (ar w fun w' u=>∃ v0_0:Vc,u = .tuple #[v0_0,vI r.2]/\Rep.R w' L [v0_0] r.1):=by
 unfold bH_p at h
 refine AT func14 I I I fun _ cs0 hb0=>Af<|RG.bx (AS w) I I fun I0 z0 p0 C0=>Ai I<|Ai I<|Aa<|Ak<|Af<|Ab (AF I (p0.memA .hd))<|Am .plain I (AG (α:=Ta) (xs:=([a0]:List Ta)) (vs:=[.agg ((aa a0)).toArray]) (ds' :=(aa a0)) I p0 bq I (e1 I) (by kernel_rfl) I) fun J0 A0 c0 D0=>bk h fun q0 x0 h=>Bo (vI q0) (bd 63) I (e2 I I) (fun p q=>aq_c n (c0.hL0 hL q) (Ah (Rep.nilSlice _ _) q) (Ah (St.lend (α:=Ta) (L:=L) c0 .hd (AC (cs:=(aa a0)) (xs:=(([a0]:List Ta):List Ta)) c0 L (Ao (cs:=(aa a0)) (ds:=[]) (aG a0.fN a0.fD) (AH _ _))) hL) q) x0) I<|Ai I<|Aa<|Af<|Ae I<|Ab (BM (i:=q0) (j:=0) I I)<|Aa<|MX.ifn I h (fun s0 h=>?_) (fun s0 h=>?_)
 refine Ar<|Af<|bk h fun b0 y0 h=>Bo (.tuple #[.agg ((aa b0.1)).toArray,vI b0.2]) (bd 64) I (e2 I I) (fun p q=>bO_c n (c0.hL0 hL q)  y0) I<|Ae I<|Ab (Ac I I)<|Ab (Ac I I)<|RG.nl zL c0 fun K0 B0 t0 E0=>AQ (aa b0.1) t0 .hd (ak I) fun M0 g0 F0=>Ai I<|Aa<|Af<|Ab (AF I (g0.memA .t2))<|Ab (AF I (g0.memA .hd))<|Ab (AI (vs:=[.agg ((aa a0)).toArray,.agg ((aa b0.1)).toArray]) (u:=.agg ((aa a0 ++ aa b0.1)).toArray) (e2 I I) (fun p=>by kernel_rfl))<|Am .plain I (AG (α:=Tb) (xs:=([(⟨a0,b0.1⟩:Tb)]:List Tb)) (vs:=[.agg ((aa a0 ++ aa b0.1)).toArray]) (ds' :=(aa a0 ++ aa b0.1)) I g0 dq I (e1 I) (by kernel_rfl) I) fun P0 k0 d0 G0=>Ai I<|Ai I<|Aa<|Au I ?_
 have j0:=Bl d0 .hd
 have H0:=Bm d0 .hd
 have u0:=Bn (α:=Tb) (v:=(vS k0 1)) (xs:=([(⟨a0,b0.1⟩:Tb)]:List Tb)) j0 L (Ba (α:=Tb) d0 .hd (AC (cs:=(aa a0 ++ aa b0.1)) (xs:=(([(⟨a0,b0.1⟩:Tb)]:List Tb):List Tb)) d0 L (Ao (cs:=(aa a0 ++ aa b0.1)) (ds:=[]) (bg a0 b0.1) (AH _ _))) hL)
 refine Aq hb0 func14 I (.cons (.tmp I) (.cons (.tmp I) .nil)) I ?_
 cases h
 exact ⟨j0.ag,fun p q=>⟨(vS k0 1),I,j0.kd u0 q⟩⟩
 refine Af<|Ae I<|Ai I<|Ai I<|Aa<|Au I ?_
 have v0:=Bq (α:=Tb) c0 L
 refine Aq hb0 func14 I (.cons (.tmp I) (.cons (.tmp I) .nil)) I ?_
 cases h
 exact ⟨c0.ag,fun p q=>⟨vN,I,c0.kd v0 q⟩⟩
end Go.Proofs.YtkommhmbkbhmlaaGreat
