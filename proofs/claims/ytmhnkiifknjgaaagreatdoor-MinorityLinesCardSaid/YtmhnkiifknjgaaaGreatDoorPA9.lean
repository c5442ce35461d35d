import Derived.Test.YtmhnkiifknjgaaaGreatDoorPA6
namespace Go.Proofs.YtmhnkiifknjgaaaGreatDoor
open Go Go.RowKit Tryz
set_option maxRecDepth 4000
set_option maxHeartbeats 4000000

theorem el22:ElT Tryz.prog 22 5 (Rep.size UInt8) 1 (.int .u8 0) [.int .u8 0]:=⟨underlying22,by kernel_rfl,rfl,rfl,rfl,rfl⟩
def ak_l1 (n:Nat) (a0:Tk) (t0:Int) (d0:Nat × (La Int) -> Oa (La Int)):Nat × (La Int) -> Oa (La Int)
  | (b0,c0)=>(if b0 < ((a0.fm % (3:UInt8)).toNat) then (chk (9 * t0)).bind fun g0=>(chk (g0 + 7)).bind fun j0=>(chk (j0 + ((b0:Nat):Int))).bind fun k0=>(aW_p n a0 k0).bind fun s0=>(ci s0 3).bind fun p0=>(app c0 ([p0]:La Int)).bind fun q0=>d0 (b0 + 1,q0) else some c0)
def ak_l2 (_n:Nat) (a0:Tk) (d0:Nat × (La Tb) -> Oa (La Tb)):Nat × (La Tb) -> Oa (La Tb)
  | (b0,c0)=>(if b0 < ((a0.fp % (2:UInt8)).toNat) then (mk (((a0.fl % (3:UInt8)).toNat:Nat):Int) (0:Int)).bind fun g0=>(mk (((a0.fj % (4:UInt8)).toNat:Nat):Int) (0:Int)).bind fun j0=>(mk (((a0.fm % (3:UInt8)).toNat:Nat):Int) (0:Int)).bind fun k0=>(app c0 ([(⟨⟨#[115,101,97]⟩,(0:Int),g0,j0,k0,true⟩:Tb)]:La Tb)).bind fun p0=>d0 (b0 + 1,p0) else some c0)
def ak_l3 (n:Nat) (a1:Int) (a0:Tk) (g0:Int × (La Tb) -> Oa (La Tb)):Int × (La Tb) -> Oa (La Tb)
  | (b0,c0)=>(if b0 < a1 then (ci b0 26).bind fun j0=>(chk (97 + j0)).bind fun k0=>(cL b0 26).bind fun p0=>(ci p0 26).bind fun q0=>(chk (97 + q0)).bind fun s0=>(chk (9 * b0)).bind fun t0=>(aW_p n a0 t0).bind fun d0=>(kr ⟨#[117]⟩ (bstr ([aO k0,aO s0]:La UInt8))).bind fun u0=>(chk (9 * b0)).bind fun v0=>(chk (v0 + 1)).bind fun x0=>(aF_p n a0 (((a0.fl % (3:UInt8)).toNat:Nat):Int) x0 d0).bind fun D0=>(chk (9 * b0)).bind fun y0=>(chk (y0 + 3)).bind fun z0=>(aF_p n a0 (((a0.fj % (4:UInt8)).toNat:Nat):Int) z0 (255:Int)).bind fun E0=>Option.bind (au (ak_l1 n a0 b0) n (0,([]:La Int))) (fun B0=>(app c0 ([(⟨u0,d0,D0,E0,B0,false⟩:Tb)]:La Tb)).bind fun C0=>(chk (b0 + 1)).bind fun A0=>g0 (A0,C0)) else some c0)
def ak_p (n:Nat) (a0:Tk) (a1:Int):Oa Te:=
  Option.bind (au (ak_l3 n a1 a0) n (0,([]:La Tb))) (fun c0=>Option.bind (au (ak_l2 n a0) n (0,c0)) (fun b0=>some (⟨(((a0.fl % (3:UInt8)).toNat:Nat):Int),(((a0.fj % (4:UInt8)).toNat:Nat):Int),(((a0.fm % (3:UInt8)).toNat:Nat):Int),b0⟩:Te)))
theorem ak_c (n:Nat) {L w} (hL:hl L w) (a0:Tk) {v0_4:Vc} (h0_4:Rep.R w L [v0_4] a0.fNums) {a1:Int}  {r:Te} (h:ak_p n a0 a1 = some r) :
 Cl 7 #[.agg #[.int .u8 (a0.fl.toNat:Int),.int .u8 (a0.fj.toNat:Int),.int .u8 (a0.fm.toNat:Int),.int .u8 (a0.fp.toNat:Int),v0_4],vI a1] w (aj w fun w' u=>∃ (v0_3:Vc) (cs0_3:La Vc),u = .agg #[vI r.fl,vI r.fj,vI r.fm,v0_3]/\St w w' (aU w.heap.size [(36,Rep.size Tb,v0_3,r.fv.length,cs0_3)])/\Cells w' (bl (aU w.heap.size [(36,Rep.size Tb,v0_3,r.fv.length,cs0_3)]) ++ L) cs0_3 (r.fv:La Tb)):=by
 unfold ak_p at h
 refine AK func7 I I I fun _ cs0 hb0=>Ac<|RG.bx (AD w) I I fun p8 t0 H4 I7=>RG.nl [vI 0,vI 0,vI 0,vN] H4 fun x8 u0 W1 J7=>Aa<|Ac<|Ba 0 I<|AY I ((W1.memA .t1) 0 _ I)<|Ab (FV.rem8 (a:=a0.fl) (b:=(3:UInt8)) I I (by decide)) ?_
 have U7:=(a0.fl % (3:UInt8)).toNat_lt
 refine Ab (FV.convN (i:=(a0.fl % (3:UInt8)).toNat) underlying5 underlying3 I (by omega))<|Ba 1 I<|AY I ((W1.memA .t1) 1 _ I)<|Ab (FV.rem8 (a:=a0.fj) (b:=(4:UInt8)) I I (by decide)) ?_
 have V7:=(a0.fj % (4:UInt8)).toNat_lt
 refine Ab (FV.convN (i:=(a0.fj % (4:UInt8)).toNat) underlying5 underlying3 I (by omega))<|Ba 2 I<|AY I ((W1.memA .t1) 2 _ I)<|Ab (FV.rem8 (a:=a0.fm) (b:=(3:UInt8)) I I (by decide)) ?_
 have W7:=(a0.fm % (3:UInt8)).toNat_lt
 refine Ab (FV.convN (i:=(a0.fm % (3:UInt8)).toNat) underlying5 underlying3 I (by omega))<|Ab (AP (vs:=[vI (((a0.fl % (3:UInt8)).toNat:Nat):Int),vI (((a0.fj % (4:UInt8)).toNat:Nat):Int),vI (((a0.fm % (3:UInt8)).toNat:Nat):Int)]) (u:=.agg #[vI (((a0.fl % (3:UInt8)).toNat:Nat):Int),vI (((a0.fj % (4:UInt8)).toNat:Nat):Int),vI (((a0.fm % (3:UInt8)).toNat:Nat):Int),vN]) (e3 I I I) (fun p=>by kernel_rfl))<|RG.nl [vI 0,vI 0,vI 0,vN] W1 fun y8 v0 I4 K7=>AW [vI (((a0.fl % (3:UInt8)).toNat:Nat):Int),vI (((a0.fj % (4:UInt8)).toNat:Nat):Int),vI (((a0.fm % (3:UInt8)).toNat:Nat):Int),vN] I4 .hd (ai I) fun z8 g3 M7=>Aa<|Aj<|Ac<|Ag I<|Aa<|AF ?_
 have y2:=g3.nilRow 36 (Rep.size Tb)
 have P7:=St.nilRowT g3 36 (Rep.size Tb)
 have j3:=y2.nilRow 36 (Rep.size Tb)
 have Q7:=AJ (cs:=[]) (xs:=([]:La Tb)) j3 L (AR _ _)
 obtain ⟨Y7,P5,J5⟩:=av h
 refine MX.lf (α:=Int × (La Tb) × Vc × (La Vc)) (fun ⟨z0,Y0,y0,Z0⟩=>[(1,vI a1),(2,vP t0),(4,vP u0),(5,vP v0),(6,vI z0)]) (fun ⟨z0,Y0,y0,Z0⟩=>[rr w 36 Tb vN (([]:La Tb).length) [],rr w 36 Tb y0 Y0.length Z0,.cells v0 [vI (((a0.fl % (3:UInt8)).toNat:Nat):Int),vI (((a0.fj % (4:UInt8)).toNat:Nat):Int),vI (((a0.fm % (3:UInt8)).toNat:Nat):Int),y0] 31,.cells u0 [vI 0,vI 0,vI 0,vN] 31,.cells t0 [.int .u8 (a0.fl.toNat:Int),.int .u8 (a0.fj.toNat:Int),.int .u8 (a0.fm.toNat:Int),.int .u8 (a0.fp.toNat:Int),v0_4] 24]) (fun ⟨z0,Y0,y0,Z0⟩ c4=>Cells c4 (bl [rr w 36 Tb vN (([]:La Tb).length) [],rr w 36 Tb y0 Y0.length Z0,.cells v0 [vI (((a0.fl % (3:UInt8)).toNat:Nat):Int),vI (((a0.fj % (4:UInt8)).toNat:Nat):Int),vI (((a0.fm % (3:UInt8)).toNat:Nat):Int),y0] 31,.cells u0 [vI 0,vI 0,vI 0,vN] 31,.cells t0 [.int .u8 (a0.fl.toNat:Int),.int .u8 (a0.fj.toNat:Int),.int .u8 (a0.fm.toNat:Int),.int .u8 (a0.fp.toNat:Int),v0_4] 24] ++ L) Z0 Y0) (fun ⟨z0,Y0,y0,Z0⟩=>(z0,Y0)) (0,([]:La Tb),vN,[]) P5 j3 (AG (AJ (cs:=[]) (xs:=([]:La Tb)) y2 L (AR _ _)) (St.nilRowT y2 36 (Rep.size Tb))) ?_
 rintro t7 ⟨z0,Y0,y0,Z0⟩ c4 y4 I1 d5 E3 h
 unfold ak_l3 at h
 try dsimp only at h
 refine Aj<|Ac<|Ae I<|Ae I<|Ab (FV.lss (i:=z0) (j:=a1) I I)<|Aa<|Be I h (fun p4 h=>?_) (fun p4 h=>?_)
 refine Az<|Aj<|AF<|Aj<|du 18 fun c0 q0=>Rv 0 c0 I q0 (fun _=>Ak I)<|bk h fun H6 R5 h=>Rv 1 c0 I q0 (fun _=>FV.remc (i:=z0) (j:=26) I I R5)<|bk h fun D0 U5 h=>Rv 2 c0 I q0 (fun _=>BR (i:=97) (j:=H6) I I U5)<|Rv 3 c0 I q0 (fun _=>FV.convU8 (i:=D0) underlying3 underlying5 I)<|Rv 4 c0 I q0 (fun _=>Ak I)<|bk h fun I6 V5 h=>Rv 5 c0 I q0 (fun _=>FV.quoc (i:=z0) (j:=26) I I V5)<|bk h fun J6 W5 h=>Rv 6 c0 I q0 (fun _=>FV.remc (i:=I6) (j:=26) I I W5)<|bk h fun s0 X5 h=>Rv 7 c0 I q0 (fun _=>BR (i:=97) (j:=J6) I I X5)<|Rv 8 c0 I q0 (fun _=>FV.convU8 (i:=s0) underlying3 underlying5 I)<|Rx 12 360448 c0 I q0 (AC I (I1.memA .t4))<|Rv 13 c0 I q0 (fun _=>Ak I)<|bk h fun b8 Y5 h=>Rv 14 c0 I q0 (fun _=>FV.mulc (i:=9) (j:=z0) I I Y5)<|bk h fun g0 D6 h=>BQ 15 61951 327680 (vI g0) c0 I q0 (bd 21) I (e2 I I) (fun p q=>aW_c n (I1.hL0 hL q) a0 (I1.k0 h0_4 q) D6) I<|bk h fun j0 Z3 h=>BH (α:=Nat) (fun G1=>[(1,vI a1),(2,vP t0),(4,vP u0),(5,vP v0),(6,vI z0),(44,.agg #[.string j0,vI g0,vN,vN,vN,.bool false]),(7,vP G1)]) (fun G1=>[.cells G1 [.string ⟨#[]⟩,vI 0,vN,vN,vN,.bool false] 36,rr w 36 Tb vN (([]:La Tb).length) [],rr w 36 Tb y0 Y0.length Z0,.cells v0 [vI (((a0.fl % (3:UInt8)).toNat:Nat):Int),vI (((a0.fj % (4:UInt8)).toNat:Nat):Int),vI (((a0.fm % (3:UInt8)).toNat:Nat):Int),y0] 31,.cells u0 [vI 0,vI 0,vI 0,vN] 31,.cells t0 [.int .u8 (a0.fl.toNat:Int),.int .u8 (a0.fj.toNat:Int),.int .u8 (a0.fm.toNat:Int),.int .u8 (a0.fp.toNat:Int),v0_4] 24]) I1 1 262143 ?_ ?_
 rintro G1 M8 J4 g5
 try dsimp only
 refine Bv 18 524287 c0 I I .plain (Ax (news:=[.string j0,vI g0,vN,vN,vN,.bool false]) J4 .hd I I I I I I (ai I)) fun A8 Q1 j5=>AO (dk c0)<|Ac<|Ab (AC I (Q1.memA .t5))<|Ba 0 I<|AY I ((Q1.memA .t3) 0 _ I)<|Ae I<|bk h fun K6 Z5 h=>Ab (FV.mulc (i:=9) (j:=z0) I I Z5)<|bk h fun c8 b6 h=>Ab (BR (i:=K6) (j:=1) I I b6)<|Ba 1 I<|AY I ((Q1.memA .hd) 1 _ I)<|bk h fun q2 E6 h=>jE (bd 22) I (e4 I I I I) (fun p q=>aF_c n (Q1.hL hL q) a0 (Q1.km h0_4 q) E6) I fun B8 W0 v5 ⟨j8,hu_,b2⟩=>?_
 subst hu_
 obtain ⟨K4,k5⟩:=Q1.agr v5
 refine Ba 2 I<|BU .plain (Bs (j:=2) (old:=[.string j0,vI g0,vN,vN,vN,.bool false]) (news:=[W0]) (new' :=[.string j0,vI g0,W0,vN,vN,.bool false]) K4 .hd I I I (Rep.c1 b2) I I (o1 (AX b2)) I) fun C8 R1 v3=>Aa<|Ac<|Ab (AC I (R1.memA .t5))<|Ba 1 I<|AY I ((R1.memA .t3) 1 _ I)<|Ae I<|bk h fun M6 c6 h=>Ab (FV.mulc (i:=9) (j:=z0) I I c6)<|bk h fun d8 d6 h=>Ab (BR (i:=M6) (j:=3) I I d6)<|bk h fun s2 F6 h=>jE (bd 22) I (e4 I I I I) (fun p q=>aF_c n (R1.hL hL q) a0 (R1.km h0_4 q) F6) I fun D8 A1 x5 ⟨k8,hu_,c2⟩=>?_
 subst hu_
 obtain ⟨M4,x3⟩:=R1.agr x5
 refine Ba 3 I<|BU .plain (Bs (j:=3) (old:=[.string j0,vI g0,W0,vN,vN,.bool false]) (news:=[A1]) (new' :=[.string j0,vI g0,W0,A1,vN,.bool false]) M4 .hd I I I (Rep.c1 c2) I I (o1 (AX c2)) I) fun E8 k3 R2=>Aa<|Aj<|Ac<|Ag I<|Aa<|AF ?_
 have p3:=k3.nilRow 3 (Rep.size Int)
 have U2:=St.nilRowT k3 3 (Rep.size Int)
 obtain ⟨Z7,Q5,K5⟩:=av h
 refine MX.lf (α:=Nat × (La Int) × Vc × (La Vc)) (fun ⟨y1,Q0,K0,H1⟩=>[(1,vI a1),(2,vP t0),(4,vP u0),(5,vP v0),(6,vI z0),(7,vP G1),(8,vn y1)]) (fun ⟨y1,Q0,K0,H1⟩=>[rr w 3 Int K0 Q0.length H1,.cells G1 [.string j0,vI g0,W0,A1,K0,.bool false] 36,rr w 36 Tb vN (([]:La Tb).length) [],rr w 36 Tb y0 Y0.length Z0,.cells v0 [vI (((a0.fl % (3:UInt8)).toNat:Nat):Int),vI (((a0.fj % (4:UInt8)).toNat:Nat):Int),vI (((a0.fm % (3:UInt8)).toNat:Nat):Int),y0] 31,.cells u0 [vI 0,vI 0,vI 0,vN] 31,.cells t0 [.int .u8 (a0.fl.toNat:Int),.int .u8 (a0.fj.toNat:Int),.int .u8 (a0.fm.toNat:Int),.int .u8 (a0.fp.toNat:Int),v0_4] 24]) (fun ⟨y1,Q0,K0,H1⟩ d4=>Cells d4 (bl [rr w 3 Int K0 Q0.length H1,.cells G1 [.string j0,vI g0,W0,A1,K0,.bool false] 36,rr w 36 Tb vN (([]:La Tb).length) [],rr w 36 Tb y0 Y0.length Z0,.cells v0 [vI (((a0.fl % (3:UInt8)).toNat:Nat):Int),vI (((a0.fj % (4:UInt8)).toNat:Nat):Int),vI (((a0.fm % (3:UInt8)).toNat:Nat):Int),y0] 31,.cells u0 [vI 0,vI 0,vI 0,vN] 31,.cells t0 [.int .u8 (a0.fl.toNat:Int),.int .u8 (a0.fj.toNat:Int),.int .u8 (a0.fm.toNat:Int),.int .u8 (a0.fp.toNat:Int),v0_4] 24] ++ L) H1 Q0) (fun ⟨y1,Q0,K0,H1⟩=>(y1,Q0)) (0,([]:La Int),vN,[]) Q5 p3 (AJ (cs:=[]) (xs:=([]:La Int)) p3 L (AR _ _)) ?_
 rintro u7 ⟨y1,Q0,K0,H1⟩ d4 z4 b1 Y1 F3 h
 unfold ak_l1 at h
 try dsimp only at h
 refine Aj<|Ac<|Ae I<|Ba 2 I<|AY I ((b1.memA .t4) 2 _ I)<|Ab (BD (i:=y1) (j:=(a0.fm % (3:UInt8)).toNat) I I)<|Aa<|Be I h (fun q4 h=>?_) (fun q4 h=>?_)
 refine Az<|Aj<|AF<|du 11 fun x0 g1=>Rv 0 x0 I g1 (fun _=>AS 4 I)<|Rx 1 14336 x0 I g1 (AN I ((b1.memA .t1) 4 _ I))<|Rx 2 16128 x0 I g1 (AC I (b1.memA .t6))<|Rv 3 x0 I g1 (fun _=>Ak I)<|bk h fun P6 g6 h=>Rv 4 x0 I g1 (fun _=>FV.mulc (i:=9) (j:=z0) I I g6)<|bk h fun Q6 j6 h=>Rv 5 x0 I g1 (fun _=>BR (i:=P6) (j:=7) I I j6)<|Rv 6 x0 I g1 (fun _=>Ak I)<|bk h fun g8 k6 h=>Rv 7 x0 I g1 (fun _=>BR (i:=Q6) (j:=((y1:Nat):Int)) I I k6)<|bk h fun g4 G6 h=>BQ 8 511 15872 (vI g4) x0 I g1 (bd 21) I (e2 I I) (fun p q=>aW_c n (b1.hL0 hL q) a0 (b1.k0 h0_4 q) G6) I<|bk h fun K1 p6 h=>Rv 9 x0 I g1 (fun _=>FV.remc (i:=g4) (j:=3) I I p6)<|Ca 10 2047 x0 I .plain I (jA K1 (vI K1) b1 aA (e1 I)) fun F8 x7 A2 y3=>bk h fun X6 B6 h=>AT (i:=11) (rk x0) (BW (m' :=4095) (sk x0) I I .plain I (BB (α:=Int) (ys:=([K1]:La Int)) B6 A2 (fun _ _=>.t1) aA I I (AG F3 y3) (Src.row (α:=Int) A2 .hd (jC K1 (vI K1) A2 L I))) (fun X2 G8 ⟨u4,B2,p5,D5⟩=>?_))
 refine Rv 12 x0 I g1 (fun _=>AS 4 I)<|Bv 13 16383 x0 I I .plain (Bs (j:=4) (old:=[.string j0,vI g0,W0,A1,K0,.bool false]) (news:=[X2]) (new' :=[.string j0,vI g0,W0,A1,X2,.bool false]) B2 .t2 I I I (St.c1 (α:=Int) B2 .t1) I I (o1 (St.o1 (α:=Int) B2 .t1)) I) fun H8 P4 z3=>AO (dk x0)<|AI<|Av<|Ae I<|Ab (Bu (i:=y1) (j:=1) I I (by omega))<|Ag I<|Aa ?_
 obtain ⟨Q4,A3⟩:=Am P4 .d1
 exact z4 (y1 + 1,X6,X2,u4) Q4 (Tt Y1 (Tt y3 (Tt p5 (Tt z3 A3)))) (AG D5 (Tt z3 A3)) h
 refine Bj I ?_
 have h:=K5 _ h
 try dsimp only at h
 refine Av<|Ba 3 I<|AY I ((b1.memA .t4) 3 _ I)<|Ab (AC I (b1.memA .t1)) ?_
 have q3:=BI b1 .hd
 have V2:=BJ b1 .hd
 have Y3:=BK (α:=Int) (v:=K0) (xs:=Q0) q3 L (Bl (α:=Int) b1 .hd F3 hL)
 have Q3:=Tt v3 (Tt x3 (Tt R2 (Tt U2 (Tt Y1 V2))))
 have R3:=Tt R2 (Tt U2 (Tt Y1 V2))
 obtain ⟨k7,F7,x6,_⟩:=Rep.sl (Ap b2 Q3)
 obtain ⟨p7,G7,y6,_⟩:=Rep.sl (Ap c2 R3)
 obtain ⟨q7,H7,z6,_⟩:=Rep.sl Y3
 refine Ah .plain I (AU (α:=Tb) (xs:=([(⟨j0,g0,q2,s2,Q0,false⟩:Tb)]:La Tb)) (vs:=[.agg #[.string j0,vI g0,W0,A1,K0,.bool false]]) (ds' :=[.string j0,vI g0,W0,A1,K0,.bool false]) I q3 fS I (e1 I) (by rw [x6,y6,z6]; try kernel_rfl) I) fun I8 y7 C2 Z1=>bk h fun Y6 C6 h=>?_
 have U3:=Tt g5 (Tt j5 (Tt k5 (Tt v3 (Tt x3 (Tt R2 (Tt U2 (Tt Y1 (Tt V2 Z1))))))))
 refine RG.doesL .plain I (BB (α:=Tb) (ys:=([(⟨j0,g0,q2,s2,Q0,false⟩:Tb)]:La Tb)) C6 C2 (fun _ _=>.t3) fS I I (AG E3 U3) (Src.row (α:=Tb) C2 .hd (AJ (cs:=[.string j0,vI g0,W0,A1,K0,.bool false]) (xs:=(([(⟨j0,g0,q2,s2,Q0,false⟩:Tb)]:La Tb):La Tb)) C2 L (AB (cs:=[.string j0,vI g0,W0,A1,K0,.bool false]) (ds:=[]) (cb j0 g0 q2 (Ap b2 (Tt Q3 Z1)) s2 (Ap c2 (Tt R3 Z1)) Q0 (Ap Y3 Z1) false) (AR _ _))))) fun Y2 J8 ⟨v4,D2,q5,E5⟩=>Ba 3 I<|BU .plain (Bs (j:=3) (old:=[vI (((a0.fl % (3:UInt8)).toNat:Nat):Int),vI (((a0.fj % (4:UInt8)).toNat:Nat):Int),vI (((a0.fm % (3:UInt8)).toNat:Nat):Int),y0]) (news:=[Y2]) (new' :=[vI (((a0.fl % (3:UInt8)).toNat:Nat):Int),vI (((a0.fj % (4:UInt8)).toNat:Nat):Int),vI (((a0.fm % (3:UInt8)).toNat:Nat):Int),Y2]) D2 .t4 I I I (St.c1 (α:=Tb) D2 .t3) I I (o1 (St.o1 (α:=Tb) D2 .t3)) I) fun K8 R4 B3=>Aa<|AI<|Av<|Ae I<|bk h fun R6 q6 h=>Ab (BR (i:=z0) (j:=1) I I q6)<|Ag I<|Aa ?_
 obtain ⟨U4,C3⟩:=Am R4 .d2
 exact y4 (R6,Y6,Y2,v4) U4 (Tt d5 (Tt U3 (Tt q5 (Tt B3 C3)))) (AG E5 (Tt B3 C3)) h
 intro Z2
 refine AM [9,17] (rk c0) ⟨?_,?_,trivial⟩
 refine Bf (m' :=62463) (sk c0) I .plain I (AU (α:=UInt8) (xs:=([aO D0,aO s0]:La UInt8)) (vs:=[.int .u8 ((aO D0).toNat:Int),.int .u8 ((aO s0).toNat:Int)]) (ds' :=[.int .u8 ((aO D0).toNat:Int),.int .u8 ((aO s0).toNat:Int)]) I I1 el22 I (e2 I I) (by kernel_rfl) I) fun U6 j4 J1 P2=>?_
 have C5:=AJ (cs:=[.int .u8 ((aO D0).toNat:Int),.int .u8 ((aO s0).toNat:Int)]) (xs:=(([aO D0,aO s0]:La UInt8):La UInt8)) J1 L (AB (cs:=[.int .u8 ((aO D0).toNat:Int)]) (ds:=[.int .u8 ((aO s0).toNat:Int)]) I (AB (cs:=[.int .u8 ((aO s0).toNat:Int)]) (ds:=[]) I (AR _ _)))
 refine Rx 10 329728 c0 I q0 (FV.bytesS (xs:=([aO D0,aO s0]:La UInt8)) underlying22 underlying9 underlying5 I (Src.row (α:=UInt8) J1 .hd C5))<|Rv 11 c0 I q0 (fun _=>FV.addS Z3 I I)<|Rv 16 c0 I q0 (fun _=>AP (vs:=[.string j0,vI g0]) (u:=.agg #[.string j0,vI g0,vN,vN,vN,.bool false]) (e2 I I) (fun p=>by kernel_rfl))<|Ca 17 262143 c0 I .plain I (Al [.string ⟨#[]⟩,vI 0,vN,vN,vN,.bool false] J1) fun V6 u2 z2 Q2=>?_
 obtain ⟨V4,s5⟩:=Am z2 (.a0 .d1)
 exact Z2 u2 V4 (Tt P2 (Tt Q2 s5))
 refine Bf (m' :=193023) (sk c0) I .plain I (Al [.string ⟨#[]⟩,vI 0,vN,vN,vN,.bool false] I1) fun V6 u2 z2 Q2=>Ca 9 193535 c0 I .plain I (AU (α:=UInt8) (xs:=([aO D0,aO s0]:La UInt8)) (vs:=[.int .u8 ((aO D0).toNat:Int),.int .u8 ((aO s0).toNat:Int)]) (ds' :=[.int .u8 ((aO D0).toNat:Int),.int .u8 ((aO s0).toNat:Int)]) I z2 el22 I (e2 I I) (by kernel_rfl) I) fun U6 j4 J1 P2=>Rx 10 329728 c0 I q0 (FV.bytesS (xs:=([aO D0,aO s0]:La UInt8)) underlying22 underlying9 underlying5 I (Src.row (α:=UInt8) J1 .hd (AJ (cs:=[.int .u8 ((aO D0).toNat:Int),.int .u8 ((aO s0).toNat:Int)]) (xs:=(([aO D0,aO s0]:La UInt8):La UInt8)) J1 L (AB (cs:=[.int .u8 ((aO D0).toNat:Int)]) (ds:=[.int .u8 ((aO s0).toNat:Int)]) I (AB (cs:=[.int .u8 ((aO s0).toNat:Int)]) (ds:=[]) I (AR _ _))))))<|Rv 11 c0 I q0 (fun _=>FV.addS Z3 I I)<|Rv 16 c0 I q0 (fun _=>AP (vs:=[.string j0,vI g0]) (u:=.agg #[.string j0,vI g0,vN,vN,vN,.bool false]) (e2 I I) (fun p=>by kernel_rfl)) ?_
 obtain ⟨W4,u5⟩:=Am J1 .d1
 exact Z2 u2 W4 (Tt Q2 (Tt P2 u5))
 refine Bj I ?_
 have h:=J5 _ h
 try dsimp only at h
 refine Aj<|Ac<|Ag I<|Aa<|AF ?_
 obtain ⟨X7,M5,I5⟩:=av h
 refine MX.lf (α:=Nat × (La Tb) × Vc × (La Vc)) (fun ⟨x1,X0,p0,R0⟩=>[(2,vP t0),(4,vP u0),(5,vP v0),(9,vn x1)]) (fun ⟨x1,X0,p0,R0⟩=>[rr w 36 Tb vN (([]:La Tb).length) [],rr w 36 Tb p0 X0.length R0,.cells v0 [vI (((a0.fl % (3:UInt8)).toNat:Nat):Int),vI (((a0.fj % (4:UInt8)).toNat:Nat):Int),vI (((a0.fm % (3:UInt8)).toNat:Nat):Int),p0] 31,.cells u0 [vI 0,vI 0,vI 0,vN] 31,.cells t0 [.int .u8 (a0.fl.toNat:Int),.int .u8 (a0.fj.toNat:Int),.int .u8 (a0.fm.toNat:Int),.int .u8 (a0.fp.toNat:Int),v0_4] 24]) (fun ⟨x1,X0,p0,R0⟩ b4=>Cells b4 (bl [rr w 36 Tb vN (([]:La Tb).length) [],rr w 36 Tb p0 X0.length R0,.cells v0 [vI (((a0.fl % (3:UInt8)).toNat:Nat):Int),vI (((a0.fj % (4:UInt8)).toNat:Nat):Int),vI (((a0.fm % (3:UInt8)).toNat:Nat):Int),p0] 31,.cells u0 [vI 0,vI 0,vI 0,vN] 31,.cells t0 [.int .u8 (a0.fl.toNat:Int),.int .u8 (a0.fj.toNat:Int),.int .u8 (a0.fm.toNat:Int),.int .u8 (a0.fp.toNat:Int),v0_4] 24] ++ L) R0 X0) (fun ⟨x1,X0,p0,R0⟩=>(x1,X0)) (0,Y0,y0,Z0) M5 I1 E3 ?_
 rintro s7 ⟨x1,X0,p0,R0⟩ b4 x4 U0 X4 D3 h
 unfold ak_l2 at h
 try dsimp only at h
 refine Aj<|Ac<|Ae I<|Ba 3 I<|AY I ((U0.memA .t4) 3 _ I)<|Ab (FV.rem8 (a:=a0.fp) (b:=(2:UInt8)) I I (by decide)) ?_
 have R7:=(a0.fp % (2:UInt8)).toNat_lt
 refine Ab (FV.convN (i:=(a0.fp % (2:UInt8)).toNat) underlying5 underlying3 I (by omega))<|Ab (BD (i:=x1) (j:=(a0.fp % (2:UInt8)).toNat) I I)<|Aa<|Be I h (fun k4 h=>?_) (fun k4 h=>?_)
 refine Az<|Aj<|AF<|du 13 fun b0 z1=>Rv 0 b0 I z1 (fun _=>AS 3 I)<|Rx 1 57344 b0 I z1 (AN I ((U0.memA .t2) 3 _ I))<|Rv 2 b0 I z1 (fun _=>AS 0 I)<|Rx 3 63504 b0 I z1 (AN I ((U0.memA .t2) 0 _ I))<|Rv 5 b0 I z1 (fun _=>AS 1 I)<|Rx 6 63616 b0 I z1 (AN I ((U0.memA .t2) 1 _ I))<|Rv 8 b0 I z1 (fun _=>AS 2 I)<|Rx 9 64512 b0 I z1 (AN I ((U0.memA .t2) 2 _ I))<|bk h fun H0 s1 h=>bk h fun I0 u1 h=>bk h fun J0 v1 h=>RD.mf (α:=Vc × (La Vc) × Vc × (La Vc) × Vc × (La Vc)) (fun ⟨E0,B1,F0,C1,G0,D1⟩=>[(2,vP t0),(4,vP u0),(5,vP v0),(9,vn x1),(97,p0),(100,G0),(103,F0),(106,E0)]) (fun ⟨E0,B1,F0,C1,G0,D1⟩=>[rr w 3 Int E0 J0.length B1,rr w 3 Int F0 I0.length C1,rr w 3 Int G0 H0.length D1,rr w 36 Tb vN (([]:La Tb).length) [],rr w 36 Tb p0 X0.length R0,.cells v0 [vI (((a0.fl % (3:UInt8)).toNat:Nat):Int),vI (((a0.fj % (4:UInt8)).toNat:Nat):Int),vI (((a0.fm % (3:UInt8)).toNat:Nat):Int),p0] 31,.cells u0 [vI 0,vI 0,vI 0,vN] 31,.cells t0 [.int .u8 (a0.fl.toNat:Int),.int .u8 (a0.fj.toNat:Int),.int .u8 (a0.fm.toNat:Int),.int .u8 (a0.fp.toNat:Int),v0_4] 24]) (fun ⟨E0,B1,F0,C1,G0,D1⟩ p2=>Cells p2 (bl [rr w 3 Int E0 J0.length B1,rr w 3 Int F0 I0.length C1,rr w 3 Int G0 H0.length D1,rr w 36 Tb vN (([]:La Tb).length) [],rr w 36 Tb p0 X0.length R0,.cells v0 [vI (((a0.fl % (3:UInt8)).toNat:Nat):Int),vI (((a0.fj % (4:UInt8)).toNat:Nat):Int),vI (((a0.fm % (3:UInt8)).toNat:Nat):Int),p0] 31,.cells u0 [vI 0,vI 0,vI 0,vN] 31,.cells t0 [.int .u8 (a0.fl.toNat:Int),.int .u8 (a0.fj.toNat:Int),.int .u8 (a0.fm.toNat:Int),.int .u8 (a0.fp.toNat:Int),v0_4] 24] ++ L) B1 (J0:La Int)/\Cells p2 (bl [rr w 3 Int E0 J0.length B1,rr w 3 Int F0 I0.length C1,rr w 3 Int G0 H0.length D1,rr w 36 Tb vN (([]:La Tb).length) [],rr w 36 Tb p0 X0.length R0,.cells v0 [vI (((a0.fl % (3:UInt8)).toNat:Nat):Int),vI (((a0.fj % (4:UInt8)).toNat:Nat):Int),vI (((a0.fm % (3:UInt8)).toNat:Nat):Int),p0] 31,.cells u0 [vI 0,vI 0,vI 0,vN] 31,.cells t0 [.int .u8 (a0.fl.toNat:Int),.int .u8 (a0.fj.toNat:Int),.int .u8 (a0.fm.toNat:Int),.int .u8 (a0.fp.toNat:Int),v0_4] 24] ++ L) C1 (I0:La Int)/\Cells p2 (bl [rr w 3 Int E0 J0.length B1,rr w 3 Int F0 I0.length C1,rr w 3 Int G0 H0.length D1,rr w 36 Tb vN (([]:La Tb).length) [],rr w 36 Tb p0 X0.length R0,.cells v0 [vI (((a0.fl % (3:UInt8)).toNat:Nat):Int),vI (((a0.fj % (4:UInt8)).toNat:Nat):Int),vI (((a0.fm % (3:UInt8)).toNat:Nat):Int),p0] 31,.cells u0 [vI 0,vI 0,vI 0,vN] 31,.cells t0 [.int .u8 (a0.fl.toNat:Int),.int .u8 (a0.fj.toNat:Int),.int .u8 (a0.fm.toNat:Int),.int .u8 (a0.fp.toNat:Int),v0_4] 24] ++ L) D1 (H0:La Int)) U0 5 2047 ?_ ?_
 rintro ⟨E0,B1,F0,C1,G0,D1⟩ p2 P1 Y4 ⟨y5,z5,A5⟩
 try dsimp only
 obtain ⟨Z6,z7,F5⟩:=St.rowV (α:=Int) P1 .t2
 obtain ⟨b7,A7,G5⟩:=St.rowV (α:=Int) P1 .t1
 obtain ⟨c7,B7,H5⟩:=St.rowV (α:=Int) P1 .hd
 refine Rv 11 b0 I z1 (fun _=>AP (vs:=[.string ⟨#[115,101,97]⟩,.bool true,G0,F0,E0]) (u:=.agg #[.string ⟨#[115,101,97]⟩,vI 0,G0,F0,E0,.bool true]) (e5 I I I I I) (fun p=>by rw [F5,G5,H5]; try kernel_rfl)) ?_
 have U1:=BI P1 .t2
 have E2:=BJ P1 .t2
 have V3:=BK (α:=Int) (v:=G0) (xs:=H0) U1 L (Bl (α:=Int) P1 .t2 A5 hL)
 have V1:=BI U1 .t1
 have F2:=BJ U1 .t1
 have W3:=BK (α:=Int) (v:=F0) (xs:=I0) V1 L (Bl (α:=Int) U1 .t1 (AG z5 E2) hL)
 have b3:=BI V1 .hd
 have X1:=BJ V1 .hd
 have X3:=BK (α:=Int) (v:=E0) (xs:=J0) b3 L (Bl (α:=Int) V1 .hd (AG y5 (Tt E2 F2)) hL)
 obtain ⟨d7,C7,s6,_⟩:=Rep.sl (Ap V3 (Tt F2 X1))
 obtain ⟨g7,D7,u6,_⟩:=Rep.sl (Ap W3 X1)
 obtain ⟨j7,E7,v6,_⟩:=Rep.sl X3
 refine Ca 12 8191 b0 I .plain I (AU (α:=Tb) (xs:=([(⟨⟨#[115,101,97]⟩,(0:Int),H0,I0,J0,true⟩:Tb)]:La Tb)) (vs:=[.agg #[.string ⟨#[115,101,97]⟩,vI 0,G0,F0,E0,.bool true]]) (ds' :=[.string ⟨#[115,101,97]⟩,vI 0,G0,F0,E0,.bool true]) I b3 fS I (e1 I) (by rw [s6,u6,v6]; try kernel_rfl) I) fun q8 v7 v2 G2=>?_
 have G3:=Tt F2 (Tt X1 G2)
 refine bk h fun W6 A6 h=>?_
 have H3:=Tt Y4 (Tt E2 G3)
 refine AT (i:=13) (rk b0) (BW (m' :=16383) (sk b0) I I .plain I (BB (α:=Tb) (ys:=([(⟨⟨#[115,101,97]⟩,(0:Int),H0,I0,J0,true⟩:Tb)]:La Tb)) A6 v2 (fun _ _=>.t2) fS I I (AG D3 H3) (Src.row (α:=Tb) v2 .hd (AJ (cs:=[.string ⟨#[115,101,97]⟩,vI 0,G0,F0,E0,.bool true]) (xs:=(([(⟨⟨#[115,101,97]⟩,(0:Int),H0,I0,J0,true⟩:Tb)]:La Tb):La Tb)) v2 L (AB (cs:=[.string ⟨#[115,101,97]⟩,vI 0,G0,F0,E0,.bool true]) (ds:=[]) (cb ⟨#[115,101,97]⟩ (0:Int) H0 (Ap V3 G3) I0 (Ap W3 (Tt X1 G2)) J0 (Ap X3 G2) true) (AR _ _))))) (fun W2 s8 ⟨s4,x2,Z4,B5⟩=>?_))
 refine Rv 14 b0 I z1 (fun _=>AS 3 I)<|Bv 15 65535 b0 I I .plain (Bs (j:=3) (old:=[vI (((a0.fl % (3:UInt8)).toNat:Nat):Int),vI (((a0.fj % (4:UInt8)).toNat:Nat):Int),vI (((a0.fm % (3:UInt8)).toNat:Nat):Int),p0]) (news:=[W2]) (new' :=[vI (((a0.fl % (3:UInt8)).toNat:Nat):Int),vI (((a0.fj % (4:UInt8)).toNat:Nat):Int),vI (((a0.fm % (3:UInt8)).toNat:Nat):Int),W2]) x2 .t3 I I I (St.c1 (α:=Tb) x2 .t2) I I (o1 (St.o1 (α:=Tb) x2 .t2)) I) fun t8 A4 s3=>AO (dk b0)<|AI<|Av<|Ae I<|Ab (Bu (i:=x1) (j:=1) I I (by omega))<|Ag I<|Aa ?_
 obtain ⟨B4,u3⟩:=Am A4 .d1
 exact x4 (x1 + 1,W6,W2,s4) B4 (Tt X4 (Tt H3 (Tt Z4 (Tt s3 u3)))) (AG B5 (Tt s3 u3)) h
 intro M1
 refine AM [4,7,10] (rk b0) ⟨?_,?_,?_,trivial⟩
 refine Bf (m' :=895) (sk b0) I .plain I (Does.mk (α:=Int) s1 U0 aA I) fun g2 j1 A0 V0=>?_
 have E1:=AJ (cs:=(List.replicate (((a0.fl % (3:UInt8)).toNat:Nat):Int).toNat [vI 0]).flatten) (xs:=H0) A0 L (Cells.mk s1 I)
 refine AM [7,10] (rk b0) ⟨?_,?_,trivial⟩
 refine Bf (m' :=1023) (sk b0) I .plain I (Does.mk (α:=Int) u1 A0 aA I) fun j2 k1 B0 M0=>?_
 have F1:=AJ (cs:=(List.replicate (((a0.fj % (4:UInt8)).toNat:Nat):Int).toNat [vI 0]).flatten) (xs:=I0) B0 L (Cells.mk u1 I)
 refine Ca 10 2047 b0 I .plain I (Does.mk (α:=Int) v1 B0 aA I) fun k2 p1 C0 P0=>?_
 have q1:=AJ (cs:=(List.replicate (((a0.fm % (3:UInt8)).toNat:Nat):Int).toNat [vI 0]).flatten) (xs:=J0) C0 L (Cells.mk v1 I)
 exact M1 ((.slice (some ⟨p1,0,none⟩) (((a0.fm % (3:UInt8)).toNat:Nat):Int).toNat (((a0.fm % (3:UInt8)).toNat:Nat):Int).toNat),(List.replicate (((a0.fm % (3:UInt8)).toNat:Nat):Int).toNat [vI 0]).flatten,(.slice (some ⟨k1,0,none⟩) (((a0.fj % (4:UInt8)).toNat:Nat):Int).toNat (((a0.fj % (4:UInt8)).toNat:Nat):Int).toNat),(List.replicate (((a0.fj % (4:UInt8)).toNat:Nat):Int).toNat [vI 0]).flatten,(.slice (some ⟨j1,0,none⟩) (((a0.fl % (3:UInt8)).toNat:Nat):Int).toNat (((a0.fl % (3:UInt8)).toNat:Nat):Int).toNat),(List.replicate (((a0.fl % (3:UInt8)).toNat:Nat):Int).toNat [vI 0]).flatten) C0 (Tt V0 (Tt M0 P0)) ⟨q1,(AG F1 P0),(AG E1 (Tt M0 P0))⟩
 refine Bf (m' :=1919) (sk b0) I .plain I (Does.mk (α:=Int) v1 A0 aA I) fun k2 p1 C0 P0=>?_
 have q1:=AJ (cs:=(List.replicate (((a0.fm % (3:UInt8)).toNat:Nat):Int).toNat [vI 0]).flatten) (xs:=J0) C0 L (Cells.mk v1 I)
 refine Ca 7 2047 b0 I .plain I (Does.mk (α:=Int) u1 C0 aA I) fun j2 k1 B0 M0=>?_
 have F1:=AJ (cs:=(List.replicate (((a0.fj % (4:UInt8)).toNat:Nat):Int).toNat [vI 0]).flatten) (xs:=I0) B0 L (Cells.mk u1 I)
 obtain ⟨C4,H2⟩:=Am B0 (.a1 .d0)
 have I3:=Tt P0 (Tt M0 H2)
 exact M1 ((.slice (some ⟨p1,0,none⟩) (((a0.fm % (3:UInt8)).toNat:Nat):Int).toNat (((a0.fm % (3:UInt8)).toNat:Nat):Int).toNat),(List.replicate (((a0.fm % (3:UInt8)).toNat:Nat):Int).toNat [vI 0]).flatten,(.slice (some ⟨k1,0,none⟩) (((a0.fj % (4:UInt8)).toNat:Nat):Int).toNat (((a0.fj % (4:UInt8)).toNat:Nat):Int).toNat),(List.replicate (((a0.fj % (4:UInt8)).toNat:Nat):Int).toNat [vI 0]).flatten,(.slice (some ⟨j1,0,none⟩) (((a0.fl % (3:UInt8)).toNat:Nat):Int).toNat (((a0.fl % (3:UInt8)).toNat:Nat):Int).toNat),(List.replicate (((a0.fl % (3:UInt8)).toNat:Nat):Int).toNat [vI 0]).flatten) C4 (Tt V0 I3) ⟨(AG q1 (Tt M0 H2)),(AG F1 H2),(AG E1 I3)⟩
 refine Bf (m' :=1007) (sk b0) I .plain I (Does.mk (α:=Int) u1 U0 aA I) fun j2 k1 B0 M0=>?_
 have F1:=AJ (cs:=(List.replicate (((a0.fj % (4:UInt8)).toNat:Nat):Int).toNat [vI 0]).flatten) (xs:=I0) B0 L (Cells.mk u1 I)
 refine AM [4,10] (rk b0) ⟨?_,?_,trivial⟩
 refine Bf (m' :=1023) (sk b0) I .plain I (Does.mk (α:=Int) s1 B0 aA I) fun g2 j1 A0 V0=>?_
 have E1:=AJ (cs:=(List.replicate (((a0.fl % (3:UInt8)).toNat:Nat):Int).toNat [vI 0]).flatten) (xs:=H0) A0 L (Cells.mk s1 I)
 refine Ca 10 2047 b0 I .plain I (Does.mk (α:=Int) v1 A0 aA I) fun k2 p1 C0 P0=>?_
 have q1:=AJ (cs:=(List.replicate (((a0.fm % (3:UInt8)).toNat:Nat):Int).toNat [vI 0]).flatten) (xs:=J0) C0 L (Cells.mk v1 I)
 obtain ⟨D4,I2⟩:=Am C0 (.a0 (.a1 .d0))
 have J3:=Tt V0 (Tt P0 I2)
 exact M1 ((.slice (some ⟨p1,0,none⟩) (((a0.fm % (3:UInt8)).toNat:Nat):Int).toNat (((a0.fm % (3:UInt8)).toNat:Nat):Int).toNat),(List.replicate (((a0.fm % (3:UInt8)).toNat:Nat):Int).toNat [vI 0]).flatten,(.slice (some ⟨k1,0,none⟩) (((a0.fj % (4:UInt8)).toNat:Nat):Int).toNat (((a0.fj % (4:UInt8)).toNat:Nat):Int).toNat),(List.replicate (((a0.fj % (4:UInt8)).toNat:Nat):Int).toNat [vI 0]).flatten,(.slice (some ⟨j1,0,none⟩) (((a0.fl % (3:UInt8)).toNat:Nat):Int).toNat (((a0.fl % (3:UInt8)).toNat:Nat):Int).toNat),(List.replicate (((a0.fl % (3:UInt8)).toNat:Nat):Int).toNat [vI 0]).flatten) D4 (Tt M0 J3) ⟨(AG q1 I2),(AG F1 J3),(AG E1 (Tt P0 I2))⟩
 refine Bf (m' :=2031) (sk b0) I .plain I (Does.mk (α:=Int) v1 B0 aA I) fun k2 p1 C0 P0=>?_
 have q1:=AJ (cs:=(List.replicate (((a0.fm % (3:UInt8)).toNat:Nat):Int).toNat [vI 0]).flatten) (xs:=J0) C0 L (Cells.mk v1 I)
 refine Ca 4 2047 b0 I .plain I (Does.mk (α:=Int) s1 C0 aA I) fun g2 j1 A0 V0=>?_
 have E1:=AJ (cs:=(List.replicate (((a0.fl % (3:UInt8)).toNat:Nat):Int).toNat [vI 0]).flatten) (xs:=H0) A0 L (Cells.mk s1 I)
 obtain ⟨E4,J2⟩:=Am A0 (.a1 (.a1 .d0))
 have K3:=Tt P0 (Tt V0 J2)
 exact M1 ((.slice (some ⟨p1,0,none⟩) (((a0.fm % (3:UInt8)).toNat:Nat):Int).toNat (((a0.fm % (3:UInt8)).toNat:Nat):Int).toNat),(List.replicate (((a0.fm % (3:UInt8)).toNat:Nat):Int).toNat [vI 0]).flatten,(.slice (some ⟨k1,0,none⟩) (((a0.fj % (4:UInt8)).toNat:Nat):Int).toNat (((a0.fj % (4:UInt8)).toNat:Nat):Int).toNat),(List.replicate (((a0.fj % (4:UInt8)).toNat:Nat):Int).toNat [vI 0]).flatten,(.slice (some ⟨j1,0,none⟩) (((a0.fl % (3:UInt8)).toNat:Nat):Int).toNat (((a0.fl % (3:UInt8)).toNat:Nat):Int).toNat),(List.replicate (((a0.fl % (3:UInt8)).toNat:Nat):Int).toNat [vI 0]).flatten) E4 (Tt M0 K3) ⟨(AG q1 (Tt V0 J2)),(AG F1 K3),(AG E1 J2)⟩
 refine Bf (m' :=1903) (sk b0) I .plain I (Does.mk (α:=Int) v1 U0 aA I) fun k2 p1 C0 P0=>?_
 have q1:=AJ (cs:=(List.replicate (((a0.fm % (3:UInt8)).toNat:Nat):Int).toNat [vI 0]).flatten) (xs:=J0) C0 L (Cells.mk v1 I)
 refine AM [4,7] (rk b0) ⟨?_,?_,trivial⟩
 refine Bf (m' :=1919) (sk b0) I .plain I (Does.mk (α:=Int) s1 C0 aA I) fun g2 j1 A0 V0=>?_
 have E1:=AJ (cs:=(List.replicate (((a0.fl % (3:UInt8)).toNat:Nat):Int).toNat [vI 0]).flatten) (xs:=H0) A0 L (Cells.mk s1 I)
 refine Ca 7 2047 b0 I .plain I (Does.mk (α:=Int) u1 A0 aA I) fun j2 k1 B0 M0=>?_
 have F1:=AJ (cs:=(List.replicate (((a0.fj % (4:UInt8)).toNat:Nat):Int).toNat [vI 0]).flatten) (xs:=I0) B0 L (Cells.mk u1 I)
 obtain ⟨F4,K2⟩:=Am B0 (.a2 .d0)
 have M3:=Tt V0 (Tt M0 K2)
 exact M1 ((.slice (some ⟨p1,0,none⟩) (((a0.fm % (3:UInt8)).toNat:Nat):Int).toNat (((a0.fm % (3:UInt8)).toNat:Nat):Int).toNat),(List.replicate (((a0.fm % (3:UInt8)).toNat:Nat):Int).toNat [vI 0]).flatten,(.slice (some ⟨k1,0,none⟩) (((a0.fj % (4:UInt8)).toNat:Nat):Int).toNat (((a0.fj % (4:UInt8)).toNat:Nat):Int).toNat),(List.replicate (((a0.fj % (4:UInt8)).toNat:Nat):Int).toNat [vI 0]).flatten,(.slice (some ⟨j1,0,none⟩) (((a0.fl % (3:UInt8)).toNat:Nat):Int).toNat (((a0.fl % (3:UInt8)).toNat:Nat):Int).toNat),(List.replicate (((a0.fl % (3:UInt8)).toNat:Nat):Int).toNat [vI 0]).flatten) F4 (Tt P0 M3) ⟨(AG q1 M3),(AG F1 K2),(AG E1 (Tt M0 K2))⟩
 refine Bf (m' :=2031) (sk b0) I .plain I (Does.mk (α:=Int) u1 C0 aA I) fun j2 k1 B0 M0=>Ca 4 2047 b0 I .plain I (Does.mk (α:=Int) s1 B0 aA I) fun g2 j1 A0 V0=>?_
 obtain ⟨G4,M2⟩:=Am A0 (.a2 (.a1 .d0))
 have P3:=Tt M0 (Tt V0 M2)
 exact M1 ((.slice (some ⟨p1,0,none⟩) (((a0.fm % (3:UInt8)).toNat:Nat):Int).toNat (((a0.fm % (3:UInt8)).toNat:Nat):Int).toNat),(List.replicate (((a0.fm % (3:UInt8)).toNat:Nat):Int).toNat [vI 0]).flatten,(.slice (some ⟨k1,0,none⟩) (((a0.fj % (4:UInt8)).toNat:Nat):Int).toNat (((a0.fj % (4:UInt8)).toNat:Nat):Int).toNat),(List.replicate (((a0.fj % (4:UInt8)).toNat:Nat):Int).toNat [vI 0]).flatten,(.slice (some ⟨j1,0,none⟩) (((a0.fl % (3:UInt8)).toNat:Nat):Int).toNat (((a0.fl % (3:UInt8)).toNat:Nat):Int).toNat),(List.replicate (((a0.fl % (3:UInt8)).toNat:Nat):Int).toNat [vI 0]).flatten) G4 (Tt P0 P3) ⟨(AG q1 P3),(AG (AJ (cs:=(List.replicate (((a0.fj % (4:UInt8)).toNat:Nat):Int).toNat [vI 0]).flatten) (xs:=I0) B0 L (Cells.mk u1 I)) (Tt V0 M2)),(AG (AJ (cs:=(List.replicate (((a0.fl % (3:UInt8)).toNat:Nat):Int).toNat [vI 0]).flatten) (xs:=H0) A0 L (Cells.mk s1 I)) M2)⟩
 refine Bj I ?_
 have h:=I5 _ h
 try dsimp only at h
 refine Ac<|Ab (AC I (U0.memA .t2))<|AW [vI (((a0.fl % (3:UInt8)).toNat:Nat):Int),vI (((a0.fj % (4:UInt8)).toNat:Nat):Int),vI (((a0.fm % (3:UInt8)).toNat:Nat):Int),p0] U0 .t3 (o4 I I I (St.o1 (α:=Tb) U0 .t1)) fun v8 c3 b5=>Aa<|Ao I<|Au (u:=.agg #[vI (((a0.fl % (3:UInt8)).toNat:Nat):Int),vI (((a0.fj % (4:UInt8)).toNat:Nat):Int),vI (((a0.fm % (3:UInt8)).toNat:Nat):Int),p0]) hb0 func7 I (.cons (.many (cs:=[vI (((a0.fl % (3:UInt8)).toNat:Nat):Int),vI (((a0.fj % (4:UInt8)).toNat:Nat):Int),vI (((a0.fm % (3:UInt8)).toNat:Nat):Int),p0]) I I (c3.memA .t3)) .nil) I ?_
 obtain ⟨d3,c5⟩:=Am c3 (.a1 .done)
 cases h
 exact ⟨d3.ag,fun p q=>⟨p0,R0,I,d3.agree q,Cells.keep0 (AG D3 (Tt b5 c5)) q⟩⟩
def bn_p (n:Nat) (a0:Tk) (a1:Int):Oa Te:=
  (ak_p n (⟨2,3,2,a0.fp,a0.fNums⟩:Tk) a1).bind fun b0=>some b0
theorem bn_c (n:Nat) {L w} (hL:hl L w) (a0:Tk) {v0_4:Vc} (h0_4:Rep.R w L [v0_4] a0.fNums) {a1:Int}  {r:Te} (h:bn_p n a0 a1 = some r) :
 Cl 5 #[.agg #[.int .u8 (a0.fl.toNat:Int),.int .u8 (a0.fj.toNat:Int),.int .u8 (a0.fm.toNat:Int),.int .u8 (a0.fp.toNat:Int),v0_4],vI a1] w (aj w fun w' u=>∃ (v0_3:Vc) (cs0_3:La Vc),u = .agg #[vI r.fl,vI r.fj,vI r.fm,v0_3]/\St w w' (aU w.heap.size [(36,Rep.size Tb,v0_3,r.fv.length,cs0_3)])/\Cells w' (bl (aU w.heap.size [(36,Rep.size Tb,v0_3,r.fv.length,cs0_3)]) ++ L) cs0_3 (r.fv:La Tb)):=by
 unfold bn_p at h
 refine AK func5 I I I fun _ cs0 hb0=>Ac<|RG.bx (AD w) I I fun R0 E0 t0 G0=>RG.nl [vI 0,vI 0,vI 0,vN] t0 fun U0 F0 u0 H0=>Aa<|Ac<|Ba 0 I<|BU .plain (Bs (j:=0) (old:=[.int .u8 (a0.fl.toNat:Int),.int .u8 (a0.fj.toNat:Int),.int .u8 (a0.fm.toNat:Int),.int .u8 (a0.fp.toNat:Int),v0_4]) (news:=[.int .u8 2]) (new' :=[.int .u8 2,.int .u8 (a0.fj.toNat:Int),.int .u8 (a0.fm.toNat:Int),.int .u8 (a0.fp.toNat:Int),v0_4]) u0 .t1 I I I I I I (o1 I) I) fun V0 v0 I0=>Ba 1 I<|BU .plain (Bs (j:=1) (old:=[.int .u8 2,.int .u8 (a0.fj.toNat:Int),.int .u8 (a0.fm.toNat:Int),.int .u8 (a0.fp.toNat:Int),v0_4]) (news:=[.int .u8 3]) (new' :=[.int .u8 2,.int .u8 3,.int .u8 (a0.fm.toNat:Int),.int .u8 (a0.fp.toNat:Int),v0_4]) v0 .t1 I I I I I I (o1 I) I) fun W0 x0 J0=>Ba 2 I<|BU .plain (Bs (j:=2) (old:=[.int .u8 2,.int .u8 3,.int .u8 (a0.fm.toNat:Int),.int .u8 (a0.fp.toNat:Int),v0_4]) (news:=[.int .u8 2]) (new' :=[.int .u8 2,.int .u8 3,.int .u8 2,.int .u8 (a0.fp.toNat:Int),v0_4]) x0 .t1 I I I I I I (o1 I) I) fun X0 d0 K0=>Aa<|Ac<|Ab (AC I (d0.memA .t1))<|Ae I<|bk h fun c0 D0 h=>jE (bd 7) I (e2 I I) (fun p q=>cA (b0:=w.heap.size) (ak_c n (d0.hL hL q) (⟨2,3,2,a0.fp,a0.fNums⟩:Tk) (d0.km h0_4 q) D0) q (Nat.le_trans d0.ag.size q.size)) I fun Y0 Q0 P0 ⟨g0,k0,C0,s0,A0⟩=>?_
 subst C0
 have j0:=dc d0 s0
 have M0:=gM d0 s0
 have B0:=AJ (cs:=k0) (xs:=(c0.fv:La Tb)) j0 L (cG A0)
 refine AW [vI c0.fl,vI c0.fj,vI c0.fm,g0] j0 .t1 (o4 I I I (St.o1 (α:=Tb) j0 .hd)) fun Z0 p0 y0=>Aa<|Ao I<|Au (u:=.agg #[vI c0.fl,vI c0.fj,vI c0.fm,g0]) hb0 func5 I (.cons (.many (cs:=[vI c0.fl,vI c0.fj,vI c0.fm,g0]) I I (p0.memA .t1)) .nil) I ?_
 obtain ⟨q0,z0⟩:=Am p0 (.a0 .done)
 cases h
 exact ⟨q0.ag,fun p q=>⟨g0,k0,I,q0.agree q,Cells.keep0 (AG B0 (Tt y0 z0)) q⟩⟩
structure TBend where
  fM:UInt8
  fAt:UInt8
  fN:Int
  deriving DecidableEq
instance:Rep TBend:=Rep.via (β:=UInt8 × UInt8 × Int) fun x=>(x.fM,x.fAt,x.fN)
def bW_p (_n:Nat) (a0:TBend) (a1:Te):Oa Te:=
  (app ([]:La Tb) a1.fv).bind fun c0=>(if c0.length = 0 then some (⟨a1.fl,a1.fj,a1.fm,c0⟩:Te) else (ci ((a0.fAt.toNat:Nat):Int) ((c0.length:Nat):Int)).bind fun d0=>(idx c0 d0).bind fun b0=>(if ((a0.fM % (7:UInt8)).toNat) = 0 then (put c0 ((d0.toNat:Nat):Int) (⟨b0.fB,a0.fN,b0.fl,b0.fH,b0.fI,b0.fp⟩:Tb)).bind fun j0=>some (⟨a1.fl,a1.fj,a1.fm,j0⟩:Te) else (if ((a0.fM % (7:UInt8)).toNat) = 1 then (app ([a0.fN]:La Int) b0.fH).bind fun p0=>(put c0 ((d0.toNat:Nat):Int) (⟨b0.fB,b0.ft,b0.fl,p0,b0.fI,b0.fp⟩:Tb)).bind fun q0=>some (⟨a1.fl,a1.fj,a1.fm,q0⟩:Te) else (if ((a0.fM % (7:UInt8)).toNat) = 2 then (app ([]:La Int) b0.fl).bind fun k0=>(app k0 ([a0.fN]:La Int)).bind fun s0=>(put c0 ((d0.toNat:Nat):Int) (⟨b0.fB,b0.ft,s0,b0.fH,b0.fI,b0.fp⟩:Tb)).bind fun t0=>some (⟨a1.fl,a1.fj,a1.fm,t0⟩:Te) else (if ((a0.fM % (7:UInt8)).toNat) = 3 then (put c0 ((d0.toNat:Nat):Int) (⟨b0.fB,b0.ft,b0.fl,b0.fH,b0.fI,(!b0.fp)⟩:Tb)).bind fun u0=>some (⟨a1.fl,a1.fj,a1.fm,u0⟩:Te) else (if ((a0.fM % (7:UInt8)).toNat) = 4 then (c0[0]?).bind fun g0=>(put c0 ((d0.toNat:Nat):Int) (⟨g0.fB,b0.ft,b0.fl,b0.fH,b0.fI,b0.fp⟩:Tb)).bind fun v0=>some (⟨a1.fl,a1.fj,a1.fm,v0⟩:Te) else (if ((a0.fM % (7:UInt8)).toNat) = 5 then some (⟨a1.fl,a1.fj,a0.fN,c0⟩:Te) else (put c0 ((d0.toNat:Nat):Int) (⟨b0.fB,b0.ft,b0.fl,b0.fH,([a0.fN]:La Int),b0.fp⟩:Tb)).bind fun x0=>some (⟨a1.fl,a1.fj,a1.fm,x0⟩:Te))))))))
theorem bW_c (n:Nat) {L w} (hL:hl L w) (a0:TBend) (a1:Te) {v1_3:Vc} (h1_3:Rep.R w L [v1_3] a1.fv)  {r:Te} (h:bW_p n a0 a1 = some r) :
 Cl 6 #[.agg #[.int .u8 (a0.fM.toNat:Int),.int .u8 (a0.fAt.toNat:Int),vI a0.fN],.agg #[vI a1.fl,vI a1.fj,vI a1.fm,v1_3]] w (aj w fun w' u=>∃ v0_3:Vc,u = .agg #[vI r.fl,vI r.fj,vI r.fm,v0_3]/\Rep.R w' L [v0_3] r.fv):=by
 unfold bW_p at h
 refine AK func6 I I I fun _ cs0 hb0=>Ac<|RG.bx (AD w) I I fun w11 z8 Y4 v9=>RG.bx Y4 I I fun w16 A8 Z4 z9=>RG.nl [vI 0,vI 0,vI 0,vN] Z4 fun w21 V1 P3 A9=>Aa<|Ac<|Ab (AC I (P3.memA .t1))<|RG.nl [vI 0,vI 0,vI 0,vN] P3 fun w26 W1 R3 K9=>AW [vI a1.fl,vI a1.fj,vI a1.fm,v1_3] R3 .hd (o4 I I I (AX (Bb h1_3 R3))) fun w31 F5 M9=>Aa<|Ac<|Ah .plain I (jB Tb F5 fS) fun w35 B8 k2 P9=>Ba 3 I<|AY I ((k2.memA .t3) 3 _ I)<|bk h fun s1 Z7 h=>RG.doesL .plain I (BB (α:=Tb) (ys:=a1.fv) Z7 k2 (fun _ _=>.hd) fS I I (jD Tb k2 L) (Src.rep (Bb h1_3 k2))) fun j0 w42 ⟨v2,V2,Q9,K0⟩=>Ba 3 I<|BU .plain (Bs (j:=3) (old:=[vI a1.fl,vI a1.fj,vI a1.fm,v1_3]) (news:=[j0]) (new' :=[vI a1.fl,vI a1.fj,vI a1.fm,j0]) V2 .t1 I I I (St.c1 (α:=Tb) V2 .hd) I I (o1 (St.o1 (α:=Tb) V2 .hd)) I) fun w49 q0 J0=>?_
 refine Aa<|Aj<|Ac<|Ba 3 I<|AY I ((q0.memA .t1) 3 _ I) ?_
 have b00:s1.length <= 4294967296:=St.rowLe (α:=Tb) q0 .hd
 obtain ⟨v8,J8,F6⟩:=St.rowV (α:=Tb) q0 .hd
 refine Ab (FV.lenV underlying29 I F6)<|Ab (BZ (i:=s1.length) (j:=0) I I)<|Aa<|Be I h (fun W4 h=>?_) (fun W4 h=>?_)
 refine Ac<|Ab (AC I (q0.memA .t1))<|AW [vI a1.fl,vI a1.fj,vI a1.fm,j0] q0 .t2 (o4 I I I (St.o1 (α:=Tb) q0 .hd)) fun w57 W2 X5=>Aa<|Ao I ?_
 have p2:=BI W2 .hd
 have R9:=BJ W2 .hd
 have E7:=BK (α:=Tb) (v:=j0) (xs:=s1) p2 L (Bl (α:=Tb) W2 .hd (AG K0 (Tt J0 X5)) hL)
 refine Au hb0 func6 I (.cons (.many (cs:=[vI a1.fl,vI a1.fj,vI a1.fm,j0]) I I (p2.memA .t1)) .nil) I ?_
 cases h
 exact ⟨p2.ag,fun p q=>⟨j0,I,p2.kd E7 q⟩⟩
 refine Az<|Aj<|du 11 fun M0 X0=>Rv 0 M0 I X0 (fun _=>AS 3 I)<|Rx 1 1536 M0 I X0 (AN I ((q0.memA .t1) 3 _ I))<|Rv 2 M0 I X0 (fun _=>AS 1 I)<|Rx 3 1808 M0 I X0 (AN I ((q0.memA .t4) 1 _ I)) ?_
 have z00:=a0.fAt.toNat_lt
 refine Rv 4 M0 I X0 (fun _=>FV.convN (i:=a0.fAt.toNat) underlying5 underlying3 I (by omega))<|Rv 5 M0 I X0 (fun _=>AS 3 I)<|Rx 6 1920 M0 I X0 (AN I ((q0.memA .t1) 3 _ I)) ?_
 obtain ⟨x8,K8,G6⟩:=St.rowV (α:=Tb) q0 .hd
 refine Rx 7 1792 M0 I X0 (FV.lenV underlying29 I G6)<|bk h fun p1 J7 h=>Rv 8 M0 I X0 (fun _=>FV.remc (i:=((a0.fAt.toNat:Nat):Int)) (j:=((s1.length:Nat):Int)) I I J7)<|bk h fun c0 M7 h=>?_
 obtain ⟨I6,I0⟩:=aL M7
 have k1:=AG K0 J0
 obtain ⟨K4,M8,A3,Z3,q9,G7,q2⟩:=St.nth (α:=Tb) q0 .hd k1 I0
 obtain ⟨K3,P8,H0⟩:=Cb (α:=Tb) q0 .hd Z3
 obtain rfl:K4 = ⟨K3,0,none⟩:=by rw [H0] at A3; cases A3; rfl
 obtain ⟨v86,v87,v88,rfl,d1,H7,y00⟩:=ba G7
 refine Rv 9 M0 I X0 (fun _=>BE 6 (p1.toNat) I A3 I I6 Z3)<|Rv 10 M0 I X0 (fun _=>Bn I)<|AO (dk M0)<|Aj<|Ac<|Ba 0 I<|AY I ((q0.memA .t4) 0 _ I)<|Ab (FV.rem8 (a:=a0.fM) (b:=(7:UInt8)) I I (by decide))<|Aa<|AF<|Ac<|Ab (BZ (i:=(a0.fM % (7:UInt8)).toNat) (j:=0) I I)<|Ag I<|Aa<|Be I h (fun X4 h=>?_) (fun X4 h=>?_)
 refine Av<|Ae I<|Ba 2 I<|AY I ((q0.memA .t4) 2 _ I)<|Ab (BM I)<|Ba 1 I ?_
 obtain ⟨Q8,H6,Z9,s9,I7,p00,y6⟩:=St.nthAt (α:=Tb) q0 .hd k1 I0 H0
 obtain ⟨p4,q4,s4,rfl,P6,Q6,R6⟩:=ba I7
 refine bk h fun j8 P7 h=>RG.acts' .plain (Acts.setPart (α:=Tb) (i:=p1.toNat) (tot:=1) (ds:=[.string c0.fB,vI c0.ft,p4,q4,s4,.bool c0.fp]) (news:=[vI a0.fN]) (full:=[.string c0.fB,vI a0.fN,p4,q4,s4,.bool c0.fp]) P7 q0 H6 (fun _=>.hd) k1 y6 I I I I I I (cb c0.fB a0.fN c0.fl P6 c0.fH Q6 c0.fI R6 c0.fp) I (o1 I)) fun G00 ⟨R8,x2,t9,Y5⟩=>Aa<|AI<|Ac<|Ab (AC I (x2.memA .t1))<|AW [vI a1.fl,vI a1.fj,vI a1.fm,j0] x2 .t2 (o4 I I I (St.o1 (α:=Tb) x2 .hd)) fun I00 y2 G5=>Aa<|Ao I ?_
 have X1:=BI y2 .hd
 have u9:=BJ y2 .hd
 have U6:=BK (α:=Tb) (v:=j0) (xs:=j8) X1 L (Bl (α:=Tb) y2 .hd (AG Y5 G5) hL)
 refine Au hb0 func6 I (.cons (.many (cs:=[vI a1.fl,vI a1.fj,vI a1.fm,j0]) I I (X1.memA .t1)) .nil) I ?_
 cases h
 exact ⟨X1.ag,fun p q=>⟨j0,I,X1.kd U6 q⟩⟩
 refine Ac<|Ab (BZ (i:=(a0.fM % (7:UInt8)).toNat) (j:=1) I I)<|Ag I<|Aa<|Be I h (fun P4 h=>?_) (fun P4 h=>?_)
 refine du 8 fun G0 g1=>Rv 0 G0 I g1 (fun _=>Ak I)<|Rv 1 G0 I g1 (fun _=>AS 2 I)<|Rx 2 3848 G0 I g1 (AN I ((q0.memA .t4) 2 _ I))<|Rv 4 G0 I g1 (fun _=>Ak I)<|Rv 5 G0 I g1 (fun _=>BM I)<|Rv 6 G0 I g1 (fun _=>AS 3 I)<|Rx 7 3840 G0 I g1 (AN I (q2 3 _ I))<|Ca 3 255 G0 I .plain I (jA a0.fN (vI a0.fN) q0 aA (e1 I)) fun J00 y8 M3 U3=>bk h fun H4 Q7 h=>AT (i:=8) (rk G0) (BW (m' :=511) (sk G0) I I .plain I (BB (α:=Int) (ys:=c0.fH) Q7 M3 (fun _ _=>.hd) aA I I (jC a0.fN (vI a0.fN) M3 L I) (Src.rep (Ap H7 U3))) (fun E3 K00 ⟨U8,z2,H5,Z5⟩=>?_))
 refine Rv 9 G0 I g1 (fun _=>BM I)<|Rv 10 G0 I g1 (fun _=>AS 3 I) ?_
 have A2:=BI z2 .hd
 have B3:=BK (α:=Int) (v:=E3) (xs:=H4) A2 L (Bl (α:=Int) z2 .hd Z5 hL)
 have b4:=AG K0 (Tt J0 (Tt U3 (Tt H5 (BJ z2 .hd))))
 obtain ⟨C8,z6,U9,V8,V6,c00,s6⟩:=St.nthAt (α:=Tb) A2 .hd b4 I0 H0
 obtain ⟨u4,b8,v4,rfl,W6,q00,X6⟩:=ba V6
 refine bk h fun k8 R7 h=>AT (i:=11) (rk G0) (RO.acts (m' :=4095) (sk G0) I I .plain (Acts.setPart (α:=Tb) (i:=p1.toNat) (tot:=3) (ds:=[.string c0.fB,vI c0.ft,u4,b8,v4,.bool c0.fp]) (news:=[E3]) (full:=[.string c0.fB,vI c0.ft,u4,E3,v4,.bool c0.fp]) R7 A2 z6 (fun _=>.hd) b4 s6 I I I I I (Rep.c1 B3) (cb c0.fB c0.ft c0.fl W6 H4 B3 c0.fI X6 c0.fp) I (o1 (AX B3))) (fun M00 ⟨W8,B2,x9,b6⟩=>?_))
 refine AO (dk G0)<|AI<|Ac<|Ab (AC I (B2.memA .t1))<|AW [vI a1.fl,vI a1.fj,vI a1.fm,j0] B2 .t2 (o4 I I I (St.o1 (α:=Tb) B2 .hd)) fun Q00 C2 I5=>Aa<|Ao I ?_
 have Y1:=BI C2 .hd
 have y9:=BJ C2 .hd
 have Y6:=BK (α:=Tb) (v:=j0) (xs:=k8) Y1 L (Bl (α:=Tb) C2 .hd (AG b6 I5) hL)
 refine Au hb0 func6 I (.cons (.many (cs:=[vI a1.fl,vI a1.fj,vI a1.fm,j0]) I I (Y1.memA .t1)) .nil) I ?_
 cases h
 exact ⟨Y1.ag,fun p q=>⟨j0,I,Y1.kd Y6 q⟩⟩
 refine Ac<|Ab (BZ (i:=(a0.fM % (7:UInt8)).toNat) (j:=2) I I)<|Ag I<|Aa<|Be I h (fun Q4 h=>?_) (fun Q4 h=>?_)
 refine du 6 fun b0 Z0=>Rv 0 b0 I Z0 (fun _=>Ak I)<|Rv 2 b0 I Z0 (fun _=>Ak I)<|Rv 3 b0 I Z0 (fun _=>BM I)<|Rv 4 b0 I Z0 (fun _=>AS 2 I)<|Rv 7 b0 I Z0 (fun _=>AS 2 I)<|bk h fun s2 z0 h=>RD.mf (α:=Vc × (La Vc) × Vc × (La Vc)) (fun ⟨D1,x1,E1,y1⟩=>[(4,vP V1),(5,vP W1),(59,.pointer (some (Addr.add ⟨K3,0,none⟩ (p1.toNat * 6)))),(65,E1),(68,D1)]) (fun ⟨D1,x1,E1,y1⟩=>[rr w 3 Int D1 (([a0.fN]:La Int).length) x1,rr w 3 Int E1 s2.length y1,rr w 36 Tb j0 s1.length v2,.cells W1 [vI a1.fl,vI a1.fj,vI a1.fm,j0] 31,.cells V1 [vI 0,vI 0,vI 0,vN] 31]) (fun ⟨D1,x1,E1,y1⟩ I3=>Cells I3 (bl [rr w 3 Int D1 (([a0.fN]:La Int).length) x1,rr w 3 Int E1 s2.length y1,rr w 36 Tb j0 s1.length v2,.cells W1 [vI a1.fl,vI a1.fj,vI a1.fm,j0] 31,.cells V1 [vI 0,vI 0,vI 0,vN] 31] ++ L) x1 (([a0.fN]:La Int):La Int)/\Cells I3 (bl [rr w 3 Int D1 (([a0.fN]:La Int).length) x1,rr w 3 Int E1 s2.length y1,rr w 36 Tb j0 s1.length v2,.cells W1 [vI a1.fl,vI a1.fj,vI a1.fm,j0] 31,.cells V1 [vI 0,vI 0,vI 0,vN] 31] ++ L) y1 (s2:La Int)) q0 4 1023 ?_ ?_
 rintro ⟨D1,x1,E1,y1⟩ I3 Q3 J5 ⟨c6,d6⟩
 try dsimp only
 refine bk h fun I4 U7 h=>AT (i:=10) (rk b0) (BW (m' :=2047) (sk b0) I I .plain I (BB (α:=Int) (ys:=([a0.fN]:La Int)) U7 Q3 (fun _ _=>.t1) aA I I d6 (Src.row (α:=Int) Q3 .hd c6)) (fun F3 U00 ⟨X8,D2,K5,g6⟩=>?_))
 refine Rv 11 b0 I Z0 (fun _=>BM I)<|Rv 12 b0 I Z0 (fun _=>AS 2 I) ?_
 have E2:=BI D2 .t1
 have C3:=BK (α:=Int) (v:=F3) (xs:=I4) E2 L (Bl (α:=Int) D2 .t1 g6 hL)
 have c4:=AG K0 (Tt J0 (Tt J5 (Tt K5 (BJ D2 .t1))))
 obtain ⟨D8,A6,V9,Y8,Z6,d00,t6⟩:=St.nthAt (α:=Tb) E2 .t1 c4 I0 H0
 obtain ⟨c8,x4,y4,rfl,s00,b7,c7⟩:=ba Z6
 refine bk h fun p8 V7 h=>AT (i:=13) (rk b0) (RO.acts (m' :=16383) (sk b0) I I .plain (Acts.setPart (α:=Tb) (i:=p1.toNat) (tot:=2) (ds:=[.string c0.fB,vI c0.ft,c8,x4,y4,.bool c0.fp]) (news:=[F3]) (full:=[.string c0.fB,vI c0.ft,F3,x4,y4,.bool c0.fp]) V7 E2 A6 (fun _=>.t1) c4 t6 I I I I I (Rep.c1 C3) (cb c0.fB c0.ft I4 C3 c0.fH b7 c0.fI c7 c0.fp) I (o1 (AX C3))) (fun V00 ⟨Z8,F2,B9,j6⟩=>?_))
 refine AO (dk b0)<|AI<|Ac<|Ab (AC I (F2.memA .t2))<|AW [vI a1.fl,vI a1.fj,vI a1.fm,j0] F2 .t3 (o4 I I I (St.o1 (α:=Tb) F2 .t1)) fun W00 G2 M5=>Aa<|Ao I ?_
 have Z1:=BI G2 .t1
 have C9:=BJ G2 .t1
 have d7:=BK (α:=Tb) (v:=j0) (xs:=p8) Z1 L (Bl (α:=Tb) G2 .t1 (AG j6 M5) hL)
 refine Au hb0 func6 I (.cons (.many (cs:=[vI a1.fl,vI a1.fj,vI a1.fm,j0]) I I (Z1.memA .t2)) .nil) I ?_
 cases h
 exact ⟨Z1.ag,fun p q=>⟨j0,I,Z1.kd d7 q⟩⟩
 intro x0
 refine AM [1,5,8] (rk b0) ⟨?_,?_,?_,trivial⟩
 refine Bf (m' :=159) (sk b0) I .plain I (jB Int q0 aA) fun F1 u1 p0 k0=>?_
 have v0:=jD Int p0 L
 refine AM [5,8] (rk b0) ⟨?_,?_,trivial⟩
 have M1:=AG K0 (Tt J0 k0)
 obtain ⟨G1,J1,K1,H1,V0,U0,I1⟩:=St.nthAt (α:=Tb) p0 .t1 M1 I0 H0
 obtain ⟨G3,Q1,R1,rfl,W0,B1,P1⟩:=ba V0
 refine AV (m' :=191) (sk b0) I .plain I (AN I (U0 2 _ I))<|AM [6,8] (rk b0) ⟨?_,?_,trivial⟩
 refine BW (m' :=255) (sk b0) I I .plain I (BB (α:=Int) (ys:=c0.fl) z0 p0 (fun _ _=>.hd) aA I I v0 (Src.rep W0)) fun C1 H3 ⟨v1,j1,z1,A1⟩=>AT (i:=8) (rk b0) (AV (m' :=511) (sk b0) I .plain I (AN I ((j1.memA .t5) 2 _ I)) ?_)
 refine Ca 9 1023 b0 I .plain I (jA a0.fN (vI a0.fN) j1 aA (e1 I)) fun B0 s0 g0 d0=>?_
 have t0:=jC a0.fN (vI a0.fN) g0 L I
 obtain ⟨b5,X2⟩:=Am g0 (.a0 (.a0 (.a0 (.a0 (.a0 .done)))))
 exact x0 ((vS s0 1),[vI a0.fN],C1,v1) b5 (Tt k0 (Tt z1 (Tt d0 X2))) ⟨(AG t0 X2),(AG A1 (Tt d0 X2))⟩
 refine AV (m' :=447) (sk b0) I .plain I (AN I ((p0.memA .t5) 2 _ I))<|AM [6,9] (rk b0) ⟨?_,?_,trivial⟩
 refine BW (m' :=511) (sk b0) I I .plain I (BB (α:=Int) (ys:=c0.fl) z0 p0 (fun _ _=>.hd) aA I I v0 (Src.rep W0)) fun C1 H3 ⟨v1,j1,z1,A1⟩=>Ca 9 1023 b0 I .plain I (jA a0.fN (vI a0.fN) j1 aA (e1 I)) fun B0 s0 g0 d0=>?_
 have t0:=jC a0.fN (vI a0.fN) g0 L I
 obtain ⟨c5,Y2⟩:=Am g0 (.a0 (.a0 (.a0 (.a0 (.a0 .done)))))
 exact x0 ((vS s0 1),[vI a0.fN],C1,v1) c5 (Tt k0 (Tt z1 (Tt d0 Y2))) ⟨(AG t0 Y2),(AG A1 (Tt d0 Y2))⟩
 refine Bf (m' :=959) (sk b0) I .plain I (jA a0.fN (vI a0.fN) p0 aA (e1 I)) fun B0 s0 g0 d0=>?_
 have t0:=jC a0.fN (vI a0.fN) g0 L I
 have u0:=Ap W0 d0
 have b1:=AG v0 d0
 refine AT (i:=6) (rk b0) (BW (m' :=1023) (sk b0) I I .plain I (BB (α:=Int) (ys:=c0.fl) z0 g0 (fun _ _=>.t1) aA I I b1 (Src.rep u0)) (fun Y0 U1 ⟨P0,Q0,D0,R0⟩=>?_))
 obtain ⟨d5,Z2⟩:=Am Q0 (.a0 (.a0 (.a0 (.a0 (.a0 .done)))))
 exact x0 ((vS s0 1),[vI a0.fN],Y0,P0) d5 (Tt k0 (Tt d0 (Tt D0 Z2))) ⟨(AG t0 (Tt D0 Z2)),(AG R0 Z2)⟩
 refine AV (m' :=415) (sk b0) I .plain I (AN I ((p0.memA .t5) 2 _ I))<|AM [5,9] (rk b0) ⟨?_,?_,trivial⟩
 have M1:=AG K0 (Tt J0 k0)
 obtain ⟨G1,J1,K1,H1,V0,U0,I1⟩:=St.nthAt (α:=Tb) p0 .t1 M1 I0 H0
 obtain ⟨G3,Q1,R1,rfl,W0,B1,P1⟩:=ba V0
 refine AV (m' :=447) (sk b0) I .plain I (AN I (U0 2 _ I))<|AM [6,9] (rk b0) ⟨?_,?_,trivial⟩
 refine BW (m' :=511) (sk b0) I I .plain I (BB (α:=Int) (ys:=c0.fl) z0 p0 (fun _ _=>.hd) aA I I v0 (Src.rep W0)) fun C1 H3 ⟨v1,j1,z1,A1⟩=>Ca 9 1023 b0 I .plain I (jA a0.fN (vI a0.fN) j1 aA (e1 I)) fun B0 s0 g0 d0=>?_
 have t0:=jC a0.fN (vI a0.fN) g0 L I
 obtain ⟨g5,b3⟩:=Am g0 (.a0 (.a0 (.a0 (.a0 (.a0 .done)))))
 exact x0 ((vS s0 1),[vI a0.fN],C1,v1) g5 (Tt k0 (Tt z1 (Tt d0 b3))) ⟨(AG t0 b3),(AG A1 (Tt d0 b3))⟩
 refine Bf (m' :=959) (sk b0) I .plain I (jA a0.fN (vI a0.fN) p0 aA (e1 I)) fun B0 s0 g0 d0=>?_
 have t0:=jC a0.fN (vI a0.fN) g0 L I
 have u0:=Ap W0 d0
 have b1:=AG v0 d0
 refine AT (i:=6) (rk b0) (BW (m' :=1023) (sk b0) I I .plain I (BB (α:=Int) (ys:=c0.fl) z0 g0 (fun _ _=>.t1) aA I I b1 (Src.rep u0)) (fun Y0 U1 ⟨P0,Q0,D0,R0⟩=>?_))
 obtain ⟨j5,c3⟩:=Am Q0 (.a0 (.a0 (.a0 (.a0 (.a0 .done)))))
 exact x0 ((vS s0 1),[vI a0.fN],Y0,P0) j5 (Tt k0 (Tt d0 (Tt D0 c3))) ⟨(AG t0 (Tt D0 c3)),(AG R0 c3)⟩
 refine Bf (m' :=927) (sk b0) I .plain I (jA a0.fN (vI a0.fN) p0 aA (e1 I)) fun B0 s0 g0 d0=>?_
 have t0:=jC a0.fN (vI a0.fN) g0 L I
 have M6:=Tt J0 (Tt k0 d0)
 have K6:=AG K0 M6
 obtain ⟨G1,J1,K1,H1,V0,U0,I1⟩:=St.nthAt (α:=Tb) g0 .t2 K6 I0 H0
 obtain ⟨Q1,R1,g8,rfl,B1,P1,F7⟩:=ba V0
 refine Rx 5 15424 b0 I Z0 (AN I (U0 2 _ I)) ?_
 have u0:=AG v0 d0
 refine AT (i:=6) (rk b0) (BW (m' :=1023) (sk b0) I I .plain I (BB (α:=Int) (ys:=c0.fl) z0 g0 (fun _ _=>.t1) aA I I u0 (Src.rep B1)) (fun F0 q1 ⟨C0,A0,y0,E0⟩=>?_))
 obtain ⟨k5,d3⟩:=Am A0 (.a0 (.a0 (.a0 (.a0 (.a0 .done)))))
 exact x0 ((vS s0 1),[vI a0.fN],F0,C0) k5 (Tt k0 (Tt d0 (Tt y0 d3))) ⟨(AG t0 (Tt y0 d3)),(AG E0 d3)⟩
 refine AV (m' :=189) (sk b0) I .plain I (AN I (q2 2 _ I))<|AM [1,8] (rk b0) ⟨?_,?_,trivial⟩
 refine Bf (m' :=191) (sk b0) I .plain I (jB Int q0 aA) fun F1 u1 p0 k0=>?_
 have v0:=jD Int p0 L
 refine AM [6,8] (rk b0) ⟨?_,?_,trivial⟩
 have u0:=Ap d1 k0
 refine BW (m' :=255) (sk b0) I I .plain I (BB (α:=Int) (ys:=c0.fl) z0 p0 (fun _ _=>.hd) aA I I v0 (Src.rep u0)) fun F0 q1 ⟨C0,A0,y0,E0⟩=>AT (i:=8) (rk b0) (AV (m' :=511) (sk b0) I .plain I (AN I ((A0.memA .t5) 2 _ I)) ?_)
 refine Ca 9 1023 b0 I .plain I (jA a0.fN (vI a0.fN) A0 aA (e1 I)) fun B0 s0 g0 d0=>?_
 have t0:=jC a0.fN (vI a0.fN) g0 L I
 obtain ⟨p5,g3⟩:=Am g0 (.a0 (.a0 (.a0 (.a0 (.a0 .done)))))
 exact x0 ((vS s0 1),[vI a0.fN],F0,C0) p5 (Tt k0 (Tt y0 (Tt d0 g3))) ⟨(AG t0 g3),(AG E0 (Tt d0 g3))⟩
 refine AV (m' :=447) (sk b0) I .plain I (AN I ((p0.memA .t5) 2 _ I))<|AM [6,9] (rk b0) ⟨?_,?_,trivial⟩
 have u0:=Ap d1 k0
 refine BW (m' :=511) (sk b0) I I .plain I (BB (α:=Int) (ys:=c0.fl) z0 p0 (fun _ _=>.hd) aA I I v0 (Src.rep u0)) fun F0 q1 ⟨C0,A0,y0,E0⟩=>Ca 9 1023 b0 I .plain I (jA a0.fN (vI a0.fN) A0 aA (e1 I)) fun B0 s0 g0 d0=>?_
 have t0:=jC a0.fN (vI a0.fN) g0 L I
 obtain ⟨q5,j3⟩:=Am g0 (.a0 (.a0 (.a0 (.a0 (.a0 .done)))))
 exact x0 ((vS s0 1),[vI a0.fN],F0,C0) q5 (Tt k0 (Tt y0 (Tt d0 j3))) ⟨(AG t0 j3),(AG E0 (Tt d0 j3))⟩
 refine Bf (m' :=959) (sk b0) I .plain I (jA a0.fN (vI a0.fN) p0 aA (e1 I)) fun B0 s0 g0 d0=>?_
 have t0:=jC a0.fN (vI a0.fN) g0 L I
 have u0:=Ap d1 (Tt k0 d0)
 have b1:=AG v0 d0
 refine AT (i:=6) (rk b0) (BW (m' :=1023) (sk b0) I I .plain I (BB (α:=Int) (ys:=c0.fl) z0 g0 (fun _ _=>.t1) aA I I b1 (Src.rep u0)) (fun Y0 U1 ⟨P0,Q0,D0,R0⟩=>?_))
 obtain ⟨s5,k3⟩:=Am Q0 (.a0 (.a0 (.a0 (.a0 (.a0 .done)))))
 exact x0 ((vS s0 1),[vI a0.fN],Y0,P0) s5 (Tt k0 (Tt d0 (Tt D0 k3))) ⟨(AG t0 (Tt D0 k3)),(AG R0 k3)⟩
 refine AV (m' :=445) (sk b0) I .plain I (AN I ((q0.memA .t4) 2 _ I))<|AM [1,9] (rk b0) ⟨?_,?_,trivial⟩
 refine Bf (m' :=447) (sk b0) I .plain I (jB Int q0 aA) fun F1 u1 p0 k0=>?_
 have v0:=jD Int p0 L
 refine AM [6,9] (rk b0) ⟨?_,?_,trivial⟩
 have u0:=Ap d1 k0
 refine BW (m' :=511) (sk b0) I I .plain I (BB (α:=Int) (ys:=c0.fl) z0 p0 (fun _ _=>.hd) aA I I v0 (Src.rep u0)) fun F0 q1 ⟨C0,A0,y0,E0⟩=>Ca 9 1023 b0 I .plain I (jA a0.fN (vI a0.fN) A0 aA (e1 I)) fun B0 s0 g0 d0=>?_
 have t0:=jC a0.fN (vI a0.fN) g0 L I
 obtain ⟨u5,p3⟩:=Am g0 (.a0 (.a0 (.a0 (.a0 (.a0 .done)))))
 exact x0 ((vS s0 1),[vI a0.fN],F0,C0) u5 (Tt k0 (Tt y0 (Tt d0 p3))) ⟨(AG t0 p3),(AG E0 (Tt d0 p3))⟩
 refine Bf (m' :=959) (sk b0) I .plain I (jA a0.fN (vI a0.fN) p0 aA (e1 I)) fun B0 s0 g0 d0=>?_
 have t0:=jC a0.fN (vI a0.fN) g0 L I
 have u0:=Ap d1 (Tt k0 d0)
 have b1:=AG v0 d0
 refine AT (i:=6) (rk b0) (BW (m' :=1023) (sk b0) I I .plain I (BB (α:=Int) (ys:=c0.fl) z0 g0 (fun _ _=>.t1) aA I I b1 (Src.rep u0)) (fun Y0 U1 ⟨P0,Q0,D0,R0⟩=>?_))
 obtain ⟨v5,q3⟩:=Am Q0 (.a0 (.a0 (.a0 (.a0 (.a0 .done)))))
 exact x0 ((vS s0 1),[vI a0.fN],Y0,P0) v5 (Tt k0 (Tt d0 (Tt D0 q3))) ⟨(AG t0 (Tt D0 q3)),(AG R0 q3)⟩
 refine Bf (m' :=957) (sk b0) I .plain I (jA a0.fN (vI a0.fN) q0 aA (e1 I)) fun B0 s0 g0 d0=>?_
 have t0:=jC a0.fN (vI a0.fN) g0 L I
 refine Ca 1 959 b0 I .plain I (jB Int g0 aA) fun F1 u1 p0 k0=>?_
 have v0:=jD Int p0 L
 have u0:=Ap d1 (Tt d0 k0)
 refine AT (i:=6) (rk b0) (BW (m' :=1023) (sk b0) I I .plain I (BB (α:=Int) (ys:=c0.fl) z0 p0 (fun _ _=>.hd) aA I I v0 (Src.rep u0)) (fun F0 q1 ⟨C0,A0,y0,E0⟩=>?_))
 obtain ⟨x5,V3⟩:=Am A0 (.a1 (.a0 (.a0 (.a0 (.a0 .done)))))
 have g4:=Tt k0 (Tt y0 V3)
 exact x0 ((vS s0 1),[vI a0.fN],F0,C0) x5 (Tt d0 g4) ⟨(AG t0 g4),(AG E0 V3)⟩
 refine AV (m' :=413) (sk b0) I .plain I (AN I ((q0.memA .t4) 2 _ I))<|AM [1,5,9] (rk b0) ⟨?_,?_,?_,trivial⟩
 refine Bf (m' :=415) (sk b0) I .plain I (jB Int q0 aA) fun F1 u1 p0 k0=>?_
 have v0:=jD Int p0 L
 refine AM [5,9] (rk b0) ⟨?_,?_,trivial⟩
 have M1:=AG K0 (Tt J0 k0)
 obtain ⟨G1,J1,K1,H1,V0,U0,I1⟩:=St.nthAt (α:=Tb) p0 .t1 M1 I0 H0
 obtain ⟨G3,Q1,R1,rfl,W0,B1,P1⟩:=ba V0
 refine AV (m' :=447) (sk b0) I .plain I (AN I (U0 2 _ I))<|AM [6,9] (rk b0) ⟨?_,?_,trivial⟩
 refine BW (m' :=511) (sk b0) I I .plain I (BB (α:=Int) (ys:=c0.fl) z0 p0 (fun _ _=>.hd) aA I I v0 (Src.rep W0)) fun C1 H3 ⟨v1,j1,z1,A1⟩=>Ca 9 1023 b0 I .plain I (jA a0.fN (vI a0.fN) j1 aA (e1 I)) fun B0 s0 g0 d0=>?_
 have t0:=jC a0.fN (vI a0.fN) g0 L I
 obtain ⟨y5,s3⟩:=Am g0 (.a0 (.a0 (.a0 (.a0 (.a0 .done)))))
 exact x0 ((vS s0 1),[vI a0.fN],C1,v1) y5 (Tt k0 (Tt z1 (Tt d0 s3))) ⟨(AG t0 s3),(AG A1 (Tt d0 s3))⟩
 refine Bf (m' :=959) (sk b0) I .plain I (jA a0.fN (vI a0.fN) p0 aA (e1 I)) fun B0 s0 g0 d0=>?_
 have t0:=jC a0.fN (vI a0.fN) g0 L I
 have u0:=Ap W0 d0
 have b1:=AG v0 d0
 refine AT (i:=6) (rk b0) (BW (m' :=1023) (sk b0) I I .plain I (BB (α:=Int) (ys:=c0.fl) z0 g0 (fun _ _=>.t1) aA I I b1 (Src.rep u0)) (fun Y0 U1 ⟨P0,Q0,D0,R0⟩=>?_))
 obtain ⟨z5,u3⟩:=Am Q0 (.a0 (.a0 (.a0 (.a0 (.a0 .done)))))
 exact x0 ((vS s0 1),[vI a0.fN],Y0,P0) z5 (Tt k0 (Tt d0 (Tt D0 u3))) ⟨(AG t0 (Tt D0 u3)),(AG R0 u3)⟩
 refine Bf (m' :=927) (sk b0) I .plain I (jA a0.fN (vI a0.fN) p0 aA (e1 I)) fun B0 s0 g0 d0=>?_
 have t0:=jC a0.fN (vI a0.fN) g0 L I
 obtain ⟨G1,J1,K1,H1,V0,U0,I1⟩:=St.nthAt (α:=Tb) g0 .t2 (AG K0 (Tt J0 (Tt k0 d0))) I0 H0
 obtain ⟨Q1,R1,g8,rfl,B1,P1,F7⟩:=ba V0
 refine Rx 5 15424 b0 I Z0 (AN I (U0 2 _ I)) ?_
 have u0:=AG v0 d0
 refine AT (i:=6) (rk b0) (BW (m' :=1023) (sk b0) I I .plain I (BB (α:=Int) (ys:=c0.fl) z0 g0 (fun _ _=>.t1) aA I I u0 (Src.rep B1)) (fun F0 q1 ⟨C0,A0,y0,E0⟩=>?_))
 obtain ⟨A5,v3⟩:=Am A0 (.a0 (.a0 (.a0 (.a0 (.a0 .done)))))
 exact x0 ((vS s0 1),[vI a0.fN],F0,C0) A5 (Tt k0 (Tt d0 (Tt y0 v3))) ⟨(AG t0 (Tt y0 v3)),(AG E0 v3)⟩
 refine AV (m' :=445) (sk b0) I .plain I (AN I (q2 2 _ I))<|AM [1,9] (rk b0) ⟨?_,?_,trivial⟩
 refine Bf (m' :=447) (sk b0) I .plain I (jB Int q0 aA) fun F1 u1 p0 k0=>?_
 have v0:=jD Int p0 L
 refine AM [6,9] (rk b0) ⟨?_,?_,trivial⟩
 have u0:=Ap d1 k0
 refine BW (m' :=511) (sk b0) I I .plain I (BB (α:=Int) (ys:=c0.fl) z0 p0 (fun _ _=>.hd) aA I I v0 (Src.rep u0)) fun F0 q1 ⟨C0,A0,y0,E0⟩=>Ca 9 1023 b0 I .plain I (jA a0.fN (vI a0.fN) A0 aA (e1 I)) fun B0 s0 g0 d0=>?_
 have t0:=jC a0.fN (vI a0.fN) g0 L I
 obtain ⟨B5,x3⟩:=Am g0 (.a0 (.a0 (.a0 (.a0 (.a0 .done)))))
 exact x0 ((vS s0 1),[vI a0.fN],F0,C0) B5 (Tt k0 (Tt y0 (Tt d0 x3))) ⟨(AG t0 x3),(AG E0 (Tt d0 x3))⟩
 refine Bf (m' :=959) (sk b0) I .plain I (jA a0.fN (vI a0.fN) p0 aA (e1 I)) fun B0 s0 g0 d0=>?_
 have t0:=jC a0.fN (vI a0.fN) g0 L I
 have u0:=Ap d1 (Tt k0 d0)
 refine AT (i:=6) (rk b0) (BW (m' :=1023) (sk b0) I I .plain I (BB (α:=Int) (ys:=c0.fl) z0 g0 (fun _ _=>.t1) aA I I (AG v0 d0) (Src.rep u0)) (fun Y0 U1 ⟨P0,Q0,D0,R0⟩=>?_))
 obtain ⟨C5,y3⟩:=Am Q0 (.a0 (.a0 (.a0 (.a0 (.a0 .done)))))
 exact x0 ((vS s0 1),[vI a0.fN],Y0,P0) C5 (Tt k0 (Tt d0 (Tt D0 y3))) ⟨(AG t0 (Tt D0 y3)),(AG R0 y3)⟩
 refine Bf (m' :=957) (sk b0) I .plain I (jA a0.fN (vI a0.fN) q0 aA (e1 I)) fun B0 s0 g0 d0=>?_
 have t0:=jC a0.fN (vI a0.fN) g0 L I
 refine Ca 1 959 b0 I .plain I (jB Int g0 aA) fun F1 u1 p0 k0=>?_
 have v0:=jD Int p0 L
 have u0:=Ap d1 (Tt d0 k0)
 refine AT (i:=6) (rk b0) (BW (m' :=1023) (sk b0) I I .plain I (BB (α:=Int) (ys:=c0.fl) z0 p0 (fun _ _=>.hd) aA I I v0 (Src.rep u0)) (fun F0 q1 ⟨C0,A0,y0,E0⟩=>?_))
 obtain ⟨D5,W3⟩:=Am A0 (.a1 (.a0 (.a0 (.a0 (.a0 .done)))))
 have j4:=Tt k0 (Tt y0 W3)
 exact x0 ((vS s0 1),[vI a0.fN],F0,C0) D5 (Tt d0 j4) ⟨(AG t0 j4),(AG E0 W3)⟩
 refine Bf (m' :=925) (sk b0) I .plain I (jA a0.fN (vI a0.fN) q0 aA (e1 I)) fun B0 s0 g0 d0=>?_
 have t0:=jC a0.fN (vI a0.fN) g0 L I
 obtain ⟨G1,J1,K1,H1,V0,U0,I1⟩:=St.nthAt (α:=Tb) g0 .t1 (AG K0 (Tt J0 d0)) I0 H0
 obtain ⟨G3,Q1,R1,rfl,W0,B1,P1⟩:=ba V0
 refine Rx 5 15424 b0 I Z0 (AN I (U0 2 _ I))<|Ca 1 959 b0 I .plain I (jB Int g0 aA) fun F1 u1 p0 k0=>AT (i:=6) (rk b0) (BW (m' :=1023) (sk b0) I I .plain I (BB (α:=Int) (ys:=c0.fl) z0 p0 (fun _ _=>.hd) aA I I (jD Int p0 L) (Src.rep (Ap W0 k0))) (fun F0 q1 ⟨C0,A0,y0,E0⟩=>?_))
 obtain ⟨E5,X3⟩:=Am A0 (.a1 (.a0 (.a0 (.a0 (.a0 .done)))))
 have k4:=Tt k0 (Tt y0 X3)
 exact x0 ((vS s0 1),[vI a0.fN],F0,C0) E5 (Tt d0 k4) ⟨(AG t0 k4),(AG E0 X3)⟩
 refine Ac<|Ab (BZ (i:=(a0.fM % (7:UInt8)).toNat) (j:=3) I I)<|Ag I<|Aa<|Be I h (fun R4 h=>?_) (fun R4 h=>?_)
 refine Av<|Ae I<|Ae I<|Ab (BM I)<|Ba 5 I<|AY I (q2 5 _ I)<|Ab (Bz I)<|Ab (BM I)<|Ba 5 I ?_
 obtain ⟨E8,B6,W9,b9,g7,g00,u6⟩:=St.nthAt (α:=Tb) q0 .hd k1 I0 H0
 obtain ⟨z4,A4,B4,rfl,j7,k7,p7⟩:=ba g7
 refine bk h fun q8 W7 h=>RG.acts' .plain (Acts.setPart (α:=Tb) (i:=p1.toNat) (tot:=5) (ds:=[.string c0.fB,vI c0.ft,z4,A4,B4,.bool c0.fp]) (news:=[.bool (!c0.fp)]) (full:=[.string c0.fB,vI c0.ft,z4,A4,B4,.bool (!c0.fp)]) W7 q0 B6 (fun _=>.hd) k1 u6 I I I I I I (cb c0.fB c0.ft c0.fl j7 c0.fH k7 c0.fI p7 (!c0.fp)) I (o1 I)) fun X00 ⟨c9,H2,D9,k6⟩=>Aa<|AI<|Ac<|Ab (AC I (H2.memA .t1))<|AW [vI a1.fl,vI a1.fj,vI a1.fm,j0] H2 .t2 (o4 I I I (St.o1 (α:=Tb) H2 .hd)) fun Y00 I2 P5=>Aa<|Ao I ?_
 have b2:=BI I2 .hd
 have E9:=BJ I2 .hd
 have q7:=BK (α:=Tb) (v:=j0) (xs:=q8) b2 L (Bl (α:=Tb) I2 .hd (AG k6 P5) hL)
 refine Au hb0 func6 I (.cons (.many (cs:=[vI a1.fl,vI a1.fj,vI a1.fm,j0]) I I (b2.memA .t1)) .nil) I ?_
 cases h
 exact ⟨b2.ag,fun p q=>⟨j0,I,b2.kd q7 q⟩⟩
 refine Ac<|Ab (BZ (i:=(a0.fM % (7:UInt8)).toNat) (j:=4) I I)<|Ag I<|Aa<|Be I h (fun U4 h=>?_) (fun U4 h=>?_)
 refine Av<|Ae I<|Ba 3 I<|AY I ((q0.memA .t1) 3 _ I)<|bk h fun J3 K7 h=>?_
 obtain ⟨J4,F8,z3,Y3,d9,s7,J6⟩:=St.nth (α:=Tb) q0 .hd k1 K7
 obtain ⟨M4,G8,C6⟩:=Cb (α:=Tb) q0 .hd Y3
 obtain rfl:J4 = ⟨M4,0,none⟩:=by rw [C6] at z3; cases z3; rfl
 obtain ⟨A00,B00,C00,rfl,t00,u00,v00⟩:=ba s7
 refine Ab (BE 6 0 I z3 I I Y3)<|Ba 0 I<|AY I (J6 0 _ I)<|Ab (BM I)<|Ba 0 I ?_
 obtain ⟨H8,D6,X9,g9,t7,j00,v6⟩:=St.nthAt (α:=Tb) q0 .hd k1 I0 H0
 obtain ⟨C4,D4,E4,rfl,u7,v7,x7⟩:=ba t7
 refine bk h fun s8 X7 h=>RG.acts' .plain (Acts.setPart (α:=Tb) (i:=p1.toNat) (tot:=0) (ds:=[.string c0.fB,vI c0.ft,C4,D4,E4,.bool c0.fp]) (news:=[.string J3.fB]) (full:=[.string J3.fB,vI c0.ft,C4,D4,E4,.bool c0.fp]) X7 q0 D6 (fun _=>.hd) k1 v6 I I I I I I (cb J3.fB c0.ft c0.fl u7 c0.fH v7 c0.fI x7 c0.fp) I (o1 I)) fun Z00 ⟨j9,J2,F9,p6⟩=>Aa<|AI<|Ac<|Ab (AC I (J2.memA .t1))<|AW [vI a1.fl,vI a1.fj,vI a1.fm,j0] J2 .t2 (o4 I I I (St.o1 (α:=Tb) J2 .hd)) fun b01 K2 Q5=>Aa<|Ao I ?_
 have c2:=BI K2 .hd
 have G9:=BJ K2 .hd
 have y7:=BK (α:=Tb) (v:=j0) (xs:=s8) c2 L (Bl (α:=Tb) K2 .hd (AG p6 Q5) hL)
 refine Au hb0 func6 I (.cons (.many (cs:=[vI a1.fl,vI a1.fj,vI a1.fm,j0]) I I (c2.memA .t1)) .nil) I ?_
 cases h
 exact ⟨c2.ag,fun p q=>⟨j0,I,c2.kd y7 q⟩⟩
 refine Ac<|Ab (BZ (i:=(a0.fM % (7:UInt8)).toNat) (j:=5) I I)<|Ag I<|Aa<|Be I h (fun V4 h=>?_) (fun V4 h=>?_)
 refine Av<|Ba 2 I<|AY I ((q0.memA .t4) 2 _ I)<|Ba 2 I<|BU .plain (Bs (j:=2) (old:=[vI a1.fl,vI a1.fj,vI a1.fm,j0]) (news:=[vI a0.fN]) (new' :=[vI a1.fl,vI a1.fj,vI a0.fN,j0]) q0 .t1 I I I I I I (o1 I) I) fun c01 M2 R5=>Aa<|AI<|Ac<|Ab (AC I (M2.memA .t1))<|AW [vI a1.fl,vI a1.fj,vI a0.fN,j0] M2 .t2 (o4 I I I (St.o1 (α:=Tb) M2 .hd)) fun d01 P2 U5=>Aa<|Ao I ?_
 have d2:=BI P2 .hd
 have H9:=BJ P2 .hd
 have z7:=BK (α:=Tb) (v:=j0) (xs:=s1) d2 L (Bl (α:=Tb) P2 .hd (AG K0 (Tt J0 (Tt R5 U5))) hL)
 refine Au hb0 func6 I (.cons (.many (cs:=[vI a1.fl,vI a1.fj,vI a0.fN,j0]) I I (d2.memA .t1)) .nil) I ?_
 cases h
 exact ⟨d2.ag,fun p q=>⟨j0,I,d2.kd z7 q⟩⟩
 refine Av<|Ae I<|Ba 2 I<|AY I ((q0.memA .t4) 2 _ I)<|Ah .plain I (jA a0.fN (vI a0.fN) q0 aA (e1 I)) fun g01 u2 g2 V5=>Ab (BM I)<|Ba 4 I ?_
 have Q2:=BI g2 .hd
 have D3:=BK (α:=Int) (v:=(vS u2 1)) (xs:=([a0.fN]:La Int)) Q2 L (Bl (α:=Int) g2 .hd (jC a0.fN (vI a0.fN) g2 L I) hL)
 have d4:=AG K0 (Tt J0 (Tt V5 (BJ g2 .hd)))
 obtain ⟨I8,E6,Y9,k9,A7,k00,x6⟩:=St.nthAt (α:=Tb) Q2 .hd d4 I0 H0
 obtain ⟨F4,G4,d8,rfl,B7,C7,x00⟩:=ba A7
 refine bk h fun t8 Y7 h=>RG.acts' .plain (Acts.setPart (α:=Tb) (i:=p1.toNat) (tot:=4) (ds:=[.string c0.fB,vI c0.ft,F4,G4,d8,.bool c0.fp]) (news:=[(vS u2 1)]) (full:=[.string c0.fB,vI c0.ft,F4,G4,(vS u2 1),.bool c0.fp]) Y7 Q2 E6 (fun _=>.hd) d4 x6 I I I I I (Rep.c1 D3) (cb c0.fB c0.ft c0.fl B7 c0.fH C7 ([a0.fN]:La Int) D3 c0.fp) I (o1 (AX D3))) fun j01 ⟨p9,R2,I9,q6⟩=>Aa<|AI<|Ac<|Ab (AC I (R2.memA .t1))<|AW [vI a1.fl,vI a1.fj,vI a1.fm,j0] R2 .t2 (o4 I I I (St.o1 (α:=Tb) R2 .hd)) fun k01 U2 W5=>Aa<|Ao I ?_
 have j2:=BI U2 .hd
 have J9:=BJ U2 .hd
 have D7:=BK (α:=Tb) (v:=j0) (xs:=t8) j2 L (Bl (α:=Tb) U2 .hd (AG q6 W5) hL)
 refine Au hb0 func6 I (.cons (.many (cs:=[vI a1.fl,vI a1.fj,vI a1.fm,j0]) I I (j2.memA .t1)) .nil) I ?_
 cases h
 exact ⟨j2.ag,fun p q=>⟨j0,I,j2.kd D7 q⟩⟩
def bC_l1 (_n:Nat) (a0:ByteArray) (g0:Int -> Oa (Bool ⊕ Unit)):Int -> Oa (Bool ⊕ Unit)
  | d0=>(if d0 < ((a0.size:Nat):Int) then (lP a0 d0).bind fun b0=>jn (fun j0=>(if j0 = true then some (.inl false) else (chk (d0 + 1)).bind fun k0=>g0 k0)) (fun c0=>(if 65 <= b0.toNat then (if b0.toNat <= 90 then c0 false else (if 97 <= b0.toNat then (if b0.toNat <= 122 then c0 false else (if 48 <= b0.toNat then (if b0.toNat <= 57 then c0 false else (if b0.toNat = 45 then c0 false else c0 (!(decide (b0.toNat = 95))))) else (if b0.toNat = 45 then c0 false else c0 (!(decide (b0.toNat = 95)))))) else (if 48 <= b0.toNat then (if b0.toNat <= 57 then c0 false else (if b0.toNat = 45 then c0 false else c0 (!(decide (b0.toNat = 95))))) else (if b0.toNat = 45 then c0 false else c0 (!(decide (b0.toNat = 95))))))) else (if 97 <= b0.toNat then (if b0.toNat <= 122 then c0 false else (if 48 <= b0.toNat then (if b0.toNat <= 57 then c0 false else (if b0.toNat = 45 then c0 false else c0 (!(decide (b0.toNat = 95))))) else (if b0.toNat = 45 then c0 false else c0 (!(decide (b0.toNat = 95)))))) else (if 48 <= b0.toNat then (if b0.toNat <= 57 then c0 false else (if b0.toNat = 45 then c0 false else c0 (!(decide (b0.toNat = 95))))) else (if b0.toNat = 45 then c0 false else c0 (!(decide (b0.toNat = 95)))))))) else some (.inr ()))
def bC_p (n:Nat) (a0:ByteArray):Oa Bool:=
  thn (au (bC_l1 n a0) n 0) (fun _=>(if 1 <= a0.size then some (decide (a0.size <= 12)) else some false))
theorem bC_c (n:Nat) {L w} (_hL:hl L w) {a0:ByteArray}  {r:Bool} (h:bC_p n a0 = some r) :
 Cl 132 #[.string a0] w (aj w fun _ u=>u = .bool r):=by
 unfold bC_p at h
 refine AK func132 I I I fun _ cs0 hb0=>Ac<|Ag I<|Aa<|Aj<|Ac<|Ag I<|Aa<|AF<|tn h fun q1 b1 p0=>MX.lo (α:=Int) (fun g0=>[(0,.string a0),(3,vI g0)]) (fun g0=>[]) (fun g0=>g0) 0 b1 (AD w) ?_
 rintro k1 g0 s1 W0 c0 X0 h
 unfold bC_l1 at h
 try dsimp only at h
 refine Aj<|Ac<|Ae I<|Ae I<|Ab (Cc underlying9 I)<|Ab (FV.lss (i:=g0) (j:=((a0.size:Nat):Int)) I I)<|Aa<|Be I h (fun q0 h=>?_) (fun q0 h=>?_)
 refine Az<|Aj<|AF<|Ac<|Ae I<|Ae I<|bk h fun b0 g1 h=>?_
 obtain ⟨Z0,d1⟩:=ge g1
 refine Ab (FV.strAt (k:=g0.toNat) underlying9 I I Z0 d1)<|Ag I<|Aa<|Aj<|MX.jo (α:=Bool) (fun j0=>[(0,.string a0),(3,vI g0),(44,.bool j0)]) (fun j0=>[]) (fun j0=>j0) c0 h ?_ ?_
 rintro j0 u1 k0 Y0 h
 try dsimp only at h
 refine MX.ifb I h (fun s0 h=>?_) (fun s0 h=>?_)
 refine Ac<|Ag I<|Aa ?_
 have h:=ar h p0
 refine Ao I<|Bi hb0 func132 I I ?_
 cases h
 exact k0.gv
 refine Az<|AI<|Av<|Ae I<|bk h fun j1 c1 h=>Ab (BR (i:=g0) (j:=1) I I c1)<|Ag I<|Aa<|W0 j1 k0 (Tt X0 Y0) h
 intro p1 d0 h
 try dsimp only at h
 refine Av<|Ae I<|Ab (FV.geqN (i:=b0.toNat) (j:=65) I I)<|Ae I<|BG (s:=16) I h (fun t0 h=>?_) (fun t0 h=>?_)
 refine AH (Ak I)<|AH (FV.leqN (i:=b0.toNat) (j:=90) I I)<|Bq I I<|Ae I<|BG (s:=20) I h (fun u0 h=>?_) (fun u0 h=>?_)
 refine Aw<|Aw<|Aw<|RG.un<|RG.un<|Aw<|Bq I I<|Ae I<|Aw<|Aw<|Aw<|RG.un<|RG.un<|Aw<|Bq I I<|Ae I<|Aw<|Aw<|Bq I I<|Ae I<|Aw<|Aw<|Bq I I<|Ab (Bz I)<|Aa<|d0 false c0 (Br _ _) h
 refine AH (Ak I)<|AH (FV.geqN (i:=b0.toNat) (j:=97) I I)<|AH (Ak I)<|BG (s:=23) I h (fun v0 h=>?_) (fun v0 h=>?_)
 refine AH (Ak I)<|AH (FV.leqN (i:=b0.toNat) (j:=122) I I)<|AH (BY I I)<|By I I<|Ae I<|BG (s:=28) I h (fun x0 h=>?_) (fun x0 h=>?_)
 refine Aw<|Aw<|Aw<|RG.un<|RG.un<|Aw<|Bq I I<|Ae I<|Aw<|Aw<|Bq I I<|Ae I<|Aw<|Aw<|Bq I I<|Ab (Bz I)<|Aa<|d0 false c0 (Br _ _) h
 refine AH (Ak I)<|AH (FV.geqN (i:=b0.toNat) (j:=48) I I)<|AH (Ak I)<|BG (s:=31) I h (fun y0 h=>?_) (fun y0 h=>?_)
 refine AH (Ak I)<|AH (FV.leqN (i:=b0.toNat) (j:=57) I I)<|AH (BY I I)<|By I I<|Ae I<|BG (s:=36) I h (fun z0 h=>?_) (fun z0 h=>?_)
 refine Aw<|Aw<|Bq I I<|Ae I<|Aw<|Aw<|Bq I I<|Ab (Bz I)<|Aa<|d0 false c0 (Br _ _) h
 refine AH (Ak I)<|AH (BZ (i:=b0.toNat) (j:=45) I I)<|By I I<|Ae I<|BG (s:=40) I h (fun A0 h=>?_) (fun A0 h=>?_)
 refine Aw<|Aw<|Bq I I<|Ab (Bz I)<|Aa<|d0 false c0 (Br _ _) h
 refine AH (Ak I)<|AH (BZ (i:=b0.toNat) (j:=95) I I)<|By I I<|Ab (Bz I)<|Aa<|d0 (!(decide (b0.toNat = 95))) c0 (Br _ _) h
 refine Aw<|Aw<|AH (BA I I)<|By I I<|Ae I<|AH (Ak I)<|AH (BZ (i:=b0.toNat) (j:=45) I I)<|By I I<|Ae I<|BG (s:=40) I h (fun B0 h=>?_) (fun B0 h=>?_)
 refine Aw<|Aw<|Bq I I<|Ab (Bz I)<|Aa<|d0 false c0 (Br _ _) h
 refine AH (Ak I)<|AH (BZ (i:=b0.toNat) (j:=95) I I)<|By I I<|Ab (Bz I)<|Aa<|d0 (!(decide (b0.toNat = 95))) c0 (Br _ _) h
 refine Aw<|Aw<|AH (BA I I)<|By I I<|Ae I<|AH (Ak I)<|AH (FV.geqN (i:=b0.toNat) (j:=48) I I)<|AH (Ak I)<|BG (s:=31) I h (fun C0 h=>?_) (fun C0 h=>?_)
 refine AH (Ak I)<|AH (FV.leqN (i:=b0.toNat) (j:=57) I I)<|AH (BY I I)<|By I I<|Ae I<|BG (s:=36) I h (fun D0 h=>?_) (fun D0 h=>?_)
 refine Aw<|Aw<|Bq I I<|Ae I<|Aw<|Aw<|Bq I I<|Ab (Bz I)<|Aa<|d0 false c0 (Br _ _) h
 refine AH (Ak I)<|AH (BZ (i:=b0.toNat) (j:=45) I I)<|By I I<|Ae I<|BG (s:=40) I h (fun E0 h=>?_) (fun E0 h=>?_)
 refine Aw<|Aw<|Bq I I<|Ab (Bz I)<|Aa<|d0 false c0 (Br _ _) h
 refine AH (Ak I)<|AH (BZ (i:=b0.toNat) (j:=95) I I)<|By I I<|Ab (Bz I)<|Aa<|d0 (!(decide (b0.toNat = 95))) c0 (Br _ _) h
 refine Aw<|Aw<|AH (BA I I)<|By I I<|Ae I<|AH (Ak I)<|AH (BZ (i:=b0.toNat) (j:=45) I I)<|By I I<|Ae I<|BG (s:=40) I h (fun F0 h=>?_) (fun F0 h=>?_)
 refine Aw<|Aw<|Bq I I<|Ab (Bz I)<|Aa<|d0 false c0 (Br _ _) h
 refine AH (Ak I)<|AH (BZ (i:=b0.toNat) (j:=95) I I)<|By I I<|Ab (Bz I)<|Aa<|d0 (!(decide (b0.toNat = 95))) c0 (Br _ _) h
 refine Aw<|Aw<|By I I<|Ae I<|AH (Ak I)<|AH (FV.geqN (i:=b0.toNat) (j:=97) I I)<|AH (Ak I)<|BG (s:=23) I h (fun G0 h=>?_) (fun G0 h=>?_)
 refine AH (Ak I)<|AH (FV.leqN (i:=b0.toNat) (j:=122) I I)<|AH (BY I I)<|By I I<|Ae I<|BG (s:=28) I h (fun H0 h=>?_) (fun H0 h=>?_)
 refine Aw<|Aw<|Aw<|RG.un<|RG.un<|Aw<|Bq I I<|Ae I<|Aw<|Aw<|Bq I I<|Ae I<|Aw<|Aw<|Bq I I<|Ab (Bz I)<|Aa<|d0 false c0 (Br _ _) h
 refine AH (Ak I)<|AH (FV.geqN (i:=b0.toNat) (j:=48) I I)<|AH (Ak I)<|BG (s:=31) I h (fun I0 h=>?_) (fun I0 h=>?_)
 refine AH (Ak I)<|AH (FV.leqN (i:=b0.toNat) (j:=57) I I)<|AH (BY I I)<|By I I<|Ae I<|BG (s:=36) I h (fun J0 h=>?_) (fun J0 h=>?_)
 refine Aw<|Aw<|Bq I I<|Ae I<|Aw<|Aw<|Bq I I<|Ab (Bz I)<|Aa<|d0 false c0 (Br _ _) h
 refine AH (Ak I)<|AH (BZ (i:=b0.toNat) (j:=45) I I)<|By I I<|Ae I<|BG (s:=40) I h (fun K0 h=>?_) (fun K0 h=>?_)
 refine Aw<|Aw<|Bq I I<|Ab (Bz I)<|Aa<|d0 false c0 (Br _ _) h
 refine AH (Ak I)<|AH (BZ (i:=b0.toNat) (j:=95) I I)<|By I I<|Ab (Bz I)<|Aa<|d0 (!(decide (b0.toNat = 95))) c0 (Br _ _) h
 refine Aw<|Aw<|AH (BA I I)<|By I I<|Ae I<|AH (Ak I)<|AH (BZ (i:=b0.toNat) (j:=45) I I)<|By I I<|Ae I<|BG (s:=40) I h (fun M0 h=>?_) (fun M0 h=>?_)
 refine Aw<|Aw<|Bq I I<|Ab (Bz I)<|Aa<|d0 false c0 (Br _ _) h
 refine AH (Ak I)<|AH (BZ (i:=b0.toNat) (j:=95) I I)<|By I I<|Ab (Bz I)<|Aa<|d0 (!(decide (b0.toNat = 95))) c0 (Br _ _) h
 refine Aw<|Aw<|AH (BA I I)<|By I I<|Ae I<|AH (Ak I)<|AH (FV.geqN (i:=b0.toNat) (j:=48) I I)<|AH (Ak I)<|BG (s:=31) I h (fun P0 h=>?_) (fun P0 h=>?_)
 refine AH (Ak I)<|AH (FV.leqN (i:=b0.toNat) (j:=57) I I)<|AH (BY I I)<|By I I<|Ae I<|BG (s:=36) I h (fun Q0 h=>?_) (fun Q0 h=>?_)
 refine Aw<|Aw<|Bq I I<|Ae I<|Aw<|Aw<|Bq I I<|Ab (Bz I)<|Aa<|d0 false c0 (Br _ _) h
 refine AH (Ak I)<|AH (BZ (i:=b0.toNat) (j:=45) I I)<|By I I<|Ae I<|BG (s:=40) I h (fun R0 h=>?_) (fun R0 h=>?_)
 refine Aw<|Aw<|Bq I I<|Ab (Bz I)<|Aa<|d0 false c0 (Br _ _) h
 refine AH (Ak I)<|AH (BZ (i:=b0.toNat) (j:=95) I I)<|By I I<|Ab (Bz I)<|Aa<|d0 (!(decide (b0.toNat = 95))) c0 (Br _ _) h
 refine Aw<|Aw<|AH (BA I I)<|By I I<|Ae I<|AH (Ak I)<|AH (BZ (i:=b0.toNat) (j:=45) I I)<|By I I<|Ae I<|BG (s:=40) I h (fun U0 h=>?_) (fun U0 h=>?_)
 refine Aw<|Aw<|Bq I I<|Ab (Bz I)<|Aa<|d0 false c0 (Br _ _) h
 refine AH (Ak I)<|AH (BZ (i:=b0.toNat) (j:=95) I I)<|By I I<|Ab (Bz I)<|Aa<|d0 (!(decide (b0.toNat = 95))) c0 (Br _ _) h
 refine Bj I ?_
 have h:=aI h p0
 try dsimp only at h
 refine Ac<|Ae I<|Ab (Cc underlying9 I)<|Ab (FV.geqN (i:=a0.size) (j:=1) I I)<|Ae I<|BG (s:=48) I h (fun V0 h=>?_) (fun V0 h=>?_)
 refine AH (Ak I)<|AH (Cc underlying9 I)<|AH (FV.leqN (i:=a0.size) (j:=12) I I)<|Bq I I<|Ag I<|Aa<|Ao I<|Bi hb0 func132 I I ?_
 cases h
 exact c0.gv
 refine Aw<|Aw<|Aw<|By I I<|Ag I<|Aa<|Ao I<|Bi hb0 func132 I I ?_
 cases h
 exact c0.gv
def aw_l1 (_n:Nat) (a0:La Int) (a2:Int) (d0:Nat -> Oa (Bool ⊕ Unit)):Nat -> Oa (Bool ⊕ Unit)
  | b0=>(if b0 < a0.length then (a0[b0]?).bind fun c0=>(if c0 < 0 then some (.inl false) else (if a2 < c0 then some (.inl false) else d0 (b0 + 1))) else some (.inr ()))
def aw_p (n:Nat) (a0:La Int) (a1:Int) (a2:Int):Oa Bool:=
  thn (au (aw_l1 n a0 a2) n 0) (fun _=>some (decide (((a0.length:Nat):Int) = a1)))
theorem aw_c (n:Nat) {L w} (_hL:hl L w) {a0:La Int} {v0_0:Vc} (h0_0:Rep.R w L [v0_0] a0) {a1:Int} {a2:Int}  {r:Bool} (h:aw_p n a0 a1 a2 = some r) :
 Cl 133 #[v0_0,vI a1,vI a2] w (aj w fun _ u=>u = .bool r):=by
 unfold aw_p at h
 refine AK func133 I I I fun _ cs0 hb0=>Ac<|Ag I<|Aa<|Aj<|Ac<|Ag I<|Aa<|AF<|tn h fun H0 A0 g0=>MX.lo (α:=Nat) (fun b0=>[(0,v0_0),(1,vI a1),(2,vI a2),(7,vn b0)]) (fun b0=>[]) (fun b0=>b0) 0 A0 (AD w) ?_
 rintro E0 b0 I0 x0 c0 y0 h
 unfold aw_l1 at h
 try dsimp only at h
 refine Aj<|Ac<|Ae I<|Ae I ?_
 have d0:=Bb h0_0 c0
 have G0:=Bh d0
 refine Ab (Bk (xs:=a0) underlying34 I d0)<|Ab (BD (i:=b0) (j:=a0.length) I I)<|Aa<|Be I h (fun s0 h=>?_) (fun s0 h=>?_)
 refine Az<|Aj<|AF<|Ac<|Ae I<|Ae I<|bk h fun j0 C0 h=>?_
 obtain ⟨D0,F0,k0,p0,v0,B0,q0⟩:=Bw d0 C0
 have z0:v0 = [vI j0]:=B0; subst z0
 refine Ab (BE 1 b0 I k0 I I p0)<|AY I (q0 0 _ I)<|Ab (FV.lss (i:=j0) (j:=0) I I)<|Ae I<|BG (s:=19) I h (fun t0 h=>?_) (fun t0 h=>?_)
 refine Aw<|Aw<|Aw<|Aw<|Aw<|Aw<|Bq I I<|Aa<|Bg I<|Ac<|Ag I<|Aa ?_
 have h:=ar h g0
 refine Ao I<|Bi hb0 func133 I I ?_
 cases h
 exact c0.gv
 refine AH (Ak I)<|AH (Ak I)<|AH (BE 1 b0 I k0 I I p0)<|AH (AN I (q0 0 _ I))<|AH (Ak I)<|AH (FV.gtr (i:=j0) (j:=a2) I I)<|By I I<|Aa<|Be I h (fun u0 h=>?_) (fun u0 h=>?_)
 refine Ac<|Ag I<|Aa ?_
 have h:=ar h g0
 refine Ao I<|Bi hb0 func133 I I ?_
 cases h
 exact c0.gv
 refine Az<|AI<|Av<|Ae I<|Ab (Bu (i:=b0) (j:=1) I I (by omega))<|Ag I<|Aa<|x0 (b0 + 1) c0 y0 h
 refine Bj I ?_
 have h:=aI h g0
 try dsimp only at h
 refine Ac<|Ae I<|Ab (Bk (xs:=a0) underlying34 I d0)<|Ae I<|Ab (FV.eql (i:=((a0.length:Nat):Int)) (j:=a1) I I)<|Ag I<|Aa<|Ao I<|Bi hb0 func133 I I ?_
 cases h
 exact c0.gv
def cg_p (n:Nat) (a0:Te) (a1:Tb):Oa Bool:=
  (bC_p n a1.fB).bind fun b0=>(if b0 = true then (if a1.ft < 0 then some false else (if 1000000000 < a1.ft then some false else (aw_p n a1.fl a0.fl a1.ft).bind fun c0=>(if c0 = true then (aw_p n a1.fH a0.fj (1000000000:Int)).bind fun d0=>(if d0 = true then (aw_p n a1.fI a0.fm (63:Int)).bind fun g0=>(if g0 = true then (if a1.fp = true then (if a1.ft = 0 then (aw_p n a1.fH a0.fj (0:Int)).bind fun j0=>(if j0 = true then (aw_p n a1.fI a0.fm (0:Int)).bind fun k0=>some k0 else some false) else some false) else some true) else some false) else some false) else some false))) else some false)
theorem cg_c (n:Nat) {L w} (hL:hl L w) (a0:Te) {v0_3:Vc} (_h0_3:Rep.R w L [v0_3] a0.fv) (a1:Tb) {v1_2:Vc} (h1_2:Rep.R w L [v1_2] a1.fl) {v1_3:Vc} (h1_3:Rep.R w L [v1_3] a1.fH) {v1_4:Vc} (h1_4:Rep.R w L [v1_4] a1.fI)  {r:Bool} (h:cg_p n a0 a1 = some r) :
 Cl 103 #[.agg #[vI a0.fl,vI a0.fj,vI a0.fm,v0_3],.agg #[.string a1.fB,vI a1.ft,v1_2,v1_3,v1_4,.bool a1.fp]] w (aj w fun _ u=>u = .bool r):=by
 unfold cg_p at h
 refine AK func103 I I I fun _ cs0 hb0=>Ac<|RG.bx (AD w) I I fun Q0 J0 v0 M0=>RG.bx v0 I I fun R0 K0 b0 P0=>Ag I<|Aa<|Aj<|Ac<|Ba 0 I<|AY I ((b0.memA .hd) 0 _ I)<|bk h fun D0 x0 h=>Bm (.bool D0) (bd 132) I (e1 I) (fun p q=>bC_c n (b0.hL0 hL q)  x0) I<|Ab (Bz I)<|Ae I<|RG.ifnb (s:=9) I h (fun c0 h=>?_) (fun c0 h=>?_)
 refine RG.fg 1 I<|AH (AN I ((b0.memA .hd) 1 _ I))<|AH (FV.lss (i:=a1.ft) (j:=0) I I)<|By I I<|Ae I<|BG (s:=14) I h (fun d0 h=>?_) (fun d0 h=>?_)
 refine Aw<|Aw<|Aw<|Bq I I<|Aa<|Bg I<|Ac<|Ag I<|Aa<|Ao I<|Bi hb0 func103 I I ?_
 cases h
 exact b0.gv
 refine RG.fg 1 I<|AH (AN I ((b0.memA .hd) 1 _ I))<|AH (FV.gtr (i:=a1.ft) (j:=1000000000) I I)<|By I I<|Aa<|Be I h (fun g0 h=>?_) (fun g0 h=>?_)
 refine Ac<|Ag I<|Aa<|Ao I<|Bi hb0 func103 I I ?_
 cases h
 exact b0.gv
 refine Az<|Aj<|Ac<|Ba 2 I<|AY I ((b0.memA .hd) 2 _ I)<|Ba 0 I<|AY I ((b0.memA .t1) 0 _ I)<|Ba 1 I<|AY I ((b0.memA .hd) 1 _ I)<|bk h fun E0 y0 h=>Bm (.bool E0) (bd 133) I (e3 I I I) (fun p q=>aw_c n (b0.hL0 hL q) (b0.k0 h1_2 q) y0) I<|Ab (Bz I)<|Ae I<|RG.ifnb (s:=27) I h (fun j0 h=>?_) (fun j0 h=>?_)
 refine RG.fg 3 I<|AH (AN I ((b0.memA .hd) 3 _ I))<|RG.fg 1 I<|AH (AN I ((b0.memA .t1) 1 _ I))<|bk h fun F0 z0 h=>RG.callq' (v:=.bool F0) (fst:=[]) (cap:=[]) (.yes I I) (bd 133) I (e3 I I I) (fun p q=>aw_c n (b0.hL0 hL q) (b0.k0 h1_3 q) z0) I<|AH (Bz I)<|By I I<|Ae I<|RG.ifnb (s:=35) I h (fun p0 h=>?_) (fun p0 h=>?_)
 refine RG.fg 4 I<|AH (AN I ((b0.memA .hd) 4 _ I))<|RG.fg 2 I<|AH (AN I ((b0.memA .t1) 2 _ I))<|bk h fun G0 A0 h=>RG.callq' (v:=.bool G0) (fst:=[]) (cap:=[]) (.yes I I) (bd 133) I (e3 I I I) (fun p q=>aw_c n (b0.hL0 hL q) (b0.k0 h1_4 q) A0) I<|AH (Bz I)<|By I I<|Aa<|MX.ifnb I h (fun q0 h=>?_) (fun q0 h=>?_)
 refine Az<|Aj<|Ac<|Ba 5 I<|AY I ((b0.memA .hd) 5 _ I)<|Aa<|MX.ifb I h (fun s0 h=>?_) (fun s0 h=>?_)
 refine Ac<|Ba 1 I<|AY I ((b0.memA .hd) 1 _ I)<|Ab (FV.eql (i:=a1.ft) (j:=0) I I)<|Ae I<|BG (s:=48) I h (fun t0 h=>?_) (fun t0 h=>?_)
 refine RG.fg 3 I<|AH (AN I ((b0.memA .hd) 3 _ I))<|RG.fg 1 I<|AH (AN I ((b0.memA .t1) 1 _ I))<|bk h fun H0 B0 h=>RG.callq' (v:=.bool H0) (fst:=[]) (cap:=[]) (.yes I I) (bd 133) I (e3 I I I) (fun p q=>aw_c n (b0.hL0 hL q) (b0.k0 h1_3 q) B0) I<|Bq I I<|Ae I<|RG.ifb (s:=55) I h (fun u0 h=>?_) (fun u0 h=>?_)
 refine RG.fg 4 I<|AH (AN I ((b0.memA .hd) 4 _ I))<|RG.fg 2 I<|AH (AN I ((b0.memA .t1) 2 _ I))<|bk h fun I0 C0 h=>RG.callq' (v:=.bool I0) (fst:=[]) (cap:=[]) (.yes I I) (bd 133) I (e3 I I I) (fun p q=>aw_c n (b0.hL0 hL q) (b0.k0 h1_4 q) C0) I<|Bq I I<|Ag I<|Aa<|Ao I<|Bi hb0 func103 I I ?_
 cases h
 exact b0.gv
 refine Aw<|Aw<|Aw<|Aw<|Aw<|By I I<|Ag I<|Aa<|Ao I<|Bi hb0 func103 I I ?_
 cases h
 exact b0.gv
 refine Aw<|Aw<|Aw<|Aw<|Aw<|By I I<|Ae I<|Aw<|Aw<|Aw<|Aw<|Aw<|By I I<|Ag I<|Aa<|Ao I<|Bi hb0 func103 I I ?_
 cases h
 exact b0.gv
 refine Az<|Ac<|Ag I<|Aa<|Ao I<|Bi hb0 func103 I I ?_
 cases h
 exact b0.gv
 refine Ac<|Ag I<|Aa<|Ao I<|Bi hb0 func103 I I ?_
 cases h
 exact b0.gv
 refine Aw<|Aw<|Aw<|Aw<|Aw<|Aw<|Bq I I<|Aa<|Bg I<|Ac<|Ag I<|Aa<|Ao I<|Bi hb0 func103 I I ?_
 cases h
 exact b0.gv
 refine Aw<|Aw<|Aw<|Aw<|Aw<|Aw<|Bq I I<|Ae I<|Aw<|Aw<|Aw<|Aw<|Aw<|Aw<|Bq I I<|Aa<|Bg I<|Ac<|Ag I<|Aa<|Ao I<|Bi hb0 func103 I I ?_
 cases h
 exact b0.gv
 refine Aw<|Aw<|Aw<|Bq I I<|Ae I<|Aw<|Aw<|Aw<|Bq I I<|Aa<|Bg I<|Ac<|Ag I<|Aa<|Ao I<|Bi hb0 func103 I I ?_
 cases h
 exact b0.gv
def ap_l1 (_n:Nat) (j0:Nat) (a0:Te) (d0:Tb) (c0:Nat -> Oa ((Int ⊕ Unit) ⊕ Unit)):Nat -> Oa ((Int ⊕ Unit) ⊕ Unit)
  | b0=>(if b0 < j0 then (a0.fv[b0]?).bind fun g0=>(if g0.fB = d0.fB then some (.inl (.inl (161:Int))) else (if g0.fp = true then (if d0.fp = true then c0 (b0 + 1) else some (.inl (.inl (161:Int)))) else c0 (b0 + 1))) else some (.inr ()))
def ap_l2 (n:Nat) (a0:Te) (d0:Nat -> Oa (Int ⊕ Unit)):Nat -> Oa (Int ⊕ Unit)
  | b0=>(if b0 < a0.fv.length then (a0.fv[b0]?).bind fun c0=>(cg_p n a0 c0).bind fun g0=>(if g0 = true then thn (au (ap_l1 n b0 a0 c0) n 0) (fun _=>d0 (b0 + 1)) else some (.inl (161:Int))) else some (.inr ()))
def ap_p (n:Nat) (a0:Te):Oa Int:=
  jn (fun c0=>(if c0 = true then some (161:Int) else (if a0.fv.length < 1 then some (161:Int) else (if 64 < a0.fv.length then some (161:Int) else (a0.fv[0]?).bind fun d0=>(if d0.fp = true then some (161:Int) else thn (au (ap_l2 n a0) n 0) (fun _=>some (0:Int))))))) (fun b0=>(if a0.fl < 0 then b0 true else (if 6 < a0.fl then b0 true else (if a0.fj < 0 then b0 true else (if 12 < a0.fj then b0 true else (if a0.fm < 0 then b0 true else b0 (decide (3 < a0.fm))))))))
theorem ap_c (n:Nat) {L w} (hL:hl L w) (a0:Te) {v0_3:Vc} (h0_3:Rep.R w L [v0_3] a0.fv)  {r:Int} (h:ap_p n a0 = some r) :
 Cl 68 #[.agg #[vI a0.fl,vI a0.fj,vI a0.fm,v0_3]] w (aj w fun _ u=>u = vI r):=by
 unfold ap_p at h
 refine AK func68 I I I fun _ cs0 hb0=>Ac<|RG.bx (AD w) I I fun Z2 v0 d0 t2=>Ag I<|Aa<|Aj<|Aj<|MX.jo (α:=Bool) (fun y0=>[(1,vP v0),(32,.bool y0)]) (fun y0=>[.cells v0 [vI a0.fl,vI a0.fj,vI a0.fm,v0_3] 31]) (fun y0=>y0) d0 h ?_ ?_
 rintro y0 c3 s0 u2 h
 try dsimp only at h
 refine MX.ifb I h (fun V0 h=>?_) (fun V0 h=>?_)
 refine Ac<|Ag I<|Aa<|Ao I<|Bi hb0 func68 I I ?_
 cases h
 exact s0.gv
 refine Az<|Aj<|Ac<|Ba 3 I<|AY I ((s0.memA .hd) 3 _ I) ?_
 have A0:=Bb h0_3 s0
 have v2:=Bh A0
 refine Ab (Bk (xs:=a0.fv) underlying29 I A0)<|Ab (BD (i:=a0.fv.length) (j:=1) I I)<|Ae I<|BG (s:=37) I h (fun j1 h=>?_) (fun j1 h=>?_)
 refine Aw<|Aw<|Aw<|Aw<|Bq I I<|Ae I<|Aw<|Aw<|Aw<|Aw<|Aw<|Bq I I<|Aa<|Bg I<|Ac<|Ag I<|Aa<|Ao I<|Bi hb0 func68 I I ?_
 cases h
 exact s0.gv
 refine RG.fg 3 I<|AH (AN I ((s0.memA .hd) 3 _ I))<|AH (Bk (xs:=a0.fv) underlying29 I A0)<|AH (FV.gtrN (i:=a0.fv.length) (j:=64) I I)<|By I I<|Ae I<|BG (s:=43) I h (fun k1 h=>?_) (fun k1 h=>?_)
 refine Aw<|Aw<|Aw<|Aw<|Aw<|Bq I I<|Aa<|Bg I<|Ac<|Ag I<|Aa<|Ao I<|Bi hb0 func68 I I ?_
 cases h
 exact s0.gv
 refine RG.fg 3 I<|AH (AN I ((s0.memA .hd) 3 _ I))<|bk h fun j3 M1 h=>?_
 obtain ⟨X1,j2,v1,y1,s2,J1,A1⟩:=Bw A0 M1
 obtain ⟨W2,X2,Y2,rfl,D2,E2,F2⟩:=ba J1
 refine AH (BE 6 0 I v1 I I y1)<|RG.fg 5 I<|AH (AN I (A1 5 _ I))<|By I I<|Aa<|MX.ifb I h (fun p1 h=>?_) (fun p1 h=>?_)
 refine Ac<|Ag I<|Aa<|Ao I<|Bi hb0 func68 I I ?_
 cases h
 exact s0.gv
 refine Az<|Aj<|Ac<|Ag I<|Aa<|AF<|tn h fun G2 B1 z0=>MX.lo (α:=Nat) (fun g0=>[(1,vP v0),(3,vn g0)]) (fun g0=>[.cells v0 [vI a0.fl,vI a0.fj,vI a0.fm,v0_3] 31]) (fun g0=>g0) 0 B1 s0 ?_
 rintro Y1 g0 b3 q1 j0 s1 h
 unfold ap_l2 at h
 try dsimp only at h
 refine Aj<|Ac<|Ae I<|Ba 3 I<|AY I ((j0.memA .hd) 3 _ I) ?_
 have I0:=Bb h0_3 j0
 refine Ab (Bk (xs:=a0.fv) underlying29 I I0)<|Ab (BD (i:=g0) (j:=a0.fv.length) I I)<|Aa<|Be I h (fun Q0 h=>?_) (fun Q0 h=>?_)
 refine Az<|Aj<|AF<|Aj<|Aj<|du 8 fun t0 u0=>Rx 0 192 t0 I u0 (AC I (j0.memA .hd))<|Rv 1 t0 I u0 (fun _=>AS 3 I)<|Rx 2 240 t0 I u0 (AN I ((j0.memA .hd) 3 _ I))<|Rv 3 t0 I u0 (fun _=>Ak I)<|bk h fun Q1 P0 h=>?_
 obtain ⟨U1,c2,u1,x1,k2,D1,z1⟩:=Bw I0 P0
 obtain ⟨I2,J2,K2,rfl,E1,F1,G1⟩:=ba D1
 refine Rv 4 t0 I u0 (fun _=>BE 6 g0 I u1 I I x1)<|Rx 5 192 t0 I u0 (AC I z1)<|bk h fun R1 P1 h=>BQ 6 127 128 (.bool R1) t0 I u0 (bd 103) I (e2 I I) (fun p q=>cg_c n (j0.hL0 hL q) a0 (j0.k0 h0_3 q) Q1 (j0.kd E1 q) (j0.kd F1 q) (j0.kd G1 q) P1) I<|Rv 7 t0 I u0 (fun _=>Bz I)<|AO (dk t0)<|MX.ifnb I h (fun R0 h=>?_) (fun R0 h=>?_)
 refine Az<|Ac<|Ag I<|Aa<|AF<|tn h fun H2 C1 C0=>MX.lo (α:=Nat) (fun p0=>[(1,vP v0),(3,vn g0),(4,vn p0)]) (fun p0=>[.cells v0 [vI a0.fl,vI a0.fj,vI a0.fm,v0_3] 31]) (fun p0=>p0) 0 C1 j0 ?_
 rintro Z1 p0 d3 D0 q0 B0 h
 unfold ap_l1 at h
 try dsimp only at h
 refine Aj<|Ac<|Ae I<|Ae I<|Ab (BD (i:=p0) (j:=g0) I I)<|Aa<|Be I h (fun U0 h=>?_) (fun U0 h=>?_)
 refine Az<|Aj<|AF<|Aj<|du 30 fun b0 c0=>Rv 0 b0 I c0 (fun _=>AS 3 I)<|Rx 1 1073737784 b0 I c0 (AN I ((q0.memA .hd) 3 _ I))<|Rv 2 b0 I c0 (fun _=>Ak I)<|bk h fun g3 K1 h=>?_
 have K0:=Bb h0_3 q0
 obtain ⟨V1,d2,E0,G0,p2,H1,J0⟩:=Bw K0 K1
 obtain ⟨M2,P2,Q2,rfl,x2,y2,z2⟩:=ba H1
 refine Rv 3 b0 I c0 (fun _=>BE 6 p0 I E0 I I G0)<|Rv 4 b0 I c0 (fun _=>AS 0 I)<|Rx 5 1073737728 b0 I c0 (AN I (J0 0 _ I))<|Rv 6 b0 I c0 (fun _=>AS 3 I)<|Rx 7 1073741312 b0 I c0 (AN I ((q0.memA .hd) 3 _ I))<|Rv 8 b0 I c0 (fun _=>Ak I) ?_
 obtain ⟨W1,g2,F0,H0,q2,I1,M0⟩:=Bw K0 P0
 obtain ⟨R2,U2,V2,rfl,A2,B2,C2⟩:=ba I1
 refine Rv 9 b0 I c0 (fun _=>BE 6 g0 I F0 I I H0)<|Rv 10 b0 I c0 (fun _=>AS 0 I)<|Rx 11 1073737728 b0 I c0 (AN I (M0 0 _ I))<|Rv 12 b0 I c0 (fun _=>FV.eqlS I I)<|Rv 13 b0 I c0 (fun _=>Ak I)<|RD.ifd (s:=83) I h (fun W0 h=>?_) (fun W0 h=>?_)
 refine BS 536870911 1 [(14,84),(15,85),(16,86),(17,87),(18,88),(19,89),(20,90),(21,91),(22,92),(23,93),(24,94),(25,95),(26,96),(27,97),(28,98)] (F:=[(83,true)]) (U:=[]) b0 c0 (.cons I .nil) .nil ?_
 dsimp only [bg,List.map]
 refine Rv 29 b0 I c0 (fun _=>BY I I)<|AO (dk b0)<|Bg I<|Ac<|Ag I<|Aa ?_
 have h:=ar h C0
 have h:=ar h z0
 refine Ao I<|Bi hb0 func68 I I ?_
 cases h
 exact q0.gv
 refine RD.vP 14 32767 b0 I c0 (.yes I I) (fun _=>AS 3 I) I<|RD.val (i:=15) (m' :=65535) (W:=1073610752) (tk b0) I c0 (.yes I I) (AN I ((q0.memA .hd) 3 _ I)) I<|RD.vP 16 131071 b0 I c0 (.yes I I) (fun _=>Ak I) I<|RD.vP 17 262143 b0 I c0 (.yes I I) (fun _=>BE 6 p0 I E0 I I G0) I<|RD.vP 18 524287 b0 I c0 (.yes I I) (fun _=>AS 5 I) I<|RD.val (i:=19) (m' :=1048575) (W:=1072693248) (tk b0) I c0 (.yes I I) (AN I (J0 5 _ I)) I<|RD.vP 20 2097151 b0 I c0 (.yes I I) (fun _=>Ak I) I<|RD.ifb (s:=90) I h (fun X0 h=>?_) (fun X0 h=>?_)
 refine RD.vP 21 4194303 b0 I c0 (.yes I I) (fun _=>AS 3 I) I<|RD.val (i:=22) (m' :=8388607) (W:=1056964608) (tk b0) I c0 (.yes I I) (AN I ((q0.memA .hd) 3 _ I)) I<|RD.vP 23 16777215 b0 I c0 (.yes I I) (fun _=>Ak I) I<|RD.vP 24 33554431 b0 I c0 (.yes I I) (fun _=>BE 6 g0 I F0 I I H0) I<|RD.vP 25 67108863 b0 I c0 (.yes I I) (fun _=>AS 5 I) I<|RD.val (i:=26) (m' :=134217727) (W:=939524096) (tk b0) I c0 (.yes I I) (AN I (M0 5 _ I)) I<|RD.vP 27 268435455 b0 I c0 (.yes I I) (fun _=>Bz I) I<|RD.vP 28 536870911 b0 I c0 (.yes I I) (fun _=>BY I I) I<|Rv 29 b0 I c0 (fun _=>BA I I)<|AO (dk b0)<|MX.ifnb I h (fun Y0 h=>?_) (fun Y0 h=>?_)
 refine Az<|AI<|Av<|Ae I<|Ab (Bu (i:=p0) (j:=1) I I (by omega))<|Ag I<|Aa<|D0 (p0 + 1) q0 B0 h
 refine Ac<|Ag I<|Aa ?_
 have h:=ar h C0
 have h:=ar h z0
 refine Ao I<|Bi hb0 func68 I I ?_
 cases h
 exact q0.gv
 refine BS 268435455 2 [(21,91),(22,92),(23,93),(24,94),(25,95),(26,96),(27,97)] (F:=[(90,false)]) (U:=[]) b0 c0 (.cons I .nil) .nil ?_
 dsimp only [bg,List.map]
 refine RD.vP 28 536870911 b0 I c0 (.yes I I) (fun _=>BA I I) I<|Rv 29 b0 I c0 (fun _=>BA I I)<|AO (dk b0)<|BP I<|Az<|AI<|Av<|Ae I<|Ab (Bu (i:=p0) (j:=1) I I (by omega))<|Ag I<|Aa<|D0 (p0 + 1) q0 B0 h
 refine Bj I ?_
 have h:=aI h C0
 try dsimp only at h
 refine AI<|Av<|Ae I<|Ab (Bu (i:=g0) (j:=1) I I (by omega))<|Ag I<|Aa<|q1 (g0 + 1) q0 (Tt s1 B0) h
 refine Ac<|Ag I<|Aa ?_
 have h:=ar h z0
 refine Ao I<|Bi hb0 func68 I I ?_
 cases h
 exact j0.gv
 refine Bj I ?_
 have h:=aI h z0
 try dsimp only at h
 refine Ac<|Ag I<|Aa<|Ao I<|Bi hb0 func68 I I ?_
 cases h
 exact j0.gv
 intro b2 x0 h
 try dsimp only at h
 refine Av<|Ba 0 I<|AY I ((d0.memA .hd) 0 _ I)<|Ab (FV.lss (i:=a0.fl) (j:=0) I I)<|Ae I<|BG (s:=8) I h (fun Z0 h=>?_) (fun Z0 h=>?_)
 refine Aw<|Aw<|Aw<|Bq I I<|Ae I<|Aw<|Aw<|Aw<|Bq I I<|Ae I<|Aw<|Aw<|Aw<|Bq I I<|Ae I<|Aw<|Aw<|Aw<|Bq I I<|Ae I<|Aw<|Aw<|Aw<|Bq I I<|Aa<|x0 true d0 (Br _ _) h
 refine RG.fg 0 I<|AH (AN I ((d0.memA .hd) 0 _ I))<|AH (FV.gtr (i:=a0.fl) (j:=6) I I)<|By I I<|Ae I<|BG (s:=13) I h (fun b1 h=>?_) (fun b1 h=>?_)
 refine Aw<|Aw<|Aw<|Bq I I<|Ae I<|Aw<|Aw<|Aw<|Bq I I<|Ae I<|Aw<|Aw<|Aw<|Bq I I<|Ae I<|Aw<|Aw<|Aw<|Bq I I<|Aa<|x0 true d0 (Br _ _) h
 refine RG.fg 1 I<|AH (AN I ((d0.memA .hd) 1 _ I))<|AH (FV.lss (i:=a0.fj) (j:=0) I I)<|By I I<|Ae I<|BG (s:=18) I h (fun c1 h=>?_) (fun c1 h=>?_)
 refine Aw<|Aw<|Aw<|Bq I I<|Ae I<|Aw<|Aw<|Aw<|Bq I I<|Ae I<|Aw<|Aw<|Aw<|Bq I I<|Aa<|x0 true d0 (Br _ _) h
 refine RG.fg 1 I<|AH (AN I ((d0.memA .hd) 1 _ I))<|AH (FV.gtr (i:=a0.fj) (j:=12) I I)<|By I I<|Ae I<|BG (s:=23) I h (fun d1 h=>?_) (fun d1 h=>?_)
 refine Aw<|Aw<|Aw<|Bq I I<|Ae I<|Aw<|Aw<|Aw<|Bq I I<|Aa<|x0 true d0 (Br _ _) h
 refine RG.fg 2 I<|AH (AN I ((d0.memA .hd) 2 _ I))<|AH (FV.lss (i:=a0.fm) (j:=0) I I)<|By I I<|Ae I<|BG (s:=28) I h (fun g1 h=>?_) (fun g1 h=>?_)
 refine Aw<|Aw<|Aw<|Bq I I<|Aa<|x0 true d0 (Br _ _) h
 refine RG.fg 2 I<|AH (AN I ((d0.memA .hd) 2 _ I))<|AH (FV.gtr (i:=a0.fm) (j:=3) I I)<|By I I<|Aa<|x0 (decide (3 < a0.fm)) d0 (Br _ _) h

def bD_p (n:Nat) (a0:Te) (a1:Int) (a2:Int):Oa Int:=
  (ap_p n a0).bind fun b0=>(if b0 = 0 then (if a1 < 0 then some (2:Int) else (if a0.fl <= a1 then some (2:Int) else (if a2 < 0 then some (2:Int) else (if a0.fj <= a2 then some (2:Int) else some (0:Int))))) else some b0)
theorem bD_c (n:Nat) {L w} (hL:hl L w) (a0:Te) {v0_3:Vc} (h0_3:Rep.R w L [v0_3] a0.fv) {a1:Int} {a2:Int}  {r:Int} (h:bD_p n a0 a1 a2 = some r) :
 Cl 30 #[.agg #[vI a0.fl,vI a0.fj,vI a0.fm,v0_3],vI a1,vI a2] w (aj w fun _ u=>u = vI r):=by
 unfold bD_p at h
 refine AK func30 I I I fun _ cs0 hb0=>Ac<|RG.bx (AD w) I I fun v0 t0 b0 u0=>Ag I<|Aa<|Aj<|Ac<|Ab (AC I (b0.memA .hd))<|bk h fun c0 s0 h=>Bm (vI c0) (bd 68) I (e1 I) (fun w9 hw9=>ap_c n (b0.hL0 hL hw9) a0 (b0.k0 h0_3 hw9) s0) I<|Ag I<|Aa<|Ac<|Ae I<|Ab (FV.neq (i:=c0) (j:=0) I I)<|Aa<|MX.ifn I h (fun d0 h=>?_) (fun d0 h=>?_)
 refine Az<|Aj<|Ac<|Ae I<|Ab (FV.lss (i:=a1) (j:=0) I I)<|Ae I<|BG (s:=15) I h (fun g0 h=>?_) (fun g0 h=>?_)
 refine Aw<|Aw<|Aw<|Aw<|Bq I I<|Ae I<|Aw<|Aw<|Bq I I<|Ae I<|Aw<|Aw<|Aw<|Aw<|Bq I I<|Aa<|Bg I<|Ac<|Ag I<|Aa<|Ao I<|Bi hb0 func30 I I ?_
 cases h
 exact b0.gv
 refine AH (Ak I)<|RG.fg 0 I<|AH (AN I ((b0.memA .hd) 0 _ I))<|AH (FV.geq (i:=a1) (j:=a0.fl) I I)<|By I I<|Ae I<|BG (s:=21) I h (fun j0 h=>?_) (fun j0 h=>?_)
 refine Aw<|Aw<|Bq I I<|Ae I<|Aw<|Aw<|Aw<|Aw<|Bq I I<|Aa<|Bg I<|Ac<|Ag I<|Aa<|Ao I<|Bi hb0 func30 I I ?_
 cases h
 exact b0.gv
 refine AH (Ak I)<|AH (FV.lss (i:=a2) (j:=0) I I)<|By I I<|Ae I<|BG (s:=25) I h (fun p0 h=>?_) (fun p0 h=>?_)
 refine Aw<|Aw<|Aw<|Aw<|Bq I I<|Aa<|Bg I<|Ac<|Ag I<|Aa<|Ao I<|Bi hb0 func30 I I ?_
 cases h
 exact b0.gv
 refine AH (Ak I)<|RG.fg 1 I<|AH (AN I ((b0.memA .hd) 1 _ I))<|AH (FV.geq (i:=a2) (j:=a0.fj) I I)<|By I I<|Aa<|Be I h (fun q0 h=>?_) (fun q0 h=>?_)
 refine Ac<|Ag I<|Aa<|Ao I<|Bi hb0 func30 I I ?_
 cases h
 exact b0.gv
 refine Az<|Ac<|Ag I<|Aa<|Ao I<|Bi hb0 func30 I I ?_
 cases h
 exact b0.gv
 refine Ac<|Ae I<|Ag I<|Aa<|Ao I<|Bi hb0 func30 I I ?_
 cases h
 exact b0.gv
def aA_l1 (_n:Nat) (a0:La Int) (c0:Int -> Oa Int):Int -> Oa Int
  | b0=>(if 0 < b0 then (chk (b0 - 1)).bind fun d0=>(idx a0 d0).bind fun j0=>(if j0 = 0 then (chk (b0 - 1)).bind fun g0=>c0 g0 else some b0) else some b0)
def aA_p (n:Nat) (a0:La Int):Oa (La Int):=
  jn (fun d0=>(cut a0 0 d0).bind fun c0=>some c0) (fun b0=>Option.bind (au (aA_l1 n a0) n ((a0.length:Nat):Int)) (b0))
theorem aA_c (n:Nat) {L w} (_hL:hl L w) {a0:La Int} {v0_0:Vc} (h0_0:Rep.R w L [v0_0] a0)  {r:La Int} (h:aA_p n a0 = some r) :
 Cl 174 #[v0_0] w (aj w fun w' u=>∃ v0_0:Vc,u = v0_0/\Rep.R w' L [v0_0] r):=by
 unfold aA_p at h
 have hS0:=AD w
 refine AK func174 I I I fun _ cs0 hb0=>Ac<|Ag I<|Aa<|Ac<|Ae I ?_
 have hl1:=Bh h0_0
 refine Ab (Bk (xs:=a0) underlying34 I h0_0)<|Ag I<|Aa<|Aj<|AF<|MX.xo (α:=Int) 0 (fun c0=>[(0,v0_0),(3,vI c0)]) (fun c0=>[]) (fun c0=>c0) hS0 I h ?_ ?_
 rintro c0 Y0 g0 W0 h
 try dsimp only at h
 refine Ac<|Ae I<|Ae I<|bk h fun b1 J0 h=>RG.valE .plain I (FV.cutL (α:=Int) J0 I I (Bb h0_0 g0) I ⟨_,I⟩) fun P0 D0=>Ag I<|Aa<|Ao I<|Bi hb0 func174 I I ?_
 cases h
 exact ⟨g0.ag,fun w9 hw9=>⟨P0,I,g0.kd D0 hw9⟩⟩
 intro R0 k0 h
 try dsimp only at h
 obtain ⟨X0,C0,p0⟩:=av h
 refine MX.lo (α:=Int) (fun b0=>[(0,v0_0),(3,vI b0)]) (fun b0=>[]) (fun b0=>b0) ((a0.length:Nat):Int) C0 hS0 ?_
 rintro U0 b0 Z0 v0 d0 j0 h
 unfold aA_l1 at h
 try dsimp only at h
 refine Aj<|Ac<|Ae I<|Ab (FV.gtr (i:=b0) (j:=0) I I)<|Ae I<|BG (s:=8) I h (fun s0 h=>?_) (fun s0 h=>?_)
 refine AH (Ak I)<|AH (Ak I)<|bk h fun K0 F0 h=>AH (FV.subc (i:=b0) (j:=1) I I F0)<|bk h fun q0 H0 h=>?_
 obtain ⟨z0,I0⟩:=aL H0
 obtain ⟨Q0,V0,x0,A0,u0,E0,B0⟩:=Bw (Bb h0_0 d0) I0
 have y0:u0 = [vI q0]:=E0; subst y0
 refine AH (BE 1 (K0.toNat) I x0 I z0 A0)<|AH (AN I (B0 0 _ I))<|AH (FV.eql (i:=q0) (j:=0) I I)<|Bq I I<|Aa<|Be I h (fun t0 h=>?_) (fun t0 h=>?_)
 refine Az<|AF<|Av<|Ae I<|bk h fun M0 G0 h=>Ab (FV.subc (i:=b0) (j:=1) I I G0)<|Ag I<|Aa<|AI<|v0 M0 d0 j0 h
 refine Bj I ?_
 have h:=p0 _ h
 try dsimp only at h
 exact k0 b0 d0 j0 h
 refine Aw<|Aw<|Aw<|Aw<|Aw<|Aw<|By I I<|Aa<|BP I<|Bj I ?_
 have h:=p0 _ h
 try dsimp only at h
 exact k0 b0 d0 j0 h
def aq_l1 (_n:Nat) (a0:La Int) (a1:La Int) (p0:Nat × Nat × (La Int) -> Oa (La Int)):Nat × Nat × (La Int) -> Oa (La Int)
  | (q0,b0,k0)=>(if b0 < a0.length then (a0[b0]?).bind fun v0=>(chk (v0 - ((q0:Nat):Int))).bind fun j0=>jn (fun c0=>jn (fun (s0,z0)=>(app k0 ([z0]:La Int)).bind fun y0=>p0 (s0,b0 + 1,y0)) (fun g0=>(if c0 < 0 then (chk (c0 + 4294967296)).bind fun t0=>g0 (1,t0) else g0 (0,c0)))) (fun d0=>(if b0 < a1.length then (a1[b0]?).bind fun x0=>(chk (j0 - x0)).bind fun u0=>d0 u0 else d0 j0)) else some k0)
def aq_p (n:Nat) (a0:La Int) (a1:La Int):Oa (La Int):=
  Option.bind (au (aq_l1 n a0 a1) n (0,0,([]:La Int))) (fun b0=>(aA_p n b0).bind fun c0=>some c0)
theorem aq_c (n:Nat) {L w} (hL:hl L w) {a0:La Int} {v0_0:Vc} (h0_0:Rep.R w L [v0_0] a0) {a1:La Int} {v1_0:Vc} (h1_0:Rep.R w L [v1_0] a1)  {r:La Int} (h:aq_p n a0 a1 = some r) :
 Cl 173 #[v0_0,v1_0] w (aj w fun w' u=>∃ v0_0:Vc,u = v0_0/\Rep.R w' L [v0_0] r):=by
 unfold aq_p at h
 have hS0:=AD w
 refine AK func173 I I I fun _ cs0 hb0=>Ac<|Ag I<|Aa<|Ac<|Ag I<|Aa<|Ac<|Ag I<|Aa<|Aj<|Ac<|Ag I<|Aa<|AF ?_
 have B0:=hS0.nilRow 3 (Rep.size Int)
 have k2:=St.nilRowT hS0 3 (Rep.size Int)
 obtain ⟨u2,C1,x1⟩:=av h
 refine MX.lf (α:=Nat × Nat × (La Int) × Vc × (La Vc)) (fun ⟨p0,b0,g0,c0,j0⟩=>[(0,v0_0),(1,v1_0),(5,c0),(6,vn p0),(7,vn b0)]) (fun ⟨p0,b0,g0,c0,j0⟩=>[rr w 3 Int c0 g0.length j0]) (fun ⟨p0,b0,g0,c0,j0⟩ H0=>Cells H0 (bl [rr w 3 Int c0 g0.length j0] ++ L) j0 g0) (fun ⟨p0,b0,g0,c0,j0⟩=>(p0,b0,g0)) (0,0,([]:La Int),vN,[]) C1 B0 (AJ (cs:=[]) (xs:=([]:La Int)) B0 L (AR _ _)) ?_
 rintro Z1 ⟨p0,b0,g0,c0,j0⟩ H0 V0 k0 Z0 E0 h
 unfold aq_l1 at h
 try dsimp only at h
 refine Aj<|Ac<|Ae I<|Ae I ?_
 have x0:=Bb h0_0 k0
 have s2:=Bh x0
 refine Ab (Bk (xs:=a0) underlying34 I x0)<|Ab (BD (i:=b0) (j:=a0.length) I I)<|Aa<|Be I h (fun K0 h=>?_) (fun K0 h=>?_)
 refine Az<|Aj<|AF<|Ac<|Ae I<|Ae I<|bk h fun I0 J1 h=>?_
 obtain ⟨X1,g2,q1,y1,Q0,D1,A1⟩:=Bw x0 J1
 have s1:Q0 = [vI I0]:=D1; subst s1
 refine Ab (BE 1 b0 I q1 I I y1)<|AY I (A1 0 _ I)<|Ae I<|bk h fun G0 G1 h=>Ab (FV.subc (i:=I0) (j:=((p0:Nat):Int)) I I G1)<|Ag I<|Aa<|Aj<|Ac<|Ae I<|Ae I ?_
 have y0:=Bb h1_0 k0
 have t2:=Bh y0
 refine Ab (Bk (xs:=a1) underlying34 I y0)<|Ab (BD (i:=b0) (j:=a1.length) I I)<|Aa<|MX.jo (α:=Int) (fun q0=>[(0,v0_0),(1,v1_0),(5,c0),(6,vn p0),(7,vn b0),(8,vI q0)]) (fun q0=>[rr w 3 Int c0 g0.length j0]) (fun q0=>q0) k0 h ?_ ?_
 rintro q0 A2 t0 b1 h
 try dsimp only at h
 refine Ac<|Ag I<|Aa<|Aj<|Ac<|Ae I<|Ab (FV.lss (i:=q0) (j:=0) I I)<|Aa<|MX.jo (α:=Nat × Int) (fun ⟨s0,d0⟩=>[(0,v0_0),(1,v1_0),(5,c0),(6,vn s0),(7,vn b0),(8,vI d0)]) (fun ⟨s0,d0⟩=>[rr w 3 Int c0 g0.length j0]) (fun ⟨s0,d0⟩=>(s0,d0)) t0 h ?_ ?_
 rintro ⟨s0,d0⟩ B2 W0 c1 h
 try dsimp only at h
 refine Av<|Ae I<|Ae I<|Ah .plain I (jA d0 (vI d0) W0 aA (e1 I)) fun x2 d2 u0 g1=>bk h fun W1 M1 h=>?_
 have F0:=Tt b1 (Tt c1 g1)
 refine RG.doesL .plain I (BB (α:=Int) (ys:=([d0]:La Int)) M1 u0 (fun _ _=>.t1) aA I I (AG E0 F0) (Src.row (α:=Int) u0 .hd (jC d0 (vI d0) u0 L I))) fun U1 y2 ⟨R0,X0,j1,p1⟩=>Ag I<|Aa<|AI<|Av<|Ae I<|Ab (Bu (i:=b0) (j:=1) I I (by omega))<|Ag I<|Aa ?_
 obtain ⟨Y0,D0⟩:=Am X0 .d1
 exact V0 (s0,b0 + 1,W1,U1,R0) Y0 (Tt Z0 (Tt F0 (Tt j1 D0))) (AG p1 D0) h
 intro c2 A0 h
 try dsimp only at h
 refine Be I h (fun M0 h=>?_) (fun M0 h=>?_)
 refine Ac<|Ae I<|bk h fun Q1 H1 h=>Ab (BR (i:=q0) (j:=4294967296) I I H1)<|Ag I<|Aa<|Av<|Ag I<|Aa<|A0 (1,Q1) t0 (Br _ _) h
 refine Az<|A0 (0,q0) t0 (Br _ _) h
 intro b2 z0 h
 try dsimp only at h
 refine Be I h (fun P0 h=>?_) (fun P0 h=>?_)
 refine Av<|Ae I<|Ae I<|Ae I<|bk h fun J0 K1 h=>?_
 obtain ⟨Y1,j2,u1,z1,U0,E1,B1⟩:=Bw y0 K1
 have v1:U0 = [vI J0]:=E1; subst v1
 refine Ab (BE 1 b0 I u1 I I z1)<|AY I (B1 0 _ I)<|bk h fun R1 I1 h=>Ab (FV.subc (i:=G0) (j:=J0) I I I1)<|Ag I<|Aa<|z0 R1 k0 (Br _ _) h
 refine Az<|z0 G0 k0 (Br _ _) h
 refine Bj I ?_
 have h:=x1 _ h
 try dsimp only at h
 refine Ac<|Ae I ?_
 have v0:=BI k0 .hd
 have p2:=BJ k0 .hd
 refine bk h fun C2 P1 h=>jE (bd 174) I (e1 I) (fun w9 hw9=>aA_c n (v0.hL hL hw9) (Ar (BK (α:=Int) (v:=c0) (xs:=g0) v0 L (Bl (α:=Int) k0 .hd E0 hL)) hw9) P1) I fun z2 V1 k1 ⟨v2,hu_,F1⟩=>?_
 subst hu_
 obtain ⟨C0,q2⟩:=v0.agr k1
 refine Ag I<|Aa<|Ao I<|Bi hb0 func173 I I ?_
 cases h
 exact ⟨C0.ag,fun w9 hw9=>⟨V1,I,C0.kd F1 hw9⟩⟩
def aL_l1 (_n:Nat) (a0:La Int) (a1:La Int) (g0:Int -> Oa (Int ⊕ Unit)):Int -> Oa (Int ⊕ Unit)
  | b0=>(if 0 <= b0 then (idx a0 b0).bind fun c0=>(idx a1 b0).bind fun d0=>(if c0 = d0 then (chk (b0 - 1)).bind fun j0=>g0 j0 else (chk (c0 - d0)).bind fun k0=>some (.inl k0)) else some (.inr ()))
def aL_p (n:Nat) (a0:La Int) (a1:La Int):Oa Int:=
  (if a0.length = a1.length then thn (au (aL_l1 n a0 a1) n (((a0.length:Nat):Int) - 1)) (fun _=>some (0:Int)) else some (((a0.length:Nat):Int) - ((a1.length:Nat):Int)))
theorem aL_c (n:Nat) {L w} (_hL:hl L w) {a0:La Int} {v0_0:Vc} (h0_0:Rep.R w L [v0_0] a0) {a1:La Int} {v1_0:Vc} (h1_0:Rep.R w L [v1_0] a1)  {r:Int} (h:aL_p n a0 a1 = some r) :
 Cl 176 #[v0_0,v1_0] w (aj w fun _ u=>u = vI r):=by
 unfold aL_p at h
 have hS0:=AD w
 refine AK func176 I I I fun _ cs0 hb0=>Ac<|Ag I<|Aa<|Aj<|Ac<|Ae I ?_
 have hl1:=Bh h0_0
 refine Ab (Bk (xs:=a0) underlying34 I h0_0)<|Ae I ?_
 have hl2:=Bh h1_0
 refine Ab (Bk (xs:=a1) underlying34 I h1_0)<|Ab (FV.neqN (i:=a0.length) (j:=a1.length) I I)<|Aa<|MX.ifn I h (fun c3 h=>?_) (fun c3 h=>?_)
 refine Az<|Aj<|Ac<|Ae I<|Ab (Bk (xs:=a0) underlying34 I h0_0)<|Ab (FV.subI (i:=((a0.length:Nat):Int)) (j:=1) I I (by omega))<|Ag I<|Aa<|AF<|tn h fun j1 K0 u0=>MX.lo (α:=Int) (fun c0=>[(0,v0_0),(1,v1_0),(5,vI c0)]) (fun c0=>[]) (fun c0=>c0) (((a0.length:Nat):Int) - 1) K0 hS0 ?_
 rintro c1 c0 p1 G0 k0 H0 h
 unfold aL_l1 at h
 try dsimp only at h
 refine Aj<|Ac<|Ae I<|Ab (FV.geq (i:=c0) (j:=0) I I)<|Aa<|Be I h (fun C0 h=>?_) (fun C0 h=>?_)
 refine Az<|Aj<|AF<|Aj<|du 9 fun g0 j0=>Rv 0 g0 I j0 (fun _=>Ak I)<|Rv 1 g0 I j0 (fun _=>Ak I)<|bk h fun p0 U0 h=>?_
 obtain ⟨v0,V0⟩:=aL U0
 obtain ⟨Z0,d1,s0,y0,E0,M0,A0⟩:=Bw (Bb h0_0 k0) V0
 have I0:E0 = [vI p0]:=M0; subst I0
 refine Rv 2 g0 I j0 (fun _=>BE 1 (c0.toNat) I s0 I v0 y0)<|Rx 3 256 g0 I j0 (AN I (A0 0 _ I))<|Rv 4 g0 I j0 (fun _=>Ak I)<|Rv 5 g0 I j0 (fun _=>Ak I)<|bk h fun q0 W0 h=>?_
 obtain ⟨x0,X0⟩:=aL W0
 obtain ⟨b1,g1,t0,z0,F0,P0,B0⟩:=Bw (Bb h1_0 k0) X0
 have J0:F0 = [vI q0]:=P0; subst J0
 refine Rv 6 g0 I j0 (fun _=>BE 1 (c0.toNat) I t0 I x0 z0)<|Rx 7 256 g0 I j0 (AN I (B0 0 _ I))<|Rv 8 g0 I j0 (fun _=>FV.neq (i:=p0) (j:=q0) I I)<|AO (dk g0)<|MX.ifn I h (fun D0 h=>?_) (fun D0 h=>?_)
 refine Az<|AI<|Av<|Ae I<|bk h fun Y0 Q0 h=>Ab (FV.subc (i:=c0) (j:=1) I I Q0)<|Ag I<|Aa<|G0 Y0 k0 H0 h
 refine Aj<|du 10 fun b0 d0=>Rv 0 b0 I d0 (fun _=>Ak I)<|Rv 1 b0 I d0 (fun _=>Ak I)<|Rv 2 b0 I d0 (fun _=>BE 1 (c0.toNat) I s0 I v0 y0)<|Rx 3 768 b0 I d0 (AN I (A0 0 _ I))<|Rv 4 b0 I d0 (fun _=>Ak I)<|Rv 5 b0 I d0 (fun _=>Ak I)<|Rv 6 b0 I d0 (fun _=>BE 1 (c0.toNat) I t0 I x0 z0)<|Rx 7 768 b0 I d0 (AN I (B0 0 _ I))<|bk h fun k1 R0 h=>Rv 8 b0 I d0 (fun _=>FV.subc (i:=p0) (j:=q0) I I R0)<|Rv 9 b0 I d0 (fun _=>Bn I)<|AO (dk b0) ?_
 have h:=ar h u0
 refine Ao I<|Bi hb0 func176 I I ?_
 cases h
 exact k0.gv
 refine Bj I ?_
 have h:=aI h u0
 try dsimp only at h
 refine Ac<|Ag I<|Aa<|Ao I<|Bi hb0 func176 I I ?_
 cases h
 exact k0.gv
 refine Ac<|Ae I<|Ab (Bk (xs:=a0) underlying34 I h0_0)<|Ae I<|Ab (Bk (xs:=a1) underlying34 I h1_0)<|Ab (FV.subI (i:=((a0.length:Nat):Int)) (j:=((a1.length:Nat):Int)) I I (by omega))<|Ag I<|Aa<|Ao I<|Bi hb0 func176 I I ?_
 cases h
 exact hS0.gv
structure Td where
  fh:Bool
  fD:La Int
  deriving DecidableEq
instance:Rep Td:=Rep.via (β:=Bool × (List Int)) fun x=>(x.fh,x.fD)
def aG_l1 (_n:Nat) (k0:La Int) (p0:Nat × (U8) -> Oa (U8)):Nat × (U8) -> Oa (U8)
  | (c0,b0)=>(if c0 < k0.length then (([b0.1,b0.2.1,b0.2.2.1,b0.2.2.2.1,b0.2.2.2.2.1,b0.2.2.2.2.2.1,b0.2.2.2.2.2.2.1,b0.2.2.2.2.2.2.2]:La Ua)[c0 / 2]?).bind fun j0=>(k0[c0]?).bind fun g0=>(chk (32 * ((c0 % 2:Nat):Int))).bind fun q0=>(bE q0).bind fun d0=>p0 (c0 + 1,(az (c0 / 2) 0 (j0 + (shlU (ah g0) d0)) b0.1,az (c0 / 2) 1 (j0 + (shlU (ah g0) d0)) b0.2.1,az (c0 / 2) 2 (j0 + (shlU (ah g0) d0)) b0.2.2.1,az (c0 / 2) 3 (j0 + (shlU (ah g0) d0)) b0.2.2.2.1,az (c0 / 2) 4 (j0 + (shlU (ah g0) d0)) b0.2.2.2.2.1,az (c0 / 2) 5 (j0 + (shlU (ah g0) d0)) b0.2.2.2.2.2.1,az (c0 / 2) 6 (j0 + (shlU (ah g0) d0)) b0.2.2.2.2.2.2.1,az (c0 / 2) 7 (j0 + (shlU (ah g0) d0)) b0.2.2.2.2.2.2.2)) else some b0)
def aG_l2 (_n:Nat) (k0:La Int) (p0:Nat × (U8) -> Oa (U8)):Nat × (U8) -> Oa (U8)
  | (c0,b0)=>(if c0 < k0.length then (([b0.1,b0.2.1,b0.2.2.1,b0.2.2.2.1,b0.2.2.2.2.1,b0.2.2.2.2.2.1,b0.2.2.2.2.2.2.1,b0.2.2.2.2.2.2.2]:La Ua)[c0 / 2]?).bind fun j0=>(k0[c0]?).bind fun g0=>(chk (32 * ((c0 % 2:Nat):Int))).bind fun q0=>(bE q0).bind fun d0=>p0 (c0 + 1,(az (c0 / 2) 0 (j0 + (shlU (ah g0) d0)) b0.1,az (c0 / 2) 1 (j0 + (shlU (ah g0) d0)) b0.2.1,az (c0 / 2) 2 (j0 + (shlU (ah g0) d0)) b0.2.2.1,az (c0 / 2) 3 (j0 + (shlU (ah g0) d0)) b0.2.2.2.1,az (c0 / 2) 4 (j0 + (shlU (ah g0) d0)) b0.2.2.2.2.1,az (c0 / 2) 5 (j0 + (shlU (ah g0) d0)) b0.2.2.2.2.2.1,az (c0 / 2) 6 (j0 + (shlU (ah g0) d0)) b0.2.2.2.2.2.2.1,az (c0 / 2) 7 (j0 + (shlU (ah g0) d0)) b0.2.2.2.2.2.2.2)) else some b0)
def aG_p (n:Nat) (a0:Td):Oa ((U8) × Int):=
  (mk 16 (0:Int)).bind fun c0=>(c0[15]?).bind fun _x28=>(put c0 ((15:Nat):Int) (2147483648:Int)).bind fun t0=>(aL_p n a0.fD t0).bind fun j0=>(if 0 < j0 then some ((0,0,0,0,0,0,0,0),(6:Int)) else (if j0 = 0 then (if a0.fh = true then (mk 17 (0:Int)).bind fun g0=>(g0[16]?).bind fun _x61=>(put g0 ((16:Nat):Int) (1:Int)).bind fun u0=>(aq_p n u0 a0.fD).bind fun x0=>Option.bind (au (aG_l1 n x0) n (0,(0,0,0,0,0,0,0,0))) (fun k0=>some (k0,(0:Int))) else some ((0,0,0,0,0,0,0,0),(6:Int))) else jn (fun q0=>Option.bind (au (aG_l2 n q0) n (0,(0,0,0,0,0,0,0,0))) (fun p0=>some (p0,(0:Int)))) (fun b0=>(if a0.fh = true then (mk 17 (0:Int)).bind fun d0=>(d0[16]?).bind fun _x341=>(put d0 ((16:Nat):Int) (1:Int)).bind fun s0=>(aq_p n s0 a0.fD).bind fun v0=>b0 v0 else b0 a0.fD))))
theorem aG_c (n:Nat) {L w} (hL:hl L w) (a0:Td) {v0_1:Vc} (h0_1:Rep.R w L [v0_1] a0.fD)  {r:(U8) × Int} (h:aG_p n a0 = some r) :
 Cl 139 #[.agg #[.bool a0.fh,v0_1]] w (aj w fun _ u=>u = .tuple #[.agg ((am r.1)).toArray,vI r.2]):=by
 unfold aG_p at h
 refine AK func139 I I I fun _ cs0 hb0=>Ac<|RG.bx (AD w) I I fun I5 E4 p2 Y4=>RG.nl zP p2 fun J5 C0 s2 Z4=>Ag I<|Aa<|Ac<|bk h fun q6 R3 h=>RG.doesH .plain I (Does.mkH (α:=Int) (L:=L) R3 s2 aA I (fun _ _=>rfl)) fun F5 Q5 ⟨Q4,P0,g5,z1⟩=>Ag I<|Aa<|Ac<|Ae I<|bk h fun s4 K3 h=>?_
 obtain ⟨J1,G4,W0,F1,c2,C3,B5⟩:=St.nth (α:=Int) P0 .hd z1 K3
 obtain ⟨Q1,K4,D1⟩:=Cb (α:=Int) P0 .hd F1
 obtain rfl:J1 = ⟨Q1,0,none⟩:=by rw [D1] at W0; cases W0; rfl
 have d3:c2 = [vI s4]:=C3; subst d3
 refine Ab (BE 1 15 I W0 I I F1)<|bk h fun t6 W3 h=>RG.acts' .plain (Acts.set (α:=Int) (i:=15) W3 P0 D1 (fun _=>.hd) z1 I I I I I I) fun Z5 ⟨V4,A0,k5,V2⟩=>Aa<|Ac<|Ba 1 I<|AY I ((A0.memA .t2) 1 _ I)<|Ae I<|bk h fun c1 b4 h=>Bm (vI c1) (bd 176) I (e2 I I) (fun w9 hw9=>aL_c n (A0.hL0 hL hw9) (A0.k0 h0_1 hw9) (Ar (St.lend (α:=Int) (L:=L) A0 .hd V2 hL) hw9) b4) I<|Ag I<|Aa<|Aj<|Ac<|Ae I<|Ab (FV.gtr (i:=c1) (j:=0) I I)<|Ae I<|BG (s:=19) I h (fun X1 h=>?_) (fun X1 h=>?_)
 refine Aw<|Aw<|Aw<|RG.un<|RG.un<|RG.un<|Aw<|Bq I I<|Aa<|Bg I<|Ac<|Ab (AP (vs:=[]) (u:=.agg zQ) ak (fun w9=>by kernel_rfl))<|AW zP A0 .t1 (ai I) fun b6 u1 p5=>Ag I<|Aa<|Ao I<|Au hb0 func139 I (.cons (.many (cs:=zP) I I (u1.memA .t1)) (.cons (.tmp I) .nil)) I ?_
 cases h
 exact u1.gv
 refine AH (Ak I)<|AH (FV.eql (i:=c1) (j:=0) I I)<|AH (Ak I)<|BG (s:=22) I h (fun Y1 h=>?_) (fun Y1 h=>?_)
 refine RG.fg 0 I<|AH (AN I ((A0.memA .t2) 0 _ I))<|AH (Bz I)<|AH (BY I I)<|By I I<|Aa<|MX.ifnb I h (fun g1 h=>?_) (fun g1 h=>?_)
 refine Az<|Ac<|Ba 1 I<|AY I ((A0.memA .t2) 1 _ I)<|Ag I<|Aa<|Aj<|Ac<|Ba 0 I<|AY I ((A0.memA .t2) 0 _ I)<|Aa<|MX.cond_kt I g1<|Ac<|bk h fun u6 X3 h=>RG.doesH .plain I (Does.mkH (α:=Int) (L:=L) X3 A0 aA I (fun _ _=>rfl)) fun k4 c6 ⟨W4,U0,q5,B1⟩=>Ag I<|Aa<|Ac<|Ae I<|bk h fun u4 Q3 h=>?_
 obtain ⟨M1,M4,Y0,H1,g2,F3,C5⟩:=St.nth (α:=Int) U0 .hd B1 Q3
 obtain ⟨R1,P4,E1⟩:=Cb (α:=Int) U0 .hd H1
 obtain rfl:M1 = ⟨R1,0,none⟩:=by rw [E1] at Y0; cases Y0; rfl
 have g3:g2 = [vI u4]:=F3; subst g3
 refine Ab (BE 1 16 I Y0 I I H1)<|bk h fun x4 Y3 h=>RG.acts' .plain (Acts.set (α:=Int) (i:=16) Y3 U0 E1 (fun _=>.hd) B1 I I I I I I) fun d6 ⟨X4,V0,s5,W2⟩=>Aa<|Av<|Ae I<|Ae I ?_
 have M0:=BI V0 .hd
 have t5:=BJ V0 .hd
 refine bk h fun d1 c4 h=>jE (bd 173) I (e2 I I) (fun w9 hw9=>aq_c n (M0.hL hL hw9) (Ar (BK (α:=Int) (v:=k4) (xs:=x4) M0 L (Bl (α:=Int) V0 .hd W2 hL)) hw9) (M0.km h0_1 hw9) c4) I fun g6 q4 R2 ⟨H5,hu_,G3⟩=>?_
 subst hu_
 obtain ⟨B2,u5⟩:=M0.agr R2
 refine Ag I<|Aa<|Ac<|RG.nl zP B2 fun j6 J0 C2 P2=>Aa<|Aj<|Ac<|Ag I<|Aa<|AF ?_
 obtain ⟨q2,D2⟩:=Am C2 (.a0 (.a1 .done))
 obtain ⟨D5,x3,j3⟩:=av h
 refine MX.lo (α:=Nat × (U8)) (fun ⟨d0,b0⟩=>[(2,vP C0),(6,q4),(8,vP J0),(9,vn d0)]) (fun ⟨d0,b0⟩=>[.cells J0 (am b0) 44,.cells C0 zP 44]) (fun ⟨d0,b0⟩=>(d0,b0)) (0,(0,0,0,0,0,0,0,0)) x3 q2 ?_
 rintro B4 ⟨d0,b0⟩ k6 j2 E0 v1 h
 unfold aG_l1 at h
 try dsimp only at h
 refine Aj<|Ac<|Ae I<|Ae I ?_
 have Z0:=Ap G3 (Tt P2 (Tt D2 v1))
 have v5:=Bh Z0
 refine Ab (Bk (xs:=d1) underlying34 I Z0)<|Ab (BD (i:=d0) (j:=d1.length) I I)<|Aa<|Be I h (fun U1 h=>?_) (fun U1 h=>?_)
 refine Az<|Aj<|AF<|du 17 fun q0 y0=>Rv 0 q0 I y0 (fun _=>Ak I)<|Rv 1 q0 I y0 (fun _=>FV.quoN (i:=d0) (j:=2) I I I (by omega))<|Rv 2 q0 I y0 (fun _=>Ak I)<|Rv 3 q0 I y0 (fun _=>FV.quoN (i:=d0) (j:=2) I I I (by omega))<|bk h fun v0 G0 h=>Rv 4 q0 I y0 (fun _=>Bc (m:=1) (k:=d0 / 2) (len:=8) I I I I (bp G0 I))<|Rx 5 229376 q0 I y0 (AN I ((aS (p:=⟨J0,0,none⟩) (cs:=([b0.1,b0.2.1,b0.2.2.1,b0.2.2.2.1,b0.2.2.2.2.1,b0.2.2.2.2.2.1,b0.2.2.2.2.2.2.1,b0.2.2.2.2.2.2.2]:La Ua).map (fun z9:Ua=>(vU z9:Vc)) ++ []) (i:=d0 / 2) (E0.memA .hd) (bJ (fun z9:Ua=>(vU z9:Vc)) G0)) 0 _ I))<|Rv 6 q0 I y0 (fun _=>Ak I)<|Rv 7 q0 I y0 (fun _=>Ak I)<|bk h fun j0 J3 h=>?_
 obtain ⟨z4,F4,X2,p3,Z1,z3,u3⟩:=Bw Z0 J3
 have Y2:Z1 = [vI j0]:=z3; subst Y2
 refine Rv 8 q0 I y0 (fun _=>BE 1 d0 I X2 I I p3)<|Rx 9 246784 q0 I y0 (AN I (u3 0 _ I))<|Rv 10 q0 I y0 (fun _=>FV.convU (i:=j0) underlying3 underlying42 I)<|Rv 11 q0 I y0 (fun _=>Ak I)<|Rv 12 q0 I y0 (fun _=>FV.remN (i:=d0) (j:=2) I I I)<|bk h fun d4 H3 h=>Rv 13 q0 I y0 (fun _=>FV.mulc (i:=32) (j:=((d0 % 2:Nat):Int)) I I H3)<|bk h fun t0 q3 h=>Rv 14 q0 I y0 (fun _=>FV.shlI (a:=ah j0) (i:=d4) I I q3)<|Rv 15 q0 I y0 (fun _=>FV.addU (a:=v0) (b:=shlU (ah j0) t0) I I) ?_
 have y5:=aS (p:=⟨J0,0,none⟩) (cs:=([b0.1,b0.2.1,b0.2.2.1,b0.2.2.2.1,b0.2.2.2.2.1,b0.2.2.2.2.2.1,b0.2.2.2.2.2.2.1,b0.2.2.2.2.2.2.2]:La Ua).map (fun z9:Ua=>(vU z9:Vc)) ++ []) (i:=d0 / 2) (E0.memA .hd) (bJ (fun z9:Ua=>(vU z9:Vc)) G0)
 refine Rv 16 q0 I y0 (fun _=>Bc (m:=1) (k:=d0 / 2) (len:=8) I I I I (bp G0 I))<|Bv 17 262143 q0 I I .plain (Acts.storeArr (fun z9:Ua=>(vU z9:Vc)) (xs:=([b0.1,b0.2.1,b0.2.2.1,b0.2.2.2.1,b0.2.2.2.2.1,b0.2.2.2.2.2.1,b0.2.2.2.2.2.2.1,b0.2.2.2.2.2.2.2]:La Ua)) (pre:=[]) (post:=[]) (i:=d0 / 2) (m:=8) (x:=v0 + (shlU (ah j0) t0)) (old:=(am b0)) (new' :=[vW ((az (d0 / 2) 0 (v0 + (shlU (ah j0) t0)) b0.1).toNat:Int),vW ((az (d0 / 2) 1 (v0 + (shlU (ah j0) t0)) b0.2.1).toNat:Int),vW ((az (d0 / 2) 2 (v0 + (shlU (ah j0) t0)) b0.2.2.1).toNat:Int),vW ((az (d0 / 2) 3 (v0 + (shlU (ah j0) t0)) b0.2.2.2.1).toNat:Int),vW ((az (d0 / 2) 4 (v0 + (shlU (ah j0) t0)) b0.2.2.2.2.1).toNat:Int),vW ((az (d0 / 2) 5 (v0 + (shlU (ah j0) t0)) b0.2.2.2.2.2.1).toNat:Int),vW ((az (d0 / 2) 6 (v0 + (shlU (ah j0) t0)) b0.2.2.2.2.2.2.1).toNat:Int),vW ((az (d0 / 2) 7 (v0 + (shlU (ah j0) t0)) b0.2.2.2.2.2.2.2).toNat:Int)]) I I (bp G0 I) E0 .hd I (gd _ _ _) I I (fun _=>⟨I,I⟩) I I) fun K5 u2 E2=>AO (dk q0)<|AI<|Av<|Ae I<|Ab (Bu (i:=d0) (j:=1) I I (by omega))<|Ag I<|Aa<|j2 (d0 + 1,(az (d0 / 2) 0 (v0 + (shlU (ah j0) t0)) b0.1,az (d0 / 2) 1 (v0 + (shlU (ah j0) t0)) b0.2.1,az (d0 / 2) 2 (v0 + (shlU (ah j0) t0)) b0.2.2.1,az (d0 / 2) 3 (v0 + (shlU (ah j0) t0)) b0.2.2.2.1,az (d0 / 2) 4 (v0 + (shlU (ah j0) t0)) b0.2.2.2.2.1,az (d0 / 2) 5 (v0 + (shlU (ah j0) t0)) b0.2.2.2.2.2.1,az (d0 / 2) 6 (v0 + (shlU (ah j0) t0)) b0.2.2.2.2.2.2.1,az (d0 / 2) 7 (v0 + (shlU (ah j0) t0)) b0.2.2.2.2.2.2.2)) u2 (Tt v1 E2) h
 refine Bj I ?_
 have h:=j3 _ h
 try dsimp only at h
 refine Ac<|Ab (AC I (E0.memA .hd))<|AW (am b0) E0 .t1 (ai I) fun M5 k1 b5=>Ag I<|Aa<|Ao I<|Au hb0 func139 I (.cons (.many (cs:=(am b0)) I I (k1.memA .t1)) (.cons (.tmp I) .nil)) I ?_
 cases h
 exact k1.gv
 refine Ac<|Ab (AP (vs:=[]) (u:=.agg zQ) ak (fun w9=>by kernel_rfl))<|AW zP A0 .t1 (ai I) fun P5 p1 c5=>Ag I<|Aa<|Ao I<|Au hb0 func139 I (.cons (.many (cs:=zP) I I (p1.memA .t1)) (.cons (.tmp I) .nil)) I ?_
 cases h
 exact p1.gv
 refine Aw<|Aw<|Aw<|AH (BA I I)<|By I I<|Aa<|BP I<|Az<|Ac<|Ba 1 I<|AY I ((A0.memA .t2) 1 _ I)<|Ag I<|Aa<|Aj<|Ac<|Ba 0 I<|AY I ((A0.memA .t2) 0 _ I)<|Aa<|MX.jf (α:=(La Int) × Vc) (fun ⟨B0,D0⟩=>[(2,vP C0),(6,D0)]) (fun ⟨B0,D0⟩=>[.cells C0 zP 44]) (fun ⟨B0,D0⟩ I1=>Rep.R I1 (bl [.cells C0 zP 44] ++ L) [D0] B0) (fun ⟨B0,D0⟩=>B0) A0 h ?_ ?_
 rintro ⟨B0,D0⟩ I1 v2 d5 A3 h
 try dsimp only at h
 refine Ac<|RG.nl zP v2 fun R5 I0 x2 F2=>Aa<|Aj<|Ac<|Ag I<|Aa<|AF ?_
 obtain ⟨E5,y3,k3⟩:=av h
 refine MX.lo (α:=Nat × (U8)) (fun ⟨g0,c0⟩=>[(2,vP C0),(6,D0),(8,vP I0),(9,vn g0)]) (fun ⟨g0,c0⟩=>[.cells I0 (am c0) 44,.cells C0 zP 44]) (fun ⟨g0,c0⟩=>(g0,c0)) (0,(0,0,0,0,0,0,0,0)) y3 x2 ?_
 rintro D4 ⟨g0,c0⟩ p6 k2 F0 x1 h
 unfold aG_l2 at h
 try dsimp only at h
 refine Aj<|Ac<|Ae I<|Ae I ?_
 have b1:=Ap A3 (Tt F2 x1)
 have x5:=Bh b1
 refine Ab (Bk (xs:=B0) underlying34 I b1)<|Ab (BD (i:=g0) (j:=B0.length) I I)<|Aa<|Be I h (fun V1 h=>?_) (fun V1 h=>?_)
 refine Az<|Aj<|AF<|du 17 fun s0 z0=>Rv 0 s0 I z0 (fun _=>Ak I)<|Rv 1 s0 I z0 (fun _=>FV.quoN (i:=g0) (j:=2) I I I (by omega))<|Rv 2 s0 I z0 (fun _=>Ak I)<|Rv 3 s0 I z0 (fun _=>FV.quoN (i:=g0) (j:=2) I I I (by omega))<|bk h fun x0 H0 h=>Rv 4 s0 I z0 (fun _=>Bc (m:=1) (k:=g0 / 2) (len:=8) I I I I (bp H0 I))<|Rx 5 229376 s0 I z0 (AN I ((aS (p:=⟨I0,0,none⟩) (cs:=([c0.1,c0.2.1,c0.2.2.1,c0.2.2.2.1,c0.2.2.2.2.1,c0.2.2.2.2.2.1,c0.2.2.2.2.2.2.1,c0.2.2.2.2.2.2.2]:La Ua).map (fun z9:Ua=>(vU z9:Vc)) ++ []) (i:=g0 / 2) (F0.memA .hd) (bJ (fun z9:Ua=>(vU z9:Vc)) H0)) 0 _ I))<|Rv 6 s0 I z0 (fun _=>Ak I)<|Rv 7 s0 I z0 (fun _=>Ak I)<|bk h fun p0 M3 h=>?_
 obtain ⟨A4,H4,Z2,s3,b2,B3,v3⟩:=Bw b1 M3
 have b3:b2 = [vI p0]:=B3; subst b3
 refine Rv 8 s0 I z0 (fun _=>BE 1 g0 I Z2 I I s3)<|Rx 9 246784 s0 I z0 (AN I (v3 0 _ I))<|Rv 10 s0 I z0 (fun _=>FV.convU (i:=p0) underlying3 underlying42 I)<|Rv 11 s0 I z0 (fun _=>Ak I)<|Rv 12 s0 I z0 (fun _=>FV.remN (i:=g0) (j:=2) I I I)<|bk h fun g4 I3 h=>Rv 13 s0 I z0 (fun _=>FV.mulc (i:=32) (j:=((g0 % 2:Nat):Int)) I I I3)<|bk h fun u0 t3 h=>Rv 14 s0 I z0 (fun _=>FV.shlI (a:=ah p0) (i:=g4) I I t3)<|Rv 15 s0 I z0 (fun _=>FV.addU (a:=x0) (b:=shlU (ah p0) u0) I I) ?_
 have z5:=aS (p:=⟨I0,0,none⟩) (cs:=([c0.1,c0.2.1,c0.2.2.1,c0.2.2.2.1,c0.2.2.2.2.1,c0.2.2.2.2.2.1,c0.2.2.2.2.2.2.1,c0.2.2.2.2.2.2.2]:La Ua).map (fun z9:Ua=>(vU z9:Vc)) ++ []) (i:=g0 / 2) (F0.memA .hd) (bJ (fun z9:Ua=>(vU z9:Vc)) H0)
 refine Rv 16 s0 I z0 (fun _=>Bc (m:=1) (k:=g0 / 2) (len:=8) I I I I (bp H0 I))<|Bv 17 262143 s0 I I .plain (Acts.storeArr (fun z9:Ua=>(vU z9:Vc)) (xs:=([c0.1,c0.2.1,c0.2.2.1,c0.2.2.2.1,c0.2.2.2.2.1,c0.2.2.2.2.2.1,c0.2.2.2.2.2.2.1,c0.2.2.2.2.2.2.2]:La Ua)) (pre:=[]) (post:=[]) (i:=g0 / 2) (m:=8) (x:=x0 + (shlU (ah p0) u0)) (old:=(am c0)) (new' :=[vW ((az (g0 / 2) 0 (x0 + (shlU (ah p0) u0)) c0.1).toNat:Int),vW ((az (g0 / 2) 1 (x0 + (shlU (ah p0) u0)) c0.2.1).toNat:Int),vW ((az (g0 / 2) 2 (x0 + (shlU (ah p0) u0)) c0.2.2.1).toNat:Int),vW ((az (g0 / 2) 3 (x0 + (shlU (ah p0) u0)) c0.2.2.2.1).toNat:Int),vW ((az (g0 / 2) 4 (x0 + (shlU (ah p0) u0)) c0.2.2.2.2.1).toNat:Int),vW ((az (g0 / 2) 5 (x0 + (shlU (ah p0) u0)) c0.2.2.2.2.2.1).toNat:Int),vW ((az (g0 / 2) 6 (x0 + (shlU (ah p0) u0)) c0.2.2.2.2.2.2.1).toNat:Int),vW ((az (g0 / 2) 7 (x0 + (shlU (ah p0) u0)) c0.2.2.2.2.2.2.2).toNat:Int)]) I I (bp H0 I) F0 .hd I (gd _ _ _) I I (fun _=>⟨I,I⟩) I I) fun U5 y2 G2=>AO (dk s0)<|AI<|Av<|Ae I<|Ab (Bu (i:=g0) (j:=1) I I (by omega))<|Ag I<|Aa<|k2 (g0 + 1,(az (g0 / 2) 0 (x0 + (shlU (ah p0) u0)) c0.1,az (g0 / 2) 1 (x0 + (shlU (ah p0) u0)) c0.2.1,az (g0 / 2) 2 (x0 + (shlU (ah p0) u0)) c0.2.2.1,az (g0 / 2) 3 (x0 + (shlU (ah p0) u0)) c0.2.2.2.1,az (g0 / 2) 4 (x0 + (shlU (ah p0) u0)) c0.2.2.2.2.1,az (g0 / 2) 5 (x0 + (shlU (ah p0) u0)) c0.2.2.2.2.2.1,az (g0 / 2) 6 (x0 + (shlU (ah p0) u0)) c0.2.2.2.2.2.2.1,az (g0 / 2) 7 (x0 + (shlU (ah p0) u0)) c0.2.2.2.2.2.2.2)) y2 (Tt x1 G2) h
 refine Bj I ?_
 have h:=k3 _ h
 try dsimp only at h
 refine Ac<|Ab (AC I (F0.memA .hd))<|AW (am c0) F0 .t1 (ai I) fun V5 q1 j5=>Ag I<|Aa<|Ao I<|Au hb0 func139 I (.cons (.many (cs:=(am c0)) I I (q1.memA .t1)) (.cons (.tmp I) .nil)) I ?_
 cases h
 exact q1.gv
 intro C4 j1 h
 try dsimp only at h
 refine MX.ifb I h (fun W1 h=>?_) (fun W1 h=>?_)
 refine Ac<|bk h fun s6 U3 h=>RG.doesH .plain I (Does.mkH (α:=Int) (L:=L) U3 A0 aA I (fun _ _=>rfl)) fun j4 W5 ⟨R4,Q0,H2,A1⟩=>Ag I<|Aa<|Ac<|Ae I<|bk h fun t4 P3 h=>?_
 obtain ⟨K1,I4,X0,G1,d2,D3,A5⟩:=St.nth (α:=Int) Q0 .hd A1 P3
 obtain ⟨P1,J4,C1⟩:=Cb (α:=Int) Q0 .hd G1
 obtain rfl:K1 = ⟨P1,0,none⟩:=by rw [C1] at X0; cases X0; rfl
 have c3:d2 = [vI t4]:=D3; subst c3
 refine Ab (BE 1 16 I X0 I I G1)<|bk h fun v4 V3 h=>RG.acts' .plain (Acts.set (α:=Int) (i:=16) V3 Q0 C1 (fun _=>.hd) A1 I I I I I I) fun X5 ⟨U4,R0,I2,U2⟩=>Aa<|Av<|Ae I<|Ae I ?_
 have K0:=BI R0 .hd
 have J2:=BJ R0 .hd
 refine bk h fun y4 Z3 h=>jE (bd 173) I (e2 I I) (fun w9 hw9=>aq_c n (K0.hL hL hw9) (Ar (BK (α:=Int) (v:=j4) (xs:=v4) K0 L (Bl (α:=Int) R0 .hd U2 hL)) hw9) (K0.km h0_1 hw9) Z3) I fun Y5 p4 Q2 ⟨G5,hu_,E3⟩=>?_
 subst hu_
 obtain ⟨z2,K2⟩:=K0.agr Q2
 refine Ag I<|Aa ?_
 obtain ⟨A2,y1⟩:=Am z2 (.a1 .done)
 exact j1 (y4,p4) A2 (Tt H2 (Tt I2 (Tt J2 (Tt K2 y1)))) (Ap E3 y1) h
 refine Az ?_
 obtain ⟨s1,M2⟩:=Am A0 (.a1 .done)
 exact j1 (a0.fD,v0_1) s1 M2 (Bb h0_1 s1) h
structure Tf where
  fN:Td
  fD:Td
  deriving DecidableEq
instance:Rep Tf:=Rep.via (β:=Td × Td) fun x=>(x.fN,x.fD)
def aZ_p (n:Nat) (a0:Tf):Oa (Ta × Int):=
  (aG_p n a0.fN).bind fun b0=>(aG_p n a0.fD).bind fun c0=>(if b0.2 = 0 then (if c0.2 = 0 then some ((⟨b0.1,c0.1⟩:Ta),(0:Int)) else some ((⟨(0,0,0,0,0,0,0,0),(0,0,0,0,0,0,0,0)⟩:Ta),(6:Int))) else some ((⟨(0,0,0,0,0,0,0,0),(0,0,0,0,0,0,0,0)⟩:Ta),(6:Int)))
theorem aZ_c (n:Nat) {L w} (hL:hl L w) (a0:Tf) {v0_1:Vc} (h0_1:Rep.R w L [v0_1] a0.fN.fD) {v0_3:Vc} (h0_3:Rep.R w L [v0_3] a0.fD.fD)  {r:Ta × Int} (h:aZ_p n a0 = some r) :
 Cl 109 #[.agg #[.bool a0.fN.fh,v0_1,.bool a0.fD.fh,v0_3]] w (aj w fun _ u=>u = .tuple #[.agg ((aa r.1)).toArray,vI r.2]):=by
 unfold aZ_p at h
 refine AK func109 I I I fun _ cs0 hb0=>Ac<|RG.bx (AD w) I I fun R0 B0 v0 F0=>RG.nl ae v0 fun U0 C0 g0 G0=>Ag I<|Aa<|Ac<|Ba 0 I<|Ab (Aq (cs:=[.bool a0.fN.fh,v0_1]) I I (ac (g0.memA .t1) 0 2))<|bk h fun b0 z0 h=>Bm (.tuple #[.agg ((am b0.1)).toArray,vI b0.2]) (bd 139) I (e1 I) (fun w9 hw9=>aG_c n (g0.hL0 hL hw9) a0.fN (g0.k0 h0_1 hw9) z0) I<|Ae I<|Ab (Ai I I)<|Ab (Ai I I)<|RG.nl zP g0 fun V0 D0 x0 H0=>AW (am b0.1) x0 .hd (ai I) fun W0 j0 I0=>Ag I<|Aa<|Ac<|Ba 2 I<|Ab (Aq (cs:=[.bool a0.fD.fh,v0_3]) I I (ac (j0.memA .t2) 2 2))<|bk h fun c0 A0 h=>Bm (.tuple #[.agg ((am c0.1)).toArray,vI c0.2]) (bd 139) I (e1 I) (fun w9 hw9=>aG_c n (j0.hL0 hL hw9) a0.fD (j0.k0 h0_3 hw9) A0) I<|Ae I<|Ab (Ai I I)<|Ab (Ai I I)<|RG.nl zP j0 fun X0 E0 y0 J0=>AW (am c0.1) y0 .hd (ai I) fun Y0 d0 K0=>Ag I<|Aa<|Aj<|Ac<|Ae I<|Ab (FV.neq (i:=b0.2) (j:=0) I I) ?_
 refine Ae I<|RG.ifn (s:=22) I h (fun t0 h=>?_) (fun t0 h=>?_)
 refine AH (Ak I)<|AH (FV.neq (i:=c0.2) (j:=0) I I)<|By I I<|Aa<|MX.ifn I h (fun u0 h=>?_) (fun u0 h=>?_)
 refine Az<|Ac<|Ab (AC I (d0.memA .t1))<|Ab (AC I (d0.memA .hd))<|Ab (AP (vs:=[.agg ((am b0.1)).toArray,.agg ((am c0.1)).toArray]) (u:=.agg ((am b0.1 ++ am c0.1)).toArray) (e2 I I) (fun w9=>by kernel_rfl))<|AW (am b0.1 ++ am c0.1) d0 .t2 (ai I) fun Z0 p0 M0=>Ag I<|Aa<|Ao I<|Au hb0 func109 I (.cons (.many (cs:=(am b0.1 ++ am c0.1)) I I (p0.memA .t2)) (.cons (.tmp I) .nil)) I ?_
 cases h
 exact p0.gv
 refine Ac<|Ab (AP (vs:=[]) (u:=.agg zM) ak (fun w9=>by kernel_rfl))<|AW ae d0 .t2 (ai I) fun b1 q0 P0=>Ag I<|Aa<|Ao I<|Au hb0 func109 I (.cons (.many (cs:=ae) I I (q0.memA .t2)) (.cons (.tmp I) .nil)) I ?_
 cases h
 exact q0.gv
 refine Aw<|Aw<|Bq I I<|Aa<|Bg I<|Ac<|Ab (AP (vs:=[]) (u:=.agg zM) ak (fun w9=>by kernel_rfl))<|AW ae d0 .t2 (ai I) fun c1 s0 Q0=>Ag I<|Aa<|Ao I<|Au hb0 func109 I (.cons (.many (cs:=ae) I I (s0.memA .t2)) (.cons (.tmp I) .nil)) I ?_
 cases h
 exact s0.gv
def bg_l1 (_n:Nat) (a0:La Int) (j0:Int × Nat × (La Int) -> Oa ((La Int) × Int)):Int × Nat × (La Int) -> Oa ((La Int) × Int)
  | (g0,b0,d0)=>(if b0 < a0.length then (a0[b0]?).bind fun s0=>(chk (2 * s0)).bind fun k0=>(chk (k0 + g0)).bind fun c0=>(ci c0 4294967296).bind fun p0=>(app d0 ([p0]:La Int)).bind fun t0=>(cL c0 4294967296).bind fun q0=>j0 (q0,b0 + 1,t0) else some (d0,g0))
def bg_p (n:Nat) (a0:La Int) (a1:Int):Oa (La Int):=
  Option.bind (au (bg_l1 n a0) n (a1,0,([]:La Int))) (fun (c0,g0)=>(app c0 ([g0]:La Int)).bind fun b0=>(aA_p n b0).bind fun d0=>some d0)
theorem bg_c (n:Nat) {L w} (hL:hl L w) {a0:La Int} {v0_0:Vc} (h0_0:Rep.R w L [v0_0] a0) {a1:Int}  {r:La Int} (h:bg_p n a0 a1 = some r) :
 Cl 195 #[v0_0,vI a1] w (aj w fun w' u=>∃ v0_0:Vc,u = v0_0/\Rep.R w' L [v0_0] r):=by
 unfold bg_p at h
 have hS0:=AD w
 refine AK func195 I I I fun _ cs0 hb0=>Ac<|Ag I<|Aa<|Ac<|Ag I<|Aa<|Aj<|Ac<|Ag I<|Aa<|AF ?_
 have x0:=hS0.nilRow 3 (Rep.size Int)
 have P1:=St.nilRowT hS0 3 (Rep.size Int)
 obtain ⟨W1,c1,Y0⟩:=av h
 refine MX.lf (α:=Int × Nat × (La Int) × Vc × (La Vc)) (fun ⟨b0,c0,d0,k0,g0⟩=>[(0,v0_0),(1,vI b0),(5,k0),(6,vn c0)]) (fun ⟨b0,c0,d0,k0,g0⟩=>[rr w 3 Int k0 d0.length g0]) (fun ⟨b0,c0,d0,k0,g0⟩ D0=>Cells D0 (bl [rr w 3 Int k0 d0.length g0] ++ L) g0 d0) (fun ⟨b0,c0,d0,k0,g0⟩=>(b0,c0,d0)) (a1,0,([]:La Int),vN,[]) c1 x0 (AJ (cs:=[]) (xs:=([]:La Int)) x0 L (AR _ _)) ?_
 rintro H1 ⟨b0,c0,d0,k0,g0⟩ D0 I0 u0 Q0 B0 h
 unfold bg_l1 at h
 try dsimp only at h
 refine Aj<|Ac<|Ae I<|Ae I ?_
 have v0:=Bb h0_0 u0
 have V1:=Bh v0
 refine Ab (Bk (xs:=a0) underlying34 I v0)<|Ab (BD (i:=c0) (j:=a0.length) I I)<|Aa<|Be I h (fun F0 h=>?_) (fun F0 h=>?_)
 refine Az<|Aj<|AF<|Ac<|Ae I<|Ae I<|bk h fun E0 u1 h=>?_
 obtain ⟨G1,K1,W0,Z0,G0,g1,b1⟩:=Bw v0 u1
 have X0:G0 = [vI E0]:=g1; subst X0
 refine Ab (BE 1 c0 I W0 I I Z0)<|AY I (b1 0 _ I)<|bk h fun z1 k1 h=>Ab (FV.mulc (i:=2) (j:=E0) I I k1)<|Ae I<|bk h fun C0 p1 h=>Ab (BR (i:=z1) (j:=b0) I I p1)<|Ag I<|Aa<|Ac<|Ae I<|Ae I<|bk h fun j0 q1 h=>Ab (FV.remc (i:=C0) (j:=4294967296) I I q1)<|Ah .plain I (jA j0 (vI j0) u0 aA (e1 I)) fun Y1 I1 p0 z0=>bk h fun E1 v1 h=>RG.doesL .plain I (BB (α:=Int) (ys:=([j0]:La Int)) v1 p0 (fun _ _=>.t1) aA I I (AG B0 z0) (Src.row (α:=Int) p0 .hd (jC j0 (vI j0) p0 L I))) fun B1 Z1 ⟨H0,J0,M0,U0⟩=>Ag I<|Aa<|Av<|Ae I<|bk h fun A1 s1 h=>Ab (FV.quoc (i:=C0) (j:=4294967296) I I s1)<|Ag I<|Aa<|AI<|Av<|Ae I<|Ab (Bu (i:=c0) (j:=1) I I (by omega))<|Ag I<|Aa ?_
 obtain ⟨K0,A0⟩:=Am J0 .d1
 exact I0 (A1,c0 + 1,E1,B1,H0) K0 (Tt Q0 (Tt z0 (Tt M0 A0))) (AG U0 A0) h
 refine Bj I ?_
 have h:=Y0 _ h
 try dsimp only at h
 refine Ac<|Ae I<|Ae I<|Ah .plain I (jA b0 (vI b0) u0 aA (e1 I)) fun b2 J1 q0 P0=>bk h fun F1 x1 h=>RG.doesL .plain I (BB (α:=Int) (ys:=([b0]:La Int)) x1 q0 (fun _ _=>.t1) aA I I (AG B0 P0) (Src.row (α:=Int) q0 .hd (jC b0 (vI b0) q0 L I))) fun C1 c2 ⟨M1,s0,Q1,V0⟩=>?_
 have t0:=BI s0 .t1
 have R1:=BJ s0 .t1
 refine bk h fun g2 y1 h=>jE (bd 174) I (e1 I) (fun w9 hw9=>aA_c n (t0.hL hL hw9) (Ar (BK (α:=Int) (v:=C1) (xs:=F1) t0 L (Bl (α:=Int) s0 .t1 V0 hL)) hw9) y1) I fun d2 D1 R0 ⟨X1,hu_,j1⟩=>?_
 subst hu_
 obtain ⟨y0,U1⟩:=t0.agr R0
 refine Ag I<|Aa<|Ao I<|Bi hb0 func195 I I ?_
 cases h
 exact ⟨y0.ag,fun w9 hw9=>⟨D1,I,y0.kd j1 hw9⟩⟩
def aB_l1 (n:Nat) (a0:La Int) (g0:Int) (a1:La Int) (p0:(La Int) × Int × (La Int) -> Oa ((La Int) × (La Int))):(La Int) × Int × (La Int) -> Oa ((La Int) × (La Int))
  | (k0,c0,b0)=>(if 0 <= c0 then (idx a0 g0).bind fun x0=>(bE c0).bind fun q0=>(ci (shrS x0 q0) 2).bind fun t0=>(bg_p n k0 t0).bind fun d0=>(aL_p n d0 a1).bind fun C0=>jn (fun (z0,A0)=>(chk (c0 - 1)).bind fun u0=>p0 (z0,u0,A0)) (fun j0=>(if 0 <= C0 then (aq_p n d0 a1).bind fun D0=>(idx b0 g0).bind fun y0=>(bE c0).bind fun s0=>(chk (y0 + (shlS 1 s0))).bind fun v0=>(put b0 ((g0.toNat:Nat):Int) v0).bind fun B0=>j0 (D0,B0) else j0 (d0,b0))) else some (k0,b0))
def aB_l2 (n:Nat) (a0:La Int) (a1:La Int) (g0:(La Int) × Int × (La Int) -> Oa ((La Int) × (La Int))):(La Int) × Int × (La Int) -> Oa ((La Int) × (La Int))
  | (c0,b0,d0)=>(if 0 <= b0 then Option.bind (au (aB_l1 n a0 b0 a1) n (c0,31,d0)) (fun (k0,p0)=>(chk (b0 - 1)).bind fun j0=>g0 (k0,j0,p0)) else some (d0,c0))
def aB_p (n:Nat) (a0:La Int) (a1:La Int):Oa ((La Int) × (La Int)):=
  (if ((a0.length:Nat):Int) <= (((a1.length:Nat):Int) - 1) then (app ([]:La Int) a0).bind fun g0=>some (([]:La Int),g0) else (mk (((a0.length:Nat):Int) - (((a1.length:Nat):Int) - 1)) (0:Int)).bind fun b0=>(cut a0 (((a0.length:Nat):Int) - (((a1.length:Nat):Int) - 1)) (a0.length:Int)).bind fun j0=>(app ([]:La Int) j0).bind fun k0=>Option.bind (au (aB_l2 n a0 a1) n (k0,((b0.length:Nat):Int) - 1,b0)) (fun (d0,c0)=>(aA_p n d0).bind fun p0=>some (p0,c0)))
theorem aB_c (n:Nat) {L w} (hL:hl L w) {a0:La Int} {v0_0:Vc} (h0_0:Rep.R w L [v0_0] a0) {a1:La Int} {v1_0:Vc} (h1_0:Rep.R w L [v1_0] a1)  {r:(La Int) × (La Int)} (h:aB_p n a0 a1 = some r) :
 Cl 175 #[v0_0,v1_0] w (aj w fun w' u=>∃ v0_0 v1_0:Vc,u = .tuple #[v0_0,v1_0]/\Rep.R w' L [v0_0] r.1/\Rep.R w' L [v1_0] r.2):=by
 unfold aB_p at h
 have hS0:=AD w
 refine AK func175 I I I fun _ cs0 hb0=>Ac<|Ag I<|Ag I<|Aa<|Ac<|Ae I ?_
 have hl1:=Bh h1_0
 refine Ab (Bk (xs:=a1) underlying34 I h1_0)<|Ab (FV.subI (i:=((a1.length:Nat):Int)) (j:=1) I I (by omega))<|Ag I<|Aa<|Aj<|Ac<|Ae I ?_
 have hl2:=Bh h0_0
 refine Ab (Bk (xs:=a0) underlying34 I h0_0)<|Ae I<|Ab (FV.leq (i:=((a0.length:Nat):Int)) (j:=((a1.length:Nat):Int) - 1) I I)<|Aa<|Be I h (fun c3 h=>?_) (fun c3 h=>?_)
 refine Ac<|Ah .plain I (jB Int hS0 aA) fun C4 V3 M0 g4=>Ae I<|bk h fun G3 p3 h=>RG.doesL .plain I (BB (α:=Int) (ys:=a0) p3 M0 (fun _ _=>.hd) aA I I (jD Int M0 L) (Src.rep (Bb h0_0 M0))) fun D1 H4 ⟨c4,J0,j4,u2⟩=>Ag I<|Ag I<|Aa<|Ao I ?_
 have s4:=Rep.nilAt (α:=Int) J0 L
 have E0:=BI J0 .hd
 have k4:=BJ J0 .hd
 have V2:=BK (α:=Int) (v:=D1) (xs:=G3) E0 L (Bl (α:=Int) J0 .hd u2 hL)
 refine Au hb0 func175 I (.cons (.tmp I) (.cons (.tmp I) .nil)) I ?_
 cases h
 exact ⟨E0.ag,fun w9 hw9=>⟨vN,D1,I,E0.kd (Rep.nilAt (α:=Int) E0 L) hw9,E0.kd V2 hw9⟩⟩
 refine Az<|Ac<|Ae I<|Ab (Bk (xs:=a0) underlying34 I h0_0)<|Ae I<|Ab (FV.subI (i:=((a0.length:Nat):Int)) (j:=((a1.length:Nat):Int) - 1) I I (by omega))<|bk h fun G0 C1 h=>Ah .plain I (Does.mk (α:=Int) C1 hS0 aA I) fun I4 c0 j1 p4=>Ag I<|Aa<|Ac<|Ah .plain I (jB Int j1 aA) fun J4 W3 U0 g2=>Ae I<|Ae I ?_
 have z1:=Bb h0_0 U0
 refine Ab (Bk (xs:=a0) underlying34 I z1)<|Ae I<|Ab (FV.subI (i:=((a0.length:Nat):Int)) (j:=((a1.length:Nat):Int) - 1) I I (by omega))<|bk h fun I3 s3 h=>RG.valE .plain I (FV.cutL (α:=Int) s3 I I z1 ⟨_,I⟩ I) fun B4 W2=>bk h fun G1 t3 h=>RG.doesL .plain I (BB (α:=Int) (ys:=I3) t3 U0 (fun _ _=>.hd) aA I I (jD Int U0 L) (Src.rep W2)) fun E1 K4 ⟨d4,F0,j2,v2⟩=>Ag I<|Aa<|Aj<|Ac<|Ae I ?_
 have q4:G0.length <= 4294967296:=St.rowLe (α:=Int) F0 .t1
 obtain ⟨P3,b4,A2⟩:=St.rowV (α:=Int) F0 .t1
 refine Ab (FV.lenV underlying34 I A2)<|Ab (FV.subI (i:=((G0.length:Nat):Int)) (j:=1) I I (by omega))<|Ag I<|Aa<|AF ?_
 have k1:=BI F0 .hd
 obtain ⟨t4,J2,B2⟩:=av h
 refine MX.lf (α:=(La Int) × Int × (La Int) × Vc × (La Vc)) (fun ⟨B0,b0,g0,y0,u0⟩=>[(0,v0_0),(1,v1_0),(7,(.slice (some ⟨c0,0,none⟩) (((a0.length:Nat):Int) - (((a1.length:Nat):Int) - 1)).toNat (((a0.length:Nat):Int) - (((a1.length:Nat):Int) - 1)).toNat)),(8,y0),(9,vI b0)]) (fun ⟨B0,b0,g0,y0,u0⟩=>[rr w 3 Int (.slice (some ⟨c0,0,none⟩) (((a0.length:Nat):Int) - (((a1.length:Nat):Int) - 1)).toNat (((a0.length:Nat):Int) - (((a1.length:Nat):Int) - 1)).toNat) g0.length u0]) (fun ⟨B0,b0,g0,y0,u0⟩ Z0=>Rep.R Z0 (bl [rr w 3 Int (.slice (some ⟨c0,0,none⟩) (((a0.length:Nat):Int) - (((a1.length:Nat):Int) - 1)).toNat (((a0.length:Nat):Int) - (((a1.length:Nat):Int) - 1)).toNat) g0.length u0] ++ L) [y0] B0/\Cells Z0 (bl [rr w 3 Int (.slice (some ⟨c0,0,none⟩) (((a0.length:Nat):Int) - (((a1.length:Nat):Int) - 1)).toNat (((a0.length:Nat):Int) - (((a1.length:Nat):Int) - 1)).toNat) g0.length u0] ++ L) u0 g0) (fun ⟨B0,b0,g0,y0,u0⟩=>(B0,b0,g0)) (G1,((G0.length:Nat):Int) - 1,G0,E1,(List.replicate (((a0.length:Nat):Int) - (((a1.length:Nat):Int) - 1)).toNat [vI 0]).flatten) J2 k1 ⟨(BK (α:=Int) (v:=E1) (xs:=G1) k1 L (Bl (α:=Int) F0 .hd v2 hL)),(AG (AJ (cs:=(List.replicate (((a0.length:Nat):Int) - (((a1.length:Nat):Int) - 1)).toNat [vI 0]).flatten) (xs:=G0) j1 L (Cells.mk C1 I)) (Tt g2 (Tt j2 (BJ F0 .hd))))⟩ ?_
 rintro Q3 ⟨B0,b0,g0,y0,u0⟩ Z0 V1 H0 Z1 ⟨A1,u1⟩ h
 unfold aB_l2 at h
 try dsimp only at h
 refine Aj<|Ac<|Ae I<|Ab (FV.geq (i:=b0) (j:=0) I I)<|Aa<|Be I h (fun K1 h=>?_) (fun K1 h=>?_)
 refine Az<|Aj<|AF<|Ac<|Ag I<|Aa<|AF ?_
 obtain ⟨u4,K2,C2⟩:=av h
 refine MX.lf (α:=(La Int) × Int × (La Int) × Vc × (La Vc)) (fun ⟨C0,p0,j0,z0,q0⟩=>[(0,v0_0),(1,v1_0),(7,(.slice (some ⟨c0,0,none⟩) (((a0.length:Nat):Int) - (((a1.length:Nat):Int) - 1)).toNat (((a0.length:Nat):Int) - (((a1.length:Nat):Int) - 1)).toNat)),(8,z0),(9,vI b0),(10,vI p0)]) (fun ⟨C0,p0,j0,z0,q0⟩=>[rr w 3 Int (.slice (some ⟨c0,0,none⟩) (((a0.length:Nat):Int) - (((a1.length:Nat):Int) - 1)).toNat (((a0.length:Nat):Int) - (((a1.length:Nat):Int) - 1)).toNat) j0.length q0]) (fun ⟨C0,p0,j0,z0,q0⟩ b1=>Rep.R b1 (bl [rr w 3 Int (.slice (some ⟨c0,0,none⟩) (((a0.length:Nat):Int) - (((a1.length:Nat):Int) - 1)).toNat (((a0.length:Nat):Int) - (((a1.length:Nat):Int) - 1)).toNat) j0.length q0] ++ L) [z0] C0/\Cells b1 (bl [rr w 3 Int (.slice (some ⟨c0,0,none⟩) (((a0.length:Nat):Int) - (((a1.length:Nat):Int) - 1)).toNat (((a0.length:Nat):Int) - (((a1.length:Nat):Int) - 1)).toNat) j0.length q0] ++ L) q0 j0) (fun ⟨C0,p0,j0,z0,q0⟩=>(C0,p0,j0)) (B0,31,g0,y0,u0) K2 H0 ⟨A1,u1⟩ ?_
 rintro R3 ⟨C0,p0,j0,z0,q0⟩ b1 W1 I0 p1 ⟨B1,W0⟩ h
 unfold aB_l1 at h
 try dsimp only at h
 refine Aj<|Ac<|Ae I<|Ab (FV.geq (i:=p0) (j:=0) I I)<|Aa<|Be I h (fun M1 h=>?_) (fun M1 h=>?_)
 refine Az<|Aj<|AF<|Ac<|Ae I<|Ae I<|Ae I<|bk h fun d1 d3 h=>?_
 obtain ⟨D2,g3⟩:=aL d3
 obtain ⟨M3,X3,x2,E2,Q1,M2,H2⟩:=Bw (Bb h0_0 I0) g3
 have y2:Q1 = [vI d1]:=M2; subst y2
 refine Ab (BE 1 (b0.toNat) I x2 I D2 E2)<|AY I (H2 0 _ I)<|Ae I<|bk h fun z3 F2 h=>Ab (FV.shrSI (i:=d1) (q:=p0) I I F2)<|bk h fun v4 X2 h=>Ab (FV.remc (i:=shrS d1 z3) (j:=2) I I X2)<|bk h fun J3 u3 h=>jE (bd 195) I (e2 I I) (fun w9 hw9=>bg_c n (I0.hL hL hw9) (Ar B1 hw9) u3) I fun D4 D3 k2 ⟨y4,hu_,Y0⟩=>?_
 subst hu_
 obtain ⟨x0,V0⟩:=I0.agr k2
 refine Ag I<|Aa<|Ac<|Ae I<|Ae I<|bk h fun H1 v3 h=>Bm (vI H1) (bd 176) I (e2 I I) (fun w9 hw9=>aL_c n (x0.hL0 hL hw9) (x0.kd Y0 hw9) (x0.k0 h1_0 hw9) v3) I<|Ab (FV.geq (i:=H1) (j:=0) I I)<|Aa<|MX.jf (α:=(La Int) × (La Int) × Vc × (La Vc)) (fun ⟨D0,t0,A0,v0⟩=>[(0,v0_0),(1,v1_0),(7,(.slice (some ⟨c0,0,none⟩) (((a0.length:Nat):Int) - (((a1.length:Nat):Int) - 1)).toNat (((a0.length:Nat):Int) - (((a1.length:Nat):Int) - 1)).toNat)),(8,A0),(9,vI b0),(10,vI p0)]) (fun ⟨D0,t0,A0,v0⟩=>[rr w 3 Int (.slice (some ⟨c0,0,none⟩) (((a0.length:Nat):Int) - (((a1.length:Nat):Int) - 1)).toNat (((a0.length:Nat):Int) - (((a1.length:Nat):Int) - 1)).toNat) t0.length v0]) (fun ⟨D0,t0,A0,v0⟩ c1=>Rep.R c1 (bl [rr w 3 Int (.slice (some ⟨c0,0,none⟩) (((a0.length:Nat):Int) - (((a1.length:Nat):Int) - 1)).toNat (((a0.length:Nat):Int) - (((a1.length:Nat):Int) - 1)).toNat) t0.length v0] ++ L) [A0] D0/\Cells c1 (bl [rr w 3 Int (.slice (some ⟨c0,0,none⟩) (((a0.length:Nat):Int) - (((a1.length:Nat):Int) - 1)).toNat (((a0.length:Nat):Int) - (((a1.length:Nat):Int) - 1)).toNat) t0.length v0] ++ L) v0 t0) (fun ⟨D0,t0,A0,v0⟩=>(D0,t0)) x0 h ?_ ?_
 rintro ⟨D0,t0,A0,v0⟩ c1 X1 b2 ⟨P2,s2⟩ h
 try dsimp only at h
 refine AI<|Av<|Ae I<|bk h fun B3 Y2 h=>Ab (FV.subc (i:=p0) (j:=1) I I Y2)<|Ag I<|Aa<|W1 (D0,B3,t0,A0,v0) X1 (Tt p1 (Tt V0 b2)) ⟨P2,s2⟩ h
 intro U3 g1 h
 try dsimp only at h
 refine Be I h (fun P1 h=>?_) (fun P1 h=>?_)
 refine Ac<|Ae I<|Ae I<|bk h fun K3 x3 h=>jE (bd 173) I (e2 I I) (fun w9 hw9=>aq_c n (x0.hL hL hw9) (Ar Y0 hw9) (x0.km h1_0 hw9) x3) I fun E4 E3 p2 ⟨z4,hu_,Q2⟩=>?_
 subst hu_
 obtain ⟨P0,q1⟩:=x0.agr p2
 refine Ag I<|Aa<|du 10 fun d0 s0=>Rv 0 d0 I s0 (fun _=>Ak I)<|Rv 1 d0 I s0 (fun _=>Ak I)<|Rv 2 d0 I s0 (fun _=>Ak I)<|Rv 3 d0 I s0 (fun _=>Ak I)<|bk h fun F1 j3 h=>?_
 obtain ⟨x1,k3⟩:=aL j3
 have y1:=AG W0 (Tt V0 q1)
 obtain ⟨I1,Y3,K0,X0,R1,R2,I2⟩:=St.nth (α:=Int) P0 .hd y1 k3
 obtain ⟨J1,Z3,v1⟩:=Cb (α:=Int) P0 .hd X0
 obtain rfl:I1 = ⟨J1,0,none⟩:=by rw [v1] at K0; cases K0; rfl
 have z2:R1 = [vI F1]:=R2; subst z2
 refine Rv 4 d0 I s0 (fun _=>BE 1 (b0.toNat) I K0 I x1 X0)<|Rx 5 1792 d0 I s0 (AN I (I2 0 _ I))<|Rv 6 d0 I s0 (fun _=>Ak I)<|bk h fun A3 G2 h=>Rv 7 d0 I s0 (fun _=>FV.shlSI (i:=1) (q:=p0) I I G2)<|bk h fun x4 Z2 h=>Rv 8 d0 I s0 (fun _=>BR (i:=F1) (j:=shlS 1 A3) I I Z2)<|Rv 9 d0 I s0 (fun _=>BE 1 (b0.toNat) I K0 I x1 X0)<|bk h fun H3 q3 h=>AT (i:=10) (rk d0) (RO.acts (m' :=2047) (sk d0) I I .plain (Acts.set (α:=Int) (i:=b0.toNat) q3 P0 v1 (fun _=>.hd) y1 I I I I I I) (fun F4 ⟨U1,Y1,s1,t2⟩=>?_))
 refine AO (dk d0)<|g1 (K3,H3,E3,U1) Y1 (Tt q1 s1) ⟨(Ap Q2 s1),t2⟩ h
 refine Az<|g1 (J3,j0,D3,q0) x0 (Br _ _) ⟨Y0,(AG W0 V0)⟩ h
 refine Bj I ?_
 have h:=C2 _ h
 try dsimp only at h
 refine AI<|Av<|Ae I<|bk h fun C3 b3 h=>Ab (FV.subc (i:=b0) (j:=1) I I b3)<|Ag I<|Aa<|V1 (C0,C3,j0,z0,q0) I0 (Tt Z1 p1) ⟨B1,W0⟩ h
 refine Bj I ?_
 have h:=B2 _ h
 try dsimp only at h
 refine Ac<|Ae I ?_
 have Q0:=BI H0 .hd
 have c2:=BJ H0 .hd
 refine bk h fun M4 y3 h=>jE (bd 174) I (e1 I) (fun w9 hw9=>aA_c n (Q0.hL hL hw9) (Ar (BK (α:=Int) (v:=(.slice (some ⟨c0,0,none⟩) (((a0.length:Nat):Int) - (((a1.length:Nat):Int) - 1)).toNat (((a0.length:Nat):Int) - (((a1.length:Nat):Int) - 1)).toNat)) (xs:=g0) Q0 L (Bl (α:=Int) H0 .hd u1 hL)) hw9) y3) I fun G4 F3 q2 ⟨A4,hu_,U2⟩=>?_
 subst hu_
 obtain ⟨R0,d2⟩:=Q0.agr q2
 refine Ae I<|Ag I<|Ag I<|Aa<|Ao I<|Au hb0 func175 I (.cons (.tmp I) (.cons (.tmp I) .nil)) I ?_
 cases h
 exact ⟨R0.ag,fun w9 hw9=>⟨F3,y0,I,R0.kd U2 hw9,R0.kd (Ap A1 (Tt c2 d2)) hw9⟩⟩
def aN_l1 (n:Nat) (d0:(La Int) × (La Int) -> Oa (La Int)):(La Int) × (La Int) -> Oa (La Int)
  | (c0,b0)=>(if 0 < b0.length then (aB_p n c0 b0).bind fun g0=>d0 (b0,g0.2) else some c0)
def aN_p (n:Nat) (a0:Td) (a1:Td):Oa Td:=
  Option.bind (au (aN_l1 n) n (a0.fD,a1.fD)) (fun b0=>some (⟨false,b0⟩:Td))
theorem aN_c (n:Nat) {L w} (hL:hl L w) (a0:Td) {v0_1:Vc} (h0_1:Rep.R w L [v0_1] a0.fD) (a1:Td) {v1_1:Vc} (h1_1:Rep.R w L [v1_1] a1.fD)  {r:Td} (h:aN_p n a0 a1 = some r) :
 Cl 138 #[.agg #[.bool a0.fh,v0_1],.agg #[.bool a1.fh,v1_1]] w (aj w fun w' u=>∃ v0_1:Vc,u = .agg #[.bool r.fh,v0_1]/\Rep.R w' L [v0_1] r.fD):=by
 unfold aN_p at h
 refine AK func138 I I I fun _ cs0 hb0=>Ac<|RG.bx (AD w) I I fun s1 W0 C0 Z0=>RG.bx C0 I I fun u1 X0 D0 b1=>RG.nl [.bool false,vN] D0 fun v1 p0 t0 c1=>Aa<|Aj<|du 6 fun d0 j0=>Rv 0 d0 I j0 (fun _=>AS 1 I)<|Rx 1 48 d0 I j0 (AN I ((t0.memA .t2) 1 _ I))<|Rv 2 d0 I j0 (fun _=>AS 1 I)<|Rx 3 32 d0 I j0 (AN I ((t0.memA .t1) 1 _ I))<|Rv 4 d0 I j0 (fun _=>Bn I)<|Rv 5 d0 I j0 (fun _=>Bn I)<|AO (dk d0)<|Aj<|AF ?_
 obtain ⟨u0,d1⟩:=Am t0 (.a0 .done)
 obtain ⟨k1,J0,I0⟩:=av h
 refine MX.lf (α:=(La Int) × (La Int) × Vc × Vc) (fun ⟨k0,c0,b0,g0⟩=>[(4,vP p0),(5,b0),(6,g0)]) (fun ⟨k0,c0,b0,g0⟩=>[.cells p0 [.bool false,vN] 158]) (fun ⟨k0,c0,b0,g0⟩ y0=>Rep.R y0 (bl [.cells p0 [.bool false,vN] 158] ++ L) [b0] k0/\Rep.R y0 (bl [.cells p0 [.bool false,vN] 158] ++ L) [g0] c0) (fun ⟨k0,c0,b0,g0⟩=>(k0,c0)) (a0.fD,a1.fD,v0_1,v1_1) J0 u0 ⟨(Bb h0_1 u0),(Bb h1_1 u0)⟩ ?_
 rintro V0 ⟨k0,c0,b0,g0⟩ y0 B0 v0 F0 ⟨q0,s0⟩ h
 unfold aN_l1 at h
 try dsimp only at h
 refine Aj<|Ac<|Ae I ?_
 have g1:=Bh s0
 refine Ab (Bk (xs:=c0) underlying34 I s0)<|Ab (FV.gtrN (i:=c0.length) (j:=0) I I)<|Aa<|Be I h (fun A0 h=>?_) (fun A0 h=>?_)
 refine Az<|AF<|Ac<|Ae I<|Ae I<|bk h fun R0 P0 h=>jE (bd 175) I (e2 I I) (fun w9 hw9=>aB_c n (v0.hL hL hw9) (Ar q0 hw9) (Ar s0 hw9) P0) I fun x1 q1 H0 ⟨p1,Q0,hu_,j1,K0⟩=>?_
 subst hu_
 obtain ⟨E0,z0⟩:=v0.agr H0
 refine Ae I<|Ab (Ai I I)<|Ab (Ai I I)<|Ag I<|Ag I<|Aa<|Av<|Ae I<|Ae I<|Ag I<|Ag I<|Aa<|AI<|B0 (c0,R0.2,g0,Q0) E0 (Tt F0 z0) ⟨(Ap s0 z0),K0⟩ h
 refine Bj I ?_
 have h:=I0 _ h
 try dsimp only at h
 refine Ac<|Ae I ?_
 obtain ⟨U0,Y0,M0,_⟩:=Rep.sl q0
 refine Ab (AP (vs:=[b0]) (u:=.agg #[.bool false,b0]) (e1 I) (fun w9=>by rw [M0]; try kernel_rfl))<|AW [.bool false,b0] v0 .hd (o2 I (AX q0)) fun y1 x0 G0=>Aa<|Ao I<|Au hb0 func138 I (.cons (.many (cs:=[.bool false,b0]) I I (x0.memA .hd)) .nil) I ?_
 cases h
 exact ⟨x0.ag,fun w9 hw9=>⟨b0,I,x0.kd (Ap q0 G0) hw9⟩⟩
def ae_p (n:Nat) (a0:Bool) (a1:La Int):Oa Td:=
  (aA_p n a1).bind fun b0=>(if a0 = true then some (⟨(decide (0 < b0.length)),b0⟩:Td) else some (⟨false,b0⟩:Td))
theorem ae_c (n:Nat) {L w} (hL:hl L w) {a0:Bool} {a1:La Int} {v1_0:Vc} (h1_0:Rep.R w L [v1_0] a1)  {r:Td} (h:ae_p n a0 a1 = some r) :
 Cl 172 #[.bool a0,v1_0] w (aj w fun w' u=>∃ v0_1:Vc,u = .agg #[.bool r.fh,v0_1]/\Rep.R w' L [v0_1] r.fD):=by
 unfold ae_p at h
 refine AK func172 I I I fun _ cs0 hb0=>Ac<|RG.nl [.bool false,vN] (AD w) fun I0 B0 g0 E0=>Aa<|Ac<|Ae I<|bk h fun d0 y0 h=>jE (bd 174) I (e1 I) (fun w9 hw9=>aA_c n (g0.hL hL hw9) (g0.km h1_0 hw9) y0) I fun J0 b0 u0 ⟨H0,hu_,c0⟩=>?_
 subst hu_
 obtain ⟨p0,F0⟩:=g0.agr u0
 refine Ag I<|Aa<|Ac<|Ae I<|Ae I<|RG.ifb (s:=8) I h (fun q0 h=>?_) (fun q0 h=>?_)
 refine AH (Ak I) ?_
 have G0:=Bh c0
 refine AH (Bk (xs:=d0) underlying34 I c0)<|AH (FV.gtrN (i:=d0.length) (j:=0) I I)<|Bq I I<|Ae I ?_
 obtain ⟨z0,C0,v0,_⟩:=Rep.sl c0
 refine Ab (AP (vs:=[.bool (decide (0 < d0.length)),b0]) (u:=.agg #[.bool (decide (0 < d0.length)),b0]) (e2 I I) (fun w9=>by rw [v0]; try kernel_rfl))<|AW [.bool (decide (0 < d0.length)),b0] p0 .hd (o2 I (AX c0)) fun K0 j0 s0=>Aa<|Ao I<|Au hb0 func172 I (.cons (.many (cs:=[.bool (decide (0 < d0.length)),b0]) I I (j0.memA .hd)) .nil) I ?_
 cases h
 exact ⟨j0.ag,fun w9 hw9=>⟨b0,I,j0.kd (Ap c0 s0) hw9⟩⟩
 refine Aw<|Aw<|Aw<|By I I<|Ae I ?_
 obtain ⟨A0,D0,x0,_⟩:=Rep.sl c0
 refine Ab (AP (vs:=[.bool false,b0]) (u:=.agg #[.bool false,b0]) (e2 I I) (fun w9=>by rw [x0]; try kernel_rfl))<|AW [.bool false,b0] p0 .hd (o2 I (AX c0)) fun M0 k0 t0=>Aa<|Ao I<|Au hb0 func172 I (.cons (.many (cs:=[.bool false,b0]) I I (k0.memA .hd)) .nil) I ?_
 cases h
 exact ⟨k0.ag,fun w9 hw9=>⟨b0,I,k0.kd (Ap c0 t0) hw9⟩⟩
def bB_p (n:Nat) (a0:Td):Oa Td:=
  (ae_p n (!a0.fh) a0.fD).bind fun b0=>some b0
theorem bB_c (n:Nat) {L w} (hL:hl L w) (a0:Td) {v0_1:Vc} (h0_1:Rep.R w L [v0_1] a0.fD)  {r:Td} (h:bB_p n a0 = some r) :
 Cl 177 #[.agg #[.bool a0.fh,v0_1]] w (aj w fun w' u=>∃ v0_1:Vc,u = .agg #[.bool r.fh,v0_1]/\Rep.R w' L [v0_1] r.fD):=by
 unfold bB_p at h
 refine AK func177 I I I fun _ cs0 hb0=>Ac<|RG.bx (AD w) I I fun B0 u0 k0 x0=>RG.nl [.bool false,vN] k0 fun C0 v0 b0 y0=>Aa<|Ac<|Ba 0 I<|AY I ((b0.memA .t1) 0 _ I)<|Ab (Bz I)<|Ba 1 I<|AY I ((b0.memA .t1) 1 _ I)<|bk h fun j0 t0 h=>jE (bd 172) I (e2 I I) (fun w9 hw9=>ae_c n (b0.hL hL hw9) (b0.km h0_1 hw9) t0) I fun D0 A0 s0 ⟨d0,hu_,g0⟩=>?_
 subst hu_
 obtain ⟨p0,z0⟩:=b0.agr s0
 refine AW [.bool j0.fh,d0] p0 .hd (o2 I (AX g0)) fun E0 c0 q0=>Aa<|Ao I<|Au hb0 func177 I (.cons (.many (cs:=[.bool j0.fh,d0]) I I (c0.memA .hd)) .nil) I ?_
 cases h
 exact ⟨c0.ag,fun w9 hw9=>⟨d0,I,c0.kd (Ap g0 q0) hw9⟩⟩
def bq_l1 (_n:Nat) (a0:La Int) (a1:La Int) (g0:Int × Int × (La Int) -> Oa (La Int)):Int × Int × (La Int) -> Oa (La Int)
  | (c0,b0,d0)=>(if b0 < ((a0.length:Nat):Int) then (idx a0 b0).bind fun C0=>(chk (c0 + C0)).bind fun k0=>jn (fun q0=>(ci q0 4294967296).bind fun s0=>(app d0 ([s0]:La Int)).bind fun F0=>(cL q0 4294967296).bind fun t0=>(chk (b0 + 1)).bind fun u0=>g0 (t0,u0,F0)) (fun j0=>(if b0 < ((a1.length:Nat):Int) then (idx a1 b0).bind fun D0=>(chk (k0 + D0)).bind fun v0=>j0 v0 else j0 k0)) else (if b0 < ((a1.length:Nat):Int) then (idx a1 b0).bind fun E0=>(chk (c0 + E0)).bind fun p0=>(ci p0 4294967296).bind fun x0=>(app d0 ([x0]:La Int)).bind fun G0=>(cL p0 4294967296).bind fun y0=>g0 (y0,b0 + 1,G0) else (if 0 < c0 then (ci c0 4294967296).bind fun z0=>(app d0 ([z0]:La Int)).bind fun H0=>(cL c0 4294967296).bind fun A0=>(chk (b0 + 1)).bind fun B0=>g0 (A0,B0,H0) else some d0)))
def bq_p (n:Nat) (a0:La Int) (a1:La Int):Oa (La Int):=
  Option.bind (au (bq_l1 n a0 a1) n (0,0,([]:La Int))) (fun b0=>some b0)
theorem bq_c (n:Nat) {L w} (hL:hl L w) {a0:La Int} {v0_0:Vc} (h0_0:Rep.R w L [v0_0] a0) {a1:La Int} {v1_0:Vc} (h1_0:Rep.R w L [v1_0] a1)  {r:La Int} (h:bq_p n a0 a1 = some r) :
 Cl 194 #[v0_0,v1_0] w (aj w fun w' u=>∃ v0_0:Vc,u = v0_0/\Rep.R w' L [v0_0] r):=by
 unfold bq_p at h
 have hS0:=AD w
 refine AK func194 I I I fun _ cs0 hb0=>Ac<|Ag I<|Aa<|Ac<|Ag I<|Aa<|Ac<|Ag I<|Aa<|Aj<|Ac<|Ag I<|Aa<|AF ?_
 have I0:=hS0.nilRow 3 (Rep.size Int)
 have B3:=St.nilRowT hS0 3 (Rep.size Int)
 obtain ⟨G3,j2,U1⟩:=av h
 refine MX.lf (α:=Int × Int × (La Int) × Vc × (La Vc)) (fun ⟨g0,b0,j0,d0,k0⟩=>[(0,v0_0),(1,v1_0),(5,d0),(6,vI g0),(7,vI b0)]) (fun ⟨g0,b0,j0,d0,k0⟩=>[rr w 3 Int d0 j0.length k0]) (fun ⟨g0,b0,j0,d0,k0⟩ X0=>Cells X0 (bl [rr w 3 Int d0 j0.length k0] ++ L) k0 j0) (fun ⟨g0,b0,j0,d0,k0⟩=>(g0,b0,j0)) (0,0,([]:La Int),vN,[]) j2 I0 (AJ (cs:=[]) (xs:=([]:La Int)) I0 L (AR _ _)) ?_
 rintro s3 ⟨g0,b0,j0,d0,k0⟩ X0 A0 c0 F0 y0 h
 unfold bq_l1 at h
 try dsimp only at h
 refine Aj<|Ac<|Ae I<|Ae I ?_
 have u0:=Bb h0_0 c0
 have D3:=Bh u0
 refine Ab (Bk (xs:=a0) underlying34 I u0)<|Ab (FV.lss (i:=b0) (j:=((a0.length:Nat):Int)) I I)<|Ae I<|BG (s:=12) I h (fun x0 h=>?_) (fun x0 h=>?_)
 refine Aw<|Aw<|Aw<|Aw<|Bq I I<|Ae I<|Aw<|Aw<|Bq I I<|Aa<|Bg I<|Az<|Aj<|AF<|Aj<|Ac<|Ae I<|Ae I<|Ab (Bk (xs:=a0) underlying34 I u0)<|Ab (FV.lss (i:=b0) (j:=((a0.length:Nat):Int)) I I)<|Aa<|MX.cond_kt I (decide_eq_true x0)<|Av<|Ae I<|Ae I<|Ae I<|bk h fun Y0 F2 h=>?_
 obtain ⟨V1,G2⟩:=aL F2
 obtain ⟨k3,y3,J1,Y1,j1,k2,c2⟩:=Bw u0 G2
 have K1:j1 = [vI Y0]:=k2; subst K1
 refine Ab (BE 1 (b0.toNat) I J1 I V1 Y1)<|AY I (c2 0 _ I)<|bk h fun V0 t2 h=>Ab (BR (i:=g0) (j:=Y0) I I t2)<|Ag I<|Aa<|Aj<|Ac<|Ae I<|Ae I ?_
 have G0:=Bb h1_0 c0
 have E3:=Bh G0
 refine Ab (Bk (xs:=a1) underlying34 I G0)<|Ab (FV.lss (i:=b0) (j:=((a1.length:Nat):Int)) I I)<|Aa<|MX.jo (α:=Int) (fun t0=>[(0,v0_0),(1,v1_0),(5,d0),(6,vI t0),(7,vI b0)]) (fun t0=>[rr w 3 Int d0 j0.length k0]) (fun t0=>t0) c0 h ?_ ?_
 rintro t0 Q3 v1 J0 h
 try dsimp only at h
 refine Ac<|Ae I<|Ae I<|bk h fun p0 u2 h=>Ab (FV.remc (i:=t0) (j:=4294967296) I I u2)<|Ah .plain I (jA p0 (vI p0) v1 aA (e1 I)) fun H3 u3 B0 K0=>bk h fun d3 M2 h=>RG.doesL .plain I (BB (α:=Int) (ys:=([p0]:La Int)) M2 B0 (fun _ _=>.t1) aA I I (AG y0 (Tt J0 K0)) (Src.row (α:=Int) B0 .hd (jC p0 (vI p0) B0 L I))) fun Z2 I3 ⟨k1,x1,D1,G1⟩=>Ag I<|Aa<|Av<|Ae I<|bk h fun R2 v2 h=>Ab (FV.quoc (i:=t0) (j:=4294967296) I I v2)<|Ag I<|Aa<|AI<|Av<|Ae I<|bk h fun U2 x2 h=>Ab (BR (i:=b0) (j:=1) I I x2)<|Ag I<|Aa ?_
 obtain ⟨y1,M0⟩:=Am x1 .d1
 exact A0 (R2,U2,d3,Z2,k1) y1 (Tt F0 (Tt J0 (Tt K0 (Tt D1 M0)))) (AG G1 M0) h
 intro t3 H0 h
 try dsimp only at h
 refine Be I h (fun c1 h=>?_) (fun c1 h=>?_)
 refine Av<|Ae I<|Ae I<|Ae I<|bk h fun Z0 H2 h=>?_
 obtain ⟨W1,I2⟩:=aL H2
 obtain ⟨p3,z3,M1,Z1,p1,p2,d2⟩:=Bw G0 I2
 have P1:p1 = [vI Z0]:=p2; subst P1
 refine Ab (BE 1 (b0.toNat) I M1 I W1 Z1)<|AY I (d2 0 _ I)<|bk h fun V2 y2 h=>Ab (BR (i:=V0) (j:=Z0) I I y2)<|Ag I<|Aa<|H0 V2 c0 (Br _ _) h
 refine Az<|H0 V0 c0 (Br _ _) h
 refine AH (Ak I)<|AH (Ak I) ?_
 have v0:=Bb h1_0 c0
 have F3:=Bh v0
 refine AH (Bk (xs:=a1) underlying34 I v0)<|AH (FV.lss (i:=b0) (j:=((a1.length:Nat):Int)) I I)<|By I I<|Ae I<|BG (s:=18) I h (fun z0 h=>?_) (fun z0 h=>?_)
 refine Aw<|Aw<|Bq I I<|Aa<|Bg I<|Az<|Aj<|AF<|Aj<|Ac<|Ae I<|Ae I<|Ab (Bk (xs:=a0) underlying34 I u0)<|Ab (FV.lss (i:=b0) (j:=((a0.length:Nat):Int)) I I)<|Aa<|MX.cond_kf I (decide_eq_false x0)<|Az<|Aj<|Ac<|Ae I<|Ae I<|Ab (Bk (xs:=a1) underlying34 I v0)<|Ab (FV.lss (i:=b0) (j:=((a1.length:Nat):Int)) I I)<|Aa<|MX.cond_kt I (decide_eq_true z0)<|Av<|Ae I<|Ae I<|Ae I<|bk h fun b1 J2 h=>?_
 obtain ⟨X1,K2⟩:=aL J2
 obtain ⟨q3,A3,Q1,b2,q1,q2,g2⟩:=Bw v0 K2
 have R1:q1 = [vI b1]:=q2; subst R1
 refine Ab (BE 1 (b0.toNat) I Q1 I X1 b2)<|AY I (g2 0 _ I)<|bk h fun W0 z2 h=>Ab (BR (i:=g0) (j:=b1) I I z2)<|Ag I<|Aa<|Ac<|Ae I<|Ae I<|bk h fun q0 A2 h=>Ab (FV.remc (i:=W0) (j:=4294967296) I I A2)<|Ah .plain I (jA q0 (vI q0) c0 aA (e1 I)) fun J3 v3 C0 P0=>bk h fun g3 P2 h=>RG.doesL .plain I (BB (α:=Int) (ys:=([q0]:La Int)) P2 C0 (fun _ _=>.t1) aA I I (AG y0 P0) (Src.row (α:=Int) C0 .hd (jC q0 (vI q0) C0 L I))) fun b3 K3 ⟨s1,z1,E1,H1⟩=>Ag I<|Aa<|Av<|Ae I<|bk h fun W2 B2 h=>Ab (FV.quoc (i:=W0) (j:=4294967296) I I B2)<|Ag I<|Aa<|AI<|Av<|Ae I<|Ab (FV.addI (i:=b0) (j:=1) I I (by omega))<|Ag I<|Aa ?_
 obtain ⟨A1,Q0⟩:=Am z1 .d1
 exact A0 (W2,b0 + 1,g3,b3,s1) A1 (Tt F0 (Tt P0 (Tt E1 Q0))) (AG H1 Q0) h
 refine AH (Ak I)<|AH (FV.gtr (i:=g0) (j:=0) I I)<|By I I<|Aa<|Be I h (fun g1 h=>?_) (fun g1 h=>?_)
 refine Az<|Aj<|AF<|Aj<|Ac<|Ae I<|Ae I<|Ab (Bk (xs:=a0) underlying34 I u0)<|Ab (FV.lss (i:=b0) (j:=((a0.length:Nat):Int)) I I)<|Aa<|MX.cond_kf I (decide_eq_false x0)<|Az<|Aj<|Ac<|Ae I<|Ae I<|Ab (Bk (xs:=a1) underlying34 I v0)<|Ab (FV.lss (i:=b0) (j:=((a1.length:Nat):Int)) I I)<|Aa<|MX.cond_kf I (decide_eq_false z0)<|Az<|Ac<|Ae I<|Ae I<|bk h fun s0 C2 h=>Ab (FV.remc (i:=g0) (j:=4294967296) I I C2)<|Ah .plain I (jA s0 (vI s0) c0 aA (e1 I)) fun M3 x3 D0 R0=>bk h fun j3 Q2 h=>RG.doesL .plain I (BB (α:=Int) (ys:=([s0]:La Int)) Q2 D0 (fun _ _=>.t1) aA I I (AG y0 R0) (Src.row (α:=Int) D0 .hd (jC s0 (vI s0) D0 L I))) fun c3 P3 ⟨u1,B1,F1,I1⟩=>Ag I<|Aa<|Av<|Ae I<|bk h fun X2 D2 h=>Ab (FV.quoc (i:=g0) (j:=4294967296) I I D2)<|Ag I<|Aa<|AI<|Av<|Ae I<|bk h fun Y2 E2 h=>Ab (BR (i:=b0) (j:=1) I I E2)<|Ag I<|Aa ?_
 obtain ⟨C1,U0⟩:=Am B1 .d1
 exact A0 (X2,Y2,j3,c3,u1) C1 (Tt F0 (Tt R0 (Tt F1 U0))) (AG I1 U0) h
 refine Bj I ?_
 have h:=U1 _ h
 try dsimp only at h
 refine Ac<|Ae I<|Ag I<|Aa<|Ao I ?_
 have E0:=BI c0 .hd
 have C3:=BJ c0 .hd
 have s2:=BK (α:=Int) (v:=d0) (xs:=j0) E0 L (Bl (α:=Int) c0 .hd y0 hL)
 refine Bi hb0 func194 I I ?_
 cases h
 exact ⟨E0.ag,fun w9 hw9=>⟨d0,I,E0.kd s2 hw9⟩⟩
def bc_p (n:Nat) (a0:Td) (a1:Td):Oa Td:=
  (if (a0.fh == a1.fh) = true then (bq_p n a0.fD a1.fD).bind fun b0=>(ae_p n a0.fh b0).bind fun c0=>some c0 else (aL_p n a0.fD a1.fD).bind fun d0=>(if 0 <= d0 then (aq_p n a0.fD a1.fD).bind fun g0=>(ae_p n a0.fh g0).bind fun j0=>some j0 else (aq_p n a1.fD a0.fD).bind fun k0=>(ae_p n a1.fh k0).bind fun p0=>some p0))
theorem bc_c (n:Nat) {L w} (hL:hl L w) (a0:Td) {v0_1:Vc} (h0_1:Rep.R w L [v0_1] a0.fD) (a1:Td) {v1_1:Vc} (h1_1:Rep.R w L [v1_1] a1.fD)  {r:Td} (h:bc_p n a0 a1 = some r) :
 Cl 170 #[.agg #[.bool a0.fh,v0_1],.agg #[.bool a1.fh,v1_1]] w (aj w fun w' u=>∃ v0_1:Vc,u = .agg #[.bool r.fh,v0_1]/\Rep.R w' L [v0_1] r.fD):=by
 unfold bc_p at h
 refine AK func170 I I I fun _ cs0 hb0=>Ac<|RG.bx (AD w) I I fun b2 A1 M0 D1=>RG.bx M0 I I fun c2 B1 P0 E1=>RG.nl [.bool false,vN] P0 fun d2 C1 b0 F1=>Aa<|Aj<|Ac<|Ba 0 I<|AY I ((b0.memA .t2) 0 _ I)<|Ba 0 I<|AY I ((b0.memA .t1) 0 _ I)<|Ab (FV.eqlB (a:=a0.fh) (b:=a1.fh) underlying4 I I)<|Aa<|MX.ifb I h (fun J0 h=>?_) (fun J0 h=>?_)
 refine Aj<|du 8 fun c0 j0=>Rv 0 c0 I j0 (fun _=>AS 0 I)<|Rx 1 384 c0 I j0 (AN I ((b0.memA .t2) 0 _ I))<|Rv 2 c0 I j0 (fun _=>AS 1 I)<|Rx 3 448 c0 I j0 (AN I ((b0.memA .t2) 1 _ I))<|Rv 4 c0 I j0 (fun _=>AS 1 I)<|Rx 5 448 c0 I j0 (AN I ((b0.memA .t1) 1 _ I))<|bk h fun y2 q1 h=>Bp 6 127 c0 I .plain (bd 194) I (e2 I I) (fun w9 hw9=>bq_c n (b0.hL hL hw9) (b0.km h0_1 hw9) (b0.km h1_1 hw9) q1) I fun g2 U1 Y0 ⟨P1,hu_,j1⟩=>?_
 subst hu_
 obtain ⟨z0,G1⟩:=b0.agr Y0
 refine bk h fun F0 s1 h=>Bp 7 255 c0 I .plain (bd 172) I (e2 I I) (fun w9 hw9=>ae_c n (z0.hL hL hw9) (Ar j1 hw9) s1) I fun j2 V1 Z0 ⟨v0,hu_,C0⟩=>?_
 subst hu_
 obtain ⟨Q0,H1⟩:=z0.agr Z0
 refine Bv 8 511 c0 I I .plain (Ax (news:=[.bool F0.fh,v0]) Q0 .hd I I I I I I (o2 I (AX C0))) fun k2 s0 V0=>AO (dk c0)<|Ao I<|Au hb0 func170 I (.cons (.many (cs:=[.bool F0.fh,v0]) I I (s0.memA .hd)) .nil) I ?_
 cases h
 exact ⟨s0.ag,fun w9 hw9=>⟨v0,I,s0.kd (Ap C0 V0) hw9⟩⟩
 refine Az<|Aj<|Ac<|Ba 1 I<|AY I ((b0.memA .t2) 1 _ I)<|Ba 1 I<|AY I ((b0.memA .t1) 1 _ I)<|bk h fun G0 u1 h=>Bm (vI G0) (bd 176) I (e2 I I) (fun w9 hw9=>aL_c n (b0.hL0 hL hw9) (b0.k0 h0_1 hw9) (b0.k0 h1_1 hw9) u1) I<|Ab (FV.geq (i:=G0) (j:=0) I I)<|Aa<|Be I h (fun K0 h=>?_) (fun K0 h=>?_)
 refine Aj<|du 8 fun d0 p0=>Rv 0 d0 I p0 (fun _=>AS 0 I)<|Rx 1 384 d0 I p0 (AN I ((b0.memA .t2) 0 _ I))<|Rv 2 d0 I p0 (fun _=>AS 1 I)<|Rx 3 448 d0 I p0 (AN I ((b0.memA .t2) 1 _ I))<|Rv 4 d0 I p0 (fun _=>AS 1 I)<|Rx 5 448 d0 I p0 (AN I ((b0.memA .t1) 1 _ I))<|bk h fun z2 v1 h=>Bp 6 127 d0 I .plain (bd 173) I (e2 I I) (fun w9 hw9=>aq_c n (b0.hL hL hw9) (b0.km h0_1 hw9) (b0.km h1_1 hw9) v1) I fun p2 W1 b1 ⟨Q1,hu_,k1⟩=>?_
 subst hu_
 obtain ⟨A0,I1⟩:=b0.agr b1
 refine bk h fun H0 x1 h=>Bp 7 255 d0 I .plain (bd 172) I (e2 I I) (fun w9 hw9=>ae_c n (A0.hL hL hw9) (Ar k1 hw9) x1) I fun q2 X1 c1 ⟨x0,hu_,D0⟩=>?_
 subst hu_
 obtain ⟨R0,J1⟩:=A0.agr c1
 refine Bv 8 511 d0 I I .plain (Ax (news:=[.bool H0.fh,x0]) R0 .hd I I I I I I (o2 I (AX D0))) fun s2 t0 W0=>AO (dk d0)<|Ao I<|Au hb0 func170 I (.cons (.many (cs:=[.bool H0.fh,x0]) I I (t0.memA .hd)) .nil) I ?_
 cases h
 exact ⟨t0.ag,fun w9 hw9=>⟨x0,I,t0.kd (Ap D0 W0) hw9⟩⟩
 refine Az<|Aj<|du 8 fun g0 q0=>Rv 0 g0 I q0 (fun _=>AS 0 I)<|Rx 1 384 g0 I q0 (AN I ((b0.memA .t1) 0 _ I))<|Rv 2 g0 I q0 (fun _=>AS 1 I)<|Rx 3 448 g0 I q0 (AN I ((b0.memA .t1) 1 _ I))<|Rv 4 g0 I q0 (fun _=>AS 1 I)<|Rx 5 448 g0 I q0 (AN I ((b0.memA .t2) 1 _ I))<|bk h fun A2 y1 h=>Bp 6 127 g0 I .plain (bd 173) I (e2 I I) (fun w9 hw9=>aq_c n (b0.hL hL hw9) (b0.km h1_1 hw9) (b0.km h0_1 hw9) y1) I fun u2 Y1 d1 ⟨R1,hu_,p1⟩=>?_
 subst hu_
 obtain ⟨B0,K1⟩:=b0.agr d1
 refine bk h fun I0 z1 h=>Bp 7 255 g0 I .plain (bd 172) I (e2 I I) (fun w9 hw9=>ae_c n (B0.hL hL hw9) (Ar p1 hw9) z1) I fun v2 Z1 g1 ⟨y0,hu_,E0⟩=>?_
 subst hu_
 obtain ⟨U0,M1⟩:=B0.agr g1
 refine Bv 8 511 g0 I I .plain (Ax (news:=[.bool I0.fh,y0]) U0 .hd I I I I I I (o2 I (AX E0))) fun x2 u0 X0=>AO (dk g0)<|Ao I<|Au hb0 func170 I (.cons (.many (cs:=[.bool I0.fh,y0]) I I (u0.memA .hd)) .nil) I ?_
 cases h
 exact ⟨u0.ag,fun w9 hw9=>⟨y0,I,u0.kd (Ap E0 X0) hw9⟩⟩
def a9_p (n:Nat) (a0:Int):Oa Td:=
  jn (fun u16=>(ae_p n (decide (a0 < 0)) ([aC (u16 % (4294967296:Ua)),aC (u16 / (4294967296:Ua))]:La Int)).bind fun c0=>some c0) (fun b0=>(if a0 < 0 then b0 (-(ah a0)) else b0 (ah a0)))
theorem a9_c (n:Nat) {L w} (hL:hl L w) {a0:Int}  {r:Td} (h:a9_p n a0 = some r) :
 Cl 180 #[vI a0] w (aj w fun w' u=>∃ v0_1:Vc,u = .agg #[.bool r.fh,v0_1]/\Rep.R w' L [v0_1] r.fD):=by
 unfold a9_p at h
 refine AK func180 I I I fun _ cs0 hb0=>Ac<|RG.nl [.bool false,vN] (AD w) fun I0 k0 c0 C0=>Aa<|Ac<|Ae I<|Ab (FV.lss (i:=a0) (j:=0) I I)<|Ag I<|Aa<|Ac<|Ae I<|Ab (FV.convU (i:=a0) underlying3 underlying42 I)<|Ag I<|Aa<|Aj<|Ac<|Ae I<|Aa<|MX.jo (α:=Ua) (fun u16=>[(2,vP k0),(3,.bool (decide (a0 < 0))),(4,vU u16)]) (fun u16=>[.cells k0 [.bool false,vN] 158]) (fun u16=>u16) c0 h ?_ ?_
 rintro u16 P0 v0 D0 h
 try dsimp only at h
 refine Ac<|Ae I<|Ae I<|Ab (FV.remU (a:=u16) (b:=(4294967296:Ua)) I I (by decide))<|Ab (FV.convUI (a:=u16 % (4294967296:Ua)) underlying42 underlying3 I)<|Ae I<|Ab (FV.quoU (a:=u16) (b:=(4294967296:Ua)) I I (by decide))<|Ab (FV.convUI (a:=u16 / (4294967296:Ua)) underlying42 underlying3 I)<|Ah .plain I (AU (α:=Int) (xs:=([aC (u16 % (4294967296:Ua)),aC (u16 / (4294967296:Ua))]:La Int)) (vs:=[vI (aC (u16 % (4294967296:Ua))),vI (aC (u16 / (4294967296:Ua)))]) (ds' :=[vI (aC (u16 % (4294967296:Ua))),vI (aC (u16 / (4294967296:Ua)))]) I v0 aA I (e2 I I) (by kernel_rfl) I) fun J0 t0 b0 E0=>?_
 have d0:=BI b0 .hd
 have F0:=BJ b0 .hd
 refine bk h fun s0 A0 h=>jE (bd 172) I (e2 I I) (fun w9 hw9=>ae_c n (d0.hL hL hw9) (Ar (BK (α:=Int) (v:=(vS t0 2)) (xs:=([aC (u16 % (4294967296:Ua)),aC (u16 / (4294967296:Ua))]:La Int)) d0 L (Bl (α:=Int) b0 .hd (AJ (cs:=[vI (aC (u16 % (4294967296:Ua))),vI (aC (u16 / (4294967296:Ua)))]) (xs:=(([aC (u16 % (4294967296:Ua)),aC (u16 / (4294967296:Ua))]:La Int):La Int)) b0 L (AB (cs:=[vI (aC (u16 % (4294967296:Ua)))]) (ds:=[vI (aC (u16 / (4294967296:Ua)))]) I (AB (cs:=[vI (aC (u16 / (4294967296:Ua)))]) (ds:=[]) I (AR _ _)))) hL)) hw9) A0) I fun K0 H0 z0 ⟨j0,hu_,q0⟩=>?_
 subst hu_
 obtain ⟨x0,G0⟩:=d0.agr z0
 refine AW [.bool s0.fh,j0] x0 .hd (o2 I (AX q0)) fun M0 g0 y0=>Aa<|Ao I<|Au hb0 func180 I (.cons (.many (cs:=[.bool s0.fh,j0]) I I (g0.memA .hd)) .nil) I ?_
 cases h
 exact ⟨g0.ag,fun w9 hw9=>⟨j0,I,g0.kd (Ap q0 y0) hw9⟩⟩
 intro B0 p0 h
 try dsimp only at h
 refine Be I h (fun u0 h=>?_) (fun u0 h=>?_)
 refine Av<|Ae I<|Ab (FV.negU (a:=ah a0) I)<|Ag I<|Aa<|p0 (-(ah a0)) c0 (Br _ _) h
 refine Az<|p0 (ah a0) c0 (Br _ _) h
def cT_p (n:Nat) (a0:Td) (a1:Td):Oa Td:=
  (bB_p n a1).bind fun b0=>(bc_p n a0 b0).bind fun c0=>some c0
theorem cT_c (n:Nat) {L w} (hL:hl L w) (a0:Td) {v0_1:Vc} (h0_1:Rep.R w L [v0_1] a0.fD) (a1:Td) {v1_1:Vc} (h1_1:Rep.R w L [v1_1] a1.fD)  {r:Td} (h:cT_p n a0 a1 = some r) :
 Cl 196 #[.agg #[.bool a0.fh,v0_1],.agg #[.bool a1.fh,v1_1]] w (aj w fun w' u=>∃ v0_1:Vc,u = .agg #[.bool r.fh,v0_1]/\Rep.R w' L [v0_1] r.fD):=by
 unfold cT_p at h
 refine AK func196 I I I fun _ cs0 hb0=>Ac<|RG.bx (AD w) I I fun R0 D0 s0 G0=>RG.bx s0 I I fun U0 E0 t0 H0=>RG.nl [.bool false,vN] t0 fun V0 F0 c0 I0=>Aa<|Aj<|du 4 fun b0 p0=>Rx 0 24 b0 I p0 (AC I (c0.memA .t2))<|Rx 1 28 b0 I p0 (AC I (c0.memA .t1))<|bk h fun C0 A0 h=>Bp 2 7 b0 I .plain (bd 177) I (e1 I) (fun w9 hw9=>bB_c n (c0.hL hL hw9) a1 (c0.km h1_1 hw9) A0) I fun W0 P0 x0 ⟨M0,hu_,z0⟩=>?_
 subst hu_
 obtain ⟨d0,J0⟩:=c0.agr x0
 refine bk h fun q0 B0 h=>Bp 3 15 b0 I .plain (bd 170) I (e2 I I) (fun w9 hw9=>bc_c n (d0.hL hL hw9) a0 (d0.km h0_1 hw9) C0 (Ar z0 hw9) B0) I fun X0 Q0 y0 ⟨j0,hu_,k0⟩=>?_
 subst hu_
 obtain ⟨u0,K0⟩:=d0.agr y0
 refine Bv 4 31 b0 I I .plain (Ax (news:=[.bool q0.fh,j0]) u0 .hd I I I I I I (o2 I (AX k0))) fun Y0 g0 v0=>AO (dk b0)<|Ao I<|Au hb0 func196 I (.cons (.many (cs:=[.bool q0.fh,j0]) I I (g0.memA .hd)) .nil) I ?_
 cases h
 exact ⟨g0.ag,fun w9 hw9=>⟨j0,I,g0.kd (Ap k0 v0) hw9⟩⟩
def br_p (n:Nat) (a0:Td) (a1:Td):Oa (Td × Td):=
  (aB_p n a0.fD a1.fD).bind fun g0=>(ae_p n (!(a0.fh == a1.fh)) g0.1).bind fun b0=>(ae_p n a0.fh g0.2).bind fun c0=>(if c0.fh = true then (bc_p n c0 (⟨false,a1.fD⟩:Td)).bind fun d0=>(if a1.fh = true then (a9_p n (1:Int)).bind fun j0=>(bc_p n b0 j0).bind fun k0=>some (k0,d0) else (a9_p n (1:Int)).bind fun p0=>(cT_p n b0 p0).bind fun q0=>some (q0,d0)) else some (b0,c0))
theorem br_c (n:Nat) {L w} (hL:hl L w) (a0:Td) {v0_1:Vc} (h0_1:Rep.R w L [v0_1] a0.fD) (a1:Td) {v1_1:Vc} (h1_1:Rep.R w L [v1_1] a1.fD)  {r:Td × Td} (h:br_p n a0 a1 = some r) :
 Cl 178 #[.agg #[.bool a0.fh,v0_1],.agg #[.bool a1.fh,v1_1]] w (aj w fun w' u=>∃ v0_1 v1_1:Vc,u = .tuple #[.agg #[.bool r.1.fh,v0_1],.agg #[.bool r.2.fh,v1_1]]/\Rep.R w' L [v0_1] r.1.fD/\Rep.R w' L [v1_1] r.2.fD):=by
 unfold br_p at h
 refine AK func178 I I I fun _ cs0 hb0=>Ac<|RG.bx (AD w) I I fun k6 H5 Q3 J5=>RG.bx Q3 I I fun p6 c2 R3 K5=>RG.nl [.bool false,vN] R3 fun z6 G0 Y3 P5=>RG.nl [.bool false,vN] Y3 fun A6 H0 z1 Q5=>Aa<|Ac<|Ba 1 I<|AY I ((z1.memA .t3) 1 _ I)<|Ba 1 I<|AY I ((z1.memA .t2) 1 _ I)<|bk h fun P6 v5 h=>jE (bd 175) I (e2 I I) (fun w9 hw9=>aB_c n (z1.hL hL hw9) (z1.km h0_1 hw9) (z1.km h1_1 hw9) v5) I fun B6 g6 b5 ⟨W5,X5,hu_,R1,B0⟩=>?_
 subst hu_
 obtain ⟨Z0,R5⟩:=z1.agr b5
 refine Ae I<|Ab (Ai I I)<|Ab (Ai I I)<|Ag I<|Ag I<|Aa<|Aj<|du 13 fun b0 V0=>Rv 0 b0 I V0 (fun _=>AS 0 I)<|Rx 1 25680 b0 I V0 (AN I ((Z0.memA .t3) 0 _ I))<|Rv 2 b0 I V0 (fun _=>AS 0 I)<|Rx 3 25680 b0 I V0 (AN I ((Z0.memA .t2) 0 _ I))<|Rv 4 b0 I V0 (fun _=>FV.neqB (a:=a0.fh) (b:=a1.fh) underlying4 I I)<|Rv 5 b0 I V0 (fun _=>Ak I)<|Rv 7 b0 I V0 (fun _=>AS 0 I)<|Rx 8 25600 b0 I V0 (AN I ((Z0.memA .t3) 0 _ I))<|Rv 9 b0 I V0 (fun _=>Ak I)<|bk h fun Y0 U1 h=>bk h fun y1 D0 h=>RD.mf (α:=Vc × Vc × Nat × Nat) (fun ⟨E0,M0,k1,p1⟩=>[(3,vP c2),(4,vP G0),(5,vP H0),(24,.agg #[.bool Y0.fh,E0]),(28,.agg #[.bool y1.fh,M0]),(8,vP p1),(9,vP k1)]) (fun ⟨E0,M0,k1,p1⟩=>[.cells k1 [.bool false,vN] 158,.cells p1 [.bool false,vN] 158,.cells H0 [.bool false,vN] 158,.cells G0 [.bool false,vN] 158,.cells c2 [.bool a1.fh,v1_1] 158]) (fun ⟨E0,M0,k1,p1⟩ J2=>Rep.R J2 (bl [.cells k1 [.bool false,vN] 158,.cells p1 [.bool false,vN] 158,.cells H0 [.bool false,vN] 158,.cells G0 [.bool false,vN] 158,.cells c2 [.bool a1.fh,v1_1] 158] ++ L) [E0] Y0.fD/\Rep.R J2 (bl [.cells k1 [.bool false,vN] 158,.cells p1 [.bool false,vN] 158,.cells H0 [.bool false,vN] 158,.cells G0 [.bool false,vN] 158,.cells c2 [.bool a1.fh,v1_1] 158] ++ L) [M0] y1.fD) Z0 2 8191 ?_ ?_
 rintro ⟨E0,M0,k1,p1⟩ J2 U3 M5 ⟨C1,s2⟩
 try dsimp only
 refine Bv 13 16383 b0 I I .plain (Ax (news:=[.bool Y0.fh,E0]) U3 .t1 I I I I I I (o2 I (AX C1))) fun q6 V3 s1=>Bv 14 32767 b0 I I .plain (Ax (news:=[.bool y1.fh,M0]) V3 .hd I I I I I I (o2 I (AX (Ap s2 s1)))) fun s6 x0 A1=>AO (dk b0)<|Aj<|Ac<|Ba 0 I<|AY I ((x0.memA .hd) 0 _ I)<|Aa<|MX.ifb I h (fun M3 h=>?_) (fun M3 h=>?_)
 refine Ac<|Ab (AC I (x0.memA .hd))<|Ba 1 I<|AY I ((x0.memA .t4) 1 _ I) ?_
 obtain ⟨G5,I5,q5,_⟩:=Rep.sl (Bb h1_1 x0)
 refine Ab (AP (vs:=[v1_1]) (u:=.agg #[.bool false,v1_1]) (e1 I) (fun w9=>by rw [q5]; try kernel_rfl))<|bk h fun x1 s5 h=>jE (bd 170) I (e2 I I) (fun w9 hw9=>bc_c n (x0.hL hL hw9) y1 (Ar (Ap s2 (Tt s1 A1)) hw9) (⟨false,a1.fD⟩:Td) (x0.km h1_1 hw9) s5) I fun t6 Y5 V4 ⟨W0,hu_,Q1⟩=>?_
 subst hu_
 obtain ⟨W3,U2⟩:=x0.agr V4
 refine AW [.bool x1.fh,W0] W3 .hd (o2 I (AX Q1)) fun u6 q1 B1=>Aa<|Ac<|Ba 0 I<|AY I ((q1.memA .t4) 0 _ I)<|Aa<|MX.ifb I h (fun P3 h=>?_) (fun P3 h=>?_)
 refine du 3 fun V1 z5=>Rx 0 12 V1 I z5 (AC I (q1.memA .t1))<|bk h fun E5 t5 h=>Bp 1 3 V1 I .plain (bd 180) I (e1 I) (fun w9 hw9=>a9_c n (q1.hL hL hw9)  t5) I fun v6 Z5 W4 ⟨U5,hu_,k5⟩=>?_
 subst hu_
 obtain ⟨Q2,z2⟩:=q1.agr W4
 refine bk h fun Z1 u5 h=>Bp 2 7 V1 I .plain (bd 170) I (e2 I I) (fun w9 hw9=>bc_c n (Q2.hL hL hw9) Y0 (Ar (Ap C1 (Tt s1 (Tt A1 (Tt U2 (Tt B1 z2))))) hw9) E5 (Ar k5 hw9) u5) I fun x6 b6 X4 ⟨E1,hu_,u2⟩=>?_
 subst hu_
 obtain ⟨X3,V2⟩:=Q2.agr X4
 refine Bv 3 15 V1 I I .plain (Ax (news:=[.bool Z1.fh,E1]) X3 .t1 I I I I I I (o2 I (AX u2))) fun y6 H1 p2=>AO (dk V1)<|Aj<|du 2 fun b1 I3=>Rx 0 12 b1 I I3 (AC I (H1.memA .t1))<|BH (α:=Unit) (fun ()=>[(4,vP G0),(5,vP H0),(45,.agg #[.bool x1.fh,W0])]) (fun ()=>[.cells H0 [.bool false,vN] 158,.cells G0 [.bool Z1.fh,E1] 158]) H1 1 7 ?_ ?_
 rintro ⟨⟩ J6 Z3 W2
 try dsimp only
 refine Bv 3 15 b1 I I .plain (Ax (news:=[.bool x1.fh,W0]) Z3 .hd I I I I I I (o2 I (AX (Ap Q1 (Tt B1 (Tt z2 (Tt V2 (Tt p2 W2)))))))) fun C6 I1 H4=>AO (dk b1)<|Ao I<|Au hb0 func178 I (.cons (.many (cs:=[.bool Z1.fh,E1]) I I (I1.memA .t1)) (.cons (.many (cs:=[.bool x1.fh,W0]) I I (I1.memA .hd)) .nil)) I ?_
 cases h
 have v3:=Tt p2 (Tt W2 H4)
 exact ⟨I1.ag,fun w9 hw9=>⟨E1,W0,I,I1.kd (Ap u2 v3) hw9,I1.kd (Ap Q1 (Tt B1 (Tt z2 (Tt V2 v3)))) hw9⟩⟩
 intro K2
 refine AM [1,2] (rk b1) ⟨?_,?_,trivial⟩
 refine AV (m' :=3) (sk b1) I .plain I (AC I (H1.memA .hd)) ?_
 have d5:=Ap u2 p2
 refine Bv 2 7 b1 I I .plain (Ax (news:=[.bool Z1.fh,E1]) H1 .t3 I I I I I I (o2 I (AX d5))) fun B5 d2 A2=>?_
 obtain ⟨b4,I4⟩:=Am d2 (.a2 (.a2 .done))
 exact K2 () b4 (Tt A2 I4)
 refine RO.now (m' :=5) (sk b1) I I .plain (Ax (news:=[.bool Z1.fh,E1]) H1 .t3 I I I I I I (o2 I (AX (Ap u2 p2)))) fun B5 d2 A2=>Rx 1 8 b1 I I3 (AC I (d2.memA .hd)) ?_
 obtain ⟨c4,J4⟩:=Am d2 (.a2 (.a2 .done))
 exact K2 () c4 (Tt A2 J4)
 refine du 3 fun W1 A5=>Rx 0 12 W1 I A5 (AC I (q1.memA .t1))<|bk h fun F5 x5 h=>Bp 1 3 W1 I .plain (bd 180) I (e1 I) (fun w9 hw9=>a9_c n (q1.hL hL hw9)  x5) I fun D6 c6 Y4 ⟨V5,hu_,p5⟩=>?_
 subst hu_
 obtain ⟨R2,B2⟩:=q1.agr Y4
 refine bk h fun b2 y5 h=>Bp 2 7 W1 I .plain (bd 196) I (e2 I I) (fun w9 hw9=>cT_c n (R2.hL hL hw9) Y0 (Ar (Ap C1 (Tt s1 (Tt A1 (Tt U2 (Tt B1 B2))))) hw9) F5 (Ar p5 hw9) y5) I fun E6 d6 Z4 ⟨F1,hu_,v2⟩=>?_
 subst hu_
 obtain ⟨d4,X2⟩:=R2.agr Z4
 refine Bv 3 15 W1 I I .plain (Ax (news:=[.bool b2.fh,F1]) d4 .t1 I I I I I I (o2 I (AX v2))) fun F6 J1 q2=>AO (dk W1)<|Aj<|du 2 fun c1 J3=>Rx 0 12 c1 I J3 (AC I (J1.memA .t1))<|BH (α:=Unit) (fun ()=>[(4,vP G0),(5,vP H0),(45,.agg #[.bool x1.fh,W0])]) (fun ()=>[.cells H0 [.bool false,vN] 158,.cells G0 [.bool b2.fh,F1] 158]) J1 1 7 ?_ ?_
 rintro ⟨⟩ K6 g4 Y2
 try dsimp only
 refine Bv 3 15 c1 I I .plain (Ax (news:=[.bool x1.fh,W0]) g4 .hd I I I I I I (o2 I (AX (Ap Q1 (Tt B1 (Tt B2 (Tt X2 (Tt q2 Y2)))))))) fun H6 K1 K4=>AO (dk c1)<|Ao I<|Au hb0 func178 I (.cons (.many (cs:=[.bool b2.fh,F1]) I I (K1.memA .t1)) (.cons (.many (cs:=[.bool x1.fh,W0]) I I (K1.memA .hd)) .nil)) I ?_
 cases h
 have x3:=Tt q2 (Tt Y2 K4)
 exact ⟨K1.ag,fun w9 hw9=>⟨F1,W0,I,K1.kd (Ap v2 x3) hw9,K1.kd (Ap Q1 (Tt B1 (Tt B2 (Tt X2 x3)))) hw9⟩⟩
 intro M2
 refine AM [1,2] (rk c1) ⟨?_,?_,trivial⟩
 refine AV (m' :=3) (sk c1) I .plain I (AC I (J1.memA .hd)) ?_
 have g5:=Ap v2 q2
 refine Bv 2 7 c1 I I .plain (Ax (news:=[.bool b2.fh,F1]) J1 .t3 I I I I I I (o2 I (AX g5))) fun C5 j2 C2=>?_
 obtain ⟨j4,M4⟩:=Am j2 (.a2 (.a2 .done))
 exact M2 () j4 (Tt C2 M4)
 refine RO.now (m' :=5) (sk c1) I I .plain (Ax (news:=[.bool b2.fh,F1]) J1 .t3 I I I I I I (o2 I (AX (Ap v2 q2)))) fun C5 j2 C2=>Rx 1 8 c1 I J3 (AC I (j2.memA .hd)) ?_
 obtain ⟨k4,P4⟩:=Am j2 (.a2 (.a2 .done))
 exact M2 () k4 (Tt C2 P4)
 refine Az<|Aj<|du 2 fun d1 K3=>Rx 0 12 d1 I K3 (AC I (x0.memA .t1))<|BH (α:=Unit) (fun ()=>[(4,vP G0),(5,vP H0),(45,.agg #[.bool y1.fh,M0])]) (fun ()=>[.cells H0 [.bool false,vN] 158,.cells G0 [.bool Y0.fh,E0] 158]) x0 1 7 ?_ ?_
 rintro ⟨⟩ M6 p4 Q4
 try dsimp only
 have G2:=Tt s1 (Tt A1 Q4)
 refine Bv 3 15 d1 I I .plain (Ax (news:=[.bool y1.fh,M0]) p4 .hd I I I I I I (o2 I (AX (Ap s2 G2)))) fun I6 M1 Z2=>AO (dk d1)<|Ao I<|Au hb0 func178 I (.cons (.many (cs:=[.bool Y0.fh,E0]) I I (M1.memA .t1)) (.cons (.many (cs:=[.bool y1.fh,M0]) I I (M1.memA .hd)) .nil)) I ?_
 cases h
 exact ⟨M1.ag,fun w9 hw9=>⟨E0,M0,I,M1.kd (Ap C1 (Tt G2 Z2)) hw9,M1.kd (Ap s2 (Tt G2 Z2)) hw9⟩⟩
 intro P2
 refine AM [1,2] (rk d1) ⟨?_,?_,trivial⟩
 refine AV (m' :=3) (sk d1) I .plain I (AC I (x0.memA .hd)) ?_
 have j5:=Ap C1 (Tt s1 A1)
 refine Bv 2 7 d1 I I .plain (Ax (news:=[.bool Y0.fh,E0]) x0 .t3 I I I I I I (o2 I (AX j5))) fun D5 k2 D2=>?_
 obtain ⟨q4,R4⟩:=Am k2 (.a2 (.a2 .done))
 exact P2 () q4 (Tt D2 R4)
 refine RO.now (m' :=5) (sk d1) I I .plain (Ax (news:=[.bool Y0.fh,E0]) x0 .t3 I I I I I I (o2 I (AX (Ap C1 (Tt s1 A1))))) fun D5 k2 D2=>Rx 1 8 d1 I K3 (AC I (k2.memA .hd)) ?_
 obtain ⟨s4,U4⟩:=Am k2 (.a2 (.a2 .done))
 exact P2 () s4 (Tt D2 U4)
 intro v0
 refine AM [6,11,12] (rk b0) ⟨?_,?_,?_,trivial⟩
 refine RO.call (m' :=1023) (fst:=[]) (cap:=[]) (sk b0) I .plain (bd 172) I (e2 I I) (fun w9 hw9=>ae_c n (Z0.hL hL hw9) (Ar R1 hw9) U1) I fun G6 j6 c5 ⟨G1,hu_,D1⟩=>?_
 subst hu_
 obtain ⟨g2,z0⟩:=Z0.agr c5
 refine AM [10,11,12] (rk b0) ⟨?_,?_,?_,trivial⟩
 have v1:=Ap B0 z0
 refine RO.call (m' :=2047) (fst:=[]) (cap:=[]) (sk b0) I .plain (bd 172) I (e2 I I) (fun w9 hw9=>ae_c n (g2.hL hL hw9) (Ar v1 hw9) D0) I fun y2 x2 Q0 ⟨P0,hu_,K0⟩=>?_
 subst hu_
 obtain ⟨I0,J0⟩:=g2.agr Q0
 refine AM [11,12] (rk b0) ⟨?_,?_,trivial⟩
 refine Bf (m' :=4095) (sk b0) I .plain I (Al [.bool false,vN] I0) fun j1 p0 j0 d0=>Ca 12 8191 b0 I .plain I (Al [.bool false,vN] j0) fun g1 k0 g0 c0=>?_
 obtain ⟨u4,b3⟩:=Am g0 (.a0 (.a0 (.a0 (.a0 (.a0 .done)))))
 have y3:=Tt J0 (Tt d0 (Tt c0 b3))
 exact v0 (G1,P0,k0,p0) u4 (Tt z0 y3) ⟨(Ap D1 y3),(Ap K0 (Tt d0 (Tt c0 b3)))⟩
 refine Bf (m' :=6143) (sk b0) I .plain I (Al [.bool false,vN] I0) fun g1 k0 g0 c0=>Ca 11 8191 b0 I .plain I (Al [.bool false,vN] g0) fun j1 p0 j0 d0=>?_
 obtain ⟨v4,c3⟩:=Am j0 (.a1 (.a0 (.a0 (.a0 (.a0 .done)))))
 have z3:=Tt J0 (Tt c0 (Tt d0 c3))
 exact v0 (G1,P0,k0,p0) v4 (Tt z0 z3) ⟨(Ap D1 z3),(Ap K0 (Tt c0 (Tt d0 c3)))⟩
 refine Bf (m' :=3071) (sk b0) I .plain I (Al [.bool false,vN] g2) fun j1 p0 j0 d0=>AM [10,12] (rk b0) ⟨?_,?_,trivial⟩
 have v1:=Ap B0 (Tt z0 d0)
 refine RO.call (m' :=4095) (fst:=[]) (cap:=[]) (sk b0) I .plain (bd 172) I (e2 I I) (fun w9 hw9=>ae_c n (j0.hL hL hw9) (Ar v1 hw9) D0) I fun y2 x2 Q0 ⟨P0,hu_,K0⟩=>?_
 subst hu_
 obtain ⟨I0,J0⟩:=j0.agr Q0
 refine Ca 12 8191 b0 I .plain I (Al [.bool false,vN] I0) fun g1 k0 g0 c0=>?_
 obtain ⟨x4,d3⟩:=Am g0 (.a0 (.a0 (.a0 (.a0 (.a0 .done)))))
 have A3:=Tt d0 (Tt J0 (Tt c0 d3))
 exact v0 (G1,P0,k0,p0) x4 (Tt z0 A3) ⟨(Ap D1 A3),(Ap K0 (Tt c0 d3))⟩
 refine Bf (m' :=7167) (sk b0) I .plain I (Al [.bool false,vN] j0) fun g1 k0 g0 c0=>?_
 have u0:=Tt z0 (Tt d0 c0)
 have R0:=Ap B0 u0
 refine Bp 10 8191 b0 I .plain (bd 172) I (e2 I I) (fun w9 hw9=>ae_c n (g0.hL hL hw9) (Ar R0 hw9) D0) I fun Y1 X1 A0 ⟨F0,hu_,C0⟩=>?_
 subst hu_
 obtain ⟨y0,t0⟩:=g0.agr A0
 obtain ⟨y4,g3⟩:=Am y0 (.a0 (.a0 (.a0 (.a0 (.a0 .done)))))
 have B3:=Tt d0 (Tt c0 (Tt t0 g3))
 exact v0 (G1,F0,k0,p0) y4 (Tt z0 B3) ⟨(Ap D1 B3),(Ap C0 g3)⟩
 refine Bf (m' :=5119) (sk b0) I .plain I (Al [.bool false,vN] g2) fun g1 k0 g0 c0=>AM [10,11] (rk b0) ⟨?_,?_,trivial⟩
 have v1:=Ap B0 (Tt z0 c0)
 refine RO.call (m' :=6143) (fst:=[]) (cap:=[]) (sk b0) I .plain (bd 172) I (e2 I I) (fun w9 hw9=>ae_c n (g0.hL hL hw9) (Ar v1 hw9) D0) I fun y2 x2 Q0 ⟨P0,hu_,K0⟩=>?_
 subst hu_
 obtain ⟨I0,J0⟩:=g0.agr Q0
 refine Ca 11 8191 b0 I .plain I (Al [.bool false,vN] I0) fun j1 p0 j0 d0=>?_
 obtain ⟨z4,j3⟩:=Am j0 (.a1 (.a0 (.a0 (.a0 (.a0 .done)))))
 have C3:=Tt c0 (Tt J0 (Tt d0 j3))
 exact v0 (G1,P0,k0,p0) z4 (Tt z0 C3) ⟨(Ap D1 C3),(Ap K0 (Tt d0 j3))⟩
 refine Bf (m' :=7167) (sk b0) I .plain I (Al [.bool false,vN] g0) fun j1 p0 j0 d0=>?_
 have u0:=Tt z0 (Tt c0 d0)
 have R0:=Ap B0 u0
 refine Bp 10 8191 b0 I .plain (bd 172) I (e2 I I) (fun w9 hw9=>ae_c n (j0.hL hL hw9) (Ar R0 hw9) D0) I fun Y1 X1 A0 ⟨F0,hu_,C0⟩=>?_
 subst hu_
 obtain ⟨y0,t0⟩:=j0.agr A0
 obtain ⟨A4,k3⟩:=Am y0 (.a1 (.a0 (.a0 (.a0 (.a0 .done)))))
 have D3:=Tt c0 (Tt d0 (Tt t0 k3))
 exact v0 (G1,F0,k0,p0) A4 (Tt z0 D3) ⟨(Ap D1 D3),(Ap C0 k3)⟩
 refine Bf (m' :=3007) (sk b0) I .plain I (Al [.bool false,vN] Z0) fun j1 p0 j0 d0=>AM [6,12] (rk b0) ⟨?_,?_,trivial⟩
 have P1:=Ap R1 d0
 refine RO.call (m' :=3071) (fst:=[]) (cap:=[]) (sk b0) I .plain (bd 172) I (e2 I I) (fun w9 hw9=>ae_c n (j0.hL hL hw9) (Ar P1 hw9) U1) I fun I2 H2 u1 ⟨X0,hu_,U0⟩=>?_
 subst hu_
 obtain ⟨q0,s0⟩:=j0.agr u1
 refine AM [10,12] (rk b0) ⟨?_,?_,trivial⟩
 have v1:=Ap B0 (Tt d0 s0)
 refine RO.call (m' :=4095) (fst:=[]) (cap:=[]) (sk b0) I .plain (bd 172) I (e2 I I) (fun w9 hw9=>ae_c n (q0.hL hL hw9) (Ar v1 hw9) D0) I fun y2 x2 Q0 ⟨P0,hu_,K0⟩=>?_
 subst hu_
 obtain ⟨I0,J0⟩:=q0.agr Q0
 refine Ca 12 8191 b0 I .plain I (Al [.bool false,vN] I0) fun g1 k0 g0 c0=>?_
 obtain ⟨B4,p3⟩:=Am g0 (.a0 (.a0 (.a0 (.a0 (.a0 .done)))))
 have E3:=Tt J0 (Tt c0 p3)
 exact v0 (X0,P0,k0,p0) B4 (Tt d0 (Tt s0 E3)) ⟨(Ap U0 E3),(Ap K0 (Tt c0 p3))⟩
 refine Bf (m' :=7167) (sk b0) I .plain I (Al [.bool false,vN] q0) fun g1 k0 g0 c0=>?_
 have u0:=Tt d0 (Tt s0 c0)
 have R0:=Ap B0 u0
 refine Bp 10 8191 b0 I .plain (bd 172) I (e2 I I) (fun w9 hw9=>ae_c n (g0.hL hL hw9) (Ar R0 hw9) D0) I fun Y1 X1 A0 ⟨F0,hu_,C0⟩=>?_
 subst hu_
 obtain ⟨y0,t0⟩:=g0.agr A0
 obtain ⟨C4,q3⟩:=Am y0 (.a0 (.a0 (.a0 (.a0 (.a0 .done)))))
 have F3:=Tt c0 (Tt t0 q3)
 exact v0 (X0,F0,k0,p0) C4 (Tt d0 (Tt s0 F3)) ⟨(Ap U0 F3),(Ap C0 q3)⟩
 refine Bf (m' :=7103) (sk b0) I .plain I (Al [.bool false,vN] j0) fun g1 k0 g0 c0=>?_
 have P1:=Ap R1 (Tt d0 c0)
 refine Bp 6 7167 b0 I .plain (bd 172) I (e2 I I) (fun w9 hw9=>ae_c n (g0.hL hL hw9) (Ar P1 hw9) U1) I fun I2 H2 u1 ⟨X0,hu_,U0⟩=>?_
 subst hu_
 obtain ⟨q0,s0⟩:=g0.agr u1
 have u0:=Tt d0 (Tt c0 s0)
 have R0:=Ap B0 u0
 refine Bp 10 8191 b0 I .plain (bd 172) I (e2 I I) (fun w9 hw9=>ae_c n (q0.hL hL hw9) (Ar R0 hw9) D0) I fun Y1 X1 A0 ⟨F0,hu_,C0⟩=>?_
 subst hu_
 obtain ⟨y0,t0⟩:=q0.agr A0
 obtain ⟨D4,E2⟩:=Am y0 (.a0 (.a0 (.a0 (.a0 (.a0 .done)))))
 exact v0 (X0,F0,k0,p0) D4 (Tt u0 (Tt t0 E2)) ⟨(Ap U0 (Tt t0 E2)),(Ap C0 E2)⟩
 refine Bf (m' :=5055) (sk b0) I .plain I (Al [.bool false,vN] Z0) fun g1 k0 g0 c0=>AM [6,11] (rk b0) ⟨?_,?_,trivial⟩
 have P1:=Ap R1 c0
 refine RO.call (m' :=5119) (fst:=[]) (cap:=[]) (sk b0) I .plain (bd 172) I (e2 I I) (fun w9 hw9=>ae_c n (g0.hL hL hw9) (Ar P1 hw9) U1) I fun I2 H2 u1 ⟨X0,hu_,U0⟩=>?_
 subst hu_
 obtain ⟨q0,s0⟩:=g0.agr u1
 refine AM [10,11] (rk b0) ⟨?_,?_,trivial⟩
 refine RO.call (m' :=6143) (fst:=[]) (cap:=[]) (sk b0) I .plain (bd 172) I (e2 I I) (fun w9 hw9=>ae_c n (q0.hL hL hw9) (Ar (Ap B0 (Tt c0 s0)) hw9) D0) I fun y2 x2 Q0 ⟨P0,hu_,K0⟩=>?_
 subst hu_
 obtain ⟨I0,J0⟩:=q0.agr Q0
 refine Ca 11 8191 b0 I .plain I (Al [.bool false,vN] I0) fun j1 p0 j0 d0=>?_
 obtain ⟨E4,s3⟩:=Am j0 (.a1 (.a0 (.a0 (.a0 (.a0 .done)))))
 have G3:=Tt J0 (Tt d0 s3)
 exact v0 (X0,P0,k0,p0) E4 (Tt c0 (Tt s0 G3)) ⟨(Ap U0 G3),(Ap K0 (Tt d0 s3))⟩
 refine Bf (m' :=7167) (sk b0) I .plain I (Al [.bool false,vN] q0) fun j1 p0 j0 d0=>?_
 have u0:=Tt c0 (Tt s0 d0)
 have R0:=Ap B0 u0
 refine Bp 10 8191 b0 I .plain (bd 172) I (e2 I I) (fun w9 hw9=>ae_c n (j0.hL hL hw9) (Ar R0 hw9) D0) I fun Y1 X1 A0 ⟨F0,hu_,C0⟩=>?_
 subst hu_
 obtain ⟨y0,t0⟩:=j0.agr A0
 obtain ⟨F4,u3⟩:=Am y0 (.a1 (.a0 (.a0 (.a0 (.a0 .done)))))
 have H3:=Tt d0 (Tt t0 u3)
 exact v0 (X0,F0,k0,p0) F4 (Tt c0 (Tt s0 H3)) ⟨(Ap U0 H3),(Ap C0 u3)⟩
 refine Bf (m' :=7103) (sk b0) I .plain I (Al [.bool false,vN] g0) fun j1 p0 j0 d0=>Bp 6 7167 b0 I .plain (bd 172) I (e2 I I) (fun w9 hw9=>ae_c n (j0.hL hL hw9) (Ar (Ap R1 (Tt c0 d0)) hw9) U1) I fun I2 H2 u1 ⟨X0,hu_,U0⟩=>?_
 subst hu_
 obtain ⟨q0,s0⟩:=j0.agr u1
 have u0:=Tt c0 (Tt d0 s0)
 refine Bp 10 8191 b0 I .plain (bd 172) I (e2 I I) (fun w9 hw9=>ae_c n (q0.hL hL hw9) (Ar (Ap B0 u0) hw9) D0) I fun Y1 X1 A0 ⟨F0,hu_,C0⟩=>?_
 subst hu_
 obtain ⟨y0,t0⟩:=q0.agr A0
 obtain ⟨G4,F2⟩:=Am y0 (.a1 (.a0 (.a0 (.a0 (.a0 .done)))))
 exact v0 (X0,F0,k0,p0) G4 (Tt u0 (Tt t0 F2)) ⟨(Ap U0 (Tt t0 F2)),(Ap C0 F2)⟩
def aR_p (n:Nat) (a0:Td) (a1:Td):Oa Tf:=
  (aN_p n a0 a1).bind fun b0=>jn (fun (d0,g0)=>(br_p n a0 (⟨d0,g0⟩:Td)).bind fun k0=>(br_p n a1 (⟨d0,g0⟩:Td)).bind fun p0=>some (⟨k0.1,p0.1⟩:Tf)) (fun c0=>(if a1.fh = true then (bB_p n b0).bind fun j0=>c0 (j0.fh,j0.fD) else c0 (b0.fh,b0.fD)))
theorem aR_c (n:Nat) {L w} (hL:hl L w) (a0:Td) {v0_1:Vc} (h0_1:Rep.R w L [v0_1] a0.fD) (a1:Td) {v1_1:Vc} (h1_1:Rep.R w L [v1_1] a1.fD)  {r:Tf} (h:aR_p n a0 a1 = some r) :
 Cl 140 #[.agg #[.bool a0.fh,v0_1],.agg #[.bool a1.fh,v1_1]] w (aj w fun w' u=>∃ v0_1 v0_3:Vc,u = .agg #[.bool r.fN.fh,v0_1,.bool r.fD.fh,v0_3]/\Rep.R w' L [v0_1] r.fN.fD/\Rep.R w' L [v0_3] r.fD.fD):=by
 unfold aR_p at h
 refine AK func140 I I I fun _ cs0 hb0=>Ac<|RG.bx (AD w) I I fun M2 y0 z1 B2=>RG.bx z1 I I fun X2 z0 C1 C2=>RG.nl [.bool false,vN,.bool false,vN] C1 fun Y2 A0 g0 D2=>Aa<|Ac<|Ab (AC I (g0.memA .t2))<|Ab (AC I (g0.memA .t1))<|bk h fun x0 c2 h=>jE (bd 138) I (e2 I I) (fun w9 hw9=>aN_c n (g0.hL hL hw9) a0 (g0.km h0_1 hw9) a1 (g0.km h1_1 hw9) c2) I fun Z2 H2 R1 ⟨q1,hu_,M0⟩=>?_
 subst hu_
 obtain ⟨D1,E2⟩:=g0.agr R1
 refine RG.nl [.bool false,vN] D1 fun b3 B0 E1 G0=>AW [.bool x0.fh,q1] E1 .hd (o2 I (AX (Ap M0 G0))) fun c3 j0 X0=>Aa<|Aj<|Ac<|Ba 0 I<|AY I ((j0.memA .t2) 0 _ I)<|Aa<|MX.jf (α:=Bool × (La Int) × Vc) (fun ⟨b0,c0,d0⟩=>[(2,vP y0),(3,vP z0),(4,vP A0),(5,vP B0)]) (fun ⟨b0,c0,d0⟩=>[.cells B0 [.bool b0,d0] 158,.cells A0 [.bool false,vN,.bool false,vN] 160,.cells z0 [.bool a1.fh,v1_1] 158,.cells y0 [.bool a0.fh,v0_1] 158]) (fun ⟨b0,c0,d0⟩ s1=>Rep.R s1 (bl [.cells B0 [.bool b0,d0] 158,.cells A0 [.bool false,vN,.bool false,vN] 160,.cells z0 [.bool a1.fh,v1_1] 158,.cells y0 [.bool a0.fh,v0_1] 158] ++ L) [d0] c0) (fun ⟨b0,c0,d0⟩=>(b0,c0)) j0 h ?_ ?_
 rintro ⟨b0,c0,d0⟩ s1 t0 F2 k1 h
 try dsimp only at h
 refine Ac<|Ab (AC I (t0.memA .t3))<|Ab (AC I (t0.memA .hd))<|bk h fun q0 d2 h=>jE (bd 178) I (e2 I I) (fun w9 hw9=>br_c n (t0.hL hL hw9) a0 (t0.km h0_1 hw9) (⟨b0,c0⟩:Td) (Ar k1 hw9) d2) I fun d3 I2 U1 ⟨p0,k2,hu_,P0,X1⟩=>?_
 subst hu_
 obtain ⟨F1,P1⟩:=t0.agr U1
 refine Ae I<|Ab (Ai I I)<|Ab (Ai I I)<|RG.nl [.bool false,vN] F1 fun g3 x2 G1 H0=>RG.nl [.bool false,vN] G1 fun j3 y2 H1 I0=>AW [.bool q0.1.fh,p0] H1 .t1 (o2 I (AX (Ap P0 (Tt H0 I0)))) fun k3 I1 Y0=>?_
 have g1:=Tt H0 (Tt I0 Y0)
 refine AW [.bool q0.2.fh,k2] I1 .hd (o2 I (AX (Ap X1 g1))) fun p3 u0 Z0=>Aa<|Ac<|Ab (AC I (u0.memA .t4))<|Ab (AC I (u0.memA .t2))<|bk h fun s0 g2 h=>jE (bd 178) I (e2 I I) (fun w9 hw9=>br_c n (u0.hL hL hw9) a1 (u0.km h1_1 hw9) (⟨b0,c0⟩:Td) (Ar (Ap k1 (Tt P1 (Tt H0 (Tt I0 (Tt Y0 Z0))))) hw9) g2) I fun q3 J2 V1 ⟨k0,j2,hu_,K0,W1⟩=>?_
 subst hu_
 obtain ⟨J1,K1⟩:=u0.agr V1
 refine Ae I<|Ab (Ai I I)<|Ab (Ai I I)<|RG.nl [.bool false,vN] J1 fun K2 u2 v1 D0=>RG.nl [.bool false,vN] v1 fun P2 v2 x1 E0=>AW [.bool s0.1.fh,k0] x1 .t1 (o2 I (AX (Ap K0 (Tt D0 E0)))) fun Q2 y1 U0=>?_
 have J0:=Tt D0 (Tt E0 U0)
 refine AW [.bool s0.2.fh,j2] y1 .hd (o2 I (AX (Ap W1 J0))) fun R2 C0 F0=>Aa<|Ac<|Ab (AC I (C0.memA .t3))<|Ab (AC I (C0.memA .t1)) ?_
 have d1:=Tt g1 (Tt Z0 (Tt K1 (Tt D0 (Tt E0 (Tt U0 F0)))))
 have b1:=Ap P0 d1
 obtain ⟨p2,z2,Y1,_⟩:=Rep.sl b1
 have c1:=Ap K0 (Tt J0 F0)
 obtain ⟨q2,A2,Z1,_⟩:=Rep.sl c1
 refine Ab (AP (vs:=[.agg #[.bool q0.1.fh,p0],.agg #[.bool s0.1.fh,k0]]) (u:=.agg #[.bool q0.1.fh,p0,.bool s0.1.fh,k0]) (e2 I I) (fun w9=>by rw [Y1,Z1]; try kernel_rfl))<|AW [.bool q0.1.fh,p0,.bool s0.1.fh,k0] C0 .t5 (o4 I (AX b1) I (AX c1)) fun U2 v0 V0=>Aa<|Ao I<|Au hb0 func140 I (.cons (.many (cs:=[.bool q0.1.fh,p0,.bool s0.1.fh,k0]) I I (v0.memA .t5)) .nil) I ?_
 cases h
 exact ⟨v0.ag,fun w9 hw9=>⟨p0,k0,I,v0.kd (Ap P0 (Tt d1 V0)) hw9,v0.kd (Ap K0 (Tt J0 (Tt F0 V0))) hw9⟩⟩
 intro s2 R0 h
 try dsimp only at h
 refine MX.ifb I h (fun u1 h=>?_) (fun u1 h=>?_)
 refine Av<|Ab (AC I (j0.memA .hd))<|bk h fun Q0 b2 h=>jE (bd 177) I (e1 I) (fun w9 hw9=>bB_c n (j0.hL hL hw9) x0 (Ar (Ap M0 (Tt G0 X0)) hw9) b2) I fun V2 G2 Q1 ⟨p1,hu_,j1⟩=>?_
 subst hu_
 obtain ⟨A1,M1⟩:=j0.agr Q1
 refine AW [.bool Q0.fh,p1] A1 .hd (o2 I (AX j1)) fun W2 B1 W0=>Aa<|R0 (Q0.fh,Q0.fD,p1) B1 (Tt M1 W0) (Ap j1 W0) h
 refine Az<|R0 (x0.fh,x0.fD,q1) j0 (Br _ _) (Ap M0 (Tt G0 X0)) h
def cC_p (n:Nat) (a0:Int) (a1:Int):Oa Tf:=
  (a9_p n a0).bind fun b0=>(a9_p n a1).bind fun c0=>(aR_p n b0 c0).bind fun d0=>some d0
theorem cC_c (n:Nat) {L w} (hL:hl L w) {a0:Int} {a1:Int}  {r:Tf} (h:cC_p n a0 a1 = some r) :
 Cl 143 #[vI a0,vI a1] w (aj w fun w' u=>∃ v0_1 v0_3:Vc,u = .agg #[.bool r.fN.fh,v0_1,.bool r.fD.fh,v0_3]/\Rep.R w' L [v0_1] r.fN.fD/\Rep.R w' L [v0_3] r.fD.fD):=by
 unfold cC_p at h
 refine AK func143 I I I fun _ cs0 hb0=>Ac<|RG.nl [.bool false,vN,.bool false,vN] (AD w) fun V0 H0 j0 I0=>Aa<|Ac<|Ae I<|bk h fun F0 C0 h=>jE (bd 180) I (e1 I) (fun w9 hw9=>a9_c n (j0.hL hL hw9)  C0) I fun W0 Q0 x0 ⟨M0,hu_,A0⟩=>?_
 subst hu_
 obtain ⟨k0,J0⟩:=j0.agr x0
 refine Ae I<|bk h fun G0 D0 h=>jE (bd 180) I (e1 I) (fun w9 hw9=>a9_c n (k0.hL hL hw9)  D0) I fun X0 R0 y0 ⟨P0,hu_,B0⟩=>?_
 subst hu_
 obtain ⟨p0,v0⟩:=k0.agr y0
 refine bk h fun c0 E0 h=>jE (bd 140) I (e2 I I) (fun w9 hw9=>aR_c n (p0.hL hL hw9) F0 (Ar (Ap A0 v0) hw9) G0 (Ar B0 hw9) E0) I fun Y0 U0 z0 ⟨d0,g0,hu_,s0,t0⟩=>?_
 subst hu_
 obtain ⟨u0,K0⟩:=p0.agr z0
 refine AW [.bool c0.fN.fh,d0,.bool c0.fD.fh,g0] u0 .hd (o4 I (AX s0) I (AX t0)) fun Z0 b0 q0=>Aa<|Ao I<|Au hb0 func143 I (.cons (.many (cs:=[.bool c0.fN.fh,d0,.bool c0.fD.fh,g0]) I I (b0.memA .hd)) .nil) I ?_
 cases h
 exact ⟨b0.ag,fun w9 hw9=>⟨d0,g0,I,b0.kd (Ap s0 q0) hw9,b0.kd (Ap t0 q0) hw9⟩⟩

def cZ_p (n:Nat) (a0:Int) (a1:Int):Oa (Ta × Int):=
  (if a1 = 0 then some ((⟨(0,0,0,0,0,0,0,0),(0,0,0,0,0,0,0,0)⟩:Ta),(7:Int)) else (cC_p n a0 a1).bind fun c0=>(aZ_p n c0).bind fun b0=>some (b0.1,b0.2))
theorem cZ_c (n:Nat) {L w} (hL:hl L w) {a0:Int} {a1:Int}  {r:Ta × Int} (h:cZ_p n a0 a1 = some r) :
 Cl 113 #[vI a0,vI a1] w (aj w fun _ u=>u = .tuple #[.agg ((aa r.1)).toArray,vI r.2]):=by
 unfold cZ_p at h
 refine AK func113 I I I fun _ cs0 hb0=>Ac<|RG.nl ae (AD w) fun F0 x0 d0 y0=>Ag I<|Aa<|Aj<|Ac<|Ae I<|Ab (FV.eql (i:=a1) (j:=0) I I)<|Aa<|Be I h (fun k0 h=>?_) (fun k0 h=>?_)
 refine Ac<|Ab (AP (vs:=[]) (u:=.agg zM) ak (fun w9=>by kernel_rfl))<|AW ae d0 .hd (ai I) fun G0 g0 z0=>Ag I<|Aa<|Ao I<|Au hb0 func113 I (.cons (.many (cs:=ae) I I (g0.memA .hd)) (.cons (.tmp I) .nil)) I ?_
 cases h
 exact g0.gv
 refine Az<|Ac<|Ae I<|Ae I<|bk h fun v0 t0 h=>jE (bd 143) I (e2 I I) (fun w9 hw9=>cC_c n (d0.hL hL hw9)  t0) I fun H0 E0 p0 ⟨C0,D0,hu_,q0,s0⟩=>?_
 subst hu_
 obtain ⟨b0,A0⟩:=d0.agr p0
 refine bk h fun c0 u0 h=>Bm (.tuple #[.agg ((aa c0.1)).toArray,vI c0.2]) (bd 109) I (e1 I) (fun w9 hw9=>aZ_c n (b0.hL0 hL hw9) v0 (b0.kd q0 hw9) (b0.kd s0 hw9) u0) I<|Ab (Ai I I)<|Ab (Ai I I)<|AW (aa c0.1) b0 .hd (ai I) fun I0 j0 B0=>Ag I<|Aa<|Ao I<|Au hb0 func113 I (.cons (.many (cs:=(aa c0.1)) I I (j0.memA .hd)) (.cons (.tmp I) .nil)) I ?_
 cases h
 exact j0.gv
def cG_p (n:Nat) (a0:Int) (a1:Int):Oa Ta:=
  (cZ_p n a0 a1).bind fun b0=>some b0.1
theorem cG_c (n:Nat) {L w} (hL:hl L w) {a0:Int} {a1:Int}  {r:Ta} (h:cG_p n a0 a1 = some r) :
 Cl 76 #[vI a0,vI a1] w (aj w fun _ u=>u = .agg ((aa r)).toArray):=by
 unfold cG_p at h
 refine AK func76 I I I fun _ cs0 hb0=>Ac<|RG.nl ae (AD w) fun x0 p0 c0 s0=>Aa<|Ac<|Ae I<|Ae I<|bk h fun b0 k0 h=>Bm (.tuple #[.agg ((aa b0.1)).toArray,vI b0.2]) (bd 113) I (e2 I I) (fun w9 hw9=>cZ_c n (c0.hL0 hL hw9)  k0) I<|Ae I<|Ab (Ai I I)<|Ab (Ai I I)<|RG.nl ae c0 fun y0 q0 j0 t0=>AW (aa b0.1) j0 .hd (ai I) fun z0 d0 u0=>Ag I<|Aa<|Ac<|Ab (AC I (d0.memA .hd))<|AW (aa b0.1) d0 .t1 (ai I) fun A0 g0 v0=>Aa<|Ao I<|Au hb0 func76 I (.cons (.many (cs:=(aa b0.1)) I I (g0.memA .t1)) .nil) I ?_
 cases h
 exact g0.gv
def am_p (n:Nat) (a0:Int) (a1:Int):Oa Ta:=
  (cG_p n a0 a1).bind fun b0=>some b0
theorem am_c (n:Nat) {L w} (hL:hl L w) {a0:Int} {a1:Int}  {r:Ta} (h:am_p n a0 a1 = some r) :
 Cl 38 #[vI a0,vI a1] w (aj w fun _ u=>u = .agg ((aa r)).toArray):=by
 unfold am_p at h
 refine AK func38 I I I fun _ cs0 hb0=>Ac<|RG.nl ae (AD w) fun q0 j0 c0 k0=>Aa<|Ac<|Ae I<|Ae I<|bk h fun b0 g0 h=>Bm (.agg ((aa b0)).toArray) (bd 76) I (e2 I I) (fun w9 hw9=>cG_c n (c0.hL0 hL hw9)  g0) I<|AW (aa b0) c0 .hd (ai I) fun s0 d0 p0=>Aa<|Ao I<|Au hb0 func38 I (.cons (.many (cs:=(aa b0)) I I (d0.memA .hd)) .nil) I ?_
 cases h
 exact d0.gv
structure Ti where
  fe:Int
  deriving DecidableEq
instance:Rep Ti:=Rep.via (β:=Int) fun x=>x.fe
def ax_p (n:Nat) (a0:Ti) (a1:Ta) (a2:Int):Oa (Ti × Ta):=
  jn (fun b0=>(if b0 = 0 then some ((⟨b0⟩:Ti),a1) else (am_p n (0:Int) (1:Int)).bind fun d0=>some ((⟨b0⟩:Ti),d0))) (fun c0=>(if a0.fe = 0 then c0 a2 else c0 a0.fe))
theorem ax_c (n:Nat) (L:La Nat) {w0 w:World} {T9:La Ob} (hL:∀ b ∈ L,b < w0.heap.size) {p0:Nat} (a0:Ti) (hS0:St w0 w (.cells p0 [vI a0.fe] 85 :: T9)) (a1:Ta) {a2:Int} {r:Ti × Ta} (h:ax_p n a0 a1 a2 = some r) :
 Cl 71 #[.pointer (some ⟨p0,0,none⟩),.agg ((aa a1)).toArray,vI a2] w (ee w0 w (.cells p0 [vI a0.fe] 85 :: T9) (.cells p0 [vI r.1.fe] 85 :: T9) (fun _ u=>u = .agg ((aa r.2)).toArray)):=by
 unfold ax_p at h
 refine MX.startL func71 I I I fun _ cs0 hb0=>Ac<|RG.bx hS0 I I fun Q0 q0 C0 u0=>RG.nl ae C0 fun R0 s0 d0 v0=>Aa<|Aj<|Ac<|Ae I<|Ab (BM I)<|Ba 0 I<|AY I ((d0.memA .t2) 0 _ I)<|Ab (FV.eql (i:=a0.fe) (j:=0) I I)<|Aa<|MX.jo (α:=Int) (fun b0=>[(0,.pointer (some ⟨p0,0,none⟩)),(4,vP q0),(6,vP s0)]) (fun b0=>(.cells s0 ae 46 :: .cells q0 (aa a1) 46 :: .cells p0 [vI b0] 85 :: T9)) (fun b0=>b0) d0 h ?_ ?_
 rintro b0 V0 c0 x0 h
 try dsimp only at h
 refine Aj<|Ac<|Ae I<|Ab (BM I)<|Ba 0 I<|AY I ((c0.memA .t2) 0 _ I)<|Ab (FV.neq (i:=b0) (j:=0) I I)<|Aa<|MX.ifn I h (fun A0 h=>?_) (fun A0 h=>?_)
 refine Az<|Ac<|Ab (AC I (c0.memA .t1))<|AW (aa a1) c0 .hd (ai I) fun y0 g0 G0=>Aa<|Ao I<|Au hb0 func71 I (.cons (.many (cs:=(aa a1)) I I (g0.memA .hd)) .nil) I ?_
 have D0:St _ _ (.cells p0 [vI b0] 85 :: T9):=g0.arr2 (.one .t2 (.drop .hd (.drop .hd .rest)))
 have H0:Tr y0 _ y0 (.cells p0 [vI b0] 85 :: T9):=BN (Bx g0 (.one .t2 (.drop .hd (.drop .hd .rest))))
 cases h
 exact ⟨D0,(Tt u0 (Tt v0 (Tt x0 (Tt G0 H0)))),fun w9 hw9=>rfl⟩
 refine Ac<|bk h fun k0 M0 h=>Bm (.agg ((aa k0)).toArray) (bd 38) I (e2 I I) (fun w9 hw9=>am_c n (c0.hL0 hL hw9)  M0) I<|AW (aa k0) c0 .hd (ai I) fun z0 j0 I0=>Aa<|Ao I<|Au hb0 func71 I (.cons (.many (cs:=(aa k0)) I I (j0.memA .hd)) .nil) I ?_
 have E0:St _ _ (.cells p0 [vI b0] 85 :: T9):=j0.arr2 (.one .t2 (.drop .hd (.drop .hd .rest)))
 have J0:Tr z0 _ z0 (.cells p0 [vI b0] 85 :: T9):=BN (Bx j0 (.one .t2 (.drop .hd (.drop .hd .rest))))
 cases h
 exact ⟨E0,(Tt u0 (Tt v0 (Tt x0 (Tt I0 J0)))),fun w9 hw9=>rfl⟩
 intro P0 t0 h
 try dsimp only at h
 refine Be I h (fun B0 h=>?_) (fun B0 h=>?_)
 refine Av<|Ae I<|Ae I<|Ab (BM I)<|Ba 0 I<|BU .plain (Bs (j:=0) (old:=[vI a0.fe]) (news:=[vI a2]) (new' :=[vI a2]) d0 .t2 I I I I I I (o1 I) I) fun U0 F0 K0=>Aa<|t0 a2 F0 K0 h
 refine Az<|t0 a0.fe d0 (Br _ _) h
def ba_l1 (_n:Nat) (a0:U8) (g0:Nat × (La Int) -> Oa (La Int)):Nat × (La Int) -> Oa (La Int)
  | (b0,c0)=>(if b0 < 8 then (([a0.1,a0.2.1,a0.2.2.1,a0.2.2.2.1,a0.2.2.2.2.1,a0.2.2.2.2.2.1,a0.2.2.2.2.2.2.1,a0.2.2.2.2.2.2.2]:La Ua)[b0]?).bind fun d0=>(app c0 ([aC (d0 % (4294967296:Ua)),aC (d0 / (4294967296:Ua))]:La Int)).bind fun j0=>g0 (b0 + 1,j0) else some c0)
def ba_p (n:Nat) (a0:U8):Oa (La Int):=
  Option.bind (au (ba_l1 n a0) n (0,([]:La Int))) (fun b0=>some b0)
theorem ba_c (n:Nat) {L w} (hL:hl L w) (a0:U8)  {r:La Int} (h:ba_p n a0 = some r) :
 Cl 171 #[.agg ((am a0)).toArray] w (aj w fun w' u=>∃ v0_0:Vc,u = v0_0/\Rep.R w' L [v0_0] r):=by
 unfold ba_p at h
 refine AK func171 I I I fun _ cs0 hb0=>Ac<|RG.bx (AD w) I I fun j1 s0 x0 Z0=>Ag I<|Aa<|Ac<|Ag I<|Aa<|Aj<|Ac<|Ag I<|Aa<|AF ?_
 have y0:=x0.nilRow 3 (Rep.size Int)
 have b1:=St.nilRowT x0 3 (Rep.size Int)
 obtain ⟨c1,P0,M0⟩:=av h
 refine MX.lf (α:=Nat × (La Int) × Vc × (La Vc)) (fun ⟨d0,k0,j0,p0⟩=>[(1,vP s0),(3,j0),(4,vn d0)]) (fun ⟨d0,k0,j0,p0⟩=>[rr w 3 Int j0 k0.length p0,.cells s0 (am a0) 44]) (fun ⟨d0,k0,j0,p0⟩ C0=>Cells C0 (bl [rr w 3 Int j0 k0.length p0,.cells s0 (am a0) 44] ++ L) p0 k0) (fun ⟨d0,k0,j0,p0⟩=>(d0,k0)) (0,([]:La Int),vN,[]) P0 y0 (AJ (cs:=[]) (xs:=([]:La Int)) y0 L (AR _ _)) ?_
 rintro W0 ⟨d0,k0,j0,p0⟩ C0 F0 q0 J0 B0 h
 unfold ba_l1 at h
 try dsimp only at h
 refine Aj<|Ac<|Ae I<|Ab (BD (i:=d0) (j:=8) I I)<|Aa<|Be I h (fun D0 h=>?_) (fun D0 h=>?_)
 refine Az<|Aj<|AF<|du 12 fun c0 g0=>Rv 0 c0 I g0 (fun _=>Ak I)<|Rv 1 c0 I g0 (fun _=>Ak I)<|bk h fun b0 t0 h=>Rv 2 c0 I g0 (fun _=>Bc (m:=1) (k:=d0) (len:=8) I I I I (bp t0 I))<|Rx 3 14384 c0 I g0 (AN I ((aS (p:=⟨s0,0,none⟩) (cs:=([a0.1,a0.2.1,a0.2.2.1,a0.2.2.2.1,a0.2.2.2.2.1,a0.2.2.2.2.2.1,a0.2.2.2.2.2.2.1,a0.2.2.2.2.2.2.2]:La Ua).map (fun z9:Ua=>(vU z9:Vc)) ++ []) (i:=d0) (q0.memA .t1) (bJ (fun z9:Ua=>(vU z9:Vc)) t0)) 0 _ I))<|Rv 4 c0 I g0 (fun _=>FV.remU (a:=b0) (b:=(4294967296:Ua)) I I (by decide))<|Rv 5 c0 I g0 (fun _=>FV.convUI (a:=b0 % (4294967296:Ua)) underlying42 underlying3 I)<|Rv 6 c0 I g0 (fun _=>Ak I)<|Rv 7 c0 I g0 (fun _=>Bc (m:=1) (k:=d0) (len:=8) I I I I (bp t0 I))<|Rx 8 15872 c0 I g0 (AN I ((aS (p:=⟨s0,0,none⟩) (cs:=([a0.1,a0.2.1,a0.2.2.1,a0.2.2.2.1,a0.2.2.2.2.1,a0.2.2.2.2.2.1,a0.2.2.2.2.2.2.1,a0.2.2.2.2.2.2.2]:La Ua).map (fun z9:Ua=>(vU z9:Vc)) ++ []) (i:=d0) (q0.memA .t1) (bJ (fun z9:Ua=>(vU z9:Vc)) t0)) 0 _ I))<|Rv 9 c0 I g0 (fun _=>FV.quoU (a:=b0) (b:=(4294967296:Ua)) I I (by decide))<|Rv 10 c0 I g0 (fun _=>FV.convUI (a:=b0 / (4294967296:Ua)) underlying42 underlying3 I)<|Ca 11 4095 c0 I .plain I (AU (α:=Int) (xs:=([aC (b0 % (4294967296:Ua)),aC (b0 / (4294967296:Ua))]:La Int)) (vs:=[vI (aC (b0 % (4294967296:Ua))),vI (aC (b0 / (4294967296:Ua)))]) (ds' :=[vI (aC (b0 % (4294967296:Ua))),vI (aC (b0 / (4294967296:Ua)))]) I q0 aA I (e2 I I) (by kernel_rfl) I) fun k1 X0 v0 A0=>bk h fun V0 R0 h=>AT (i:=12) (rk c0) (BW (m' :=8191) (sk c0) I I .plain I (BB (α:=Int) (ys:=([aC (b0 % (4294967296:Ua)),aC (b0 / (4294967296:Ua))]:La Int)) R0 v0 (fun _ _=>.t1) aA I I (AG B0 A0) (Src.row (α:=Int) v0 .hd (AJ (cs:=[vI (aC (b0 % (4294967296:Ua))),vI (aC (b0 / (4294967296:Ua)))]) (xs:=(([aC (b0 % (4294967296:Ua)),aC (b0 / (4294967296:Ua))]:La Int):La Int)) v0 L (AB (cs:=[vI (aC (b0 % (4294967296:Ua)))]) (ds:=[vI (aC (b0 / (4294967296:Ua)))]) I (AB (cs:=[vI (aC (b0 / (4294967296:Ua)))]) (ds:=[]) I (AR _ _)))))) (fun U0 g1 ⟨E0,G0,I0,K0⟩=>?_))
 refine Rv 13 c0 I g0 (fun _=>Bn I)<|AO (dk c0)<|AI<|Av<|Ae I<|Ab (Bu (i:=d0) (j:=1) I I (by omega))<|Ag I<|Aa ?_
 obtain ⟨H0,z0⟩:=Am G0 .d1
 exact F0 (d0 + 1,V0,U0,E0) H0 (Tt J0 (Tt A0 (Tt I0 z0))) (AG K0 z0) h
 refine Bj I ?_
 have h:=M0 _ h
 try dsimp only at h
 refine Ac<|Ae I<|Ag I<|Aa<|Ao I ?_
 have u0:=BI q0 .hd
 have Y0:=BJ q0 .hd
 have Q0:=BK (α:=Int) (v:=j0) (xs:=k0) u0 L (Bl (α:=Int) q0 .hd B0 hL)
 refine Bi hb0 func171 I I ?_
 cases h
 exact ⟨u0.ag,fun w9 hw9=>⟨j0,I,u0.kd Q0 hw9⟩⟩
def ar_p (n:Nat) (a0:U8):Oa Td:=
  (ba_p n a0).bind fun c0=>(if a0.2.2.2.2.2.2.2 < (9223372036854775808:Ua) then (ae_p n false c0).bind fun g0=>some g0 else (mk 17 (0:Int)).bind fun b0=>(b0[16]?).bind fun _x49=>(put b0 ((16:Nat):Int) (1:Int)).bind fun d0=>(aA_p n c0).bind fun j0=>(aq_p n d0 j0).bind fun k0=>(ae_p n true k0).bind fun p0=>some p0)
theorem ar_c (n:Nat) {L w} (hL:hl L w) (a0:U8)  {r:Td} (h:ar_p n a0 = some r) :
 Cl 136 #[.agg ((am a0)).toArray] w (aj w fun w' u=>∃ v0_1:Vc,u = .agg #[.bool r.fh,v0_1]/\Rep.R w' L [v0_1] r.fD):=by
 unfold ar_p at h
 refine AK func136 I I I fun _ cs0 hb0=>Ac<|RG.bx (AD w) I I fun g2 D1 J0 J1=>RG.nl [.bool false,vN] J0 fun j2 E1 c0 K1=>Aa<|Ac<|Ab (AC I (c0.memA .t1))<|bk h fun A2 u1 h=>jE (bd 171) I (e1 I) (fun w9 hw9=>ba_c n (c0.hL hL hw9) a0 u1) I fun k2 Y1 W0 ⟨V1,hu_,A0⟩=>?_
 subst hu_
 obtain ⟨b0,M1⟩:=c0.agr W0
 refine Ag I<|Aa<|Aj<|Ac<|Ab (Bc (m:=1) (k:=7) (len:=8) I I I I (by omega))<|AY I ((b0.memA .t1) 7 _ I)<|Ab (FV.lssU (a:=a0.2.2.2.2.2.2.2) (b:=(9223372036854775808:Ua)) I I)<|Aa<|Be I h (fun H0 h=>?_) (fun H0 h=>?_)
 refine Ac<|Ae I<|bk h fun D0 v1 h=>jE (bd 172) I (e2 I I) (fun w9 hw9=>ae_c n (b0.hL hL hw9) (Ar A0 hw9) v1) I fun p2 Z1 X0 ⟨s0,hu_,B0⟩=>?_
 subst hu_
 obtain ⟨K0,P1⟩:=b0.agr X0
 refine AW [.bool D0.fh,s0] K0 .hd (o2 I (AX B0)) fun q2 d0 Q0=>Aa<|Ao I<|Au hb0 func136 I (.cons (.many (cs:=[.bool D0.fh,s0]) I I (d0.memA .hd)) .nil) I ?_
 cases h
 exact ⟨d0.ag,fun w9 hw9=>⟨s0,I,d0.kd (Ap B0 Q0) hw9⟩⟩
 refine Az<|Ac<|bk h fun z2 q1 h=>RG.doesH .plain I (Does.mkH (α:=Int) (L:=L) q1 b0 aA I (fun _ _=>rfl)) fun A1 s2 ⟨H1,g0,R0,x0⟩=>Ag I<|Aa<|Ac<|Ae I<|bk h fun B1 p1 h=>?_
 obtain ⟨F0,F1,q0,z0,I0,g1,U1⟩:=St.nth (α:=Int) g0 .hd x0 p1
 obtain ⟨G0,G1,y0⟩:=Cb (α:=Int) g0 .hd z0
 obtain rfl:F0 = ⟨G0,0,none⟩:=by rw [y0] at q0; cases q0; rfl
 have d1:I0 = [vI B1]:=g1; subst d1
 refine Ab (BE 1 16 I q0 I I z0)<|bk h fun C1 s1 h=>RG.acts' .plain (Acts.set (α:=Int) (i:=16) s1 g0 y0 (fun _=>.hd) x0 I I I I I I) fun t2 ⟨I1,u0,U0,c1⟩=>Aa<|Ac<|Ae I<|Ae I<|bk h fun B2 x1 h=>jE (bd 174) I (e1 I) (fun w9 hw9=>aA_c n (u0.hL hL hw9) (Ar (Ap A0 (Tt R0 U0)) hw9) x1) I fun u2 b2 Y0 ⟨W1,hu_,j1⟩=>?_
 subst hu_
 obtain ⟨j0,V0⟩:=u0.agr Y0
 have k0:=BI j0 .hd
 refine bk h fun C2 y1 h=>jE (bd 173) I (e2 I I) (fun w9 hw9=>aq_c n (k0.hL hL hw9) (Ar (BK (α:=Int) (v:=A1) (xs:=C1) k0 L (Bl (α:=Int) j0 .hd (AG c1 V0) hL)) hw9) (Ar (Ap j1 (BJ j0 .hd)) hw9) y1) I fun v2 c2 Z0 ⟨X1,hu_,k1⟩=>?_
 subst hu_
 obtain ⟨v0,Q1⟩:=k0.agr Z0
 refine bk h fun E0 z1 h=>jE (bd 172) I (e2 I I) (fun w9 hw9=>ae_c n (v0.hL hL hw9) (Ar k1 hw9) z1) I fun x2 d2 b1 ⟨t0,hu_,C0⟩=>?_
 subst hu_
 obtain ⟨M0,R1⟩:=v0.agr b1
 refine AW [.bool E0.fh,t0] M0 .hd (o2 I (AX C0)) fun y2 p0 P0=>Aa<|Ao I<|Au hb0 func136 I (.cons (.many (cs:=[.bool E0.fh,t0]) I I (p0.memA .hd)) .nil) I ?_
 cases h
 exact ⟨p0.ag,fun w9 hw9=>⟨t0,I,p0.kd (Ap C0 P0) hw9⟩⟩
def cw_p (_n:Nat) (a0:Td):Oa Bool:=
  (if a0.fD.length = 1 then (a0.fD[0]?).bind fun b0=>(if b0 = 1 then some (!a0.fh) else some false) else some false)
theorem cw_c (n:Nat) {L w} (_hL:hl L w) (a0:Td) {v0_1:Vc} (h0_1:Rep.R w L [v0_1] a0.fD)  {r:Bool} (h:cw_p n a0 = some r) :
 Cl 137 #[.agg #[.bool a0.fh,v0_1]] w (aj w fun _ u=>u = .bool r):=by
 unfold cw_p at h
 refine AK func137 I I I fun _ cs0 hb0=>Ac<|RG.bx (AD w) I I fun C0 y0 b0 A0=>Ag I<|Aa<|Ac<|Ba 1 I<|AY I ((b0.memA .hd) 1 _ I) ?_
 have c0:=Bb h0_1 b0
 have B0:=Bh c0
 refine Ab (Bk (xs:=a0.fD) underlying34 I c0)<|Ab (BZ (i:=a0.fD.length) (j:=1) I I)<|Ae I<|BG (s:=7) I h (fun g0 h=>?_) (fun g0 h=>?_)
 refine RG.fg 1 I<|AH (AN I ((b0.memA .hd) 1 _ I))<|bk h fun d0 v0 h=>?_
 obtain ⟨x0,z0,p0,s0,k0,u0,t0⟩:=Bw c0 v0
 have q0:k0 = [vI d0]:=u0; subst q0
 refine AH (BE 1 0 I p0 I I s0)<|AH (AN I (t0 0 _ I))<|AH (FV.eql (i:=d0) (j:=1) I I)<|Bq I I<|Ae I<|BG (s:=14) I h (fun j0 h=>?_) (fun j0 h=>?_)
 refine RG.fg 0 I<|AH (AN I ((b0.memA .hd) 0 _ I))<|AH (Bz I)<|Bq I I<|Ag I<|Aa<|Ao I<|Bi hb0 func137 I I ?_
 cases h
 exact b0.gv
 refine Aw<|Aw<|Aw<|By I I<|Ag I<|Aa<|Ao I<|Bi hb0 func137 I I ?_
 cases h
 exact b0.gv
 refine Aw<|Aw<|Aw<|Aw<|Aw<|By I I<|Ae I<|Aw<|Aw<|Aw<|By I I<|Ag I<|Aa<|Ao I<|Bi hb0 func137 I I ?_
 cases h
 exact b0.gv
def au_p (n:Nat) (a0:Ta):Oa Bool:=
  (ar_p n a0.fN).bind fun g0=>(ar_p n a0.fD).bind fun b0=>(if b0.fh = true then some false else (if 0 < b0.fD.length then (aN_p n g0 b0).bind fun c0=>(cw_p n c0).bind fun d0=>some d0 else some false))
theorem au_c (n:Nat) {L w} (hL:hl L w) (a0:Ta)  {r:Bool} (h:au_p n a0 = some r) :
 Cl 106 #[.agg ((aa a0)).toArray] w (aj w fun _ u=>u = .bool r):=by
 unfold au_p at h
 refine AK func106 I I I fun _ cs0 hb0=>Ac<|RG.bx (AD w) I I fun H2 A2 M0 B2=>Ag I<|Aa<|Aj<|du 8 fun b0 V0=>Rv 0 b0 I V0 (fun _=>AS 0 I)<|Rx 1 804 b0 I V0 (Aq (cs:=(am a0.fN)) I I (ac (M0.memA .hd) 0 8))<|Rv 3 b0 I V0 (fun _=>AS 8 I)<|Rx 4 800 b0 I V0 (Aq (cs:=(am a0.fD)) I I (ac (M0.memA .hd) 8 8))<|bk h fun Y0 U0 h=>bk h fun P0 C0 h=>RD.mf (α:=Vc × Vc × Nat × Nat) (fun ⟨Q0,R0,J0,K0⟩=>[(7,.agg #[.bool Y0.fh,Q0]),(10,.agg #[.bool P0.fh,R0]),(3,vP K0),(4,vP J0)]) (fun ⟨Q0,R0,J0,K0⟩=>[.cells J0 [.bool false,vN] 158,.cells K0 [.bool false,vN] 158]) (fun ⟨Q0,R0,J0,K0⟩ j1=>Rep.R j1 (bl [.cells J0 [.bool false,vN] 158,.cells K0 [.bool false,vN] 158] ++ L) [Q0] Y0.fD/\Rep.R j1 (bl [.cells J0 [.bool false,vN] 158,.cells K0 [.bool false,vN] 158] ++ L) [R0] P0.fD) M0 2 255 ?_ ?_
 rintro ⟨Q0,R0,J0,K0⟩ j1 V1 C2 ⟨P1,Q1⟩
 try dsimp only
 refine Bv 8 511 b0 I I .plain (Ax (news:=[.bool Y0.fh,Q0]) V1 .t1 I I I I I I (o2 I (AX P1))) fun I2 W1 b1=>Bv 9 1023 b0 I I .plain (Ax (news:=[.bool P0.fh,R0]) W1 .hd I I I I I I (o2 I (AX (Ap Q1 b1)))) fun J2 G0 k1=>AO (dk b0)<|Ac<|Ba 0 I<|AY I ((G0.memA .hd) 0 _ I)<|Ab (Bz I)<|Ae I<|RG.ifnb (s:=14) I h (fun R1 h=>?_) (fun R1 h=>?_)
 refine Aw<|Aw<|Aw<|Aw<|By I I<|Ae I<|Aw<|Aw<|Aw<|Aw<|By I I<|Ag I<|Aa<|Ao I<|Bi hb0 func106 I I ?_
 cases h
 exact G0.gv
 refine RG.fg 1 I<|AH (AN I ((G0.memA .hd) 1 _ I)) ?_
 have g1:=Ap Q1 (Tt b1 k1)
 have E2:=Bh g1
 refine AH (Bk (xs:=P0.fD) underlying34 I g1)<|AH (FV.gtrN (i:=P0.fD.length) (j:=0) I I)<|Bq I I<|Ae I<|BG (s:=20) I h (fun U1 h=>?_) (fun U1 h=>?_)
 refine AH (AC I (G0.memA .t1))<|AH (AC I (G0.memA .hd))<|bk h fun y2 v2 h=>Bo (fst:=[]) (cap:=[]) (.yes I I) (bd 138) I (e2 I I) (fun w9 hw9=>aN_c n (G0.hL hL hw9) Y0 (Ar (Ap P1 (Tt b1 k1)) hw9) P0 (Ar g1 hw9) v2) I fun K2 G2 t2 ⟨F2,hu_,u2⟩=>?_
 subst hu_
 obtain ⟨Z0,D2⟩:=G0.agr t2
 refine bk h fun z2 x2 h=>RG.callq' (v:=.bool z2) (fst:=[]) (cap:=[]) (.yes I I) (bd 137) I (e1 I) (fun w9 hw9=>cw_c n (Z0.hL0 hL hw9) y2 (Z0.kd u2 hw9) x2) I<|Bq I I<|Ag I<|Aa<|Ao I<|Bi hb0 func106 I I ?_
 cases h
 exact Z0.gv
 refine Aw<|Aw<|Aw<|Aw<|By I I<|Ag I<|Aa<|Ao I<|Bi hb0 func106 I I ?_
 cases h
 exact G0.gv
 intro B0
 refine AM [2,6,7] (rk b0) ⟨?_,?_,?_,trivial⟩
 refine RO.call (m' :=31) (fst:=[]) (cap:=[]) (sk b0) I .plain (bd 136) I (e1 I) (fun w9 hw9=>ar_c n (M0.hL hL hw9) a0.fN U0) I fun X0 W0 F0 ⟨A0,hu_,z0⟩=>?_
 subst hu_
 obtain ⟨x0,y0⟩:=M0.agr F0
 refine AM [5,6,7] (rk b0) ⟨?_,?_,?_,trivial⟩
 refine RO.call (m' :=63) (fst:=[]) (cap:=[]) (sk b0) I .plain (bd 136) I (e1 I) (fun w9 hw9=>ar_c n (x0.hL hL hw9) a0.fD C0) I fun E0 D0 t0 ⟨s0,hu_,q0⟩=>?_
 subst hu_
 obtain ⟨p0,j0⟩:=x0.agr t0
 refine AM [6,7] (rk b0) ⟨?_,?_,trivial⟩
 refine Bf (m' :=127) (sk b0) I .plain I (Al [.bool false,vN] p0) fun I0 v0 d0 k0=>Ca 7 255 b0 I .plain I (Al [.bool false,vN] d0) fun H0 u0 c0 g0=>?_
 obtain ⟨X1,p1⟩:=Am c0 (.a0 (.a0 .done))
 have C1:=Tt j0 (Tt k0 (Tt g0 p1))
 exact B0 (A0,s0,u0,v0) X1 (Tt y0 C1) ⟨(Ap z0 C1),(Ap q0 (Tt k0 (Tt g0 p1)))⟩
 refine Bf (m' :=191) (sk b0) I .plain I (Al [.bool false,vN] p0) fun H0 u0 c0 g0=>Ca 6 255 b0 I .plain I (Al [.bool false,vN] c0) fun I0 v0 d0 k0=>?_
 obtain ⟨Y1,q1⟩:=Am d0 (.a1 (.a0 .done))
 have D1:=Tt j0 (Tt g0 (Tt k0 q1))
 exact B0 (A0,s0,u0,v0) Y1 (Tt y0 D1) ⟨(Ap z0 D1),(Ap q0 (Tt g0 (Tt k0 q1)))⟩
 refine Bf (m' :=95) (sk b0) I .plain I (Al [.bool false,vN] x0) fun I0 v0 d0 k0=>AM [5,7] (rk b0) ⟨?_,?_,trivial⟩
 refine RO.call (m' :=127) (fst:=[]) (cap:=[]) (sk b0) I .plain (bd 136) I (e1 I) (fun w9 hw9=>ar_c n (d0.hL hL hw9) a0.fD C0) I fun E0 D0 t0 ⟨s0,hu_,q0⟩=>?_
 subst hu_
 obtain ⟨p0,j0⟩:=d0.agr t0
 refine Ca 7 255 b0 I .plain I (Al [.bool false,vN] p0) fun H0 u0 c0 g0=>?_
 obtain ⟨Z1,s1⟩:=Am c0 (.a0 (.a0 .done))
 have E1:=Tt k0 (Tt j0 (Tt g0 s1))
 exact B0 (A0,s0,u0,v0) Z1 (Tt y0 E1) ⟨(Ap z0 E1),(Ap q0 (Tt g0 s1))⟩
 refine Bf (m' :=223) (sk b0) I .plain I (Al [.bool false,vN] d0) fun H0 u0 c0 g0=>Bp 5 255 b0 I .plain (bd 136) I (e1 I) (fun w9 hw9=>ar_c n (c0.hL hL hw9) a0.fD C0) I fun E0 D0 t0 ⟨s0,hu_,q0⟩=>?_
 subst hu_
 obtain ⟨p0,j0⟩:=c0.agr t0
 obtain ⟨b2,u1⟩:=Am p0 (.a0 (.a0 .done))
 have F1:=Tt k0 (Tt g0 (Tt j0 u1))
 exact B0 (A0,s0,u0,v0) b2 (Tt y0 F1) ⟨(Ap z0 F1),(Ap q0 u1)⟩
 refine Bf (m' :=159) (sk b0) I .plain I (Al [.bool false,vN] x0) fun H0 u0 c0 g0=>AM [5,6] (rk b0) ⟨?_,?_,trivial⟩
 refine RO.call (m' :=191) (fst:=[]) (cap:=[]) (sk b0) I .plain (bd 136) I (e1 I) (fun w9 hw9=>ar_c n (c0.hL hL hw9) a0.fD C0) I fun E0 D0 t0 ⟨s0,hu_,q0⟩=>?_
 subst hu_
 obtain ⟨p0,j0⟩:=c0.agr t0
 refine Ca 6 255 b0 I .plain I (Al [.bool false,vN] p0) fun I0 v0 d0 k0=>?_
 obtain ⟨c2,v1⟩:=Am d0 (.a1 (.a0 .done))
 have G1:=Tt g0 (Tt j0 (Tt k0 v1))
 exact B0 (A0,s0,u0,v0) c2 (Tt y0 G1) ⟨(Ap z0 G1),(Ap q0 (Tt k0 v1))⟩
 refine Bf (m' :=223) (sk b0) I .plain I (Al [.bool false,vN] c0) fun I0 v0 d0 k0=>Bp 5 255 b0 I .plain (bd 136) I (e1 I) (fun w9 hw9=>ar_c n (d0.hL hL hw9) a0.fD C0) I fun E0 D0 t0 ⟨s0,hu_,q0⟩=>?_
 subst hu_
 obtain ⟨p0,j0⟩:=d0.agr t0
 obtain ⟨d2,x1⟩:=Am p0 (.a1 (.a0 .done))
 have H1:=Tt g0 (Tt k0 (Tt j0 x1))
 exact B0 (A0,s0,u0,v0) d2 (Tt y0 H1) ⟨(Ap z0 H1),(Ap q0 x1)⟩
 refine Bf (m' :=91) (sk b0) I .plain I (Al [.bool false,vN] M0) fun I0 v0 d0 k0=>AM [2,7] (rk b0) ⟨?_,?_,trivial⟩
 refine RO.call (m' :=95) (fst:=[]) (cap:=[]) (sk b0) I .plain (bd 136) I (e1 I) (fun w9 hw9=>ar_c n (d0.hL hL hw9) a0.fN U0) I fun X0 W0 F0 ⟨A0,hu_,z0⟩=>?_
 subst hu_
 obtain ⟨x0,y0⟩:=d0.agr F0
 refine AM [5,7] (rk b0) ⟨?_,?_,trivial⟩
 refine RO.call (m' :=127) (fst:=[]) (cap:=[]) (sk b0) I .plain (bd 136) I (e1 I) (fun w9 hw9=>ar_c n (x0.hL hL hw9) a0.fD C0) I fun E0 D0 t0 ⟨s0,hu_,q0⟩=>?_
 subst hu_
 obtain ⟨p0,j0⟩:=x0.agr t0
 refine Ca 7 255 b0 I .plain I (Al [.bool false,vN] p0) fun H0 u0 c0 g0=>?_
 obtain ⟨g2,y1⟩:=Am c0 (.a0 (.a0 .done))
 have I1:=Tt j0 (Tt g0 y1)
 exact B0 (A0,s0,u0,v0) g2 (Tt k0 (Tt y0 I1)) ⟨(Ap z0 I1),(Ap q0 (Tt g0 y1))⟩
 refine Bf (m' :=223) (sk b0) I .plain I (Al [.bool false,vN] x0) fun H0 u0 c0 g0=>Bp 5 255 b0 I .plain (bd 136) I (e1 I) (fun w9 hw9=>ar_c n (c0.hL hL hw9) a0.fD C0) I fun E0 D0 t0 ⟨s0,hu_,q0⟩=>?_
 subst hu_
 obtain ⟨p0,j0⟩:=c0.agr t0
 obtain ⟨j2,z1⟩:=Am p0 (.a0 (.a0 .done))
 have J1:=Tt g0 (Tt j0 z1)
 exact B0 (A0,s0,u0,v0) j2 (Tt k0 (Tt y0 J1)) ⟨(Ap z0 J1),(Ap q0 z1)⟩
 refine Bf (m' :=219) (sk b0) I .plain I (Al [.bool false,vN] d0) fun H0 u0 c0 g0=>Bp 2 223 b0 I .plain (bd 136) I (e1 I) (fun w9 hw9=>ar_c n (c0.hL hL hw9) a0.fN U0) I fun X0 W0 F0 ⟨A0,hu_,z0⟩=>?_
 subst hu_
 obtain ⟨x0,y0⟩:=c0.agr F0
 refine Bp 5 255 b0 I .plain (bd 136) I (e1 I) (fun w9 hw9=>ar_c n (x0.hL hL hw9) a0.fD C0) I fun E0 D0 t0 ⟨s0,hu_,q0⟩=>?_
 subst hu_
 obtain ⟨p0,j0⟩:=x0.agr t0
 obtain ⟨k2,c1⟩:=Am p0 (.a0 (.a0 .done))
 exact B0 (A0,s0,u0,v0) k2 (Tt k0 (Tt g0 (Tt y0 (Tt j0 c1)))) ⟨(Ap z0 (Tt j0 c1)),(Ap q0 c1)⟩
 refine Bf (m' :=155) (sk b0) I .plain I (Al [.bool false,vN] M0) fun H0 u0 c0 g0=>AM [2,6] (rk b0) ⟨?_,?_,trivial⟩
 refine RO.call (m' :=159) (fst:=[]) (cap:=[]) (sk b0) I .plain (bd 136) I (e1 I) (fun w9 hw9=>ar_c n (c0.hL hL hw9) a0.fN U0) I fun X0 W0 F0 ⟨A0,hu_,z0⟩=>?_
 subst hu_
 obtain ⟨x0,y0⟩:=c0.agr F0
 refine AM [5,6] (rk b0) ⟨?_,?_,trivial⟩
 refine RO.call (m' :=191) (fst:=[]) (cap:=[]) (sk b0) I .plain (bd 136) I (e1 I) (fun w9 hw9=>ar_c n (x0.hL hL hw9) a0.fD C0) I fun E0 D0 t0 ⟨s0,hu_,q0⟩=>?_
 subst hu_
 obtain ⟨p0,j0⟩:=x0.agr t0
 refine Ca 6 255 b0 I .plain I (Al [.bool false,vN] p0) fun I0 v0 d0 k0=>?_
 obtain ⟨p2,A1⟩:=Am d0 (.a1 (.a0 .done))
 have K1:=Tt j0 (Tt k0 A1)
 exact B0 (A0,s0,u0,v0) p2 (Tt g0 (Tt y0 K1)) ⟨(Ap z0 K1),(Ap q0 (Tt k0 A1))⟩
 refine Bf (m' :=223) (sk b0) I .plain I (Al [.bool false,vN] x0) fun I0 v0 d0 k0=>Bp 5 255 b0 I .plain (bd 136) I (e1 I) (fun w9 hw9=>ar_c n (d0.hL hL hw9) a0.fD C0) I fun E0 D0 t0 ⟨s0,hu_,q0⟩=>?_
 subst hu_
 obtain ⟨p0,j0⟩:=d0.agr t0
 obtain ⟨q2,B1⟩:=Am p0 (.a1 (.a0 .done))
 have M1:=Tt k0 (Tt j0 B1)
 exact B0 (A0,s0,u0,v0) q2 (Tt g0 (Tt y0 M1)) ⟨(Ap z0 M1),(Ap q0 B1)⟩
 refine Bf (m' :=219) (sk b0) I .plain I (Al [.bool false,vN] c0) fun I0 v0 d0 k0=>Bp 2 223 b0 I .plain (bd 136) I (e1 I) (fun w9 hw9=>ar_c n (d0.hL hL hw9) a0.fN U0) I fun X0 W0 F0 ⟨A0,hu_,z0⟩=>?_
 subst hu_
 obtain ⟨x0,y0⟩:=d0.agr F0
 refine Bp 5 255 b0 I .plain (bd 136) I (e1 I) (fun w9 hw9=>ar_c n (x0.hL hL hw9) a0.fD C0) I fun E0 D0 t0 ⟨s0,hu_,q0⟩=>?_
 subst hu_
 obtain ⟨p0,j0⟩:=x0.agr t0
 obtain ⟨s2,d1⟩:=Am p0 (.a1 (.a0 .done))
 exact B0 (A0,s0,u0,v0) s2 (Tt g0 (Tt k0 (Tt y0 (Tt j0 d1)))) ⟨(Ap z0 (Tt j0 d1)),(Ap q0 d1)⟩
def aI_p (n:Nat) (a0:Ta):Oa Tf:=
  (ar_p n a0.fN).bind fun b0=>(ar_p n a0.fD).bind fun c0=>some (⟨b0,c0⟩:Tf)
theorem aI_c (n:Nat) {L w} (hL:hl L w) (a0:Ta)  {r:Tf} (h:aI_p n a0 = some r) :
 Cl 107 #[.agg ((aa a0)).toArray] w (aj w fun w' u=>∃ v0_1 v0_3:Vc,u = .agg #[.bool r.fN.fh,v0_1,.bool r.fD.fh,v0_3]/\Rep.R w' L [v0_1] r.fN.fD/\Rep.R w' L [v0_3] r.fD.fD):=by
 unfold aI_p at h
 refine AK func107 I I I fun _ cs0 hb0=>Ac<|RG.bx (AD w) I I fun X0 J0 z0 Q0=>RG.nl [.bool false,vN,.bool false,vN] z0 fun Y0 K0 j0 R0=>Aa<|Aj<|du 7 fun b0 c0=>Rv 0 b0 I c0 (fun _=>AS 0 I)<|Rx 1 228 b0 I c0 (Aq (cs:=(am a0.fN)) I I (ac (j0.memA .t1) 0 8))<|Rv 3 b0 I c0 (fun _=>AS 8 I)<|Rx 4 224 b0 I c0 (Aq (cs:=(am a0.fD)) I I (ac (j0.memA .t1) 8 8))<|bk h fun p0 F0 h=>Bp 2 31 b0 I .plain (bd 136) I (e1 I) (fun w9 hw9=>ar_c n (j0.hL hL hw9) a0.fN F0) I fun Z0 V0 B0 ⟨d0,hu_,y0⟩=>?_
 subst hu_
 obtain ⟨t0,U0⟩:=j0.agr B0
 refine bk h fun q0 G0 h=>Bp 5 63 b0 I .plain (bd 136) I (e1 I) (fun w9 hw9=>ar_c n (t0.hL hL hw9) a0.fD G0) I fun b1 W0 C0 ⟨g0,hu_,s0⟩=>?_
 subst hu_
 obtain ⟨A0,u0⟩:=t0.agr C0
 have x0:=Ap y0 u0
 obtain ⟨H0,M0,D0,_⟩:=Rep.sl x0
 obtain ⟨I0,P0,E0,_⟩:=Rep.sl s0
 refine Rv 6 b0 I c0 (fun _=>AP (vs:=[.agg #[.bool p0.fh,d0],.agg #[.bool q0.fh,g0]]) (u:=.agg #[.bool p0.fh,d0,.bool q0.fh,g0]) (e2 I I) (fun w9=>by rw [D0,E0]; try kernel_rfl))<|Bv 7 255 b0 I I .plain (Ax (news:=[.bool p0.fh,d0,.bool q0.fh,g0]) A0 .hd I I I I I I (o4 I (AX x0) I (AX s0))) fun c1 k0 v0=>AO (dk b0)<|Ao I<|Au hb0 func107 I (.cons (.many (cs:=[.bool p0.fh,d0,.bool q0.fh,g0]) I I (k0.memA .hd)) .nil) I ?_
 cases h
 exact ⟨k0.ag,fun w9 hw9=>⟨d0,g0,I,k0.kd (Ap y0 (Tt u0 v0)) hw9,k0.kd (Ap s0 v0) hw9⟩⟩
def ay_l1 (_n:Nat) (a1:La Int) (c0:Nat) (a0:La Int) (q0:Ua × Nat × (La Int) -> Oa ((La Int) × Ua)):Ua × Nat × (La Int) -> Oa ((La Int) × Ua)
  | (d0,b0,g0)=>(if b0 < a1.length then (g0[c0 + b0]?).bind fun j0=>(a0[c0]?).bind fun k0=>(a1[b0]?).bind fun p0=>(put g0 ((c0 + b0:Nat):Int) (aC (((d0 + (ah j0)) + ((ah k0) * (ah p0))) % (4294967296:Ua)))).bind fun s0=>q0 (((d0 + (ah j0)) + ((ah k0) * (ah p0))) / (4294967296:Ua),b0 + 1,s0) else some (g0,d0))
def ay_l2 (n:Nat) (a0:La Int) (a1:La Int) (g0:Nat × (La Int) -> Oa (La Int)):Nat × (La Int) -> Oa (La Int)
  | (b0,c0)=>(if b0 < a0.length then Option.bind (au (ay_l1 n a1 b0 a0) n (0,0,c0)) (fun (d0,j0)=>(d0[b0 + a1.length]?).bind fun _x537=>(put d0 ((b0 + a1.length:Nat):Int) (aC j0)).bind fun k0=>g0 (b0 + 1,k0)) else some c0)
def ay_p (n:Nat) (a0:La Int) (a1:La Int):Oa (La Int):=
  (mk ((a0.length + a1.length:Nat):Int) (0:Int)).bind fun b0=>Option.bind (au (ay_l2 n a0 a1) n (0,b0)) (fun c0=>(aA_p n c0).bind fun d0=>some d0)
theorem ay_c (n:Nat) {L w} (hL:hl L w) {a0:La Int} {v0_0:Vc} (h0_0:Rep.R w L [v0_0] a0) {a1:La Int} {v1_0:Vc} (h1_0:Rep.R w L [v1_0] a1)  {r:La Int} (h:ay_p n a0 a1 = some r) :
 Cl 179 #[v0_0,v1_0] w (aj w fun w' u=>∃ v0_0:Vc,u = v0_0/\Rep.R w' L [v0_0] r):=by
 unfold ay_p at h
 refine AK func179 I I I fun _ cs0 hb0=>Ac<|Ag I<|Aa<|Ac<|Ae I ?_
 have hl1:=Bh h0_0
 refine Ab (Bk (xs:=a0) underlying34 I h0_0)<|Ae I ?_
 have hl2:=Bh h1_0
 refine Ab (Bk (xs:=a1) underlying34 I h1_0)<|Ab (Bu (i:=a0.length) (j:=a1.length) I I (by omega))<|bk h fun V0 Q0 h=>Ah .plain I (Does.mk (α:=Int) Q0 (AD w) aA I) fun V2 x0 G0 J2=>Ag I<|Aa<|Aj<|Ac<|Ag I<|Aa<|AF ?_
 obtain ⟨Q2,W1,K1⟩:=av h
 refine MX.lf (α:=Nat × (La Int) × (La Vc)) (fun ⟨d0,k0,p0⟩=>[(0,v0_0),(1,v1_0),(5,(.slice (some ⟨x0,0,none⟩) ((a0.length + a1.length:Nat):Int).toNat ((a0.length + a1.length:Nat):Int).toNat)),(6,vn d0)]) (fun ⟨d0,k0,p0⟩=>[rr w 3 Int (.slice (some ⟨x0,0,none⟩) ((a0.length + a1.length:Nat):Int).toNat ((a0.length + a1.length:Nat):Int).toNat) k0.length p0]) (fun ⟨d0,k0,p0⟩ R0=>Cells R0 (bl [rr w 3 Int (.slice (some ⟨x0,0,none⟩) ((a0.length + a1.length:Nat):Int).toNat ((a0.length + a1.length:Nat):Int).toNat) k0.length p0] ++ L) p0 k0) (fun ⟨d0,k0,p0⟩=>(d0,k0)) (0,V0,(List.replicate ((a0.length + a1.length:Nat):Int).toNat [vI 0]).flatten) W1 G0 (AJ (cs:=(List.replicate ((a0.length + a1.length:Nat):Int).toNat [vI 0]).flatten) (xs:=V0) G0 L (Cells.mk Q0 I)) ?_
 rintro B2 ⟨d0,k0,p0⟩ R0 s1 z0 y1 J0 h
 unfold ay_l2 at h
 try dsimp only at h
 refine Aj<|Ac<|Ae I<|Ae I<|Ab (Bk (xs:=a0) underlying34 I (Bb h0_0 z0))<|Ab (BD (i:=d0) (j:=a0.length) I I)<|Aa<|Be I h (fun b1 h=>?_) (fun b1 h=>?_)
 refine Az<|Aj<|AF<|Ac<|Ag I<|Aa<|Aj<|Ac<|Ag I<|Aa<|AF ?_
 obtain ⟨R2,X1,M1⟩:=av h
 refine MX.lf (α:=Ua × Nat × (La Int) × (La Vc)) (fun ⟨j0,g0,v0,y0⟩=>[(0,v0_0),(1,v1_0),(5,(.slice (some ⟨x0,0,none⟩) ((a0.length + a1.length:Nat):Int).toNat ((a0.length + a1.length:Nat):Int).toNat)),(6,vn d0),(7,vU j0),(8,vn g0)]) (fun ⟨j0,g0,v0,y0⟩=>[rr w 3 Int (.slice (some ⟨x0,0,none⟩) ((a0.length + a1.length:Nat):Int).toNat ((a0.length + a1.length:Nat):Int).toNat) v0.length y0]) (fun ⟨j0,g0,v0,y0⟩ U0=>Cells U0 (bl [rr w 3 Int (.slice (some ⟨x0,0,none⟩) ((a0.length + a1.length:Nat):Int).toNat ((a0.length + a1.length:Nat):Int).toNat) v0.length y0] ++ L) y0 v0) (fun ⟨j0,g0,v0,y0⟩=>(j0,g0,v0)) (0,0,k0,p0) X1 z0 J0 ?_
 rintro C2 ⟨j0,g0,v0,y0⟩ U0 u1 q0 I0 A0 h
 unfold ay_l1 at h
 try dsimp only at h
 refine Aj<|Ac<|Ae I<|Ae I ?_
 have F0:=Bb h1_0 q0
 refine Ab (Bk (xs:=a1) underlying34 I F0)<|Ab (BD (i:=g0) (j:=a1.length) I I)<|Aa<|Be I h (fun c1 h=>?_) (fun c1 h=>?_)
 refine Az<|Aj<|AF<|Aj<|du 22 fun b0 c0=>Rv 0 b0 I c0 (fun _=>Ak I)<|Rv 1 b0 I c0 (fun _=>Ak I)<|Rv 2 b0 I c0 (fun _=>Ak I)<|Rv 3 b0 I c0 (fun _=>Ak I)<|Rv 4 b0 I c0 (fun _=>Bu (i:=d0) (j:=g0) I I (by omega))<|bk h fun s0 g2 h=>?_
 obtain ⟨W0,D2,B0,E0,d1,Y1,R1⟩:=St.nth (α:=Int) q0 .hd A0 g2
 obtain ⟨Y0,E2,K0⟩:=Cb (α:=Int) q0 .hd E0
 obtain rfl:W0 = ⟨Y0,0,none⟩:=by rw [K0] at B0; cases B0; rfl
 have E1:d1 = [vI s0]:=Y1; subst E1
 refine Rv 5 b0 I c0 (fun _=>BE 1 (d0 + g0) I B0 I I E0)<|Rx 6 3146112 b0 I c0 (AN I (R1 0 _ I))<|Rv 7 b0 I c0 (fun _=>FV.convU (i:=s0) underlying3 underlying42 I)<|Rv 8 b0 I c0 (fun _=>FV.addU (a:=j0) (b:=ah s0) I I)<|Rv 9 b0 I c0 (fun _=>Ak I)<|Rv 10 b0 I c0 (fun _=>Ak I)<|bk h fun t0 j2 h=>?_
 obtain ⟨z2,F2,F1,P1,g1,Z1,U1⟩:=Bw (Bb h0_0 q0) j2
 have G1:g1 = [vI t0]:=Z1; subst G1
 refine Rv 11 b0 I c0 (fun _=>BE 1 d0 I F1 I I P1)<|Rx 12 3678208 b0 I c0 (AN I (U1 0 _ I))<|Rv 13 b0 I c0 (fun _=>FV.convU (i:=t0) underlying3 underlying42 I)<|Rv 14 b0 I c0 (fun _=>Ak I)<|Rv 15 b0 I c0 (fun _=>Ak I)<|bk h fun u0 k2 h=>?_
 obtain ⟨A2,G2,H1,Q1,j1,b2,V1⟩:=Bw F0 k2
 have I1:j1 = [vI u0]:=b2; subst I1
 refine Rv 16 b0 I c0 (fun _=>BE 1 g0 I H1 I I Q1)<|Rx 17 3932160 b0 I c0 (AN I (V1 0 _ I))<|Rv 18 b0 I c0 (fun _=>FV.convU (i:=u0) underlying3 underlying42 I)<|Rv 19 b0 I c0 (fun _=>FV.mulU (a:=ah t0) (b:=ah u0) I I)<|Rv 20 b0 I c0 (fun _=>FV.addU (a:=j0 + (ah s0)) (b:=(ah t0) * (ah u0)) I I)<|Rv 21 b0 I c0 (fun _=>Bn I)<|AO (dk b0)<|Ac<|Ae I<|Ae I<|Ae I<|Ab (Bu (i:=d0) (j:=g0) I I (by omega))<|Ae I<|Ab (FV.remU (a:=(j0 + (ah s0)) + ((ah t0) * (ah u0))) (b:=(4294967296:Ua)) I I (by decide))<|Ab (FV.convUI (a:=((j0 + (ah s0)) + ((ah t0) * (ah u0))) % (4294967296:Ua)) underlying42 underlying3 I)<|Ab (BE 1 (d0 + g0) I B0 I I E0)<|bk h fun x2 q2 h=>RG.acts' .plain (Acts.set (α:=Int) (i:=d0 + g0) q2 q0 K0 (fun _=>.hd) A0 I I I I I I) fun W2 ⟨k1,v1,z1,C1⟩=>Aa<|Av<|Ae I<|Ab (FV.quoU (a:=(j0 + (ah s0)) + ((ah t0) * (ah u0))) (b:=(4294967296:Ua)) I I (by decide))<|Ag I<|Aa<|AI<|Av<|Ae I<|Ab (Bu (i:=g0) (j:=1) I I (by omega))<|Ag I<|Aa<|u1 (((j0 + (ah s0)) + ((ah t0) * (ah u0))) / (4294967296:Ua),g0 + 1,x2,k1) v1 (Tt I0 z1) C1 h
 refine Bj I ?_
 have h:=M1 _ h
 try dsimp only at h
 refine Av<|Ae I<|Ae I<|Ae I<|Ab (Bk (xs:=a1) underlying34 I F0)<|Ab (Bu (i:=d0) (j:=a1.length) I I (by omega))<|Ae I<|Ab (FV.convUI (a:=j0) underlying42 underlying3 I)<|bk h fun v2 p2 h=>?_
 obtain ⟨X0,H2,D0,P0,p1,c2,P2⟩:=St.nth (α:=Int) q0 .hd A0 p2
 obtain ⟨Z0,I2,M0⟩:=Cb (α:=Int) q0 .hd P0
 obtain rfl:X0 = ⟨Z0,0,none⟩:=by rw [M0] at D0; cases D0; rfl
 have J1:p1 = [vI v2]:=c2; subst J1
 refine Ab (BE 1 (d0 + a1.length) I D0 I I P0)<|bk h fun y2 s2 h=>RG.acts' .plain (Acts.set (α:=Int) (i:=d0 + a1.length) s2 q0 M0 (fun _=>.hd) A0 I I I I I I) fun X2 ⟨q1,x1,A1,D1⟩=>Aa<|AI<|Av<|Ae I<|Ab (Bu (i:=d0) (j:=1) I I (by omega))<|Ag I<|Aa<|s1 (d0 + 1,y2,q1) x1 (Tt y1 (Tt I0 A1)) D1 h
 refine Bj I ?_
 have h:=K1 _ h
 try dsimp only at h
 refine Ac<|Ae I ?_
 have C0:=BI z0 .hd
 have K2:=BJ z0 .hd
 refine bk h fun Z2 t2 h=>jE (bd 174) I (e1 I) (fun w9 hw9=>aA_c n (C0.hL hL hw9) (Ar (BK (α:=Int) (v:=(.slice (some ⟨x0,0,none⟩) ((a0.length + a1.length:Nat):Int).toNat ((a0.length + a1.length:Nat):Int).toNat)) (xs:=k0) C0 L (Bl (α:=Int) z0 .hd J0 hL)) hw9) t2) I fun Y2 u2 B1 ⟨U2,hu_,d2⟩=>?_
 subst hu_
 obtain ⟨H0,M2⟩:=C0.agr B1
 refine Ag I<|Aa<|Ao I<|Bi hb0 func179 I I ?_
 cases h
 exact ⟨H0.ag,fun w9 hw9=>⟨u2,I,H0.kd d2 hw9⟩⟩
def aE_p (n:Nat) (a0:Td) (a1:Td):Oa Td:=
  (ay_p n a0.fD a1.fD).bind fun b0=>(ae_p n (!(a0.fh == a1.fh)) b0).bind fun c0=>some c0
theorem aE_c (n:Nat) {L w} (hL:hl L w) (a0:Td) {v0_1:Vc} (h0_1:Rep.R w L [v0_1] a0.fD) (a1:Td) {v1_1:Vc} (h1_1:Rep.R w L [v1_1] a1.fD)  {r:Td} (h:aE_p n a0 a1 = some r) :
 Cl 141 #[.agg #[.bool a0.fh,v0_1],.agg #[.bool a1.fh,v1_1]] w (aj w fun w' u=>∃ v0_1:Vc,u = .agg #[.bool r.fh,v0_1]/\Rep.R w' L [v0_1] r.fD):=by
 unfold aE_p at h
 refine AK func141 I I I fun _ cs0 hb0=>Ac<|RG.bx (AD w) I I fun Q0 C0 s0 F0=>RG.bx s0 I I fun R0 D0 t0 G0=>RG.nl [.bool false,vN] t0 fun U0 E0 d0 H0=>Aa<|Aj<|du 11 fun b0 c0=>Rv 0 b0 I c0 (fun _=>AS 0 I)<|Rx 1 3088 b0 I c0 (AN I ((d0.memA .t2) 0 _ I))<|Rv 2 b0 I c0 (fun _=>AS 0 I)<|Rx 3 3088 b0 I c0 (AN I ((d0.memA .t1) 0 _ I))<|Rv 4 b0 I c0 (fun _=>FV.neqB (a:=a0.fh) (b:=a1.fh) underlying4 I I)<|Rv 5 b0 I c0 (fun _=>AS 1 I)<|Rx 6 3584 b0 I c0 (AN I ((d0.memA .t2) 1 _ I))<|Rv 7 b0 I c0 (fun _=>AS 1 I)<|Rx 8 3584 b0 I c0 (AN I ((d0.memA .t1) 1 _ I))<|bk h fun Y0 A0 h=>Bp 9 1023 b0 I .plain (bd 179) I (e2 I I) (fun w9 hw9=>ay_c n (d0.hL hL hw9) (d0.km h0_1 hw9) (d0.km h1_1 hw9) A0) I fun V0 M0 x0 ⟨K0,hu_,z0⟩=>?_
 subst hu_
 obtain ⟨k0,I0⟩:=d0.agr x0
 refine bk h fun q0 B0 h=>Bp 10 2047 b0 I .plain (bd 172) I (e2 I I) (fun w9 hw9=>ae_c n (k0.hL hL hw9) (Ar z0 hw9) B0) I fun W0 P0 y0 ⟨j0,hu_,p0⟩=>?_
 subst hu_
 obtain ⟨u0,J0⟩:=k0.agr y0
 refine Bv 11 4095 b0 I I .plain (Ax (news:=[.bool q0.fh,j0]) u0 .hd I I I I I I (o2 I (AX p0))) fun X0 g0 v0=>AO (dk b0)<|Ao I<|Au hb0 func141 I (.cons (.many (cs:=[.bool q0.fh,j0]) I I (g0.memA .hd)) .nil) I ?_
 cases h
 exact ⟨g0.ag,fun w9 hw9=>⟨j0,I,g0.kd (Ap p0 v0) hw9⟩⟩
def bJ_p (n:Nat) (a0:Tf) (a1:Tf):Oa Tf:=
  (aE_p n a0.fN a1.fD).bind fun b0=>(aE_p n a1.fN a0.fD).bind fun c0=>(bc_p n b0 c0).bind fun d0=>(aE_p n a0.fD a1.fD).bind fun g0=>(aR_p n d0 g0).bind fun j0=>some j0
theorem bJ_c (n:Nat) {L w} (hL:hl L w) (a0:Tf) {v0_1:Vc} (h0_1:Rep.R w L [v0_1] a0.fN.fD) {v0_3:Vc} (h0_3:Rep.R w L [v0_3] a0.fD.fD) (a1:Tf) {v1_1:Vc} (h1_1:Rep.R w L [v1_1] a1.fN.fD) {v1_3:Vc} (h1_3:Rep.R w L [v1_3] a1.fD.fD)  {r:Tf} (h:bJ_p n a0 a1 = some r) :
 Cl 135 #[.agg #[.bool a0.fN.fh,v0_1,.bool a0.fD.fh,v0_3],.agg #[.bool a1.fN.fh,v1_1,.bool a1.fD.fh,v1_3]] w (aj w fun w' u=>∃ v0_1 v0_3:Vc,u = .agg #[.bool r.fN.fh,v0_1,.bool r.fD.fh,v0_3]/\Rep.R w' L [v0_1] r.fN.fD/\Rep.R w' L [v0_3] r.fD.fD):=by
 unfold bJ_p at h
 refine AK func135 I I I fun _ cs0 hb0=>Ac<|RG.bx (AD w) I I fun F1 c1 z0 j1=>RG.bx z0 I I fun G1 d1 A0 k1=>RG.nl [.bool false,vN,.bool false,vN] A0 fun H1 g1 d0 p1=>Aa<|Aj<|du 17 fun b0 c0=>Rv 0 b0 I c0 (fun _=>AS 0 I)<|Rx 1 230928 b0 I c0 (Aq (cs:=[.bool a0.fN.fh,v0_1]) I I (ac (d0.memA .t2) 0 2))<|Rv 2 b0 I c0 (fun _=>AS 2 I)<|Rx 3 230928 b0 I c0 (Aq (cs:=[.bool a1.fD.fh,v1_3]) I I (ac (d0.memA .t1) 2 2))<|Rv 5 b0 I c0 (fun _=>AS 0 I)<|Rx 6 230912 b0 I c0 (Aq (cs:=[.bool a1.fN.fh,v1_1]) I I (ac (d0.memA .t1) 0 2))<|Rv 7 b0 I c0 (fun _=>AS 2 I)<|Rx 8 230912 b0 I c0 (Aq (cs:=[.bool a0.fD.fh,v0_3]) I I (ac (d0.memA .t2) 2 2))<|Rv 11 b0 I c0 (fun _=>AS 2 I)<|Rx 12 229376 b0 I c0 (Aq (cs:=[.bool a0.fD.fh,v0_3]) I I (ac (d0.memA .t2) 2 2))<|Rv 13 b0 I c0 (fun _=>AS 2 I)<|Rx 14 229376 b0 I c0 (Aq (cs:=[.bool a1.fD.fh,v1_3]) I I (ac (d0.memA .t1) 2 2))<|bk h fun X0 Q0 h=>Bp 4 31231 b0 I .plain (bd 141) I (e2 I I) (fun w9 hw9=>aE_c n (d0.hL hL hw9) a0.fN (d0.km h0_1 hw9) a1.fD (d0.km h1_3 hw9) Q0) I fun I1 A1 E0 ⟨v1,hu_,J0⟩=>?_
 subst hu_
 obtain ⟨g0,q1⟩:=d0.agr E0
 refine bk h fun Y0 R0 h=>Bp 9 31743 b0 I .plain (bd 141) I (e2 I I) (fun w9 hw9=>aE_c n (g0.hL hL hw9) a1.fN (g0.km h1_1 hw9) a0.fD (g0.km h0_3 hw9) R0) I fun J1 B1 F0 ⟨x1,hu_,K0⟩=>?_
 subst hu_
 obtain ⟨t0,C0⟩:=g0.agr F0
 refine bk h fun Z0 U0 h=>Bp 10 32767 b0 I .plain (bd 170) I (e2 I I) (fun w9 hw9=>bc_c n (t0.hL hL hw9) X0 (Ar (Ap J0 C0) hw9) Y0 (Ar K0 hw9) U0) I fun K1 C1 G0 ⟨y1,hu_,M0⟩=>?_
 subst hu_
 obtain ⟨j0,s1⟩:=t0.agr G0
 refine bk h fun b1 V0 h=>Bp 15 65535 b0 I .plain (bd 141) I (e2 I I) (fun w9 hw9=>aE_c n (j0.hL hL hw9) a0.fD (j0.km h0_3 hw9) a1.fD (j0.km h1_3 hw9) V0) I fun M1 D1 H0 ⟨z1,hu_,P0⟩=>?_
 subst hu_
 obtain ⟨u0,D0⟩:=j0.agr H0
 refine bk h fun p0 W0 h=>Bp 16 131071 b0 I .plain (bd 140) I (e2 I I) (fun w9 hw9=>aR_c n (u0.hL hL hw9) Z0 (Ar (Ap M0 D0) hw9) b1 (Ar P0 hw9) W0) I fun P1 E1 I0 ⟨q0,s0,hu_,x0,y0⟩=>?_
 subst hu_
 obtain ⟨B0,u1⟩:=u0.agr I0
 refine Bv 17 262143 b0 I I .plain (Ax (news:=[.bool p0.fN.fh,q0,.bool p0.fD.fh,s0]) B0 .hd I I I I I I (o4 I (AX x0) I (AX y0))) fun Q1 k0 v0=>AO (dk b0)<|Ao I<|Au hb0 func135 I (.cons (.many (cs:=[.bool p0.fN.fh,q0,.bool p0.fD.fh,s0]) I I (k0.memA .hd)) .nil) I ?_
 cases h
 exact ⟨k0.ag,fun w9 hw9=>⟨q0,s0,I,k0.kd (Ap x0 v0) hw9,k0.kd (Ap y0 v0) hw9⟩⟩
def cH_p (n:Nat) (a0:Tf):Oa Tf:=
  (bB_p n a0.fN).bind fun b0=>some (⟨b0,a0.fD⟩:Tf)
theorem cH_c (n:Nat) {L w} (hL:hl L w) (a0:Tf) {v0_1:Vc} (h0_1:Rep.R w L [v0_1] a0.fN.fD) {v0_3:Vc} (h0_3:Rep.R w L [v0_3] a0.fD.fD)  {r:Tf} (h:cH_p n a0 = some r) :
 Cl 142 #[.agg #[.bool a0.fN.fh,v0_1,.bool a0.fD.fh,v0_3]] w (aj w fun w' u=>∃ v0_1 v0_3:Vc,u = .agg #[.bool r.fN.fh,v0_1,.bool r.fD.fh,v0_3]/\Rep.R w' L [v0_1] r.fN.fD/\Rep.R w' L [v0_3] r.fD.fD):=by
 unfold cH_p at h
 refine AK func142 I I I fun _ cs0 hb0=>Ac<|RG.bx (AD w) I I fun M0 D0 u0 H0=>RG.nl [.bool false,vN,.bool false,vN] u0 fun P0 E0 c0 I0=>Aa<|Aj<|du 6 fun b0 d0=>Rv 0 b0 I d0 (fun _=>AS 0 I)<|Rx 1 100 b0 I d0 (Aq (cs:=[.bool a0.fN.fh,v0_1]) I I (ac (c0.memA .t1) 0 2))<|Rv 3 b0 I d0 (fun _=>AS 2 I)<|Rx 4 96 b0 I d0 (Aq (cs:=[.bool a0.fD.fh,v0_3]) I I (ac (c0.memA .t1) 2 2))<|bk h fun p0 A0 h=>Bp 2 31 b0 I .plain (bd 177) I (e1 I) (fun w9 hw9=>bB_c n (c0.hL hL hw9) a0.fN (c0.km h0_1 hw9) A0) I fun Q0 K0 x0 ⟨g0,hu_,q0⟩=>?_
 subst hu_
 obtain ⟨s0,J0⟩:=c0.agr x0
 obtain ⟨B0,F0,y0,_⟩:=Rep.sl q0
 have t0:=Bb h0_3 s0
 obtain ⟨C0,G0,z0,_⟩:=Rep.sl t0
 refine Rv 5 b0 I d0 (fun _=>AP (vs:=[.agg #[.bool p0.fh,g0],.agg #[.bool a0.fD.fh,v0_3]]) (u:=.agg #[.bool p0.fh,g0,.bool a0.fD.fh,v0_3]) (e2 I I) (fun w9=>by rw [y0,z0]; try kernel_rfl))<|Bv 6 127 b0 I I .plain (Ax (news:=[.bool p0.fh,g0,.bool a0.fD.fh,v0_3]) s0 .hd I I I I I I (o4 I (AX q0) I (AX t0))) fun R0 j0 v0=>AO (dk b0)<|Ao I<|Au hb0 func142 I (.cons (.many (cs:=[.bool p0.fh,g0,.bool a0.fD.fh,v0_3]) I I (j0.memA .hd)) .nil) I ?_
 cases h
 exact ⟨j0.ag,fun w9 hw9=>⟨g0,v0_3,I,j0.kd (Ap q0 v0) hw9,j0.k0 h0_3 hw9⟩⟩
def cD_p (n:Nat) (a0:Tf) (a1:Tf):Oa Tf:=
  (cH_p n a1).bind fun b0=>(bJ_p n a0 b0).bind fun c0=>some c0
theorem cD_c (n:Nat) {L w} (hL:hl L w) (a0:Tf) {v0_1:Vc} (h0_1:Rep.R w L [v0_1] a0.fN.fD) {v0_3:Vc} (h0_3:Rep.R w L [v0_3] a0.fD.fD) (a1:Tf) {v1_1:Vc} (h1_1:Rep.R w L [v1_1] a1.fN.fD) {v1_3:Vc} (h1_3:Rep.R w L [v1_3] a1.fD.fD)  {r:Tf} (h:cD_p n a0 a1 = some r) :
 Cl 111 #[.agg #[.bool a0.fN.fh,v0_1,.bool a0.fD.fh,v0_3],.agg #[.bool a1.fN.fh,v1_1,.bool a1.fD.fh,v1_3]] w (aj w fun w' u=>∃ v0_1 v0_3:Vc,u = .agg #[.bool r.fN.fh,v0_1,.bool r.fD.fh,v0_3]/\Rep.R w' L [v0_1] r.fN.fD/\Rep.R w' L [v0_3] r.fD.fD):=by
 unfold cD_p at h
 refine AK func111 I I I fun _ cs0 hb0=>Ac<|RG.bx (AD w) I I fun X0 G0 v0 J0=>RG.bx v0 I I fun Y0 H0 x0 K0=>RG.nl [.bool false,vN,.bool false,vN] x0 fun Z0 I0 b0 M0=>Aa<|Aj<|du 4 fun c0 u0=>Rx 0 24 c0 I u0 (AC I (b0.memA .t2))<|Rx 1 28 c0 I u0 (AC I (b0.memA .t1))<|bk h fun F0 D0 h=>Bp 2 7 c0 I .plain (bd 142) I (e1 I) (fun w9 hw9=>cH_c n (b0.hL hL hw9) a1 (b0.km h1_1 hw9) (b0.km h1_3 hw9) D0) I fun b1 V0 z0 ⟨R0,U0,hu_,B0,C0⟩=>?_
 subst hu_
 obtain ⟨d0,P0⟩:=b0.agr z0
 refine bk h fun j0 E0 h=>Bp 3 15 c0 I .plain (bd 135) I (e2 I I) (fun w9 hw9=>bJ_c n (d0.hL hL hw9) a0 (d0.km h0_1 hw9) (d0.km h0_3 hw9) F0 (Ar B0 hw9) (Ar C0 hw9) E0) I fun c1 W0 A0 ⟨k0,p0,hu_,s0,t0⟩=>?_
 subst hu_
 obtain ⟨y0,Q0⟩:=d0.agr A0
 refine Bv 4 31 c0 I I .plain (Ax (news:=[.bool j0.fN.fh,k0,.bool j0.fD.fh,p0]) y0 .hd I I I I I I (o4 I (AX s0) I (AX t0))) fun d1 g0 q0=>AO (dk c0)<|Ao I<|Au hb0 func111 I (.cons (.many (cs:=[.bool j0.fN.fh,k0,.bool j0.fD.fh,p0]) I I (g0.memA .hd)) .nil) I ?_
 cases h
 exact ⟨g0.ag,fun w9 hw9=>⟨k0,p0,I,g0.kd (Ap s0 q0) hw9,g0.kd (Ap t0 q0) hw9⟩⟩
def cx_p (n:Nat) (a0:Ta) (a1:Ta):Oa (Ta × Int):=
  (au_p n a0).bind fun c0=>(if c0 = true then (au_p n a1).bind fun d0=>(if d0 = true then (aI_p n a0).bind fun g0=>(aI_p n a1).bind fun j0=>(cD_p n g0 j0).bind fun k0=>(aZ_p n k0).bind fun b0=>some (b0.1,b0.2) else some ((⟨(0,0,0,0,0,0,0,0),(0,0,0,0,0,0,0,0)⟩:Ta),(20:Int))) else some ((⟨(0,0,0,0,0,0,0,0),(0,0,0,0,0,0,0,0)⟩:Ta),(20:Int)))
theorem cx_c (n:Nat) {L w} (hL:hl L w) (a0:Ta) (a1:Ta)  {r:Ta × Int} (h:cx_p n a0 a1 = some r) :
 Cl 73 #[.agg ((aa a0)).toArray,.agg ((aa a1)).toArray] w (aj w fun _ u=>u = .tuple #[.agg ((aa r.1)).toArray,vI r.2]):=by
 unfold cx_p at h
 refine AK func73 I I I fun _ cs0 hb0=>Ac<|RG.bx (AD w) I I fun F1 Z0 y0 d1=>RG.bx y0 I I fun G1 b1 z0 g1=>RG.nl ae z0 fun H1 c1 c0 j1=>Ag I<|Aa<|Aj<|Ac<|Ab (AC I (c0.memA .t2))<|bk h fun U0 J0 h=>Bm (.bool U0) (bd 106) I (e1 I) (fun w9 hw9=>au_c n (c0.hL0 hL hw9) a0 J0) I<|Ab (Bz I)<|Ae I<|RG.ifnb (s:=9) I h (fun v0 h=>?_) (fun v0 h=>?_)
 refine AH (AC I (c0.memA .t1))<|bk h fun V0 K0 h=>RG.callq' (v:=.bool V0) (fst:=[]) (cap:=[]) (.yes I I) (bd 106) I (e1 I) (fun w9 hw9=>au_c n (c0.hL0 hL hw9) a1 K0) I<|AH (Bz I)<|By I I<|Aa<|MX.ifnb I h (fun x0 h=>?_) (fun x0 h=>?_)
 refine Az<|Aj<|du 8 fun b0 d0=>Rx 0 1018 b0 I d0 (AC I (c0.memA .t2))<|Rx 2 1016 b0 I d0 (AC I (c0.memA .t1))<|bk h fun W0 M0 h=>Bp 1 7 b0 I .plain (bd 107) I (e1 I) (fun w9 hw9=>aI_c n (c0.hL hL hw9) a0 M0) I fun w32 C1 A0 ⟨v1,x1,hu_,D0,E0⟩=>?_
 subst hu_
 obtain ⟨k0,k1⟩:=c0.agr A0
 refine bk h fun X0 P0 h=>Bp 3 15 b0 I .plain (bd 107) I (e1 I) (fun w9 hw9=>aI_c n (k0.hL hL hw9) a1 P0) I fun I1 D1 B0 ⟨y1,z1,hu_,F0,G0⟩=>?_
 subst hu_
 obtain ⟨p0,u0⟩:=k0.agr B0
 refine bk h fun Y0 Q0 h=>Bp 4 31 b0 I .plain (bd 111) I (e2 I I) (fun w9 hw9=>cD_c n (p0.hL hL hw9) W0 (Ar (Ap D0 u0) hw9) (Ar (Ap E0 u0) hw9) X0 (Ar F0 hw9) (Ar G0 hw9) Q0) I fun J1 E1 C0 ⟨A1,B1,hu_,H0,I0⟩=>?_
 subst hu_
 obtain ⟨g0,p1⟩:=p0.agr C0
 refine bk h fun j0 R0 h=>BQ 5 63 960 (.tuple #[.agg ((aa j0.1)).toArray,vI j0.2]) b0 I d0 (bd 109) I (e1 I) (fun w9 hw9=>aZ_c n (g0.hL0 hL hw9) Y0 (g0.kd H0 hw9) (g0.kd I0 hw9) R0) I<|Rv 6 b0 I d0 (fun _=>Ai I I)<|Rv 7 b0 I d0 (fun _=>Ai I I)<|Bv 8 511 b0 I I .plain (Ax (news:=(aa j0.1)) g0 .hd I I I I I I (ai I)) fun K1 q0 q1=>Rv 9 b0 I d0 (fun _=>Bn I)<|AO (dk b0)<|Ao I<|Au hb0 func73 I (.cons (.many (cs:=(aa j0.1)) I I (q0.memA .hd)) (.cons (.tmp I) .nil)) I ?_
 cases h
 exact q0.gv
 refine Ac<|Ab (AP (vs:=[]) (u:=.agg zM) ak (fun w9=>by kernel_rfl))<|AW ae c0 .hd (ai I) fun M1 s0 s1=>Ag I<|Aa<|Ao I<|Au hb0 func73 I (.cons (.many (cs:=ae) I I (s0.memA .hd)) (.cons (.tmp I) .nil)) I ?_
 cases h
 exact s0.gv
 refine Aw<|Aw<|Aw<|Bq I I<|Aa<|Bg I<|Ac<|Ab (AP (vs:=[]) (u:=.agg zM) ak (fun w9=>by kernel_rfl))<|AW ae c0 .hd (ai I) fun P1 t0 u1=>Ag I<|Aa<|Ao I<|Au hb0 func73 I (.cons (.many (cs:=ae) I I (t0.memA .hd)) (.cons (.tmp I) .nil)) I ?_
 cases h
 exact t0.gv
def ab_p (n:Nat) (a0:Ti) (a1:Ta) (a2:Ta):Oa (Ti × Ta):=
  (cx_p n a1 a2).bind fun b0=>(ax_p n a0 b0.1 b0.2).bind fun c0=>some (c0.1,c0.2)
theorem ab_c (n:Nat) (L:La Nat) {w0 w:World} {T9:La Ob} (hL:∀ b ∈ L,b < w0.heap.size) {p0:Nat} (a0:Ti) (hS0:St w0 w (.cells p0 [vI a0.fe] 85 :: T9)) (a1:Ta) (a2:Ta) {r:Ti × Ta} (h:ab_p n a0 a1 a2 = some r) :
 Cl 33 #[.pointer (some ⟨p0,0,none⟩),.agg ((aa a1)).toArray,.agg ((aa a2)).toArray] w (ee w0 w (.cells p0 [vI a0.fe] 85 :: T9) (.cells p0 [vI r.1.fe] 85 :: T9) (fun _ u=>u = .agg ((aa r.2)).toArray)):=by
 unfold ab_p at h
 refine MX.startL func33 I I I fun _ cs0 hb0=>Ac<|RG.bx hS0 I I fun K0 j0 u0 A0=>RG.bx u0 I I fun M0 k0 v0 B0=>RG.nl ae v0 fun s0 q0 b0 C0=>Aa<|Ac<|Ae I<|Ab (AC I (b0.memA .t2))<|Ab (AC I (b0.memA .t1))<|bk h fun g0 H0 h=>Bm (.tuple #[.agg ((aa g0.1)).toArray,vI g0.2]) (bd 73) I (e2 I I) (fun w9 hw9=>cx_c n (b0.hL0 hL hw9) a1 a2 H0) I<|Ab (Ai I I)<|Ab (Ai I I)<|bk h fun c0 I0 h=>?_
 have x0:St _ _ (.cells p0 [vI a0.fe] 85 :: .cells q0 ae 46 :: .cells k0 (aa a2) 46 :: .cells j0 (aa a1) 46 :: T9):=b0.arr2 (.one .t3 (.one .hd (.one .hd (.one .hd .rest))))
 have D0:Tr s0 _ s0 (.cells p0 [vI a0.fe] 85 :: .cells q0 ae 46 :: .cells k0 (aa a2) 46 :: .cells j0 (aa a1) 46 :: T9):=BN (Bx b0 (.one .t3 (.one .hd (.one .hd (.one .hd .rest)))))
 refine RG.callL (fst:=[]) (cap:=[]) .plain (bd 71) I (e3 I I I) (fun w9 hw9=>ax_c n _ hL a0 (x0.agree hw9) g0.1 I0) I fun P0 J0 y0 E0 hu_=>?_
 subst hu_
 refine AW (aa c0.2) y0 .t1 (ai I) fun t0 d0 F0=>Aa<|Ao I<|Au hb0 func33 I (.cons (.many (cs:=(aa c0.2)) I I (d0.memA .t1)) .nil) I ?_
 have z0:St _ _ (.cells p0 [vI c0.1.fe] 85 :: T9):=d0.arr2 (.one .hd (.drop .hd (.drop .hd (.drop .hd .rest))))
 have G0:Tr t0 _ t0 (.cells p0 [vI c0.1.fe] 85 :: T9):=BN (Bx d0 (.one .hd (.drop .hd (.drop .hd (.drop .hd .rest)))))
 cases h
 exact ⟨z0,(Tt A0 (Tt B0 (Tt C0 (Tt D0 (Tt E0 (Tt F0 G0)))))),fun w9 hw9=>rfl⟩
def ci_p (n:Nat) (a0:Tf) (a1:Tf):Oa Tf:=
  (aE_p n a0.fN a1.fN).bind fun b0=>(aE_p n a0.fD a1.fD).bind fun c0=>(aR_p n b0 c0).bind fun d0=>some d0
theorem ci_c (n:Nat) {L w} (hL:hl L w) (a0:Tf) {v0_1:Vc} (h0_1:Rep.R w L [v0_1] a0.fN.fD) {v0_3:Vc} (h0_3:Rep.R w L [v0_3] a0.fD.fD) (a1:Tf) {v1_1:Vc} (h1_1:Rep.R w L [v1_1] a1.fN.fD) {v1_3:Vc} (h1_3:Rep.R w L [v1_3] a1.fD.fD)  {r:Tf} (h:ci_p n a0 a1 = some r) :
 Cl 112 #[.agg #[.bool a0.fN.fh,v0_1,.bool a0.fD.fh,v0_3],.agg #[.bool a1.fN.fh,v1_1,.bool a1.fD.fh,v1_3]] w (aj w fun w' u=>∃ v0_1 v0_3:Vc,u = .agg #[.bool r.fN.fh,v0_1,.bool r.fD.fh,v0_3]/\Rep.R w' L [v0_1] r.fN.fD/\Rep.R w' L [v0_3] r.fD.fD):=by
 unfold ci_p at h
 refine AK func112 I I I fun _ cs0 hb0=>Ac<|RG.bx (AD w) I I fun g1 M0 x0 R0=>RG.bx x0 I I fun j1 P0 y0 U0=>RG.nl [.bool false,vN,.bool false,vN] y0 fun k1 Q0 c0 V0=>Aa<|Aj<|du 11 fun b0 d0=>Rv 0 b0 I d0 (fun _=>AS 0 I)<|Rx 1 3600 b0 I d0 (Aq (cs:=[.bool a0.fN.fh,v0_1]) I I (ac (c0.memA .t2) 0 2))<|Rv 2 b0 I d0 (fun _=>AS 0 I)<|Rx 3 3600 b0 I d0 (Aq (cs:=[.bool a1.fN.fh,v1_1]) I I (ac (c0.memA .t1) 0 2))<|Rv 5 b0 I d0 (fun _=>AS 2 I)<|Rx 6 3584 b0 I d0 (Aq (cs:=[.bool a0.fD.fh,v0_3]) I I (ac (c0.memA .t2) 2 2))<|Rv 7 b0 I d0 (fun _=>AS 2 I)<|Rx 8 3584 b0 I d0 (Aq (cs:=[.bool a1.fD.fh,v1_3]) I I (ac (c0.memA .t1) 2 2))<|bk h fun J0 G0 h=>Bp 4 511 b0 I .plain (bd 141) I (e2 I I) (fun w9 hw9=>aE_c n (c0.hL hL hw9) a0.fN (c0.km h0_1 hw9) a1.fN (c0.km h1_1 hw9) G0) I fun p1 b1 B0 ⟨Y0,hu_,E0⟩=>?_
 subst hu_
 obtain ⟨g0,W0⟩:=c0.agr B0
 refine bk h fun K0 H0 h=>Bp 9 1023 b0 I .plain (bd 141) I (e2 I I) (fun w9 hw9=>aE_c n (g0.hL hL hw9) a0.fD (g0.km h0_3 hw9) a1.fD (g0.km h1_3 hw9) H0) I fun q1 c1 C0 ⟨Z0,hu_,F0⟩=>?_
 subst hu_
 obtain ⟨s0,A0⟩:=g0.agr C0
 refine bk h fun k0 I0 h=>Bp 10 2047 b0 I .plain (bd 140) I (e2 I I) (fun w9 hw9=>aR_c n (s0.hL hL hw9) J0 (Ar (Ap E0 A0) hw9) K0 (Ar F0 hw9) I0) I fun s1 d1 D0 ⟨p0,q0,hu_,u0,v0⟩=>?_
 subst hu_
 obtain ⟨z0,X0⟩:=s0.agr D0
 refine Bv 11 4095 b0 I I .plain (Ax (news:=[.bool k0.fN.fh,p0,.bool k0.fD.fh,q0]) z0 .hd I I I I I I (o4 I (AX u0) I (AX v0))) fun u1 j0 t0=>AO (dk b0)<|Ao I<|Au hb0 func112 I (.cons (.many (cs:=[.bool k0.fN.fh,p0,.bool k0.fD.fh,q0]) I I (j0.memA .hd)) .nil) I ?_
 cases h
 exact ⟨j0.ag,fun w9 hw9=>⟨p0,q0,I,j0.kd (Ap u0 t0) hw9,j0.kd (Ap v0 t0) hw9⟩⟩
def cy_p (n:Nat) (a0:Ta) (a1:Ta):Oa (Ta × Int):=
  (au_p n a0).bind fun c0=>(if c0 = true then (au_p n a1).bind fun d0=>(if d0 = true then (aI_p n a0).bind fun g0=>(aI_p n a1).bind fun j0=>(ci_p n g0 j0).bind fun k0=>(aZ_p n k0).bind fun b0=>some (b0.1,b0.2) else some ((⟨(0,0,0,0,0,0,0,0),(0,0,0,0,0,0,0,0)⟩:Ta),(20:Int))) else some ((⟨(0,0,0,0,0,0,0,0),(0,0,0,0,0,0,0,0)⟩:Ta),(20:Int)))
theorem cy_c (n:Nat) {L w} (hL:hl L w) (a0:Ta) (a1:Ta)  {r:Ta × Int} (h:cy_p n a0 a1 = some r) :
 Cl 74 #[.agg ((aa a0)).toArray,.agg ((aa a1)).toArray] w (aj w fun _ u=>u = .tuple #[.agg ((aa r.1)).toArray,vI r.2]):=by
 unfold cy_p at h
 refine AK func74 I I I fun _ cs0 hb0=>Ac<|RG.bx (AD w) I I fun F1 Z0 y0 d1=>RG.bx y0 I I fun G1 b1 z0 g1=>RG.nl ae z0 fun H1 c1 c0 j1=>Ag I<|Aa<|Aj<|Ac<|Ab (AC I (c0.memA .t2))<|bk h fun U0 J0 h=>Bm (.bool U0) (bd 106) I (e1 I) (fun w9 hw9=>au_c n (c0.hL0 hL hw9) a0 J0) I<|Ab (Bz I)<|Ae I<|RG.ifnb (s:=9) I h (fun v0 h=>?_) (fun v0 h=>?_)
 refine AH (AC I (c0.memA .t1))<|bk h fun V0 K0 h=>RG.callq' (v:=.bool V0) (fst:=[]) (cap:=[]) (.yes I I) (bd 106) I (e1 I) (fun w9 hw9=>au_c n (c0.hL0 hL hw9) a1 K0) I<|AH (Bz I)<|By I I<|Aa<|MX.ifnb I h (fun x0 h=>?_) (fun x0 h=>?_)
 refine Az<|Aj<|du 8 fun b0 d0=>Rx 0 1018 b0 I d0 (AC I (c0.memA .t2))<|Rx 2 1016 b0 I d0 (AC I (c0.memA .t1))<|bk h fun W0 M0 h=>Bp 1 7 b0 I .plain (bd 107) I (e1 I) (fun w9 hw9=>aI_c n (c0.hL hL hw9) a0 M0) I fun w32 C1 A0 ⟨v1,x1,hu_,D0,E0⟩=>?_
 subst hu_
 obtain ⟨k0,k1⟩:=c0.agr A0
 refine bk h fun X0 P0 h=>Bp 3 15 b0 I .plain (bd 107) I (e1 I) (fun w9 hw9=>aI_c n (k0.hL hL hw9) a1 P0) I fun I1 D1 B0 ⟨y1,z1,hu_,F0,G0⟩=>?_
 subst hu_
 obtain ⟨p0,u0⟩:=k0.agr B0
 refine bk h fun Y0 Q0 h=>Bp 4 31 b0 I .plain (bd 112) I (e2 I I) (fun w9 hw9=>ci_c n (p0.hL hL hw9) W0 (Ar (Ap D0 u0) hw9) (Ar (Ap E0 u0) hw9) X0 (Ar F0 hw9) (Ar G0 hw9) Q0) I fun J1 E1 C0 ⟨A1,B1,hu_,H0,I0⟩=>?_
 subst hu_
 obtain ⟨g0,p1⟩:=p0.agr C0
 refine bk h fun j0 R0 h=>BQ 5 63 960 (.tuple #[.agg ((aa j0.1)).toArray,vI j0.2]) b0 I d0 (bd 109) I (e1 I) (fun w9 hw9=>aZ_c n (g0.hL0 hL hw9) Y0 (g0.kd H0 hw9) (g0.kd I0 hw9) R0) I<|Rv 6 b0 I d0 (fun _=>Ai I I)<|Rv 7 b0 I d0 (fun _=>Ai I I)<|Bv 8 511 b0 I I .plain (Ax (news:=(aa j0.1)) g0 .hd I I I I I I (ai I)) fun K1 q0 q1=>Rv 9 b0 I d0 (fun _=>Bn I)<|AO (dk b0)<|Ao I<|Au hb0 func74 I (.cons (.many (cs:=(aa j0.1)) I I (q0.memA .hd)) (.cons (.tmp I) .nil)) I ?_
 cases h
 exact q0.gv
 refine Ac<|Ab (AP (vs:=[]) (u:=.agg zM) ak (fun w9=>by kernel_rfl))<|AW ae c0 .hd (ai I) fun M1 s0 s1=>Ag I<|Aa<|Ao I<|Au hb0 func74 I (.cons (.many (cs:=ae) I I (s0.memA .hd)) (.cons (.tmp I) .nil)) I ?_
 cases h
 exact s0.gv
 refine Aw<|Aw<|Aw<|Bq I I<|Aa<|Bg I<|Ac<|Ab (AP (vs:=[]) (u:=.agg zM) ak (fun w9=>by kernel_rfl))<|AW ae c0 .hd (ai I) fun P1 t0 u1=>Ag I<|Aa<|Ao I<|Au hb0 func74 I (.cons (.many (cs:=ae) I I (t0.memA .hd)) (.cons (.tmp I) .nil)) I ?_
 cases h
 exact t0.gv
def aa_p (n:Nat) (a0:Ti) (a1:Ta) (a2:Ta):Oa (Ti × Ta):=
  (cy_p n a1 a2).bind fun b0=>(ax_p n a0 b0.1 b0.2).bind fun c0=>some (c0.1,c0.2)
theorem aa_c (n:Nat) (L:La Nat) {w0 w:World} {T9:La Ob} (hL:∀ b ∈ L,b < w0.heap.size) {p0:Nat} (a0:Ti) (hS0:St w0 w (.cells p0 [vI a0.fe] 85 :: T9)) (a1:Ta) (a2:Ta) {r:Ti × Ta} (h:aa_p n a0 a1 a2 = some r) :
 Cl 34 #[.pointer (some ⟨p0,0,none⟩),.agg ((aa a1)).toArray,.agg ((aa a2)).toArray] w (ee w0 w (.cells p0 [vI a0.fe] 85 :: T9) (.cells p0 [vI r.1.fe] 85 :: T9) (fun _ u=>u = .agg ((aa r.2)).toArray)):=by
 unfold aa_p at h
 refine MX.startL func34 I I I fun _ cs0 hb0=>Ac<|RG.bx hS0 I I fun K0 j0 u0 A0=>RG.bx u0 I I fun M0 k0 v0 B0=>RG.nl ae v0 fun s0 q0 b0 C0=>Aa<|Ac<|Ae I<|Ab (AC I (b0.memA .t2))<|Ab (AC I (b0.memA .t1))<|bk h fun g0 H0 h=>Bm (.tuple #[.agg ((aa g0.1)).toArray,vI g0.2]) (bd 74) I (e2 I I) (fun w9 hw9=>cy_c n (b0.hL0 hL hw9) a1 a2 H0) I<|Ab (Ai I I)<|Ab (Ai I I)<|bk h fun c0 I0 h=>?_
 have x0:St _ _ (.cells p0 [vI a0.fe] 85 :: .cells q0 ae 46 :: .cells k0 (aa a2) 46 :: .cells j0 (aa a1) 46 :: T9):=b0.arr2 (.one .t3 (.one .hd (.one .hd (.one .hd .rest))))
 have D0:Tr s0 _ s0 (.cells p0 [vI a0.fe] 85 :: .cells q0 ae 46 :: .cells k0 (aa a2) 46 :: .cells j0 (aa a1) 46 :: T9):=BN (Bx b0 (.one .t3 (.one .hd (.one .hd (.one .hd .rest)))))
 refine RG.callL (fst:=[]) (cap:=[]) .plain (bd 71) I (e3 I I I) (fun w9 hw9=>ax_c n _ hL a0 (x0.agree hw9) g0.1 I0) I fun P0 J0 y0 E0 hu_=>?_
 subst hu_
 refine AW (aa c0.2) y0 .t1 (ai I) fun t0 d0 F0=>Aa<|Ao I<|Au hb0 func34 I (.cons (.many (cs:=(aa c0.2)) I I (d0.memA .t1)) .nil) I ?_
 have z0:St _ _ (.cells p0 [vI c0.1.fe] 85 :: T9):=d0.arr2 (.one .hd (.drop .hd (.drop .hd (.drop .hd .rest))))
 have G0:Tr t0 _ t0 (.cells p0 [vI c0.1.fe] 85 :: T9):=BN (Bx d0 (.one .hd (.drop .hd (.drop .hd (.drop .hd .rest)))))
 cases h
 exact ⟨z0,(Tt A0 (Tt B0 (Tt C0 (Tt D0 (Tt E0 (Tt F0 G0)))))),fun w9 hw9=>rfl⟩
def bh_l1 (_n:Nat) (a0:Te) (c0:Nat -> Oa Nat):Nat -> Oa Nat
  | b0=>(if b0 < a0.fv.length then (a0.fv[b0]?).bind fun d0=>(if d0.fp = true then some b0 else c0 (b0 + 1)) else some b0)
def bh_p (n:Nat) (a0:Te):Oa Int:=
  jn (fun c0=>some ((c0:Nat):Int)) (fun b0=>Option.bind (au (bh_l1 n a0) n 0) (b0))
theorem bh_c (n:Nat) {L w} (_hL:hl L w) (a0:Te) {v0_3:Vc} (h0_3:Rep.R w L [v0_3] a0.fv)  {r:Int} (h:bh_p n a0 = some r) :
 Cl 134 #[.agg #[vI a0.fl,vI a0.fj,vI a0.fm,v0_3]] w (aj w fun _ u=>u = vI r):=by
 unfold bh_p at h
 refine AK func134 I I I fun _ cs0 hb0=>Ac<|RG.bx (AD w) I I fun d1 k0 q0 Q0=>Ag I<|Aa<|Ac<|Ag I<|Aa<|Aj<|AF<|MX.xo (α:=Nat) 0 (fun d0=>[(3,vn d0)]) (fun d0=>[]) (fun d0=>d0) q0 I h ?_ ?_
 rintro d0 j1 z0 R0 h
 try dsimp only at h
 refine Ac<|Ae I<|Ag I<|Aa<|Ao I<|Bi hb0 func134 I I ?_
 cases h
 exact z0.gv
 intro K0 p0 h
 try dsimp only at h
 obtain ⟨Y0,F0,s0⟩:=av h
 refine MX.lo (α:=Nat) (fun b0=>[(1,vP k0),(3,vn b0)]) (fun b0=>[.cells k0 [vI a0.fl,vI a0.fj,vI a0.fm,v0_3] 31]) (fun b0=>b0) 0 F0 q0 ?_
 rintro J0 b0 g1 v0 c0 g0 h
 unfold bh_l1 at h
 try dsimp only at h
 refine Aj<|Ac<|Ae I<|Ba 3 I<|AY I ((c0.memA .hd) 3 _ I) ?_
 have j0:=Bb h0_3 c0
 have U0:=Bh j0
 refine Ab (Bk (xs:=a0.fv) underlying29 I j0)<|Ab (BD (i:=b0) (j:=a0.fv.length) I I)<|Ae I<|BG (s:=9) I h (fun t0 h=>?_) (fun t0 h=>?_)
 refine RG.fg 3 I<|AH (AN I ((c0.memA .hd) 3 _ I))<|AH (Ak I)<|bk h fun k1 H0 h=>?_
 obtain ⟨I0,M0,C0,D0,P0,G0,E0⟩:=Bw j0 H0
 obtain ⟨Z0,b1,c1,rfl,V0,W0,X0⟩:=ba G0
 refine AH (BE 6 b0 I C0 I I D0)<|RG.fg 5 I<|AH (AN I (E0 5 _ I))<|AH (Bz I)<|Bq I I<|Aa<|MX.ifnb I h (fun u0 h=>?_) (fun u0 h=>?_)
 refine Bj I ?_
 have h:=s0 _ h
 try dsimp only at h
 obtain ⟨x0,A0⟩:=Am c0 .done
 exact p0 b0 x0 (Tt g0 A0) h
 refine Az<|AF<|Av<|Ae I<|Ab (Bu (i:=b0) (j:=1) I I (by omega))<|Ag I<|Aa<|AI<|v0 (b0 + 1) c0 g0 h
 refine Aw<|Aw<|Aw<|Aw<|Aw<|Aw<|Aw<|By I I<|Aa<|BP I<|Bj I ?_
 have h:=s0 _ h
 try dsimp only at h
 obtain ⟨y0,B0⟩:=Am c0 .done
 exact p0 b0 y0 (Tt g0 B0) h
def cI_p (n:Nat) (a0:Te):Oa (Int × Int):=
  (ap_p n a0).bind fun b0=>(if b0 = 0 then (bh_p n a0).bind fun c0=>some (c0,(0:Int)) else some ((0:Int),b0))
theorem cI_c (n:Nat) {L w} (hL:hl L w) (a0:Te) {v0_3:Vc} (h0_3:Rep.R w L [v0_3] a0.fv)  {r:Int × Int} (h:cI_p n a0 = some r) :
 Cl 104 #[.agg #[vI a0.fl,vI a0.fj,vI a0.fm,v0_3]] w (aj w fun _ u=>u = .tuple #[vI r.1,vI r.2]):=by
 unfold cI_p at h
 refine AK func104 I I I fun _ cs0 hb0=>Ac<|RG.bx (AD w) I I fun t0 q0 b0 s0=>Ag I<|Ag I<|Aa<|Aj<|Ac<|Ab (AC I (b0.memA .hd))<|bk h fun c0 g0 h=>Bm (vI c0) (bd 68) I (e1 I) (fun w9 hw9=>ap_c n (b0.hL0 hL hw9) a0 (b0.k0 h0_3 hw9) g0) I<|Ag I<|Aa<|Ac<|Ae I<|Ab (FV.neq (i:=c0) (j:=0) I I)<|Aa<|MX.ifn I h (fun d0 h=>?_) (fun d0 h=>?_)
 refine Az<|Ac<|Ab (AC I (b0.memA .hd))<|bk h fun p0 j0 h=>Bm (vI p0) (bd 134) I (e1 I) (fun w9 hw9=>bh_c n (b0.hL0 hL hw9) a0 (b0.k0 h0_3 hw9) j0) I<|Ag I<|Ag I<|Aa<|Ao I<|Au hb0 func104 I (.cons (.tmp I) (.cons (.tmp I) .nil)) I ?_
 cases h
 exact b0.gv
 refine Ac<|Ae I<|Ag I<|Ag I<|Aa<|Ao I<|Au hb0 func104 I (.cons (.tmp I) (.cons (.tmp I) .nil)) I ?_
 cases h
 exact b0.gv
def cn_p (n:Nat) (a0:Te):Oa Int:=
  (cI_p n a0).bind fun b0=>some b0.1
theorem cn_c (n:Nat) {L w} (hL:hl L w) (a0:Te) {v0_3:Vc} (h0_3:Rep.R w L [v0_3] a0.fv)  {r:Int} (h:cn_p n a0 = some r) :
 Cl 69 #[.agg #[vI a0.fl,vI a0.fj,vI a0.fm,v0_3]] w (aj w fun _ u=>u = vI r):=by
 unfold cn_p at h
 refine AK func69 I I I fun _ cs0 hb0=>Ac<|RG.bx (AD w) I I fun p0 g0 b0 j0=>Ag I<|Aa<|Ac<|Ab (AC I (b0.memA .hd))<|bk h fun c0 d0 h=>Bm (.tuple #[vI c0.1,vI c0.2]) (bd 104) I (e1 I) (fun w9 hw9=>cI_c n (b0.hL0 hL hw9) a0 (b0.k0 h0_3 hw9) d0) I<|Ae I<|Ab (Ai I I)<|Ab (Ai I I)<|Ag I<|Ag I<|Aa<|Ac<|Ae I<|Ag I<|Aa<|Ao I<|Bi hb0 func69 I I ?_
 cases h
 exact b0.gv
def cz_p (n:Nat) (a0:Ta) (a1:Ta):Oa (Ta × Int):=
  (au_p n a0).bind fun c0=>(if c0 = true then (au_p n a1).bind fun d0=>(if d0 = true then (aI_p n a0).bind fun g0=>(aI_p n a1).bind fun j0=>(bJ_p n g0 j0).bind fun k0=>(aZ_p n k0).bind fun b0=>some (b0.1,b0.2) else some ((⟨(0,0,0,0,0,0,0,0),(0,0,0,0,0,0,0,0)⟩:Ta),(20:Int))) else some ((⟨(0,0,0,0,0,0,0,0),(0,0,0,0,0,0,0,0)⟩:Ta),(20:Int)))
theorem cz_c (n:Nat) {L w} (hL:hl L w) (a0:Ta) (a1:Ta)  {r:Ta × Int} (h:cz_p n a0 a1 = some r) :
 Cl 105 #[.agg ((aa a0)).toArray,.agg ((aa a1)).toArray] w (aj w fun _ u=>u = .tuple #[.agg ((aa r.1)).toArray,vI r.2]):=by
 unfold cz_p at h
 refine AK func105 I I I fun _ cs0 hb0=>Ac<|RG.bx (AD w) I I fun F1 Z0 y0 d1=>RG.bx y0 I I fun G1 b1 z0 g1=>RG.nl ae z0 fun H1 c1 c0 j1=>Ag I<|Aa<|Aj<|Ac<|Ab (AC I (c0.memA .t2))<|bk h fun U0 J0 h=>Bm (.bool U0) (bd 106) I (e1 I) (fun w9 hw9=>au_c n (c0.hL0 hL hw9) a0 J0) I<|Ab (Bz I)<|Ae I<|RG.ifnb (s:=9) I h (fun v0 h=>?_) (fun v0 h=>?_)
 refine AH (AC I (c0.memA .t1))<|bk h fun V0 K0 h=>RG.callq' (v:=.bool V0) (fst:=[]) (cap:=[]) (.yes I I) (bd 106) I (e1 I) (fun w9 hw9=>au_c n (c0.hL0 hL hw9) a1 K0) I<|AH (Bz I)<|By I I<|Aa<|MX.ifnb I h (fun x0 h=>?_) (fun x0 h=>?_)
 refine Az<|Aj<|du 8 fun b0 d0=>Rx 0 1018 b0 I d0 (AC I (c0.memA .t2))<|Rx 2 1016 b0 I d0 (AC I (c0.memA .t1))<|bk h fun W0 M0 h=>Bp 1 7 b0 I .plain (bd 107) I (e1 I) (fun w9 hw9=>aI_c n (c0.hL hL hw9) a0 M0) I fun w32 C1 A0 ⟨v1,x1,hu_,D0,E0⟩=>?_
 subst hu_
 obtain ⟨k0,k1⟩:=c0.agr A0
 refine bk h fun X0 P0 h=>Bp 3 15 b0 I .plain (bd 107) I (e1 I) (fun w9 hw9=>aI_c n (k0.hL hL hw9) a1 P0) I fun I1 D1 B0 ⟨y1,z1,hu_,F0,G0⟩=>?_
 subst hu_
 obtain ⟨p0,u0⟩:=k0.agr B0
 refine bk h fun Y0 Q0 h=>Bp 4 31 b0 I .plain (bd 135) I (e2 I I) (fun w9 hw9=>bJ_c n (p0.hL hL hw9) W0 (Ar (Ap D0 u0) hw9) (Ar (Ap E0 u0) hw9) X0 (Ar F0 hw9) (Ar G0 hw9) Q0) I fun J1 E1 C0 ⟨A1,B1,hu_,H0,I0⟩=>?_
 subst hu_
 obtain ⟨g0,p1⟩:=p0.agr C0
 refine bk h fun j0 R0 h=>BQ 5 63 960 (.tuple #[.agg ((aa j0.1)).toArray,vI j0.2]) b0 I d0 (bd 109) I (e1 I) (fun w9 hw9=>aZ_c n (g0.hL0 hL hw9) Y0 (g0.kd H0 hw9) (g0.kd I0 hw9) R0) I<|Rv 6 b0 I d0 (fun _=>Ai I I)<|Rv 7 b0 I d0 (fun _=>Ai I I)<|Bv 8 511 b0 I I .plain (Ax (news:=(aa j0.1)) g0 .hd I I I I I I (ai I)) fun K1 q0 q1=>Rv 9 b0 I d0 (fun _=>Bn I)<|AO (dk b0)<|Ao I<|Au hb0 func105 I (.cons (.many (cs:=(aa j0.1)) I I (q0.memA .hd)) (.cons (.tmp I) .nil)) I ?_
 cases h
 exact q0.gv
 refine Ac<|Ab (AP (vs:=[]) (u:=.agg zM) ak (fun w9=>by kernel_rfl))<|AW ae c0 .hd (ai I) fun M1 s0 s1=>Ag I<|Aa<|Ao I<|Au hb0 func105 I (.cons (.many (cs:=ae) I I (s0.memA .hd)) (.cons (.tmp I) .nil)) I ?_
 cases h
 exact s0.gv
 refine Aw<|Aw<|Aw<|Bq I I<|Aa<|Bg I<|Ac<|Ab (AP (vs:=[]) (u:=.agg zM) ak (fun w9=>by kernel_rfl))<|AW ae c0 .hd (ai I) fun P1 t0 u1=>Ag I<|Aa<|Ao I<|Au hb0 func105 I (.cons (.many (cs:=ae) I I (t0.memA .hd)) (.cons (.tmp I) .nil)) I ?_
 cases h
 exact t0.gv
def aC_p (n:Nat) (a0:Ti) (a1:Ta) (a2:Ta):Oa (Ti × Ta):=
  (cz_p n a1 a2).bind fun b0=>(ax_p n a0 b0.1 b0.2).bind fun c0=>some (c0.1,c0.2)
theorem aC_c (n:Nat) (L:La Nat) {w0 w:World} {T9:La Ob} (hL:∀ b ∈ L,b < w0.heap.size) {p0:Nat} (a0:Ti) (hS0:St w0 w (.cells p0 [vI a0.fe] 85 :: T9)) (a1:Ta) (a2:Ta) {r:Ti × Ta} (h:aC_p n a0 a1 a2 = some r) :
 Cl 70 #[.pointer (some ⟨p0,0,none⟩),.agg ((aa a1)).toArray,.agg ((aa a2)).toArray] w (ee w0 w (.cells p0 [vI a0.fe] 85 :: T9) (.cells p0 [vI r.1.fe] 85 :: T9) (fun _ u=>u = .agg ((aa r.2)).toArray)):=by
 unfold aC_p at h
 refine MX.startL func70 I I I fun _ cs0 hb0=>Ac<|RG.bx hS0 I I fun K0 j0 u0 A0=>RG.bx u0 I I fun M0 k0 v0 B0=>RG.nl ae v0 fun s0 q0 b0 C0=>Aa<|Ac<|Ae I<|Ab (AC I (b0.memA .t2))<|Ab (AC I (b0.memA .t1))<|bk h fun g0 H0 h=>Bm (.tuple #[.agg ((aa g0.1)).toArray,vI g0.2]) (bd 105) I (e2 I I) (fun w9 hw9=>cz_c n (b0.hL0 hL hw9) a1 a2 H0) I<|Ab (Ai I I)<|Ab (Ai I I)<|bk h fun c0 I0 h=>?_
 have x0:St _ _ (.cells p0 [vI a0.fe] 85 :: .cells q0 ae 46 :: .cells k0 (aa a2) 46 :: .cells j0 (aa a1) 46 :: T9):=b0.arr2 (.one .t3 (.one .hd (.one .hd (.one .hd .rest))))
 have D0:Tr s0 _ s0 (.cells p0 [vI a0.fe] 85 :: .cells q0 ae 46 :: .cells k0 (aa a2) 46 :: .cells j0 (aa a1) 46 :: T9):=BN (Bx b0 (.one .t3 (.one .hd (.one .hd (.one .hd .rest)))))
 refine RG.callL (fst:=[]) (cap:=[]) .plain (bd 71) I (e3 I I I) (fun w9 hw9=>ax_c n _ hL a0 (x0.agree hw9) g0.1 I0) I fun P0 J0 y0 E0 hu_=>?_
 subst hu_
 refine AW (aa c0.2) y0 .t1 (ai I) fun t0 d0 F0=>Aa<|Ao I<|Au hb0 func70 I (.cons (.many (cs:=(aa c0.2)) I I (d0.memA .t1)) .nil) I ?_
 have z0:St _ _ (.cells p0 [vI c0.1.fe] 85 :: T9):=d0.arr2 (.one .hd (.drop .hd (.drop .hd (.drop .hd .rest))))
 have G0:Tr t0 _ t0 (.cells p0 [vI c0.1.fe] 85 :: T9):=BN (Bx d0 (.one .hd (.drop .hd (.drop .hd (.drop .hd .rest)))))
 cases h
 exact ⟨z0,(Tt A0 (Tt B0 (Tt C0 (Tt D0 (Tt E0 (Tt F0 G0)))))),fun w9 hw9=>rfl⟩
end Go.Proofs.YtmhnkiifknjgaaaGreatDoor
