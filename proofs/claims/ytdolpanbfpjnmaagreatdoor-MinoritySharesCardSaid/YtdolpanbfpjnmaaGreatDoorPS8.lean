import Derived.Test.YtdolpanbfpjnmaaGreatDoorPS6
namespace Go.Proofs.YtdolpanbfpjnmaaGreatDoor
open Go Go.RowKit Tryz
set_option maxRecDepth 4000
set_option maxHeartbeats 4000000

theorem el22:ElT Tryz.prog 22 5 (Rep.size UInt8) 1 (.int .u8 0) [.int .u8 0]:=⟨underlying22,by kernel_rfl,rfl,rfl,rfl,rfl⟩
def ac_l1 (n:Nat) (a0:Ti) (t0:Int) (d0:Nat × (List Int) -> Option (List Int)):Nat × (List Int) -> Option (List Int)
  | (b0,c0)=>(if b0 < ((a0.fl % (3:UInt8)).toNat) then (chk (9 * t0)).bind fun g0=>(chk (g0 + 7)).bind fun j0=>(chk (j0 + ((b0:Nat):Int))).bind fun k0=>(aY_p n a0 k0).bind fun s0=>(bQ s0 3).bind fun p0=>(app c0 ([p0]:List Int)).bind fun q0=>d0 (b0 + 1,q0) else some c0)
def ac_l2 (_n:Nat) (a0:Ti) (d0:Nat × (List Tb) -> Option (List Tb)):Nat × (List Tb) -> Option (List Tb)
  | (b0,c0)=>(if b0 < ((a0.fv % (2:UInt8)).toNat) then (mk (((a0.fj % (3:UInt8)).toNat:Nat):Int) (0:Int)).bind fun g0=>(mk (((a0.fh % (4:UInt8)).toNat:Nat):Int) (0:Int)).bind fun j0=>(mk (((a0.fl % (3:UInt8)).toNat:Nat):Int) (0:Int)).bind fun k0=>(app c0 ([(⟨⟨#[115,101,97]⟩,(0:Int),g0,j0,k0,true⟩:Tb)]:List Tb)).bind fun p0=>d0 (b0 + 1,p0) else some c0)
def ac_l3 (n:Nat) (a1:Int) (a0:Ti) (g0:Int × (List Tb) -> Option (List Tb)):Int × (List Tb) -> Option (List Tb)
  | (b0,c0)=>(if b0 < a1 then (bQ b0 26).bind fun j0=>(chk (97 + j0)).bind fun k0=>(cJ b0 26).bind fun p0=>(bQ p0 26).bind fun q0=>(chk (97 + q0)).bind fun s0=>(chk (9 * b0)).bind fun t0=>(aY_p n a0 t0).bind fun d0=>(kC ⟨#[117]⟩ (bstr ([aM k0,aM s0]:List UInt8))).bind fun u0=>(chk (9 * b0)).bind fun v0=>(chk (v0 + 1)).bind fun x0=>(aE_p n a0 (((a0.fj % (3:UInt8)).toNat:Nat):Int) x0 d0).bind fun D0=>(chk (9 * b0)).bind fun y0=>(chk (y0 + 3)).bind fun z0=>(aE_p n a0 (((a0.fh % (4:UInt8)).toNat:Nat):Int) z0 (255:Int)).bind fun E0=>Option.bind (am (ac_l1 n a0 b0) n (0,([]:List Int))) (fun B0=>(app c0 ([(⟨u0,d0,D0,E0,B0,false⟩:Tb)]:List Tb)).bind fun C0=>(chk (b0 + 1)).bind fun A0=>g0 (A0,C0)) else some c0)
def ac_p (n:Nat) (a0:Ti) (a1:Int):Option Td:=
  Option.bind (am (ac_l3 n a1 a0) n (0,([]:List Tb))) (fun c0=>Option.bind (am (ac_l2 n a0) n (0,c0)) (fun b0=>some (⟨(((a0.fj % (3:UInt8)).toNat:Nat):Int),(((a0.fh % (4:UInt8)).toNat:Nat):Int),(((a0.fl % (3:UInt8)).toNat:Nat):Int),b0⟩:Td)))
theorem ac_c (n:Nat) {L w} (hL:hl L w) (a0:Ti) {v0_4:Value} (h0_4:Rep.R w L [v0_4] a0.fNums) {a1:Int}  {r:Td} (h:ac_p n a0 a1 = some r) :
 Cl 9 #[.agg #[.int .u8 (a0.fj.toNat:Int),.int .u8 (a0.fh.toNat:Int),.int .u8 (a0.fl.toNat:Int),.int .u8 (a0.fv.toNat:Int),v0_4],vI a1] w (ah w fun w' u=>∃ (v0_3:Value) (cs0_3:List Value),u = .agg #[vI r.fj,vI r.fh,vI r.fl,v0_3]/\St w w' (aS w.heap.size [(69,Rep.size Tb,v0_3,r.fu.length,cs0_3)])/\Cells w' (bl (aS w.heap.size [(69,Rep.size Tb,v0_3,r.fu.length,cs0_3)]) ++ L) cs0_3 (r.fu:List Tb)):=by
 unfold ac_p at h
 refine AG func9 rfl rfl rfl fun _ cs0 hb0=>Ac<|RG.bx (Az w) rfl rfl fun p8 t0 H4 I7=>RG.nl [vI 0,vI 0,vI 0,vN] H4 fun x8 u0 W1 J7=>Aa<|Ac<|AX 0 rfl<|AR rfl ((W1.memA .t1) 0 _ rfl)<|Ab (FV.rem8 (a:=a0.fj) (b:=(3:UInt8)) rfl rfl (by decide)) ?_
 have U7:=(a0.fj % (3:UInt8)).toNat_lt
 refine Ab (FV.convN (i:=(a0.fj % (3:UInt8)).toNat) underlying5 underlying3 rfl (by omega))<|AX 1 rfl<|AR rfl ((W1.memA .t1) 1 _ rfl)<|Ab (FV.rem8 (a:=a0.fh) (b:=(4:UInt8)) rfl rfl (by decide)) ?_
 have V7:=(a0.fh % (4:UInt8)).toNat_lt
 refine Ab (FV.convN (i:=(a0.fh % (4:UInt8)).toNat) underlying5 underlying3 rfl (by omega))<|AX 2 rfl<|AR rfl ((W1.memA .t1) 2 _ rfl)<|Ab (FV.rem8 (a:=a0.fl) (b:=(3:UInt8)) rfl rfl (by decide)) ?_
 have W7:=(a0.fl % (3:UInt8)).toNat_lt
 refine Ab (FV.convN (i:=(a0.fl % (3:UInt8)).toNat) underlying5 underlying3 rfl (by omega))<|Ab (AO (vs:=[vI (((a0.fj % (3:UInt8)).toNat:Nat):Int),vI (((a0.fh % (4:UInt8)).toNat:Nat):Int),vI (((a0.fl % (3:UInt8)).toNat:Nat):Int)]) (u:=.agg #[vI (((a0.fj % (3:UInt8)).toNat:Nat):Int),vI (((a0.fh % (4:UInt8)).toNat:Nat):Int),vI (((a0.fl % (3:UInt8)).toNat:Nat):Int),vN]) (e3 rfl rfl rfl) (fun p=>by kernel_rfl))<|RG.nl [vI 0,vI 0,vI 0,vN] W1 fun y8 v0 I4 K7=>AQ [vI (((a0.fj % (3:UInt8)).toNat:Nat):Int),vI (((a0.fh % (4:UInt8)).toNat:Nat):Int),vI (((a0.fl % (3:UInt8)).toNat:Nat):Int),vN] I4 .hd (ai rfl) fun z8 g3 M7=>Aa<|Ai<|Ac<|Af rfl<|Aa<|AA ?_
 have y2:=g3.nilRow 69 (Rep.size Tb)
 have P7:=St.nilRowT g3 69 (Rep.size Tb)
 have j3:=y2.nilRow 69 (Rep.size Tb)
 have Q7:=AE (cs:=[]) (xs:=([]:List Tb)) j3 L (AK _ _)
 obtain ⟨Y7,P5,J5⟩:=aq h
 refine MX.lf (α:=Int × (List Tb) × Value × (List Value)) (fun ⟨z0,Y0,y0,Z0⟩=>[(1,vI a1),(2,vP t0),(4,vP u0),(5,vP v0),(6,vI z0)]) (fun ⟨z0,Y0,y0,Z0⟩=>[rr w 69 Tb vN (([]:List Tb).length) [],rr w 69 Tb y0 Y0.length Z0,.cells v0 [vI (((a0.fj % (3:UInt8)).toNat:Nat):Int),vI (((a0.fh % (4:UInt8)).toNat:Nat):Int),vI (((a0.fl % (3:UInt8)).toNat:Nat):Int),y0] 46,.cells u0 [vI 0,vI 0,vI 0,vN] 46,.cells t0 [.int .u8 (a0.fj.toNat:Int),.int .u8 (a0.fh.toNat:Int),.int .u8 (a0.fl.toNat:Int),.int .u8 (a0.fv.toNat:Int),v0_4] 27]) (fun ⟨z0,Y0,y0,Z0⟩ c4=>Cells c4 (bl [rr w 69 Tb vN (([]:List Tb).length) [],rr w 69 Tb y0 Y0.length Z0,.cells v0 [vI (((a0.fj % (3:UInt8)).toNat:Nat):Int),vI (((a0.fh % (4:UInt8)).toNat:Nat):Int),vI (((a0.fl % (3:UInt8)).toNat:Nat):Int),y0] 46,.cells u0 [vI 0,vI 0,vI 0,vN] 46,.cells t0 [.int .u8 (a0.fj.toNat:Int),.int .u8 (a0.fh.toNat:Int),.int .u8 (a0.fl.toNat:Int),.int .u8 (a0.fv.toNat:Int),v0_4] 27] ++ L) Z0 Y0) (fun ⟨z0,Y0,y0,Z0⟩=>(z0,Y0)) (0,([]:List Tb),vN,[]) P5 j3 (AD (AE (cs:=[]) (xs:=([]:List Tb)) y2 L (AK _ _)) (St.nilRowT y2 69 (Rep.size Tb))) ?_
 rintro t7 ⟨z0,Y0,y0,Z0⟩ c4 y4 I1 d5 E3 h
 unfold ac_l3 at h
 try dsimp only at h
 refine Ai<|Ac<|Ae rfl<|Ae rfl<|Ab (BK (i:=z0) (j:=a1) rfl rfl)<|Aa<|AT rfl h (fun p4 h=>?_) (fun p4 h=>?_)
 refine Ar<|Ai<|AA<|Ai<|du 18 fun c0 q0=>Rv 0 c0 rfl q0 (fun _=>Ak rfl)<|bk h fun H6 R5 h=>Rv 1 c0 rfl q0 (fun _=>FV.remc (i:=z0) (j:=26) rfl rfl R5)<|bk h fun D0 U5 h=>Rv 2 c0 rfl q0 (fun _=>BE (i:=97) (j:=H6) rfl rfl U5)<|Rv 3 c0 rfl q0 (fun _=>FV.convU8 (i:=D0) underlying3 underlying5 rfl)<|Rv 4 c0 rfl q0 (fun _=>Ak rfl)<|bk h fun I6 V5 h=>Rv 5 c0 rfl q0 (fun _=>FV.quoc (i:=z0) (j:=26) rfl rfl V5)<|bk h fun J6 W5 h=>Rv 6 c0 rfl q0 (fun _=>FV.remc (i:=I6) (j:=26) rfl rfl W5)<|bk h fun s0 X5 h=>Rv 7 c0 rfl q0 (fun _=>BE (i:=97) (j:=J6) rfl rfl X5)<|Rv 8 c0 rfl q0 (fun _=>FV.convU8 (i:=s0) underlying3 underlying5 rfl)<|Rx 12 360448 c0 rfl q0 (AF rfl (I1.memA .t4))<|Rv 13 c0 rfl q0 (fun _=>Ak rfl)<|bk h fun b8 Y5 h=>Rv 14 c0 rfl q0 (fun _=>FV.mulc (i:=9) (j:=z0) rfl rfl Y5)<|bk h fun g0 D6 h=>BG 15 61951 327680 (vI g0) c0 rfl q0 (bd 37) rfl (e2 rfl rfl) (fun p q=>aY_c n (I1.hL0 hL q) a0 (I1.k0 h0_4 q) D6) rfl<|bk h fun j0 Z3 h=>RD.mo (α:=Nat) (fun G1=>[(1,vI a1),(2,vP t0),(4,vP u0),(5,vP v0),(6,vI z0),(44,.agg #[.string j0,vI g0,vN,vN,vN,.bool false]),(7,vP G1)]) (fun G1=>[.cells G1 [.string ⟨#[]⟩,vI 0,vN,vN,vN,.bool false] 69,rr w 69 Tb vN (([]:List Tb).length) [],rr w 69 Tb y0 Y0.length Z0,.cells v0 [vI (((a0.fj % (3:UInt8)).toNat:Nat):Int),vI (((a0.fh % (4:UInt8)).toNat:Nat):Int),vI (((a0.fl % (3:UInt8)).toNat:Nat):Int),y0] 46,.cells u0 [vI 0,vI 0,vI 0,vN] 46,.cells t0 [.int .u8 (a0.fj.toNat:Int),.int .u8 (a0.fh.toNat:Int),.int .u8 (a0.fl.toNat:Int),.int .u8 (a0.fv.toNat:Int),v0_4] 27]) I1 1 262143 ?_ ?_
 rintro G1 M8 J4 g5
 try dsimp only
 refine Bz 18 524287 c0 rfl rfl .plain (Ay (news:=[.string j0,vI g0,vN,vN,vN,.bool false]) J4 .hd rfl rfl rfl rfl rfl rfl (ai rfl)) fun A8 Q1 j5=>AM (dk c0)<|Ac<|Ab (AF rfl (Q1.memA .t5))<|AX 0 rfl<|AR rfl ((Q1.memA .t3) 0 _ rfl)<|Ae rfl<|bk h fun K6 Z5 h=>Ab (FV.mulc (i:=9) (j:=z0) rfl rfl Z5)<|bk h fun c8 b6 h=>Ab (BE (i:=K6) (j:=1) rfl rfl b6)<|AX 1 rfl<|AR rfl ((Q1.memA .hd) 1 _ rfl)<|bk h fun q2 E6 h=>jE (bd 38) rfl (e4 rfl rfl rfl rfl) (fun p q=>aE_c n (Q1.hL hL q) a0 (Q1.km h0_4 q) E6) rfl fun B8 W0 v5 ⟨j8,hu_,b2⟩=>?_
 subst hu_
 obtain ⟨K4,k5⟩:=Q1.agr v5
 refine AX 2 rfl<|BU .plain (BD (j:=2) (old:=[.string j0,vI g0,vN,vN,vN,.bool false]) (news:=[W0]) (new' :=[.string j0,vI g0,W0,vN,vN,.bool false]) K4 .hd rfl rfl rfl (Rep.c1 b2) rfl rfl (o1 (AP b2)) rfl) fun C8 R1 v3=>Aa<|Ac<|Ab (AF rfl (R1.memA .t5))<|AX 1 rfl<|AR rfl ((R1.memA .t3) 1 _ rfl)<|Ae rfl<|bk h fun M6 c6 h=>Ab (FV.mulc (i:=9) (j:=z0) rfl rfl c6)<|bk h fun d8 d6 h=>Ab (BE (i:=M6) (j:=3) rfl rfl d6)<|bk h fun s2 F6 h=>jE (bd 38) rfl (e4 rfl rfl rfl rfl) (fun p q=>aE_c n (R1.hL hL q) a0 (R1.km h0_4 q) F6) rfl fun D8 A1 x5 ⟨k8,hu_,c2⟩=>?_
 subst hu_
 obtain ⟨M4,x3⟩:=R1.agr x5
 refine AX 3 rfl<|BU .plain (BD (j:=3) (old:=[.string j0,vI g0,W0,vN,vN,.bool false]) (news:=[A1]) (new' :=[.string j0,vI g0,W0,A1,vN,.bool false]) M4 .hd rfl rfl rfl (Rep.c1 c2) rfl rfl (o1 (AP c2)) rfl) fun E8 k3 R2=>Aa<|Ai<|Ac<|Af rfl<|Aa<|AA ?_
 have p3:=k3.nilRow 3 (Rep.size Int)
 have U2:=St.nilRowT k3 3 (Rep.size Int)
 obtain ⟨Z7,Q5,K5⟩:=aq h
 refine MX.lf (α:=Nat × (List Int) × Value × (List Value)) (fun ⟨y1,Q0,K0,H1⟩=>[(1,vI a1),(2,vP t0),(4,vP u0),(5,vP v0),(6,vI z0),(7,vP G1),(8,vI ((y1:Nat):Int))]) (fun ⟨y1,Q0,K0,H1⟩=>[rr w 3 Int K0 Q0.length H1,.cells G1 [.string j0,vI g0,W0,A1,K0,.bool false] 69,rr w 69 Tb vN (([]:List Tb).length) [],rr w 69 Tb y0 Y0.length Z0,.cells v0 [vI (((a0.fj % (3:UInt8)).toNat:Nat):Int),vI (((a0.fh % (4:UInt8)).toNat:Nat):Int),vI (((a0.fl % (3:UInt8)).toNat:Nat):Int),y0] 46,.cells u0 [vI 0,vI 0,vI 0,vN] 46,.cells t0 [.int .u8 (a0.fj.toNat:Int),.int .u8 (a0.fh.toNat:Int),.int .u8 (a0.fl.toNat:Int),.int .u8 (a0.fv.toNat:Int),v0_4] 27]) (fun ⟨y1,Q0,K0,H1⟩ d4=>Cells d4 (bl [rr w 3 Int K0 Q0.length H1,.cells G1 [.string j0,vI g0,W0,A1,K0,.bool false] 69,rr w 69 Tb vN (([]:List Tb).length) [],rr w 69 Tb y0 Y0.length Z0,.cells v0 [vI (((a0.fj % (3:UInt8)).toNat:Nat):Int),vI (((a0.fh % (4:UInt8)).toNat:Nat):Int),vI (((a0.fl % (3:UInt8)).toNat:Nat):Int),y0] 46,.cells u0 [vI 0,vI 0,vI 0,vN] 46,.cells t0 [.int .u8 (a0.fj.toNat:Int),.int .u8 (a0.fh.toNat:Int),.int .u8 (a0.fl.toNat:Int),.int .u8 (a0.fv.toNat:Int),v0_4] 27] ++ L) H1 Q0) (fun ⟨y1,Q0,K0,H1⟩=>(y1,Q0)) (0,([]:List Int),vN,[]) Q5 p3 (AE (cs:=[]) (xs:=([]:List Int)) p3 L (AK _ _)) ?_
 rintro u7 ⟨y1,Q0,K0,H1⟩ d4 z4 b1 Y1 F3 h
 unfold ac_l1 at h
 try dsimp only at h
 refine Ai<|Ac<|Ae rfl<|AX 2 rfl<|AR rfl ((b1.memA .t4) 2 _ rfl)<|Ab (Bq (i:=y1) (j:=(a0.fl % (3:UInt8)).toNat) rfl rfl)<|Aa<|AT rfl h (fun q4 h=>?_) (fun q4 h=>?_)
 refine Ar<|Ai<|AA<|du 11 fun x0 g1=>Rv 0 x0 rfl g1 (fun _=>AU 4 rfl)<|Rx 1 14336 x0 rfl g1 (AL rfl ((b1.memA .t1) 4 _ rfl))<|Rx 2 16128 x0 rfl g1 (AF rfl (b1.memA .t6))<|Rv 3 x0 rfl g1 (fun _=>Ak rfl)<|bk h fun P6 g6 h=>Rv 4 x0 rfl g1 (fun _=>FV.mulc (i:=9) (j:=z0) rfl rfl g6)<|bk h fun Q6 j6 h=>Rv 5 x0 rfl g1 (fun _=>BE (i:=P6) (j:=7) rfl rfl j6)<|Rv 6 x0 rfl g1 (fun _=>Ak rfl)<|bk h fun g8 k6 h=>Rv 7 x0 rfl g1 (fun _=>BE (i:=Q6) (j:=((y1:Nat):Int)) rfl rfl k6)<|bk h fun g4 G6 h=>BG 8 511 15872 (vI g4) x0 rfl g1 (bd 37) rfl (e2 rfl rfl) (fun p q=>aY_c n (b1.hL0 hL q) a0 (b1.k0 h0_4 q) G6) rfl<|bk h fun K1 p6 h=>Rv 9 x0 rfl g1 (fun _=>FV.remc (i:=g4) (j:=3) rfl rfl p6)<|BV 10 2047 x0 rfl .plain rfl (jA K1 (vI K1) b1 aw (e1 rfl)) fun F8 x7 A2 y3=>bk h fun X6 B6 h=>BT (i:=11) (rk x0) (BL (m' :=4095) (sk x0) rfl rfl .plain rfl (Bo (α:=Int) (ys:=([K1]:List Int)) B6 A2 (fun _ _=>.t1) aw rfl rfl (AD F3 y3) (Src.row (α:=Int) A2 .hd (jC K1 (vI K1) A2 L rfl))) (fun X2 G8 ⟨u4,B2,p5,D5⟩=>?_))
 refine Rv 12 x0 rfl g1 (fun _=>AU 4 rfl)<|Bz 13 16383 x0 rfl rfl .plain (BD (j:=4) (old:=[.string j0,vI g0,W0,A1,K0,.bool false]) (news:=[X2]) (new' :=[.string j0,vI g0,W0,A1,X2,.bool false]) B2 .t2 rfl rfl rfl (St.c1 (α:=Int) B2 .t1) rfl rfl (o1 (St.o1 (α:=Int) B2 .t1)) rfl) fun H8 P4 z3=>AM (dk x0)<|AC<|Ao<|Ae rfl<|Ab (Bn (i:=y1) (j:=1) rfl rfl (by omega))<|Af rfl<|Aa ?_
 obtain ⟨Q4,A3⟩:=AI P4 .d1
 exact z4 (y1 + 1,X6,X2,u4) Q4 (Tt Y1 (Tt y3 (Tt p5 (Tt z3 A3)))) (AD D5 (Tt z3 A3)) h
 refine Be rfl ?_
 have h:=K5 _ h
 try dsimp only at h
 refine Ao<|AX 3 rfl<|AR rfl ((b1.memA .t4) 3 _ rfl)<|Ab (AF rfl (b1.memA .t1)) ?_
 have q3:=Br b1 .hd
 have V2:=Bs b1 .hd
 have Y3:=Bu (α:=Int) (v:=K0) (xs:=Q0) q3 L (Bf (α:=Int) b1 .hd F3 hL)
 have Q3:=Tt v3 (Tt x3 (Tt R2 (Tt U2 (Tt Y1 V2))))
 have R3:=Tt R2 (Tt U2 (Tt Y1 V2))
 obtain ⟨k7,F7,x6,_⟩:=BQ (Am b2 Q3)
 obtain ⟨p7,G7,y6,_⟩:=BQ (Am c2 R3)
 obtain ⟨q7,H7,z6,_⟩:=BQ Y3
 refine Aj .plain rfl (AN (α:=Tb) (xs:=([(⟨j0,g0,q2,s2,Q0,false⟩:Tb)]:List Tb)) (vs:=[.agg #[.string j0,vI g0,W0,A1,K0,.bool false]]) (ds' :=[.string j0,vI g0,W0,A1,K0,.bool false]) rfl q3 eY rfl (e1 rfl) (by rw [x6,y6,z6]; try kernel_rfl) rfl) fun I8 y7 C2 Z1=>bk h fun Y6 C6 h=>?_
 have U3:=Tt g5 (Tt j5 (Tt k5 (Tt v3 (Tt x3 (Tt R2 (Tt U2 (Tt Y1 (Tt V2 Z1))))))))
 refine RG.doesL .plain rfl (Bo (α:=Tb) (ys:=([(⟨j0,g0,q2,s2,Q0,false⟩:Tb)]:List Tb)) C6 C2 (fun _ _=>.t3) eY rfl rfl (AD E3 U3) (Src.row (α:=Tb) C2 .hd (AE (cs:=[.string j0,vI g0,W0,A1,K0,.bool false]) (xs:=(([(⟨j0,g0,q2,s2,Q0,false⟩:Tb)]:List Tb):List Tb)) C2 L (Aw (cs:=[.string j0,vI g0,W0,A1,K0,.bool false]) (ds:=[]) (cx j0 g0 q2 (Am b2 (Tt Q3 Z1)) s2 (Am c2 (Tt R3 Z1)) Q0 (Am Y3 Z1) false) (AK _ _))))) fun Y2 J8 ⟨v4,D2,q5,E5⟩=>AX 3 rfl<|BU .plain (BD (j:=3) (old:=[vI (((a0.fj % (3:UInt8)).toNat:Nat):Int),vI (((a0.fh % (4:UInt8)).toNat:Nat):Int),vI (((a0.fl % (3:UInt8)).toNat:Nat):Int),y0]) (news:=[Y2]) (new' :=[vI (((a0.fj % (3:UInt8)).toNat:Nat):Int),vI (((a0.fh % (4:UInt8)).toNat:Nat):Int),vI (((a0.fl % (3:UInt8)).toNat:Nat):Int),Y2]) D2 .t4 rfl rfl rfl (St.c1 (α:=Tb) D2 .t3) rfl rfl (o1 (St.o1 (α:=Tb) D2 .t3)) rfl) fun K8 R4 B3=>Aa<|AC<|Ao<|Ae rfl<|bk h fun R6 q6 h=>Ab (BE (i:=z0) (j:=1) rfl rfl q6)<|Af rfl<|Aa ?_
 obtain ⟨U4,C3⟩:=AI R4 .d2
 exact y4 (R6,Y6,Y2,v4) U4 (Tt d5 (Tt U3 (Tt q5 (Tt B3 C3)))) (AD E5 (Tt B3 C3)) h
 intro Z2
 refine BB [9,17] (rk c0) ⟨?_,?_,trivial⟩
 refine BH (m' :=62463) (sk c0) rfl .plain rfl (AN (α:=UInt8) (xs:=([aM D0,aM s0]:List UInt8)) (vs:=[.int .u8 ((aM D0).toNat:Int),.int .u8 ((aM s0).toNat:Int)]) (ds' :=[.int .u8 ((aM D0).toNat:Int),.int .u8 ((aM s0).toNat:Int)]) rfl I1 el22 rfl (e2 rfl rfl) (by kernel_rfl) rfl) fun U6 j4 J1 P2=>?_
 have C5:=AE (cs:=[.int .u8 ((aM D0).toNat:Int),.int .u8 ((aM s0).toNat:Int)]) (xs:=(([aM D0,aM s0]:List UInt8):List UInt8)) J1 L (Aw (cs:=[.int .u8 ((aM D0).toNat:Int)]) (ds:=[.int .u8 ((aM s0).toNat:Int)]) rfl (Aw (cs:=[.int .u8 ((aM s0).toNat:Int)]) (ds:=[]) rfl (AK _ _)))
 refine Rx 10 329728 c0 rfl q0 (FV.bytesS (xs:=([aM D0,aM s0]:List UInt8)) underlying22 underlying9 underlying5 rfl (Src.row (α:=UInt8) J1 .hd C5))<|Rv 11 c0 rfl q0 (fun _=>FV.addS Z3 rfl rfl)<|Rv 16 c0 rfl q0 (fun _=>AO (vs:=[.string j0,vI g0]) (u:=.agg #[.string j0,vI g0,vN,vN,vN,.bool false]) (e2 rfl rfl) (fun p=>by kernel_rfl))<|BV 17 262143 c0 rfl .plain rfl (Ax [.string ⟨#[]⟩,vI 0,vN,vN,vN,.bool false] J1) fun V6 u2 z2 Q2=>?_
 obtain ⟨V4,s5⟩:=AI z2 (.a0 .d1)
 exact Z2 u2 V4 (Tt P2 (Tt Q2 s5))
 refine BH (m' :=193023) (sk c0) rfl .plain rfl (Ax [.string ⟨#[]⟩,vI 0,vN,vN,vN,.bool false] I1) fun V6 u2 z2 Q2=>BV 9 193535 c0 rfl .plain rfl (AN (α:=UInt8) (xs:=([aM D0,aM s0]:List UInt8)) (vs:=[.int .u8 ((aM D0).toNat:Int),.int .u8 ((aM s0).toNat:Int)]) (ds' :=[.int .u8 ((aM D0).toNat:Int),.int .u8 ((aM s0).toNat:Int)]) rfl z2 el22 rfl (e2 rfl rfl) (by kernel_rfl) rfl) fun U6 j4 J1 P2=>Rx 10 329728 c0 rfl q0 (FV.bytesS (xs:=([aM D0,aM s0]:List UInt8)) underlying22 underlying9 underlying5 rfl (Src.row (α:=UInt8) J1 .hd (AE (cs:=[.int .u8 ((aM D0).toNat:Int),.int .u8 ((aM s0).toNat:Int)]) (xs:=(([aM D0,aM s0]:List UInt8):List UInt8)) J1 L (Aw (cs:=[.int .u8 ((aM D0).toNat:Int)]) (ds:=[.int .u8 ((aM s0).toNat:Int)]) rfl (Aw (cs:=[.int .u8 ((aM s0).toNat:Int)]) (ds:=[]) rfl (AK _ _))))))<|Rv 11 c0 rfl q0 (fun _=>FV.addS Z3 rfl rfl)<|Rv 16 c0 rfl q0 (fun _=>AO (vs:=[.string j0,vI g0]) (u:=.agg #[.string j0,vI g0,vN,vN,vN,.bool false]) (e2 rfl rfl) (fun p=>by kernel_rfl)) ?_
 obtain ⟨W4,u5⟩:=AI J1 .d1
 exact Z2 u2 W4 (Tt Q2 (Tt P2 u5))
 refine Be rfl ?_
 have h:=J5 _ h
 try dsimp only at h
 refine Ai<|Ac<|Af rfl<|Aa<|AA ?_
 obtain ⟨X7,M5,I5⟩:=aq h
 refine MX.lf (α:=Nat × (List Tb) × Value × (List Value)) (fun ⟨x1,X0,p0,R0⟩=>[(2,vP t0),(4,vP u0),(5,vP v0),(9,vI ((x1:Nat):Int))]) (fun ⟨x1,X0,p0,R0⟩=>[rr w 69 Tb vN (([]:List Tb).length) [],rr w 69 Tb p0 X0.length R0,.cells v0 [vI (((a0.fj % (3:UInt8)).toNat:Nat):Int),vI (((a0.fh % (4:UInt8)).toNat:Nat):Int),vI (((a0.fl % (3:UInt8)).toNat:Nat):Int),p0] 46,.cells u0 [vI 0,vI 0,vI 0,vN] 46,.cells t0 [.int .u8 (a0.fj.toNat:Int),.int .u8 (a0.fh.toNat:Int),.int .u8 (a0.fl.toNat:Int),.int .u8 (a0.fv.toNat:Int),v0_4] 27]) (fun ⟨x1,X0,p0,R0⟩ b4=>Cells b4 (bl [rr w 69 Tb vN (([]:List Tb).length) [],rr w 69 Tb p0 X0.length R0,.cells v0 [vI (((a0.fj % (3:UInt8)).toNat:Nat):Int),vI (((a0.fh % (4:UInt8)).toNat:Nat):Int),vI (((a0.fl % (3:UInt8)).toNat:Nat):Int),p0] 46,.cells u0 [vI 0,vI 0,vI 0,vN] 46,.cells t0 [.int .u8 (a0.fj.toNat:Int),.int .u8 (a0.fh.toNat:Int),.int .u8 (a0.fl.toNat:Int),.int .u8 (a0.fv.toNat:Int),v0_4] 27] ++ L) R0 X0) (fun ⟨x1,X0,p0,R0⟩=>(x1,X0)) (0,Y0,y0,Z0) M5 I1 E3 ?_
 rintro s7 ⟨x1,X0,p0,R0⟩ b4 x4 U0 X4 D3 h
 unfold ac_l2 at h
 try dsimp only at h
 refine Ai<|Ac<|Ae rfl<|AX 3 rfl<|AR rfl ((U0.memA .t4) 3 _ rfl)<|Ab (FV.rem8 (a:=a0.fv) (b:=(2:UInt8)) rfl rfl (by decide)) ?_
 have R7:=(a0.fv % (2:UInt8)).toNat_lt
 refine Ab (FV.convN (i:=(a0.fv % (2:UInt8)).toNat) underlying5 underlying3 rfl (by omega))<|Ab (Bq (i:=x1) (j:=(a0.fv % (2:UInt8)).toNat) rfl rfl)<|Aa<|AT rfl h (fun k4 h=>?_) (fun k4 h=>?_)
 refine Ar<|Ai<|AA<|du 13 fun b0 z1=>Rv 0 b0 rfl z1 (fun _=>AU 3 rfl)<|Rx 1 57344 b0 rfl z1 (AL rfl ((U0.memA .t2) 3 _ rfl))<|Rv 2 b0 rfl z1 (fun _=>AU 0 rfl)<|Rx 3 63504 b0 rfl z1 (AL rfl ((U0.memA .t2) 0 _ rfl))<|Rv 5 b0 rfl z1 (fun _=>AU 1 rfl)<|Rx 6 63616 b0 rfl z1 (AL rfl ((U0.memA .t2) 1 _ rfl))<|Rv 8 b0 rfl z1 (fun _=>AU 2 rfl)<|Rx 9 64512 b0 rfl z1 (AL rfl ((U0.memA .t2) 2 _ rfl))<|bk h fun H0 s1 h=>bk h fun I0 u1 h=>bk h fun J0 v1 h=>RD.mf (α:=Value × (List Value) × Value × (List Value) × Value × (List Value)) (fun ⟨E0,B1,F0,C1,G0,D1⟩=>[(2,vP t0),(4,vP u0),(5,vP v0),(9,vI ((x1:Nat):Int)),(97,p0),(100,G0),(103,F0),(106,E0)]) (fun ⟨E0,B1,F0,C1,G0,D1⟩=>[rr w 3 Int E0 J0.length B1,rr w 3 Int F0 I0.length C1,rr w 3 Int G0 H0.length D1,rr w 69 Tb vN (([]:List Tb).length) [],rr w 69 Tb p0 X0.length R0,.cells v0 [vI (((a0.fj % (3:UInt8)).toNat:Nat):Int),vI (((a0.fh % (4:UInt8)).toNat:Nat):Int),vI (((a0.fl % (3:UInt8)).toNat:Nat):Int),p0] 46,.cells u0 [vI 0,vI 0,vI 0,vN] 46,.cells t0 [.int .u8 (a0.fj.toNat:Int),.int .u8 (a0.fh.toNat:Int),.int .u8 (a0.fl.toNat:Int),.int .u8 (a0.fv.toNat:Int),v0_4] 27]) (fun ⟨E0,B1,F0,C1,G0,D1⟩ p2=>Cells p2 (bl [rr w 3 Int E0 J0.length B1,rr w 3 Int F0 I0.length C1,rr w 3 Int G0 H0.length D1,rr w 69 Tb vN (([]:List Tb).length) [],rr w 69 Tb p0 X0.length R0,.cells v0 [vI (((a0.fj % (3:UInt8)).toNat:Nat):Int),vI (((a0.fh % (4:UInt8)).toNat:Nat):Int),vI (((a0.fl % (3:UInt8)).toNat:Nat):Int),p0] 46,.cells u0 [vI 0,vI 0,vI 0,vN] 46,.cells t0 [.int .u8 (a0.fj.toNat:Int),.int .u8 (a0.fh.toNat:Int),.int .u8 (a0.fl.toNat:Int),.int .u8 (a0.fv.toNat:Int),v0_4] 27] ++ L) B1 (J0:List Int)/\Cells p2 (bl [rr w 3 Int E0 J0.length B1,rr w 3 Int F0 I0.length C1,rr w 3 Int G0 H0.length D1,rr w 69 Tb vN (([]:List Tb).length) [],rr w 69 Tb p0 X0.length R0,.cells v0 [vI (((a0.fj % (3:UInt8)).toNat:Nat):Int),vI (((a0.fh % (4:UInt8)).toNat:Nat):Int),vI (((a0.fl % (3:UInt8)).toNat:Nat):Int),p0] 46,.cells u0 [vI 0,vI 0,vI 0,vN] 46,.cells t0 [.int .u8 (a0.fj.toNat:Int),.int .u8 (a0.fh.toNat:Int),.int .u8 (a0.fl.toNat:Int),.int .u8 (a0.fv.toNat:Int),v0_4] 27] ++ L) C1 (I0:List Int)/\Cells p2 (bl [rr w 3 Int E0 J0.length B1,rr w 3 Int F0 I0.length C1,rr w 3 Int G0 H0.length D1,rr w 69 Tb vN (([]:List Tb).length) [],rr w 69 Tb p0 X0.length R0,.cells v0 [vI (((a0.fj % (3:UInt8)).toNat:Nat):Int),vI (((a0.fh % (4:UInt8)).toNat:Nat):Int),vI (((a0.fl % (3:UInt8)).toNat:Nat):Int),p0] 46,.cells u0 [vI 0,vI 0,vI 0,vN] 46,.cells t0 [.int .u8 (a0.fj.toNat:Int),.int .u8 (a0.fh.toNat:Int),.int .u8 (a0.fl.toNat:Int),.int .u8 (a0.fv.toNat:Int),v0_4] 27] ++ L) D1 (H0:List Int)) U0 5 2047 ?_ ?_
 rintro ⟨E0,B1,F0,C1,G0,D1⟩ p2 P1 Y4 ⟨y5,z5,A5⟩
 try dsimp only
 obtain ⟨Z6,z7,F5⟩:=St.rowV (α:=Int) P1 .t2
 obtain ⟨b7,A7,G5⟩:=St.rowV (α:=Int) P1 .t1
 obtain ⟨c7,B7,H5⟩:=St.rowV (α:=Int) P1 .hd
 refine Rv 11 b0 rfl z1 (fun _=>AO (vs:=[.string ⟨#[115,101,97]⟩,.bool true,G0,F0,E0]) (u:=.agg #[.string ⟨#[115,101,97]⟩,vI 0,G0,F0,E0,.bool true]) (e5 rfl rfl rfl rfl rfl) (fun p=>by rw [F5,G5,H5]; try kernel_rfl)) ?_
 have U1:=Br P1 .t2
 have E2:=Bs P1 .t2
 have V3:=Bu (α:=Int) (v:=G0) (xs:=H0) U1 L (Bf (α:=Int) P1 .t2 A5 hL)
 have V1:=Br U1 .t1
 have F2:=Bs U1 .t1
 have W3:=Bu (α:=Int) (v:=F0) (xs:=I0) V1 L (Bf (α:=Int) U1 .t1 (AD z5 E2) hL)
 have b3:=Br V1 .hd
 have X1:=Bs V1 .hd
 have X3:=Bu (α:=Int) (v:=E0) (xs:=J0) b3 L (Bf (α:=Int) V1 .hd (AD y5 (Tt E2 F2)) hL)
 obtain ⟨d7,C7,s6,_⟩:=BQ (Am V3 (Tt F2 X1))
 obtain ⟨g7,D7,u6,_⟩:=BQ (Am W3 X1)
 obtain ⟨j7,E7,v6,_⟩:=BQ X3
 refine BV 12 8191 b0 rfl .plain rfl (AN (α:=Tb) (xs:=([(⟨⟨#[115,101,97]⟩,(0:Int),H0,I0,J0,true⟩:Tb)]:List Tb)) (vs:=[.agg #[.string ⟨#[115,101,97]⟩,vI 0,G0,F0,E0,.bool true]]) (ds' :=[.string ⟨#[115,101,97]⟩,vI 0,G0,F0,E0,.bool true]) rfl b3 eY rfl (e1 rfl) (by rw [s6,u6,v6]; try kernel_rfl) rfl) fun q8 v7 v2 G2=>?_
 have G3:=Tt F2 (Tt X1 G2)
 refine bk h fun W6 A6 h=>?_
 have H3:=Tt Y4 (Tt E2 G3)
 refine BT (i:=13) (rk b0) (BL (m' :=16383) (sk b0) rfl rfl .plain rfl (Bo (α:=Tb) (ys:=([(⟨⟨#[115,101,97]⟩,(0:Int),H0,I0,J0,true⟩:Tb)]:List Tb)) A6 v2 (fun _ _=>.t2) eY rfl rfl (AD D3 H3) (Src.row (α:=Tb) v2 .hd (AE (cs:=[.string ⟨#[115,101,97]⟩,vI 0,G0,F0,E0,.bool true]) (xs:=(([(⟨⟨#[115,101,97]⟩,(0:Int),H0,I0,J0,true⟩:Tb)]:List Tb):List Tb)) v2 L (Aw (cs:=[.string ⟨#[115,101,97]⟩,vI 0,G0,F0,E0,.bool true]) (ds:=[]) (cx ⟨#[115,101,97]⟩ (0:Int) H0 (Am V3 G3) I0 (Am W3 (Tt X1 G2)) J0 (Am X3 G2) true) (AK _ _))))) (fun W2 s8 ⟨s4,x2,Z4,B5⟩=>?_))
 refine Rv 14 b0 rfl z1 (fun _=>AU 3 rfl)<|Bz 15 65535 b0 rfl rfl .plain (BD (j:=3) (old:=[vI (((a0.fj % (3:UInt8)).toNat:Nat):Int),vI (((a0.fh % (4:UInt8)).toNat:Nat):Int),vI (((a0.fl % (3:UInt8)).toNat:Nat):Int),p0]) (news:=[W2]) (new' :=[vI (((a0.fj % (3:UInt8)).toNat:Nat):Int),vI (((a0.fh % (4:UInt8)).toNat:Nat):Int),vI (((a0.fl % (3:UInt8)).toNat:Nat):Int),W2]) x2 .t3 rfl rfl rfl (St.c1 (α:=Tb) x2 .t2) rfl rfl (o1 (St.o1 (α:=Tb) x2 .t2)) rfl) fun t8 A4 s3=>AM (dk b0)<|AC<|Ao<|Ae rfl<|Ab (Bn (i:=x1) (j:=1) rfl rfl (by omega))<|Af rfl<|Aa ?_
 obtain ⟨B4,u3⟩:=AI A4 .d1
 exact x4 (x1 + 1,W6,W2,s4) B4 (Tt X4 (Tt H3 (Tt Z4 (Tt s3 u3)))) (AD B5 (Tt s3 u3)) h
 intro M1
 refine BB [4,7,10] (rk b0) ⟨?_,?_,?_,trivial⟩
 refine BH (m' :=895) (sk b0) rfl .plain rfl (Does.mk (α:=Int) s1 U0 aw rfl) fun g2 j1 A0 V0=>?_
 have E1:=AE (cs:=(List.replicate (((a0.fj % (3:UInt8)).toNat:Nat):Int).toNat [vI 0]).flatten) (xs:=H0) A0 L (BR s1 rfl)
 refine BB [7,10] (rk b0) ⟨?_,?_,trivial⟩
 refine BH (m' :=1023) (sk b0) rfl .plain rfl (Does.mk (α:=Int) u1 A0 aw rfl) fun j2 k1 B0 M0=>?_
 have F1:=AE (cs:=(List.replicate (((a0.fh % (4:UInt8)).toNat:Nat):Int).toNat [vI 0]).flatten) (xs:=I0) B0 L (BR u1 rfl)
 refine BV 10 2047 b0 rfl .plain rfl (Does.mk (α:=Int) v1 B0 aw rfl) fun k2 p1 C0 P0=>?_
 have q1:=AE (cs:=(List.replicate (((a0.fl % (3:UInt8)).toNat:Nat):Int).toNat [vI 0]).flatten) (xs:=J0) C0 L (BR v1 rfl)
 exact M1 ((.slice (some ⟨p1,0,none⟩) (((a0.fl % (3:UInt8)).toNat:Nat):Int).toNat (((a0.fl % (3:UInt8)).toNat:Nat):Int).toNat),(List.replicate (((a0.fl % (3:UInt8)).toNat:Nat):Int).toNat [vI 0]).flatten,(.slice (some ⟨k1,0,none⟩) (((a0.fh % (4:UInt8)).toNat:Nat):Int).toNat (((a0.fh % (4:UInt8)).toNat:Nat):Int).toNat),(List.replicate (((a0.fh % (4:UInt8)).toNat:Nat):Int).toNat [vI 0]).flatten,(.slice (some ⟨j1,0,none⟩) (((a0.fj % (3:UInt8)).toNat:Nat):Int).toNat (((a0.fj % (3:UInt8)).toNat:Nat):Int).toNat),(List.replicate (((a0.fj % (3:UInt8)).toNat:Nat):Int).toNat [vI 0]).flatten) C0 (Tt V0 (Tt M0 P0)) ⟨q1,(AD F1 P0),(AD E1 (Tt M0 P0))⟩
 refine BH (m' :=1919) (sk b0) rfl .plain rfl (Does.mk (α:=Int) v1 A0 aw rfl) fun k2 p1 C0 P0=>?_
 have q1:=AE (cs:=(List.replicate (((a0.fl % (3:UInt8)).toNat:Nat):Int).toNat [vI 0]).flatten) (xs:=J0) C0 L (BR v1 rfl)
 refine BV 7 2047 b0 rfl .plain rfl (Does.mk (α:=Int) u1 C0 aw rfl) fun j2 k1 B0 M0=>?_
 have F1:=AE (cs:=(List.replicate (((a0.fh % (4:UInt8)).toNat:Nat):Int).toNat [vI 0]).flatten) (xs:=I0) B0 L (BR u1 rfl)
 obtain ⟨C4,H2⟩:=AI B0 (.a1 .d0)
 have I3:=Tt P0 (Tt M0 H2)
 exact M1 ((.slice (some ⟨p1,0,none⟩) (((a0.fl % (3:UInt8)).toNat:Nat):Int).toNat (((a0.fl % (3:UInt8)).toNat:Nat):Int).toNat),(List.replicate (((a0.fl % (3:UInt8)).toNat:Nat):Int).toNat [vI 0]).flatten,(.slice (some ⟨k1,0,none⟩) (((a0.fh % (4:UInt8)).toNat:Nat):Int).toNat (((a0.fh % (4:UInt8)).toNat:Nat):Int).toNat),(List.replicate (((a0.fh % (4:UInt8)).toNat:Nat):Int).toNat [vI 0]).flatten,(.slice (some ⟨j1,0,none⟩) (((a0.fj % (3:UInt8)).toNat:Nat):Int).toNat (((a0.fj % (3:UInt8)).toNat:Nat):Int).toNat),(List.replicate (((a0.fj % (3:UInt8)).toNat:Nat):Int).toNat [vI 0]).flatten) C4 (Tt V0 I3) ⟨(AD q1 (Tt M0 H2)),(AD F1 H2),(AD E1 I3)⟩
 refine BH (m' :=1007) (sk b0) rfl .plain rfl (Does.mk (α:=Int) u1 U0 aw rfl) fun j2 k1 B0 M0=>?_
 have F1:=AE (cs:=(List.replicate (((a0.fh % (4:UInt8)).toNat:Nat):Int).toNat [vI 0]).flatten) (xs:=I0) B0 L (BR u1 rfl)
 refine BB [4,10] (rk b0) ⟨?_,?_,trivial⟩
 refine BH (m' :=1023) (sk b0) rfl .plain rfl (Does.mk (α:=Int) s1 B0 aw rfl) fun g2 j1 A0 V0=>?_
 have E1:=AE (cs:=(List.replicate (((a0.fj % (3:UInt8)).toNat:Nat):Int).toNat [vI 0]).flatten) (xs:=H0) A0 L (BR s1 rfl)
 refine BV 10 2047 b0 rfl .plain rfl (Does.mk (α:=Int) v1 A0 aw rfl) fun k2 p1 C0 P0=>?_
 have q1:=AE (cs:=(List.replicate (((a0.fl % (3:UInt8)).toNat:Nat):Int).toNat [vI 0]).flatten) (xs:=J0) C0 L (BR v1 rfl)
 obtain ⟨D4,I2⟩:=AI C0 (.a0 (.a1 .d0))
 have J3:=Tt V0 (Tt P0 I2)
 exact M1 ((.slice (some ⟨p1,0,none⟩) (((a0.fl % (3:UInt8)).toNat:Nat):Int).toNat (((a0.fl % (3:UInt8)).toNat:Nat):Int).toNat),(List.replicate (((a0.fl % (3:UInt8)).toNat:Nat):Int).toNat [vI 0]).flatten,(.slice (some ⟨k1,0,none⟩) (((a0.fh % (4:UInt8)).toNat:Nat):Int).toNat (((a0.fh % (4:UInt8)).toNat:Nat):Int).toNat),(List.replicate (((a0.fh % (4:UInt8)).toNat:Nat):Int).toNat [vI 0]).flatten,(.slice (some ⟨j1,0,none⟩) (((a0.fj % (3:UInt8)).toNat:Nat):Int).toNat (((a0.fj % (3:UInt8)).toNat:Nat):Int).toNat),(List.replicate (((a0.fj % (3:UInt8)).toNat:Nat):Int).toNat [vI 0]).flatten) D4 (Tt M0 J3) ⟨(AD q1 I2),(AD F1 J3),(AD E1 (Tt P0 I2))⟩
 refine BH (m' :=2031) (sk b0) rfl .plain rfl (Does.mk (α:=Int) v1 B0 aw rfl) fun k2 p1 C0 P0=>?_
 have q1:=AE (cs:=(List.replicate (((a0.fl % (3:UInt8)).toNat:Nat):Int).toNat [vI 0]).flatten) (xs:=J0) C0 L (BR v1 rfl)
 refine BV 4 2047 b0 rfl .plain rfl (Does.mk (α:=Int) s1 C0 aw rfl) fun g2 j1 A0 V0=>?_
 have E1:=AE (cs:=(List.replicate (((a0.fj % (3:UInt8)).toNat:Nat):Int).toNat [vI 0]).flatten) (xs:=H0) A0 L (BR s1 rfl)
 obtain ⟨E4,J2⟩:=AI A0 (.a1 (.a1 .d0))
 have K3:=Tt P0 (Tt V0 J2)
 exact M1 ((.slice (some ⟨p1,0,none⟩) (((a0.fl % (3:UInt8)).toNat:Nat):Int).toNat (((a0.fl % (3:UInt8)).toNat:Nat):Int).toNat),(List.replicate (((a0.fl % (3:UInt8)).toNat:Nat):Int).toNat [vI 0]).flatten,(.slice (some ⟨k1,0,none⟩) (((a0.fh % (4:UInt8)).toNat:Nat):Int).toNat (((a0.fh % (4:UInt8)).toNat:Nat):Int).toNat),(List.replicate (((a0.fh % (4:UInt8)).toNat:Nat):Int).toNat [vI 0]).flatten,(.slice (some ⟨j1,0,none⟩) (((a0.fj % (3:UInt8)).toNat:Nat):Int).toNat (((a0.fj % (3:UInt8)).toNat:Nat):Int).toNat),(List.replicate (((a0.fj % (3:UInt8)).toNat:Nat):Int).toNat [vI 0]).flatten) E4 (Tt M0 K3) ⟨(AD q1 (Tt V0 J2)),(AD F1 K3),(AD E1 J2)⟩
 refine BH (m' :=1903) (sk b0) rfl .plain rfl (Does.mk (α:=Int) v1 U0 aw rfl) fun k2 p1 C0 P0=>?_
 have q1:=AE (cs:=(List.replicate (((a0.fl % (3:UInt8)).toNat:Nat):Int).toNat [vI 0]).flatten) (xs:=J0) C0 L (BR v1 rfl)
 refine BB [4,7] (rk b0) ⟨?_,?_,trivial⟩
 refine BH (m' :=1919) (sk b0) rfl .plain rfl (Does.mk (α:=Int) s1 C0 aw rfl) fun g2 j1 A0 V0=>?_
 have E1:=AE (cs:=(List.replicate (((a0.fj % (3:UInt8)).toNat:Nat):Int).toNat [vI 0]).flatten) (xs:=H0) A0 L (BR s1 rfl)
 refine BV 7 2047 b0 rfl .plain rfl (Does.mk (α:=Int) u1 A0 aw rfl) fun j2 k1 B0 M0=>?_
 have F1:=AE (cs:=(List.replicate (((a0.fh % (4:UInt8)).toNat:Nat):Int).toNat [vI 0]).flatten) (xs:=I0) B0 L (BR u1 rfl)
 obtain ⟨F4,K2⟩:=AI B0 (.a2 .d0)
 have M3:=Tt V0 (Tt M0 K2)
 exact M1 ((.slice (some ⟨p1,0,none⟩) (((a0.fl % (3:UInt8)).toNat:Nat):Int).toNat (((a0.fl % (3:UInt8)).toNat:Nat):Int).toNat),(List.replicate (((a0.fl % (3:UInt8)).toNat:Nat):Int).toNat [vI 0]).flatten,(.slice (some ⟨k1,0,none⟩) (((a0.fh % (4:UInt8)).toNat:Nat):Int).toNat (((a0.fh % (4:UInt8)).toNat:Nat):Int).toNat),(List.replicate (((a0.fh % (4:UInt8)).toNat:Nat):Int).toNat [vI 0]).flatten,(.slice (some ⟨j1,0,none⟩) (((a0.fj % (3:UInt8)).toNat:Nat):Int).toNat (((a0.fj % (3:UInt8)).toNat:Nat):Int).toNat),(List.replicate (((a0.fj % (3:UInt8)).toNat:Nat):Int).toNat [vI 0]).flatten) F4 (Tt P0 M3) ⟨(AD q1 M3),(AD F1 K2),(AD E1 (Tt M0 K2))⟩
 refine BH (m' :=2031) (sk b0) rfl .plain rfl (Does.mk (α:=Int) u1 C0 aw rfl) fun j2 k1 B0 M0=>BV 4 2047 b0 rfl .plain rfl (Does.mk (α:=Int) s1 B0 aw rfl) fun g2 j1 A0 V0=>?_
 obtain ⟨G4,M2⟩:=AI A0 (.a2 (.a1 .d0))
 have P3:=Tt M0 (Tt V0 M2)
 exact M1 ((.slice (some ⟨p1,0,none⟩) (((a0.fl % (3:UInt8)).toNat:Nat):Int).toNat (((a0.fl % (3:UInt8)).toNat:Nat):Int).toNat),(List.replicate (((a0.fl % (3:UInt8)).toNat:Nat):Int).toNat [vI 0]).flatten,(.slice (some ⟨k1,0,none⟩) (((a0.fh % (4:UInt8)).toNat:Nat):Int).toNat (((a0.fh % (4:UInt8)).toNat:Nat):Int).toNat),(List.replicate (((a0.fh % (4:UInt8)).toNat:Nat):Int).toNat [vI 0]).flatten,(.slice (some ⟨j1,0,none⟩) (((a0.fj % (3:UInt8)).toNat:Nat):Int).toNat (((a0.fj % (3:UInt8)).toNat:Nat):Int).toNat),(List.replicate (((a0.fj % (3:UInt8)).toNat:Nat):Int).toNat [vI 0]).flatten) G4 (Tt P0 P3) ⟨(AD q1 P3),(AD (AE (cs:=(List.replicate (((a0.fh % (4:UInt8)).toNat:Nat):Int).toNat [vI 0]).flatten) (xs:=I0) B0 L (BR u1 rfl)) (Tt V0 M2)),(AD (AE (cs:=(List.replicate (((a0.fj % (3:UInt8)).toNat:Nat):Int).toNat [vI 0]).flatten) (xs:=H0) A0 L (BR s1 rfl)) M2)⟩
 refine Be rfl ?_
 have h:=I5 _ h
 try dsimp only at h
 refine Ac<|Ab (AF rfl (U0.memA .t2))<|AQ [vI (((a0.fj % (3:UInt8)).toNat:Nat):Int),vI (((a0.fh % (4:UInt8)).toNat:Nat):Int),vI (((a0.fl % (3:UInt8)).toNat:Nat):Int),p0] U0 .t3 (o4 rfl rfl rfl (St.o1 (α:=Tb) U0 .t1)) fun v8 c3 b5=>Aa<|Al rfl<|Ap (u:=.agg #[vI (((a0.fj % (3:UInt8)).toNat:Nat):Int),vI (((a0.fh % (4:UInt8)).toNat:Nat):Int),vI (((a0.fl % (3:UInt8)).toNat:Nat):Int),p0]) hb0 func9 rfl (.cons (.many (cs:=[vI (((a0.fj % (3:UInt8)).toNat:Nat):Int),vI (((a0.fh % (4:UInt8)).toNat:Nat):Int),vI (((a0.fl % (3:UInt8)).toNat:Nat):Int),p0]) rfl rfl (c3.memA .t3)) .nil) rfl ?_
 obtain ⟨d3,c5⟩:=AI c3 (.a1 .done)
 cases h
 exact ⟨d3.ag,fun p q=>⟨p0,R0,rfl,d3.agree q,Cells.keep0 (AD D3 (Tt b5 c5)) q⟩⟩
def bO_p (n:Nat) (a0:Ti) (a1:Int):Option Td:=
  (ac_p n (⟨2,3,2,a0.fv,a0.fNums⟩:Ti) a1).bind fun b0=>some b0
theorem bO_c (n:Nat) {L w} (hL:hl L w) (a0:Ti) {v0_4:Value} (h0_4:Rep.R w L [v0_4] a0.fNums) {a1:Int}  {r:Td} (h:bO_p n a0 a1 = some r) :
 Cl 8 #[.agg #[.int .u8 (a0.fj.toNat:Int),.int .u8 (a0.fh.toNat:Int),.int .u8 (a0.fl.toNat:Int),.int .u8 (a0.fv.toNat:Int),v0_4],vI a1] w (ah w fun w' u=>∃ (v0_3:Value) (cs0_3:List Value),u = .agg #[vI r.fj,vI r.fh,vI r.fl,v0_3]/\St w w' (aS w.heap.size [(69,Rep.size Tb,v0_3,r.fu.length,cs0_3)])/\Cells w' (bl (aS w.heap.size [(69,Rep.size Tb,v0_3,r.fu.length,cs0_3)]) ++ L) cs0_3 (r.fu:List Tb)):=by
 unfold bO_p at h
 refine AG func8 rfl rfl rfl fun _ cs0 hb0=>Ac<|RG.bx (Az w) rfl rfl fun R0 E0 t0 G0=>RG.nl [vI 0,vI 0,vI 0,vN] t0 fun U0 F0 u0 H0=>Aa<|Ac<|AX 0 rfl<|BU .plain (BD (j:=0) (old:=[.int .u8 (a0.fj.toNat:Int),.int .u8 (a0.fh.toNat:Int),.int .u8 (a0.fl.toNat:Int),.int .u8 (a0.fv.toNat:Int),v0_4]) (news:=[.int .u8 2]) (new' :=[.int .u8 2,.int .u8 (a0.fh.toNat:Int),.int .u8 (a0.fl.toNat:Int),.int .u8 (a0.fv.toNat:Int),v0_4]) u0 .t1 rfl rfl rfl rfl rfl rfl (o1 rfl) rfl) fun V0 v0 I0=>AX 1 rfl<|BU .plain (BD (j:=1) (old:=[.int .u8 2,.int .u8 (a0.fh.toNat:Int),.int .u8 (a0.fl.toNat:Int),.int .u8 (a0.fv.toNat:Int),v0_4]) (news:=[.int .u8 3]) (new' :=[.int .u8 2,.int .u8 3,.int .u8 (a0.fl.toNat:Int),.int .u8 (a0.fv.toNat:Int),v0_4]) v0 .t1 rfl rfl rfl rfl rfl rfl (o1 rfl) rfl) fun W0 x0 J0=>AX 2 rfl<|BU .plain (BD (j:=2) (old:=[.int .u8 2,.int .u8 3,.int .u8 (a0.fl.toNat:Int),.int .u8 (a0.fv.toNat:Int),v0_4]) (news:=[.int .u8 2]) (new' :=[.int .u8 2,.int .u8 3,.int .u8 2,.int .u8 (a0.fv.toNat:Int),v0_4]) x0 .t1 rfl rfl rfl rfl rfl rfl (o1 rfl) rfl) fun X0 d0 K0=>Aa<|Ac<|Ab (AF rfl (d0.memA .t1))<|Ae rfl<|bk h fun c0 D0 h=>jE (bd 9) rfl (e2 rfl rfl) (fun p q=>dj (b0:=w.heap.size) (ac_c n (d0.hL hL q) (⟨2,3,2,a0.fv,a0.fNums⟩:Ti) (d0.km h0_4 q) D0) q (Nat.le_trans d0.ag.size q.size)) rfl fun Y0 Q0 P0 ⟨g0,k0,C0,s0,A0⟩=>?_
 subst C0
 have j0:=eM d0 s0
 have M0:=iS d0 s0
 have B0:=AE (cs:=k0) (xs:=(c0.fu:List Tb)) j0 L (dF A0)
 refine AQ [vI c0.fj,vI c0.fh,vI c0.fl,g0] j0 .t1 (o4 rfl rfl rfl (St.o1 (α:=Tb) j0 .hd)) fun Z0 p0 y0=>Aa<|Al rfl<|Ap (u:=.agg #[vI c0.fj,vI c0.fh,vI c0.fl,g0]) hb0 func8 rfl (.cons (.many (cs:=[vI c0.fj,vI c0.fh,vI c0.fl,g0]) rfl rfl (p0.memA .t1)) .nil) rfl ?_
 obtain ⟨q0,z0⟩:=AI p0 (.a0 .done)
 cases h
 exact ⟨q0.ag,fun p q=>⟨g0,k0,rfl,q0.agree q,Cells.keep0 (AD B0 (Tt y0 z0)) q⟩⟩
structure Tm where
  fO:UInt8
  fAt:UInt8
  fN:Int
  deriving DecidableEq
instance:Rep Tm:=Rep.via (β:=UInt8 × UInt8 × Int) fun x=>(x.fO,x.fAt,x.fN)
def cm_p (_n:Nat) (a0:Tm) (a1:Td):Option Td:=
  (app ([]:List Tb) a1.fu).bind fun c0=>(if c0.length = 0 then some (⟨a1.fj,a1.fh,a1.fl,c0⟩:Td) else (bQ ((a0.fAt.toNat:Nat):Int) ((c0.length:Nat):Int)).bind fun d0=>(idx c0 d0).bind fun b0=>(if ((a0.fO % (7:UInt8)).toNat) = 0 then (put c0 ((d0.toNat:Nat):Int) (⟨b0.fC,a0.fN,b0.fj,b0.fJ,b0.fG,b0.fv⟩:Tb)).bind fun j0=>some (⟨a1.fj,a1.fh,a1.fl,j0⟩:Td) else (if ((a0.fO % (7:UInt8)).toNat) = 1 then (app ([a0.fN]:List Int) b0.fJ).bind fun p0=>(put c0 ((d0.toNat:Nat):Int) (⟨b0.fC,b0.fA,b0.fj,p0,b0.fG,b0.fv⟩:Tb)).bind fun q0=>some (⟨a1.fj,a1.fh,a1.fl,q0⟩:Td) else (if ((a0.fO % (7:UInt8)).toNat) = 2 then (app ([]:List Int) b0.fj).bind fun k0=>(app k0 ([a0.fN]:List Int)).bind fun s0=>(put c0 ((d0.toNat:Nat):Int) (⟨b0.fC,b0.fA,s0,b0.fJ,b0.fG,b0.fv⟩:Tb)).bind fun t0=>some (⟨a1.fj,a1.fh,a1.fl,t0⟩:Td) else (if ((a0.fO % (7:UInt8)).toNat) = 3 then (put c0 ((d0.toNat:Nat):Int) (⟨b0.fC,b0.fA,b0.fj,b0.fJ,b0.fG,(!b0.fv)⟩:Tb)).bind fun u0=>some (⟨a1.fj,a1.fh,a1.fl,u0⟩:Td) else (if ((a0.fO % (7:UInt8)).toNat) = 4 then (c0[0]?).bind fun g0=>(put c0 ((d0.toNat:Nat):Int) (⟨g0.fC,b0.fA,b0.fj,b0.fJ,b0.fG,b0.fv⟩:Tb)).bind fun v0=>some (⟨a1.fj,a1.fh,a1.fl,v0⟩:Td) else (if ((a0.fO % (7:UInt8)).toNat) = 5 then some (⟨a1.fj,a1.fh,a0.fN,c0⟩:Td) else (put c0 ((d0.toNat:Nat):Int) (⟨b0.fC,b0.fA,b0.fj,b0.fJ,([a0.fN]:List Int),b0.fv⟩:Tb)).bind fun x0=>some (⟨a1.fj,a1.fh,a1.fl,x0⟩:Td))))))))
theorem cm_c (n:Nat) {L w} (hL:hl L w) (a0:Tm) (a1:Td) {v1_3:Value} (h1_3:Rep.R w L [v1_3] a1.fu)  {r:Td} (h:cm_p n a0 a1 = some r) :
 Cl 10 #[.agg #[.int .u8 (a0.fO.toNat:Int),.int .u8 (a0.fAt.toNat:Int),vI a0.fN],.agg #[vI a1.fj,vI a1.fh,vI a1.fl,v1_3]] w (ah w fun w' u=>∃ v0_3:Value,u = .agg #[vI r.fj,vI r.fh,vI r.fl,v0_3]/\Rep.R w' L [v0_3] r.fu):=by
 unfold cm_p at h
 refine AG func10 rfl rfl rfl fun _ cs0 hb0=>Ac<|RG.bx (Az w) rfl rfl fun w11 z8 Y4 v9=>RG.bx Y4 rfl rfl fun w16 A8 Z4 z9=>RG.nl [vI 0,vI 0,vI 0,vN] Z4 fun w21 V1 P3 A9=>Aa<|Ac<|Ab (AF rfl (P3.memA .t1))<|RG.nl [vI 0,vI 0,vI 0,vN] P3 fun w26 W1 R3 K9=>AQ [vI a1.fj,vI a1.fh,vI a1.fl,v1_3] R3 .hd (o4 rfl rfl rfl (AP (AS h1_3 R3))) fun w31 F5 M9=>Aa<|Ac<|Aj .plain rfl (jB Tb F5 eY) fun w35 B8 k2 P9=>AX 3 rfl<|AR rfl ((k2.memA .t3) 3 _ rfl)<|bk h fun s1 Z7 h=>RG.doesL .plain rfl (Bo (α:=Tb) (ys:=a1.fu) Z7 k2 (fun _ _=>.hd) eY rfl rfl (jD Tb k2 L) (Src.rep (AS h1_3 k2))) fun j0 w42 ⟨v2,V2,Q9,K0⟩=>AX 3 rfl<|BU .plain (BD (j:=3) (old:=[vI a1.fj,vI a1.fh,vI a1.fl,v1_3]) (news:=[j0]) (new' :=[vI a1.fj,vI a1.fh,vI a1.fl,j0]) V2 .t1 rfl rfl rfl (St.c1 (α:=Tb) V2 .hd) rfl rfl (o1 (St.o1 (α:=Tb) V2 .hd)) rfl) fun w49 q0 J0=>?_
 refine Aa<|Ai<|Ac<|AX 3 rfl<|AR rfl ((q0.memA .t1) 3 _ rfl) ?_
 have b00:s1.length <= 4294967296:=St.rowLe (α:=Tb) q0 .hd
 obtain ⟨v8,J8,F6⟩:=St.rowV (α:=Tb) q0 .hd
 refine Ab (FV.lenV underlying44 rfl F6)<|Ab (BM (i:=s1.length) (j:=0) rfl rfl)<|Aa<|AT rfl h (fun W4 h=>?_) (fun W4 h=>?_)
 refine Ac<|Ab (AF rfl (q0.memA .t1))<|AQ [vI a1.fj,vI a1.fh,vI a1.fl,j0] q0 .t2 (o4 rfl rfl rfl (St.o1 (α:=Tb) q0 .hd)) fun w57 W2 X5=>Aa<|Al rfl ?_
 have p2:=Br W2 .hd
 have R9:=Bs W2 .hd
 have E7:=Bu (α:=Tb) (v:=j0) (xs:=s1) p2 L (Bf (α:=Tb) W2 .hd (AD K0 (Tt J0 X5)) hL)
 refine Ap hb0 func10 rfl (.cons (.many (cs:=[vI a1.fj,vI a1.fh,vI a1.fl,j0]) rfl rfl (p2.memA .t1)) .nil) rfl ?_
 cases h
 exact ⟨p2.ag,fun p q=>⟨j0,rfl,p2.kd E7 q⟩⟩
 refine Ar<|Ai<|du 11 fun M0 X0=>Rv 0 M0 rfl X0 (fun _=>AU 3 rfl)<|Rx 1 1536 M0 rfl X0 (AL rfl ((q0.memA .t1) 3 _ rfl))<|Rv 2 M0 rfl X0 (fun _=>AU 1 rfl)<|Rx 3 1808 M0 rfl X0 (AL rfl ((q0.memA .t4) 1 _ rfl)) ?_
 have z00:=a0.fAt.toNat_lt
 refine Rv 4 M0 rfl X0 (fun _=>FV.convN (i:=a0.fAt.toNat) underlying5 underlying3 rfl (by omega))<|Rv 5 M0 rfl X0 (fun _=>AU 3 rfl)<|Rx 6 1920 M0 rfl X0 (AL rfl ((q0.memA .t1) 3 _ rfl)) ?_
 obtain ⟨x8,K8,G6⟩:=St.rowV (α:=Tb) q0 .hd
 refine Rx 7 1792 M0 rfl X0 (FV.lenV underlying44 rfl G6)<|bk h fun p1 J7 h=>Rv 8 M0 rfl X0 (fun _=>FV.remc (i:=((a0.fAt.toNat:Nat):Int)) (j:=((s1.length:Nat):Int)) rfl rfl J7)<|bk h fun c0 M7 h=>?_
 obtain ⟨I6,I0⟩:=aA M7
 have k1:=AD K0 J0
 obtain ⟨K4,M8,A3,Z3,q9,G7,q2⟩:=St.nth (α:=Tb) q0 .hd k1 I0
 obtain ⟨K3,P8,H0⟩:=BJ (α:=Tb) q0 .hd Z3
 obtain rfl:K4 = ⟨K3,0,none⟩:=by rw [H0] at A3; cases A3; rfl
 obtain ⟨v86,v87,v88,rfl,d1,H7,y00⟩:=ba G7
 refine Rv 9 M0 rfl X0 (fun _=>Bj 6 (p1.toNat) rfl A3 rfl I6 Z3)<|Rv 10 M0 rfl X0 (fun _=>Bh rfl)<|AM (dk M0)<|Ai<|Ac<|AX 0 rfl<|AR rfl ((q0.memA .t4) 0 _ rfl)<|Ab (FV.rem8 (a:=a0.fO) (b:=(7:UInt8)) rfl rfl (by decide))<|Aa<|AA<|Ac<|Ab (BM (i:=(a0.fO % (7:UInt8)).toNat) (j:=0) rfl rfl)<|Af rfl<|Aa<|AT rfl h (fun X4 h=>?_) (fun X4 h=>?_)
 refine Ao<|Ae rfl<|AX 2 rfl<|AR rfl ((q0.memA .t4) 2 _ rfl)<|Ab (FV.nilCheck rfl)<|AX 1 rfl ?_
 obtain ⟨Q8,H6,Z9,s9,I7,p00,y6⟩:=St.nthAt (α:=Tb) q0 .hd k1 I0 H0
 obtain ⟨p4,q4,s4,rfl,P6,Q6,R6⟩:=ba I7
 refine bk h fun j8 P7 h=>RG.acts' .plain (Acts.setPart (α:=Tb) (i:=p1.toNat) (tot:=1) (ds:=[.string c0.fC,vI c0.fA,p4,q4,s4,.bool c0.fv]) (news:=[vI a0.fN]) (full:=[.string c0.fC,vI a0.fN,p4,q4,s4,.bool c0.fv]) P7 q0 H6 (fun _=>.hd) k1 y6 rfl rfl rfl rfl rfl rfl (cx c0.fC a0.fN c0.fj P6 c0.fJ Q6 c0.fG R6 c0.fv) rfl (o1 rfl)) fun G00 ⟨R8,x2,t9,Y5⟩=>Aa<|AC<|Ac<|Ab (AF rfl (x2.memA .t1))<|AQ [vI a1.fj,vI a1.fh,vI a1.fl,j0] x2 .t2 (o4 rfl rfl rfl (St.o1 (α:=Tb) x2 .hd)) fun I00 y2 G5=>Aa<|Al rfl ?_
 have X1:=Br y2 .hd
 have u9:=Bs y2 .hd
 have U6:=Bu (α:=Tb) (v:=j0) (xs:=j8) X1 L (Bf (α:=Tb) y2 .hd (AD Y5 G5) hL)
 refine Ap hb0 func10 rfl (.cons (.many (cs:=[vI a1.fj,vI a1.fh,vI a1.fl,j0]) rfl rfl (X1.memA .t1)) .nil) rfl ?_
 cases h
 exact ⟨X1.ag,fun p q=>⟨j0,rfl,X1.kd U6 q⟩⟩
 refine Ac<|Ab (BM (i:=(a0.fO % (7:UInt8)).toNat) (j:=1) rfl rfl)<|Af rfl<|Aa<|AT rfl h (fun P4 h=>?_) (fun P4 h=>?_)
 refine du 8 fun G0 g1=>Rv 0 G0 rfl g1 (fun _=>Ak rfl)<|Rv 1 G0 rfl g1 (fun _=>AU 2 rfl)<|Rx 2 3848 G0 rfl g1 (AL rfl ((q0.memA .t4) 2 _ rfl))<|Rv 4 G0 rfl g1 (fun _=>Ak rfl)<|Rv 5 G0 rfl g1 (fun _=>FV.nilCheck rfl)<|Rv 6 G0 rfl g1 (fun _=>AU 3 rfl)<|Rx 7 3840 G0 rfl g1 (AL rfl (q2 3 _ rfl))<|BV 3 255 G0 rfl .plain rfl (jA a0.fN (vI a0.fN) q0 aw (e1 rfl)) fun J00 y8 M3 U3=>bk h fun H4 Q7 h=>BT (i:=8) (rk G0) (BL (m' :=511) (sk G0) rfl rfl .plain rfl (Bo (α:=Int) (ys:=c0.fJ) Q7 M3 (fun _ _=>.hd) aw rfl rfl (jC a0.fN (vI a0.fN) M3 L rfl) (Src.rep (Am H7 U3))) (fun E3 K00 ⟨U8,z2,H5,Z5⟩=>?_))
 refine Rv 9 G0 rfl g1 (fun _=>FV.nilCheck rfl)<|Rv 10 G0 rfl g1 (fun _=>AU 3 rfl) ?_
 have A2:=Br z2 .hd
 have B3:=Bu (α:=Int) (v:=E3) (xs:=H4) A2 L (Bf (α:=Int) z2 .hd Z5 hL)
 have b4:=AD K0 (Tt J0 (Tt U3 (Tt H5 (Bs z2 .hd))))
 obtain ⟨C8,z6,U9,V8,V6,c00,s6⟩:=St.nthAt (α:=Tb) A2 .hd b4 I0 H0
 obtain ⟨u4,b8,v4,rfl,W6,q00,X6⟩:=ba V6
 refine bk h fun k8 R7 h=>BT (i:=11) (rk G0) (RO.acts (m' :=4095) (sk G0) rfl rfl .plain (Acts.setPart (α:=Tb) (i:=p1.toNat) (tot:=3) (ds:=[.string c0.fC,vI c0.fA,u4,b8,v4,.bool c0.fv]) (news:=[E3]) (full:=[.string c0.fC,vI c0.fA,u4,E3,v4,.bool c0.fv]) R7 A2 z6 (fun _=>.hd) b4 s6 rfl rfl rfl rfl rfl (Rep.c1 B3) (cx c0.fC c0.fA c0.fj W6 H4 B3 c0.fG X6 c0.fv) rfl (o1 (AP B3))) (fun M00 ⟨W8,B2,x9,b6⟩=>?_))
 refine AM (dk G0)<|AC<|Ac<|Ab (AF rfl (B2.memA .t1))<|AQ [vI a1.fj,vI a1.fh,vI a1.fl,j0] B2 .t2 (o4 rfl rfl rfl (St.o1 (α:=Tb) B2 .hd)) fun Q00 C2 I5=>Aa<|Al rfl ?_
 have Y1:=Br C2 .hd
 have y9:=Bs C2 .hd
 have Y6:=Bu (α:=Tb) (v:=j0) (xs:=k8) Y1 L (Bf (α:=Tb) C2 .hd (AD b6 I5) hL)
 refine Ap hb0 func10 rfl (.cons (.many (cs:=[vI a1.fj,vI a1.fh,vI a1.fl,j0]) rfl rfl (Y1.memA .t1)) .nil) rfl ?_
 cases h
 exact ⟨Y1.ag,fun p q=>⟨j0,rfl,Y1.kd Y6 q⟩⟩
 refine Ac<|Ab (BM (i:=(a0.fO % (7:UInt8)).toNat) (j:=2) rfl rfl)<|Af rfl<|Aa<|AT rfl h (fun Q4 h=>?_) (fun Q4 h=>?_)
 refine du 6 fun b0 Z0=>Rv 0 b0 rfl Z0 (fun _=>Ak rfl)<|Rv 2 b0 rfl Z0 (fun _=>Ak rfl)<|Rv 3 b0 rfl Z0 (fun _=>FV.nilCheck rfl)<|Rv 4 b0 rfl Z0 (fun _=>AU 2 rfl)<|Rv 7 b0 rfl Z0 (fun _=>AU 2 rfl)<|bk h fun s2 z0 h=>RD.mf (α:=Value × (List Value) × Value × (List Value)) (fun ⟨D1,x1,E1,y1⟩=>[(4,vP V1),(5,vP W1),(59,.pointer (some (Addr.add ⟨K3,0,none⟩ (p1.toNat * 6)))),(65,E1),(68,D1)]) (fun ⟨D1,x1,E1,y1⟩=>[rr w 3 Int D1 (([a0.fN]:List Int).length) x1,rr w 3 Int E1 s2.length y1,rr w 69 Tb j0 s1.length v2,.cells W1 [vI a1.fj,vI a1.fh,vI a1.fl,j0] 46,.cells V1 [vI 0,vI 0,vI 0,vN] 46]) (fun ⟨D1,x1,E1,y1⟩ I3=>Cells I3 (bl [rr w 3 Int D1 (([a0.fN]:List Int).length) x1,rr w 3 Int E1 s2.length y1,rr w 69 Tb j0 s1.length v2,.cells W1 [vI a1.fj,vI a1.fh,vI a1.fl,j0] 46,.cells V1 [vI 0,vI 0,vI 0,vN] 46] ++ L) x1 (([a0.fN]:List Int):List Int)/\Cells I3 (bl [rr w 3 Int D1 (([a0.fN]:List Int).length) x1,rr w 3 Int E1 s2.length y1,rr w 69 Tb j0 s1.length v2,.cells W1 [vI a1.fj,vI a1.fh,vI a1.fl,j0] 46,.cells V1 [vI 0,vI 0,vI 0,vN] 46] ++ L) y1 (s2:List Int)) q0 4 1023 ?_ ?_
 rintro ⟨D1,x1,E1,y1⟩ I3 Q3 J5 ⟨c6,d6⟩
 try dsimp only
 refine bk h fun I4 U7 h=>BT (i:=10) (rk b0) (BL (m' :=2047) (sk b0) rfl rfl .plain rfl (Bo (α:=Int) (ys:=([a0.fN]:List Int)) U7 Q3 (fun _ _=>.t1) aw rfl rfl d6 (Src.row (α:=Int) Q3 .hd c6)) (fun F3 U00 ⟨X8,D2,K5,g6⟩=>?_))
 refine Rv 11 b0 rfl Z0 (fun _=>FV.nilCheck rfl)<|Rv 12 b0 rfl Z0 (fun _=>AU 2 rfl) ?_
 have E2:=Br D2 .t1
 have C3:=Bu (α:=Int) (v:=F3) (xs:=I4) E2 L (Bf (α:=Int) D2 .t1 g6 hL)
 have c4:=AD K0 (Tt J0 (Tt J5 (Tt K5 (Bs D2 .t1))))
 obtain ⟨D8,A6,V9,Y8,Z6,d00,t6⟩:=St.nthAt (α:=Tb) E2 .t1 c4 I0 H0
 obtain ⟨c8,x4,y4,rfl,s00,b7,c7⟩:=ba Z6
 refine bk h fun p8 V7 h=>BT (i:=13) (rk b0) (RO.acts (m' :=16383) (sk b0) rfl rfl .plain (Acts.setPart (α:=Tb) (i:=p1.toNat) (tot:=2) (ds:=[.string c0.fC,vI c0.fA,c8,x4,y4,.bool c0.fv]) (news:=[F3]) (full:=[.string c0.fC,vI c0.fA,F3,x4,y4,.bool c0.fv]) V7 E2 A6 (fun _=>.t1) c4 t6 rfl rfl rfl rfl rfl (Rep.c1 C3) (cx c0.fC c0.fA I4 C3 c0.fJ b7 c0.fG c7 c0.fv) rfl (o1 (AP C3))) (fun V00 ⟨Z8,F2,B9,j6⟩=>?_))
 refine AM (dk b0)<|AC<|Ac<|Ab (AF rfl (F2.memA .t2))<|AQ [vI a1.fj,vI a1.fh,vI a1.fl,j0] F2 .t3 (o4 rfl rfl rfl (St.o1 (α:=Tb) F2 .t1)) fun W00 G2 M5=>Aa<|Al rfl ?_
 have Z1:=Br G2 .t1
 have C9:=Bs G2 .t1
 have d7:=Bu (α:=Tb) (v:=j0) (xs:=p8) Z1 L (Bf (α:=Tb) G2 .t1 (AD j6 M5) hL)
 refine Ap hb0 func10 rfl (.cons (.many (cs:=[vI a1.fj,vI a1.fh,vI a1.fl,j0]) rfl rfl (Z1.memA .t2)) .nil) rfl ?_
 cases h
 exact ⟨Z1.ag,fun p q=>⟨j0,rfl,Z1.kd d7 q⟩⟩
 intro x0
 refine BB [1,5,8] (rk b0) ⟨?_,?_,?_,trivial⟩
 refine BH (m' :=159) (sk b0) rfl .plain rfl (jB Int q0 aw) fun F1 u1 p0 k0=>?_
 have v0:=jD Int p0 L
 refine BB [5,8] (rk b0) ⟨?_,?_,trivial⟩
 have M1:=AD K0 (Tt J0 k0)
 obtain ⟨G1,J1,K1,H1,V0,U0,I1⟩:=St.nthAt (α:=Tb) p0 .t1 M1 I0 H0
 obtain ⟨G3,Q1,R1,rfl,W0,B1,P1⟩:=ba V0
 refine RO.val (m' :=191) (sk b0) rfl .plain rfl (AL rfl (U0 2 _ rfl))<|BB [6,8] (rk b0) ⟨?_,?_,trivial⟩
 refine BL (m' :=255) (sk b0) rfl rfl .plain rfl (Bo (α:=Int) (ys:=c0.fj) z0 p0 (fun _ _=>.hd) aw rfl rfl v0 (Src.rep W0)) fun C1 H3 ⟨v1,j1,z1,A1⟩=>BT (i:=8) (rk b0) (RO.val (m' :=511) (sk b0) rfl .plain rfl (AL rfl ((j1.memA .t5) 2 _ rfl)) ?_)
 refine BV 9 1023 b0 rfl .plain rfl (jA a0.fN (vI a0.fN) j1 aw (e1 rfl)) fun B0 s0 g0 d0=>?_
 have t0:=jC a0.fN (vI a0.fN) g0 L rfl
 obtain ⟨b5,X2⟩:=AI g0 (.a0 (.a0 (.a0 (.a0 (.a0 .done)))))
 exact x0 ((vS s0 1),[vI a0.fN],C1,v1) b5 (Tt k0 (Tt z1 (Tt d0 X2))) ⟨(AD t0 X2),(AD A1 (Tt d0 X2))⟩
 refine RO.val (m' :=447) (sk b0) rfl .plain rfl (AL rfl ((p0.memA .t5) 2 _ rfl))<|BB [6,9] (rk b0) ⟨?_,?_,trivial⟩
 refine BL (m' :=511) (sk b0) rfl rfl .plain rfl (Bo (α:=Int) (ys:=c0.fj) z0 p0 (fun _ _=>.hd) aw rfl rfl v0 (Src.rep W0)) fun C1 H3 ⟨v1,j1,z1,A1⟩=>BV 9 1023 b0 rfl .plain rfl (jA a0.fN (vI a0.fN) j1 aw (e1 rfl)) fun B0 s0 g0 d0=>?_
 have t0:=jC a0.fN (vI a0.fN) g0 L rfl
 obtain ⟨c5,Y2⟩:=AI g0 (.a0 (.a0 (.a0 (.a0 (.a0 .done)))))
 exact x0 ((vS s0 1),[vI a0.fN],C1,v1) c5 (Tt k0 (Tt z1 (Tt d0 Y2))) ⟨(AD t0 Y2),(AD A1 (Tt d0 Y2))⟩
 refine BH (m' :=959) (sk b0) rfl .plain rfl (jA a0.fN (vI a0.fN) p0 aw (e1 rfl)) fun B0 s0 g0 d0=>?_
 have t0:=jC a0.fN (vI a0.fN) g0 L rfl
 have u0:=Am W0 d0
 have b1:=AD v0 d0
 refine BT (i:=6) (rk b0) (BL (m' :=1023) (sk b0) rfl rfl .plain rfl (Bo (α:=Int) (ys:=c0.fj) z0 g0 (fun _ _=>.t1) aw rfl rfl b1 (Src.rep u0)) (fun Y0 U1 ⟨P0,Q0,D0,R0⟩=>?_))
 obtain ⟨d5,Z2⟩:=AI Q0 (.a0 (.a0 (.a0 (.a0 (.a0 .done)))))
 exact x0 ((vS s0 1),[vI a0.fN],Y0,P0) d5 (Tt k0 (Tt d0 (Tt D0 Z2))) ⟨(AD t0 (Tt D0 Z2)),(AD R0 Z2)⟩
 refine RO.val (m' :=415) (sk b0) rfl .plain rfl (AL rfl ((p0.memA .t5) 2 _ rfl))<|BB [5,9] (rk b0) ⟨?_,?_,trivial⟩
 have M1:=AD K0 (Tt J0 k0)
 obtain ⟨G1,J1,K1,H1,V0,U0,I1⟩:=St.nthAt (α:=Tb) p0 .t1 M1 I0 H0
 obtain ⟨G3,Q1,R1,rfl,W0,B1,P1⟩:=ba V0
 refine RO.val (m' :=447) (sk b0) rfl .plain rfl (AL rfl (U0 2 _ rfl))<|BB [6,9] (rk b0) ⟨?_,?_,trivial⟩
 refine BL (m' :=511) (sk b0) rfl rfl .plain rfl (Bo (α:=Int) (ys:=c0.fj) z0 p0 (fun _ _=>.hd) aw rfl rfl v0 (Src.rep W0)) fun C1 H3 ⟨v1,j1,z1,A1⟩=>BV 9 1023 b0 rfl .plain rfl (jA a0.fN (vI a0.fN) j1 aw (e1 rfl)) fun B0 s0 g0 d0=>?_
 have t0:=jC a0.fN (vI a0.fN) g0 L rfl
 obtain ⟨g5,b3⟩:=AI g0 (.a0 (.a0 (.a0 (.a0 (.a0 .done)))))
 exact x0 ((vS s0 1),[vI a0.fN],C1,v1) g5 (Tt k0 (Tt z1 (Tt d0 b3))) ⟨(AD t0 b3),(AD A1 (Tt d0 b3))⟩
 refine BH (m' :=959) (sk b0) rfl .plain rfl (jA a0.fN (vI a0.fN) p0 aw (e1 rfl)) fun B0 s0 g0 d0=>?_
 have t0:=jC a0.fN (vI a0.fN) g0 L rfl
 have u0:=Am W0 d0
 have b1:=AD v0 d0
 refine BT (i:=6) (rk b0) (BL (m' :=1023) (sk b0) rfl rfl .plain rfl (Bo (α:=Int) (ys:=c0.fj) z0 g0 (fun _ _=>.t1) aw rfl rfl b1 (Src.rep u0)) (fun Y0 U1 ⟨P0,Q0,D0,R0⟩=>?_))
 obtain ⟨j5,c3⟩:=AI Q0 (.a0 (.a0 (.a0 (.a0 (.a0 .done)))))
 exact x0 ((vS s0 1),[vI a0.fN],Y0,P0) j5 (Tt k0 (Tt d0 (Tt D0 c3))) ⟨(AD t0 (Tt D0 c3)),(AD R0 c3)⟩
 refine BH (m' :=927) (sk b0) rfl .plain rfl (jA a0.fN (vI a0.fN) p0 aw (e1 rfl)) fun B0 s0 g0 d0=>?_
 have t0:=jC a0.fN (vI a0.fN) g0 L rfl
 have M6:=Tt J0 (Tt k0 d0)
 have K6:=AD K0 M6
 obtain ⟨G1,J1,K1,H1,V0,U0,I1⟩:=St.nthAt (α:=Tb) g0 .t2 K6 I0 H0
 obtain ⟨Q1,R1,g8,rfl,B1,P1,F7⟩:=ba V0
 refine Rx 5 15424 b0 rfl Z0 (AL rfl (U0 2 _ rfl)) ?_
 have u0:=AD v0 d0
 refine BT (i:=6) (rk b0) (BL (m' :=1023) (sk b0) rfl rfl .plain rfl (Bo (α:=Int) (ys:=c0.fj) z0 g0 (fun _ _=>.t1) aw rfl rfl u0 (Src.rep B1)) (fun F0 q1 ⟨C0,A0,y0,E0⟩=>?_))
 obtain ⟨k5,d3⟩:=AI A0 (.a0 (.a0 (.a0 (.a0 (.a0 .done)))))
 exact x0 ((vS s0 1),[vI a0.fN],F0,C0) k5 (Tt k0 (Tt d0 (Tt y0 d3))) ⟨(AD t0 (Tt y0 d3)),(AD E0 d3)⟩
 refine RO.val (m' :=189) (sk b0) rfl .plain rfl (AL rfl (q2 2 _ rfl))<|BB [1,8] (rk b0) ⟨?_,?_,trivial⟩
 refine BH (m' :=191) (sk b0) rfl .plain rfl (jB Int q0 aw) fun F1 u1 p0 k0=>?_
 have v0:=jD Int p0 L
 refine BB [6,8] (rk b0) ⟨?_,?_,trivial⟩
 have u0:=Am d1 k0
 refine BL (m' :=255) (sk b0) rfl rfl .plain rfl (Bo (α:=Int) (ys:=c0.fj) z0 p0 (fun _ _=>.hd) aw rfl rfl v0 (Src.rep u0)) fun F0 q1 ⟨C0,A0,y0,E0⟩=>BT (i:=8) (rk b0) (RO.val (m' :=511) (sk b0) rfl .plain rfl (AL rfl ((A0.memA .t5) 2 _ rfl)) ?_)
 refine BV 9 1023 b0 rfl .plain rfl (jA a0.fN (vI a0.fN) A0 aw (e1 rfl)) fun B0 s0 g0 d0=>?_
 have t0:=jC a0.fN (vI a0.fN) g0 L rfl
 obtain ⟨p5,g3⟩:=AI g0 (.a0 (.a0 (.a0 (.a0 (.a0 .done)))))
 exact x0 ((vS s0 1),[vI a0.fN],F0,C0) p5 (Tt k0 (Tt y0 (Tt d0 g3))) ⟨(AD t0 g3),(AD E0 (Tt d0 g3))⟩
 refine RO.val (m' :=447) (sk b0) rfl .plain rfl (AL rfl ((p0.memA .t5) 2 _ rfl))<|BB [6,9] (rk b0) ⟨?_,?_,trivial⟩
 have u0:=Am d1 k0
 refine BL (m' :=511) (sk b0) rfl rfl .plain rfl (Bo (α:=Int) (ys:=c0.fj) z0 p0 (fun _ _=>.hd) aw rfl rfl v0 (Src.rep u0)) fun F0 q1 ⟨C0,A0,y0,E0⟩=>BV 9 1023 b0 rfl .plain rfl (jA a0.fN (vI a0.fN) A0 aw (e1 rfl)) fun B0 s0 g0 d0=>?_
 have t0:=jC a0.fN (vI a0.fN) g0 L rfl
 obtain ⟨q5,j3⟩:=AI g0 (.a0 (.a0 (.a0 (.a0 (.a0 .done)))))
 exact x0 ((vS s0 1),[vI a0.fN],F0,C0) q5 (Tt k0 (Tt y0 (Tt d0 j3))) ⟨(AD t0 j3),(AD E0 (Tt d0 j3))⟩
 refine BH (m' :=959) (sk b0) rfl .plain rfl (jA a0.fN (vI a0.fN) p0 aw (e1 rfl)) fun B0 s0 g0 d0=>?_
 have t0:=jC a0.fN (vI a0.fN) g0 L rfl
 have u0:=Am d1 (Tt k0 d0)
 have b1:=AD v0 d0
 refine BT (i:=6) (rk b0) (BL (m' :=1023) (sk b0) rfl rfl .plain rfl (Bo (α:=Int) (ys:=c0.fj) z0 g0 (fun _ _=>.t1) aw rfl rfl b1 (Src.rep u0)) (fun Y0 U1 ⟨P0,Q0,D0,R0⟩=>?_))
 obtain ⟨s5,k3⟩:=AI Q0 (.a0 (.a0 (.a0 (.a0 (.a0 .done)))))
 exact x0 ((vS s0 1),[vI a0.fN],Y0,P0) s5 (Tt k0 (Tt d0 (Tt D0 k3))) ⟨(AD t0 (Tt D0 k3)),(AD R0 k3)⟩
 refine RO.val (m' :=445) (sk b0) rfl .plain rfl (AL rfl ((q0.memA .t4) 2 _ rfl))<|BB [1,9] (rk b0) ⟨?_,?_,trivial⟩
 refine BH (m' :=447) (sk b0) rfl .plain rfl (jB Int q0 aw) fun F1 u1 p0 k0=>?_
 have v0:=jD Int p0 L
 refine BB [6,9] (rk b0) ⟨?_,?_,trivial⟩
 have u0:=Am d1 k0
 refine BL (m' :=511) (sk b0) rfl rfl .plain rfl (Bo (α:=Int) (ys:=c0.fj) z0 p0 (fun _ _=>.hd) aw rfl rfl v0 (Src.rep u0)) fun F0 q1 ⟨C0,A0,y0,E0⟩=>BV 9 1023 b0 rfl .plain rfl (jA a0.fN (vI a0.fN) A0 aw (e1 rfl)) fun B0 s0 g0 d0=>?_
 have t0:=jC a0.fN (vI a0.fN) g0 L rfl
 obtain ⟨u5,p3⟩:=AI g0 (.a0 (.a0 (.a0 (.a0 (.a0 .done)))))
 exact x0 ((vS s0 1),[vI a0.fN],F0,C0) u5 (Tt k0 (Tt y0 (Tt d0 p3))) ⟨(AD t0 p3),(AD E0 (Tt d0 p3))⟩
 refine BH (m' :=959) (sk b0) rfl .plain rfl (jA a0.fN (vI a0.fN) p0 aw (e1 rfl)) fun B0 s0 g0 d0=>?_
 have t0:=jC a0.fN (vI a0.fN) g0 L rfl
 have u0:=Am d1 (Tt k0 d0)
 have b1:=AD v0 d0
 refine BT (i:=6) (rk b0) (BL (m' :=1023) (sk b0) rfl rfl .plain rfl (Bo (α:=Int) (ys:=c0.fj) z0 g0 (fun _ _=>.t1) aw rfl rfl b1 (Src.rep u0)) (fun Y0 U1 ⟨P0,Q0,D0,R0⟩=>?_))
 obtain ⟨v5,q3⟩:=AI Q0 (.a0 (.a0 (.a0 (.a0 (.a0 .done)))))
 exact x0 ((vS s0 1),[vI a0.fN],Y0,P0) v5 (Tt k0 (Tt d0 (Tt D0 q3))) ⟨(AD t0 (Tt D0 q3)),(AD R0 q3)⟩
 refine BH (m' :=957) (sk b0) rfl .plain rfl (jA a0.fN (vI a0.fN) q0 aw (e1 rfl)) fun B0 s0 g0 d0=>?_
 have t0:=jC a0.fN (vI a0.fN) g0 L rfl
 refine BV 1 959 b0 rfl .plain rfl (jB Int g0 aw) fun F1 u1 p0 k0=>?_
 have v0:=jD Int p0 L
 have u0:=Am d1 (Tt d0 k0)
 refine BT (i:=6) (rk b0) (BL (m' :=1023) (sk b0) rfl rfl .plain rfl (Bo (α:=Int) (ys:=c0.fj) z0 p0 (fun _ _=>.hd) aw rfl rfl v0 (Src.rep u0)) (fun F0 q1 ⟨C0,A0,y0,E0⟩=>?_))
 obtain ⟨x5,V3⟩:=AI A0 (.a1 (.a0 (.a0 (.a0 (.a0 .done)))))
 have g4:=Tt k0 (Tt y0 V3)
 exact x0 ((vS s0 1),[vI a0.fN],F0,C0) x5 (Tt d0 g4) ⟨(AD t0 g4),(AD E0 V3)⟩
 refine RO.val (m' :=413) (sk b0) rfl .plain rfl (AL rfl ((q0.memA .t4) 2 _ rfl))<|BB [1,5,9] (rk b0) ⟨?_,?_,?_,trivial⟩
 refine BH (m' :=415) (sk b0) rfl .plain rfl (jB Int q0 aw) fun F1 u1 p0 k0=>?_
 have v0:=jD Int p0 L
 refine BB [5,9] (rk b0) ⟨?_,?_,trivial⟩
 have M1:=AD K0 (Tt J0 k0)
 obtain ⟨G1,J1,K1,H1,V0,U0,I1⟩:=St.nthAt (α:=Tb) p0 .t1 M1 I0 H0
 obtain ⟨G3,Q1,R1,rfl,W0,B1,P1⟩:=ba V0
 refine RO.val (m' :=447) (sk b0) rfl .plain rfl (AL rfl (U0 2 _ rfl))<|BB [6,9] (rk b0) ⟨?_,?_,trivial⟩
 refine BL (m' :=511) (sk b0) rfl rfl .plain rfl (Bo (α:=Int) (ys:=c0.fj) z0 p0 (fun _ _=>.hd) aw rfl rfl v0 (Src.rep W0)) fun C1 H3 ⟨v1,j1,z1,A1⟩=>BV 9 1023 b0 rfl .plain rfl (jA a0.fN (vI a0.fN) j1 aw (e1 rfl)) fun B0 s0 g0 d0=>?_
 have t0:=jC a0.fN (vI a0.fN) g0 L rfl
 obtain ⟨y5,s3⟩:=AI g0 (.a0 (.a0 (.a0 (.a0 (.a0 .done)))))
 exact x0 ((vS s0 1),[vI a0.fN],C1,v1) y5 (Tt k0 (Tt z1 (Tt d0 s3))) ⟨(AD t0 s3),(AD A1 (Tt d0 s3))⟩
 refine BH (m' :=959) (sk b0) rfl .plain rfl (jA a0.fN (vI a0.fN) p0 aw (e1 rfl)) fun B0 s0 g0 d0=>?_
 have t0:=jC a0.fN (vI a0.fN) g0 L rfl
 have u0:=Am W0 d0
 have b1:=AD v0 d0
 refine BT (i:=6) (rk b0) (BL (m' :=1023) (sk b0) rfl rfl .plain rfl (Bo (α:=Int) (ys:=c0.fj) z0 g0 (fun _ _=>.t1) aw rfl rfl b1 (Src.rep u0)) (fun Y0 U1 ⟨P0,Q0,D0,R0⟩=>?_))
 obtain ⟨z5,u3⟩:=AI Q0 (.a0 (.a0 (.a0 (.a0 (.a0 .done)))))
 exact x0 ((vS s0 1),[vI a0.fN],Y0,P0) z5 (Tt k0 (Tt d0 (Tt D0 u3))) ⟨(AD t0 (Tt D0 u3)),(AD R0 u3)⟩
 refine BH (m' :=927) (sk b0) rfl .plain rfl (jA a0.fN (vI a0.fN) p0 aw (e1 rfl)) fun B0 s0 g0 d0=>?_
 have t0:=jC a0.fN (vI a0.fN) g0 L rfl
 obtain ⟨G1,J1,K1,H1,V0,U0,I1⟩:=St.nthAt (α:=Tb) g0 .t2 (AD K0 (Tt J0 (Tt k0 d0))) I0 H0
 obtain ⟨Q1,R1,g8,rfl,B1,P1,F7⟩:=ba V0
 refine Rx 5 15424 b0 rfl Z0 (AL rfl (U0 2 _ rfl)) ?_
 have u0:=AD v0 d0
 refine BT (i:=6) (rk b0) (BL (m' :=1023) (sk b0) rfl rfl .plain rfl (Bo (α:=Int) (ys:=c0.fj) z0 g0 (fun _ _=>.t1) aw rfl rfl u0 (Src.rep B1)) (fun F0 q1 ⟨C0,A0,y0,E0⟩=>?_))
 obtain ⟨A5,v3⟩:=AI A0 (.a0 (.a0 (.a0 (.a0 (.a0 .done)))))
 exact x0 ((vS s0 1),[vI a0.fN],F0,C0) A5 (Tt k0 (Tt d0 (Tt y0 v3))) ⟨(AD t0 (Tt y0 v3)),(AD E0 v3)⟩
 refine RO.val (m' :=445) (sk b0) rfl .plain rfl (AL rfl (q2 2 _ rfl))<|BB [1,9] (rk b0) ⟨?_,?_,trivial⟩
 refine BH (m' :=447) (sk b0) rfl .plain rfl (jB Int q0 aw) fun F1 u1 p0 k0=>?_
 have v0:=jD Int p0 L
 refine BB [6,9] (rk b0) ⟨?_,?_,trivial⟩
 have u0:=Am d1 k0
 refine BL (m' :=511) (sk b0) rfl rfl .plain rfl (Bo (α:=Int) (ys:=c0.fj) z0 p0 (fun _ _=>.hd) aw rfl rfl v0 (Src.rep u0)) fun F0 q1 ⟨C0,A0,y0,E0⟩=>BV 9 1023 b0 rfl .plain rfl (jA a0.fN (vI a0.fN) A0 aw (e1 rfl)) fun B0 s0 g0 d0=>?_
 have t0:=jC a0.fN (vI a0.fN) g0 L rfl
 obtain ⟨B5,x3⟩:=AI g0 (.a0 (.a0 (.a0 (.a0 (.a0 .done)))))
 exact x0 ((vS s0 1),[vI a0.fN],F0,C0) B5 (Tt k0 (Tt y0 (Tt d0 x3))) ⟨(AD t0 x3),(AD E0 (Tt d0 x3))⟩
 refine BH (m' :=959) (sk b0) rfl .plain rfl (jA a0.fN (vI a0.fN) p0 aw (e1 rfl)) fun B0 s0 g0 d0=>?_
 have t0:=jC a0.fN (vI a0.fN) g0 L rfl
 have u0:=Am d1 (Tt k0 d0)
 refine BT (i:=6) (rk b0) (BL (m' :=1023) (sk b0) rfl rfl .plain rfl (Bo (α:=Int) (ys:=c0.fj) z0 g0 (fun _ _=>.t1) aw rfl rfl (AD v0 d0) (Src.rep u0)) (fun Y0 U1 ⟨P0,Q0,D0,R0⟩=>?_))
 obtain ⟨C5,y3⟩:=AI Q0 (.a0 (.a0 (.a0 (.a0 (.a0 .done)))))
 exact x0 ((vS s0 1),[vI a0.fN],Y0,P0) C5 (Tt k0 (Tt d0 (Tt D0 y3))) ⟨(AD t0 (Tt D0 y3)),(AD R0 y3)⟩
 refine BH (m' :=957) (sk b0) rfl .plain rfl (jA a0.fN (vI a0.fN) q0 aw (e1 rfl)) fun B0 s0 g0 d0=>?_
 have t0:=jC a0.fN (vI a0.fN) g0 L rfl
 refine BV 1 959 b0 rfl .plain rfl (jB Int g0 aw) fun F1 u1 p0 k0=>?_
 have v0:=jD Int p0 L
 have u0:=Am d1 (Tt d0 k0)
 refine BT (i:=6) (rk b0) (BL (m' :=1023) (sk b0) rfl rfl .plain rfl (Bo (α:=Int) (ys:=c0.fj) z0 p0 (fun _ _=>.hd) aw rfl rfl v0 (Src.rep u0)) (fun F0 q1 ⟨C0,A0,y0,E0⟩=>?_))
 obtain ⟨D5,W3⟩:=AI A0 (.a1 (.a0 (.a0 (.a0 (.a0 .done)))))
 have j4:=Tt k0 (Tt y0 W3)
 exact x0 ((vS s0 1),[vI a0.fN],F0,C0) D5 (Tt d0 j4) ⟨(AD t0 j4),(AD E0 W3)⟩
 refine BH (m' :=925) (sk b0) rfl .plain rfl (jA a0.fN (vI a0.fN) q0 aw (e1 rfl)) fun B0 s0 g0 d0=>?_
 have t0:=jC a0.fN (vI a0.fN) g0 L rfl
 obtain ⟨G1,J1,K1,H1,V0,U0,I1⟩:=St.nthAt (α:=Tb) g0 .t1 (AD K0 (Tt J0 d0)) I0 H0
 obtain ⟨G3,Q1,R1,rfl,W0,B1,P1⟩:=ba V0
 refine Rx 5 15424 b0 rfl Z0 (AL rfl (U0 2 _ rfl))<|BV 1 959 b0 rfl .plain rfl (jB Int g0 aw) fun F1 u1 p0 k0=>BT (i:=6) (rk b0) (BL (m' :=1023) (sk b0) rfl rfl .plain rfl (Bo (α:=Int) (ys:=c0.fj) z0 p0 (fun _ _=>.hd) aw rfl rfl (jD Int p0 L) (Src.rep (Am W0 k0))) (fun F0 q1 ⟨C0,A0,y0,E0⟩=>?_))
 obtain ⟨E5,X3⟩:=AI A0 (.a1 (.a0 (.a0 (.a0 (.a0 .done)))))
 have k4:=Tt k0 (Tt y0 X3)
 exact x0 ((vS s0 1),[vI a0.fN],F0,C0) E5 (Tt d0 k4) ⟨(AD t0 k4),(AD E0 X3)⟩
 refine Ac<|Ab (BM (i:=(a0.fO % (7:UInt8)).toNat) (j:=3) rfl rfl)<|Af rfl<|Aa<|AT rfl h (fun R4 h=>?_) (fun R4 h=>?_)
 refine Ao<|Ae rfl<|Ae rfl<|Ab (FV.nilCheck rfl)<|AX 5 rfl<|AR rfl (q2 5 _ rfl)<|Ab (Bp rfl)<|Ab (FV.nilCheck rfl)<|AX 5 rfl ?_
 obtain ⟨E8,B6,W9,b9,g7,g00,u6⟩:=St.nthAt (α:=Tb) q0 .hd k1 I0 H0
 obtain ⟨z4,A4,B4,rfl,j7,k7,p7⟩:=ba g7
 refine bk h fun q8 W7 h=>RG.acts' .plain (Acts.setPart (α:=Tb) (i:=p1.toNat) (tot:=5) (ds:=[.string c0.fC,vI c0.fA,z4,A4,B4,.bool c0.fv]) (news:=[.bool (!c0.fv)]) (full:=[.string c0.fC,vI c0.fA,z4,A4,B4,.bool (!c0.fv)]) W7 q0 B6 (fun _=>.hd) k1 u6 rfl rfl rfl rfl rfl rfl (cx c0.fC c0.fA c0.fj j7 c0.fJ k7 c0.fG p7 (!c0.fv)) rfl (o1 rfl)) fun X00 ⟨c9,H2,D9,k6⟩=>Aa<|AC<|Ac<|Ab (AF rfl (H2.memA .t1))<|AQ [vI a1.fj,vI a1.fh,vI a1.fl,j0] H2 .t2 (o4 rfl rfl rfl (St.o1 (α:=Tb) H2 .hd)) fun Y00 I2 P5=>Aa<|Al rfl ?_
 have b2:=Br I2 .hd
 have E9:=Bs I2 .hd
 have q7:=Bu (α:=Tb) (v:=j0) (xs:=q8) b2 L (Bf (α:=Tb) I2 .hd (AD k6 P5) hL)
 refine Ap hb0 func10 rfl (.cons (.many (cs:=[vI a1.fj,vI a1.fh,vI a1.fl,j0]) rfl rfl (b2.memA .t1)) .nil) rfl ?_
 cases h
 exact ⟨b2.ag,fun p q=>⟨j0,rfl,b2.kd q7 q⟩⟩
 refine Ac<|Ab (BM (i:=(a0.fO % (7:UInt8)).toNat) (j:=4) rfl rfl)<|Af rfl<|Aa<|AT rfl h (fun U4 h=>?_) (fun U4 h=>?_)
 refine Ao<|Ae rfl<|AX 3 rfl<|AR rfl ((q0.memA .t1) 3 _ rfl)<|bk h fun J3 K7 h=>?_
 obtain ⟨J4,F8,z3,Y3,d9,s7,J6⟩:=St.nth (α:=Tb) q0 .hd k1 K7
 obtain ⟨M4,G8,C6⟩:=BJ (α:=Tb) q0 .hd Y3
 obtain rfl:J4 = ⟨M4,0,none⟩:=by rw [C6] at z3; cases z3; rfl
 obtain ⟨A00,B00,C00,rfl,t00,u00,v00⟩:=ba s7
 refine Ab (Bj 6 0 rfl z3 rfl rfl Y3)<|AX 0 rfl<|AR rfl (J6 0 _ rfl)<|Ab (FV.nilCheck rfl)<|AX 0 rfl ?_
 obtain ⟨H8,D6,X9,g9,t7,j00,v6⟩:=St.nthAt (α:=Tb) q0 .hd k1 I0 H0
 obtain ⟨C4,D4,E4,rfl,u7,v7,x7⟩:=ba t7
 refine bk h fun s8 X7 h=>RG.acts' .plain (Acts.setPart (α:=Tb) (i:=p1.toNat) (tot:=0) (ds:=[.string c0.fC,vI c0.fA,C4,D4,E4,.bool c0.fv]) (news:=[.string J3.fC]) (full:=[.string J3.fC,vI c0.fA,C4,D4,E4,.bool c0.fv]) X7 q0 D6 (fun _=>.hd) k1 v6 rfl rfl rfl rfl rfl rfl (cx J3.fC c0.fA c0.fj u7 c0.fJ v7 c0.fG x7 c0.fv) rfl (o1 rfl)) fun Z00 ⟨j9,J2,F9,p6⟩=>Aa<|AC<|Ac<|Ab (AF rfl (J2.memA .t1))<|AQ [vI a1.fj,vI a1.fh,vI a1.fl,j0] J2 .t2 (o4 rfl rfl rfl (St.o1 (α:=Tb) J2 .hd)) fun b01 K2 Q5=>Aa<|Al rfl ?_
 have c2:=Br K2 .hd
 have G9:=Bs K2 .hd
 have y7:=Bu (α:=Tb) (v:=j0) (xs:=s8) c2 L (Bf (α:=Tb) K2 .hd (AD p6 Q5) hL)
 refine Ap hb0 func10 rfl (.cons (.many (cs:=[vI a1.fj,vI a1.fh,vI a1.fl,j0]) rfl rfl (c2.memA .t1)) .nil) rfl ?_
 cases h
 exact ⟨c2.ag,fun p q=>⟨j0,rfl,c2.kd y7 q⟩⟩
 refine Ac<|Ab (BM (i:=(a0.fO % (7:UInt8)).toNat) (j:=5) rfl rfl)<|Af rfl<|Aa<|AT rfl h (fun V4 h=>?_) (fun V4 h=>?_)
 refine Ao<|AX 2 rfl<|AR rfl ((q0.memA .t4) 2 _ rfl)<|AX 2 rfl<|BU .plain (BD (j:=2) (old:=[vI a1.fj,vI a1.fh,vI a1.fl,j0]) (news:=[vI a0.fN]) (new' :=[vI a1.fj,vI a1.fh,vI a0.fN,j0]) q0 .t1 rfl rfl rfl rfl rfl rfl (o1 rfl) rfl) fun c01 M2 R5=>Aa<|AC<|Ac<|Ab (AF rfl (M2.memA .t1))<|AQ [vI a1.fj,vI a1.fh,vI a0.fN,j0] M2 .t2 (o4 rfl rfl rfl (St.o1 (α:=Tb) M2 .hd)) fun d01 P2 U5=>Aa<|Al rfl ?_
 have d2:=Br P2 .hd
 have H9:=Bs P2 .hd
 have z7:=Bu (α:=Tb) (v:=j0) (xs:=s1) d2 L (Bf (α:=Tb) P2 .hd (AD K0 (Tt J0 (Tt R5 U5))) hL)
 refine Ap hb0 func10 rfl (.cons (.many (cs:=[vI a1.fj,vI a1.fh,vI a0.fN,j0]) rfl rfl (d2.memA .t1)) .nil) rfl ?_
 cases h
 exact ⟨d2.ag,fun p q=>⟨j0,rfl,d2.kd z7 q⟩⟩
 refine Ao<|Ae rfl<|AX 2 rfl<|AR rfl ((q0.memA .t4) 2 _ rfl)<|Aj .plain rfl (jA a0.fN (vI a0.fN) q0 aw (e1 rfl)) fun g01 u2 g2 V5=>Ab (FV.nilCheck rfl)<|AX 4 rfl ?_
 have Q2:=Br g2 .hd
 have D3:=Bu (α:=Int) (v:=(vS u2 1)) (xs:=([a0.fN]:List Int)) Q2 L (Bf (α:=Int) g2 .hd (jC a0.fN (vI a0.fN) g2 L rfl) hL)
 have d4:=AD K0 (Tt J0 (Tt V5 (Bs g2 .hd)))
 obtain ⟨I8,E6,Y9,k9,A7,k00,x6⟩:=St.nthAt (α:=Tb) Q2 .hd d4 I0 H0
 obtain ⟨F4,G4,d8,rfl,B7,C7,x00⟩:=ba A7
 refine bk h fun t8 Y7 h=>RG.acts' .plain (Acts.setPart (α:=Tb) (i:=p1.toNat) (tot:=4) (ds:=[.string c0.fC,vI c0.fA,F4,G4,d8,.bool c0.fv]) (news:=[(vS u2 1)]) (full:=[.string c0.fC,vI c0.fA,F4,G4,(vS u2 1),.bool c0.fv]) Y7 Q2 E6 (fun _=>.hd) d4 x6 rfl rfl rfl rfl rfl (Rep.c1 D3) (cx c0.fC c0.fA c0.fj B7 c0.fJ C7 ([a0.fN]:List Int) D3 c0.fv) rfl (o1 (AP D3))) fun j01 ⟨p9,R2,I9,q6⟩=>Aa<|AC<|Ac<|Ab (AF rfl (R2.memA .t1))<|AQ [vI a1.fj,vI a1.fh,vI a1.fl,j0] R2 .t2 (o4 rfl rfl rfl (St.o1 (α:=Tb) R2 .hd)) fun k01 U2 W5=>Aa<|Al rfl ?_
 have j2:=Br U2 .hd
 have J9:=Bs U2 .hd
 have D7:=Bu (α:=Tb) (v:=j0) (xs:=t8) j2 L (Bf (α:=Tb) U2 .hd (AD q6 W5) hL)
 refine Ap hb0 func10 rfl (.cons (.many (cs:=[vI a1.fj,vI a1.fh,vI a1.fl,j0]) rfl rfl (j2.memA .t1)) .nil) rfl ?_
 cases h
 exact ⟨j2.ag,fun p q=>⟨j0,rfl,j2.kd D7 q⟩⟩
def cn_p (_n:Nat) (a0:Tm) (a1:List Int):Option (List Int):=
  (app ([]:List Int) a1).bind fun b0=>(if ((a0.fO % (4:UInt8)).toNat) = 0 then (bQ ((a0.fAt.toNat:Nat):Int) ((b0.length:Nat):Int)).bind fun c0=>(idx b0 c0).bind fun _x37=>(put b0 ((c0.toNat:Nat):Int) a0.fN).bind fun d0=>some d0 else (if ((a0.fO % (4:UInt8)).toNat) = 1 then (app b0 ([a0.fN]:List Int)).bind fun g0=>some g0 else (if ((a0.fO % (4:UInt8)).toNat) = 2 then (cut b0 0 (((b0.length:Nat):Int) - 1)).bind fun j0=>some j0 else some b0)))
theorem cn_c (n:Nat) {L w} (hL:hl L w) (a0:Tm) {a1:List Int} {v1_0:Value} (h1_0:Rep.R w L [v1_0] a1)  {r:List Int} (h:cn_p n a0 a1 = some r) :
 Cl 11 #[.agg #[.int .u8 (a0.fO.toNat:Int),.int .u8 (a0.fAt.toNat:Int),vI a0.fN],v1_0] w (ah w fun w' u=>∃ v0_0:Value,u = v0_0/\Rep.R w' L [v0_0] r):=by
 unfold cn_p at h
 refine AG func11 rfl rfl rfl fun _ cs0 hb0=>Ac<|RG.bx (Az w) rfl rfl fun d2 B1 A0 K1=>Af rfl<|Aa<|Ac<|Af rfl<|Aa<|Ac<|Ae rfl<|Ae rfl ?_
 have p0:=A0.nilRow 3 (Rep.size Int)
 have M1:=St.nilRowT A0 3 (Rep.size Int)
 refine bk h fun g0 k1 h=>RG.doesL .plain rfl (Bo (α:=Int) (ys:=a1) k1 p0 (fun _ _=>.hd) jx rfl rfl (AE (cs:=[]) (xs:=([]:List Int)) p0 L (AK _ _)) (Src.rep (AS h1_0 p0))) fun k0 g2 ⟨H1,b0,P1,j0⟩=>Af rfl<|Aa<|Ai<|Ac<|AX 0 rfl<|AR rfl ((b0.memA .t1) 0 _ rfl)<|Ab (FV.rem8 (a:=a0.fO) (b:=(4:UInt8)) rfl rfl (by decide))<|Aa<|AA<|Ac<|Ab (BM (i:=(a0.fO % (4:UInt8)).toNat) (j:=0) rfl rfl)<|Af rfl<|Aa<|AT rfl h (fun H0 h=>?_) (fun H0 h=>?_)
 refine du 10 fun c0 d0=>Rv 0 c0 rfl d0 (fun _=>Ak rfl)<|Rv 1 c0 rfl d0 (fun _=>AU 1 rfl)<|Rx 2 1608 c0 rfl d0 (AL rfl ((b0.memA .t1) 1 _ rfl)) ?_
 have c2:=a0.fAt.toNat_lt
 refine Rv 3 c0 rfl d0 (fun _=>FV.convN (i:=a0.fAt.toNat) underlying5 underlying3 rfl (by omega))<|Rv 4 c0 rfl d0 (fun _=>Ak rfl) ?_
 have Y1:g0.length <= 4294967296:=St.rowLe (α:=Int) b0 .hd
 obtain ⟨z1,D1,R0⟩:=St.rowV (α:=Int) b0 .hd
 refine Rx 5 1600 c0 rfl d0 (FV.lenV underlying41 rfl R0)<|bk h fun D0 d1 h=>Rv 6 c0 rfl d0 (fun _=>FV.remc (i:=((a0.fAt.toNat:Nat):Int)) (j:=((g0.length:Nat):Int)) rfl rfl d1)<|Rv 7 c0 rfl d0 (fun _=>AU 2 rfl)<|Rx 8 1536 c0 rfl d0 (AL rfl ((b0.memA .t1) 2 _ rfl))<|bk h fun v1 g1 h=>?_
 obtain ⟨W0,j1⟩:=aA g1
 obtain ⟨F0,E1,z0,C0,K0,X0,b2⟩:=St.nth (α:=Int) b0 .hd j0 j1
 obtain ⟨G0,F1,B0⟩:=BJ (α:=Int) b0 .hd C0
 obtain rfl:F0 = ⟨G0,0,none⟩:=by rw [B0] at z0; cases z0; rfl
 have U0:K0 = [vI v1]:=X0; subst U0
 refine Rv 9 c0 rfl d0 (fun _=>Bj 1 (D0.toNat) rfl z0 rfl W0 C0)<|bk h fun x1 p1 h=>BT (i:=10) (rk c0) (RO.acts (m' :=2047) (sk c0) rfl rfl .plain (Acts.set (α:=Int) (i:=D0.toNat) p1 b0 B0 (fun _=>.hd) j0 rfl rfl rfl rfl rfl rfl) (fun j2 ⟨I1,q0,Q1,P0⟩=>?_))
 refine AM (dk c0)<|AC<|Ac<|Ae rfl<|Af rfl<|Aa<|Al rfl ?_
 have s0:=Br q0 .hd
 have R1:=Bs q0 .hd
 have Y0:=Bu (α:=Int) (v:=k0) (xs:=x1) s0 L (Bf (α:=Int) q0 .hd P0 hL)
 refine AY hb0 func11 rfl rfl ?_
 cases h
 exact ⟨s0.ag,fun p q=>⟨k0,rfl,s0.kd Y0 q⟩⟩
 refine Ac<|Ab (BM (i:=(a0.fO % (4:UInt8)).toNat) (j:=1) rfl rfl)<|Af rfl<|Aa<|AT rfl h (fun I0 h=>?_) (fun I0 h=>?_)
 refine Ao<|Ae rfl<|AX 2 rfl<|AR rfl ((b0.memA .t1) 2 _ rfl)<|Aj .plain rfl (jA a0.fN (vI a0.fN) b0 jx (e1 rfl)) fun k2 C1 t0 M0=>bk h fun y1 q1 h=>RG.doesL .plain rfl (Bo (α:=Int) (ys:=([a0.fN]:List Int)) q1 t0 (fun _ _=>.t1) jx rfl rfl (AD j0 M0) (Src.row (α:=Int) t0 .hd (jC a0.fN (vI a0.fN) t0 L rfl))) fun E0 p2 ⟨J1,u0,U1,Q0⟩=>Af rfl<|Aa<|AC<|Ac<|Ae rfl<|Af rfl<|Aa<|Al rfl ?_
 have v0:=Br u0 .t1
 have V1:=Bs u0 .t1
 have Z0:=Bu (α:=Int) (v:=E0) (xs:=y1) v0 L (Bf (α:=Int) u0 .t1 Q0 hL)
 refine AY hb0 func11 rfl rfl ?_
 cases h
 exact ⟨v0.ag,fun p q=>⟨E0,rfl,v0.kd Z0 q⟩⟩
 refine Ac<|Ab (BM (i:=(a0.fO % (4:UInt8)).toNat) (j:=2) rfl rfl)<|Af rfl<|Aa<|AT rfl h (fun J0 h=>?_) (fun J0 h=>?_)
 refine Ao<|Ae rfl<|Ae rfl ?_
 have Z1:g0.length <= 4294967296:=St.rowLe (α:=Int) b0 .hd
 obtain ⟨A1,G1,V0⟩:=St.rowV (α:=Int) b0 .hd
 refine Ab (FV.lenV underlying41 rfl V0)<|Ab (FV.subI (i:=((g0.length:Nat):Int)) (j:=1) rfl rfl (by omega)) ?_
 have x0:=Br b0 .hd
 have W1:=Bs b0 .hd
 refine bk h fun q2 s1 h=>RG.valE .plain rfl (FV.cutL (α:=Int) s1 rfl rfl (Bu (α:=Int) (v:=k0) (xs:=g0) x0 L (Bf (α:=Int) b0 .hd j0 hL)) rfl ⟨_,rfl⟩) fun u1 b1=>Af rfl<|Aa<|AC<|Ac<|Ae rfl<|Af rfl<|Aa<|Al rfl<|AY hb0 func11 rfl rfl ?_
 cases h
 exact ⟨x0.ag,fun p q=>⟨u1,rfl,x0.kd b1 q⟩⟩
 refine Ar<|AC<|Ac<|Ae rfl<|Af rfl<|Aa<|Al rfl ?_
 have y0:=Br b0 .hd
 have X1:=Bs b0 .hd
 have c1:=Bu (α:=Int) (v:=k0) (xs:=g0) y0 L (Bf (α:=Int) b0 .hd j0 hL)
 refine AY hb0 func11 rfl rfl ?_
 cases h
 exact ⟨y0.ag,fun p q=>⟨k0,rfl,y0.kd c1 q⟩⟩
def bI_l1 (_n:Nat) (a0:ByteArray) (g0:Int -> Option (Bool ⊕ Unit)):Int -> Option (Bool ⊕ Unit)
  | d0=>(if d0 < ((a0.size:Nat):Int) then (mP a0 d0).bind fun b0=>jn (fun j0=>(if j0 = true then some (.inl false) else (chk (d0 + 1)).bind fun k0=>g0 k0)) (fun c0=>(if 65 <= b0.toNat then (if b0.toNat <= 90 then c0 false else (if 97 <= b0.toNat then (if b0.toNat <= 122 then c0 false else (if 48 <= b0.toNat then (if b0.toNat <= 57 then c0 false else (if b0.toNat = 45 then c0 false else c0 (!(decide (b0.toNat = 95))))) else (if b0.toNat = 45 then c0 false else c0 (!(decide (b0.toNat = 95)))))) else (if 48 <= b0.toNat then (if b0.toNat <= 57 then c0 false else (if b0.toNat = 45 then c0 false else c0 (!(decide (b0.toNat = 95))))) else (if b0.toNat = 45 then c0 false else c0 (!(decide (b0.toNat = 95))))))) else (if 97 <= b0.toNat then (if b0.toNat <= 122 then c0 false else (if 48 <= b0.toNat then (if b0.toNat <= 57 then c0 false else (if b0.toNat = 45 then c0 false else c0 (!(decide (b0.toNat = 95))))) else (if b0.toNat = 45 then c0 false else c0 (!(decide (b0.toNat = 95)))))) else (if 48 <= b0.toNat then (if b0.toNat <= 57 then c0 false else (if b0.toNat = 45 then c0 false else c0 (!(decide (b0.toNat = 95))))) else (if b0.toNat = 45 then c0 false else c0 (!(decide (b0.toNat = 95)))))))) else some (.inr ()))
def bI_p (n:Nat) (a0:ByteArray):Option Bool:=
  thn (am (bI_l1 n a0) n 0) (fun _=>(if 1 <= a0.size then some (decide (a0.size <= 12)) else some false))
theorem bI_c (n:Nat) {L w} (_hL:hl L w) {a0:ByteArray}  {r:Bool} (h:bI_p n a0 = some r) :
 Cl 195 #[.string a0] w (ah w fun _ u=>u = .bool r):=by
 unfold bI_p at h
 refine AG func195 rfl rfl rfl fun _ cs0 hb0=>Ac<|Af rfl<|Aa<|Ai<|Ac<|Af rfl<|Aa<|AA<|tn h fun q1 b1 p0=>MX.lo (α:=Int) (fun g0=>[(0,.string a0),(3,vI g0)]) (fun g0=>[]) (fun g0=>g0) 0 b1 (Az w) ?_
 rintro k1 g0 s1 W0 c0 X0 h
 unfold bI_l1 at h
 try dsimp only at h
 refine Ai<|Ac<|Ae rfl<|Ae rfl<|Ab (BX underlying9 rfl)<|Ab (BK (i:=g0) (j:=((a0.size:Nat):Int)) rfl rfl)<|Aa<|AT rfl h (fun q0 h=>?_) (fun q0 h=>?_)
 refine Ar<|Ai<|AA<|Ac<|Ae rfl<|Ae rfl<|bk h fun b0 g1 h=>?_
 obtain ⟨Z0,d1⟩:=gj g1
 refine Ab (FV.strAt (k:=g0.toNat) underlying9 rfl rfl Z0 d1)<|Af rfl<|Aa<|Ai<|MX.jo (α:=Bool) (fun j0=>[(0,.string a0),(3,vI g0),(44,.bool j0)]) (fun j0=>[]) (fun j0=>j0) c0 h ?_ ?_
 rintro j0 u1 k0 Y0 h
 try dsimp only at h
 refine MX.ifb rfl h (fun s0 h=>?_) (fun s0 h=>?_)
 refine Ac<|Af rfl<|Aa ?_
 have h:=au h p0
 refine Al rfl<|AY hb0 func195 rfl rfl ?_
 cases h
 exact k0.gv
 refine Ar<|AC<|Ao<|Ae rfl<|bk h fun j1 c1 h=>Ab (BE (i:=g0) (j:=1) rfl rfl c1)<|Af rfl<|Aa<|W0 j1 k0 (Tt X0 Y0) h
 intro p1 d0 h
 try dsimp only at h
 refine Ao<|Ae rfl<|Ab (FV.geqN (i:=b0.toNat) (j:=65) rfl rfl)<|Ae rfl<|BA (s:=16) rfl h (fun t0 h=>?_) (fun t0 h=>?_)
 refine AH (Ak rfl)<|AH (FV.leqN (i:=b0.toNat) (j:=90) rfl rfl)<|Bm rfl rfl<|Ae rfl<|BA (s:=20) rfl h (fun u0 h=>?_) (fun u0 h=>?_)
 refine Au<|Au<|Au<|RG.un<|RG.un<|Au<|Bm rfl rfl<|Ae rfl<|Au<|Au<|Au<|RG.un<|RG.un<|Au<|Bm rfl rfl<|Ae rfl<|Au<|Au<|Bm rfl rfl<|Ae rfl<|Au<|Au<|Bm rfl rfl<|Ab (Bp rfl)<|Aa<|d0 false c0 (Bw _ _) h
 refine AH (Ak rfl)<|AH (FV.geqN (i:=b0.toNat) (j:=97) rfl rfl)<|AH (Ak rfl)<|BA (s:=23) rfl h (fun v0 h=>?_) (fun v0 h=>?_)
 refine AH (Ak rfl)<|AH (FV.leqN (i:=b0.toNat) (j:=122) rfl rfl)<|AH (BY rfl rfl)<|Bv rfl rfl<|Ae rfl<|BA (s:=28) rfl h (fun x0 h=>?_) (fun x0 h=>?_)
 refine Au<|Au<|Au<|RG.un<|RG.un<|Au<|Bm rfl rfl<|Ae rfl<|Au<|Au<|Bm rfl rfl<|Ae rfl<|Au<|Au<|Bm rfl rfl<|Ab (Bp rfl)<|Aa<|d0 false c0 (Bw _ _) h
 refine AH (Ak rfl)<|AH (FV.geqN (i:=b0.toNat) (j:=48) rfl rfl)<|AH (Ak rfl)<|BA (s:=31) rfl h (fun y0 h=>?_) (fun y0 h=>?_)
 refine AH (Ak rfl)<|AH (FV.leqN (i:=b0.toNat) (j:=57) rfl rfl)<|AH (BY rfl rfl)<|Bv rfl rfl<|Ae rfl<|BA (s:=36) rfl h (fun z0 h=>?_) (fun z0 h=>?_)
 refine Au<|Au<|Bm rfl rfl<|Ae rfl<|Au<|Au<|Bm rfl rfl<|Ab (Bp rfl)<|Aa<|d0 false c0 (Bw _ _) h
 refine AH (Ak rfl)<|AH (BM (i:=b0.toNat) (j:=45) rfl rfl)<|Bv rfl rfl<|Ae rfl<|BA (s:=40) rfl h (fun A0 h=>?_) (fun A0 h=>?_)
 refine Au<|Au<|Bm rfl rfl<|Ab (Bp rfl)<|Aa<|d0 false c0 (Bw _ _) h
 refine AH (Ak rfl)<|AH (BM (i:=b0.toNat) (j:=95) rfl rfl)<|Bv rfl rfl<|Ab (Bp rfl)<|Aa<|d0 (!(decide (b0.toNat = 95))) c0 (Bw _ _) h
 refine Au<|Au<|AH (Bx rfl rfl)<|Bv rfl rfl<|Ae rfl<|AH (Ak rfl)<|AH (BM (i:=b0.toNat) (j:=45) rfl rfl)<|Bv rfl rfl<|Ae rfl<|BA (s:=40) rfl h (fun B0 h=>?_) (fun B0 h=>?_)
 refine Au<|Au<|Bm rfl rfl<|Ab (Bp rfl)<|Aa<|d0 false c0 (Bw _ _) h
 refine AH (Ak rfl)<|AH (BM (i:=b0.toNat) (j:=95) rfl rfl)<|Bv rfl rfl<|Ab (Bp rfl)<|Aa<|d0 (!(decide (b0.toNat = 95))) c0 (Bw _ _) h
 refine Au<|Au<|AH (Bx rfl rfl)<|Bv rfl rfl<|Ae rfl<|AH (Ak rfl)<|AH (FV.geqN (i:=b0.toNat) (j:=48) rfl rfl)<|AH (Ak rfl)<|BA (s:=31) rfl h (fun C0 h=>?_) (fun C0 h=>?_)
 refine AH (Ak rfl)<|AH (FV.leqN (i:=b0.toNat) (j:=57) rfl rfl)<|AH (BY rfl rfl)<|Bv rfl rfl<|Ae rfl<|BA (s:=36) rfl h (fun D0 h=>?_) (fun D0 h=>?_)
 refine Au<|Au<|Bm rfl rfl<|Ae rfl<|Au<|Au<|Bm rfl rfl<|Ab (Bp rfl)<|Aa<|d0 false c0 (Bw _ _) h
 refine AH (Ak rfl)<|AH (BM (i:=b0.toNat) (j:=45) rfl rfl)<|Bv rfl rfl<|Ae rfl<|BA (s:=40) rfl h (fun E0 h=>?_) (fun E0 h=>?_)
 refine Au<|Au<|Bm rfl rfl<|Ab (Bp rfl)<|Aa<|d0 false c0 (Bw _ _) h
 refine AH (Ak rfl)<|AH (BM (i:=b0.toNat) (j:=95) rfl rfl)<|Bv rfl rfl<|Ab (Bp rfl)<|Aa<|d0 (!(decide (b0.toNat = 95))) c0 (Bw _ _) h
 refine Au<|Au<|AH (Bx rfl rfl)<|Bv rfl rfl<|Ae rfl<|AH (Ak rfl)<|AH (BM (i:=b0.toNat) (j:=45) rfl rfl)<|Bv rfl rfl<|Ae rfl<|BA (s:=40) rfl h (fun F0 h=>?_) (fun F0 h=>?_)
 refine Au<|Au<|Bm rfl rfl<|Ab (Bp rfl)<|Aa<|d0 false c0 (Bw _ _) h
 refine AH (Ak rfl)<|AH (BM (i:=b0.toNat) (j:=95) rfl rfl)<|Bv rfl rfl<|Ab (Bp rfl)<|Aa<|d0 (!(decide (b0.toNat = 95))) c0 (Bw _ _) h
 refine Au<|Au<|Bv rfl rfl<|Ae rfl<|AH (Ak rfl)<|AH (FV.geqN (i:=b0.toNat) (j:=97) rfl rfl)<|AH (Ak rfl)<|BA (s:=23) rfl h (fun G0 h=>?_) (fun G0 h=>?_)
 refine AH (Ak rfl)<|AH (FV.leqN (i:=b0.toNat) (j:=122) rfl rfl)<|AH (BY rfl rfl)<|Bv rfl rfl<|Ae rfl<|BA (s:=28) rfl h (fun H0 h=>?_) (fun H0 h=>?_)
 refine Au<|Au<|Au<|RG.un<|RG.un<|Au<|Bm rfl rfl<|Ae rfl<|Au<|Au<|Bm rfl rfl<|Ae rfl<|Au<|Au<|Bm rfl rfl<|Ab (Bp rfl)<|Aa<|d0 false c0 (Bw _ _) h
 refine AH (Ak rfl)<|AH (FV.geqN (i:=b0.toNat) (j:=48) rfl rfl)<|AH (Ak rfl)<|BA (s:=31) rfl h (fun I0 h=>?_) (fun I0 h=>?_)
 refine AH (Ak rfl)<|AH (FV.leqN (i:=b0.toNat) (j:=57) rfl rfl)<|AH (BY rfl rfl)<|Bv rfl rfl<|Ae rfl<|BA (s:=36) rfl h (fun J0 h=>?_) (fun J0 h=>?_)
 refine Au<|Au<|Bm rfl rfl<|Ae rfl<|Au<|Au<|Bm rfl rfl<|Ab (Bp rfl)<|Aa<|d0 false c0 (Bw _ _) h
 refine AH (Ak rfl)<|AH (BM (i:=b0.toNat) (j:=45) rfl rfl)<|Bv rfl rfl<|Ae rfl<|BA (s:=40) rfl h (fun K0 h=>?_) (fun K0 h=>?_)
 refine Au<|Au<|Bm rfl rfl<|Ab (Bp rfl)<|Aa<|d0 false c0 (Bw _ _) h
 refine AH (Ak rfl)<|AH (BM (i:=b0.toNat) (j:=95) rfl rfl)<|Bv rfl rfl<|Ab (Bp rfl)<|Aa<|d0 (!(decide (b0.toNat = 95))) c0 (Bw _ _) h
 refine Au<|Au<|AH (Bx rfl rfl)<|Bv rfl rfl<|Ae rfl<|AH (Ak rfl)<|AH (BM (i:=b0.toNat) (j:=45) rfl rfl)<|Bv rfl rfl<|Ae rfl<|BA (s:=40) rfl h (fun M0 h=>?_) (fun M0 h=>?_)
 refine Au<|Au<|Bm rfl rfl<|Ab (Bp rfl)<|Aa<|d0 false c0 (Bw _ _) h
 refine AH (Ak rfl)<|AH (BM (i:=b0.toNat) (j:=95) rfl rfl)<|Bv rfl rfl<|Ab (Bp rfl)<|Aa<|d0 (!(decide (b0.toNat = 95))) c0 (Bw _ _) h
 refine Au<|Au<|AH (Bx rfl rfl)<|Bv rfl rfl<|Ae rfl<|AH (Ak rfl)<|AH (FV.geqN (i:=b0.toNat) (j:=48) rfl rfl)<|AH (Ak rfl)<|BA (s:=31) rfl h (fun P0 h=>?_) (fun P0 h=>?_)
 refine AH (Ak rfl)<|AH (FV.leqN (i:=b0.toNat) (j:=57) rfl rfl)<|AH (BY rfl rfl)<|Bv rfl rfl<|Ae rfl<|BA (s:=36) rfl h (fun Q0 h=>?_) (fun Q0 h=>?_)
 refine Au<|Au<|Bm rfl rfl<|Ae rfl<|Au<|Au<|Bm rfl rfl<|Ab (Bp rfl)<|Aa<|d0 false c0 (Bw _ _) h
 refine AH (Ak rfl)<|AH (BM (i:=b0.toNat) (j:=45) rfl rfl)<|Bv rfl rfl<|Ae rfl<|BA (s:=40) rfl h (fun R0 h=>?_) (fun R0 h=>?_)
 refine Au<|Au<|Bm rfl rfl<|Ab (Bp rfl)<|Aa<|d0 false c0 (Bw _ _) h
 refine AH (Ak rfl)<|AH (BM (i:=b0.toNat) (j:=95) rfl rfl)<|Bv rfl rfl<|Ab (Bp rfl)<|Aa<|d0 (!(decide (b0.toNat = 95))) c0 (Bw _ _) h
 refine Au<|Au<|AH (Bx rfl rfl)<|Bv rfl rfl<|Ae rfl<|AH (Ak rfl)<|AH (BM (i:=b0.toNat) (j:=45) rfl rfl)<|Bv rfl rfl<|Ae rfl<|BA (s:=40) rfl h (fun U0 h=>?_) (fun U0 h=>?_)
 refine Au<|Au<|Bm rfl rfl<|Ab (Bp rfl)<|Aa<|d0 false c0 (Bw _ _) h
 refine AH (Ak rfl)<|AH (BM (i:=b0.toNat) (j:=95) rfl rfl)<|Bv rfl rfl<|Ab (Bp rfl)<|Aa<|d0 (!(decide (b0.toNat = 95))) c0 (Bw _ _) h
 refine Be rfl ?_
 have h:=aF h p0
 try dsimp only at h
 refine Ac<|Ae rfl<|Ab (BX underlying9 rfl)<|Ab (FV.geqN (i:=a0.size) (j:=1) rfl rfl)<|Ae rfl<|BA (s:=48) rfl h (fun V0 h=>?_) (fun V0 h=>?_)
 refine AH (Ak rfl)<|AH (BX underlying9 rfl)<|AH (FV.leqN (i:=a0.size) (j:=12) rfl rfl)<|Bm rfl rfl<|Af rfl<|Aa<|Al rfl<|AY hb0 func195 rfl rfl ?_
 cases h
 exact c0.gv
 refine Au<|Au<|Au<|Bv rfl rfl<|Af rfl<|Aa<|Al rfl<|AY hb0 func195 rfl rfl ?_
 cases h
 exact c0.gv
def av_l1 (_n:Nat) (a0:List Int) (a2:Int) (d0:Nat -> Option (Bool ⊕ Unit)):Nat -> Option (Bool ⊕ Unit)
  | b0=>(if b0 < a0.length then (a0[b0]?).bind fun c0=>(if c0 < 0 then some (.inl false) else (if a2 < c0 then some (.inl false) else d0 (b0 + 1))) else some (.inr ()))
def av_p (n:Nat) (a0:List Int) (a1:Int) (a2:Int):Option Bool:=
  thn (am (av_l1 n a0 a2) n 0) (fun _=>some (decide (((a0.length:Nat):Int) = a1)))
theorem av_c (n:Nat) {L w} (_hL:hl L w) {a0:List Int} {v0_0:Value} (h0_0:Rep.R w L [v0_0] a0) {a1:Int} {a2:Int}  {r:Bool} (h:av_p n a0 a1 a2 = some r) :
 Cl 196 #[v0_0,vI a1,vI a2] w (ah w fun _ u=>u = .bool r):=by
 unfold av_p at h
 refine AG func196 rfl rfl rfl fun _ cs0 hb0=>Ac<|Af rfl<|Aa<|Ai<|Ac<|Af rfl<|Aa<|AA<|tn h fun H0 A0 g0=>MX.lo (α:=Nat) (fun b0=>[(0,v0_0),(1,vI a1),(2,vI a2),(7,vI ((b0:Nat):Int))]) (fun b0=>[]) (fun b0=>b0) 0 A0 (Az w) ?_
 rintro E0 b0 I0 x0 c0 y0 h
 unfold av_l1 at h
 try dsimp only at h
 refine Ai<|Ac<|Ae rfl<|Ae rfl ?_
 have d0:=AS h0_0 c0
 have G0:a0.length <= 281474976710656:=Ba d0
 refine Ab (Bg (xs:=a0) underlying40 rfl d0)<|Ab (Bq (i:=b0) (j:=a0.length) rfl rfl)<|Aa<|AT rfl h (fun s0 h=>?_) (fun s0 h=>?_)
 refine Ar<|Ai<|AA<|Ac<|Ae rfl<|Ae rfl<|bk h fun j0 C0 h=>?_
 obtain ⟨D0,F0,k0,p0,v0,B0,q0⟩:=Bk d0 C0
 have z0:v0 = [vI j0]:=B0; subst z0
 refine Ab (Bj 1 b0 rfl k0 rfl rfl p0)<|AR rfl (q0 0 _ rfl)<|Ab (BK (i:=j0) (j:=0) rfl rfl)<|Ae rfl<|BA (s:=19) rfl h (fun t0 h=>?_) (fun t0 h=>?_)
 refine Au<|Au<|Au<|Au<|Au<|Au<|Bm rfl rfl<|Aa<|Bb rfl<|Ac<|Af rfl<|Aa ?_
 have h:=au h g0
 refine Al rfl<|AY hb0 func196 rfl rfl ?_
 cases h
 exact c0.gv
 refine AH (Ak rfl)<|AH (Ak rfl)<|AH (Bj 1 b0 rfl k0 rfl rfl p0)<|AH (AL rfl (q0 0 _ rfl))<|AH (Ak rfl)<|AH (FV.gtr (i:=j0) (j:=a2) rfl rfl)<|Bv rfl rfl<|Aa<|AT rfl h (fun u0 h=>?_) (fun u0 h=>?_)
 refine Ac<|Af rfl<|Aa ?_
 have h:=au h g0
 refine Al rfl<|AY hb0 func196 rfl rfl ?_
 cases h
 exact c0.gv
 refine Ar<|AC<|Ao<|Ae rfl<|Ab (Bn (i:=b0) (j:=1) rfl rfl (by omega))<|Af rfl<|Aa<|x0 (b0 + 1) c0 y0 h
 refine Be rfl ?_
 have h:=aF h g0
 try dsimp only at h
 refine Ac<|Ae rfl<|Ab (Bg (xs:=a0) underlying40 rfl d0)<|Ae rfl<|Ab (FV.eql (i:=((a0.length:Nat):Int)) (j:=a1) rfl rfl)<|Af rfl<|Aa<|Al rfl<|AY hb0 func196 rfl rfl ?_
 cases h
 exact c0.gv
def cx_p (n:Nat) (a0:Td) (a1:Tb):Option Bool:=
  (bI_p n a1.fC).bind fun b0=>(if b0 = true then (if a1.fA < 0 then some false else (if 1000000000 < a1.fA then some false else (av_p n a1.fj a0.fj a1.fA).bind fun c0=>(if c0 = true then (av_p n a1.fJ a0.fh (1000000000:Int)).bind fun d0=>(if d0 = true then (av_p n a1.fG a0.fl (63:Int)).bind fun g0=>(if g0 = true then (if a1.fv = true then (if a1.fA = 0 then (av_p n a1.fJ a0.fh (0:Int)).bind fun j0=>(if j0 = true then (av_p n a1.fG a0.fl (0:Int)).bind fun k0=>some k0 else some false) else some false) else some true) else some false) else some false) else some false))) else some false)
theorem cx_c (n:Nat) {L w} (hL:hl L w) (a0:Td) {v0_3:Value} (_h0_3:Rep.R w L [v0_3] a0.fu) (a1:Tb) {v1_2:Value} (h1_2:Rep.R w L [v1_2] a1.fj) {v1_3:Value} (h1_3:Rep.R w L [v1_3] a1.fJ) {v1_4:Value} (h1_4:Rep.R w L [v1_4] a1.fG)  {r:Bool} (h:cx_p n a0 a1 = some r) :
 Cl 160 #[.agg #[vI a0.fj,vI a0.fh,vI a0.fl,v0_3],.agg #[.string a1.fC,vI a1.fA,v1_2,v1_3,v1_4,.bool a1.fv]] w (ah w fun _ u=>u = .bool r):=by
 unfold cx_p at h
 refine AG func160 rfl rfl rfl fun _ cs0 hb0=>Ac<|RG.bx (Az w) rfl rfl fun Q0 J0 v0 M0=>RG.bx v0 rfl rfl fun R0 K0 b0 P0=>Af rfl<|Aa<|Ai<|Ac<|AX 0 rfl<|AR rfl ((b0.memA .hd) 0 _ rfl)<|bk h fun D0 x0 h=>Bi (.bool D0) (bd 195) rfl (e1 rfl) (fun p q=>bI_c n (b0.hL0 hL q)  x0) rfl<|Ab (Bp rfl)<|Ae rfl<|RG.ifnb (s:=9) rfl h (fun c0 h=>?_) (fun c0 h=>?_)
 refine RG.fg 1 rfl<|AH (AL rfl ((b0.memA .hd) 1 _ rfl))<|AH (BK (i:=a1.fA) (j:=0) rfl rfl)<|Bv rfl rfl<|Ae rfl<|BA (s:=14) rfl h (fun d0 h=>?_) (fun d0 h=>?_)
 refine Au<|Au<|Au<|Bm rfl rfl<|Aa<|Bb rfl<|Ac<|Af rfl<|Aa<|Al rfl<|AY hb0 func160 rfl rfl ?_
 cases h
 exact b0.gv
 refine RG.fg 1 rfl<|AH (AL rfl ((b0.memA .hd) 1 _ rfl))<|AH (FV.gtr (i:=a1.fA) (j:=1000000000) rfl rfl)<|Bv rfl rfl<|Aa<|AT rfl h (fun g0 h=>?_) (fun g0 h=>?_)
 refine Ac<|Af rfl<|Aa<|Al rfl<|AY hb0 func160 rfl rfl ?_
 cases h
 exact b0.gv
 refine Ar<|Ai<|Ac<|AX 2 rfl<|AR rfl ((b0.memA .hd) 2 _ rfl)<|AX 0 rfl<|AR rfl ((b0.memA .t1) 0 _ rfl)<|AX 1 rfl<|AR rfl ((b0.memA .hd) 1 _ rfl)<|bk h fun E0 y0 h=>Bi (.bool E0) (bd 196) rfl (e3 rfl rfl rfl) (fun p q=>av_c n (b0.hL0 hL q) (b0.k0 h1_2 q) y0) rfl<|Ab (Bp rfl)<|Ae rfl<|RG.ifnb (s:=27) rfl h (fun j0 h=>?_) (fun j0 h=>?_)
 refine RG.fg 3 rfl<|AH (AL rfl ((b0.memA .hd) 3 _ rfl))<|RG.fg 1 rfl<|AH (AL rfl ((b0.memA .t1) 1 _ rfl))<|bk h fun F0 z0 h=>RG.callq' (v:=.bool F0) (fst:=[]) (cap:=[]) (.yes rfl rfl) (bd 196) rfl (e3 rfl rfl rfl) (fun p q=>av_c n (b0.hL0 hL q) (b0.k0 h1_3 q) z0) rfl<|AH (Bp rfl)<|Bv rfl rfl<|Ae rfl<|RG.ifnb (s:=35) rfl h (fun p0 h=>?_) (fun p0 h=>?_)
 refine RG.fg 4 rfl<|AH (AL rfl ((b0.memA .hd) 4 _ rfl))<|RG.fg 2 rfl<|AH (AL rfl ((b0.memA .t1) 2 _ rfl))<|bk h fun G0 A0 h=>RG.callq' (v:=.bool G0) (fst:=[]) (cap:=[]) (.yes rfl rfl) (bd 196) rfl (e3 rfl rfl rfl) (fun p q=>av_c n (b0.hL0 hL q) (b0.k0 h1_4 q) A0) rfl<|AH (Bp rfl)<|Bv rfl rfl<|Aa<|BW rfl h (fun q0 h=>?_) (fun q0 h=>?_)
 refine Ar<|Ai<|Ac<|AX 5 rfl<|AR rfl ((b0.memA .hd) 5 _ rfl)<|Aa<|MX.ifb rfl h (fun s0 h=>?_) (fun s0 h=>?_)
 refine Ac<|AX 1 rfl<|AR rfl ((b0.memA .hd) 1 _ rfl)<|Ab (FV.eql (i:=a1.fA) (j:=0) rfl rfl)<|Ae rfl<|BA (s:=48) rfl h (fun t0 h=>?_) (fun t0 h=>?_)
 refine RG.fg 3 rfl<|AH (AL rfl ((b0.memA .hd) 3 _ rfl))<|RG.fg 1 rfl<|AH (AL rfl ((b0.memA .t1) 1 _ rfl))<|bk h fun H0 B0 h=>RG.callq' (v:=.bool H0) (fst:=[]) (cap:=[]) (.yes rfl rfl) (bd 196) rfl (e3 rfl rfl rfl) (fun p q=>av_c n (b0.hL0 hL q) (b0.k0 h1_3 q) B0) rfl<|Bm rfl rfl<|Ae rfl<|RG.ifb (s:=55) rfl h (fun u0 h=>?_) (fun u0 h=>?_)
 refine RG.fg 4 rfl<|AH (AL rfl ((b0.memA .hd) 4 _ rfl))<|RG.fg 2 rfl<|AH (AL rfl ((b0.memA .t1) 2 _ rfl))<|bk h fun I0 C0 h=>RG.callq' (v:=.bool I0) (fst:=[]) (cap:=[]) (.yes rfl rfl) (bd 196) rfl (e3 rfl rfl rfl) (fun p q=>av_c n (b0.hL0 hL q) (b0.k0 h1_4 q) C0) rfl<|Bm rfl rfl<|Af rfl<|Aa<|Al rfl<|AY hb0 func160 rfl rfl ?_
 cases h
 exact b0.gv
 refine Au<|Au<|Au<|Au<|Au<|Bv rfl rfl<|Af rfl<|Aa<|Al rfl<|AY hb0 func160 rfl rfl ?_
 cases h
 exact b0.gv
 refine Au<|Au<|Au<|Au<|Au<|Bv rfl rfl<|Ae rfl<|Au<|Au<|Au<|Au<|Au<|Bv rfl rfl<|Af rfl<|Aa<|Al rfl<|AY hb0 func160 rfl rfl ?_
 cases h
 exact b0.gv
 refine Ar<|Ac<|Af rfl<|Aa<|Al rfl<|AY hb0 func160 rfl rfl ?_
 cases h
 exact b0.gv
 refine Ac<|Af rfl<|Aa<|Al rfl<|AY hb0 func160 rfl rfl ?_
 cases h
 exact b0.gv
 refine Au<|Au<|Au<|Au<|Au<|Au<|Bm rfl rfl<|Aa<|Bb rfl<|Ac<|Af rfl<|Aa<|Al rfl<|AY hb0 func160 rfl rfl ?_
 cases h
 exact b0.gv
 refine Au<|Au<|Au<|Au<|Au<|Au<|Bm rfl rfl<|Ae rfl<|Au<|Au<|Au<|Au<|Au<|Au<|Bm rfl rfl<|Aa<|Bb rfl<|Ac<|Af rfl<|Aa<|Al rfl<|AY hb0 func160 rfl rfl ?_
 cases h
 exact b0.gv
 refine Au<|Au<|Au<|Bm rfl rfl<|Ae rfl<|Au<|Au<|Au<|Bm rfl rfl<|Aa<|Bb rfl<|Ac<|Af rfl<|Aa<|Al rfl<|AY hb0 func160 rfl rfl ?_
 cases h
 exact b0.gv

def am_l1 (_n:Nat) (j0:Nat) (a0:Td) (d0:Tb) (c0:Nat -> Option ((Int ⊕ Unit) ⊕ Unit)):Nat -> Option ((Int ⊕ Unit) ⊕ Unit)
  | b0=>(if b0 < j0 then (a0.fu[b0]?).bind fun g0=>(if g0.fC = d0.fC then some (.inl (.inl (161:Int))) else (if g0.fv = true then (if d0.fv = true then c0 (b0 + 1) else some (.inl (.inl (161:Int)))) else c0 (b0 + 1))) else some (.inr ()))
def am_l2 (n:Nat) (a0:Td) (d0:Nat -> Option (Int ⊕ Unit)):Nat -> Option (Int ⊕ Unit)
  | b0=>(if b0 < a0.fu.length then (a0.fu[b0]?).bind fun c0=>(cx_p n a0 c0).bind fun g0=>(if g0 = true then thn (am (am_l1 n b0 a0 c0) n 0) (fun _=>d0 (b0 + 1)) else some (.inl (161:Int))) else some (.inr ()))
def am_p (n:Nat) (a0:Td):Option Int:=
  jn (fun c0=>(if c0 = true then some (161:Int) else (if a0.fu.length < 1 then some (161:Int) else (if 64 < a0.fu.length then some (161:Int) else (a0.fu[0]?).bind fun d0=>(if d0.fv = true then some (161:Int) else thn (am (am_l2 n a0) n 0) (fun _=>some (0:Int))))))) (fun b0=>(if a0.fj < 0 then b0 true else (if 6 < a0.fj then b0 true else (if a0.fh < 0 then b0 true else (if 12 < a0.fh then b0 true else (if a0.fl < 0 then b0 true else b0 (decide (3 < a0.fl))))))))
theorem am_c (n:Nat) {L w} (hL:hl L w) (a0:Td) {v0_3:Value} (h0_3:Rep.R w L [v0_3] a0.fu)  {r:Int} (h:am_p n a0 = some r) :
 Cl 122 #[.agg #[vI a0.fj,vI a0.fh,vI a0.fl,v0_3]] w (ah w fun _ u=>u = vI r):=by
 unfold am_p at h
 refine AG func122 rfl rfl rfl fun _ cs0 hb0=>Ac<|RG.bx (Az w) rfl rfl fun Z2 v0 d0 t2=>Af rfl<|Aa<|Ai<|Ai<|MX.jo (α:=Bool) (fun y0=>[(1,vP v0),(32,.bool y0)]) (fun y0=>[.cells v0 [vI a0.fj,vI a0.fh,vI a0.fl,v0_3] 46]) (fun y0=>y0) d0 h ?_ ?_
 rintro y0 c3 s0 u2 h
 try dsimp only at h
 refine MX.ifb rfl h (fun V0 h=>?_) (fun V0 h=>?_)
 refine Ac<|Af rfl<|Aa<|Al rfl<|AY hb0 func122 rfl rfl ?_
 cases h
 exact s0.gv
 refine Ar<|Ai<|Ac<|AX 3 rfl<|AR rfl ((s0.memA .hd) 3 _ rfl) ?_
 have A0:=AS h0_3 s0
 have v2:a0.fu.length <= 281474976710656:=Ba A0
 refine Ab (Bg (xs:=a0.fu) underlying44 rfl A0)<|Ab (Bq (i:=a0.fu.length) (j:=1) rfl rfl)<|Ae rfl<|BA (s:=37) rfl h (fun j1 h=>?_) (fun j1 h=>?_)
 refine Au<|Au<|Au<|Au<|Bm rfl rfl<|Ae rfl<|Au<|Au<|Au<|Au<|Au<|Bm rfl rfl<|Aa<|Bb rfl<|Ac<|Af rfl<|Aa<|Al rfl<|AY hb0 func122 rfl rfl ?_
 cases h
 exact s0.gv
 refine RG.fg 3 rfl<|AH (AL rfl ((s0.memA .hd) 3 _ rfl))<|AH (Bg (xs:=a0.fu) underlying44 rfl A0)<|AH (FV.gtrN (i:=a0.fu.length) (j:=64) rfl rfl)<|Bv rfl rfl<|Ae rfl<|BA (s:=43) rfl h (fun k1 h=>?_) (fun k1 h=>?_)
 refine Au<|Au<|Au<|Au<|Au<|Bm rfl rfl<|Aa<|Bb rfl<|Ac<|Af rfl<|Aa<|Al rfl<|AY hb0 func122 rfl rfl ?_
 cases h
 exact s0.gv
 refine RG.fg 3 rfl<|AH (AL rfl ((s0.memA .hd) 3 _ rfl))<|bk h fun j3 M1 h=>?_
 obtain ⟨X1,j2,v1,y1,s2,J1,A1⟩:=Bk A0 M1
 obtain ⟨W2,X2,Y2,rfl,D2,E2,F2⟩:=ba J1
 refine AH (Bj 6 0 rfl v1 rfl rfl y1)<|RG.fg 5 rfl<|AH (AL rfl (A1 5 _ rfl))<|Bv rfl rfl<|Aa<|MX.ifb rfl h (fun p1 h=>?_) (fun p1 h=>?_)
 refine Ac<|Af rfl<|Aa<|Al rfl<|AY hb0 func122 rfl rfl ?_
 cases h
 exact s0.gv
 refine Ar<|Ai<|Ac<|Af rfl<|Aa<|AA<|tn h fun G2 B1 z0=>MX.lo (α:=Nat) (fun g0=>[(1,vP v0),(3,vI ((g0:Nat):Int))]) (fun g0=>[.cells v0 [vI a0.fj,vI a0.fh,vI a0.fl,v0_3] 46]) (fun g0=>g0) 0 B1 s0 ?_
 rintro Y1 g0 b3 q1 j0 s1 h
 unfold am_l2 at h
 try dsimp only at h
 refine Ai<|Ac<|Ae rfl<|AX 3 rfl<|AR rfl ((j0.memA .hd) 3 _ rfl) ?_
 have I0:=AS h0_3 j0
 refine Ab (Bg (xs:=a0.fu) underlying44 rfl I0)<|Ab (Bq (i:=g0) (j:=a0.fu.length) rfl rfl)<|Aa<|AT rfl h (fun Q0 h=>?_) (fun Q0 h=>?_)
 refine Ar<|Ai<|AA<|Ai<|Ai<|du 8 fun t0 u0=>Rx 0 192 t0 rfl u0 (AF rfl (j0.memA .hd))<|Rv 1 t0 rfl u0 (fun _=>AU 3 rfl)<|Rx 2 240 t0 rfl u0 (AL rfl ((j0.memA .hd) 3 _ rfl))<|Rv 3 t0 rfl u0 (fun _=>Ak rfl)<|bk h fun Q1 P0 h=>?_
 obtain ⟨U1,c2,u1,x1,k2,D1,z1⟩:=Bk I0 P0
 obtain ⟨I2,J2,K2,rfl,E1,F1,G1⟩:=ba D1
 refine Rv 4 t0 rfl u0 (fun _=>Bj 6 g0 rfl u1 rfl rfl x1)<|Rx 5 192 t0 rfl u0 (AF rfl z1)<|bk h fun R1 P1 h=>BG 6 127 128 (.bool R1) t0 rfl u0 (bd 160) rfl (e2 rfl rfl) (fun w9 hw9=>cx_c n (j0.hL0 hL hw9) a0 (j0.k0 h0_3 hw9) Q1 (j0.kd E1 hw9) (j0.kd F1 hw9) (j0.kd G1 hw9) P1) rfl<|Rv 7 t0 rfl u0 (fun _=>Bp rfl)<|AM (dk t0)<|BW rfl h (fun R0 h=>?_) (fun R0 h=>?_)
 refine Ar<|Ac<|Af rfl<|Aa<|AA<|tn h fun H2 C1 C0=>MX.lo (α:=Nat) (fun p0=>[(1,vP v0),(3,vI ((g0:Nat):Int)),(4,vI ((p0:Nat):Int))]) (fun p0=>[.cells v0 [vI a0.fj,vI a0.fh,vI a0.fl,v0_3] 46]) (fun p0=>p0) 0 C1 j0 ?_
 rintro Z1 p0 d3 D0 q0 B0 h
 unfold am_l1 at h
 try dsimp only at h
 refine Ai<|Ac<|Ae rfl<|Ae rfl<|Ab (Bq (i:=p0) (j:=g0) rfl rfl)<|Aa<|AT rfl h (fun U0 h=>?_) (fun U0 h=>?_)
 refine Ar<|Ai<|AA<|Ai<|du 30 fun b0 c0=>Rv 0 b0 rfl c0 (fun _=>AU 3 rfl)<|Rx 1 1073737784 b0 rfl c0 (AL rfl ((q0.memA .hd) 3 _ rfl))<|Rv 2 b0 rfl c0 (fun _=>Ak rfl)<|bk h fun g3 K1 h=>?_
 have K0:=AS h0_3 q0
 obtain ⟨V1,d2,E0,G0,p2,H1,J0⟩:=Bk K0 K1
 obtain ⟨M2,P2,Q2,rfl,x2,y2,z2⟩:=ba H1
 refine Rv 3 b0 rfl c0 (fun _=>Bj 6 p0 rfl E0 rfl rfl G0)<|Rv 4 b0 rfl c0 (fun _=>AU 0 rfl)<|Rx 5 1073737728 b0 rfl c0 (AL rfl (J0 0 _ rfl))<|Rv 6 b0 rfl c0 (fun _=>AU 3 rfl)<|Rx 7 1073741312 b0 rfl c0 (AL rfl ((q0.memA .hd) 3 _ rfl))<|Rv 8 b0 rfl c0 (fun _=>Ak rfl) ?_
 obtain ⟨W1,g2,F0,H0,q2,I1,M0⟩:=Bk K0 P0
 obtain ⟨R2,U2,V2,rfl,A2,B2,C2⟩:=ba I1
 refine Rv 9 b0 rfl c0 (fun _=>Bj 6 g0 rfl F0 rfl rfl H0)<|Rv 10 b0 rfl c0 (fun _=>AU 0 rfl)<|Rx 11 1073737728 b0 rfl c0 (AL rfl (M0 0 _ rfl))<|Rv 12 b0 rfl c0 (fun _=>FV.eqlS rfl rfl)<|Rv 13 b0 rfl c0 (fun _=>Ak rfl)<|RD.ifd (s:=83) rfl h (fun W0 h=>?_) (fun W0 h=>?_)
 refine BN 536870911 1 [(14,84),(15,85),(16,86),(17,87),(18,88),(19,89),(20,90),(21,91),(22,92),(23,93),(24,94),(25,95),(26,96),(27,97),(28,98)] (F:=[(83,true)]) (U:=[]) b0 c0 (.cons rfl .nil) .nil ?_
 dsimp only [bf,List.map]
 refine Rv 29 b0 rfl c0 (fun _=>BY rfl rfl)<|AM (dk b0)<|Bb rfl<|Ac<|Af rfl<|Aa ?_
 have h:=au h C0
 have h:=au h z0
 refine Al rfl<|AY hb0 func122 rfl rfl ?_
 cases h
 exact q0.gv
 refine RD.vP 14 32767 b0 rfl c0 (.yes rfl rfl) (fun _=>AU 3 rfl) rfl<|RD.val (i:=15) (m' :=65535) (W:=1073610752) (tk b0) rfl c0 (.yes rfl rfl) (AL rfl ((q0.memA .hd) 3 _ rfl)) rfl<|RD.vP 16 131071 b0 rfl c0 (.yes rfl rfl) (fun _=>Ak rfl) rfl<|RD.vP 17 262143 b0 rfl c0 (.yes rfl rfl) (fun _=>Bj 6 p0 rfl E0 rfl rfl G0) rfl<|RD.vP 18 524287 b0 rfl c0 (.yes rfl rfl) (fun _=>AU 5 rfl) rfl<|RD.val (i:=19) (m' :=1048575) (W:=1072693248) (tk b0) rfl c0 (.yes rfl rfl) (AL rfl (J0 5 _ rfl)) rfl<|RD.vP 20 2097151 b0 rfl c0 (.yes rfl rfl) (fun _=>Ak rfl) rfl<|RD.ifb (s:=90) rfl h (fun X0 h=>?_) (fun X0 h=>?_)
 refine RD.vP 21 4194303 b0 rfl c0 (.yes rfl rfl) (fun _=>AU 3 rfl) rfl<|RD.val (i:=22) (m' :=8388607) (W:=1056964608) (tk b0) rfl c0 (.yes rfl rfl) (AL rfl ((q0.memA .hd) 3 _ rfl)) rfl<|RD.vP 23 16777215 b0 rfl c0 (.yes rfl rfl) (fun _=>Ak rfl) rfl<|RD.vP 24 33554431 b0 rfl c0 (.yes rfl rfl) (fun _=>Bj 6 g0 rfl F0 rfl rfl H0) rfl<|RD.vP 25 67108863 b0 rfl c0 (.yes rfl rfl) (fun _=>AU 5 rfl) rfl<|RD.val (i:=26) (m' :=134217727) (W:=939524096) (tk b0) rfl c0 (.yes rfl rfl) (AL rfl (M0 5 _ rfl)) rfl<|RD.vP 27 268435455 b0 rfl c0 (.yes rfl rfl) (fun _=>Bp rfl) rfl<|RD.vP 28 536870911 b0 rfl c0 (.yes rfl rfl) (fun _=>BY rfl rfl) rfl<|Rv 29 b0 rfl c0 (fun _=>Bx rfl rfl)<|AM (dk b0)<|BW rfl h (fun Y0 h=>?_) (fun Y0 h=>?_)
 refine Ar<|AC<|Ao<|Ae rfl<|Ab (Bn (i:=p0) (j:=1) rfl rfl (by omega))<|Af rfl<|Aa<|D0 (p0 + 1) q0 B0 h
 refine Ac<|Af rfl<|Aa ?_
 have h:=au h C0
 have h:=au h z0
 refine Al rfl<|AY hb0 func122 rfl rfl ?_
 cases h
 exact q0.gv
 refine BN 268435455 2 [(21,91),(22,92),(23,93),(24,94),(25,95),(26,96),(27,97)] (F:=[(90,false)]) (U:=[]) b0 c0 (.cons rfl .nil) .nil ?_
 dsimp only [bf,List.map]
 refine RD.vP 28 536870911 b0 rfl c0 (.yes rfl rfl) (fun _=>Bx rfl rfl) rfl<|Rv 29 b0 rfl c0 (fun _=>Bx rfl rfl)<|AM (dk b0)<|BI rfl<|Ar<|AC<|Ao<|Ae rfl<|Ab (Bn (i:=p0) (j:=1) rfl rfl (by omega))<|Af rfl<|Aa<|D0 (p0 + 1) q0 B0 h
 refine Be rfl ?_
 have h:=aF h C0
 try dsimp only at h
 refine AC<|Ao<|Ae rfl<|Ab (Bn (i:=g0) (j:=1) rfl rfl (by omega))<|Af rfl<|Aa<|q1 (g0 + 1) q0 (Tt s1 B0) h
 refine Ac<|Af rfl<|Aa ?_
 have h:=au h z0
 refine Al rfl<|AY hb0 func122 rfl rfl ?_
 cases h
 exact j0.gv
 refine Be rfl ?_
 have h:=aF h z0
 try dsimp only at h
 refine Ac<|Af rfl<|Aa<|Al rfl<|AY hb0 func122 rfl rfl ?_
 cases h
 exact j0.gv
 intro b2 x0 h
 try dsimp only at h
 refine Ao<|AX 0 rfl<|AR rfl ((d0.memA .hd) 0 _ rfl)<|Ab (BK (i:=a0.fj) (j:=0) rfl rfl)<|Ae rfl<|BA (s:=8) rfl h (fun Z0 h=>?_) (fun Z0 h=>?_)
 refine Au<|Au<|Au<|Bm rfl rfl<|Ae rfl<|Au<|Au<|Au<|Bm rfl rfl<|Ae rfl<|Au<|Au<|Au<|Bm rfl rfl<|Ae rfl<|Au<|Au<|Au<|Bm rfl rfl<|Ae rfl<|Au<|Au<|Au<|Bm rfl rfl<|Aa<|x0 true d0 (Bw _ _) h
 refine RG.fg 0 rfl<|AH (AL rfl ((d0.memA .hd) 0 _ rfl))<|AH (FV.gtr (i:=a0.fj) (j:=6) rfl rfl)<|Bv rfl rfl<|Ae rfl<|BA (s:=13) rfl h (fun b1 h=>?_) (fun b1 h=>?_)
 refine Au<|Au<|Au<|Bm rfl rfl<|Ae rfl<|Au<|Au<|Au<|Bm rfl rfl<|Ae rfl<|Au<|Au<|Au<|Bm rfl rfl<|Ae rfl<|Au<|Au<|Au<|Bm rfl rfl<|Aa<|x0 true d0 (Bw _ _) h
 refine RG.fg 1 rfl<|AH (AL rfl ((d0.memA .hd) 1 _ rfl))<|AH (BK (i:=a0.fh) (j:=0) rfl rfl)<|Bv rfl rfl<|Ae rfl<|BA (s:=18) rfl h (fun c1 h=>?_) (fun c1 h=>?_)
 refine Au<|Au<|Au<|Bm rfl rfl<|Ae rfl<|Au<|Au<|Au<|Bm rfl rfl<|Ae rfl<|Au<|Au<|Au<|Bm rfl rfl<|Aa<|x0 true d0 (Bw _ _) h
 refine RG.fg 1 rfl<|AH (AL rfl ((d0.memA .hd) 1 _ rfl))<|AH (FV.gtr (i:=a0.fh) (j:=12) rfl rfl)<|Bv rfl rfl<|Ae rfl<|BA (s:=23) rfl h (fun d1 h=>?_) (fun d1 h=>?_)
 refine Au<|Au<|Au<|Bm rfl rfl<|Ae rfl<|Au<|Au<|Au<|Bm rfl rfl<|Aa<|x0 true d0 (Bw _ _) h
 refine RG.fg 2 rfl<|AH (AL rfl ((d0.memA .hd) 2 _ rfl))<|AH (BK (i:=a0.fl) (j:=0) rfl rfl)<|Bv rfl rfl<|Ae rfl<|BA (s:=28) rfl h (fun g1 h=>?_) (fun g1 h=>?_)
 refine Au<|Au<|Au<|Bm rfl rfl<|Aa<|x0 true d0 (Bw _ _) h
 refine RG.fg 2 rfl<|AH (AL rfl ((d0.memA .hd) 2 _ rfl))<|AH (FV.gtr (i:=a0.fl) (j:=3) rfl rfl)<|Bv rfl rfl<|Aa<|x0 (decide (3 < a0.fl)) d0 (Bw _ _) h
def br_l1 (_n:Nat) (a0:Td) (c0:Nat -> Option Nat):Nat -> Option Nat
  | b0=>(if b0 < a0.fu.length then (a0.fu[b0]?).bind fun d0=>(if d0.fv = true then some b0 else c0 (b0 + 1)) else some b0)
def br_p (n:Nat) (a0:Td):Option Int:=
  jn (fun c0=>some ((c0:Nat):Int)) (fun b0=>Option.bind (am (br_l1 n a0) n 0) (b0))
theorem br_c (n:Nat) {L w} (_hL:hl L w) (a0:Td) {v0_3:Value} (h0_3:Rep.R w L [v0_3] a0.fu)  {r:Int} (h:br_p n a0 = some r) :
 Cl 197 #[.agg #[vI a0.fj,vI a0.fh,vI a0.fl,v0_3]] w (ah w fun _ u=>u = vI r):=by
 unfold br_p at h
 refine AG func197 rfl rfl rfl fun _ cs0 hb0=>Ac<|RG.bx (Az w) rfl rfl fun d1 k0 q0 Q0=>Af rfl<|Aa<|Ac<|Af rfl<|Aa<|Ai<|AA<|MX.xo (α:=Nat) 0 (fun d0=>[(3,vI ((d0:Nat):Int))]) (fun d0=>[]) (fun d0=>d0) q0 rfl h ?_ ?_
 rintro d0 j1 z0 R0 h
 try dsimp only at h
 refine Ac<|Ae rfl<|Af rfl<|Aa<|Al rfl<|AY hb0 func197 rfl rfl ?_
 cases h
 exact z0.gv
 intro K0 p0 h
 try dsimp only at h
 obtain ⟨Y0,F0,s0⟩:=aq h
 refine MX.lo (α:=Nat) (fun b0=>[(1,vP k0),(3,vI ((b0:Nat):Int))]) (fun b0=>[.cells k0 [vI a0.fj,vI a0.fh,vI a0.fl,v0_3] 46]) (fun b0=>b0) 0 F0 q0 ?_
 rintro J0 b0 g1 v0 c0 g0 h
 unfold br_l1 at h
 try dsimp only at h
 refine Ai<|Ac<|Ae rfl<|AX 3 rfl<|AR rfl ((c0.memA .hd) 3 _ rfl) ?_
 have j0:=AS h0_3 c0
 have U0:a0.fu.length <= 281474976710656:=Ba j0
 refine Ab (Bg (xs:=a0.fu) underlying44 rfl j0)<|Ab (Bq (i:=b0) (j:=a0.fu.length) rfl rfl)<|Ae rfl<|BA (s:=9) rfl h (fun t0 h=>?_) (fun t0 h=>?_)
 refine RG.fg 3 rfl<|AH (AL rfl ((c0.memA .hd) 3 _ rfl))<|AH (Ak rfl)<|bk h fun k1 H0 h=>?_
 obtain ⟨I0,M0,C0,D0,P0,G0,E0⟩:=Bk j0 H0
 obtain ⟨Z0,b1,c1,rfl,V0,W0,X0⟩:=ba G0
 refine AH (Bj 6 b0 rfl C0 rfl rfl D0)<|RG.fg 5 rfl<|AH (AL rfl (E0 5 _ rfl))<|AH (Bp rfl)<|Bm rfl rfl<|Aa<|BW rfl h (fun u0 h=>?_) (fun u0 h=>?_)
 refine Be rfl ?_
 have h:=s0 _ h
 try dsimp only at h
 obtain ⟨x0,A0⟩:=AI c0 .done
 exact p0 b0 x0 (Tt g0 A0) h
 refine Ar<|AA<|Ao<|Ae rfl<|Ab (Bn (i:=b0) (j:=1) rfl rfl (by omega))<|Af rfl<|Aa<|AC<|v0 (b0 + 1) c0 g0 h
 refine Au<|Au<|Au<|Au<|Au<|Au<|Au<|Bv rfl rfl<|Aa<|BI rfl<|Be rfl ?_
 have h:=s0 _ h
 try dsimp only at h
 obtain ⟨y0,B0⟩:=AI c0 .done
 exact p0 b0 y0 (Tt g0 B0) h
def cZ_p (n:Nat) (a0:Td):Option (Int × Int):=
  (am_p n a0).bind fun b0=>(if b0 = 0 then (br_p n a0).bind fun c0=>some (c0,(0:Int)) else some ((0:Int),b0))
theorem cZ_c (n:Nat) {L w} (hL:hl L w) (a0:Td) {v0_3:Value} (h0_3:Rep.R w L [v0_3] a0.fu)  {r:Int × Int} (h:cZ_p n a0 = some r) :
 Cl 161 #[.agg #[vI a0.fj,vI a0.fh,vI a0.fl,v0_3]] w (ah w fun _ u=>u = .tuple #[vI r.1,vI r.2]):=by
 unfold cZ_p at h
 refine AG func161 rfl rfl rfl fun _ cs0 hb0=>Ac<|RG.bx (Az w) rfl rfl fun t0 q0 b0 s0=>Af rfl<|Af rfl<|Aa<|Ai<|Ac<|Ab (AF rfl (b0.memA .hd))<|bk h fun c0 g0 h=>Bi (vI c0) (bd 122) rfl (e1 rfl) (fun w9 hw9=>am_c n (b0.hL0 hL hw9) a0 (b0.k0 h0_3 hw9) g0) rfl<|Af rfl<|Aa<|Ac<|Ae rfl<|Ab (FV.neq (i:=c0) (j:=0) rfl rfl)<|Aa<|MX.ifn rfl h (fun d0 h=>?_) (fun d0 h=>?_)
 refine Ar<|Ac<|Ab (AF rfl (b0.memA .hd))<|bk h fun p0 j0 h=>Bi (vI p0) (bd 197) rfl (e1 rfl) (fun w9 hw9=>br_c n (b0.hL0 hL hw9) a0 (b0.k0 h0_3 hw9) j0) rfl<|Af rfl<|Af rfl<|Aa<|Al rfl<|Ap hb0 func161 rfl (.cons (.tmp rfl) (.cons (.tmp rfl) .nil)) rfl ?_
 cases h
 exact b0.gv
 refine Ac<|Ae rfl<|Af rfl<|Af rfl<|Aa<|Al rfl<|Ap hb0 func161 rfl (.cons (.tmp rfl) (.cons (.tmp rfl) .nil)) rfl ?_
 cases h
 exact b0.gv
def dc_p (n:Nat) (a0:Td):Option Int:=
  (cZ_p n a0).bind fun b0=>some b0.1
theorem dc_c (n:Nat) {L w} (hL:hl L w) (a0:Td) {v0_3:Value} (h0_3:Rep.R w L [v0_3] a0.fu)  {r:Int} (h:dc_p n a0 = some r) :
 Cl 123 #[.agg #[vI a0.fj,vI a0.fh,vI a0.fl,v0_3]] w (ah w fun _ u=>u = vI r):=by
 unfold dc_p at h
 refine AG func123 rfl rfl rfl fun _ cs0 hb0=>Ac<|RG.bx (Az w) rfl rfl fun p0 g0 b0 j0=>Af rfl<|Aa<|Ac<|Ab (AF rfl (b0.memA .hd))<|bk h fun c0 d0 h=>Bi (.tuple #[vI c0.1,vI c0.2]) (bd 161) rfl (e1 rfl) (fun w9 hw9=>cZ_c n (b0.hL0 hL hw9) a0 (b0.k0 h0_3 hw9) d0) rfl<|Ae rfl<|Ab (Ah rfl rfl)<|Ab (Ah rfl rfl)<|Af rfl<|Af rfl<|Aa<|Ac<|Ae rfl<|Af rfl<|Aa<|Al rfl<|AY hb0 func123 rfl rfl ?_
 cases h
 exact b0.gv
def bH_p (n:Nat) (a0:Td) (a1:Int):Option Int:=
  (am_p n a0).bind fun b0=>(if b0 = 0 then (if a1 < 1 then some (2:Int) else (if 8 < a1 then some (2:Int) else some (0:Int))) else some b0)
theorem bH_c (n:Nat) {L w} (hL:hl L w) (a0:Td) {v0_3:Value} (h0_3:Rep.R w L [v0_3] a0.fu) {a1:Int}  {r:Int} (h:bH_p n a0 a1 = some r) :
 Cl 165 #[.agg #[vI a0.fj,vI a0.fh,vI a0.fl,v0_3],vI a1] w (ah w fun _ u=>u = vI r):=by
 unfold bH_p at h
 refine AG func165 rfl rfl rfl fun _ cs0 hb0=>Ac<|RG.bx (Az w) rfl rfl fun t0 q0 b0 s0=>Af rfl<|Aa<|Ai<|Ac<|Ab (AF rfl (b0.memA .hd))<|bk h fun c0 p0 h=>Bi (vI c0) (bd 122) rfl (e1 rfl) (fun w9 hw9=>am_c n (b0.hL0 hL hw9) a0 (b0.k0 h0_3 hw9) p0) rfl<|Af rfl<|Aa<|Ac<|Ae rfl<|Ab (FV.neq (i:=c0) (j:=0) rfl rfl)<|Aa<|MX.ifn rfl h (fun d0 h=>?_) (fun d0 h=>?_)
 refine Ar<|Ai<|Ac<|Ae rfl<|Ab (BK (i:=a1) (j:=1) rfl rfl)<|Ae rfl<|BA (s:=13) rfl h (fun g0 h=>?_) (fun g0 h=>?_)
 refine Au<|Au<|Bm rfl rfl<|Aa<|Bb rfl<|Ac<|Af rfl<|Aa<|Al rfl<|AY hb0 func165 rfl rfl ?_
 cases h
 exact b0.gv
 refine AH (Ak rfl)<|AH (FV.gtr (i:=a1) (j:=8) rfl rfl)<|Bv rfl rfl<|Aa<|AT rfl h (fun j0 h=>?_) (fun j0 h=>?_)
 refine Ac<|Af rfl<|Aa<|Al rfl<|AY hb0 func165 rfl rfl ?_
 cases h
 exact b0.gv
 refine Ar<|Ac<|Af rfl<|Aa<|Al rfl<|AY hb0 func165 rfl rfl ?_
 cases h
 exact b0.gv
 refine Ac<|Ae rfl<|Af rfl<|Aa<|Al rfl<|AY hb0 func165 rfl rfl ?_
 cases h
 exact b0.gv
def aN_l1 (_n:Nat) (a2:Int) (j0:List Bool) (c0:Int -> Option (Bool ⊕ Unit)):Int -> Option (Bool ⊕ Unit)
  | b0=>(if b0 < a2 then (idx j0 b0).bind fun g0=>(if g0 = true then (chk (b0 + 1)).bind fun d0=>c0 d0 else some (.inl false)) else some (.inr ()))
def aN_l2 (_n:Nat) (a1:Int) (a0:List Int) (a2:Int) (g0:Int × (List Bool) -> Option (Bool ⊕ (List Bool))):Int × (List Bool) -> Option (Bool ⊕ (List Bool))
  | (d0,c0)=>(if d0 < a1 then (idx a0 d0).bind fun b0=>(if b0 < 0 then some (.inl false) else (if a2 <= b0 then some (.inl false) else (idx c0 b0).bind fun _x127=>(put c0 ((b0.toNat:Nat):Int) true).bind fun k0=>(chk (d0 + 1)).bind fun j0=>g0 (j0,k0))) else some (.inr c0))
def aN_p (n:Nat) (a0:List Int) (a1:Int) (a2:Int):Option Bool:=
  (if ((a0.length:Nat):Int) = a1 then (mk a2 false).bind fun c0=>thn (am (aN_l2 n a1 a0 a2) n (0,c0)) (fun b0=>thn (am (aN_l1 n a2 b0) n 0) (fun _=>some true)) else some false)
theorem aN_c (n:Nat) {L w} (_hL:hl L w) {a0:List Int} {v0_0:Value} (h0_0:Rep.R w L [v0_0] a0) {a1:Int} {a2:Int}  {r:Bool} (h:aN_p n a0 a1 a2 = some r) :
 Cl 166 #[v0_0,vI a1,vI a2] w (ah w fun _ u=>u = .bool r):=by
 unfold aN_p at h
 have hS0:=Az w
 refine AG func166 rfl rfl rfl fun _ cs0 hb0=>Ac<|Af rfl<|Aa<|Ai<|Ac<|Ae rfl ?_
 have hl1:a0.length <= 281474976710656:=Ba h0_0
 refine Ab (Bg (xs:=a0) underlying41 rfl h0_0)<|Ae rfl<|Ab (FV.neq (i:=((a0.length:Nat):Int)) (j:=a1) rfl rfl)<|Aa<|MX.ifn rfl h (fun c2 h=>?_) (fun c2 h=>?_)
 refine Ar<|Ac<|Ae rfl<|bk h fun J0 H0 h=>Aj .plain rfl (Does.mk (α:=Bool) H0 hS0 hH rfl) fun x2 k0 B0 s2=>Af rfl<|Aa<|Ai<|Ac<|Af rfl<|Aa<|AA<|tn h fun u2 B1 x0=>MX.lf (α:=Int × (List Bool) × (List Value)) (fun ⟨b0,c0,d0⟩=>[(0,v0_0),(1,vI a1),(2,vI a2),(7,(.slice (some ⟨k0,0,none⟩) a2.toNat a2.toNat)),(8,vI b0)]) (fun ⟨b0,c0,d0⟩=>[rr w 4 Bool (.slice (some ⟨k0,0,none⟩) a2.toNat a2.toNat) c0.length d0]) (fun ⟨b0,c0,d0⟩ I0=>Cells I0 (bl [rr w 4 Bool (.slice (some ⟨k0,0,none⟩) a2.toNat a2.toNat) c0.length d0] ++ L) d0 c0) (fun ⟨b0,c0,d0⟩=>(b0,c0)) (0,J0,(List.replicate a2.toNat [.bool false]).flatten) B1 B0 (AE (cs:=(List.replicate a2.toNat [.bool false]).flatten) (xs:=J0) B0 L (BR H0 rfl)) ?_
 rintro b2 ⟨b0,c0,d0⟩ I0 d1 j0 k1 s0 h
 unfold aN_l2 at h
 try dsimp only at h
 refine Ai<|Ac<|Ae rfl<|Ae rfl<|Ab (BK (i:=b0) (j:=a1) rfl rfl)<|Aa<|AT rfl h (fun R0 h=>?_) (fun R0 h=>?_)
 refine Ar<|Ai<|AA<|Ai<|Ac<|Ae rfl<|Ae rfl<|bk h fun q0 I1 h=>?_
 obtain ⟨y0,J1⟩:=aA I1
 obtain ⟨Z1,g2,t0,z0,Y0,D1,A0⟩:=Bk (AS h0_0 j0) J1
 have s1:Y0 = [vI q0]:=D1; subst s1
 refine Ab (Bj 1 (b0.toNat) rfl t0 rfl y0 z0)<|AR rfl (A0 0 _ rfl)<|Ab (BK (i:=q0) (j:=0) rfl rfl)<|Ae rfl<|BA (s:=26) rfl h (fun U0 h=>?_) (fun U0 h=>?_)
 refine Au<|Au<|Au<|Au<|Au<|Au<|Bm rfl rfl<|Aa<|Bb rfl<|Ac<|Af rfl<|Aa ?_
 have h:=au h x0
 refine Al rfl<|AY hb0 func166 rfl rfl ?_
 cases h
 exact j0.gv
 refine AH (Ak rfl)<|AH (Ak rfl)<|AH (Bj 1 (b0.toNat) rfl t0 rfl y0 z0)<|AH (AL rfl (A0 0 _ rfl))<|AH (Ak rfl)<|AH (FV.geq (i:=q0) (j:=a2) rfl rfl)<|Bv rfl rfl<|Aa<|AT rfl h (fun V0 h=>?_) (fun V0 h=>?_)
 refine Ac<|Af rfl<|Aa ?_
 have h:=au h x0
 refine Al rfl<|AY hb0 func166 rfl rfl ?_
 cases h
 exact j0.gv
 refine Ar<|Ao<|Ae rfl<|Ae rfl<|Ae rfl<|Ab (Bj 1 (b0.toNat) rfl t0 rfl y0 z0)<|AR rfl (A0 0 _ rfl)<|bk h fun W1 K1 h=>?_
 obtain ⟨y1,M1⟩:=aA K1
 obtain ⟨K0,j2,u0,F0,Z0,E1,t2⟩:=St.nth (α:=Bool) j0 .hd s0 M1
 obtain ⟨P0,k2,D0⟩:=BJ (α:=Bool) j0 .hd F0
 obtain rfl:K0 = ⟨P0,0,none⟩:=by rw [D0] at u0; cases u0; rfl
 have u1:Z0 = [.bool W1]:=E1; subst u1
 refine Ab (Bj 1 (q0.toNat) rfl u0 rfl y1 F0)<|bk h fun Y1 R1 h=>RG.acts' .plain (Acts.set (α:=Bool) (i:=q0.toNat) R1 j0 D0 (fun _=>.hd) s0 rfl rfl rfl rfl rfl rfl) fun y2 ⟨b1,j1,p1,q1⟩=>Aa<|AC<|Ao<|Ae rfl<|bk h fun U1 G1 h=>Ab (BE (i:=b0) (j:=1) rfl rfl G1)<|Af rfl<|Aa<|d1 (U1,Y1,b1) j1 (Tt k1 p1) q1 h
 refine Be rfl ?_
 have h:=aF h x0
 try dsimp only at h
 refine Ai<|Ac<|Af rfl<|Aa<|AA<|tn h fun v2 C1 E0=>MX.lo (α:=Int) (fun g0=>[(2,vI a2),(7,(.slice (some ⟨k0,0,none⟩) a2.toNat a2.toNat)),(9,vI g0)]) (fun g0=>[rr w 4 Bool (.slice (some ⟨k0,0,none⟩) a2.toNat a2.toNat) c0.length d0]) (fun g0=>g0) 0 C1 j0 ?_
 rintro d2 g0 z2 g1 p0 C0 h
 unfold aN_l1 at h
 try dsimp only at h
 refine Ai<|Ac<|Ae rfl<|Ae rfl<|Ab (BK (i:=g0) (j:=a2) rfl rfl)<|Aa<|AT rfl h (fun W0 h=>?_) (fun W0 h=>?_)
 refine Ar<|Ai<|AA<|Ac<|Ae rfl<|Ae rfl<|bk h fun X1 P1 h=>?_
 obtain ⟨z1,Q1⟩:=aA P1
 obtain ⟨M0,p2,v0,G0,c1,F1,A1⟩:=St.nth (α:=Bool) p0 .hd (AD s0 C0) Q1
 obtain ⟨Q0,q2,v1⟩:=BJ (α:=Bool) p0 .hd G0
 obtain rfl:M0 = ⟨Q0,0,none⟩:=by rw [v1] at v0; cases v0; rfl
 have x1:c1 = [.bool X1]:=F1; subst x1
 refine Ab (Bj 1 (g0.toNat) rfl v0 rfl z1 G0)<|AR rfl (A1 0 _ rfl)<|Ab (Bp rfl)<|Aa<|BW rfl h (fun X0 h=>?_) (fun X0 h=>?_)
 refine Ar<|AC<|Ao<|Ae rfl<|bk h fun V1 H1 h=>Ab (BE (i:=g0) (j:=1) rfl rfl H1)<|Af rfl<|Aa<|g1 V1 p0 C0 h
 refine Ac<|Af rfl<|Aa ?_
 have h:=au h E0
 refine Al rfl<|AY hb0 func166 rfl rfl ?_
 cases h
 exact p0.gv
 refine Be rfl ?_
 have h:=aF h E0
 try dsimp only at h
 refine Ac<|Af rfl<|Aa<|Al rfl<|AY hb0 func166 rfl rfl ?_
 cases h
 exact p0.gv
 refine Ac<|Af rfl<|Aa<|Al rfl<|AY hb0 func166 rfl rfl ?_
 cases h
 exact hS0.gv
def ci_p (n:Nat) (a0:Td) (a1:List Int) (a2:Int):Option Int:=
  (bH_p n a0 a2).bind fun b0=>(if b0 = 0 then (dc_p n a0).bind fun c0=>(aN_p n a1 c0 a2).bind fun d0=>(if d0 = true then some (0:Int) else some (220:Int)) else some b0)
theorem ci_c (n:Nat) {L w} (hL:hl L w) (a0:Td) {v0_3:Value} (h0_3:Rep.R w L [v0_3] a0.fu) {a1:List Int} {v1_0:Value} (h1_0:Rep.R w L [v1_0] a1) {a2:Int}  {r:Int} (h:ci_p n a0 a1 a2 = some r) :
 Cl 134 #[.agg #[vI a0.fj,vI a0.fh,vI a0.fl,v0_3],v1_0,vI a2] w (ah w fun _ u=>u = vI r):=by
 unfold ci_p at h
 refine AG func134 rfl rfl rfl fun _ cs0 hb0=>Ac<|RG.bx (Az w) rfl rfl fun x0 u0 b0 v0=>Af rfl<|Aa<|Ai<|Ac<|Ab (AF rfl (b0.memA .hd))<|Ae rfl<|bk h fun c0 j0 h=>Bi (vI c0) (bd 165) rfl (e2 rfl rfl) (fun w9 hw9=>bH_c n (b0.hL0 hL hw9) a0 (b0.k0 h0_3 hw9) j0) rfl<|Af rfl<|Aa<|Ac<|Ae rfl<|Ab (FV.neq (i:=c0) (j:=0) rfl rfl)<|Aa<|MX.ifn rfl h (fun d0 h=>?_) (fun d0 h=>?_)
 refine Ar<|Ai<|Ac<|Ae rfl<|Ab (AF rfl (b0.memA .hd))<|bk h fun s0 p0 h=>Bi (vI s0) (bd 123) rfl (e1 rfl) (fun w9 hw9=>dc_c n (b0.hL0 hL hw9) a0 (b0.k0 h0_3 hw9) p0) rfl<|Ae rfl<|bk h fun t0 q0 h=>Bi (.bool t0) (bd 166) rfl (e3 rfl rfl rfl) (fun w9 hw9=>aN_c n (b0.hL0 hL hw9) (b0.k0 h1_0 hw9) q0) rfl<|Ab (Bp rfl)<|Aa<|BW rfl h (fun g0 h=>?_) (fun g0 h=>?_)
 refine Ar<|Ac<|Af rfl<|Aa<|Al rfl<|AY hb0 func134 rfl rfl ?_
 cases h
 exact b0.gv
 refine Ac<|Af rfl<|Aa<|Al rfl<|AY hb0 func134 rfl rfl ?_
 cases h
 exact b0.gv
 refine Ac<|Ae rfl<|Af rfl<|Aa<|Al rfl<|AY hb0 func134 rfl rfl ?_
 cases h
 exact b0.gv
def aT_l1 (_n:Nat) (a1:List Int) (a0:Td) (g0:Nat × (List Int) -> Option (List Int)):Nat × (List Int) -> Option (List Int)
  | (b0,c0)=>(if b0 < a1.length then (a1[b0]?).bind fun d0=>(idx c0 d0).bind fun k0=>(a0.fu[b0]?).bind fun p0=>(chk (k0 + p0.fA)).bind fun j0=>(put c0 ((d0.toNat:Nat):Int) j0).bind fun q0=>g0 (b0 + 1,q0) else some c0)
def aT_p (n:Nat) (a0:Td) (a1:List Int) (a2:Int):Option ((List Int) × Int):=
  (ci_p n a0 a1 a2).bind fun b0=>(if b0 = 0 then (mk a2 (0:Int)).bind fun d0=>Option.bind (am (aT_l1 n a1 a0) n (0,d0)) (fun c0=>some (c0,(0:Int))) else some (([]:List Int),b0))
theorem aT_c (n:Nat) {L w} (hL:hl L w) (a0:Td) {v0_3:Value} (h0_3:Rep.R w L [v0_3] a0.fu) {a1:List Int} {v1_0:Value} (h1_0:Rep.R w L [v1_0] a1) {a2:Int}  {r:(List Int) × Int} (h:aT_p n a0 a1 a2 = some r) :
 Cl 90 #[.agg #[vI a0.fj,vI a0.fh,vI a0.fl,v0_3],v1_0,vI a2] w (ah w fun w' u=>∃ v0_0:Value,u = .tuple #[v0_0,vI r.2]/\Rep.R w' L [v0_0] r.1):=by
 unfold aT_p at h
 refine AG func90 rfl rfl rfl fun _ cs0 hb0=>Ac<|RG.bx (Az w) rfl rfl fun u2 v0 p0 Y1=>Af rfl<|Af rfl<|Aa<|Ai<|Ac<|Ab (AF rfl (p0.memA .hd))<|Ae rfl<|Ae rfl<|bk h fun M0 I1 h=>Bi (vI M0) (bd 134) rfl (e3 rfl rfl rfl) (fun w9 hw9=>ci_c n (p0.hL0 hL hw9) a0 (p0.k0 h0_3 hw9) (p0.k0 h1_0 hw9) I1) rfl<|Af rfl<|Aa<|Ac<|Ae rfl<|Ab (FV.neq (i:=M0) (j:=0) rfl rfl)<|Aa<|MX.ifn rfl h (fun U0 h=>?_) (fun U0 h=>?_)
 refine Ar<|Ac<|Ae rfl<|bk h fun K0 H0 h=>Aj .plain rfl (Does.mk (α:=Int) H0 p0 aw rfl) fun v2 s0 B0 b2=>Af rfl<|Aa<|Ai<|Ac<|Af rfl<|Aa<|AA ?_
 obtain ⟨k2,v1,p1⟩:=aq h
 refine MX.lf (α:=Nat × (List Int) × (List Value)) (fun ⟨d0,j0,q0⟩=>[(1,v1_0),(3,vP v0),(9,(.slice (some ⟨s0,0,none⟩) a2.toNat a2.toNat)),(10,vI ((d0:Nat):Int))]) (fun ⟨d0,j0,q0⟩=>[rr w 3 Int (.slice (some ⟨s0,0,none⟩) a2.toNat a2.toNat) j0.length q0,.cells v0 [vI a0.fj,vI a0.fh,vI a0.fl,v0_3] 46]) (fun ⟨d0,j0,q0⟩ I0=>Cells I0 (bl [rr w 3 Int (.slice (some ⟨s0,0,none⟩) a2.toNat a2.toNat) j0.length q0,.cells v0 [vI a0.fj,vI a0.fh,vI a0.fl,v0_3] 46] ++ L) q0 j0) (fun ⟨d0,j0,q0⟩=>(d0,j0)) (0,K0,(List.replicate a2.toNat [vI 0]).flatten) v1 B0 (AE (cs:=(List.replicate a2.toNat [vI 0]).flatten) (xs:=K0) B0 L (BR H0 rfl)) ?_
 rintro Q1 ⟨d0,j0,q0⟩ I0 Y0 g0 b1 y0 h
 unfold aT_l1 at h
 try dsimp only at h
 refine Ai<|Ac<|Ae rfl<|Ae rfl ?_
 have A0:=AS h1_0 g0
 have c2:a1.length <= 281474976710656:=Ba A0
 refine Ab (Bg (xs:=a1) underlying41 rfl A0)<|Ab (Bq (i:=d0) (j:=a1.length) rfl rfl)<|Aa<|AT rfl h (fun R0 h=>?_) (fun R0 h=>?_)
 refine Ar<|Ai<|AA<|du 20 fun b0 c0=>Rv 0 b0 rfl c0 (fun _=>Ak rfl)<|Rv 1 b0 rfl c0 (fun _=>Ak rfl)<|Rv 2 b0 rfl c0 (fun _=>Ak rfl)<|bk h fun u0 D1 h=>?_
 obtain ⟨M1,R1,C0,F0,V0,x1,G0⟩:=Bk A0 D1
 have g1:V0 = [vI u0]:=x1; subst g1
 refine Rv 3 b0 rfl c0 (fun _=>Bj 1 d0 rfl C0 rfl rfl F0)<|Rx 4 1572864 b0 rfl c0 (AL rfl (G0 0 _ rfl))<|Rv 5 b0 rfl c0 (fun _=>Ak rfl)<|Rv 6 b0 rfl c0 (fun _=>Ak rfl)<|Rv 7 b0 rfl c0 (fun _=>Ak rfl)<|Rv 8 b0 rfl c0 (fun _=>Bj 1 d0 rfl C0 rfl rfl F0)<|Rx 9 1838080 b0 rfl c0 (AL rfl (G0 0 _ rfl))<|bk h fun J0 E1 h=>?_
 obtain ⟨E0,F1⟩:=aA E1
 obtain ⟨P0,U1,t0,z0,W0,y1,s1⟩:=St.nth (α:=Int) g0 .hd y0 F1
 obtain ⟨Q0,V1,D0⟩:=BJ (α:=Int) g0 .hd z0
 obtain rfl:P0 = ⟨Q0,0,none⟩:=by rw [D0] at t0; cases t0; rfl
 have j1:W0 = [vI J0]:=y1; subst j1
 refine Rv 10 b0 rfl c0 (fun _=>Bj 1 (u0.toNat) rfl t0 rfl E0 z0)<|Rx 11 1835008 b0 rfl c0 (AL rfl (s1 0 _ rfl))<|Rv 12 b0 rfl c0 (fun _=>AU 3 rfl)<|Rx 13 2064384 b0 rfl c0 (AL rfl ((g0.memA .t1) 3 _ rfl))<|Rv 14 b0 rfl c0 (fun _=>Ak rfl)<|bk h fun J1 G1 h=>?_
 obtain ⟨P1,W1,k1,q1,X1,z1,u1⟩:=Bk (AS h0_3 g0) G1
 obtain ⟨q2,s2,t2,rfl,d2,g2,j2⟩:=ba z1
 refine Rv 15 b0 rfl c0 (fun _=>Bj 6 d0 rfl k1 rfl rfl q1)<|Rv 16 b0 rfl c0 (fun _=>AU 1 rfl)<|Rx 17 1835008 b0 rfl c0 (AL rfl (u1 1 _ rfl))<|bk h fun p2 C1 h=>Rv 18 b0 rfl c0 (fun _=>BE (i:=J0) (j:=J1.fA) rfl rfl C1)<|Rv 19 b0 rfl c0 (fun _=>Bj 1 (u0.toNat) rfl t0 rfl E0 z0)<|bk h fun K1 H1 h=>BT (i:=20) (rk b0) (RO.acts (m' :=2097151) (sk b0) rfl rfl .plain (Acts.set (α:=Int) (i:=u0.toNat) H1 g0 D0 (fun _=>.hd) y0 rfl rfl rfl rfl rfl rfl) (fun x2 ⟨X0,Z0,c1,d1⟩=>?_))
 refine AM (dk b0)<|AC<|Ao<|Ae rfl<|Ab (Bn (i:=d0) (j:=1) rfl rfl (by omega))<|Af rfl<|Aa<|Y0 (d0 + 1,K1,X0) Z0 (Tt b1 c1) d1 h
 refine Be rfl ?_
 have h:=p1 _ h
 try dsimp only at h
 refine Ac<|Ae rfl<|Af rfl<|Af rfl<|Aa<|Al rfl ?_
 have x0:=Br g0 .hd
 have Z1:=Bs g0 .hd
 have A1:=Bu (α:=Int) (v:=(.slice (some ⟨s0,0,none⟩) a2.toNat a2.toNat)) (xs:=j0) x0 L (Bf (α:=Int) g0 .hd y0 hL)
 refine Ap hb0 func90 rfl (.cons (.tmp rfl) (.cons (.tmp rfl) .nil)) rfl ?_
 cases h
 exact ⟨x0.ag,fun w9 hw9=>⟨(.slice (some ⟨s0,0,none⟩) a2.toNat a2.toNat),rfl,x0.kd A1 hw9⟩⟩
 refine Ac<|Ae rfl<|Af rfl<|Af rfl<|Aa<|Al rfl ?_
 have B1:=BS (α:=Int) p0 L
 refine Ap hb0 func90 rfl (.cons (.tmp rfl) (.cons (.tmp rfl) .nil)) rfl ?_
 cases h
 exact ⟨p0.ag,fun w9 hw9=>⟨vN,rfl,p0.kd B1 hw9⟩⟩
def aw_l1 (_n:Nat) (a1:List Int) (a0:Td) (a3:Int) (g0:Nat × (List Int) -> Option (List Int)):Nat × (List Int) -> Option (List Int)
  | (b0,c0)=>(if b0 < a1.length then (a1[b0]?).bind fun d0=>(idx c0 d0).bind fun k0=>(a0.fu[b0]?).bind fun p0=>(idx p0.fj a3).bind fun q0=>(chk (k0 + q0)).bind fun j0=>(put c0 ((d0.toNat:Nat):Int) j0).bind fun s0=>g0 (b0 + 1,s0) else some c0)
def aw_p (n:Nat) (a0:Td) (a1:List Int) (a2:Int) (a3:Int):Option ((List Int) × (List Int) × Int):=
  (aT_p n a0 a1 a2).bind fun b0=>(if b0.2 = 0 then (if a3 < 0 then some (([]:List Int),([]:List Int),(2:Int)) else (if a0.fj <= a3 then some (([]:List Int),([]:List Int),(2:Int)) else (mk a2 (0:Int)).bind fun d0=>Option.bind (am (aw_l1 n a1 a0 a3) n (0,d0)) (fun c0=>some (c0,b0.1,(0:Int))))) else some (([]:List Int),([]:List Int),b0.2))
theorem aw_c (n:Nat) {L w} (hL:hl L w) (a0:Td) {v0_3:Value} (h0_3:Rep.R w L [v0_3] a0.fu) {a1:List Int} {v1_0:Value} (h1_0:Rep.R w L [v1_0] a1) {a2:Int} {a3:Int}  {r:(List Int) × (List Int) × Int} (h:aw_p n a0 a1 a2 a3 = some r) :
 Cl 43 #[.agg #[vI a0.fj,vI a0.fh,vI a0.fl,v0_3],v1_0,vI a2,vI a3] w (ah w fun w' u=>∃ v0_0 v1_0:Value,u = .tuple #[v0_0,v1_0,vI r.2.2]/\Rep.R w' L [v0_0] r.1/\Rep.R w' L [v1_0] r.2.1):=by
 unfold aw_p at h
 refine AG func43 rfl rfl rfl fun _ cs0 hb0=>Ac<|RG.bx (Az w) rfl rfl fun U2 x0 s0 E2=>Af rfl<|Af rfl<|Af rfl<|Aa<|Ac<|Ab (AF rfl (s0.memA .hd))<|Ae rfl<|Ae rfl<|bk h fun s2 p2 h=>jE (bd 90) rfl (e3 rfl rfl rfl) (fun w9 hw9=>aT_c n (s0.hL hL hw9) a0 (s0.km h0_3 hw9) (s0.km h1_0 hw9) p2) rfl fun V2 R2 x1 ⟨P0,hu_,U1⟩=>?_
 subst hu_
 obtain ⟨d0,F2⟩:=s0.agr x1
 refine Ae rfl<|Ab (Ah rfl rfl)<|Ab (Ah rfl rfl)<|Af rfl<|Af rfl<|Aa<|Ai<|Ac<|Ae rfl<|Ab (FV.neq (i:=s2.2) (j:=0) rfl rfl)<|Aa<|MX.ifn rfl h (fun Z0 h=>?_) (fun Z0 h=>?_)
 refine Ar<|Ai<|Ac<|Ae rfl<|Ab (BK (i:=a3) (j:=0) rfl rfl)<|Ae rfl<|BA (s:=27) rfl h (fun b1 h=>?_) (fun b1 h=>?_)
 refine Au<|Au<|Au<|Au<|Bm rfl rfl<|Aa<|Bb rfl<|Ac<|Af rfl<|Af rfl<|Af rfl<|Aa<|Al rfl ?_
 have J0:=BS (α:=Int) d0 L
 refine Ap hb0 func43 rfl (.cons (.tmp rfl) (.cons (.tmp rfl) (.cons (.tmp rfl) .nil))) rfl ?_
 cases h
 exact ⟨d0.ag,fun w9 hw9=>⟨vN,vN,rfl,d0.kd J0 hw9,d0.kd J0 hw9⟩⟩
 refine AH (Ak rfl)<|RG.fg 0 rfl<|AH (AL rfl ((d0.memA .hd) 0 _ rfl))<|AH (FV.geq (i:=a3) (j:=a0.fj) rfl rfl)<|Bv rfl rfl<|Aa<|AT rfl h (fun c1 h=>?_) (fun c1 h=>?_)
 refine Ac<|Af rfl<|Af rfl<|Af rfl<|Aa<|Al rfl ?_
 have K0:=BS (α:=Int) d0 L
 refine Ap hb0 func43 rfl (.cons (.tmp rfl) (.cons (.tmp rfl) (.cons (.tmp rfl) .nil))) rfl ?_
 cases h
 exact ⟨d0.ag,fun w9 hw9=>⟨vN,vN,rfl,d0.kd K0 hw9,d0.kd K0 hw9⟩⟩
 refine Ar<|Ac<|Ae rfl<|bk h fun V0 M0 h=>Aj .plain rfl (Does.mk (α:=Int) M0 d0 aw rfl) fun X2 q0 B0 v1=>Af rfl<|Aa<|Ai<|Ac<|Af rfl<|Aa<|AA ?_
 obtain ⟨J2,M1,E1⟩:=aq h
 refine MX.lf (α:=Nat × (List Int) × (List Value)) (fun ⟨g0,k0,p0⟩=>[(1,v1_0),(3,vI a3),(4,vP x0),(11,P0),(13,(.slice (some ⟨q0,0,none⟩) a2.toNat a2.toNat)),(14,vI ((g0:Nat):Int))]) (fun ⟨g0,k0,p0⟩=>[rr w 3 Int (.slice (some ⟨q0,0,none⟩) a2.toNat a2.toNat) k0.length p0,.cells x0 [vI a0.fj,vI a0.fh,vI a0.fl,v0_3] 46]) (fun ⟨g0,k0,p0⟩ Q0=>Cells Q0 (bl [rr w 3 Int (.slice (some ⟨q0,0,none⟩) a2.toNat a2.toNat) k0.length p0,.cells x0 [vI a0.fj,vI a0.fh,vI a0.fl,v0_3] 46] ++ L) p0 k0) (fun ⟨g0,k0,p0⟩=>(g0,k0)) (0,V0,(List.replicate a2.toNat [vI 0]).flatten) M1 B0 (AE (cs:=(List.replicate a2.toNat [vI 0]).flatten) (xs:=V0) B0 L (BR M0 rfl)) ?_
 rintro x2 ⟨g0,k0,p0⟩ Q0 p1 j0 C0 y0 h
 unfold aw_l1 at h
 try dsimp only at h
 refine Ai<|Ac<|Ae rfl<|Ae rfl ?_
 have A0:=AS h1_0 j0
 have G2:a1.length <= 281474976710656:=Ba A0
 refine Ab (Bg (xs:=a1) underlying41 rfl A0)<|Ab (Bq (i:=g0) (j:=a1.length) rfl rfl)<|Aa<|AT rfl h (fun Y0 h=>?_) (fun Y0 h=>?_)
 refine Ar<|Ai<|AA<|du 23 fun b0 c0=>Rv 0 b0 rfl c0 (fun _=>Ak rfl)<|Rv 1 b0 rfl c0 (fun _=>Ak rfl)<|Rv 2 b0 rfl c0 (fun _=>Ak rfl)<|bk h fun v0 Z1 h=>?_
 obtain ⟨t2,y2,D0,G0,d1,P1,H0⟩:=Bk A0 Z1
 have z1:d1 = [vI v0]:=P1; subst z1
 refine Rv 3 b0 rfl c0 (fun _=>Bj 1 g0 rfl D0 rfl rfl G0)<|Rx 4 12582912 b0 rfl c0 (AL rfl (H0 0 _ rfl))<|Rv 5 b0 rfl c0 (fun _=>Ak rfl)<|Rv 6 b0 rfl c0 (fun _=>Ak rfl)<|Rv 7 b0 rfl c0 (fun _=>Ak rfl)<|Rv 8 b0 rfl c0 (fun _=>Bj 1 g0 rfl D0 rfl rfl G0)<|Rx 9 14683136 b0 rfl c0 (AL rfl (H0 0 _ rfl))<|bk h fun R0 b2 h=>?_
 obtain ⟨F0,c2⟩:=aA b2
 obtain ⟨W0,z2,u0,z0,g1,Q1,I1⟩:=St.nth (α:=Int) j0 .hd y0 c2
 obtain ⟨X0,A2,E0⟩:=BJ (α:=Int) j0 .hd z0
 obtain rfl:W0 = ⟨X0,0,none⟩:=by rw [E0] at u0; cases u0; rfl
 have A1:g1 = [vI R0]:=Q1; subst A1
 refine Rv 10 b0 rfl c0 (fun _=>Bj 1 (v0.toNat) rfl u0 rfl F0 z0)<|Rx 11 14680064 b0 rfl c0 (AL rfl (I1 0 _ rfl))<|Rv 12 b0 rfl c0 (fun _=>AU 3 rfl)<|Rx 13 16482304 b0 rfl c0 (AL rfl ((j0.memA .t1) 3 _ rfl))<|Rv 14 b0 rfl c0 (fun _=>Ak rfl)<|bk h fun Y2 d2 h=>?_
 obtain ⟨u2,B2,B1,G1,D2,R1,J1⟩:=Bk (AS h0_3 j0) d2
 obtain ⟨M2,P2,Q2,rfl,V1,H2,I2⟩:=ba R1
 refine Rv 15 b0 rfl c0 (fun _=>Bj 6 g0 rfl B1 rfl rfl G1)<|Rv 16 b0 rfl c0 (fun _=>AU 2 rfl)<|Rx 17 16252928 b0 rfl c0 (AL rfl (J1 2 _ rfl))<|Rv 18 b0 rfl c0 (fun _=>Ak rfl)<|bk h fun U0 g2 h=>?_
 obtain ⟨F1,j2⟩:=aA g2
 obtain ⟨v2,C2,C1,H1,j1,W1,K1⟩:=Bk V1 j2
 have D1:j1 = [vI U0]:=W1; subst D1
 refine Rv 19 b0 rfl c0 (fun _=>Bj 1 (a3.toNat) rfl C1 rfl F1 H1)<|Rx 20 14680064 b0 rfl c0 (AL rfl (K1 0 _ rfl))<|bk h fun K2 Y1 h=>Rv 21 b0 rfl c0 (fun _=>BE (i:=R0) (j:=U0) rfl rfl Y1)<|Rv 22 b0 rfl c0 (fun _=>Bj 1 (v0.toNat) rfl u0 rfl F0 z0)<|bk h fun q2 k2 h=>BT (i:=23) (rk b0) (RO.acts (m' :=16777215) (sk b0) rfl rfl .plain (Acts.set (α:=Int) (i:=v0.toNat) k2 j0 E0 (fun _=>.hd) y0 rfl rfl rfl rfl rfl rfl) (fun W2 ⟨k1,q1,s1,y1⟩=>?_))
 refine AM (dk b0)<|AC<|Ao<|Ae rfl<|Ab (Bn (i:=g0) (j:=1) rfl rfl (by omega))<|Af rfl<|Aa<|p1 (g0 + 1,q2,k1) q1 (Tt C0 s1) y1 h
 refine Be rfl ?_
 have h:=E1 _ h
 try dsimp only at h
 refine Ac<|Ae rfl<|Ae rfl<|Af rfl<|Af rfl<|Af rfl<|Aa<|Al rfl ?_
 have t0:=Br j0 .hd
 have u1:=Bs j0 .hd
 have X1:=Bu (α:=Int) (v:=(.slice (some ⟨q0,0,none⟩) a2.toNat a2.toNat)) (xs:=k0) t0 L (Bf (α:=Int) j0 .hd y0 hL)
 refine Ap hb0 func43 rfl (.cons (.tmp rfl) (.cons (.tmp rfl) (.cons (.tmp rfl) .nil))) rfl ?_
 cases h
 exact ⟨t0.ag,fun w9 hw9=>⟨(.slice (some ⟨q0,0,none⟩) a2.toNat a2.toNat),P0,rfl,t0.kd X1 hw9,t0.kd (Am U1 (Tt v1 (Tt C0 u1))) hw9⟩⟩
 refine Ac<|Ae rfl<|Af rfl<|Af rfl<|Af rfl<|Aa<|Al rfl ?_
 have I0:=BS (α:=Int) d0 L
 refine Ap hb0 func43 rfl (.cons (.tmp rfl) (.cons (.tmp rfl) (.cons (.tmp rfl) .nil))) rfl ?_
 cases h
 exact ⟨d0.ag,fun w9 hw9=>⟨vN,vN,rfl,d0.kd I0 hw9,d0.kd I0 hw9⟩⟩
def az_l1 (_n:Nat) (a0:List Int) (c0:Int -> Option Int):Int -> Option Int
  | b0=>(if 0 < b0 then (chk (b0 - 1)).bind fun d0=>(idx a0 d0).bind fun j0=>(if j0 = 0 then (chk (b0 - 1)).bind fun g0=>c0 g0 else some b0) else some b0)
def az_p (n:Nat) (a0:List Int):Option (List Int):=
  jn (fun d0=>(cut a0 0 d0).bind fun c0=>some c0) (fun b0=>Option.bind (am (az_l1 n a0) n ((a0.length:Nat):Int)) (b0))
theorem az_c (n:Nat) {L w} (_hL:hl L w) {a0:List Int} {v0_0:Value} (h0_0:Rep.R w L [v0_0] a0)  {r:List Int} (h:az_p n a0 = some r) :
 Cl 175 #[v0_0] w (ah w fun w' u=>∃ v0_0:Value,u = v0_0/\Rep.R w' L [v0_0] r):=by
 unfold az_p at h
 have hS0:=Az w
 refine AG func175 rfl rfl rfl fun _ cs0 hb0=>Ac<|Af rfl<|Aa<|Ac<|Ae rfl ?_
 have hl1:a0.length <= 281474976710656:=Ba h0_0
 refine Ab (Bg (xs:=a0) underlying40 rfl h0_0)<|Af rfl<|Aa<|Ai<|AA<|MX.xo (α:=Int) 0 (fun c0=>[(0,v0_0),(3,vI c0)]) (fun c0=>[]) (fun c0=>c0) hS0 rfl h ?_ ?_
 rintro c0 Y0 g0 W0 h
 try dsimp only at h
 refine Ac<|Ae rfl<|Ae rfl<|bk h fun b1 J0 h=>RG.valE .plain rfl (FV.cutL (α:=Int) J0 rfl rfl (AS h0_0 g0) rfl ⟨_,rfl⟩) fun P0 D0=>Af rfl<|Aa<|Al rfl<|AY hb0 func175 rfl rfl ?_
 cases h
 exact ⟨g0.ag,fun w9 hw9=>⟨P0,rfl,g0.kd D0 hw9⟩⟩
 intro R0 k0 h
 try dsimp only at h
 obtain ⟨X0,C0,p0⟩:=aq h
 refine MX.lo (α:=Int) (fun b0=>[(0,v0_0),(3,vI b0)]) (fun b0=>[]) (fun b0=>b0) ((a0.length:Nat):Int) C0 hS0 ?_
 rintro U0 b0 Z0 v0 d0 j0 h
 unfold az_l1 at h
 try dsimp only at h
 refine Ai<|Ac<|Ae rfl<|Ab (FV.gtr (i:=b0) (j:=0) rfl rfl)<|Ae rfl<|BA (s:=8) rfl h (fun s0 h=>?_) (fun s0 h=>?_)
 refine AH (Ak rfl)<|AH (Ak rfl)<|bk h fun K0 F0 h=>AH (FV.subc (i:=b0) (j:=1) rfl rfl F0)<|bk h fun q0 H0 h=>?_
 obtain ⟨z0,I0⟩:=aA H0
 obtain ⟨Q0,V0,x0,A0,u0,E0,B0⟩:=Bk (AS h0_0 d0) I0
 have y0:u0 = [vI q0]:=E0; subst y0
 refine AH (Bj 1 (K0.toNat) rfl x0 rfl z0 A0)<|AH (AL rfl (B0 0 _ rfl))<|AH (FV.eql (i:=q0) (j:=0) rfl rfl)<|Bm rfl rfl<|Aa<|AT rfl h (fun t0 h=>?_) (fun t0 h=>?_)
 refine Ar<|AA<|Ao<|Ae rfl<|bk h fun M0 G0 h=>Ab (FV.subc (i:=b0) (j:=1) rfl rfl G0)<|Af rfl<|Aa<|AC<|v0 M0 d0 j0 h
 refine Be rfl ?_
 have h:=p0 _ h
 try dsimp only at h
 exact k0 b0 d0 j0 h
 refine Au<|Au<|Au<|Au<|Au<|Au<|Bv rfl rfl<|Aa<|BI rfl<|Be rfl ?_
 have h:=p0 _ h
 try dsimp only at h
 exact k0 b0 d0 j0 h
def ao_l1 (_n:Nat) (a0:List Int) (a1:List Int) (p0:Nat × Nat × (List Int) -> Option (List Int)):Nat × Nat × (List Int) -> Option (List Int)
  | (q0,b0,k0)=>(if b0 < a0.length then (a0[b0]?).bind fun v0=>(chk (v0 - ((q0:Nat):Int))).bind fun j0=>jn (fun c0=>jn (fun (s0,z0)=>(app k0 ([z0]:List Int)).bind fun y0=>p0 (s0,b0 + 1,y0)) (fun g0=>(if c0 < 0 then (chk (c0 + 4294967296)).bind fun t0=>g0 (1,t0) else g0 (0,c0)))) (fun d0=>(if b0 < a1.length then (a1[b0]?).bind fun x0=>(chk (j0 - x0)).bind fun u0=>d0 u0 else d0 j0)) else some k0)
def ao_p (n:Nat) (a0:List Int) (a1:List Int):Option (List Int):=
  Option.bind (am (ao_l1 n a0 a1) n (0,0,([]:List Int))) (fun b0=>(az_p n b0).bind fun c0=>some c0)
theorem ao_c (n:Nat) {L w} (hL:hl L w) {a0:List Int} {v0_0:Value} (h0_0:Rep.R w L [v0_0] a0) {a1:List Int} {v1_0:Value} (h1_0:Rep.R w L [v1_0] a1)  {r:List Int} (h:ao_p n a0 a1 = some r) :
 Cl 174 #[v0_0,v1_0] w (ah w fun w' u=>∃ v0_0:Value,u = v0_0/\Rep.R w' L [v0_0] r):=by
 unfold ao_p at h
 have hS0:=Az w
 refine AG func174 rfl rfl rfl fun _ cs0 hb0=>Ac<|Af rfl<|Aa<|Ac<|Af rfl<|Aa<|Ac<|Af rfl<|Aa<|Ai<|Ac<|Af rfl<|Aa<|AA ?_
 have B0:=hS0.nilRow 3 (Rep.size Int)
 have k2:=St.nilRowT hS0 3 (Rep.size Int)
 obtain ⟨u2,C1,x1⟩:=aq h
 refine MX.lf (α:=Nat × Nat × (List Int) × Value × (List Value)) (fun ⟨p0,b0,g0,c0,j0⟩=>[(0,v0_0),(1,v1_0),(5,c0),(6,vI ((p0:Nat):Int)),(7,vI ((b0:Nat):Int))]) (fun ⟨p0,b0,g0,c0,j0⟩=>[rr w 3 Int c0 g0.length j0]) (fun ⟨p0,b0,g0,c0,j0⟩ H0=>Cells H0 (bl [rr w 3 Int c0 g0.length j0] ++ L) j0 g0) (fun ⟨p0,b0,g0,c0,j0⟩=>(p0,b0,g0)) (0,0,([]:List Int),vN,[]) C1 B0 (AE (cs:=[]) (xs:=([]:List Int)) B0 L (AK _ _)) ?_
 rintro Z1 ⟨p0,b0,g0,c0,j0⟩ H0 V0 k0 Z0 E0 h
 unfold ao_l1 at h
 try dsimp only at h
 refine Ai<|Ac<|Ae rfl<|Ae rfl ?_
 have x0:=AS h0_0 k0
 have s2:a0.length <= 281474976710656:=Ba x0
 refine Ab (Bg (xs:=a0) underlying40 rfl x0)<|Ab (Bq (i:=b0) (j:=a0.length) rfl rfl)<|Aa<|AT rfl h (fun K0 h=>?_) (fun K0 h=>?_)
 refine Ar<|Ai<|AA<|Ac<|Ae rfl<|Ae rfl<|bk h fun I0 J1 h=>?_
 obtain ⟨X1,g2,q1,y1,Q0,D1,A1⟩:=Bk x0 J1
 have s1:Q0 = [vI I0]:=D1; subst s1
 refine Ab (Bj 1 b0 rfl q1 rfl rfl y1)<|AR rfl (A1 0 _ rfl)<|Ae rfl<|bk h fun G0 G1 h=>Ab (FV.subc (i:=I0) (j:=((p0:Nat):Int)) rfl rfl G1)<|Af rfl<|Aa<|Ai<|Ac<|Ae rfl<|Ae rfl ?_
 have y0:=AS h1_0 k0
 have t2:a1.length <= 281474976710656:=Ba y0
 refine Ab (Bg (xs:=a1) underlying40 rfl y0)<|Ab (Bq (i:=b0) (j:=a1.length) rfl rfl)<|Aa<|MX.jo (α:=Int) (fun q0=>[(0,v0_0),(1,v1_0),(5,c0),(6,vI ((p0:Nat):Int)),(7,vI ((b0:Nat):Int)),(8,vI q0)]) (fun q0=>[rr w 3 Int c0 g0.length j0]) (fun q0=>q0) k0 h ?_ ?_
 rintro q0 A2 t0 b1 h
 try dsimp only at h
 refine Ac<|Af rfl<|Aa<|Ai<|Ac<|Ae rfl<|Ab (BK (i:=q0) (j:=0) rfl rfl)<|Aa<|MX.jo (α:=Nat × Int) (fun ⟨s0,d0⟩=>[(0,v0_0),(1,v1_0),(5,c0),(6,vI ((s0:Nat):Int)),(7,vI ((b0:Nat):Int)),(8,vI d0)]) (fun ⟨s0,d0⟩=>[rr w 3 Int c0 g0.length j0]) (fun ⟨s0,d0⟩=>(s0,d0)) t0 h ?_ ?_
 rintro ⟨s0,d0⟩ B2 W0 c1 h
 try dsimp only at h
 refine Ao<|Ae rfl<|Ae rfl<|Aj .plain rfl (jA d0 (vI d0) W0 aw (e1 rfl)) fun x2 d2 u0 g1=>bk h fun W1 M1 h=>?_
 have F0:=Tt b1 (Tt c1 g1)
 refine RG.doesL .plain rfl (Bo (α:=Int) (ys:=([d0]:List Int)) M1 u0 (fun _ _=>.t1) aw rfl rfl (AD E0 F0) (Src.row (α:=Int) u0 .hd (jC d0 (vI d0) u0 L rfl))) fun U1 y2 ⟨R0,X0,j1,p1⟩=>Af rfl<|Aa<|AC<|Ao<|Ae rfl<|Ab (Bn (i:=b0) (j:=1) rfl rfl (by omega))<|Af rfl<|Aa ?_
 obtain ⟨Y0,D0⟩:=AI X0 .d1
 exact V0 (s0,b0 + 1,W1,U1,R0) Y0 (Tt Z0 (Tt F0 (Tt j1 D0))) (AD p1 D0) h
 intro c2 A0 h
 try dsimp only at h
 refine AT rfl h (fun M0 h=>?_) (fun M0 h=>?_)
 refine Ac<|Ae rfl<|bk h fun Q1 H1 h=>Ab (BE (i:=q0) (j:=4294967296) rfl rfl H1)<|Af rfl<|Aa<|Ao<|Af rfl<|Aa<|A0 (1,Q1) t0 (Bw _ _) h
 refine Ar<|A0 (0,q0) t0 (Bw _ _) h
 intro b2 z0 h
 try dsimp only at h
 refine AT rfl h (fun P0 h=>?_) (fun P0 h=>?_)
 refine Ao<|Ae rfl<|Ae rfl<|Ae rfl<|bk h fun J0 K1 h=>?_
 obtain ⟨Y1,j2,u1,z1,U0,E1,B1⟩:=Bk y0 K1
 have v1:U0 = [vI J0]:=E1; subst v1
 refine Ab (Bj 1 b0 rfl u1 rfl rfl z1)<|AR rfl (B1 0 _ rfl)<|bk h fun R1 I1 h=>Ab (FV.subc (i:=G0) (j:=J0) rfl rfl I1)<|Af rfl<|Aa<|z0 R1 k0 (Bw _ _) h
 refine Ar<|z0 G0 k0 (Bw _ _) h
 refine Be rfl ?_
 have h:=x1 _ h
 try dsimp only at h
 refine Ac<|Ae rfl ?_
 have v0:=Br k0 .hd
 have p2:=Bs k0 .hd
 refine bk h fun C2 P1 h=>jE (bd 175) rfl (e1 rfl) (fun w9 hw9=>az_c n (v0.hL hL hw9) (Aq (Bu (α:=Int) (v:=c0) (xs:=g0) v0 L (Bf (α:=Int) k0 .hd E0 hL)) hw9) P1) rfl fun z2 V1 k1 ⟨v2,hu_,F1⟩=>?_
 subst hu_
 obtain ⟨C0,q2⟩:=v0.agr k1
 refine Af rfl<|Aa<|Al rfl<|AY hb0 func174 rfl rfl ?_
 cases h
 exact ⟨C0.ag,fun w9 hw9=>⟨V1,rfl,C0.kd F1 hw9⟩⟩
def aM_l1 (_n:Nat) (a0:List Int) (a1:List Int) (g0:Int -> Option (Int ⊕ Unit)):Int -> Option (Int ⊕ Unit)
  | b0=>(if 0 <= b0 then (idx a0 b0).bind fun c0=>(idx a1 b0).bind fun d0=>(if c0 = d0 then (chk (b0 - 1)).bind fun j0=>g0 j0 else (chk (c0 - d0)).bind fun k0=>some (.inl k0)) else some (.inr ()))
def aM_p (n:Nat) (a0:List Int) (a1:List Int):Option Int:=
  (if a0.length = a1.length then thn (am (aM_l1 n a0 a1) n (((a0.length:Nat):Int) - 1)) (fun _=>some (0:Int)) else some (((a0.length:Nat):Int) - ((a1.length:Nat):Int)))
theorem aM_c (n:Nat) {L w} (_hL:hl L w) {a0:List Int} {v0_0:Value} (h0_0:Rep.R w L [v0_0] a0) {a1:List Int} {v1_0:Value} (h1_0:Rep.R w L [v1_0] a1)  {r:Int} (h:aM_p n a0 a1 = some r) :
 Cl 177 #[v0_0,v1_0] w (ah w fun _ u=>u = vI r):=by
 unfold aM_p at h
 have hS0:=Az w
 refine AG func177 rfl rfl rfl fun _ cs0 hb0=>Ac<|Af rfl<|Aa<|Ai<|Ac<|Ae rfl ?_
 have hl1:a0.length <= 281474976710656:=Ba h0_0
 refine Ab (Bg (xs:=a0) underlying40 rfl h0_0)<|Ae rfl ?_
 have hl2:a1.length <= 281474976710656:=Ba h1_0
 refine Ab (Bg (xs:=a1) underlying40 rfl h1_0)<|Ab (FV.neqN (i:=a0.length) (j:=a1.length) rfl rfl)<|Aa<|MX.ifn rfl h (fun c3 h=>?_) (fun c3 h=>?_)
 refine Ar<|Ai<|Ac<|Ae rfl<|Ab (Bg (xs:=a0) underlying40 rfl h0_0)<|Ab (FV.subI (i:=((a0.length:Nat):Int)) (j:=1) rfl rfl (by omega))<|Af rfl<|Aa<|AA<|tn h fun j1 K0 u0=>MX.lo (α:=Int) (fun c0=>[(0,v0_0),(1,v1_0),(5,vI c0)]) (fun c0=>[]) (fun c0=>c0) (((a0.length:Nat):Int) - 1) K0 hS0 ?_
 rintro c1 c0 p1 G0 k0 H0 h
 unfold aM_l1 at h
 try dsimp only at h
 refine Ai<|Ac<|Ae rfl<|Ab (FV.geq (i:=c0) (j:=0) rfl rfl)<|Aa<|AT rfl h (fun C0 h=>?_) (fun C0 h=>?_)
 refine Ar<|Ai<|AA<|Ai<|du 9 fun g0 j0=>Rv 0 g0 rfl j0 (fun _=>Ak rfl)<|Rv 1 g0 rfl j0 (fun _=>Ak rfl)<|bk h fun p0 U0 h=>?_
 obtain ⟨v0,V0⟩:=aA U0
 obtain ⟨Z0,d1,s0,y0,E0,M0,A0⟩:=Bk (AS h0_0 k0) V0
 have I0:E0 = [vI p0]:=M0; subst I0
 refine Rv 2 g0 rfl j0 (fun _=>Bj 1 (c0.toNat) rfl s0 rfl v0 y0)<|Rx 3 256 g0 rfl j0 (AL rfl (A0 0 _ rfl))<|Rv 4 g0 rfl j0 (fun _=>Ak rfl)<|Rv 5 g0 rfl j0 (fun _=>Ak rfl)<|bk h fun q0 W0 h=>?_
 obtain ⟨x0,X0⟩:=aA W0
 obtain ⟨b1,g1,t0,z0,F0,P0,B0⟩:=Bk (AS h1_0 k0) X0
 have J0:F0 = [vI q0]:=P0; subst J0
 refine Rv 6 g0 rfl j0 (fun _=>Bj 1 (c0.toNat) rfl t0 rfl x0 z0)<|Rx 7 256 g0 rfl j0 (AL rfl (B0 0 _ rfl))<|Rv 8 g0 rfl j0 (fun _=>FV.neq (i:=p0) (j:=q0) rfl rfl)<|AM (dk g0)<|MX.ifn rfl h (fun D0 h=>?_) (fun D0 h=>?_)
 refine Ar<|AC<|Ao<|Ae rfl<|bk h fun Y0 Q0 h=>Ab (FV.subc (i:=c0) (j:=1) rfl rfl Q0)<|Af rfl<|Aa<|G0 Y0 k0 H0 h
 refine Ai<|du 10 fun b0 d0=>Rv 0 b0 rfl d0 (fun _=>Ak rfl)<|Rv 1 b0 rfl d0 (fun _=>Ak rfl)<|Rv 2 b0 rfl d0 (fun _=>Bj 1 (c0.toNat) rfl s0 rfl v0 y0)<|Rx 3 768 b0 rfl d0 (AL rfl (A0 0 _ rfl))<|Rv 4 b0 rfl d0 (fun _=>Ak rfl)<|Rv 5 b0 rfl d0 (fun _=>Ak rfl)<|Rv 6 b0 rfl d0 (fun _=>Bj 1 (c0.toNat) rfl t0 rfl x0 z0)<|Rx 7 768 b0 rfl d0 (AL rfl (B0 0 _ rfl))<|bk h fun k1 R0 h=>Rv 8 b0 rfl d0 (fun _=>FV.subc (i:=p0) (j:=q0) rfl rfl R0)<|Rv 9 b0 rfl d0 (fun _=>Bh rfl)<|AM (dk b0) ?_
 have h:=au h u0
 refine Al rfl<|AY hb0 func177 rfl rfl ?_
 cases h
 exact k0.gv
 refine Be rfl ?_
 have h:=aF h u0
 try dsimp only at h
 refine Ac<|Af rfl<|Aa<|Al rfl<|AY hb0 func177 rfl rfl ?_
 cases h
 exact k0.gv
 refine Ac<|Ae rfl<|Ab (Bg (xs:=a0) underlying40 rfl h0_0)<|Ae rfl<|Ab (Bg (xs:=a1) underlying40 rfl h1_0)<|Ab (FV.subI (i:=((a0.length:Nat):Int)) (j:=((a1.length:Nat):Int)) rfl rfl (by omega))<|Af rfl<|Aa<|Al rfl<|AY hb0 func177 rfl rfl ?_
 cases h
 exact hS0.gv
structure Tc where
  fe:Bool
  fD:List Int
  deriving DecidableEq
instance:Rep Tc:=Rep.via (β:=Bool × (List Int)) fun x=>(x.fe,x.fD)
def aF_l1 (_n:Nat) (x0:List Int) (y0:Nat × U8 -> Option (U8)):Nat × U8 -> Option (U8)
  | (b0,j0,k0,p0,q0,s0,t0,u0,v0)=>(if b0 < x0.length then (([j0,k0,p0,q0,s0,t0,u0,v0]:List UInt64)[b0 / 2]?).bind fun g0=>(x0[b0]?).bind fun d0=>(chk (32 * ((b0 % 2:Nat):Int))).bind fun z0=>(bC z0).bind fun c0=>y0 (b0 + 1,ax (b0 / 2) 0 (g0 + (shlU (ac d0) c0)) j0,ax (b0 / 2) 1 (g0 + (shlU (ac d0) c0)) k0,ax (b0 / 2) 2 (g0 + (shlU (ac d0) c0)) p0,ax (b0 / 2) 3 (g0 + (shlU (ac d0) c0)) q0,ax (b0 / 2) 4 (g0 + (shlU (ac d0) c0)) s0,ax (b0 / 2) 5 (g0 + (shlU (ac d0) c0)) t0,ax (b0 / 2) 6 (g0 + (shlU (ac d0) c0)) u0,ax (b0 / 2) 7 (g0 + (shlU (ac d0) c0)) v0) else some (j0,k0,p0,q0,s0,t0,u0,v0))
def aF_l2 (_n:Nat) (x0:List Int) (y0:Nat × U8 -> Option (U8)):Nat × U8 -> Option (U8)
  | (b0,j0,k0,p0,q0,s0,t0,u0,v0)=>(if b0 < x0.length then (([j0,k0,p0,q0,s0,t0,u0,v0]:List UInt64)[b0 / 2]?).bind fun g0=>(x0[b0]?).bind fun d0=>(chk (32 * ((b0 % 2:Nat):Int))).bind fun z0=>(bC z0).bind fun c0=>y0 (b0 + 1,ax (b0 / 2) 0 (g0 + (shlU (ac d0) c0)) j0,ax (b0 / 2) 1 (g0 + (shlU (ac d0) c0)) k0,ax (b0 / 2) 2 (g0 + (shlU (ac d0) c0)) p0,ax (b0 / 2) 3 (g0 + (shlU (ac d0) c0)) q0,ax (b0 / 2) 4 (g0 + (shlU (ac d0) c0)) s0,ax (b0 / 2) 5 (g0 + (shlU (ac d0) c0)) t0,ax (b0 / 2) 6 (g0 + (shlU (ac d0) c0)) u0,ax (b0 / 2) 7 (g0 + (shlU (ac d0) c0)) v0) else some (j0,k0,p0,q0,s0,t0,u0,v0))
def aF_p (n:Nat) (a0:Tc):Option ((U8) × Int):=
  (mk 16 (0:Int)).bind fun c0=>(c0[15]?).bind fun _x28=>(put c0 ((15:Nat):Int) (2147483648:Int)).bind fun I0=>(aM_p n a0.fD I0).bind fun j0=>(if 0 < j0 then some ((0,0,0,0,0,0,0,0),(6:Int)) else (if j0 = 0 then (if a0.fe = true then (mk 17 (0:Int)).bind fun g0=>(g0[16]?).bind fun _x61=>(put g0 ((16:Nat):Int) (1:Int)).bind fun J0=>(ao_p n J0 a0.fD).bind fun M0=>Option.bind (am (aF_l1 n M0) n (0,0,0,0,0,0,0,0,0)) (fun (k0,p0,q0,s0,t0,u0,v0,x0)=>some ((k0,p0,q0,s0,t0,u0,v0,x0),(0:Int))) else some ((0,0,0,0,0,0,0,0),(6:Int))) else jn (fun G0=>Option.bind (am (aF_l2 n G0) n (0,0,0,0,0,0,0,0,0)) (fun (y0,z0,A0,B0,C0,D0,E0,F0)=>some ((y0,z0,A0,B0,C0,D0,E0,F0),(0:Int)))) (fun b0=>(if a0.fe = true then (mk 17 (0:Int)).bind fun d0=>(d0[16]?).bind fun _x369=>(put d0 ((16:Nat):Int) (1:Int)).bind fun H0=>(ao_p n H0 a0.fD).bind fun K0=>b0 K0 else b0 a0.fD))))
theorem aF_c (n:Nat) {L w} (hL:hl L w) (a0:Tc) {v0_1:Value} (h0_1:Rep.R w L [v0_1] a0.fD)  {r:(U8) × Int} (h:aF_p n a0 = some r) :
 Cl 145 #[.agg #[.bool a0.fe,v0_1]] w (ah w fun _ u=>u = .tuple #[.agg ((ak r.1)).toArray,vI r.2]):=by
 unfold aF_p at h
 refine AG func145 rfl rfl rfl fun _ cs0 hb0=>Ac<|RG.bx (Az w) rfl rfl fun c6 X4 G2 x5=>RG.nl zP G2 fun d6 V0 I2 y5=>Af rfl<|Aa<|Ac<|bk h fun G6 q4 h=>RG.doesH .plain rfl (Does.mkH (α:=Int) (L:=L) q4 I2 aw rfl (fun _ _=>rfl)) fun Y5 p6 ⟨p5,k1,B5,Q1⟩=>Af rfl<|Aa<|Ac<|Ae rfl<|bk h fun H4 g4 h=>?_
 obtain ⟨d2,Z4,v1,Y1,A2,U3,Q5⟩:=St.nth (α:=Int) k1 .hd Q1 g4
 obtain ⟨k2,c5,W1⟩:=BJ (α:=Int) k1 .hd Y1
 obtain rfl:d2 = ⟨k2,0,none⟩:=by rw [W1] at v1; cases v1; rfl
 have B3:A2 = [vI H4]:=U3; subst B3
 refine Ab (Bj 1 15 rfl v1 rfl rfl Y1)<|bk h fun I6 u4 h=>RG.acts' .plain (Acts.set (α:=Int) (i:=15) u4 k1 W1 (fun _=>.hd) Q1 rfl rfl rfl rfl rfl rfl) fun y6 ⟨t5,y0,E5,t3⟩=>Aa<|Ac<|AX 1 rfl<|AR rfl ((y0.memA .t2) 1 _ rfl)<|Ae rfl<|bk h fun B1 z4 h=>Bi (vI B1) (bd 177) rfl (e2 rfl rfl) (fun w9 hw9=>aM_c n (y0.hL0 hL hw9) (y0.k0 h0_1 hw9) (Aq (St.lend (α:=Int) (L:=L) y0 .hd t3 hL) hw9) z4) rfl<|Af rfl<|Aa<|Ai<|Ac<|Ae rfl<|Ab (FV.gtr (i:=B1) (j:=0) rfl rfl)<|Ae rfl<|BA (s:=19) rfl h (fun x2 h=>?_) (fun x2 h=>?_)
 refine Au<|Au<|Au<|RG.un<|RG.un<|RG.un<|Au<|Bm rfl rfl<|Aa<|Bb rfl<|Ac<|Ab (AO (vs:=[]) (u:=.agg zQ) aj (fun w9=>by kernel_rfl))<|AQ zP y0 .t1 (ai rfl) fun z6 J1 F5=>Af rfl<|Aa<|Al rfl<|Ap hb0 func145 rfl (.cons (.many (cs:=zP) rfl rfl (J1.memA .t1)) (.cons (.tmp rfl) .nil)) rfl ?_
 cases h
 exact J1.gv
 refine AH (Ak rfl)<|AH (FV.eql (i:=B1) (j:=0) rfl rfl)<|AH (Ak rfl)<|BA (s:=22) rfl h (fun y2 h=>?_) (fun y2 h=>?_)
 refine RG.fg 0 rfl<|AH (AL rfl ((y0.memA .t2) 0 _ rfl))<|AH (Bp rfl)<|AH (BY rfl rfl)<|Bv rfl rfl<|Aa<|BW rfl h (fun D1 h=>?_) (fun D1 h=>?_)
 refine Ar<|Ac<|AX 1 rfl<|AR rfl ((y0.memA .t2) 1 _ rfl)<|Af rfl<|Aa<|Ai<|Ac<|AX 0 rfl<|AR rfl ((y0.memA .t2) 0 _ rfl)<|Aa<|MX.cond_kt rfl D1<|Ac<|bk h fun J6 v4 h=>RG.doesH .plain rfl (Does.mkH (α:=Int) (L:=L) v4 y0 aw rfl (fun _ _=>rfl)) fun E4 A6 ⟨u5,s1,G5,U1⟩=>Af rfl<|Aa<|Ac<|Ae rfl<|bk h fun J4 p4 h=>?_
 obtain ⟨j2,j5,y1,b2,D2,Y3,V5⟩:=St.nth (α:=Int) s1 .hd U1 p4
 obtain ⟨q2,k5,X1⟩:=BJ (α:=Int) s1 .hd b2
 obtain rfl:j2 = ⟨q2,0,none⟩:=by rw [X1] at y1; cases y1; rfl
 have C3:D2 = [vI J4]:=Y3; subst C3
 refine Ab (Bj 1 16 rfl y1 rfl rfl b2)<|bk h fun M4 x4 h=>RG.acts' .plain (Acts.set (α:=Int) (i:=16) x4 s1 X1 (fun _=>.hd) U1 rfl rfl rfl rfl rfl rfl) fun B6 ⟨v5,u1,H5,u3⟩=>Aa<|Ao<|Ae rfl<|Ae rfl ?_
 have j1:=Br u1 .hd
 have I5:=Bs u1 .hd
 refine bk h fun C1 A4 h=>jE (bd 174) rfl (e2 rfl rfl) (fun w9 hw9=>ao_c n (j1.hL hL hw9) (Aq (Bu (α:=Int) (v:=E4) (xs:=M4) j1 L (Bf (α:=Int) u1 .hd u3 hL)) hw9) (j1.km h0_1 hw9) A4) rfl fun C6 G4 q3 ⟨b6,hu_,Z3⟩=>?_
 subst hu_
 obtain ⟨U2,J5⟩:=j1.agr q3
 refine Af rfl<|Aa<|Ac<|RG.nl zP U2 fun D6 d1 V2 k3=>Aa<|Ai<|Ac<|Af rfl<|Aa<|AA ?_
 obtain ⟨H2,W2⟩:=AI V2 (.a0 (.a1 .done))
 obtain ⟨W5,M3,D3⟩:=aq h
 refine MX.lo (α:=Nat × U8) (fun ⟨b0,z0,A0,B0,C0,D0,E0,F0,G0⟩=>[(2,vP V0),(6,G4),(8,vP d1),(9,vI ((b0:Nat):Int))]) (fun ⟨b0,z0,A0,B0,C0,D0,E0,F0,G0⟩=>[.cells d1 [vU z0,vU A0,vU B0,vU C0,vU D0,vU E0,vU F0,vU G0] 36,.cells V0 zP 36]) (fun ⟨b0,z0,A0,B0,C0,D0,E0,F0,G0⟩=>(b0,z0,A0,B0,C0,D0,E0,F0,G0)) (0,0,0,0,0,0,0,0,0) M3 H2 ?_
 rintro U4 ⟨b0,z0,A0,B0,C0,D0,E0,F0,G0⟩ E6 E2 X0 K1 h
 unfold aF_l1 at h
 try dsimp only at h
 refine Ai<|Ac<|Ae rfl<|Ae rfl ?_
 have z1:=Am Z3 (Tt k3 (Tt W2 K1))
 have K5:C1.length <= 281474976710656:=Ba z1
 refine Ab (Bg (xs:=C1) underlying40 rfl z1)<|Ab (Bq (i:=b0) (j:=C1.length) rfl rfl)<|Aa<|AT rfl h (fun s2 h=>?_) (fun s2 h=>?_)
 refine Ar<|Ai<|AA<|du 17 fun j0 v0=>Rv 0 j0 rfl v0 (fun _=>Ak rfl)<|Rv 1 j0 rfl v0 (fun _=>FV.quoN (i:=b0) (j:=2) rfl rfl rfl (by omega))<|Rv 2 j0 rfl v0 (fun _=>Ak rfl)<|Rv 3 j0 rfl v0 (fun _=>FV.quoN (i:=b0) (j:=2) rfl rfl rfl (by omega))<|bk h fun t0 Z0 h=>Rv 4 j0 rfl v0 (fun _=>Bc (m:=1) (k:=b0 / 2) (len:=8) rfl rfl rfl rfl (bb Z0 rfl))<|Rx 5 229376 j0 rfl v0 (AL rfl ((aQ (p:=⟨d1,0,none⟩) (cs:=([z0,A0,B0,C0,D0,E0,F0,G0]:List UInt64).map (fun z9:UInt64=>(vU z9:Value)) ++ []) (i:=b0 / 2) (X0.memA .hd) (bI (fun z9:UInt64=>(vU z9:Value)) Z0)) 0 _ rfl))<|Rv 6 j0 rfl v0 (fun _=>Ak rfl)<|Rv 7 j0 rfl v0 (fun _=>Ak rfl)<|bk h fun d0 d4 h=>?_
 obtain ⟨Q4,Y4,v3,F3,z2,Q3,J3⟩:=Bk z1 d4
 have x3:z2 = [vI d0]:=Q3; subst x3
 refine Rv 8 j0 rfl v0 (fun _=>Bj 1 b0 rfl v3 rfl rfl F3)<|Rx 9 246784 j0 rfl v0 (AL rfl (J3 0 _ rfl))<|Rv 10 j0 rfl v0 (fun _=>FV.convU (i:=d0) underlying3 underlying34 rfl)<|Rv 11 j0 rfl v0 (fun _=>Ak rfl)<|Rv 12 j0 rfl v0 (fun _=>FV.remN (i:=b0) (j:=2) rfl rfl rfl)<|bk h fun B4 b4 h=>Rv 13 j0 rfl v0 (fun _=>FV.mulc (i:=32) (j:=((b0 % 2:Nat):Int)) rfl rfl b4)<|bk h fun q0 G3 h=>Rv 14 j0 rfl v0 (fun _=>FV.shlI (a:=ac d0) (i:=B4) rfl rfl G3)<|Rv 15 j0 rfl v0 (fun _=>FV.addU (a:=t0) (b:=shlU (ac d0) q0) rfl rfl) ?_
 have P5:=aQ (p:=⟨d1,0,none⟩) (cs:=([z0,A0,B0,C0,D0,E0,F0,G0]:List UInt64).map (fun z9:UInt64=>(vU z9:Value)) ++ []) (i:=b0 / 2) (X0.memA .hd) (bI (fun z9:UInt64=>(vU z9:Value)) Z0)
 refine Rv 16 j0 rfl v0 (fun _=>Bc (m:=1) (k:=b0 / 2) (len:=8) rfl rfl rfl rfl (bb Z0 rfl))<|Bz 17 262143 j0 rfl rfl .plain (Acts.storeArr (fun z9:UInt64=>(vU z9:Value)) (xs:=([z0,A0,B0,C0,D0,E0,F0,G0]:List UInt64)) (pre:=[]) (post:=[]) (i:=b0 / 2) (m:=8) (x:=t0 + (shlU (ac d0) q0)) (old:=[vU z0,vU A0,vU B0,vU C0,vU D0,vU E0,vU F0,vU G0]) (new' :=[vW ((ax (b0 / 2) 0 (t0 + (shlU (ac d0) q0)) z0).toNat:Int),vW ((ax (b0 / 2) 1 (t0 + (shlU (ac d0) q0)) A0).toNat:Int),vW ((ax (b0 / 2) 2 (t0 + (shlU (ac d0) q0)) B0).toNat:Int),vW ((ax (b0 / 2) 3 (t0 + (shlU (ac d0) q0)) C0).toNat:Int),vW ((ax (b0 / 2) 4 (t0 + (shlU (ac d0) q0)) D0).toNat:Int),vW ((ax (b0 / 2) 5 (t0 + (shlU (ac d0) q0)) E0).toNat:Int),vW ((ax (b0 / 2) 6 (t0 + (shlU (ac d0) q0)) F0).toNat:Int),vW ((ax (b0 / 2) 7 (t0 + (shlU (ac d0) q0)) G0).toNat:Int)]) rfl rfl (bb Z0 rfl) X0 .hd rfl (gm _ _ _) rfl rfl (fun _=>⟨rfl,rfl⟩) rfl rfl) fun g6 J2 X2=>AM (dk j0)<|AC<|Ao<|Ae rfl<|Ab (Bn (i:=b0) (j:=1) rfl rfl (by omega))<|Af rfl<|Aa<|E2 (b0 + 1,ax (b0 / 2) 0 (t0 + (shlU (ac d0) q0)) z0,ax (b0 / 2) 1 (t0 + (shlU (ac d0) q0)) A0,ax (b0 / 2) 2 (t0 + (shlU (ac d0) q0)) B0,ax (b0 / 2) 3 (t0 + (shlU (ac d0) q0)) C0,ax (b0 / 2) 4 (t0 + (shlU (ac d0) q0)) D0,ax (b0 / 2) 5 (t0 + (shlU (ac d0) q0)) E0,ax (b0 / 2) 6 (t0 + (shlU (ac d0) q0)) F0,ax (b0 / 2) 7 (t0 + (shlU (ac d0) q0)) G0) J2 (Tt K1 X2) h
 refine Be rfl ?_
 have h:=D3 _ h
 try dsimp only at h
 refine Ac<|Ab (AF rfl (X0.memA .hd))<|AQ [vU z0,vU A0,vU B0,vU C0,vU D0,vU E0,vU F0,vU G0] X0 .t1 (ai rfl) fun j6 F1 z5=>Af rfl<|Aa<|Al rfl<|Ap hb0 func145 rfl (.cons (.many (cs:=[vU z0,vU A0,vU B0,vU C0,vU D0,vU E0,vU F0,vU G0]) rfl rfl (F1.memA .t1)) (.cons (.tmp rfl) .nil)) rfl ?_
 cases h
 exact F1.gv
 refine Ac<|Ab (AO (vs:=[]) (u:=.agg zQ) aj (fun w9=>by kernel_rfl))<|AQ zP y0 .t1 (ai rfl) fun k6 G1 A5=>Af rfl<|Aa<|Al rfl<|Ap hb0 func145 rfl (.cons (.many (cs:=zP) rfl rfl (G1.memA .t1)) (.cons (.tmp rfl) .nil)) rfl ?_
 cases h
 exact G1.gv
 refine Au<|Au<|Au<|AH (Bx rfl rfl)<|Bv rfl rfl<|Aa<|BI rfl<|Ar<|Ac<|AX 1 rfl<|AR rfl ((y0.memA .t2) 1 _ rfl)<|Af rfl<|Aa<|Ai<|Ac<|AX 0 rfl<|AR rfl ((y0.memA .t2) 0 _ rfl)<|Aa<|MX.jf (α:=(List Int) × Value) (fun ⟨U0,W0⟩=>[(2,vP V0),(6,W0)]) (fun ⟨U0,W0⟩=>[.cells V0 zP 36]) (fun ⟨U0,W0⟩ c2=>Rep.R c2 (bl [.cells V0 zP 36] ++ L) [W0] U0) (fun ⟨U0,W0⟩=>U0) y0 h ?_ ?_
 rintro ⟨U0,W0⟩ c2 K2 C5 R3 h
 try dsimp only at h
 refine Ac<|RG.nl zP K2 fun q6 c1 M2 Y2=>Aa<|Ai<|Ac<|Af rfl<|Aa<|AA ?_
 obtain ⟨X5,P3,E3⟩:=aq h
 refine MX.lo (α:=Nat × U8) (fun ⟨c0,H0,I0,J0,K0,M0,P0,Q0,R0⟩=>[(2,vP V0),(6,W0),(8,vP c1),(9,vI ((c0:Nat):Int))]) (fun ⟨c0,H0,I0,J0,K0,M0,P0,Q0,R0⟩=>[.cells c1 [vU H0,vU I0,vU J0,vU K0,vU M0,vU P0,vU Q0,vU R0] 36,.cells V0 zP 36]) (fun ⟨c0,H0,I0,J0,K0,M0,P0,Q0,R0⟩=>(c0,H0,I0,J0,K0,M0,P0,Q0,R0)) (0,0,0,0,0,0,0,0,0) P3 M2 ?_
 rintro W4 ⟨c0,H0,I0,J0,K0,M0,P0,Q0,R0⟩ F6 F2 Y0 M1 h
 unfold aF_l2 at h
 try dsimp only at h
 refine Ai<|Ac<|Ae rfl<|Ae rfl ?_
 have A1:=Am R3 (Tt Y2 M1)
 have M5:U0.length <= 281474976710656:=Ba A1
 refine Ab (Bg (xs:=U0) underlying40 rfl A1)<|Ab (Bq (i:=c0) (j:=U0.length) rfl rfl)<|Aa<|AT rfl h (fun u2 h=>?_) (fun u2 h=>?_)
 refine Ar<|Ai<|AA<|du 17 fun p0 x0=>Rv 0 p0 rfl x0 (fun _=>Ak rfl)<|Rv 1 p0 rfl x0 (fun _=>FV.quoN (i:=c0) (j:=2) rfl rfl rfl (by omega))<|Rv 2 p0 rfl x0 (fun _=>Ak rfl)<|Rv 3 p0 rfl x0 (fun _=>FV.quoN (i:=c0) (j:=2) rfl rfl rfl (by omega))<|bk h fun u0 b1 h=>Rv 4 p0 rfl x0 (fun _=>Bc (m:=1) (k:=c0 / 2) (len:=8) rfl rfl rfl rfl (bb b1 rfl))<|Rx 5 229376 p0 rfl x0 (AL rfl ((aQ (p:=⟨c1,0,none⟩) (cs:=([H0,I0,J0,K0,M0,P0,Q0,R0]:List UInt64).map (fun z9:UInt64=>(vU z9:Value)) ++ []) (i:=c0 / 2) (Y0.memA .hd) (bI (fun z9:UInt64=>(vU z9:Value)) b1)) 0 _ rfl))<|Rv 6 p0 rfl x0 (fun _=>Ak rfl)<|Rv 7 p0 rfl x0 (fun _=>Ak rfl)<|bk h fun g0 j4 h=>?_
 obtain ⟨R4,b5,y3,H3,B2,V3,K3⟩:=Bk A1 j4
 have z3:B2 = [vI g0]:=V3; subst z3
 refine Rv 8 p0 rfl x0 (fun _=>Bj 1 c0 rfl y3 rfl rfl H3)<|Rx 9 246784 p0 rfl x0 (AL rfl (K3 0 _ rfl))<|Rv 10 p0 rfl x0 (fun _=>FV.convU (i:=g0) underlying3 underlying34 rfl)<|Rv 11 p0 rfl x0 (fun _=>Ak rfl)<|Rv 12 p0 rfl x0 (fun _=>FV.remN (i:=c0) (j:=2) rfl rfl rfl)<|bk h fun C4 c4 h=>Rv 13 p0 rfl x0 (fun _=>FV.mulc (i:=32) (j:=((c0 % 2:Nat):Int)) rfl rfl c4)<|bk h fun s0 I3 h=>Rv 14 p0 rfl x0 (fun _=>FV.shlI (a:=ac g0) (i:=C4) rfl rfl I3)<|Rv 15 p0 rfl x0 (fun _=>FV.addU (a:=u0) (b:=shlU (ac g0) s0) rfl rfl) ?_
 have R5:=aQ (p:=⟨c1,0,none⟩) (cs:=([H0,I0,J0,K0,M0,P0,Q0,R0]:List UInt64).map (fun z9:UInt64=>(vU z9:Value)) ++ []) (i:=c0 / 2) (Y0.memA .hd) (bI (fun z9:UInt64=>(vU z9:Value)) b1)
 refine Rv 16 p0 rfl x0 (fun _=>Bc (m:=1) (k:=c0 / 2) (len:=8) rfl rfl rfl rfl (bb b1 rfl))<|Bz 17 262143 p0 rfl rfl .plain (Acts.storeArr (fun z9:UInt64=>(vU z9:Value)) (xs:=([H0,I0,J0,K0,M0,P0,Q0,R0]:List UInt64)) (pre:=[]) (post:=[]) (i:=c0 / 2) (m:=8) (x:=u0 + (shlU (ac g0) s0)) (old:=[vU H0,vU I0,vU J0,vU K0,vU M0,vU P0,vU Q0,vU R0]) (new' :=[vW ((ax (c0 / 2) 0 (u0 + (shlU (ac g0) s0)) H0).toNat:Int),vW ((ax (c0 / 2) 1 (u0 + (shlU (ac g0) s0)) I0).toNat:Int),vW ((ax (c0 / 2) 2 (u0 + (shlU (ac g0) s0)) J0).toNat:Int),vW ((ax (c0 / 2) 3 (u0 + (shlU (ac g0) s0)) K0).toNat:Int),vW ((ax (c0 / 2) 4 (u0 + (shlU (ac g0) s0)) M0).toNat:Int),vW ((ax (c0 / 2) 5 (u0 + (shlU (ac g0) s0)) P0).toNat:Int),vW ((ax (c0 / 2) 6 (u0 + (shlU (ac g0) s0)) Q0).toNat:Int),vW ((ax (c0 / 2) 7 (u0 + (shlU (ac g0) s0)) R0).toNat:Int)]) rfl rfl (bb b1 rfl) Y0 .hd rfl (gm _ _ _) rfl rfl (fun _=>⟨rfl,rfl⟩) rfl rfl) fun s6 P2 Z2=>AM (dk p0)<|AC<|Ao<|Ae rfl<|Ab (Bn (i:=c0) (j:=1) rfl rfl (by omega))<|Af rfl<|Aa<|F2 (c0 + 1,ax (c0 / 2) 0 (u0 + (shlU (ac g0) s0)) H0,ax (c0 / 2) 1 (u0 + (shlU (ac g0) s0)) I0,ax (c0 / 2) 2 (u0 + (shlU (ac g0) s0)) J0,ax (c0 / 2) 3 (u0 + (shlU (ac g0) s0)) K0,ax (c0 / 2) 4 (u0 + (shlU (ac g0) s0)) M0,ax (c0 / 2) 5 (u0 + (shlU (ac g0) s0)) P0,ax (c0 / 2) 6 (u0 + (shlU (ac g0) s0)) Q0,ax (c0 / 2) 7 (u0 + (shlU (ac g0) s0)) R0) P2 (Tt M1 Z2) h
 refine Be rfl ?_
 have h:=E3 _ h
 try dsimp only at h
 refine Ac<|Ab (AF rfl (Y0.memA .hd))<|AQ [vU H0,vU I0,vU J0,vU K0,vU M0,vU P0,vU Q0,vU R0] Y0 .t1 (ai rfl) fun t6 H1 D5=>Af rfl<|Aa<|Al rfl<|Ap hb0 func145 rfl (.cons (.many (cs:=[vU H0,vU I0,vU J0,vU K0,vU M0,vU P0,vU Q0,vU R0]) rfl rfl (H1.memA .t1)) (.cons (.tmp rfl) .nil)) rfl ?_
 cases h
 exact H1.gv
 intro V4 E1 h
 try dsimp only at h
 refine MX.ifb rfl h (fun v2 h=>?_) (fun v2 h=>?_)
 refine Ac<|bk h fun H6 s4 h=>RG.doesH .plain rfl (Does.mkH (α:=Int) (L:=L) s4 y0 aw rfl (fun _ _=>rfl)) fun D4 u6 ⟨q5,p1,b3,R1⟩=>Af rfl<|Aa<|Ac<|Ae rfl<|bk h fun I4 k4 h=>?_
 obtain ⟨g2,d5,x1,Z1,C2,W3,U5⟩:=St.nth (α:=Int) p1 .hd R1 k4
 obtain ⟨p2,g5,V1⟩:=BJ (α:=Int) p1 .hd Z1
 obtain rfl:g2 = ⟨p2,0,none⟩:=by rw [V1] at x1; cases x1; rfl
 have A3:C2 = [vI I4]:=W3; subst A3
 refine Ab (Bj 1 16 rfl x1 rfl rfl Z1)<|bk h fun K4 t4 h=>RG.acts' .plain (Acts.set (α:=Int) (i:=16) t4 p1 V1 (fun _=>.hd) R1 rfl rfl rfl rfl rfl rfl) fun v6 ⟨s5,q1,c3,s3⟩=>Aa<|Ao<|Ae rfl<|Ae rfl ?_
 have g1:=Br q1 .hd
 have d3:=Bs q1 .hd
 refine bk h fun P4 y4 h=>jE (bd 174) rfl (e2 rfl rfl) (fun w9 hw9=>ao_c n (g1.hL hL hw9) (Aq (Bu (α:=Int) (v:=D4) (xs:=K4) g1 L (Bf (α:=Int) q1 .hd s3 hL)) hw9) (g1.km h0_1 hw9) y4) rfl fun x6 F4 p3 ⟨Z5,hu_,X3⟩=>?_
 subst hu_
 obtain ⟨Q2,g3⟩:=g1.agr p3
 refine Af rfl<|Aa ?_
 obtain ⟨R2,P1⟩:=AI Q2 (.a1 .done)
 exact E1 (P4,F4) R2 (Tt b3 (Tt c3 (Tt d3 (Tt g3 P1)))) (Am X3 P1) h
 refine Ar ?_
 obtain ⟨I1,j3⟩:=AI y0 (.a1 .done)
 exact E1 (a0.fD,v0_1) I1 j3 (AS h0_1 I1) h
structure Tf where
  fN:Tc
  fD:Tc
  deriving DecidableEq
instance:Rep Tf:=Rep.via (β:=Tc × Tc) fun x=>(x.fN,x.fD)
def bb_p (n:Nat) (a0:Tf):Option (Ta × Int):=
  (aF_p n a0.fN).bind fun b0=>(aF_p n a0.fD).bind fun c0=>(if b0.2 = 0 then (if c0.2 = 0 then some ((⟨b0.1,c0.1⟩:Ta),(0:Int)) else some ((⟨(0,0,0,0,0,0,0,0),(0,0,0,0,0,0,0,0)⟩:Ta),(6:Int))) else some ((⟨(0,0,0,0,0,0,0,0),(0,0,0,0,0,0,0,0)⟩:Ta),(6:Int)))
theorem bb_c (n:Nat) {L w} (hL:hl L w) (a0:Tf) {v0_1:Value} (h0_1:Rep.R w L [v0_1] a0.fN.fD) {v0_3:Value} (h0_3:Rep.R w L [v0_3] a0.fD.fD)  {r:Ta × Int} (h:bb_p n a0 = some r) :
 Cl 101 #[.agg #[.bool a0.fN.fe,v0_1,.bool a0.fD.fe,v0_3]] w (ah w fun _ u=>u = .tuple #[.agg ((ab r.1)).toArray,vI r.2]):=by
 unfold bb_p at h
 refine AG func101 rfl rfl rfl fun _ cs0 hb0=>Ac<|RG.bx (Az w) rfl rfl fun R0 B0 v0 F0=>RG.nl zL v0 fun U0 C0 g0 G0=>Af rfl<|Aa<|Ac<|AX 0 rfl<|Ab (AW (cs:=[.bool a0.fN.fe,v0_1]) rfl rfl (ae (g0.memA .t1) 0 2))<|bk h fun b0 z0 h=>Bi (.tuple #[.agg ((ak b0.1)).toArray,vI b0.2]) (bd 145) rfl (e1 rfl) (fun w9 hw9=>aF_c n (g0.hL0 hL hw9) a0.fN (g0.k0 h0_1 hw9) z0) rfl<|Ae rfl<|Ab (Ah rfl rfl)<|Ab (Ah rfl rfl)<|RG.nl zP g0 fun V0 D0 x0 H0=>AQ (ak b0.1) x0 .hd (ai rfl) fun W0 j0 I0=>Af rfl<|Aa<|Ac<|AX 2 rfl<|Ab (AW (cs:=[.bool a0.fD.fe,v0_3]) rfl rfl (ae (j0.memA .t2) 2 2))<|bk h fun c0 A0 h=>Bi (.tuple #[.agg ((ak c0.1)).toArray,vI c0.2]) (bd 145) rfl (e1 rfl) (fun w9 hw9=>aF_c n (j0.hL0 hL hw9) a0.fD (j0.k0 h0_3 hw9) A0) rfl<|Ae rfl<|Ab (Ah rfl rfl)<|Ab (Ah rfl rfl)<|RG.nl zP j0 fun X0 E0 y0 J0=>AQ (ak c0.1) y0 .hd (ai rfl) fun Y0 d0 K0=>Af rfl<|Aa<|Ai<|Ac<|Ae rfl<|Ab (FV.neq (i:=b0.2) (j:=0) rfl rfl) ?_
 refine Ae rfl<|RG.ifn (s:=22) rfl h (fun t0 h=>?_) (fun t0 h=>?_)
 refine AH (Ak rfl)<|AH (FV.neq (i:=c0.2) (j:=0) rfl rfl)<|Bv rfl rfl<|Aa<|MX.ifn rfl h (fun u0 h=>?_) (fun u0 h=>?_)
 refine Ar<|Ac<|Ab (AF rfl (d0.memA .t1))<|Ab (AF rfl (d0.memA .hd))<|Ab (AO (vs:=[.agg ((ak b0.1)).toArray,.agg ((ak c0.1)).toArray]) (u:=.agg ((ak b0.1 ++ ak c0.1)).toArray) (e2 rfl rfl) (fun w9=>by kernel_rfl))<|AQ (ak b0.1 ++ ak c0.1) d0 .t2 (ai rfl) fun Z0 p0 M0=>Af rfl<|Aa<|Al rfl<|Ap hb0 func101 rfl (.cons (.many (cs:=(ak b0.1 ++ ak c0.1)) rfl rfl (p0.memA .t2)) (.cons (.tmp rfl) .nil)) rfl ?_
 cases h
 exact p0.gv
 refine Ac<|Ab (AO (vs:=[]) (u:=.agg zM) aj (fun w9=>by kernel_rfl))<|AQ zL d0 .t2 (ai rfl) fun b1 q0 P0=>Af rfl<|Aa<|Al rfl<|Ap hb0 func101 rfl (.cons (.many (cs:=zL) rfl rfl (q0.memA .t2)) (.cons (.tmp rfl) .nil)) rfl ?_
 cases h
 exact q0.gv
 refine Au<|Au<|Bm rfl rfl<|Aa<|Bb rfl<|Ac<|Ab (AO (vs:=[]) (u:=.agg zM) aj (fun w9=>by kernel_rfl))<|AQ zL d0 .t2 (ai rfl) fun c1 s0 Q0=>Af rfl<|Aa<|Al rfl<|Ap hb0 func101 rfl (.cons (.many (cs:=zL) rfl rfl (s0.memA .t2)) (.cons (.tmp rfl) .nil)) rfl ?_
 cases h
 exact s0.gv
def bs_l1 (_n:Nat) (a0:List Int) (j0:Int × Nat × (List Int) -> Option ((List Int) × Int)):Int × Nat × (List Int) -> Option ((List Int) × Int)
  | (g0,b0,d0)=>(if b0 < a0.length then (a0[b0]?).bind fun s0=>(chk (2 * s0)).bind fun k0=>(chk (k0 + g0)).bind fun c0=>(bQ c0 4294967296).bind fun p0=>(app d0 ([p0]:List Int)).bind fun t0=>(cJ c0 4294967296).bind fun q0=>j0 (q0,b0 + 1,t0) else some (d0,g0))
def bs_p (n:Nat) (a0:List Int) (a1:Int):Option (List Int):=
  Option.bind (am (bs_l1 n a0) n (a1,0,([]:List Int))) (fun (c0,g0)=>(app c0 ([g0]:List Int)).bind fun b0=>(az_p n b0).bind fun d0=>some d0)
theorem bs_c (n:Nat) {L w} (hL:hl L w) {a0:List Int} {v0_0:Value} (h0_0:Rep.R w L [v0_0] a0) {a1:Int}  {r:List Int} (h:bs_p n a0 a1 = some r) :
 Cl 200 #[v0_0,vI a1] w (ah w fun w' u=>∃ v0_0:Value,u = v0_0/\Rep.R w' L [v0_0] r):=by
 unfold bs_p at h
 have hS0:=Az w
 refine AG func200 rfl rfl rfl fun _ cs0 hb0=>Ac<|Af rfl<|Aa<|Ac<|Af rfl<|Aa<|Ai<|Ac<|Af rfl<|Aa<|AA ?_
 have x0:=hS0.nilRow 3 (Rep.size Int)
 have P1:=St.nilRowT hS0 3 (Rep.size Int)
 obtain ⟨W1,c1,Y0⟩:=aq h
 refine MX.lf (α:=Int × Nat × (List Int) × Value × (List Value)) (fun ⟨b0,c0,d0,k0,g0⟩=>[(0,v0_0),(1,vI b0),(5,k0),(6,vI ((c0:Nat):Int))]) (fun ⟨b0,c0,d0,k0,g0⟩=>[rr w 3 Int k0 d0.length g0]) (fun ⟨b0,c0,d0,k0,g0⟩ D0=>Cells D0 (bl [rr w 3 Int k0 d0.length g0] ++ L) g0 d0) (fun ⟨b0,c0,d0,k0,g0⟩=>(b0,c0,d0)) (a1,0,([]:List Int),vN,[]) c1 x0 (AE (cs:=[]) (xs:=([]:List Int)) x0 L (AK _ _)) ?_
 rintro H1 ⟨b0,c0,d0,k0,g0⟩ D0 I0 u0 Q0 B0 h
 unfold bs_l1 at h
 try dsimp only at h
 refine Ai<|Ac<|Ae rfl<|Ae rfl ?_
 have v0:=AS h0_0 u0
 have V1:a0.length <= 281474976710656:=Ba v0
 refine Ab (Bg (xs:=a0) underlying40 rfl v0)<|Ab (Bq (i:=c0) (j:=a0.length) rfl rfl)<|Aa<|AT rfl h (fun F0 h=>?_) (fun F0 h=>?_)
 refine Ar<|Ai<|AA<|Ac<|Ae rfl<|Ae rfl<|bk h fun E0 u1 h=>?_
 obtain ⟨G1,K1,W0,Z0,G0,g1,b1⟩:=Bk v0 u1
 have X0:G0 = [vI E0]:=g1; subst X0
 refine Ab (Bj 1 c0 rfl W0 rfl rfl Z0)<|AR rfl (b1 0 _ rfl)<|bk h fun z1 k1 h=>Ab (FV.mulc (i:=2) (j:=E0) rfl rfl k1)<|Ae rfl<|bk h fun C0 p1 h=>Ab (BE (i:=z1) (j:=b0) rfl rfl p1)<|Af rfl<|Aa<|Ac<|Ae rfl<|Ae rfl<|bk h fun j0 q1 h=>Ab (FV.remc (i:=C0) (j:=4294967296) rfl rfl q1)<|Aj .plain rfl (jA j0 (vI j0) u0 aw (e1 rfl)) fun Y1 I1 p0 z0=>bk h fun E1 v1 h=>RG.doesL .plain rfl (Bo (α:=Int) (ys:=([j0]:List Int)) v1 p0 (fun _ _=>.t1) aw rfl rfl (AD B0 z0) (Src.row (α:=Int) p0 .hd (jC j0 (vI j0) p0 L rfl))) fun B1 Z1 ⟨H0,J0,M0,U0⟩=>Af rfl<|Aa<|Ao<|Ae rfl<|bk h fun A1 s1 h=>Ab (FV.quoc (i:=C0) (j:=4294967296) rfl rfl s1)<|Af rfl<|Aa<|AC<|Ao<|Ae rfl<|Ab (Bn (i:=c0) (j:=1) rfl rfl (by omega))<|Af rfl<|Aa ?_
 obtain ⟨K0,A0⟩:=AI J0 .d1
 exact I0 (A1,c0 + 1,E1,B1,H0) K0 (Tt Q0 (Tt z0 (Tt M0 A0))) (AD U0 A0) h
 refine Be rfl ?_
 have h:=Y0 _ h
 try dsimp only at h
 refine Ac<|Ae rfl<|Ae rfl<|Aj .plain rfl (jA b0 (vI b0) u0 aw (e1 rfl)) fun b2 J1 q0 P0=>bk h fun F1 x1 h=>RG.doesL .plain rfl (Bo (α:=Int) (ys:=([b0]:List Int)) x1 q0 (fun _ _=>.t1) aw rfl rfl (AD B0 P0) (Src.row (α:=Int) q0 .hd (jC b0 (vI b0) q0 L rfl))) fun C1 c2 ⟨M1,s0,Q1,V0⟩=>?_
 have t0:=Br s0 .t1
 have R1:=Bs s0 .t1
 refine bk h fun g2 y1 h=>jE (bd 175) rfl (e1 rfl) (fun w9 hw9=>az_c n (t0.hL hL hw9) (Aq (Bu (α:=Int) (v:=C1) (xs:=F1) t0 L (Bf (α:=Int) s0 .t1 V0 hL)) hw9) y1) rfl fun d2 D1 R0 ⟨X1,hu_,j1⟩=>?_
 subst hu_
 obtain ⟨y0,U1⟩:=t0.agr R0
 refine Af rfl<|Aa<|Al rfl<|AY hb0 func200 rfl rfl ?_
 cases h
 exact ⟨y0.ag,fun w9 hw9=>⟨D1,rfl,y0.kd j1 hw9⟩⟩
def aB_l1 (n:Nat) (a0:List Int) (g0:Int) (a1:List Int) (p0:(List Int) × Int × (List Int) -> Option ((List Int) × (List Int))):(List Int) × Int × (List Int) -> Option ((List Int) × (List Int))
  | (k0,c0,b0)=>(if 0 <= c0 then (idx a0 g0).bind fun x0=>(bC c0).bind fun q0=>(bQ (shrS x0 q0) 2).bind fun t0=>(bs_p n k0 t0).bind fun d0=>(aM_p n d0 a1).bind fun C0=>jn (fun (z0,A0)=>(chk (c0 - 1)).bind fun u0=>p0 (z0,u0,A0)) (fun j0=>(if 0 <= C0 then (ao_p n d0 a1).bind fun D0=>(idx b0 g0).bind fun y0=>(bC c0).bind fun s0=>(chk (y0 + (shlS 1 s0))).bind fun v0=>(put b0 ((g0.toNat:Nat):Int) v0).bind fun B0=>j0 (D0,B0) else j0 (d0,b0))) else some (k0,b0))
def aB_l2 (n:Nat) (a0:List Int) (a1:List Int) (g0:(List Int) × Int × (List Int) -> Option ((List Int) × (List Int))):(List Int) × Int × (List Int) -> Option ((List Int) × (List Int))
  | (c0,b0,d0)=>(if 0 <= b0 then Option.bind (am (aB_l1 n a0 b0 a1) n (c0,31,d0)) (fun (k0,p0)=>(chk (b0 - 1)).bind fun j0=>g0 (k0,j0,p0)) else some (d0,c0))
def aB_p (n:Nat) (a0:List Int) (a1:List Int):Option ((List Int) × (List Int)):=
  (if ((a0.length:Nat):Int) <= (((a1.length:Nat):Int) - 1) then (app ([]:List Int) a0).bind fun g0=>some (([]:List Int),g0) else (mk (((a0.length:Nat):Int) - (((a1.length:Nat):Int) - 1)) (0:Int)).bind fun b0=>(cut a0 (((a0.length:Nat):Int) - (((a1.length:Nat):Int) - 1)) (a0.length:Int)).bind fun j0=>(app ([]:List Int) j0).bind fun k0=>Option.bind (am (aB_l2 n a0 a1) n (k0,((b0.length:Nat):Int) - 1,b0)) (fun (d0,c0)=>(az_p n d0).bind fun p0=>some (p0,c0)))
theorem aB_c (n:Nat) {L w} (hL:hl L w) {a0:List Int} {v0_0:Value} (h0_0:Rep.R w L [v0_0] a0) {a1:List Int} {v1_0:Value} (h1_0:Rep.R w L [v1_0] a1)  {r:(List Int) × (List Int)} (h:aB_p n a0 a1 = some r) :
 Cl 176 #[v0_0,v1_0] w (ah w fun w' u=>∃ v0_0 v1_0:Value,u = .tuple #[v0_0,v1_0]/\Rep.R w' L [v0_0] r.1/\Rep.R w' L [v1_0] r.2):=by
 unfold aB_p at h
 have hS0:=Az w
 refine AG func176 rfl rfl rfl fun _ cs0 hb0=>Ac<|Af rfl<|Af rfl<|Aa<|Ac<|Ae rfl ?_
 have hl1:a1.length <= 281474976710656:=Ba h1_0
 refine Ab (Bg (xs:=a1) underlying40 rfl h1_0)<|Ab (FV.subI (i:=((a1.length:Nat):Int)) (j:=1) rfl rfl (by omega))<|Af rfl<|Aa<|Ai<|Ac<|Ae rfl ?_
 have hl2:a0.length <= 281474976710656:=Ba h0_0
 refine Ab (Bg (xs:=a0) underlying40 rfl h0_0)<|Ae rfl<|Ab (FV.leq (i:=((a0.length:Nat):Int)) (j:=((a1.length:Nat):Int) - 1) rfl rfl)<|Aa<|AT rfl h (fun c3 h=>?_) (fun c3 h=>?_)
 refine Ac<|Aj .plain rfl (jB Int hS0 aw) fun C4 V3 M0 g4=>Ae rfl<|bk h fun G3 p3 h=>RG.doesL .plain rfl (Bo (α:=Int) (ys:=a0) p3 M0 (fun _ _=>.hd) aw rfl rfl (jD Int M0 L) (Src.rep (AS h0_0 M0))) fun D1 H4 ⟨c4,J0,j4,u2⟩=>Af rfl<|Af rfl<|Aa<|Al rfl ?_
 have s4:=BS (α:=Int) J0 L
 have E0:=Br J0 .hd
 have k4:=Bs J0 .hd
 have V2:=Bu (α:=Int) (v:=D1) (xs:=G3) E0 L (Bf (α:=Int) J0 .hd u2 hL)
 refine Ap hb0 func176 rfl (.cons (.tmp rfl) (.cons (.tmp rfl) .nil)) rfl ?_
 cases h
 exact ⟨E0.ag,fun w9 hw9=>⟨vN,D1,rfl,E0.kd (BS (α:=Int) E0 L) hw9,E0.kd V2 hw9⟩⟩
 refine Ar<|Ac<|Ae rfl<|Ab (Bg (xs:=a0) underlying40 rfl h0_0)<|Ae rfl<|Ab (FV.subI (i:=((a0.length:Nat):Int)) (j:=((a1.length:Nat):Int) - 1) rfl rfl (by omega))<|bk h fun G0 C1 h=>Aj .plain rfl (Does.mk (α:=Int) C1 hS0 aw rfl) fun I4 c0 j1 p4=>Af rfl<|Aa<|Ac<|Aj .plain rfl (jB Int j1 aw) fun J4 W3 U0 g2=>Ae rfl<|Ae rfl ?_
 have z1:=AS h0_0 U0
 refine Ab (Bg (xs:=a0) underlying40 rfl z1)<|Ae rfl<|Ab (FV.subI (i:=((a0.length:Nat):Int)) (j:=((a1.length:Nat):Int) - 1) rfl rfl (by omega))<|bk h fun I3 s3 h=>RG.valE .plain rfl (FV.cutL (α:=Int) s3 rfl rfl z1 ⟨_,rfl⟩ rfl) fun B4 W2=>bk h fun G1 t3 h=>RG.doesL .plain rfl (Bo (α:=Int) (ys:=I3) t3 U0 (fun _ _=>.hd) aw rfl rfl (jD Int U0 L) (Src.rep W2)) fun E1 K4 ⟨d4,F0,j2,v2⟩=>Af rfl<|Aa<|Ai<|Ac<|Ae rfl ?_
 have q4:G0.length <= 4294967296:=St.rowLe (α:=Int) F0 .t1
 obtain ⟨P3,b4,A2⟩:=St.rowV (α:=Int) F0 .t1
 refine Ab (FV.lenV underlying40 rfl A2)<|Ab (FV.subI (i:=((G0.length:Nat):Int)) (j:=1) rfl rfl (by omega))<|Af rfl<|Aa<|AA ?_
 have k1:=Br F0 .hd
 obtain ⟨t4,J2,B2⟩:=aq h
 refine MX.lf (α:=(List Int) × Int × (List Int) × Value × (List Value)) (fun ⟨B0,b0,g0,y0,u0⟩=>[(0,v0_0),(1,v1_0),(7,(.slice (some ⟨c0,0,none⟩) (((a0.length:Nat):Int) - (((a1.length:Nat):Int) - 1)).toNat (((a0.length:Nat):Int) - (((a1.length:Nat):Int) - 1)).toNat)),(8,y0),(9,vI b0)]) (fun ⟨B0,b0,g0,y0,u0⟩=>[rr w 3 Int (.slice (some ⟨c0,0,none⟩) (((a0.length:Nat):Int) - (((a1.length:Nat):Int) - 1)).toNat (((a0.length:Nat):Int) - (((a1.length:Nat):Int) - 1)).toNat) g0.length u0]) (fun ⟨B0,b0,g0,y0,u0⟩ Z0=>Rep.R Z0 (bl [rr w 3 Int (.slice (some ⟨c0,0,none⟩) (((a0.length:Nat):Int) - (((a1.length:Nat):Int) - 1)).toNat (((a0.length:Nat):Int) - (((a1.length:Nat):Int) - 1)).toNat) g0.length u0] ++ L) [y0] B0/\Cells Z0 (bl [rr w 3 Int (.slice (some ⟨c0,0,none⟩) (((a0.length:Nat):Int) - (((a1.length:Nat):Int) - 1)).toNat (((a0.length:Nat):Int) - (((a1.length:Nat):Int) - 1)).toNat) g0.length u0] ++ L) u0 g0) (fun ⟨B0,b0,g0,y0,u0⟩=>(B0,b0,g0)) (G1,((G0.length:Nat):Int) - 1,G0,E1,(List.replicate (((a0.length:Nat):Int) - (((a1.length:Nat):Int) - 1)).toNat [vI 0]).flatten) J2 k1 ⟨(Bu (α:=Int) (v:=E1) (xs:=G1) k1 L (Bf (α:=Int) F0 .hd v2 hL)),(AD (AE (cs:=(List.replicate (((a0.length:Nat):Int) - (((a1.length:Nat):Int) - 1)).toNat [vI 0]).flatten) (xs:=G0) j1 L (BR C1 rfl)) (Tt g2 (Tt j2 (Bs F0 .hd))))⟩ ?_
 rintro Q3 ⟨B0,b0,g0,y0,u0⟩ Z0 V1 H0 Z1 ⟨A1,u1⟩ h
 unfold aB_l2 at h
 try dsimp only at h
 refine Ai<|Ac<|Ae rfl<|Ab (FV.geq (i:=b0) (j:=0) rfl rfl)<|Aa<|AT rfl h (fun K1 h=>?_) (fun K1 h=>?_)
 refine Ar<|Ai<|AA<|Ac<|Af rfl<|Aa<|AA ?_
 obtain ⟨u4,K2,C2⟩:=aq h
 refine MX.lf (α:=(List Int) × Int × (List Int) × Value × (List Value)) (fun ⟨C0,p0,j0,z0,q0⟩=>[(0,v0_0),(1,v1_0),(7,(.slice (some ⟨c0,0,none⟩) (((a0.length:Nat):Int) - (((a1.length:Nat):Int) - 1)).toNat (((a0.length:Nat):Int) - (((a1.length:Nat):Int) - 1)).toNat)),(8,z0),(9,vI b0),(10,vI p0)]) (fun ⟨C0,p0,j0,z0,q0⟩=>[rr w 3 Int (.slice (some ⟨c0,0,none⟩) (((a0.length:Nat):Int) - (((a1.length:Nat):Int) - 1)).toNat (((a0.length:Nat):Int) - (((a1.length:Nat):Int) - 1)).toNat) j0.length q0]) (fun ⟨C0,p0,j0,z0,q0⟩ b1=>Rep.R b1 (bl [rr w 3 Int (.slice (some ⟨c0,0,none⟩) (((a0.length:Nat):Int) - (((a1.length:Nat):Int) - 1)).toNat (((a0.length:Nat):Int) - (((a1.length:Nat):Int) - 1)).toNat) j0.length q0] ++ L) [z0] C0/\Cells b1 (bl [rr w 3 Int (.slice (some ⟨c0,0,none⟩) (((a0.length:Nat):Int) - (((a1.length:Nat):Int) - 1)).toNat (((a0.length:Nat):Int) - (((a1.length:Nat):Int) - 1)).toNat) j0.length q0] ++ L) q0 j0) (fun ⟨C0,p0,j0,z0,q0⟩=>(C0,p0,j0)) (B0,31,g0,y0,u0) K2 H0 ⟨A1,u1⟩ ?_
 rintro R3 ⟨C0,p0,j0,z0,q0⟩ b1 W1 I0 p1 ⟨B1,W0⟩ h
 unfold aB_l1 at h
 try dsimp only at h
 refine Ai<|Ac<|Ae rfl<|Ab (FV.geq (i:=p0) (j:=0) rfl rfl)<|Aa<|AT rfl h (fun M1 h=>?_) (fun M1 h=>?_)
 refine Ar<|Ai<|AA<|Ac<|Ae rfl<|Ae rfl<|Ae rfl<|bk h fun d1 d3 h=>?_
 obtain ⟨D2,g3⟩:=aA d3
 obtain ⟨M3,X3,x2,E2,Q1,M2,H2⟩:=Bk (AS h0_0 I0) g3
 have y2:Q1 = [vI d1]:=M2; subst y2
 refine Ab (Bj 1 (b0.toNat) rfl x2 rfl D2 E2)<|AR rfl (H2 0 _ rfl)<|Ae rfl<|bk h fun z3 F2 h=>Ab (FV.shrSI (i:=d1) (q:=p0) rfl rfl F2)<|bk h fun v4 X2 h=>Ab (FV.remc (i:=shrS d1 z3) (j:=2) rfl rfl X2)<|bk h fun J3 u3 h=>jE (bd 200) rfl (e2 rfl rfl) (fun w9 hw9=>bs_c n (I0.hL hL hw9) (Aq B1 hw9) u3) rfl fun D4 D3 k2 ⟨y4,hu_,Y0⟩=>?_
 subst hu_
 obtain ⟨x0,V0⟩:=I0.agr k2
 refine Af rfl<|Aa<|Ac<|Ae rfl<|Ae rfl<|bk h fun H1 v3 h=>Bi (vI H1) (bd 177) rfl (e2 rfl rfl) (fun w9 hw9=>aM_c n (x0.hL0 hL hw9) (x0.kd Y0 hw9) (x0.k0 h1_0 hw9) v3) rfl<|Ab (FV.geq (i:=H1) (j:=0) rfl rfl)<|Aa<|MX.jf (α:=(List Int) × (List Int) × Value × (List Value)) (fun ⟨D0,t0,A0,v0⟩=>[(0,v0_0),(1,v1_0),(7,(.slice (some ⟨c0,0,none⟩) (((a0.length:Nat):Int) - (((a1.length:Nat):Int) - 1)).toNat (((a0.length:Nat):Int) - (((a1.length:Nat):Int) - 1)).toNat)),(8,A0),(9,vI b0),(10,vI p0)]) (fun ⟨D0,t0,A0,v0⟩=>[rr w 3 Int (.slice (some ⟨c0,0,none⟩) (((a0.length:Nat):Int) - (((a1.length:Nat):Int) - 1)).toNat (((a0.length:Nat):Int) - (((a1.length:Nat):Int) - 1)).toNat) t0.length v0]) (fun ⟨D0,t0,A0,v0⟩ c1=>Rep.R c1 (bl [rr w 3 Int (.slice (some ⟨c0,0,none⟩) (((a0.length:Nat):Int) - (((a1.length:Nat):Int) - 1)).toNat (((a0.length:Nat):Int) - (((a1.length:Nat):Int) - 1)).toNat) t0.length v0] ++ L) [A0] D0/\Cells c1 (bl [rr w 3 Int (.slice (some ⟨c0,0,none⟩) (((a0.length:Nat):Int) - (((a1.length:Nat):Int) - 1)).toNat (((a0.length:Nat):Int) - (((a1.length:Nat):Int) - 1)).toNat) t0.length v0] ++ L) v0 t0) (fun ⟨D0,t0,A0,v0⟩=>(D0,t0)) x0 h ?_ ?_
 rintro ⟨D0,t0,A0,v0⟩ c1 X1 b2 ⟨P2,s2⟩ h
 try dsimp only at h
 refine AC<|Ao<|Ae rfl<|bk h fun B3 Y2 h=>Ab (FV.subc (i:=p0) (j:=1) rfl rfl Y2)<|Af rfl<|Aa<|W1 (D0,B3,t0,A0,v0) X1 (Tt p1 (Tt V0 b2)) ⟨P2,s2⟩ h
 intro U3 g1 h
 try dsimp only at h
 refine AT rfl h (fun P1 h=>?_) (fun P1 h=>?_)
 refine Ac<|Ae rfl<|Ae rfl<|bk h fun K3 x3 h=>jE (bd 174) rfl (e2 rfl rfl) (fun w9 hw9=>ao_c n (x0.hL hL hw9) (Aq Y0 hw9) (x0.km h1_0 hw9) x3) rfl fun E4 E3 p2 ⟨z4,hu_,Q2⟩=>?_
 subst hu_
 obtain ⟨P0,q1⟩:=x0.agr p2
 refine Af rfl<|Aa<|du 10 fun d0 s0=>Rv 0 d0 rfl s0 (fun _=>Ak rfl)<|Rv 1 d0 rfl s0 (fun _=>Ak rfl)<|Rv 2 d0 rfl s0 (fun _=>Ak rfl)<|Rv 3 d0 rfl s0 (fun _=>Ak rfl)<|bk h fun F1 j3 h=>?_
 obtain ⟨x1,k3⟩:=aA j3
 have y1:=AD W0 (Tt V0 q1)
 obtain ⟨I1,Y3,K0,X0,R1,R2,I2⟩:=St.nth (α:=Int) P0 .hd y1 k3
 obtain ⟨J1,Z3,v1⟩:=BJ (α:=Int) P0 .hd X0
 obtain rfl:I1 = ⟨J1,0,none⟩:=by rw [v1] at K0; cases K0; rfl
 have z2:R1 = [vI F1]:=R2; subst z2
 refine Rv 4 d0 rfl s0 (fun _=>Bj 1 (b0.toNat) rfl K0 rfl x1 X0)<|Rx 5 1792 d0 rfl s0 (AL rfl (I2 0 _ rfl))<|Rv 6 d0 rfl s0 (fun _=>Ak rfl)<|bk h fun A3 G2 h=>Rv 7 d0 rfl s0 (fun _=>FV.shlSI (i:=1) (q:=p0) rfl rfl G2)<|bk h fun x4 Z2 h=>Rv 8 d0 rfl s0 (fun _=>BE (i:=F1) (j:=shlS 1 A3) rfl rfl Z2)<|Rv 9 d0 rfl s0 (fun _=>Bj 1 (b0.toNat) rfl K0 rfl x1 X0)<|bk h fun H3 q3 h=>BT (i:=10) (rk d0) (RO.acts (m' :=2047) (sk d0) rfl rfl .plain (Acts.set (α:=Int) (i:=b0.toNat) q3 P0 v1 (fun _=>.hd) y1 rfl rfl rfl rfl rfl rfl) (fun F4 ⟨U1,Y1,s1,t2⟩=>?_))
 refine AM (dk d0)<|g1 (K3,H3,E3,U1) Y1 (Tt q1 s1) ⟨(Am Q2 s1),t2⟩ h
 refine Ar<|g1 (J3,j0,D3,q0) x0 (Bw _ _) ⟨Y0,(AD W0 V0)⟩ h
 refine Be rfl ?_
 have h:=C2 _ h
 try dsimp only at h
 refine AC<|Ao<|Ae rfl<|bk h fun C3 b3 h=>Ab (FV.subc (i:=b0) (j:=1) rfl rfl b3)<|Af rfl<|Aa<|V1 (C0,C3,j0,z0,q0) I0 (Tt Z1 p1) ⟨B1,W0⟩ h
 refine Be rfl ?_
 have h:=B2 _ h
 try dsimp only at h
 refine Ac<|Ae rfl ?_
 have Q0:=Br H0 .hd
 have c2:=Bs H0 .hd
 refine bk h fun M4 y3 h=>jE (bd 175) rfl (e1 rfl) (fun w9 hw9=>az_c n (Q0.hL hL hw9) (Aq (Bu (α:=Int) (v:=(.slice (some ⟨c0,0,none⟩) (((a0.length:Nat):Int) - (((a1.length:Nat):Int) - 1)).toNat (((a0.length:Nat):Int) - (((a1.length:Nat):Int) - 1)).toNat)) (xs:=g0) Q0 L (Bf (α:=Int) H0 .hd u1 hL)) hw9) y3) rfl fun G4 F3 q2 ⟨A4,hu_,U2⟩=>?_
 subst hu_
 obtain ⟨R0,d2⟩:=Q0.agr q2
 refine Ae rfl<|Af rfl<|Af rfl<|Aa<|Al rfl<|Ap hb0 func176 rfl (.cons (.tmp rfl) (.cons (.tmp rfl) .nil)) rfl ?_
 cases h
 exact ⟨R0.ag,fun w9 hw9=>⟨F3,y0,rfl,R0.kd U2 hw9,R0.kd (Am A1 (Tt c2 d2)) hw9⟩⟩
def aO_l1 (n:Nat) (d0:(List Int) × (List Int) -> Option (List Int)):(List Int) × (List Int) -> Option (List Int)
  | (c0,b0)=>(if 0 < b0.length then (aB_p n c0 b0).bind fun g0=>d0 (b0,g0.2) else some c0)
def aO_p (n:Nat) (a0:Tc) (a1:Tc):Option Tc:=
  Option.bind (am (aO_l1 n) n (a0.fD,a1.fD)) (fun b0=>some (⟨false,b0⟩:Tc))
theorem aO_c (n:Nat) {L w} (hL:hl L w) (a0:Tc) {v0_1:Value} (h0_1:Rep.R w L [v0_1] a0.fD) (a1:Tc) {v1_1:Value} (h1_1:Rep.R w L [v1_1] a1.fD)  {r:Tc} (h:aO_p n a0 a1 = some r) :
 Cl 144 #[.agg #[.bool a0.fe,v0_1],.agg #[.bool a1.fe,v1_1]] w (ah w fun w' u=>∃ v0_1:Value,u = .agg #[.bool r.fe,v0_1]/\Rep.R w' L [v0_1] r.fD):=by
 unfold aO_p at h
 refine AG func144 rfl rfl rfl fun _ cs0 hb0=>Ac<|RG.bx (Az w) rfl rfl fun s1 W0 C0 Z0=>RG.bx C0 rfl rfl fun u1 X0 D0 b1=>RG.nl [.bool false,vN] D0 fun v1 p0 t0 c1=>Aa<|Ai<|du 6 fun d0 j0=>Rv 0 d0 rfl j0 (fun _=>AU 1 rfl)<|Rx 1 48 d0 rfl j0 (AL rfl ((t0.memA .t2) 1 _ rfl))<|Rv 2 d0 rfl j0 (fun _=>AU 1 rfl)<|Rx 3 32 d0 rfl j0 (AL rfl ((t0.memA .t1) 1 _ rfl))<|Rv 4 d0 rfl j0 (fun _=>Bh rfl)<|Rv 5 d0 rfl j0 (fun _=>Bh rfl)<|AM (dk d0)<|Ai<|AA ?_
 obtain ⟨u0,d1⟩:=AI t0 (.a0 .done)
 obtain ⟨k1,J0,I0⟩:=aq h
 refine MX.lf (α:=(List Int) × (List Int) × Value × Value) (fun ⟨k0,c0,b0,g0⟩=>[(4,vP p0),(5,b0),(6,g0)]) (fun ⟨k0,c0,b0,g0⟩=>[.cells p0 [.bool false,vN] 162]) (fun ⟨k0,c0,b0,g0⟩ y0=>Rep.R y0 (bl [.cells p0 [.bool false,vN] 162] ++ L) [b0] k0/\Rep.R y0 (bl [.cells p0 [.bool false,vN] 162] ++ L) [g0] c0) (fun ⟨k0,c0,b0,g0⟩=>(k0,c0)) (a0.fD,a1.fD,v0_1,v1_1) J0 u0 ⟨(AS h0_1 u0),(AS h1_1 u0)⟩ ?_
 rintro V0 ⟨k0,c0,b0,g0⟩ y0 B0 v0 F0 ⟨q0,s0⟩ h
 unfold aO_l1 at h
 try dsimp only at h
 refine Ai<|Ac<|Ae rfl ?_
 have g1:c0.length <= 281474976710656:=Ba s0
 refine Ab (Bg (xs:=c0) underlying40 rfl s0)<|Ab (FV.gtrN (i:=c0.length) (j:=0) rfl rfl)<|Aa<|AT rfl h (fun A0 h=>?_) (fun A0 h=>?_)
 refine Ar<|AA<|Ac<|Ae rfl<|Ae rfl<|bk h fun R0 P0 h=>jE (bd 176) rfl (e2 rfl rfl) (fun w9 hw9=>aB_c n (v0.hL hL hw9) (Aq q0 hw9) (Aq s0 hw9) P0) rfl fun x1 q1 H0 ⟨p1,Q0,hu_,j1,K0⟩=>?_
 subst hu_
 obtain ⟨E0,z0⟩:=v0.agr H0
 refine Ae rfl<|Ab (Ah rfl rfl)<|Ab (Ah rfl rfl)<|Af rfl<|Af rfl<|Aa<|Ao<|Ae rfl<|Ae rfl<|Af rfl<|Af rfl<|Aa<|AC<|B0 (c0,R0.2,g0,Q0) E0 (Tt F0 z0) ⟨(Am s0 z0),K0⟩ h
 refine Be rfl ?_
 have h:=I0 _ h
 try dsimp only at h
 refine Ac<|Ae rfl ?_
 obtain ⟨U0,Y0,M0,_⟩:=BQ q0
 refine Ab (AO (vs:=[b0]) (u:=.agg #[.bool false,b0]) (e1 rfl) (fun w9=>by rw [M0]; try kernel_rfl))<|AQ [.bool false,b0] v0 .hd (o2 rfl (AP q0)) fun y1 x0 G0=>Aa<|Al rfl<|Ap hb0 func144 rfl (.cons (.many (cs:=[.bool false,b0]) rfl rfl (x0.memA .hd)) .nil) rfl ?_
 cases h
 exact ⟨x0.ag,fun w9 hw9=>⟨b0,rfl,x0.kd (Am q0 G0) hw9⟩⟩
def aa_p (n:Nat) (a0:Bool) (a1:List Int):Option Tc:=
  (az_p n a1).bind fun b0=>(if a0 = true then some (⟨(decide (0 < b0.length)),b0⟩:Tc) else some (⟨false,b0⟩:Tc))
theorem aa_c (n:Nat) {L w} (hL:hl L w) {a0:Bool} {a1:List Int} {v1_0:Value} (h1_0:Rep.R w L [v1_0] a1)  {r:Tc} (h:aa_p n a0 a1 = some r) :
 Cl 173 #[.bool a0,v1_0] w (ah w fun w' u=>∃ v0_1:Value,u = .agg #[.bool r.fe,v0_1]/\Rep.R w' L [v0_1] r.fD):=by
 unfold aa_p at h
 refine AG func173 rfl rfl rfl fun _ cs0 hb0=>Ac<|RG.nl [.bool false,vN] (Az w) fun I0 B0 g0 E0=>Aa<|Ac<|Ae rfl<|bk h fun d0 y0 h=>jE (bd 175) rfl (e1 rfl) (fun w9 hw9=>az_c n (g0.hL hL hw9) (g0.km h1_0 hw9) y0) rfl fun J0 b0 u0 ⟨H0,hu_,c0⟩=>?_
 subst hu_
 obtain ⟨p0,F0⟩:=g0.agr u0
 refine Af rfl<|Aa<|Ac<|Ae rfl<|Ae rfl<|RG.ifb (s:=8) rfl h (fun q0 h=>?_) (fun q0 h=>?_)
 refine AH (Ak rfl) ?_
 have G0:d0.length <= 281474976710656:=Ba c0
 refine AH (Bg (xs:=d0) underlying40 rfl c0)<|AH (FV.gtrN (i:=d0.length) (j:=0) rfl rfl)<|Bm rfl rfl<|Ae rfl ?_
 obtain ⟨z0,C0,v0,_⟩:=BQ c0
 refine Ab (AO (vs:=[.bool (decide (0 < d0.length)),b0]) (u:=.agg #[.bool (decide (0 < d0.length)),b0]) (e2 rfl rfl) (fun w9=>by rw [v0]; try kernel_rfl))<|AQ [.bool (decide (0 < d0.length)),b0] p0 .hd (o2 rfl (AP c0)) fun K0 j0 s0=>Aa<|Al rfl<|Ap hb0 func173 rfl (.cons (.many (cs:=[.bool (decide (0 < d0.length)),b0]) rfl rfl (j0.memA .hd)) .nil) rfl ?_
 cases h
 exact ⟨j0.ag,fun w9 hw9=>⟨b0,rfl,j0.kd (Am c0 s0) hw9⟩⟩
 refine Au<|Au<|Au<|Bv rfl rfl<|Ae rfl ?_
 obtain ⟨A0,D0,x0,_⟩:=BQ c0
 refine Ab (AO (vs:=[.bool false,b0]) (u:=.agg #[.bool false,b0]) (e2 rfl rfl) (fun w9=>by rw [x0]; try kernel_rfl))<|AQ [.bool false,b0] p0 .hd (o2 rfl (AP c0)) fun M0 k0 t0=>Aa<|Al rfl<|Ap hb0 func173 rfl (.cons (.many (cs:=[.bool false,b0]) rfl rfl (k0.memA .hd)) .nil) rfl ?_
 cases h
 exact ⟨k0.ag,fun w9 hw9=>⟨b0,rfl,k0.kd (Am c0 t0) hw9⟩⟩
def bG_p (n:Nat) (a0:Tc):Option Tc:=
  (aa_p n (!a0.fe) a0.fD).bind fun b0=>some b0
theorem bG_c (n:Nat) {L w} (hL:hl L w) (a0:Tc) {v0_1:Value} (h0_1:Rep.R w L [v0_1] a0.fD)  {r:Tc} (h:bG_p n a0 = some r) :
 Cl 178 #[.agg #[.bool a0.fe,v0_1]] w (ah w fun w' u=>∃ v0_1:Value,u = .agg #[.bool r.fe,v0_1]/\Rep.R w' L [v0_1] r.fD):=by
 unfold bG_p at h
 refine AG func178 rfl rfl rfl fun _ cs0 hb0=>Ac<|RG.bx (Az w) rfl rfl fun B0 u0 k0 x0=>RG.nl [.bool false,vN] k0 fun C0 v0 b0 y0=>Aa<|Ac<|AX 0 rfl<|AR rfl ((b0.memA .t1) 0 _ rfl)<|Ab (Bp rfl)<|AX 1 rfl<|AR rfl ((b0.memA .t1) 1 _ rfl)<|bk h fun j0 t0 h=>jE (bd 173) rfl (e2 rfl rfl) (fun w9 hw9=>aa_c n (b0.hL hL hw9) (b0.km h0_1 hw9) t0) rfl fun D0 A0 s0 ⟨d0,hu_,g0⟩=>?_
 subst hu_
 obtain ⟨p0,z0⟩:=b0.agr s0
 refine AQ [.bool j0.fe,d0] p0 .hd (o2 rfl (AP g0)) fun E0 c0 q0=>Aa<|Al rfl<|Ap hb0 func178 rfl (.cons (.many (cs:=[.bool j0.fe,d0]) rfl rfl (c0.memA .hd)) .nil) rfl ?_
 cases h
 exact ⟨c0.ag,fun w9 hw9=>⟨d0,rfl,c0.kd (Am g0 q0) hw9⟩⟩
end Go.Proofs.YtdolpanbfpjnmaaGreatDoor
