/- Functions of the program, and what they give: part 9. -/
import Derived.Test.YtcijnmkodpfpgaaGreatDoorZS8
namespace Go.Proofs.YtcijnmkodpfpgaaGreatDoor
open Go Go.RowKit
set_option maxRecDepth 4000
set_option maxHeartbeats 4000000

def cs_A86 (x:TBend × TBend):List Value:=[.int .u8 (x.1.fWhat.toNat:Int),.int .u8 (x.1.fAt.toNat:Int),vI x.1.fN,.int .u8 (x.2.fWhat.toNat:Int),.int .u8 (x.2.fAt.toNat:Int),vI x.2.fN]
def tb8_6:List (Nat × Nat × Nat):=[(0,562949953421312,2048),(0,1125899906842624,4096),(0,2251799813685248,16),(4,4503599627370496,2251799813685248),(0,9007199254740992,4096),(24,18014398509481984,13510798882111488),(0,36028797018963968,0),(99,72057594037927936,55732045388709888),(0,144115188075855872,0)]
def tb8_13:List (Nat × Nat × Nat):=[(0,309485009821345068724781056,128),(0,618970019642690137449562112,256),(0,1237940039285380274899124224,16384),(7,2475880078570760549798248448,2166395068749415481073467392),(0,4951760157141521099596496896,128),(0,9903520314283042199192993792,256),(0,19807040628566084398385987584,16384),(120,39614081257132168796771975168,34662321099990647697175478272),(136,79228162514264337593543950336,42089961335702929346570223616),(384,158456325028528675187087900672,79228162514264337593543950336),(512,316912650057057350374175801344,158456325028528675187087917056),(512,633825300114114700748351602688,158456325028528675187087902720),(3584,1267650600228229401496703205376,1109194275199700726309615304704),(512,2535301200456458802993406410752,158456325028528675187087917056),(512,5070602400912917605986812821504,158456325028528675187087902720),(29184,10141204801825835211973625643008,7764359926397905084167307132928),(37376,20282409603651670423947251286016,11567311727082593288657416749056),(66048,40564819207303340847894502572032,20440865928680199099134339186688),(163840,81129638414606681695789005144064,40564819207303340847894502572032),(262144,162259276829213363391578010288128,81129638414606681695789005176832),(262144,324518553658426726783156020576256,81129638414606681695789005275136),(1835008,649037107316853453566312041152512,567907468902246771870523036008448),(2359296,1298074214633706907132624082305024,730166745731460135262101046296576),(4456448,2596148429267413814265248164610048,1379203853048313588828413087449088),(10485760,5192296858534827628530496329220096,2596148429267413814265248164610048),(16777216,10384593717069655257060992658440192,5192296858534827628530496329285632),(16777216,20769187434139310514121985316880384,5192296858534827628530496329482240),(117440512,41538374868278621028243970633760768,36346078009743793399713474304540672),(150994944,83076749736557242056487941267521536,46730671726813448656774466962980864),(285212672,166153499473114484112975882535043072,83076749736557242056487941267521536),(536870912,332306998946228968225951765070086144,166153499473114484112975882535567360),(536870912,664613997892457936451903530140172288,166153499473114484112975882537140224),(3758096384,1329227995784915872903807060280344576,1163074496311801388790831177745301504),(4831838208,2658455991569831745807614120560689152,1495381495258030357016782942815387648),(9126805504,5316911983139663491615228241121378304,2824609491042946229920590003095732224),(21474836480,10633823966279326983230456482242756608,5316911983139663491615228241121378304),(34359738368,21267647932558653966460912964485513216,10633823966279326983230456482243805184),(34359738368,42535295865117307932921825928971026432,10633823966279326983230456482246950912),(240518168576,85070591730234615865843651857942052864,74436767763955288882613195375699296256),(309237645312,170141183460469231731687303715884105728,95704415696513942849074108340184809472),(584115552256,340282366920938463463374607431768211456,170141183460469231731687303715884105728),(1099511627776,680564733841876926926749214863536422912,340282366920938463463374607431768227840),(3298534883328,1361129467683753853853498429727072845824,1020847100762815390390123822295304634368),(1099511627776,2722258935367507707706996859454145691648,340282366920938463463374607431768227840),(14293651161088,5444517870735015415413993718908291383296,3062541302288446171170371466885913903104),(23089744183296,10889035741470030830827987437816582766592,7145929705339707732730866756067132440576),(36283883716608,21778071482940061661655974875633165533184,11229318108390969294291362045248350978048),(71468255805440,43556142965880123323311949751266331066368,22118353849861000125119349483064933744640)]
theorem op_TSession {w:World} {L:List Nat} {cs:List Value} {x:TSession} (h:Rep.R w L cs x):∃ v1 v2 v3 v4:Value,cs = [vI x.fK,v1,v2,v3,v4]∧Rep.R w L [v1] x.fPlan∧Rep.R w L [v2] x.fTotals∧Rep.R w L [v3] x.fDone∧Rep.R w L [v4] x.fUndone:=by
  obtain ⟨c0,r0,rfl,h0,h⟩:=h
  have e0:c0 = [vI x.fK]:=h0; subst e0
  obtain ⟨c1,r1,rfl,h1,h⟩:=h
  obtain ⟨v1,rfl,kv1⟩:=lst_one (xs:=x.fPlan) h1
  obtain ⟨c2,r2,rfl,h2,h⟩:=h
  obtain ⟨v2,rfl,kv2⟩:=lst_one (xs:=x.fTotals) h2
  obtain ⟨c3,r3,rfl,h3,h⟩:=h
  obtain ⟨v3,rfl,kv3⟩:=lst_one (xs:=x.fDone) h3
  obtain ⟨v4,rfl,kv4⟩:=lst_one (xs:=x.fUndone) h
  exact ⟨v1,v2,v3,v4,rfl,kv1,kv2,kv3,kv4⟩
theorem mk_TSession {w:World} {L:List Nat} (a0:Int) (a1:List Int) {u1:Value} (h1:Rep.R w L [u1] a1) (a2:List Int) {u2:Value} (h2:Rep.R w L [u2] a2) (a3:List TMove) {u3:Value} (h3:Rep.R w L [u3] a3) (a4:List TMove) {u4:Value} (h4:Rep.R w L [u4] a4):Rep.R w L [vI a0,u1,u2,u3,u4] (⟨a0,a1,a2,a3,a4⟩:TSession):=⟨[vI a0],[u1,u2,u3,u4],rfl,rfl,⟨[u1],[u2,u3,u4],rfl,h1,⟨[u2],[u3,u4],rfl,h2,⟨[u3],[u4],rfl,h3,h4⟩⟩⟩⟩
theorem body9:bodyB Tryz.prog 9 = true:=by kernel_rfl
theorem body10:bodyB Tryz.prog 10 = true:=by kernel_rfl
theorem body11:bodyB Tryz.prog 11 = true:=by kernel_rfl
theorem body12:bodyB Tryz.prog 12 = true:=by kernel_rfl
theorem body18:bodyB Tryz.prog 18 = true:=by kernel_rfl
theorem body20:bodyB Tryz.prog 20 = true:=by kernel_rfl
theorem body25:bodyB Tryz.prog 25 = true:=by kernel_rfl
theorem body35:bodyB Tryz.prog 35 = true:=by kernel_rfl
def wardmotelaw26_EditSteps_l1 (n:Nat) (b0:TGraph × TRoll × (List Int) × Int) (a2:Int) (k0:Nat → Option (Bool ⊕ Unit)):Nat → Option (Bool ⊕ Unit)
  | c0=>(if c0 < 2 then (([b0.2.2.2,a2]:List Int)[c0]?).bind fun j0=>(edit_Start_p n b0.1 b0.2.1 b0.2.2.1 j0).bind fun d0=>(wardmoteref26_Start_p n b0.1 b0.2.1 b0.2.2.1 j0).bind fun g0=>(wardmoteref26_Same_p n d0.1 g0.1).bind fun p0=>(if p0 = true then (if d0.2 = g0.2 then k0 (c0 + 1) else some (.inl false)) else some (.inl false)) else some (.inr ()))
def wardmotelaw26_EditSteps_l2 (n:Nat) (j0:TSession) (x0:TSession) (v0:TSession) (b0:TGraph × TRoll × (List Int) × Int) (t0:Nat → Option (Bool ⊕ Unit)):Nat → Option (Bool ⊕ Unit)
  | g0=>(if g0 < 4 then (([j0,x0,v0,(⟨(0:Int),([]:List Int),([]:List Int),([]:List TMove),([]:List TMove)⟩:TSession)]:List TSession)[g0]?).bind fun c0=>(edit_Undo_p n b0.1 b0.2.1 c0).bind fun k0=>(wardmoteref26_Undo_p n b0.1 b0.2.1 c0).bind fun p0=>(edit_Redo_p n b0.1 b0.2.1 c0).bind fun q0=>(wardmoteref26_Redo_p n b0.1 b0.2.1 c0).bind fun s0=>jn (fun u0=>(if u0 = true then some (.inl false) else t0 (g0 + 1))) (fun d0=>(edit_Check_p n b0.1 b0.2.1 c0).bind fun y0=>(wardmoteref26_Check_p n b0.1 b0.2.1 c0).bind fun z0=>(if y0 = z0 then (edit_Same_p n c0 j0).bind fun A0=>(wardmoteref26_Same_p n c0 j0).bind fun B0=>(if (A0 == B0) = true then (wardmoteref26_Same_p n k0.1 p0.1).bind fun C0=>(if C0 = true then (if k0.2 = p0.2 then (wardmoteref26_Same_p n q0.1 s0.1).bind fun D0=>(if D0 = true then (if q0.2 = s0.2 then (edit_Changed_p n c0).bind fun E0=>(wardmoteref26_Changed_p n c0).bind fun F0=>(slices_Equal_int_int_p n E0 F0).bind fun G0=>d0 (!G0) else d0 true) else d0 true) else d0 true) else d0 true) else d0 true) else d0 true)) else some (.inr ()))
def wardmotelaw26_EditSteps_p (n:Nat) (a0:TScene) (a1:TBend × TBend) (a2:Int):Option Bool:=
  (wardmotelaw26_works_p n).bind fun j0=>(if j0 = true then (wardmotelaw26_Scene_set_p n a0).bind fun b0=>(wardmoteref26_Draft_Session_p n a0.fL b0.1 b0.2.1 b0.2.2.1 b0.2.2.2).bind fun c0=>(wardmoteref26_Bend_Of_p n a1.1 c0).bind fun d0=>(wardmoteref26_Bend_Of_p n a1.2 d0).bind fun g0=>thn (loopF (wardmotelaw26_EditSteps_l2 n c0 d0 g0 b0) n 0) (fun _=>thn (loopF (wardmotelaw26_EditSteps_l1 n b0 a2) n 0) (fun _=>some true)) else some false)
theorem wardmotelaw26_EditSteps_c (n:Nat) (L:List Nat) (w:World) (hL:∀ b ∈ L,b < w.heap.size) (a0:TScene) {v0_1:Value} (h0_1:Rep.R w L [v0_1] a0.fD.fParents) {v0_2:Value} (h0_2:Rep.R w L [v0_2] a0.fD.fMore) {v0_3:Value} (h0_3:Rep.R w L [v0_3] a0.fD.fLabels) {v0_9:Value} (h0_9:Rep.R w L [v0_9] a0.fX.fNums) {v0_10:Value} (h0_10:Rep.R w L [v0_10] a0.fL.fL) (a1:TBend × TBend) (a2:Int)  {r:Bool} (h:wardmotelaw26_EditSteps_p n a0 a1 a2 = some r) :
    Calls Tryz.prog 8 #[.agg #[.int .u8 (a0.fD.fN.toNat:Int),v0_1,v0_2,v0_3,.int .u8 (a0.fD.fK.toNat:Int),.int .u8 (a0.fX.fGroups.toNat:Int),.int .u8 (a0.fX.fParties.toNat:Int),.int .u8 (a0.fX.fLevels.toNat:Int),.int .u8 (a0.fX.fWater.toNat:Int),v0_9,v0_10],.agg ((cs_A86 a1)).toArray,vI a2] w (Gives w fun _ u=>u = .bool r):=by
 unfold wardmotelaw26_EditSteps_p at h
 have hS0:=AK w
 refine AM Tryz.func8 rfl rfl rfl (fun _ cs0 hb0=>?_)
 refine Ae<|Az .plain rfl (AI hS0 rfl rfl) (fun w2 b5 hS3 hT4=>?_)
 refine Az .plain rfl (AI hS3 rfl rfl) (fun w7 b10 hS8 hT9=>?_)
 refine Ag rfl<|Aa<|Ak<|Ae ?_
 obtain ⟨y11,Q01,h⟩:=bi h
 refine BE (.bool y11) body9 rfl evs_nil (fun w9 hw9=>wardmotelaw26_works_c n _ w9 (hS8.hL0 hL hw9)  Q01) rfl<|Ab (Ba rfl)<|Aa<|BS rfl h (fun J5 h=>?_) (fun J5 h=>?_)
 refine Ao<|Ae<|Ab (AG rfl (hS8.memA (.tl .hd))) ?_
 obtain ⟨g0,R01,h⟩:=bi h
 refine Bx (fst:=[]) (cap:=[]) .plain body10 rfl (e1 rfl) (fun w9 hw9=>wardmotelaw26_Scene_set_c n _ w9 (hS8.hL hL hw9) a0 (hS8.km h0_1 hw9) (hS8.km h0_2 hw9) (hS8.km h0_3 hw9) (hS8.km h0_9 hw9) (hS8.km h0_10 hw9) R01) rfl (fun w14 V03 s7 ⟨H0,I0,s3,hu_,R0,U0,q3⟩=>?_)
 subst hu_
 obtain ⟨d6,J03⟩:=hS8.agr s7
 refine Ac rfl<|Ab (Au rfl rfl)<|Ab (Au rfl rfl)<|Ab (Au rfl rfl)<|Ab (Au rfl rfl)<|Az .plain rfl (AX [vI 0,vN] d6) (fun w26 u0 g6 A3=>?_)
 refine Az .plain rfl (AX [vI 0,vI 0,vI 0,vN] g6) (fun w31 v0 j6 B3=>?_)
 have p8:=Aj R0 (Tt A3 B3)
 refine Bk [vI g0.1.fN,H0] j6 (.tl .hd) (o2 rfl (AP p8)) (fun w36 k6 X6=>?_)
 have z1:=Tt A3 (Tt B3 X6)
 have q8:=Aj U0 z1
 refine Bk [vI g0.2.1.fGroups,vI g0.2.1.fParties,vI g0.2.1.fLevels,I0] k6 .hd (o4 rfl rfl rfl (AP q8)) (fun w41 u1 M1=>?_)
 refine Ag rfl<|Ag rfl<|Aa<|Ae<|AH 10 rfl<|Ab (FV.loadN (cs:=[v0_10]) (by kernel_rfl) rfl (mem_part (u1.memA (.tl (.tl (.tl .hd)))) 10 1))<|Ab (AG rfl (u1.memA (.tl .hd)))<|Ab (AG rfl (u1.memA .hd))<|Ac rfl<|Ac rfl ?_
 obtain ⟨j0,U01,h⟩:=bi h
 have s8:=Aj R0 (Tt z1 M1)
 have t8:=Aj U0 (Tt z1 M1)
 have v8:=Aj q3 (Tt z1 M1)
 refine Bx (fst:=[]) (cap:=[]) .plain body11 rfl (e5 rfl rfl rfl rfl rfl) (fun w9 hw9=>wardmoteref26_Draft_Session_c n _ w9 (u1.hL hL hw9) a0.fL (u1.km h0_10 hw9) g0.1 (Av s8 hw9) g0.2.1 (Av t8 hw9) g0.2.2.1 (Av v8 hw9) g0.2.2.2 U01) rfl (fun w48 W03 t7 ⟨x0,y0,z0,A0,hu_,d2,g2,j2,k2⟩=>?_)
 subst hu_
 obtain ⟨q6,C3⟩:=u1.agr t7
 refine Az .plain rfl (AX [vI 0,vN,vN,vN,vN] q6) (fun w62 X0 y6 q0=>?_)
 have I9:=Aj d2 q0
 have U9:=Aj g2 q0
 have V9:=Aj j2 q0
 have Y9:=Aj k2 q0
 refine Bk [vI j0.fK,x0,y0,z0,A0] y6 .hd (o5 rfl (AP I9) (AP U9) (AP V9) (AP Y9)) (fun w70 x2 P0=>?_)
 refine Aa<|Ae<|Ab (BN (m:=3) (k:=0) (len:=2) (by kernel_rfl) rfl rfl rfl (by omega))<|Ab (FV.loadN (cs:=[.int .u8 (a1.1.fWhat.toNat:Int),.int .u8 (a1.1.fAt.toNat:Int),vI a1.1.fN]) (by kernel_rfl) rfl (mem_part (x2.memA (.tl (.tl (.tl .hd)))) 0 3))<|Ab (AG rfl (x2.memA .hd)) ?_
 obtain ⟨t0,Z01,h⟩:=bi h
 have c00:=Aj d2 (Tt q0 P0)
 have d00:=Aj g2 (Tt q0 P0)
 have g00:=Aj j2 (Tt q0 P0)
 have j00:=Aj k2 (Tt q0 P0)
 refine Bx (fst:=[]) (cap:=[]) .plain body12 rfl (e2 rfl rfl) (fun w9 hw9=>wardmoteref26_Bend_Of_c n _ w9 (x2.hL hL hw9) a1.1 j0 (Av c00 hw9) (Av d00 hw9) (Av g00 hw9) (Av j00 hw9) Z01) rfl (fun w78 c04 z7 ⟨B1,C1,D1,E1,hu_,K2,M2,P2,Q2⟩=>?_)
 subst hu_
 obtain ⟨D6,Q1⟩:=x2.agr z7
 refine Az .plain rfl (AX [vI 0,vN,vN,vN,vN] D6) (fun w92 b95 M6 s0=>?_)
 have R00:=Aj K2 s0
 have V00:=Aj M2 s0
 have c01:=Aj P2 s0
 have g01:=Aj Q2 s0
 refine Bk [vI t0.fK,B1,C1,D1,E1] M6 .hd (o5 rfl (AP R00) (AP V00) (AP c01) (AP g01)) (fun p04 s1 J0=>?_)
 refine Aa<|Ak<|Ak<|Bm 9 tb8_6 (by kernel_rfl) (by kernel_rfl) (by kernel_rfl) (fun G0 b1=>?_)
 refine AT 0 1 128 G0 rfl b1 (AG rfl (s1.memA (.tl .hd))) rfl<|AT 1 3 128 G0 rfl b1 (AG rfl (s1.memA .hd)) rfl<|Ah 2 7 G0 rfl b1 (fun _=>BN (m:=3) (k:=1) (len:=2) (by kernel_rfl) rfl rfl rfl (by omega)) rfl<|AT 3 15 160 G0 rfl b1 (FV.loadN (cs:=[.int .u8 (a1.2.fWhat.toNat:Int),.int .u8 (a1.2.fAt.toNat:Int),vI a1.2.fN]) (by kernel_rfl) rfl (mem_part (s1.memA (.tl (.tl (.tl (.tl .hd))))) 3 3)) rfl<|AT 4 31 160 G0 rfl b1 (AG rfl (s1.memA .hd)) rfl<|Ah 6 95 G0 rfl b1 (fun _=>AV (vs:=[]) (u:=.agg #[vI 0,vN,vN,vN,vN]) evs_nil (fun w9=>by kernel_rfl)) rfl<|Ah 8 351 G0 rfl b1 (fun _=>Ai rfl) rfl ?_
 obtain ⟨C0,P01,h⟩:=bi h
 have U7:=Aj K2 (Tt s0 J0)
 have V7:=Aj M2 (Tt s0 J0)
 have W7:=Aj P2 (Tt s0 J0)
 have X7:=Aj Q2 (Tt s0 J0)
 refine RD.cl 5 383 G0 rfl .plain body12 rfl (e2 rfl rfl) (fun w9 hw9=>wardmoteref26_Bend_Of_c n _ w9 (s1.hL hL hw9) a1.2 t0 (Av U7 hw9) (Av V7 hw9) (Av W7 hw9) (Av X7 hw9) P01) rfl (fun F02 U03 q7 ⟨q2,s2,t2,u2,hu_,V3,W3,X3,Y3⟩=>?_)
 subst hu_
 obtain ⟨c6,K1⟩:=s1.agr q7
 have D2:=Tt q0 (Tt P0 (Tt Q1 (Tt s0 (Tt J0 K1))))
 have Y7:=Aj d2 D2
 obtain ⟨Q02,v03,y01,_⟩:=BQ Y7
 have Z7:=Aj g2 D2
 obtain ⟨R02,x03,z01,_⟩:=BQ Z7
 have b8:=Aj j2 D2
 obtain ⟨U02,y03,A01,_⟩:=BQ b8
 have c8:=Aj k2 D2
 obtain ⟨V02,z03,B01,_⟩:=BQ c8
 have Y1:=Tt s0 (Tt J0 K1)
 have d8:=Aj K2 Y1
 obtain ⟨W02,A03,C01,_⟩:=BQ d8
 have g8:=Aj M2 Y1
 obtain ⟨X02,B03,D01,_⟩:=BQ g8
 have j8:=Aj P2 Y1
 obtain ⟨Y02,C03,E01,_⟩:=BQ j8
 have k8:=Aj Q2 Y1
 obtain ⟨Z02,D03,F01,_⟩:=BQ k8
 obtain ⟨b03,E03,G01,_⟩:=BQ V3
 obtain ⟨c03,F03,H01,_⟩:=BQ W3
 obtain ⟨d03,G03,I01,_⟩:=BQ X3
 obtain ⟨g03,H03,J01,_⟩:=BQ Y3
 refine Ah 7 511 G0 rfl b1 (fun _=>AV (vs:=[.agg #[vI j0.fK,x0,y0,z0,A0],.agg #[vI t0.fK,B1,C1,D1,E1],.agg #[vI C0.fK,q2,s2,t2,u2],.agg #[vI 0,vN,vN,vN,vN]]) (u:=.agg #[vI j0.fK,x0,y0,z0,A0,vI t0.fK,B1,C1,D1,E1,vI C0.fK,q2,s2,t2,u2,vI 0,vN,vN,vN,vN]) (e4 rfl rfl rfl rfl) (fun w9=>by rw [y01,z01,A01,B01,C01,D01,E01,F01,G01,H01,I01,J01]; try kernel_rfl)) rfl<|Bc (doneD_ok G0 (by kernel_rfl))<|AB ?_
 obtain ⟨p6,Y0⟩:=AD c6 (.one (.tl .hd) (.one (.tl .hd) (.one (.tl .hd) .done)))
 obtain ⟨K03,k01,I3⟩:=thn_in h
 refine Bp (α:=Nat) (fun V0=>[(2,vI a2),(7,vP u0),(8,vP v0),(9,s3),(10,vI g0.2.2.2),(11,vP X0),(57,vI ((V0:Nat):Int)),(56,.agg #[vI j0.fK,x0,y0,z0,A0,vI t0.fK,B1,C1,D1,E1,vI C0.fK,q2,s2,t2,u2,vI 0,vN,vN,vN,vN])]) (fun V0 R2=>St w R2 [.cells X0 [vI j0.fK,x0,y0,z0,A0] 48,.cells v0 [vI g0.2.1.fGroups,vI g0.2.1.fParties,vI g0.2.1.fLevels,I0] 41,.cells u0 [vI g0.1.fN,H0] 38]∧Tr F02 [.cells X0 [vI j0.fK,x0,y0,z0,A0] 48,.cells v0 [vI g0.2.1.fGroups,vI g0.2.1.fParties,vI g0.2.1.fLevels,I0] 41,.cells u0 [vI g0.1.fN,H0] 38] R2 [.cells X0 [vI j0.fK,x0,y0,z0,A0] 48,.cells v0 [vI g0.2.1.fGroups,vI g0.2.1.fParties,vI g0.2.1.fLevels,I0] 41,.cells u0 [vI g0.1.fN,H0] 38]) (fun V0=>V0) 0 k01 ⟨rfl,rfl,rfl,rfl,rfl,rfl,rfl,rfl,trivial⟩ ⟨p6,AN _ _⟩ ?_
 rintro j03 V0 R2 Y5 ⟨v2,K0⟩ h
 unfold wardmotelaw26_EditSteps_l2 at h
 try dsimp only at h
 refine Ae<|Ab (BA (i:=V0) (j:=4) rfl rfl)<|Aa<|Ak<|AW rfl h (fun K5 h=>?_) (fun K5 h=>?_)
 refine Ao<|Ak<|AB<|Ae ?_
 have Z3:=AL (α:=Int) v2 L
 have b4:=AL (α:=TMove) v2 L
 obtain ⟨B0,v02,h⟩:=bi h
 have x8:=Aj V3 (Tt Y0 K0)
 have y8:=Aj W3 (Tt Y0 K0)
 have z8:=Aj X3 (Tt Y0 K0)
 have A8:=Aj Y3 (Tt Y0 K0)
 have Z1:=Tt Y1 (Tt Y0 K0)
 have B8:=Aj K2 Z1
 have C8:=Aj M2 Z1
 have D8:=Aj P2 Z1
 have E8:=Aj Q2 Z1
 have E2:=Tt q0 (Tt P0 (Tt Q1 Z1))
 have F8:=Aj d2 E2
 have G8:=Aj g2 E2
 have H8:=Aj j2 E2
 have I8:=Aj k2 E2
 refine RG.valE .plain rfl (FV.idxR (css:=[[vI j0.fK,x0,y0,z0,A0],[vI t0.fK,B1,C1,D1,E1],[vI C0.fK,q2,s2,t2,u2],[vI 0,vN,vN,vN,vN]]) (xs:=([j0,t0,C0,(⟨(0:Int),([]:List Int),([]:List Int),([]:List TMove),([]:List TMove)⟩:TSession)]:List TSession)) (len:=4) (by kernel_rfl) (by kernel_rfl) rfl rfl rfl rfl rfl (.cons (mk_TSession j0.fK j0.fPlan F8 j0.fTotals G8 j0.fDone H8 j0.fUndone I8) (.cons (mk_TSession t0.fK t0.fPlan B8 t0.fTotals C8 t0.fDone D8 t0.fUndone E8) (.cons (mk_TSession C0.fK C0.fPlan x8 C0.fTotals y8 C0.fDone z8 C0.fUndone A8) (.cons (mk_TSession (0:Int) ([]:List Int) Z3 ([]:List Int) Z3 ([]:List TMove) b4 ([]:List TMove) b4) .nil)))) v02) (fun P03 ⟨I03,K01,u01⟩=>?_)
 subst K01
 obtain ⟨M4,P4,Q4,R4,rfl,j1,k1,p1,q1⟩:=op_TSession u01
 refine Az .plain rfl (AX [vI 0,vN,vN,vN,vN] v2) (fun z04 C5 s6 D0=>?_)
 have J8:=Aj j1 D0
 have K8:=Aj k1 D0
 have M8:=Aj p1 D0
 have P8:=Aj q1 D0
 refine Bk [vI B0.fK,M4,P4,Q4,R4] s6 .hd (o5 rfl (AP J8) (AP K8) (AP M8) (AP P8)) (fun A04 F1 x1=>?_)
 refine Aa<|Ae<|Ab (AG rfl (F1.memA (.tl (.tl (.tl .hd)))))<|Ab (AG rfl (F1.memA (.tl (.tl .hd))))<|Ab (AG rfl (F1.memA .hd)) ?_
 obtain ⟨U2,V01,h⟩:=bi h
 have d3:=Tt z1 (Tt M1 (Tt C3 (Tt q0 (Tt P0 (Tt Q1 (Tt s0 (Tt J0 (Tt K1 (Tt Y0 (Tt K0 (Tt D0 x1)))))))))))
 have Q8:=Aj R0 d3
 have R8:=Aj U0 d3
 have U8:=Aj j1 (Tt D0 x1)
 have V8:=Aj k1 (Tt D0 x1)
 have W8:=Aj p1 (Tt D0 x1)
 have X8:=Aj q1 (Tt D0 x1)
 refine Bx (fst:=[]) (cap:=[]) .plain body17 rfl (e3 rfl rfl rfl) (fun w9 hw9=>edit_Undo_c n _ w9 (F1.hL hL hw9) g0.1 (Av Q8 hw9) g0.2.1 (Av R8 hw9) B0 (Av U8 hw9) (Av V8 hw9) (Av W8 hw9) (Av X8 hw9) V01) rfl (fun B04 X03 u7 ⟨U4,V4,W4,X4,hu_,c4,d4,g4,j4⟩=>?_)
 subst hu_
 obtain ⟨t6,D3⟩:=F1.agr u7
 refine Ac rfl<|Ab (Au rfl rfl)<|Ab (Au rfl rfl)<|Az .plain rfl (AX [vI 0,vN,vN,vN,vN] t6) (fun C04 D5 u6 d1=>?_)
 have Y8:=Aj c4 d1
 have Z8:=Aj d4 d1
 have b9:=Aj g4 d1
 have c9:=Aj j4 d1
 refine Bk [vI U2.1.fK,U4,V4,W4,X4] u6 .hd (o5 rfl (AP Y8) (AP Z8) (AP b9) (AP c9)) (fun D04 G1 Y2=>?_)
 refine Ag rfl<|Aa<|Ae<|Ab (AG rfl (G1.memA (.tl (.tl (.tl (.tl .hd))))))<|Ab (AG rfl (G1.memA (.tl (.tl (.tl .hd)))))<|Ab (AG rfl (G1.memA (.tl .hd))) ?_
 obtain ⟨V2,W01,h⟩:=bi h
 have g3:=Tt d3 (Tt D3 (Tt d1 Y2))
 have d9:=Aj R0 g3
 have g9:=Aj U0 g3
 have b2:=Tt D0 (Tt x1 (Tt D3 (Tt d1 Y2)))
 have j9:=Aj j1 b2
 have k9:=Aj k1 b2
 have p9:=Aj p1 b2
 have q9:=Aj q1 b2
 refine Bx (fst:=[]) (cap:=[]) .plain body33 rfl (e3 rfl rfl rfl) (fun w9 hw9=>wardmoteref26_Undo_c n _ w9 (G1.hL hL hw9) g0.1 (Av d9 hw9) g0.2.1 (Av g9 hw9) B0 (Av j9 hw9) (Av k9 hw9) (Av p9 hw9) (Av q9 hw9) W01) rfl (fun E04 Y03 v7 ⟨Y4,Z4,c5,d5,hu_,k4,p4,q4,s4⟩=>?_)
 subst hu_
 obtain ⟨v6,Z2⟩:=G1.agr v7
 refine Ac rfl<|Ab (Au rfl rfl)<|Ab (Au rfl rfl)<|Az .plain rfl (AX [vI 0,vN,vN,vN,vN] v6) (fun F04 E5 x6 Z0=>?_)
 have s9:=Aj k4 Z0
 have t9:=Aj p4 Z0
 have u9:=Aj q4 Z0
 have v9:=Aj s4 Z0
 refine Bk [vI V2.1.fK,Y4,Z4,c5,d5] x6 .hd (o5 rfl (AP s9) (AP t9) (AP u9) (AP v9)) (fun H04 H1 A2=>?_)
 refine Ag rfl<|Aa<|Ae<|Ab (AG rfl (H1.memA (.tl (.tl (.tl (.tl (.tl .hd)))))))<|Ab (AG rfl (H1.memA (.tl (.tl (.tl (.tl .hd))))))<|Ab (AG rfl (H1.memA (.tl (.tl .hd)))) ?_
 obtain ⟨W2,X01,h⟩:=bi h
 have j3:=Tt g3 (Tt Z2 (Tt Z0 A2))
 have x9:=Aj R0 j3
 have y9:=Aj U0 j3
 have c2:=Tt b2 (Tt Z2 (Tt Z0 A2))
 have A9:=Aj j1 c2
 have B9:=Aj k1 c2
 have C9:=Aj p1 c2
 have D9:=Aj q1 c2
 refine Bx (fst:=[]) (cap:=[]) .plain body20 rfl (e3 rfl rfl rfl) (fun w9 hw9=>edit_Redo_c n _ w9 (H1.hL hL hw9) g0.1 (Av x9 hw9) g0.2.1 (Av y9 hw9) B0 (Av A9 hw9) (Av B9 hw9) (Av C9 hw9) (Av D9 hw9) X01) rfl (fun I04 Z03 x7 ⟨g5,j5,k5,p5,hu_,t4,u4,v4,x4⟩=>?_)
 subst hu_
 obtain ⟨z6,B2⟩:=H1.agr x7
 refine Ac rfl<|Ab (Au rfl rfl)<|Ab (Au rfl rfl)<|Az .plain rfl (AX [vI 0,vN,vN,vN,vN] z6) (fun J04 F5 A6 M0=>?_)
 have E9:=Aj t4 M0
 have F9:=Aj u4 M0
 have G9:=Aj v4 M0
 have H9:=Aj x4 M0
 refine Bk [vI W2.1.fK,g5,j5,k5,p5] A6 .hd (o5 rfl (AP E9) (AP F9) (AP G9) (AP H9)) (fun K04 I1 P1=>?_)
 refine Ag rfl<|Aa<|Ae<|Ab (AG rfl (I1.memA (.tl (.tl (.tl (.tl (.tl (.tl .hd))))))))<|Ab (AG rfl (I1.memA (.tl (.tl (.tl (.tl (.tl .hd)))))))<|Ab (AG rfl (I1.memA (.tl (.tl (.tl .hd))))) ?_
 obtain ⟨X2,Y01,h⟩:=bi h
 have k3:=Tt j3 (Tt B2 (Tt M0 P1))
 have J9:=Aj R0 k3
 have K9:=Aj U0 k3
 have A1:=Tt c2 (Tt B2 (Tt M0 P1))
 have M9:=Aj j1 A1
 have P9:=Aj k1 A1
 have Q9:=Aj p1 A1
 have R9:=Aj q1 A1
 refine Bx (fst:=[]) (cap:=[]) .plain body34 rfl (e3 rfl rfl rfl) (fun w9 hw9=>wardmoteref26_Redo_c n _ w9 (I1.hL hL hw9) g0.1 (Av J9 hw9) g0.2.1 (Av K9 hw9) B0 (Av M9 hw9) (Av P9 hw9) (Av Q9 hw9) (Av R9 hw9) Y01) rfl (fun M04 b04 y7 ⟨q5,s5,t5,u5,hu_,y4,z4,A4,B4⟩=>?_)
 subst hu_
 obtain ⟨B6,y1⟩:=I1.agr y7
 refine Ac rfl<|Ab (Au rfl rfl)<|Ab (Au rfl rfl)<|Az .plain rfl (AX [vI 0,vN,vN,vN,vN] B6) (fun P04 G5 C6 p0=>?_)
 have W9:=Aj y4 p0
 have X9:=Aj z4 p0
 have Z9:=Aj A4 p0
 have b00:=Aj B4 p0
 refine Bk [vI X2.1.fK,q5,s5,t5,u5] C6 .hd (o5 rfl (AP W9) (AP X9) (AP Z9) (AP b00)) (fun G02 d0 E0=>?_)
 refine Ag rfl<|Aa<|Ak<|MX.join (α:=Bool) (fun p2=>[(2,vI a2),(7,vP u0),(8,vP v0),(9,s3),(10,vI g0.2.2.2),(11,vP X0),(57,vI ((V0:Nat):Int)),(56,.agg #[vI j0.fK,x0,y0,z0,A0,vI t0.fK,B1,C1,D1,E1,vI C0.fK,q2,s2,t2,u2,vI 0,vN,vN,vN,vN]),(135,.bool p2)]) (fun p2 t3=>St w t3 [.cells X0 [vI j0.fK,x0,y0,z0,A0] 48,.cells v0 [vI g0.2.1.fGroups,vI g0.2.1.fParties,vI g0.2.1.fLevels,I0] 41,.cells u0 [vI g0.1.fN,H0] 38]∧Tr G02 [.cells G5 [vI X2.1.fK,q5,s5,t5,u5] 48,.cells F5 [vI W2.1.fK,g5,j5,k5,p5] 48,.cells E5 [vI V2.1.fK,Y4,Z4,c5,d5] 48,.cells D5 [vI U2.1.fK,U4,V4,W4,X4] 48,.cells C5 [vI B0.fK,M4,P4,Q4,R4] 48,.cells X0 [vI j0.fK,x0,y0,z0,A0] 48,.cells v0 [vI g0.2.1.fGroups,vI g0.2.1.fParties,vI g0.2.1.fLevels,I0] 41,.cells u0 [vI g0.1.fN,H0] 38] t3 [.cells X0 [vI j0.fK,x0,y0,z0,A0] 48,.cells v0 [vI g0.2.1.fGroups,vI g0.2.1.fParties,vI g0.2.1.fLevels,I0] 41,.cells u0 [vI g0.1.fN,H0] 38]) (fun p2=>p2) h ?_ ?_
 rintro p2 t3 ⟨y3,Y6⟩ h
 try dsimp only at h
 refine MX.ifb rfl h (fun M5 h=>?_) (fun M5 h=>?_)
 refine Ae<|Ag rfl<|Aa ?_
 have h:=thn_inl h I3
 refine Am rfl<|AJ hb0 Tryz.func8 rfl rfl ?_
 cases h
 exact y3.gv
 refine Ao<|AF<|Aw<|Ab (Bu (i:=V0) (j:=1) rfl rfl (by omega))<|Ac rfl<|Aa ?_
 have s01:=Tt A1 (Tt y1 (Tt p0 (Tt E0 Y6)))
 exact Y5 (V0 + 1) _ _ ⟨rfl,rfl,rfl,rfl,rfl,rfl,rfl,rfl,trivial⟩ ⟨y3,(Tt K0 s01)⟩ h
 intro k03 c1 h
 try dsimp only at h
 refine Bm 48 tb8_13 (by kernel_rfl) (by kernel_rfl) (by kernel_rfl) (fun b0 c0=>?_)
 refine AT 0 1 281474976710536 b0 rfl c0 (AG rfl (d0.memA (.tl (.tl (.tl (.tl (.tl (.tl (.tl .hd))))))))) rfl<|AT 1 3 281474976710536 b0 rfl c0 (AG rfl (d0.memA (.tl (.tl (.tl (.tl (.tl (.tl .hd)))))))) rfl<|AT 2 7 281474976710536 b0 rfl c0 (AG rfl (d0.memA (.tl (.tl (.tl (.tl .hd)))))) rfl ?_
 obtain ⟨v5,b02,h⟩:=bi h
 have U3:=Tt k3 (Tt y1 (Tt p0 E0))
 have J3:=Aj R0 U3
 have K3:=Aj U0 U3
 have Q0:=Tt A1 (Tt y1 (Tt p0 E0))
 have U1:=Aj j1 Q0
 have V1:=Aj k1 Q0
 have W1:=Aj p1 Q0
 have X1:=Aj q1 Q0
 refine RD.cq 3 15 281474976710528 (vI v5) b0 rfl c0 body16 rfl (e3 rfl rfl rfl) (fun w9 hw9=>edit_Check_c n _ w9 (d0.hL0 hL hw9) g0.1 (d0.kd J3 hw9) g0.2.1 (d0.kd K3 hw9) B0 (d0.kd U1 hw9) (d0.kd V1 hw9) (d0.kd W1 hw9) (d0.kd X1 hw9) b02) rfl<|AT 4 31 281474976710528 b0 rfl c0 (AG rfl (d0.memA (.tl (.tl (.tl (.tl (.tl (.tl (.tl .hd))))))))) rfl<|AT 5 63 281474976710528 b0 rfl c0 (AG rfl (d0.memA (.tl (.tl (.tl (.tl (.tl (.tl .hd)))))))) rfl<|AT 6 127 281474976710528 b0 rfl c0 (AG rfl (d0.memA (.tl (.tl (.tl (.tl .hd)))))) rfl ?_
 obtain ⟨x5,c02,h⟩:=bi h
 refine RD.cq 7 255 281474976710400 (vI x5) b0 rfl c0 body21 rfl (e3 rfl rfl rfl) (fun w9 hw9=>wardmoteref26_Check_c n _ w9 (d0.hL0 hL hw9) g0.1 (d0.kd J3 hw9) g0.2.1 (d0.kd K3 hw9) B0 (d0.kd U1 hw9) (d0.kd V1 hw9) (d0.kd W1 hw9) (d0.kd X1 hw9) c02) rfl<|Ah 8 511 b0 rfl c0 (fun _=>BO (i:=v5) (j:=x5) rfl rfl) rfl<|Ah 9 1023 b0 rfl c0 (fun _=>Ai rfl) rfl<|RD.ifn (s:=97) rfl h (fun P5 h=>?_) (fun P5 h=>?_)
 refine BM (i:=10) (m' :=2047) (W:=281474976681984) (takeC_ok b0 (by kernel_rfl)) rfl c0 (.yes rfl rfl) (AG rfl (d0.memA (.tl (.tl (.tl (.tl .hd)))))) rfl<|BM (i:=11) (m' :=4095) (W:=281474976681984) (takeC_ok b0 (by kernel_rfl)) rfl c0 (.yes rfl rfl) (AG rfl (d0.memA (.tl (.tl (.tl (.tl (.tl .hd))))))) rfl ?_
 obtain ⟨y5,d02,h⟩:=bi h
 have F2:=Tt q0 (Tt P0 (Tt Q1 (Tt s0 (Tt J0 (Tt K1 (Tt Y0 (Tt K0 Q0)))))))
 have M3:=Aj d2 F2
 have P3:=Aj g2 F2
 have Q3:=Aj j2 F2
 have R3:=Aj k2 F2
 refine RD.callq (i:=12) (m' :=8191) (W:=281474976677888) (takeC_ok b0 (by kernel_rfl)) rfl c0 (v:=.bool y5) (fst:=[]) (cap:=[]) (.yes rfl rfl) body18 rfl (e2 rfl rfl) (fun w9 hw9=>edit_Same_c n _ w9 (d0.hL0 hL hw9) B0 (d0.kd U1 hw9) (d0.kd V1 hw9) (d0.kd W1 hw9) (d0.kd X1 hw9) j0 (d0.kd M3 hw9) (d0.kd P3 hw9) (d0.kd Q3 hw9) (d0.kd R3 hw9) d02) rfl<|BM (i:=13) (m' :=16383) (W:=281474976677888) (takeC_ok b0 (by kernel_rfl)) rfl c0 (.yes rfl rfl) (AG rfl (d0.memA (.tl (.tl (.tl (.tl .hd)))))) rfl<|BM (i:=14) (m' :=32767) (W:=281474976677888) (takeC_ok b0 (by kernel_rfl)) rfl c0 (.yes rfl rfl) (AG rfl (d0.memA (.tl (.tl (.tl (.tl (.tl .hd))))))) rfl ?_
 obtain ⟨z5,g02,h⟩:=bi h
 refine RD.callq (i:=15) (m' :=65535) (W:=281474976645120) (takeC_ok b0 (by kernel_rfl)) rfl c0 (v:=.bool z5) (fst:=[]) (cap:=[]) (.yes rfl rfl) body15 rfl (e2 rfl rfl) (fun w9 hw9=>wardmoteref26_Same_c n _ w9 (d0.hL0 hL hw9) B0 (d0.kd U1 hw9) (d0.kd V1 hw9) (d0.kd W1 hw9) (d0.kd X1 hw9) j0 (d0.kd M3 hw9) (d0.kd P3 hw9) (d0.kd Q3 hw9) (d0.kd R3 hw9) g02) rfl<|BJ 16 131071 b0 rfl c0 (.yes rfl rfl) (fun _=>FV.neqB (a:=y5) (b:=z5) Tryz.underlying4 rfl rfl) rfl<|Ah 17 262143 b0 rfl c0 (fun _=>Bn rfl rfl) rfl<|Ah 18 524287 b0 rfl c0 (fun _=>Ai rfl) rfl<|RD.ifnb (s:=106) rfl h (fun Q5 h=>?_) (fun Q5 h=>?_)
 refine BM (i:=19) (m' :=1048575) (W:=281474974613504) (takeC_ok b0 (by kernel_rfl)) rfl c0 (.yes rfl rfl) (AG rfl (d0.memA (.tl (.tl (.tl .hd))))) rfl<|BM (i:=20) (m' :=2097151) (W:=281474974613504) (takeC_ok b0 (by kernel_rfl)) rfl c0 (.yes rfl rfl) (AG rfl (d0.memA (.tl (.tl .hd)))) rfl ?_
 obtain ⟨J02,j02,h⟩:=bi h
 have G2:=Tt d1 (Tt Y2 (Tt Z2 (Tt Z0 (Tt A2 (Tt B2 (Tt M0 (Tt P1 (Tt y1 (Tt p0 E0)))))))))
 have k00:=Aj c4 G2
 have p00:=Aj d4 G2
 have q00:=Aj g4 G2
 have s00:=Aj j4 G2
 have H2:=Tt Z0 (Tt A2 (Tt B2 (Tt M0 (Tt P1 (Tt y1 (Tt p0 E0))))))
 have t00:=Aj k4 H2
 have u00:=Aj p4 H2
 have v00:=Aj q4 H2
 have x00:=Aj s4 H2
 refine RD.callq (i:=21) (m' :=4194303) (W:=281474972516352) (takeC_ok b0 (by kernel_rfl)) rfl c0 (v:=.bool J02) (fst:=[]) (cap:=[]) (.yes rfl rfl) body15 rfl (e2 rfl rfl) (fun w9 hw9=>wardmoteref26_Same_c n _ w9 (d0.hL0 hL hw9) U2.1 (d0.kd k00 hw9) (d0.kd p00 hw9) (d0.kd q00 hw9) (d0.kd s00 hw9) V2.1 (d0.kd t00 hw9) (d0.kd u00 hw9) (d0.kd v00 hw9) (d0.kd x00 hw9) j02) rfl<|BJ 22 8388607 b0 rfl c0 (.yes rfl rfl) (fun _=>Ba rfl) rfl<|Ah 23 16777215 b0 rfl c0 (fun _=>Bn rfl rfl) rfl<|Ah 24 33554431 b0 rfl c0 (fun _=>Ai rfl) rfl<|RD.ifnb (s:=112) rfl h (fun R5 h=>?_) (fun R5 h=>?_)
 refine BJ 25 67108863 b0 rfl c0 (.yes rfl rfl) (fun _=>Ai rfl) rfl<|BJ 26 134217727 b0 rfl c0 (.yes rfl rfl) (fun _=>Ai rfl) rfl<|BJ 27 268435455 b0 rfl c0 (.yes rfl rfl) (fun _=>BO (i:=U2.2) (j:=V2.2) rfl rfl) rfl<|Ah 28 536870911 b0 rfl c0 (fun _=>Bn rfl rfl) rfl<|Ah 29 1073741823 b0 rfl c0 (fun _=>Ai rfl) rfl<|RD.ifn (s:=117) rfl h (fun U5 h=>?_) (fun U5 h=>?_)
 refine BM (i:=30) (m' :=2147483647) (W:=281470681743360) (takeC_ok b0 (by kernel_rfl)) rfl c0 (.yes rfl rfl) (AG rfl (d0.memA (.tl .hd))) rfl<|BM (i:=31) (m' :=4294967295) (W:=281470681743360) (takeC_ok b0 (by kernel_rfl)) rfl c0 (.yes rfl rfl) (AG rfl (d0.memA .hd)) rfl ?_
 obtain ⟨K02,k02,h⟩:=bi h
 have I2:=Tt M0 (Tt P1 (Tt y1 (Tt p0 E0)))
 have y00:=Aj t4 I2
 have z00:=Aj u4 I2
 have A00:=Aj v4 I2
 have B00:=Aj x4 I2
 have C00:=Aj y4 (Tt p0 E0)
 have D00:=Aj z4 (Tt p0 E0)
 have E00:=Aj A4 (Tt p0 E0)
 have F00:=Aj B4 (Tt p0 E0)
 refine RD.callq (i:=32) (m' :=8589934591) (W:=281466386776064) (takeC_ok b0 (by kernel_rfl)) rfl c0 (v:=.bool K02) (fst:=[]) (cap:=[]) (.yes rfl rfl) body15 rfl (e2 rfl rfl) (fun w9 hw9=>wardmoteref26_Same_c n _ w9 (d0.hL0 hL hw9) W2.1 (d0.kd y00 hw9) (d0.kd z00 hw9) (d0.kd A00 hw9) (d0.kd B00 hw9) X2.1 (d0.kd C00 hw9) (d0.kd D00 hw9) (d0.kd E00 hw9) (d0.kd F00 hw9) k02) rfl<|BJ 33 17179869183 b0 rfl c0 (.yes rfl rfl) (fun _=>Ba rfl) rfl<|Ah 34 34359738367 b0 rfl c0 (fun _=>Bn rfl rfl) rfl<|Ah 35 68719476735 b0 rfl c0 (fun _=>Ai rfl) rfl<|RD.ifnb (s:=123) rfl h (fun V5 h=>?_) (fun V5 h=>?_)
 refine BJ 36 137438953471 b0 rfl c0 (.yes rfl rfl) (fun _=>Ai rfl) rfl<|BJ 37 274877906943 b0 rfl c0 (.yes rfl rfl) (fun _=>Ai rfl) rfl<|BJ 38 549755813887 b0 rfl c0 (.yes rfl rfl) (fun _=>BO (i:=W2.2) (j:=X2.2) rfl rfl) rfl<|Ah 39 1099511627775 b0 rfl c0 (fun _=>Bn rfl rfl) rfl<|Ah 40 2199023255551 b0 rfl c0 (fun _=>Ai rfl) rfl<|RD.ifn (s:=128) rfl h (fun W5 h=>?_) (fun W5 h=>?_)
 refine BM (i:=41) (m' :=4398046511103) (W:=268280837177344) (takeC_ok b0 (by kernel_rfl)) rfl c0 (.yes rfl rfl) (AG rfl (d0.memA (.tl (.tl (.tl (.tl .hd)))))) rfl<|BM (i:=43) (m' :=13194139533311) (W:=263882790666240) (takeC_ok b0 (by kernel_rfl)) rfl c0 (.yes rfl rfl) (AG rfl (d0.memA (.tl (.tl (.tl (.tl .hd)))))) rfl ?_
 obtain ⟨M02,p02,h⟩:=bi h
 refine RD.cl 42 17592186044415 b0 rfl (.yes rfl rfl) body25 rfl (e1 rfl) (fun w9 hw9=>edit_Changed_c n _ w9 (d0.hL hL hw9) B0 (Av U1 hw9) (Av V1 hw9) (Av W1 hw9) (Av X1 hw9) p02) rfl (fun U04 d04 A7 ⟨Q03,hu_,v01⟩=>?_)
 subst hu_
 obtain ⟨z3,R1⟩:=d0.agr A7
 obtain ⟨P02,q02,h⟩:=bi h
 have G00:=Aj j1 (Tt Q0 R1)
 have H00:=Aj k1 (Tt Q0 R1)
 have I00:=Aj p1 (Tt Q0 R1)
 have J00:=Aj q1 (Tt Q0 R1)
 refine RD.cl 44 35184372088831 b0 rfl (.yes rfl rfl) body35 rfl (e1 rfl) (fun w9 hw9=>wardmoteref26_Changed_c n _ w9 (z3.hL hL hw9) B0 (Av G00 hw9) (Av H00 hw9) (Av I00 hw9) (Av J00 hw9) q02) rfl (fun V04 g04 B7 ⟨R03,hu_,x01⟩=>?_)
 subst hu_
 obtain ⟨y2,E3⟩:=z3.agr B7
 obtain ⟨A5,s02,h⟩:=bi h
 have K00:=Aj v01 E3
 refine RD.callq (i:=45) (m' :=70368744177663) (W:=211106232532992) (takeC_ok b0 (by kernel_rfl)) rfl c0 (v:=.bool A5) (fst:=[]) (cap:=[]) (.yes rfl rfl) body23 rfl (e2 rfl rfl) (fun w9 hw9=>slices_Equal_int_int_c n _ w9 (y2.hL0 hL hw9) M02 (y2.kd K00 hw9) P02 (y2.kd x01 hw9) s02) rfl<|BJ 46 140737488355327 b0 rfl c0 (.yes rfl rfl) (fun _=>Ba rfl) rfl<|Ah 47 281474976710655 b0 rfl c0 (fun _=>Bn rfl rfl) rfl<|Bc (doneD_ok b0 (by kernel_rfl)) ?_
 obtain ⟨E6,Z6⟩:=AD y2 (.one (.tl (.tl (.tl (.tl (.tl .hd))))) (.one (.tl (.tl (.tl (.tl (.tl .hd))))) (.one (.tl (.tl (.tl (.tl (.tl .hd))))) .done)))
 have t01:=Tt R1 (Tt E3 Z6)
 exact c1 (!A5) _ _ ⟨rfl,rfl,rfl,rfl,rfl,rfl,rfl,rfl,rfl,trivial⟩ ⟨E6,t01⟩ h
 refine By 140737488355327 1 [(41,129),(42,130),(43,131),(44,132),(45,133),(46,134)] (F:=[(128,true)]) (U:=[]) b0 c0 (.cons rfl .nil) .nil ?_
 dsimp only [offS,List.map]
 refine Ah 47 281474976710655 b0 rfl c0 (fun _=>Bl rfl rfl) rfl<|Bc (doneD_ok b0 (by kernel_rfl)) ?_
 obtain ⟨F6,b7⟩:=AD d0 (.one (.tl (.tl (.tl (.tl (.tl .hd))))) (.one (.tl (.tl (.tl (.tl (.tl .hd))))) (.one (.tl (.tl (.tl (.tl (.tl .hd))))) .done)))
 exact c1 true _ _ ⟨rfl,rfl,rfl,rfl,rfl,rfl,rfl,rfl,rfl,trivial⟩ ⟨F6,b7⟩ h
 refine By 549755813887 9 [(36,124),(37,125),(38,126)] (F:=[(123,true)]) (U:=[]) b0 c0 (.cons rfl .nil) .nil ?_
 dsimp only [offS,List.map]
 refine Ah 39 1099511627775 b0 rfl c0 (fun _=>Bl rfl rfl) rfl<|Ah 40 2199023255551 b0 rfl c0 (fun _=>Ai rfl) rfl<|By 140737488355327 1 [(41,129),(42,130),(43,131),(44,132),(45,133),(46,134)] (F:=[(128,true)]) (U:=[]) b0 c0 (.cons rfl .nil) .nil ?_
 dsimp only [offS,List.map]
 refine Ah 47 281474976710655 b0 rfl c0 (fun _=>Bl rfl rfl) rfl<|Bc (doneD_ok b0 (by kernel_rfl)) ?_
 obtain ⟨G6,c7⟩:=AD d0 (.one (.tl (.tl (.tl (.tl (.tl .hd))))) (.one (.tl (.tl (.tl (.tl (.tl .hd))))) (.one (.tl (.tl (.tl (.tl (.tl .hd))))) .done)))
 exact c1 true _ _ ⟨rfl,rfl,rfl,rfl,rfl,rfl,rfl,rfl,rfl,trivial⟩ ⟨G6,c7⟩ h
 refine By 17179869183 14 [(30,118),(31,119),(32,120),(33,121)] (F:=[(117,true)]) (U:=[]) b0 c0 (.cons rfl .nil) .nil ?_
 dsimp only [offS,List.map]
 refine Ah 34 34359738367 b0 rfl c0 (fun _=>Bl rfl rfl) rfl<|Ah 35 68719476735 b0 rfl c0 (fun _=>Ai rfl) rfl<|By 549755813887 9 [(36,124),(37,125),(38,126)] (F:=[(123,true)]) (U:=[]) b0 c0 (.cons rfl .nil) .nil ?_
 dsimp only [offS,List.map]
 refine Ah 39 1099511627775 b0 rfl c0 (fun _=>Bl rfl rfl) rfl<|Ah 40 2199023255551 b0 rfl c0 (fun _=>Ai rfl) rfl<|By 140737488355327 1 [(41,129),(42,130),(43,131),(44,132),(45,133),(46,134)] (F:=[(128,true)]) (U:=[]) b0 c0 (.cons rfl .nil) .nil ?_
 dsimp only [offS,List.map]
 refine Ah 47 281474976710655 b0 rfl c0 (fun _=>Bl rfl rfl) rfl<|Bc (doneD_ok b0 (by kernel_rfl)) ?_
 obtain ⟨H6,d7⟩:=AD d0 (.one (.tl (.tl (.tl (.tl (.tl .hd))))) (.one (.tl (.tl (.tl (.tl (.tl .hd))))) (.one (.tl (.tl (.tl (.tl (.tl .hd))))) .done)))
 exact c1 true _ _ ⟨rfl,rfl,rfl,rfl,rfl,rfl,rfl,rfl,rfl,trivial⟩ ⟨H6,d7⟩ h
 refine By 268435455 20 [(25,113),(26,114),(27,115)] (F:=[(112,true)]) (U:=[]) b0 c0 (.cons rfl .nil) .nil ?_
 dsimp only [offS,List.map]
 refine Ah 28 536870911 b0 rfl c0 (fun _=>Bl rfl rfl) rfl<|Ah 29 1073741823 b0 rfl c0 (fun _=>Ai rfl) rfl<|By 17179869183 14 [(30,118),(31,119),(32,120),(33,121)] (F:=[(117,true)]) (U:=[]) b0 c0 (.cons rfl .nil) .nil ?_
 dsimp only [offS,List.map]
 refine Ah 34 34359738367 b0 rfl c0 (fun _=>Bl rfl rfl) rfl<|Ah 35 68719476735 b0 rfl c0 (fun _=>Ai rfl) rfl<|By 549755813887 9 [(36,124),(37,125),(38,126)] (F:=[(123,true)]) (U:=[]) b0 c0 (.cons rfl .nil) .nil ?_
 dsimp only [offS,List.map]
 refine Ah 39 1099511627775 b0 rfl c0 (fun _=>Bl rfl rfl) rfl<|Ah 40 2199023255551 b0 rfl c0 (fun _=>Ai rfl) rfl<|By 140737488355327 1 [(41,129),(42,130),(43,131),(44,132),(45,133),(46,134)] (F:=[(128,true)]) (U:=[]) b0 c0 (.cons rfl .nil) .nil ?_
 dsimp only [offS,List.map]
 refine Ah 47 281474976710655 b0 rfl c0 (fun _=>Bl rfl rfl) rfl<|Bc (doneD_ok b0 (by kernel_rfl)) ?_
 obtain ⟨I6,g7⟩:=AD d0 (.one (.tl (.tl (.tl (.tl (.tl .hd))))) (.one (.tl (.tl (.tl (.tl (.tl .hd))))) (.one (.tl (.tl (.tl (.tl (.tl .hd))))) .done)))
 exact c1 true _ _ ⟨rfl,rfl,rfl,rfl,rfl,rfl,rfl,rfl,rfl,trivial⟩ ⟨I6,g7⟩ h
 refine By 8388607 25 [(19,107),(20,108),(21,109),(22,110)] (F:=[(106,true)]) (U:=[]) b0 c0 (.cons rfl .nil) .nil ?_
 dsimp only [offS,List.map]
 refine Ah 23 16777215 b0 rfl c0 (fun _=>Bl rfl rfl) rfl<|Ah 24 33554431 b0 rfl c0 (fun _=>Ai rfl) rfl<|By 268435455 20 [(25,113),(26,114),(27,115)] (F:=[(112,true)]) (U:=[]) b0 c0 (.cons rfl .nil) .nil ?_
 dsimp only [offS,List.map]
 refine Ah 28 536870911 b0 rfl c0 (fun _=>Bl rfl rfl) rfl<|Ah 29 1073741823 b0 rfl c0 (fun _=>Ai rfl) rfl<|By 17179869183 14 [(30,118),(31,119),(32,120),(33,121)] (F:=[(117,true)]) (U:=[]) b0 c0 (.cons rfl .nil) .nil ?_
 dsimp only [offS,List.map]
 refine Ah 34 34359738367 b0 rfl c0 (fun _=>Bl rfl rfl) rfl<|Ah 35 68719476735 b0 rfl c0 (fun _=>Ai rfl) rfl<|By 549755813887 9 [(36,124),(37,125),(38,126)] (F:=[(123,true)]) (U:=[]) b0 c0 (.cons rfl .nil) .nil ?_
 dsimp only [offS,List.map]
 refine Ah 39 1099511627775 b0 rfl c0 (fun _=>Bl rfl rfl) rfl<|Ah 40 2199023255551 b0 rfl c0 (fun _=>Ai rfl) rfl<|By 140737488355327 1 [(41,129),(42,130),(43,131),(44,132),(45,133),(46,134)] (F:=[(128,true)]) (U:=[]) b0 c0 (.cons rfl .nil) .nil ?_
 dsimp only [offS,List.map]
 refine Ah 47 281474976710655 b0 rfl c0 (fun _=>Bl rfl rfl) rfl<|Bc (doneD_ok b0 (by kernel_rfl)) ?_
 obtain ⟨J6,j7⟩:=AD d0 (.one (.tl (.tl (.tl (.tl (.tl .hd))))) (.one (.tl (.tl (.tl (.tl (.tl .hd))))) (.one (.tl (.tl (.tl (.tl (.tl .hd))))) .done)))
 exact c1 true _ _ ⟨rfl,rfl,rfl,rfl,rfl,rfl,rfl,rfl,rfl,trivial⟩ ⟨J6,j7⟩ h
 refine By 131071 31 [(10,98),(11,99),(12,100),(13,101),(14,102),(15,103),(16,104)] (F:=[(97,true)]) (U:=[]) b0 c0 (.cons rfl .nil) .nil ?_
 dsimp only [offS,List.map]
 refine Ah 17 262143 b0 rfl c0 (fun _=>Bl rfl rfl) rfl<|Ah 18 524287 b0 rfl c0 (fun _=>Ai rfl) rfl<|By 8388607 25 [(19,107),(20,108),(21,109),(22,110)] (F:=[(106,true)]) (U:=[]) b0 c0 (.cons rfl .nil) .nil ?_
 dsimp only [offS,List.map]
 refine Ah 23 16777215 b0 rfl c0 (fun _=>Bl rfl rfl) rfl<|Ah 24 33554431 b0 rfl c0 (fun _=>Ai rfl) rfl<|By 268435455 20 [(25,113),(26,114),(27,115)] (F:=[(112,true)]) (U:=[]) b0 c0 (.cons rfl .nil) .nil ?_
 dsimp only [offS,List.map]
 refine Ah 28 536870911 b0 rfl c0 (fun _=>Bl rfl rfl) rfl<|Ah 29 1073741823 b0 rfl c0 (fun _=>Ai rfl) rfl<|By 17179869183 14 [(30,118),(31,119),(32,120),(33,121)] (F:=[(117,true)]) (U:=[]) b0 c0 (.cons rfl .nil) .nil ?_
 dsimp only [offS,List.map]
 refine Ah 34 34359738367 b0 rfl c0 (fun _=>Bl rfl rfl) rfl<|Ah 35 68719476735 b0 rfl c0 (fun _=>Ai rfl) rfl<|By 549755813887 9 [(36,124),(37,125),(38,126)] (F:=[(123,true)]) (U:=[]) b0 c0 (.cons rfl .nil) .nil ?_
 dsimp only [offS,List.map]
 refine Ah 39 1099511627775 b0 rfl c0 (fun _=>Bl rfl rfl) rfl<|Ah 40 2199023255551 b0 rfl c0 (fun _=>Ai rfl) rfl<|By 140737488355327 1 [(41,129),(42,130),(43,131),(44,132),(45,133),(46,134)] (F:=[(128,true)]) (U:=[]) b0 c0 (.cons rfl .nil) .nil ?_
 dsimp only [offS,List.map]
 refine Ah 47 281474976710655 b0 rfl c0 (fun _=>Bl rfl rfl) rfl<|Bc (doneD_ok b0 (by kernel_rfl)) ?_
 obtain ⟨K6,k7⟩:=AD d0 (.one (.tl (.tl (.tl (.tl (.tl .hd))))) (.one (.tl (.tl (.tl (.tl (.tl .hd))))) (.one (.tl (.tl (.tl (.tl (.tl .hd))))) .done)))
 exact c1 true _ _ ⟨rfl,rfl,rfl,rfl,rfl,rfl,rfl,rfl,rfl,trivial⟩ ⟨K6,k7⟩ h
 refine Bd rfl ?_
 have h:=thn_inr h I3
 try dsimp only at h
 refine Ak<|Ae<|Ac rfl<|Ac rfl<|Ab (AV (vs:=[vI g0.2.2.2,vI a2]) (u:=.agg #[vI g0.2.2.2,vI a2]) (e2 rfl rfl) (fun w9=>by kernel_rfl))<|Ac rfl<|Aa<|AB ?_
 obtain ⟨P6,p7⟩:=AD v2 (.one (.tl .hd) (.one (.tl .hd) .done))
 obtain ⟨M03,p01,c3⟩:=thn_in h
 refine Bp (α:=Nat) (fun W0=>[(7,vP u0),(8,vP v0),(9,s3),(139,.agg #[vI g0.2.2.2,vI a2]),(140,vI ((W0:Nat):Int))]) (fun W0 u3=>St w u3 [.cells v0 [vI g0.2.1.fGroups,vI g0.2.1.fParties,vI g0.2.1.fLevels,I0] 41,.cells u0 [vI g0.1.fN,H0] 38]∧Tr R2 [.cells v0 [vI g0.2.1.fGroups,vI g0.2.1.fParties,vI g0.2.1.fLevels,I0] 41,.cells u0 [vI g0.1.fN,H0] 38] u3 [.cells v0 [vI g0.2.1.fGroups,vI g0.2.1.fParties,vI g0.2.1.fLevels,I0] 41,.cells u0 [vI g0.1.fN,H0] 38]) (fun W0=>W0) 0 p01 ⟨rfl,rfl,rfl,rfl,rfl,trivial⟩ ⟨P6,AN _ _⟩ ?_
 rintro p03 W0 u3 Z5 ⟨J1,F3⟩ h
 unfold wardmotelaw26_EditSteps_l1 at h
 try dsimp only at h
 refine Ae<|Ab (BA (i:=W0) (j:=2) rfl rfl)<|Aa<|Ak<|AW rfl h (fun X5 h=>?_) (fun X5 h=>?_)
 refine Ao<|Ak<|AB<|Ae ?_
 obtain ⟨B5,K4,h⟩:=bi h
 refine Ab (FV.idx1 (cs:=([g0.2.2.2,a2]:List Int).map (fun z9:Int=>(vI z9:Value))) (k:=W0) (m:=1) (len:=2) (by kernel_rfl) (by kernel_rfl) rfl rfl rfl (arr_lt K4 rfl) (arr_get0 (fun z9:Int=>(vI z9:Value)) K4))<|Ag rfl<|Aa<|Ae<|Ab (AG rfl (J1.memA (.tl .hd)))<|Ab (AG rfl (J1.memA .hd))<|Ac rfl<|Ac rfl ?_
 obtain ⟨v3,t02,h⟩:=bi h
 have J2:=Tt z1 (Tt M1 (Tt C3 (Tt q0 (Tt P0 (Tt Q1 (Tt s0 (Tt J0 (Tt K1 (Tt Y0 (Tt K0 (Tt p7 F3)))))))))))
 have M00:=Aj R0 J2
 have P00:=Aj U0 J2
 have Q00:=Aj q3 J2
 refine Bx (fst:=[]) (cap:=[]) .plain body30 rfl (e4 rfl rfl rfl rfl) (fun w9 hw9=>edit_Start_c n _ w9 (J1.hL hL hw9) g0.1 (Av M00 hw9) g0.2.1 (Av P00 hw9) g0.2.2.1 (Av Q00 hw9) B5 t02) rfl (fun X04 j04 C7 ⟨x02,y02,z02,A02,hu_,C4,D4,E4,F4⟩=>?_)
 subst hu_
 obtain ⟨Q6,G3⟩:=J1.agr C7
 refine Ac rfl<|Ab (Au rfl rfl)<|Ab (Au rfl rfl)<|Az .plain rfl (AX [vI 0,vN,vN,vN,vN] Q6) (fun Y04 t03 R6 g1=>?_)
 have U00:=Aj C4 g1
 have W00:=Aj D4 g1
 have X00:=Aj E4 g1
 have Y00:=Aj F4 g1
 refine Bk [vI v3.1.fK,x02,y02,z02,A02] R6 .hd (o5 rfl (AP U00) (AP W00) (AP X00) (AP Y00)) (fun Z04 z2 b3=>?_)
 refine Ag rfl<|Aa<|Ae<|Ab (AG rfl (z2.memA (.tl (.tl .hd))))<|Ab (AG rfl (z2.memA (.tl .hd)))<|Ac rfl<|Ac rfl ?_
 obtain ⟨x3,u02,h⟩:=bi h
 have p3:=Tt J2 (Tt G3 (Tt g1 b3))
 have Z00:=Aj R0 p3
 have b01:=Aj U0 p3
 have d01:=Aj q3 p3
 refine Bx (fst:=[]) (cap:=[]) .plain body36 rfl (e4 rfl rfl rfl rfl) (fun w9 hw9=>wardmoteref26_Start_c n _ w9 (z2.hL hL hw9) g0.1 (Av Z00 hw9) g0.2.1 (Av b01 hw9) g0.2.2.1 (Av d01 hw9) B5 u02) rfl (fun b05 k04 D7 ⟨B02,C02,D02,E02,hu_,G4,H4,I4,J4⟩=>?_)
 subst hu_
 obtain ⟨U6,H3⟩:=z2.agr D7
 refine Ac rfl<|Ab (Au rfl rfl)<|Ab (Au rfl rfl)<|Az .plain rfl (AX [vI 0,vN,vN,vN,vN] U6) (fun c05 u03 V6 F0=>?_)
 have j01:=Aj G4 F0
 have E7:=Aj H4 F0
 have F7:=Aj I4 F0
 have G7:=Aj J4 F0
 refine Bk [vI x3.1.fK,B02,C02,D02,E02] V6 .hd (o5 rfl (AP j01) (AP E7) (AP F7) (AP G7)) (fun q04 k0 v1=>?_)
 refine Ag rfl<|Aa<|Ae<|Ab (AG rfl (k0.memA (.tl .hd)))<|Ab (AG rfl (k0.memA .hd)) ?_
 obtain ⟨H02,M01,h⟩:=bi h
 have C2:=Tt g1 (Tt b3 (Tt H3 (Tt F0 v1)))
 have H7:=Aj C4 C2
 have I7:=Aj D4 C2
 have J7:=Aj E4 C2
 have K7:=Aj F4 C2
 have M7:=Aj G4 (Tt F0 v1)
 have P7:=Aj H4 (Tt F0 v1)
 have Q7:=Aj I4 (Tt F0 v1)
 have R7:=Aj J4 (Tt F0 v1)
 refine BE (.bool H02) body15 rfl (e2 rfl rfl) (fun w9 hw9=>wardmoteref26_Same_c n _ w9 (k0.hL0 hL hw9) v3.1 (k0.kd H7 hw9) (k0.kd I7 hw9) (k0.kd J7 hw9) (k0.kd K7 hw9) x3.1 (k0.kd M7 hw9) (k0.kd P7 hw9) (k0.kd Q7 hw9) (k0.kd R7 hw9) M01) rfl<|Ab (Ba rfl)<|Ac rfl<|RG.ifnb (s:=163) rfl h (fun H5 h=>?_) (fun H5 h=>?_)
 refine Ap (Ai rfl)<|Ap (Ai rfl)<|Ap (BO (i:=v3.2) (j:=x3.2) rfl rfl)<|AO rfl rfl<|Aa<|BV rfl h (fun I5 h=>?_) (fun I5 h=>?_)
 refine Ao<|AF<|Aw<|Ab (Bu (i:=W0) (j:=1) rfl rfl (by omega))<|Ac rfl<|Aa ?_
 obtain ⟨b6,W6⟩:=AD k0 (.one (.tl (.tl .hd)) (.one (.tl (.tl .hd)) .done))
 have q01:=Tt G3 (Tt g1 (Tt b3 (Tt H3 (Tt F0 (Tt v1 W6)))))
 exact Z5 (W0 + 1) _ _ ⟨rfl,rfl,rfl,rfl,rfl,trivial⟩ ⟨b6,(Tt F3 q01)⟩ h
 refine Ae<|Ag rfl<|Aa ?_
 have h:=thn_inl h c3
 refine Am rfl<|AJ hb0 Tryz.func8 rfl rfl ?_
 cases h
 exact k0.gv
 refine Af<|Af<|Af<|AU rfl rfl<|Aa<|AY rfl<|Ae<|Ag rfl<|Aa ?_
 have h:=thn_inl h c3
 refine Am rfl<|AJ hb0 Tryz.func8 rfl rfl ?_
 cases h
 exact k0.gv
 refine Bd rfl ?_
 have h:=thn_inr h c3
 try dsimp only at h
 refine Ae<|Ag rfl<|Aa<|Am rfl<|AJ hb0 Tryz.func8 rfl rfl ?_
 cases h
 exact J1.gv
 refine Ae<|Ag rfl<|Aa<|Am rfl<|AJ hb0 Tryz.func8 rfl rfl ?_
 cases h
 exact hS8.gv
end Go.Proofs.YtcijnmkodpfpgaaGreatDoor
