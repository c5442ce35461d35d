/- Functions of the program, and what they give: part 8. -/
import Derived.Test.YtmhgoecnjleagaaGreatDoorXW7
namespace Go.Proofs.YtmhgoecnjleagaaGreatDoor
open Go Go.RowKit
set_option maxRecDepth 4000
set_option maxHeartbeats 4000000

def tb8_19:List (Nat × Nat × Nat):=[(0,4835703278458516698824704,0),(0,9671406556917033397649408,4096),(3,19342813113834066795298816,14507109835375550096474112),(4,2417851639229258349412352,19342813113834066795298816),(8,38685626227668133590597632,2417851639229258349412352),(8,77371252455336267181195264,2417851639229258349412352),(0,524288,0),(95,0,38685626227668133591121920),(255,1048576,77371252455336267181195264)]
def tb8_20:List (Nat × Nat × Nat):=[(0,154742504910672534362390528,262144),(1,309485009821345068724781056,154742504910672534362390528),(2,618970019642690137449562112,309485009821345068724781056),(4,1237940039285380274899124224,618970019642690137450610688),(12,2475880078570760549798248448,1856910058928070412348686336),(20,4951760157141521099596496896,3094850098213450687247810560),(36,9903520314283042199192993792,4951760157141521099596496896),(64,19807040628566084398385987584,9903520314283042199193124864),(64,39614081257132168796771975168,9903520314283042199193518080),(448,79228162514264337593543950336,69324642199981295394350956544),(576,158456325028528675187087900672,89131682828547379792736944128),(1536,316912650057057350374175801344,158456325028528675187087900672),(2048,633825300114114700748351602688,316912650057057350374175805440),(2048,1267650600228229401496703205376,316912650057057350374175801344),(14336,2535301200456458802993406410752,2218388550399401452619230609408),(26624,5070602400912917605986812821504,2852213850513516153367582212096),(2048,10141204801825835211973625643008,316912650057057350374175801856),(2048,20282409603651670423947251286016,316912650057057350374175801472),(2048,40564819207303340847894502572032,316912650057057350374175801600),(34816,81129638414606681695789005144064,316912650057057350374175801344),(985088,162259276829213363391578010288128,152434984677444585529978560446464),(1050624,324518553658426726783156020576256,162576189479270420741952186089472),(1050624,649037107316853453566312041152512,162576189479270420741952186089472),(7374848,1298074214633706907132624082305024,978943176026250155305829050351616),(8390656,2596148429267413814265248164610048,1298391127283763964482998258106368),(25165824,5192296858534827628530496329220096,2596148429267413814265248164610048),(33554432,10384593717069655257060992658440192,5192296858534827628530496329224192),(33554432,20769187434139310514121985316880384,5192296858534827628530496329220128),(167772160,41538374868278621028243970633760768,25961484292674138142652481646100480),(369098752,83076749736557242056487941267521536,57115265443883103913835459621421056),(570425344,166153499473114484112975882535043072,88269046595092069685018437596741632),(33554432,332306998946228968225951765070086144,5192296858534827628530496329220608),(33554432,664613997892457936451903530140172288,5192296858534827628530496329220224),(33554432,1329227995784915872903807060280344576,5192296858534827628530496329220352),(33554432,2658455991569831745807614120560689152,5192296858534827628530496329220128),(18287165440,5316911983139663491615228241121378304,2663648288428366573436144616889909248),(49425678336,10633823966279326983230456482242756608,7648253272621801096825421092941201408),(68753031168,21267647932558653966460912964485513216,10639016263137861810858986978571976704),(68753031168,42535295865117307932921825928971026432,10639016263137861810858986978571976704),(482143633408,85070591730234615865843651857942052864,63974289594007611211124245272320802816),(549789368320,170141183460469231731687303715884105728,85075784027093150693472182354271272960),(1649267441664,340282366920938463463374607431768211456,170141183460469231731687303715884105728),(2199023255552,680564733841876926926749214863536422912,340282366920938463463374607431768211456),(2199023255552,1361129467683753853853498429727072845824,340282366920938463463374607431768211968),(2199023255552,2722258935367507707706996859454145691648,340282366920938463463374607431768211584),(2199023255552,5444517870735015415413993718908291383296,340282366920938463463374607431768211712),(2199023255552,10889035741470030830827987437816582766592,340282366920938463463374607431768215552),(138538465099776,21778071482940061661655974875633165533184,20757224382177246271265851053337860898816),(142936511610880,43556142965880123323311949751266331066368,22118353849861000125119349483064933744640),(142936511610880,87112285931760246646623899502532662132736,22118353849861000125119349483064933744640),(991759488253952,174224571863520493293247799005065324265472,131689275998403185360325973076094297833472),(1128098930098176,348449143727040986586495598010130648530944,174564854230441431756711173612497092476928),(4503599627370495,64,348449143727040986586495598010130648530944)]
def tb8_7:List (Nat × Nat × Nat):=[(0,2199023255552,2048),(1,4398046511104,2199023255552),(2,8796093022208,4398046511104),(4,17592186044416,8796093022208),(4,35184372088832,8796093022720),(4,70368744177664,8796093022336),(4,140737488355328,8796093022464),(4,281474976710656,8796093022240),(140,562949953421312,290271069732864),(372,1125899906842624,818036651065344),(516,2251799813685248,1134695999864832),(516,4503599627370496,1134695999864832),(3596,9007199254740992,6781787720122368),(4100,18014398509481984,9015995347763200),(16383,64,18014398509481984)]
theorem body9:bodyB Tryz.prog 9 = true:=by kernel_rfl
theorem body11:bodyB Tryz.prog 11 = true:=by kernel_rfl
theorem body17:bodyB Tryz.prog 17 = true:=by kernel_rfl
theorem body18:bodyB Tryz.prog 18 = true:=by kernel_rfl
theorem body42:bodyB Tryz.prog 42 = true:=by kernel_rfl
theorem body43:bodyB Tryz.prog 43 = true:=by kernel_rfl
def wardmotelaw22_BalanceWithin_l1 (n:Nat) (E0:(List TShare) × Int) (F0:Nat × UInt64 × UInt64 × UInt64 × UInt64 × UInt64 × UInt64 × UInt64 × UInt64 × UInt64 × UInt64 × UInt64 × UInt64 × UInt64 × UInt64 × UInt64 × UInt64 → Option (Bool ⊕ (UInt64 × UInt64 × UInt64 × UInt64 × UInt64 × UInt64 × UInt64 × UInt64 × UInt64 × UInt64 × UInt64 × UInt64 × UInt64 × UInt64 × UInt64 × UInt64))):Nat × UInt64 × UInt64 × UInt64 × UInt64 × UInt64 × UInt64 × UInt64 × UInt64 × UInt64 × UInt64 × UInt64 × UInt64 × UInt64 × UInt64 × UInt64 × UInt64 → Option (Bool ⊕ (UInt64 × UInt64 × UInt64 × UInt64 × UInt64 × UInt64 × UInt64 × UInt64 × UInt64 × UInt64 × UInt64 × UInt64 × UInt64 × UInt64 × UInt64 × UInt64))
  | (c0,d0,g0,j0,k0,p0,q0,s0,t0,u0,v0,x0,y0,z0,A0,B0,C0)=>(if c0 < E0.1.length then (E0.1[c0]?).bind fun c1=>(share_Abs_p n c1).bind fun b0=>(if b0.2 = 0 then (wardmotelaw22_atMost_p n (⟨(d0,g0,j0,k0,p0,q0,s0,t0),(u0,v0,x0,y0,z0,A0,B0,C0)⟩:TShare) b0.1).bind fun d1=>jn (fun (G0,H0,I0,J0,K0,M0,P0,Q0,R0,U0,V0,W0,X0,Y0,Z0,b1)=>F0 (c0 + 1,G0,H0,I0,J0,K0,M0,P0,Q0,R0,U0,V0,W0,X0,Y0,Z0,b1)) (fun D0=>(if d1 = true then D0 (b0.1.fN.1,b0.1.fN.2.1,b0.1.fN.2.2.1,b0.1.fN.2.2.2.1,b0.1.fN.2.2.2.2.1,b0.1.fN.2.2.2.2.2.1,b0.1.fN.2.2.2.2.2.2.1,b0.1.fN.2.2.2.2.2.2.2,b0.1.fD.1,b0.1.fD.2.1,b0.1.fD.2.2.1,b0.1.fD.2.2.2.1,b0.1.fD.2.2.2.2.1,b0.1.fD.2.2.2.2.2.1,b0.1.fD.2.2.2.2.2.2.1,b0.1.fD.2.2.2.2.2.2.2) else D0 (d0,g0,j0,k0,p0,q0,s0,t0,u0,v0,x0,y0,z0,A0,B0,C0))) else some (.inl false)) else some (.inr (d0,g0,j0,k0,p0,q0,s0,t0,u0,v0,x0,y0,z0,A0,B0,C0)))
def wardmotelaw22_BalanceWithin_p (n:Nat) (a0:TDraft) (a1:TDraft26) (a2:TPart):Option Bool:=
  (wardmotelaw22_works_p n).bind fun M0=>(if M0 = true then (wardmoteref21_Draft_Loose_p n a0).bind fun c0=>(wardmoteref22_Draft_Roll_p n a1 ((c0.1.length:Nat):Int)).bind fun d0=>(balance_Off_p n d0 c0.1 c0.2).bind fun E0=>(if E0.2 = 0 then (wardmotelaw22_of_p n (0:Int) (1:Int)).bind fun b0=>thn (loopF (wardmotelaw22_BalanceWithin_l1 n E0) n (0,b0.fN.1,b0.fN.2.1,b0.fN.2.2.1,b0.fN.2.2.2.1,b0.fN.2.2.2.2.1,b0.fN.2.2.2.2.2.1,b0.fN.2.2.2.2.2.2.1,b0.fN.2.2.2.2.2.2.2,b0.fD.1,b0.fD.2.1,b0.fD.2.2.1,b0.fD.2.2.2.1,b0.fD.2.2.2.2.1,b0.fD.2.2.2.2.2.1,b0.fD.2.2.2.2.2.2.1,b0.fD.2.2.2.2.2.2.2)) (fun (g0,j0,k0,p0,q0,s0,t0,u0,v0,x0,y0,z0,A0,B0,C0,D0)=>(balance_Spread_p n d0 c0.1 c0.2).bind fun F0=>(wardmotelaw22_of_p n (2:Int) (1:Int)).bind fun P0=>(share_Mul_p n P0 (⟨(g0,j0,k0,p0,q0,s0,t0,u0),(v0,x0,y0,z0,A0,B0,C0,D0)⟩:TShare)).bind fun G0=>(if F0.2 = 0 then (if G0.2 = 0 then (wardmotelaw22_atMost_p n F0.1 G0.1).bind fun Q0=>(if Q0 = true then (wardmotelaw22_of_p n (0:Int) (1:Int)).bind fun R0=>(wardmotelaw22_of_p n (0:Int) (1:Int)).bind fun U0=>(balance_Within_p n d0 c0.1 c0.2 U0).bind fun H0=>(wardmotelaw22_truth_1_p n H0.1 H0.2 (decide ((⟨(g0,j0,k0,p0,q0,s0,t0,u0),(v0,x0,y0,z0,A0,B0,C0,D0)⟩:TShare) = R0))).bind fun V0=>(if V0 = true then (wardmoteref22_Part_Unit_p n a2).bind fun W0=>(wardmotelaw22_atMost_p n (⟨(g0,j0,k0,p0,q0,s0,t0,u0),(v0,x0,y0,z0,A0,B0,C0,D0)⟩:TShare) W0).bind fun X0=>(wardmoteref22_Part_Unit_p n a2).bind fun Y0=>(balance_Within_p n d0 c0.1 c0.2 Y0).bind fun I0=>(wardmotelaw22_truth_1_p n I0.1 I0.2 X0).bind fun Z0=>(if Z0 = true then (balance_Within_p n d0 c0.1 c0.2 (⟨(g0,j0,k0,p0,q0,s0,t0,u0),(v0,x0,y0,z0,A0,B0,C0,D0)⟩:TShare)).bind fun J0=>(wardmotelaw22_truth_1_p n J0.1 J0.2 true).bind fun b1=>some b1 else some false) else some false) else some false) else some false) else some false)) else (if E0.2 = 7 then (wardmoteref22_Part_Unit_p n a2).bind fun c1=>(balance_Within_p n d0 c0.1 c0.2 c1).bind fun K0=>(wardmotelaw22_truth_1_p n K0.1 K0.2 true).bind fun d1=>some d1 else some false)) else some false)
theorem wardmotelaw22_BalanceWithin_c (n:Nat) (L:List Nat) (w:World) (hL:∀ b ∈ L,b < w.heap.size) (a0:TDraft) {v0_1:Value} (h0_1:Rep.R w L [v0_1] a0.fParents) {v0_2:Value} (h0_2:Rep.R w L [v0_2] a0.fMore) {v0_3:Value} (h0_3:Rep.R w L [v0_3] a0.fLabels) (a1:TDraft26) {v1_4:Value} (h1_4:Rep.R w L [v1_4] a1.fNums) (a2:TPart)  {r:Bool} (h:wardmotelaw22_BalanceWithin_p n a0 a1 a2 = some r) :
    Calls Tryz.prog 8 #[.agg #[.int .u8 (a0.fN.toNat:Int),v0_1,v0_2,v0_3,.int .u8 (a0.fK.toNat:Int)],.agg #[.int .u8 (a1.fGroups.toNat:Int),.int .u8 (a1.fParties.toNat:Int),.int .u8 (a1.fLevels.toNat:Int),.int .u8 (a1.fWater.toNat:Int),v1_4],.agg #[.int .i16 a2.fN.toInt,.int .u8 (a2.fD.toNat:Int)]] w (Gives w fun _ u=>u = .bool r):=by
 unfold wardmotelaw22_BalanceWithin_p at h
 have hS0:=Ax w
 refine AA Tryz.func8 rfl rfl rfl (fun _ cs0 hb0=>?_)
 refine Ac<|Aj .plain rfl (Aw hS0 rfl rfl) (fun V6 q6 E3 y6=>?_)
 refine Aj .plain rfl (Aw E3 rfl rfl) (fun W6 s6 F3 z6=>?_)
 refine Aj .plain rfl (Aw F3 rfl rfl) (fun X6 R0 W0 A6=>?_)
 refine Ag rfl<|Aa<|Ak<|Ac ?_
 obtain ⟨X5,d5,h⟩:=bi h
 refine Bf (.bool X5) body9 rfl evs_nil (fun w9 hw9=>wardmotelaw22_works_c n _ w9 (W0.hL0 hL hw9)  d5) rfl<|Ab (Bz rfl)<|Aa<|MX.ifnb rfl h (fun s3 h=>?_) (fun s3 h=>?_)
 refine Aq<|Ac<|Ab (AB rfl (W0.memA (.tl (.tl .hd)))) ?_
 obtain ⟨I0,g5,h⟩:=bi h
 refine AX (fst:=[]) (cap:=[]) .plain body17 rfl (e1 rfl) (fun w9 hw9=>wardmoteref21_Draft_Loose_c n _ w9 (W0.hL hL hw9) a0 (W0.km h0_1 hw9) (W0.km h0_2 hw9) (W0.km h0_3 hw9) g5) rfl (fun c7 J6 s4 ⟨Y2,hu_,Y0⟩=>?_)
 subst hu_
 obtain ⟨X1,B6⟩:=W0.agr s4
 refine Ae rfl<|Ab (Af rfl rfl)<|Ab (Af rfl rfl)<|Ag rfl<|Ag rfl<|Aa<|Ac<|Ab (AB rfl (X1.memA (.tl .hd)))<|Ae rfl ?_
 have G6:I0.1.length ≤ 281474976710656:=AT Y0
 refine Ab (Bb (xs:=I0.1) Tryz.underlying46 rfl Y0) ?_
 obtain ⟨d0,y5,h⟩:=bi h
 refine AX (fst:=[]) (cap:=[]) .plain body18 rfl (e2 rfl rfl) (fun w9 hw9=>wardmoteref22_Draft_Roll_c n _ w9 (X1.hL hL hw9) a1 (X1.km h1_4 hw9) ((I0.1.length:Nat):Int) y5) rfl (fun p7 P6 t4 ⟨E1,hu_,c1⟩=>?_)
 subst hu_
 obtain ⟨U3,K1⟩:=X1.agr t4
 refine Aj .plain rfl (Av [vI 0,vI 0,vI 0,vN] U3) (fun t7 U0 V3 M1=>?_)
 have K4:=Ap c1 M1
 refine AL [vI d0.fGroups,vI d0.fParties,vI d0.fLevels,E1] V3 .hd (o4 rfl rfl rfl (AI K4)) (fun u7 u2 b2=>?_)
 refine Aa<|Ac<|Ab (AB rfl (u2.memA .hd))<|Ae rfl<|Ae rfl ?_
 obtain ⟨F1,K5,h⟩:=bi h
 have M4:=Ap c1 (Tt M1 b2)
 have Q2:=Tt K1 (Tt M1 b2)
 have P4:=Ap Y0 Q2
 refine AX (fst:=[]) (cap:=[]) .plain body22 rfl (e3 rfl rfl rfl) (fun w9 hw9=>balance_Off_c n _ w9 (u2.hL hL hw9) d0 (Am M4 hw9) I0.1 (Am P4 hw9) I0.2 K5) rfl (fun V5 U6 u4 ⟨Z2,hu_,R2⟩=>?_)
 subst hu_
 obtain ⟨X0,y2⟩:=u2.agr u4
 refine Ae rfl<|Ab (Af rfl rfl)<|Ab (Af rfl rfl)<|Ag rfl<|Ag rfl<|Aa<|Ak<|Ac<|Ae rfl<|Ab (FV.neq (i:=F1.2) (j:=0) rfl rfl)<|Aa<|MX.ifn rfl h (fun C3 h=>?_) (fun C3 h=>?_)
 refine Aq<|Ac ?_
 obtain ⟨k0,M5,h⟩:=bi h
 refine Bf (.agg ((cs_TShare k0)).toArray) body23 rfl (e2 rfl rfl) (fun w9 hw9=>wardmotelaw22_of_c n _ w9 (X0.hL0 hL hw9) (0:Int) (1:Int) M5) rfl<|Aj .plain rfl (Av zL X0) (fun v7 V0 W3 c2=>?_)
 refine AL (cs_TShare k0) W3 .hd (onesB rfl) (fun W5 X3 d2=>?_)
 refine Aa<|Ak<|Ac<|Ae rfl ?_
 have K2:=Ap R2 (Tt c2 d2)
 have H6:F1.1.length ≤ 281474976710656:=AT K2
 refine Ab (Bb (xs:=F1.1) Tryz.underlying68 rfl K2)<|Ae rfl<|Aa<|Az ?_
 obtain ⟨G3,v2⟩:=AH X3 (.one .hd (.one .hd (.one .hd .done)))
 obtain ⟨I6,Q4,J2⟩:=thn_in h
 refine Bj (α:=Nat × UInt64 × UInt64 × UInt64 × UInt64 × UInt64 × UInt64 × UInt64 × UInt64 × UInt64 × UInt64 × UInt64 × UInt64 × UInt64 × UInt64 × UInt64 × UInt64) (fun ⟨Q0,q0,s0,t0,u0,v0,x0,y0,z0,A0,B0,C0,D0,E0,F0,G0,H0⟩=>[(5,vP R0),(7,Y2),(8,vI I0.2),(9,vP U0),(12,vP V0),(56,Z2),(57,vI ((F1.1.length:Nat):Int)),(58,vI ((Q0:Nat):Int))]) (fun ⟨Q0,q0,s0,t0,u0,v0,x0,y0,z0,A0,B0,C0,D0,E0,F0,G0,H0⟩ A2=>St w A2 [.cells V0 [vU q0,vU s0,vU t0,vU u0,vU v0,vU x0,vU y0,vU z0,vU A0,vU B0,vU C0,vU D0,vU E0,vU F0,vU G0,vU H0] 37,.cells U0 [vI d0.fGroups,vI d0.fParties,vI d0.fLevels,E1] 44,.cells R0 [.int .i16 a2.fN.toInt,.int .u8 (a2.fD.toNat:Int)] 32]∧Tr W5 [.cells V0 (cs_TShare k0) 37,.cells U0 [vI d0.fGroups,vI d0.fParties,vI d0.fLevels,E1] 44,.cells R0 [.int .i16 a2.fN.toInt,.int .u8 (a2.fD.toNat:Int)] 32] A2 [.cells V0 [vU q0,vU s0,vU t0,vU u0,vU v0,vU x0,vU y0,vU z0,vU A0,vU B0,vU C0,vU D0,vU E0,vU F0,vU G0,vU H0] 37,.cells U0 [vI d0.fGroups,vI d0.fParties,vI d0.fLevels,E1] 44,.cells R0 [.int .i16 a2.fN.toInt,.int .u8 (a2.fD.toNat:Int)] 32]) (fun ⟨Q0,q0,s0,t0,u0,v0,x0,y0,z0,A0,B0,C0,D0,E0,F0,G0,H0⟩=>(Q0,q0,s0,t0,u0,v0,x0,y0,z0,A0,B0,C0,D0,E0,F0,G0,H0)) (0,k0.fN.1,k0.fN.2.1,k0.fN.2.2.1,k0.fN.2.2.2.1,k0.fN.2.2.2.2.1,k0.fN.2.2.2.2.2.1,k0.fN.2.2.2.2.2.2.1,k0.fN.2.2.2.2.2.2.2,k0.fD.1,k0.fD.2.1,k0.fD.2.2.1,k0.fD.2.2.2.1,k0.fD.2.2.2.2.1,k0.fD.2.2.2.2.2.1,k0.fD.2.2.2.2.2.2.1,k0.fD.2.2.2.2.2.2.2) Q4 ⟨rfl,rfl,rfl,rfl,rfl,rfl,rfl,rfl,trivial⟩ ⟨G3,AP _ _⟩ ?_
 rintro k6 ⟨Q0,q0,s0,t0,u0,v0,x0,y0,z0,A0,B0,C0,D0,E0,F0,G0,H0⟩ A2 D3 ⟨G1,Z1⟩ h
 unfold wardmotelaw22_BalanceWithin_l1 at h
 try dsimp only at h
 refine Ac<|Ab (Bn (i:=Q0) (j:=F1.1.length) rfl rfl)<|Aa<|Ak<|AQ rfl h (fun q3 h=>?_) (fun q3 h=>?_)
 refine Aq<|Ak<|Az<|Ac ?_
 obtain ⟨C2,c5,h⟩:=bi h
 have R4:=Tt c2 (Tt d2 (Tt v2 Z1))
 have z4:=Ap R2 R4
 obtain ⟨j6,v6,v4,x4,x6,W4,y4⟩:=Bm z4 c5
 obtain rfl:=op_TShare W4
 refine Ab (Bo 16 Q0 rfl v4 rfl rfl x4)<|Ab (AB rfl y4)<|Aj .plain rfl (Av zL G1) (fun Y6 k3 H3 Y3=>?_)
 refine AL (cs_TShare C2) H3 .hd (onesB rfl) (fun Z6 t2 Z3=>?_)
 refine Aa<|Ac<|Ab (AB rfl (t2.memA .hd)) ?_
 obtain ⟨g0,j5,h⟩:=bi h
 refine Bf (.tuple #[.agg ((cs_TShare g0.1)).toArray,vI g0.2]) body42 rfl (e1 rfl) (fun w9 hw9=>share_Abs_c n _ w9 (t2.hL0 hL hw9) C2 j5) rfl<|Ae rfl<|Ab (Af rfl rfl)<|Ab (Af rfl rfl)<|Aj .plain rfl (Av zL t2) (fun b7 p3 I3 b4=>?_)
 refine AL (cs_TShare g0.1) I3 .hd (onesB rfl) (fun P5 Z0 c4=>?_)
 refine Ag rfl<|Aa<|Ak<|Ac<|Ae rfl<|Ab (FV.neq (i:=g0.2) (j:=0) rfl rfl)<|Aa<|MX.ifn rfl h (fun t3 h=>?_) (fun t3 h=>?_)
 refine Aq<|Ac<|Ab (AB rfl (Z0.memA (.tl (.tl .hd))))<|Ab (AB rfl (Z0.memA .hd)) ?_
 obtain ⟨Y5,k5,h⟩:=bi h
 refine Bf (.bool Y5) body43 rfl (e2 rfl rfl) (fun w9 hw9=>wardmotelaw22_atMost_c n _ w9 (Z0.hL0 hL hw9) (⟨(q0,s0,t0,u0,v0,x0,y0,z0),(A0,B0,C0,D0,E0,F0,G0,H0)⟩:TShare) g0.1 k5) rfl<|Aa<|MX.join (α:=UInt64 × UInt64 × UInt64 × UInt64 × UInt64 × UInt64 × UInt64 × UInt64 × UInt64 × UInt64 × UInt64 × UInt64 × UInt64 × UInt64 × UInt64 × UInt64) (fun ⟨d1,g1,j1,k1,p1,q1,s1,u1,v1,x1,y1,z1,A1,B1,C1,D1⟩=>[(5,vP R0),(7,Y2),(8,vI I0.2),(9,vP U0),(12,vP V0),(56,Z2),(57,vI ((F1.1.length:Nat):Int)),(58,vI ((Q0:Nat):Int))]) (fun ⟨d1,g1,j1,k1,p1,q1,s1,u1,v1,x1,y1,z1,A1,B1,C1,D1⟩ B2=>St w B2 [.cells V0 [vU d1,vU g1,vU j1,vU k1,vU p1,vU q1,vU s1,vU u1,vU v1,vU x1,vU y1,vU z1,vU A1,vU B1,vU C1,vU D1] 37,.cells U0 [vI d0.fGroups,vI d0.fParties,vI d0.fLevels,E1] 44,.cells R0 [.int .i16 a2.fN.toInt,.int .u8 (a2.fD.toNat:Int)] 32]∧Tr P5 [.cells p3 (cs_TShare g0.1) 37,.cells k3 (cs_TShare C2) 37,.cells V0 [vU q0,vU s0,vU t0,vU u0,vU v0,vU x0,vU y0,vU z0,vU A0,vU B0,vU C0,vU D0,vU E0,vU F0,vU G0,vU H0] 37,.cells U0 [vI d0.fGroups,vI d0.fParties,vI d0.fLevels,E1] 44,.cells R0 [.int .i16 a2.fN.toInt,.int .u8 (a2.fD.toNat:Int)] 32] B2 [.cells V0 [vU d1,vU g1,vU j1,vU k1,vU p1,vU q1,vU s1,vU u1,vU v1,vU x1,vU y1,vU z1,vU A1,vU B1,vU C1,vU D1] 37,.cells U0 [vI d0.fGroups,vI d0.fParties,vI d0.fLevels,E1] 44,.cells R0 [.int .i16 a2.fN.toInt,.int .u8 (a2.fD.toNat:Int)] 32]) (fun ⟨d1,g1,j1,k1,p1,q1,s1,u1,v1,x1,y1,z1,A1,B1,C1,D1⟩=>(d1,g1,j1,k1,p1,q1,s1,u1,v1,x1,y1,z1,A1,B1,C1,D1)) h ?_ ?_
 rintro ⟨d1,g1,j1,k1,p1,q1,s1,u1,v1,x1,y1,z1,A1,B1,C1,D1⟩ B2 ⟨J3,d4⟩ h
 try dsimp only at h
 refine AC<|Ar<|Ab (Br (i:=Q0) (j:=1) rfl rfl (by omega))<|Ae rfl<|Aa ?_
 have U4:=Tt Y3 (Tt Z3 (Tt b4 (Tt c4 d4)))
 exact D3 (Q0 + 1,d1,g1,j1,k1,p1,q1,s1,u1,v1,x1,y1,z1,A1,B1,C1,D1) _ _ ⟨rfl,rfl,rfl,rfl,rfl,rfl,rfl,rfl,trivial⟩ ⟨J3,(Tt Z1 U4)⟩ h
 intro p6 D2 h
 try dsimp only at h
 refine MX.ifb rfl h (fun u3 h=>?_) (fun u3 h=>?_)
 refine Ar<|Ab (AB rfl (Z0.memA .hd))<|AL (cs_TShare g0.1) Z0 (.tl (.tl .hd)) (onesB rfl) (fun d7 K3 g4=>?_)
 refine Aa ?_
 obtain ⟨M3,j4⟩:=AH K3 (.one (.tl (.tl .hd)) (.one (.tl (.tl .hd)) (.one (.tl (.tl .hd)) .done)))
 exact D2 (g0.1.fN.1,g0.1.fN.2.1,g0.1.fN.2.2.1,g0.1.fN.2.2.2.1,g0.1.fN.2.2.2.2.1,g0.1.fN.2.2.2.2.2.1,g0.1.fN.2.2.2.2.2.2.1,g0.1.fN.2.2.2.2.2.2.2,g0.1.fD.1,g0.1.fD.2.1,g0.1.fD.2.2.1,g0.1.fD.2.2.2.1,g0.1.fD.2.2.2.2.1,g0.1.fD.2.2.2.2.2.1,g0.1.fD.2.2.2.2.2.2.1,g0.1.fD.2.2.2.2.2.2.2) _ _ ⟨rfl,rfl,rfl,rfl,rfl,rfl,rfl,rfl,trivial⟩ ⟨M3,(Tt g4 j4)⟩ h
 refine Aq ?_
 obtain ⟨P3,k4⟩:=AH Z0 (.one (.tl (.tl .hd)) (.one (.tl (.tl .hd)) (.one (.tl (.tl .hd)) .done)))
 exact D2 (q0,s0,t0,u0,v0,x0,y0,z0,A0,B0,C0,D0,E0,F0,G0,H0) _ _ ⟨rfl,rfl,rfl,rfl,rfl,rfl,rfl,rfl,trivial⟩ ⟨P3,k4⟩ h
 refine Ac<|Ag rfl<|Aa ?_
 have h:=thn_inl h J2
 refine Al rfl<|Bc hb0 Tryz.func8 rfl rfl ?_
 cases h
 exact Z0.gv
 refine Be rfl ?_
 have h:=thn_inr h J2
 try dsimp only at h
 refine Ac<|Ab (AB rfl (G1.memA (.tl .hd)))<|Ae rfl<|Ae rfl ?_
 obtain ⟨P1,p5,h⟩:=bi h
 have z2:=Tt M1 (Tt b2 (Tt y2 (Tt c2 (Tt d2 (Tt v2 Z1)))))
 have A4:=Ap c1 z2
 have B4:=Ap Y0 (Tt K1 z2)
 refine Bf (.tuple #[.agg ((cs_TShare P1.1)).toArray,vI P1.2]) body33 rfl (e3 rfl rfl rfl) (fun w9 hw9=>balance_Spread_c n _ w9 (G1.hL0 hL hw9) d0 (G1.kd A4 hw9) I0.1 (G1.kd B4 hw9) I0.2 p5) rfl<|Ae rfl<|Ab (Af rfl rfl)<|Ab (Af rfl rfl)<|Aj .plain rfl (Av zL G1) (fun g7 t6 Q3 E2=>?_)
 refine AL (cs_TShare P1.1) Q3 .hd (onesB rfl) (fun j7 Y1 F2=>?_)
 refine Ag rfl<|Aa<|Ak<|AF 7 tb8_19 (by kernel_rfl) (by kernel_rfl) (by kernel_rfl) (fun P0 I1=>?_)
 obtain ⟨b3,q5,h⟩:=bi h
 refine BI 0 1 444 (.agg ((cs_TShare b3)).toArray) P0 rfl I1 body23 rfl (e2 rfl rfl) (fun w9 hw9=>wardmotelaw22_of_c n _ w9 (Y1.hL0 hL hw9) (2:Int) (1:Int) q5) rfl<|AD 1 3 444 P0 rfl I1 (AB rfl (Y1.memA (.tl .hd))) rfl ?_
 obtain ⟨Q1,s5,h⟩:=bi h
 refine BI 2 7 440 (.tuple #[.agg ((cs_TShare Q1.1)).toArray,vI Q1.2]) P0 rfl I1 body25 rfl (e2 rfl rfl) (fun w9 hw9=>share_Mul_c n _ w9 (Y1.hL0 hL hw9) b3 (⟨(q0,s0,t0,u0,v0,x0,y0,z0),(A0,B0,C0,D0,E0,F0,G0,H0)⟩:TShare) s5) rfl<|Ah 3 15 P0 rfl I1 (fun _=>Ai rfl) rfl<|Ah 4 31 P0 rfl I1 (fun _=>Af rfl rfl) rfl<|Ah 5 63 P0 rfl I1 (fun _=>Af rfl rfl) rfl<|RD.nu 6 127 P0 rfl .plain rfl (Av zL Y1) (fun k7 u6 R3 G2=>?_)
 refine Bt 7 255 P0 rfl rfl .plain (Ay (news:=(cs_TShare Q1.1)) R3 .hd rfl rfl rfl rfl rfl rfl (onesB rfl)) (fun Q5 K0 H2=>?_)
 refine Bs (i:=8) (readyD_ok P0 (by kernel_rfl)) (RO.val (m' :=511) (stepC_ok P0 (by kernel_rfl)) rfl .plain rfl (AJ rfl) ?_)
 refine AE (doneD_ok P0 (by kernel_rfl))<|Ak<|AF 53 tb8_20 (by kernel_rfl) (by kernel_rfl) (by kernel_rfl) (fun b0 c0=>?_)
 refine Ah 0 1 b0 rfl c0 (fun _=>Ai rfl) rfl<|Ah 1 3 b0 rfl c0 (fun _=>FV.eql (i:=P1.2) (j:=0) rfl rfl) rfl<|Ah 2 7 b0 rfl c0 (fun _=>Ai rfl) rfl<|RD.ifd (s:=89) rfl h (fun v3 h=>?_) (fun v3 h=>?_)
 refine BA 3 15 b0 rfl c0 (.yes rfl rfl) (fun _=>Ai rfl) rfl<|BA 4 31 b0 rfl c0 (.yes rfl rfl) (fun _=>FV.eql (i:=Q1.2) (j:=0) rfl rfl) rfl<|Ah 5 63 b0 rfl c0 (fun _=>BB rfl rfl) rfl<|Ah 6 127 b0 rfl c0 (fun _=>Ai rfl) rfl<|RD.ifd (s:=93) rfl h (fun x3 h=>?_) (fun x3 h=>?_)
 refine RD.val (i:=7) (m' :=255) (W:=9007199254740480) (takeC_ok b0 (by kernel_rfl)) rfl c0 (.yes rfl rfl) (AB rfl (K0.memA (.tl .hd))) rfl<|RD.val (i:=8) (m' :=511) (W:=9007199254740480) (takeC_ok b0 (by kernel_rfl)) rfl c0 (.yes rfl rfl) (AB rfl (K0.memA .hd)) rfl ?_
 obtain ⟨Z5,t5,h⟩:=bi h
 refine Bx (i:=9) (m' :=1023) (W:=9007199254739968) (takeC_ok b0 (by kernel_rfl)) rfl c0 (v:=.bool Z5) (fst:=[]) (cap:=[]) (.yes rfl rfl) body43 rfl (e2 rfl rfl) (fun w9 hw9=>wardmotelaw22_atMost_c n _ w9 (K0.hL0 hL hw9) P1.1 Q1.1 t5) rfl<|Ah 10 2047 b0 rfl c0 (fun _=>BB rfl rfl) rfl<|Ah 11 4095 b0 rfl c0 (fun _=>Ai rfl) rfl<|RD.ifb (s:=98) rfl h (fun y3 h=>?_) (fun y3 h=>?_)
 refine RD.val (i:=12) (m' :=8191) (W:=9007199254265856) (takeC_ok b0 (by kernel_rfl)) rfl c0 (.yes rfl rfl) (AB rfl (K0.memA (.tl (.tl .hd)))) rfl ?_
 obtain ⟨J1,u5,h⟩:=bi h
 refine Bx (i:=13) (m' :=16383) (W:=9007199254265856) (takeC_ok b0 (by kernel_rfl)) rfl c0 (v:=.agg ((cs_TShare J1)).toArray) (fst:=[]) (cap:=[]) (.yes rfl rfl) body23 rfl (e2 rfl rfl) (fun w9 hw9=>wardmotelaw22_of_c n _ w9 (K0.hL0 hL hw9) (0:Int) (1:Int) u5) rfl<|BA 14 32767 b0 rfl c0 (.yes rfl rfl) (fun _=>FV.eqlV (v:=.agg #[vU q0,vU s0,vU t0,vU u0,vU v0,vU x0,vU y0,vU z0,vU A0,vU B0,vU C0,vU D0,vU E0,vU F0,vU G0,vU H0]) (u:=.agg ((cs_TShare J1)).toArray) rfl rfl (eqlD_37 (⟨(q0,s0,t0,u0,v0,x0,y0,z0),(A0,B0,C0,D0,E0,F0,G0,H0)⟩:TShare) J1)) rfl<|RD.val (i:=16) (m' :=98303) (W:=9007199253692416) (takeC_ok b0 (by kernel_rfl)) rfl c0 (.yes rfl rfl) (AB rfl (K0.memA (.tl (.tl (.tl .hd))))) rfl<|BA 17 229375 b0 rfl c0 (.yes rfl rfl) (fun _=>Ai rfl) rfl<|BA 18 491519 b0 rfl c0 (.yes rfl rfl) (fun _=>Ai rfl) rfl<|Bi 15 524287 b0 rfl (.yes rfl rfl) body38 rfl (e1 rfl) (fun w9 hw9=>Calls.gives (wardmotelaw22_truth_c n _ w9 (K0.hL hL hw9) (decide ((⟨(q0,s0,t0,u0,v0,x0,y0,z0),(A0,B0,C0,D0,E0,F0,G0,H0)⟩:TShare) = J1))) fun (w8:World) (u8:Value) ⟨b0_,hu_,s_⟩=>(⟨b0_,hu_,s_.from hw9⟩:∃ R1:Nat,u8 = Value.func (.func 92) #[] #[vP R1]∧St Q5 w8 [.cells R1 [.bool (decide ((⟨(q0,s0,t0,u0,v0,x0,y0,z0),(A0,B0,C0,D0,E0,F0,G0,H0)⟩:TShare) = J1))] 4])) rfl (fun R5 K6 C6 ⟨R1,X4,U2⟩=>?_)
 subst X4
 have J0:=mk_push1 K0 U2
 have I2:=mk_tr1 K0 U2
 obtain ⟨c3,v5,h⟩:=bi h
 refine Bx (i:=19) (m' :=1048575) (W:=9007199253692416) (takeC_ok b0 (by kernel_rfl)) rfl c0 (v:=.agg ((cs_TShare c3)).toArray) (fst:=[]) (cap:=[]) (.yes rfl rfl) body23 rfl (e2 rfl rfl) (fun w9 hw9=>wardmotelaw22_of_c n _ w9 (J0.hL0 hL hw9) (0:Int) (1:Int) v5) rfl ?_
 obtain ⟨j2,x5,h⟩:=bi h
 have g2:=Tt z2 (Tt E2 (Tt F2 (Tt G2 (Tt H2 I2))))
 have C4:=Ap c1 g2
 have D4:=Ap Y0 (Tt K1 g2)
 refine Bx (i:=20) (m' :=2097151) (W:=9007199252643840) (takeC_ok b0 (by kernel_rfl)) rfl c0 (v:=.tuple #[.bool j2.1,vI j2.2]) (fst:=[]) (cap:=[]) (.yes rfl rfl) body15 rfl (e4 rfl rfl rfl rfl) (fun w9 hw9=>balance_Within_c n _ w9 (J0.hL0 hL hw9) d0 (J0.kd C4 hw9) I0.1 (J0.kd D4 hw9) I0.2 c3 x5) rfl<|BA 21 4194303 b0 rfl c0 (.yes rfl rfl) (fun _=>Af rfl rfl) rfl<|BA 22 8388607 b0 rfl c0 (.yes rfl rfl) (fun _=>Af rfl rfl) rfl ?_
 obtain ⟨b6,z5,h⟩:=bi h
 refine Bx (i:=23) (m' :=16777215) (W:=9007199237963776) (takeC_ok b0 (by kernel_rfl)) rfl c0 (v:=.bool b6) (fst:=[]) (cap:=[vP R1]) (.yes rfl rfl) body92 rfl (e2 rfl rfl) (fun w9 hw9=>wardmotelaw22_truth_1_c n _ w9 (J0.hL0 hL hw9) j2.1 j2.2 (decide ((⟨(q0,s0,t0,u0,v0,x0,y0,z0),(A0,B0,C0,D0,E0,F0,G0,H0)⟩:TShare) = J1)) (fun j9 v9 h9=>hw9.cell0 ((J0.memA .hd) j9 v9 h9)) z5) rfl<|Ah 24 33554431 b0 rfl c0 (fun _=>BB rfl rfl) rfl<|Ah 25 67108863 b0 rfl c0 (fun _=>Ai rfl) rfl<|RD.ifb (s:=112) rfl h (fun z3 h=>?_) (fun z3 h=>?_)
 refine RD.val (i:=26) (m' :=134217727) (W:=9007166505615360) (takeC_ok b0 (by kernel_rfl)) rfl c0 (.yes rfl rfl) (AB rfl (J0.memA (.tl (.tl (.tl .hd))))) rfl<|RD.val (i:=27) (m' :=268435455) (W:=9007166774050816) (takeC_ok b0 (by kernel_rfl)) rfl c0 (.yes rfl rfl) (AB rfl (J0.memA (.tl (.tl (.tl (.tl (.tl .hd))))))) rfl ?_
 obtain ⟨d3,A5,h⟩:=bi h
 refine Bx (i:=28) (m' :=536870911) (W:=9007166505615360) (takeC_ok b0 (by kernel_rfl)) rfl c0 (v:=.agg ((cs_TShare d3)).toArray) (fst:=[]) (cap:=[]) (.yes rfl rfl) body11 rfl (e1 rfl) (fun w9 hw9=>wardmoteref22_Part_Unit_c n _ w9 (J0.hL0 hL hw9) a2 A5) rfl ?_
 obtain ⟨k2,B5,h⟩:=bi h
 refine Bx (i:=29) (m' :=1073741823) (W:=9007165968744448) (takeC_ok b0 (by kernel_rfl)) rfl c0 (v:=.bool k2) (fst:=[]) (cap:=[]) (.yes rfl rfl) body43 rfl (e2 rfl rfl) (fun w9 hw9=>wardmotelaw22_atMost_c n _ w9 (J0.hL0 hL hw9) (⟨(q0,s0,t0,u0,v0,x0,y0,z0),(A0,B0,C0,D0,E0,F0,G0,H0)⟩:TShare) d3 B5) rfl<|RD.val (i:=31) (m' :=3221225471) (W:=9007130535264256) (takeC_ok b0 (by kernel_rfl)) rfl c0 (.yes rfl rfl) (AB rfl (J0.memA (.tl (.tl (.tl (.tl .hd)))))) rfl<|BA 32 7516192767 b0 rfl c0 (.yes rfl rfl) (fun _=>Ai rfl) rfl<|BA 33 16106127359 b0 rfl c0 (.yes rfl rfl) (fun _=>Ai rfl) rfl<|RD.val (i:=34) (m' :=33285996543) (W:=9007164895002624) (takeC_ok b0 (by kernel_rfl)) rfl c0 (.yes rfl rfl) (AB rfl (J0.memA (.tl (.tl (.tl (.tl (.tl .hd))))))) rfl<|Bi 30 34359738367 b0 rfl (.yes rfl rfl) body38 rfl (e1 rfl) (fun w9 hw9=>Calls.gives (wardmotelaw22_truth_c n _ w9 (J0.hL hL hw9) k2) fun (w8:World) (u8:Value) ⟨b0_,hu_,s_⟩=>(⟨b0_,hu_,s_.from hw9⟩:∃ U1:Nat,u8 = Value.func (.func 92) #[] #[vP U1]∧St R5 w8 [.cells U1 [.bool k2] 4])) rfl (fun U5 M6 D6 ⟨U1,Y4,V2⟩=>?_)
 subst Y4
 have M0:=mk_push1 J0 V2
 have x2:=mk_tr1 J0 V2
 obtain ⟨g3,C5,h⟩:=bi h
 refine Bx (i:=35) (m' :=68719476735) (W:=9007130535264256) (takeC_ok b0 (by kernel_rfl)) rfl c0 (v:=.agg ((cs_TShare g3)).toArray) (fst:=[]) (cap:=[]) (.yes rfl rfl) body11 rfl (e1 rfl) (fun w9 hw9=>wardmoteref22_Part_Unit_c n _ w9 (M0.hL0 hL hw9) a2 C5) rfl ?_
 obtain ⟨p2,D5,h⟩:=bi h
 have E4:=Ap c1 (Tt g2 x2)
 have V4:=Tt Q2 (Tt y2 (Tt c2 (Tt d2 (Tt v2 (Tt Z1 (Tt E2 (Tt F2 (Tt G2 (Tt H2 (Tt I2 x2))))))))))
 have F4:=Ap Y0 V4
 refine Bx (i:=36) (m' :=137438953471) (W:=9007061815787520) (takeC_ok b0 (by kernel_rfl)) rfl c0 (v:=.tuple #[.bool p2.1,vI p2.2]) (fst:=[]) (cap:=[]) (.yes rfl rfl) body15 rfl (e4 rfl rfl rfl rfl) (fun w9 hw9=>balance_Within_c n _ w9 (M0.hL0 hL hw9) d0 (M0.kd E4 hw9) I0.1 (M0.kd F4 hw9) I0.2 g3 D5) rfl<|BA 37 274877906943 b0 rfl c0 (.yes rfl rfl) (fun _=>Af rfl rfl) rfl<|BA 38 549755813887 b0 rfl c0 (.yes rfl rfl) (fun _=>Af rfl rfl) rfl ?_
 obtain ⟨c6,E5,h⟩:=bi h
 refine Bx (i:=39) (m' :=1099511627775) (W:=9006099743113216) (takeC_ok b0 (by kernel_rfl)) rfl c0 (v:=.bool c6) (fst:=[]) (cap:=[vP U1]) (.yes rfl rfl) body92 rfl (e2 rfl rfl) (fun w9 hw9=>wardmotelaw22_truth_1_c n _ w9 (M0.hL0 hL hw9) p2.1 p2.2 k2 (fun j9 v9 h9=>hw9.cell0 ((M0.memA .hd) j9 v9 h9)) E5) rfl<|Ah 40 2199023255551 b0 rfl c0 (fun _=>BB rfl rfl) rfl<|Ah 41 4398046511103 b0 rfl c0 (fun _=>Ai rfl) rfl<|RD.ifb (s:=128) rfl h (fun A3 h=>?_) (fun A3 h=>?_)
 refine RD.val (i:=43) (m' :=13194139533311) (W:=8866461766385664) (takeC_ok b0 (by kernel_rfl)) rfl c0 (.yes rfl rfl) (AB rfl (M0.memA (.tl (.tl (.tl (.tl (.tl .hd))))))) rfl<|BA 44 30786325577727 b0 rfl c0 (.yes rfl rfl) (fun _=>Ai rfl) rfl<|BA 45 65970697666559 b0 rfl c0 (.yes rfl rfl) (fun _=>Ai rfl) rfl<|RD.val (i:=46) (m' :=136339441844223) (W:=8866461766385664) (takeC_ok b0 (by kernel_rfl)) rfl c0 (.yes rfl rfl) (AB rfl (M0.memA (.tl (.tl (.tl (.tl .hd)))))) rfl<|Bi 42 140737488355327 b0 rfl (.yes rfl rfl) body38 rfl (e1 rfl) (fun w9 hw9=>Calls.gives (wardmotelaw22_truth_c n _ w9 (M0.hL hL hw9) true) fun (w8:World) (u8:Value) ⟨b0_,hu_,s_⟩=>(⟨b0_,hu_,s_.from hw9⟩:∃ V1:Nat,u8 = Value.func (.func 92) #[] #[vP V1]∧St U5 w8 [.cells V1 [.bool true] 4])) rfl (fun q7 Q6 E6 ⟨V1,Z4,W2⟩=>?_)
 subst Z4
 have H1:=mk_push1 M0 W2
 have p4:=mk_tr1 M0 W2
 obtain ⟨q2,F5,h⟩:=bi h
 have M2:=Tt g2 (Tt x2 p4)
 have G4:=Ap c1 M2
 have H4:=Ap Y0 (Tt K1 M2)
 refine Bx (i:=47) (m' :=281474976710655) (W:=8725724278030336) (takeC_ok b0 (by kernel_rfl)) rfl c0 (v:=.tuple #[.bool q2.1,vI q2.2]) (fst:=[]) (cap:=[]) (.yes rfl rfl) body15 rfl (e4 rfl rfl rfl rfl) (fun w9 hw9=>balance_Within_c n _ w9 (H1.hL0 hL hw9) d0 (H1.kd G4 hw9) I0.1 (H1.kd H4 hw9) I0.2 (⟨(q0,s0,t0,u0,v0,x0,y0,z0),(A0,B0,C0,D0,E0,F0,G0,H0)⟩:TShare) F5) rfl<|BA 48 562949953421311 b0 rfl c0 (.yes rfl rfl) (fun _=>Af rfl rfl) rfl<|BA 49 1125899906842623 b0 rfl c0 (.yes rfl rfl) (fun _=>Af rfl rfl) rfl ?_
 obtain ⟨d6,G5,h⟩:=bi h
 refine Bx (i:=50) (m' :=2251799813685247) (W:=6755399441055744) (takeC_ok b0 (by kernel_rfl)) rfl c0 (v:=.bool d6) (fst:=[]) (cap:=[vP V1]) (.yes rfl rfl) body92 rfl (e2 rfl rfl) (fun w9 hw9=>wardmotelaw22_truth_1_c n _ w9 (H1.hL0 hL hw9) q2.1 q2.2 true (fun j9 v9 h9=>hw9.cell0 ((H1.memA .hd) j9 v9 h9)) G5) rfl<|Ah 51 4503599627370495 b0 rfl c0 (fun _=>BB rfl rfl) rfl<|Ah 52 9007199254740991 b0 rfl c0 (fun _=>AJ rfl) rfl<|AE (doneD_ok b0 (by kernel_rfl))<|Al rfl<|Bc hb0 Tryz.func8 rfl rfl ?_
 cases h
 exact H1.gv
 refine Bk 2251799813685247 2 [(42,129),(43,130),(44,131),(45,132),(46,133),(47,134),(48,135),(49,136),(50,137)] (F:=[(128,false)]) (U:=[]) b0 c0 (.cons rfl .nil) .nil ?_
 dsimp only [offS,List.map]
 refine Ah 51 4503599627370495 b0 rfl c0 (fun _=>AV rfl rfl) rfl<|Ah 52 9007199254740991 b0 rfl c0 (fun _=>AJ rfl) rfl<|AE (doneD_ok b0 (by kernel_rfl))<|Al rfl<|Bc hb0 Tryz.func8 rfl rfl ?_
 cases h
 exact M0.gv
 refine Bk 1099511627775 13 [(26,113),(27,114),(28,115),(29,116),(30,117),(31,118),(32,119),(33,120),(34,121),(35,122),(36,123),(37,124),(38,125),(39,126)] (F:=[(112,false)]) (U:=[]) b0 c0 (.cons rfl .nil) .nil ?_
 dsimp only [offS,List.map]
 refine Ah 40 2199023255551 b0 rfl c0 (fun _=>AV rfl rfl) rfl<|Ah 41 4398046511103 b0 rfl c0 (fun _=>Ai rfl) rfl<|Bk 2251799813685247 2 [(42,129),(43,130),(44,131),(45,132),(46,133),(47,134),(48,135),(49,136),(50,137)] (F:=[(128,false)]) (U:=[]) b0 c0 (.cons rfl .nil) .nil ?_
 dsimp only [offS,List.map]
 refine Ah 51 4503599627370495 b0 rfl c0 (fun _=>AV rfl rfl) rfl<|Ah 52 9007199254740991 b0 rfl c0 (fun _=>AJ rfl) rfl<|AE (doneD_ok b0 (by kernel_rfl))<|Al rfl<|Bc hb0 Tryz.func8 rfl rfl ?_
 cases h
 exact J0.gv
 refine Bk 16777215 29 [(12,99),(13,100),(14,101),(15,102),(16,103),(17,104),(18,105),(19,106),(20,107),(21,108),(22,109),(23,110)] (F:=[(98,false)]) (U:=[]) b0 c0 (.cons rfl .nil) .nil ?_
 dsimp only [offS,List.map]
 refine Ah 24 33554431 b0 rfl c0 (fun _=>AV rfl rfl) rfl<|Ah 25 67108863 b0 rfl c0 (fun _=>Ai rfl) rfl<|Bk 1099511627775 13 [(26,113),(27,114),(28,115),(29,116),(30,117),(31,118),(32,119),(33,120),(34,121),(35,122),(36,123),(37,124),(38,125),(39,126)] (F:=[(112,false)]) (U:=[]) b0 c0 (.cons rfl .nil) .nil ?_
 dsimp only [offS,List.map]
 refine Ah 40 2199023255551 b0 rfl c0 (fun _=>AV rfl rfl) rfl<|Ah 41 4398046511103 b0 rfl c0 (fun _=>Ai rfl) rfl<|Bk 2251799813685247 2 [(42,129),(43,130),(44,131),(45,132),(46,133),(47,134),(48,135),(49,136),(50,137)] (F:=[(128,false)]) (U:=[]) b0 c0 (.cons rfl .nil) .nil ?_
 dsimp only [offS,List.map]
 refine Ah 51 4503599627370495 b0 rfl c0 (fun _=>AV rfl rfl) rfl<|Ah 52 9007199254740991 b0 rfl c0 (fun _=>AJ rfl) rfl<|AE (doneD_ok b0 (by kernel_rfl))<|Al rfl<|Bc hb0 Tryz.func8 rfl rfl ?_
 cases h
 exact K0.gv
 refine Bk 1023 43 [(7,94),(8,95),(9,96)] (F:=[(93,false)]) (U:=[]) b0 c0 (.cons rfl .nil) .nil ?_
 dsimp only [offS,List.map]
 refine Ah 10 2047 b0 rfl c0 (fun _=>AV rfl rfl) rfl<|Ah 11 4095 b0 rfl c0 (fun _=>Ai rfl) rfl<|Bk 16777215 29 [(12,99),(13,100),(14,101),(15,102),(16,103),(17,104),(18,105),(19,106),(20,107),(21,108),(22,109),(23,110)] (F:=[(98,false)]) (U:=[]) b0 c0 (.cons rfl .nil) .nil ?_
 dsimp only [offS,List.map]
 refine Ah 24 33554431 b0 rfl c0 (fun _=>AV rfl rfl) rfl<|Ah 25 67108863 b0 rfl c0 (fun _=>Ai rfl) rfl<|Bk 1099511627775 13 [(26,113),(27,114),(28,115),(29,116),(30,117),(31,118),(32,119),(33,120),(34,121),(35,122),(36,123),(37,124),(38,125),(39,126)] (F:=[(112,false)]) (U:=[]) b0 c0 (.cons rfl .nil) .nil ?_
 dsimp only [offS,List.map]
 refine Ah 40 2199023255551 b0 rfl c0 (fun _=>AV rfl rfl) rfl<|Ah 41 4398046511103 b0 rfl c0 (fun _=>Ai rfl) rfl<|Bk 2251799813685247 2 [(42,129),(43,130),(44,131),(45,132),(46,133),(47,134),(48,135),(49,136),(50,137)] (F:=[(128,false)]) (U:=[]) b0 c0 (.cons rfl .nil) .nil ?_
 dsimp only [offS,List.map]
 refine Ah 51 4503599627370495 b0 rfl c0 (fun _=>AV rfl rfl) rfl<|Ah 52 9007199254740991 b0 rfl c0 (fun _=>AJ rfl) rfl<|AE (doneD_ok b0 (by kernel_rfl))<|Al rfl<|Bc hb0 Tryz.func8 rfl rfl ?_
 cases h
 exact K0.gv
 refine Bk 31 48 [(3,90),(4,91)] (F:=[(89,false)]) (U:=[]) b0 c0 (.cons rfl .nil) .nil ?_
 dsimp only [offS,List.map]
 refine Ah 5 63 b0 rfl c0 (fun _=>AV rfl rfl) rfl<|Ah 6 127 b0 rfl c0 (fun _=>Ai rfl) rfl<|Bk 1023 43 [(7,94),(8,95),(9,96)] (F:=[(93,false)]) (U:=[]) b0 c0 (.cons rfl .nil) .nil ?_
 dsimp only [offS,List.map]
 refine Ah 10 2047 b0 rfl c0 (fun _=>AV rfl rfl) rfl<|Ah 11 4095 b0 rfl c0 (fun _=>Ai rfl) rfl<|Bk 16777215 29 [(12,99),(13,100),(14,101),(15,102),(16,103),(17,104),(18,105),(19,106),(20,107),(21,108),(22,109),(23,110)] (F:=[(98,false)]) (U:=[]) b0 c0 (.cons rfl .nil) .nil ?_
 dsimp only [offS,List.map]
 refine Ah 24 33554431 b0 rfl c0 (fun _=>AV rfl rfl) rfl<|Ah 25 67108863 b0 rfl c0 (fun _=>Ai rfl) rfl<|Bk 1099511627775 13 [(26,113),(27,114),(28,115),(29,116),(30,117),(31,118),(32,119),(33,120),(34,121),(35,122),(36,123),(37,124),(38,125),(39,126)] (F:=[(112,false)]) (U:=[]) b0 c0 (.cons rfl .nil) .nil ?_
 dsimp only [offS,List.map]
 refine Ah 40 2199023255551 b0 rfl c0 (fun _=>AV rfl rfl) rfl<|Ah 41 4398046511103 b0 rfl c0 (fun _=>Ai rfl) rfl<|Bk 2251799813685247 2 [(42,129),(43,130),(44,131),(45,132),(46,133),(47,134),(48,135),(49,136),(50,137)] (F:=[(128,false)]) (U:=[]) b0 c0 (.cons rfl .nil) .nil ?_
 dsimp only [offS,List.map]
 refine Ah 51 4503599627370495 b0 rfl c0 (fun _=>AV rfl rfl) rfl<|Ah 52 9007199254740991 b0 rfl c0 (fun _=>AJ rfl) rfl<|AE (doneD_ok b0 (by kernel_rfl))<|Al rfl<|Bc hb0 Tryz.func8 rfl rfl ?_
 cases h
 exact K0.gv
 refine Ak<|AF 15 tb8_7 (by kernel_rfl) (by kernel_rfl) (by kernel_rfl) (fun j0 p0=>?_)
 refine Ah 0 1 j0 rfl p0 (fun _=>Ai rfl) rfl<|Ah 1 3 j0 rfl p0 (fun _=>FV.eql (i:=F1.2) (j:=7) rfl rfl) rfl<|Ah 2 7 j0 rfl p0 (fun _=>Ai rfl) rfl<|RD.ifd (s:=43) rfl h (fun B3 h=>?_) (fun B3 h=>?_)
 refine RD.val (i:=4) (m' :=23) (W:=32256) (takeC_ok j0 (by kernel_rfl)) rfl p0 (.yes rfl rfl) (AB rfl (X0.memA .hd)) rfl<|BA 5 55 j0 rfl p0 (.yes rfl rfl) (fun _=>Ai rfl) rfl<|BA 6 119 j0 rfl p0 (.yes rfl rfl) (fun _=>Ai rfl) rfl<|RD.val (i:=7) (m' :=247) (W:=32512) (takeC_ok j0 (by kernel_rfl)) rfl p0 (.yes rfl rfl) (AB rfl (X0.memA (.tl .hd))) rfl<|Bi 3 255 j0 rfl (.yes rfl rfl) body38 rfl (e1 rfl) (fun w9 hw9=>Calls.gives (wardmotelaw22_truth_c n _ w9 (X0.hL hL hw9) true) fun (w8:World) (u8:Value) ⟨b0_,hu_,s_⟩=>(⟨b0_,hu_,s_.from hw9⟩:∃ W1:Nat,u8 = Value.func (.func 92) #[] #[vP W1]∧St V5 w8 [.cells W1 [.bool true] 4])) rfl (fun s7 R6 F6 ⟨W1,b5,X2⟩=>?_)
 subst b5
 have b1:=mk_push1 X0 X2
 have q4:=mk_tr1 X0 X2
 obtain ⟨j3,H5,h⟩:=bi h
 refine Bx (i:=8) (m' :=511) (W:=32256) (takeC_ok j0 (by kernel_rfl)) rfl p0 (v:=.agg ((cs_TShare j3)).toArray) (fst:=[]) (cap:=[]) (.yes rfl rfl) body11 rfl (e1 rfl) (fun w9 hw9=>wardmoteref22_Part_Unit_c n _ w9 (b1.hL0 hL hw9) a2 H5) rfl ?_
 obtain ⟨s2,I5,h⟩:=bi h
 have P2:=Tt M1 (Tt b2 (Tt y2 q4))
 have I4:=Ap c1 P2
 have J4:=Ap Y0 (Tt K1 P2)
 refine Bx (i:=9) (m' :=1023) (W:=31744) (takeC_ok j0 (by kernel_rfl)) rfl p0 (v:=.tuple #[.bool s2.1,vI s2.2]) (fst:=[]) (cap:=[]) (.yes rfl rfl) body15 rfl (e4 rfl rfl rfl rfl) (fun w9 hw9=>balance_Within_c n _ w9 (b1.hL0 hL hw9) d0 (b1.kd I4 hw9) I0.1 (b1.kd J4 hw9) I0.2 j3 I5) rfl<|BA 10 2047 j0 rfl p0 (.yes rfl rfl) (fun _=>Af rfl rfl) rfl<|BA 11 4095 j0 rfl p0 (.yes rfl rfl) (fun _=>Af rfl rfl) rfl ?_
 obtain ⟨g6,J5,h⟩:=bi h
 refine Bx (i:=12) (m' :=8191) (W:=24576) (takeC_ok j0 (by kernel_rfl)) rfl p0 (v:=.bool g6) (fst:=[]) (cap:=[vP W1]) (.yes rfl rfl) body92 rfl (e2 rfl rfl) (fun w9 hw9=>wardmotelaw22_truth_1_c n _ w9 (b1.hL0 hL hw9) s2.1 s2.2 true (fun j9 v9 h9=>hw9.cell0 ((b1.memA .hd) j9 v9 h9)) J5) rfl<|Ah 13 16383 j0 rfl p0 (fun _=>BB rfl rfl) rfl<|Ah 14 32767 j0 rfl p0 (fun _=>AJ rfl) rfl<|AE (doneD_ok j0 (by kernel_rfl))<|Al rfl<|Bc hb0 Tryz.func8 rfl rfl ?_
 cases h
 exact b1.gv
 refine Bk 8191 2 [(3,44),(4,45),(5,46),(6,47),(7,48),(8,49),(9,50),(10,51),(11,52),(12,53)] (F:=[(43,false)]) (U:=[]) j0 p0 (.cons rfl .nil) .nil ?_
 dsimp only [offS,List.map]
 refine Ah 13 16383 j0 rfl p0 (fun _=>AV rfl rfl) rfl<|Ah 14 32767 j0 rfl p0 (fun _=>AJ rfl) rfl<|AE (doneD_ok j0 (by kernel_rfl))<|Al rfl<|Bc hb0 Tryz.func8 rfl rfl ?_
 cases h
 exact X0.gv
 refine Ac<|Ag rfl<|Aa<|Al rfl<|Bc hb0 Tryz.func8 rfl rfl ?_
 cases h
 exact W0.gv
end Go.Proofs.YtmhgoecnjleagaaGreatDoor
