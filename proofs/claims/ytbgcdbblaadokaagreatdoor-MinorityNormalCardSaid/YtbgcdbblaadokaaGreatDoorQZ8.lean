/- Functions of the program, and what they give: part 8. -/
import Derived.Test.YtbgcdbblaadokaaGreatDoorQZ7
namespace Go.Proofs.YtbgcdbblaadokaaGreatDoor
open Go Go.RowKit
set_option maxRecDepth 4000
set_option maxHeartbeats 4000000

def tb3_20:List (Nat × Nat × Nat):=[(0,9671406556917033397649408,32768),(0,19342813113834066795298816,32768),(0,38685626227668133590597632,524288),(4,77371252455336267181195264,38685626227668133590597632),(0,154742504910672534362390528,2048),(24,309485009821345068724781056,232113757366008801543585792),(32,618970019642690137449562112,309485009821345068724781056),(0,1237940039285380274899124224,1048576),(192,2475880078570760549798248448,1856910058928070412348686336),(0,4951760157141521099596496896,8192),(770,9903520314283042199192993792,7446983048826115716190044160),(0,19807040628566084398385987584,32768),(0,39614081257132168796771975168,4096),(0,79228162514264337593543950336,524288),(8192,158456325028528675187087900672,79228162514264337593543950336),(0,316912650057057350374175801344,1024),(49152,633825300114114700748351602688,475368975085586025561263702016),(65536,1267650600228229401496703205376,633825300114114700748351602688),(0,2535301200456458802993406410752,524288),(262144,5070602400912917605986812821504,2535301200456458802993406410752),(656384,10141204801825835211973625643008,6338253001141147007483516026880),(1054720,20282409603651670423947251286016,10200625923711533465168783605760),(2098177,40564819207303340847894502572032,20292322795372510383179841929216),(0,8388608,0),(16777215,0,40564819207303340847894510960640)]
def tb3_21:List (Nat × Nat × Nat):=[(0,81129638414606681695789005144064,32768),(0,162259276829213363391578010288128,65536),(0,324518553658426726783156020576256,32768),(0,649037107316853453566312041152512,524288),(8,1298074214633706907132624082305024,649037107316853453566312041152512),(16,2596148429267413814265248164610048,1298074214633706907132624082305024),(0,5192296858534827628530496329220096,8388608),(100,10384593717069655257060992658440192,8112963841460668169578900514406400),(131,20769187434139310514121985316880384,10627982632313475302148359673872384),(511,0,20769187434139310514121985316945920)]
def tb3_22:List (Nat × Nat × Nat):=[(0,41538374868278621028243970633760768,32768),(0,83076749736557242056487941267521536,131072),(0,166153499473114484112975882535043072,32768),(0,332306998946228968225951765070086144,524288),(8,664613997892457936451903530140172288,332306998946228968225951765070086144),(0,1329227995784915872903807060280344576,1024),(48,2658455991569831745807614120560689152,1993841993677373809355710590420516864),(64,5316911983139663491615228241121378304,2658455991569831745807614120560689152),(128,10633823966279326983230456482242756608,5316911983139663491615228241121378304),(0,21267647932558653966460912964485513216,8388608),(772,42535295865117307932921825928971026432,32067625398311095433804345329263312896),(1027,85070591730234615865843651857942052864,42659910989722143796006557840872308736),(4095,0,85070591730234615865843651857942183936)]
def tb3_24:List (Nat × Nat × Nat):=[(0,340282366920938463463374607431768211456,32768),(1,680564733841876926926749214863536422912,340282366920938463463374607431768211456),(2,1361129467683753853853498429727072845824,680564733841876926926749214863536422912),(4,2722258935367507707706996859454145691648,1361129467683753853853498429727072845824),(8,5444517870735015415413993718908291383296,2722258935367507707706996859454145691648),(16,10889035741470030830827987437816582766592,5444517870735015415413993718908291383296),(32,21778071482940061661655974875633165533184,10889035741470030830827987437816582832128),(32,43556142965880123323311949751266331066368,10889035741470030830827987437816582766592),(224,87112285931760246646623899502532662132736,76223250190290215815795912064716079366144),(288,174224571863520493293247799005065324265472,98001321673230277477451886940349244899328),(640,348449143727040986586495598010130648530944,174224571863520493293247799005065324265472),(1024,696898287454081973172991196020261297061888,348449143727040986586495598010130648662016),(1024,1393796574908163946345982392040522594123776,348449143727040986586495598010130648530944),(7168,2787593149816327892691964784081045188247552,2439144006089286906105469186070914539716608),(9216,5575186299632655785383929568162090376495104,3136042293543368879278460382091175836778496),(32767,256,5575186299632655785383929568162090376495104)]
theorem body6:bodyB Tryz.prog 6 = true:=by kernel_rfl
theorem body7:bodyB Tryz.prog 7 = true:=by kernel_rfl
theorem body10:bodyB Tryz.prog 10 = true:=by kernel_rfl
theorem body11:bodyB Tryz.prog 11 = true:=by kernel_rfl
theorem body12:bodyB Tryz.prog 12 = true:=by kernel_rfl
def wardmotelaw29_MinorityNormal_l1 (_n:Nat) (c0:TUnit) (g0:Int × Nat → Option Int):Int × Nat → Option Int
  | (d0,b0)=>(if b0 < c0.fL.length then (c0.fL[b0]?).bind fun k0=>(chk (d0 + k0)).bind fun j0=>g0 (j0,b0 + 1) else some d0)
def wardmotelaw29_MinorityNormal_l2 (n:Nat) (d1:TRoll) (a3:UInt8) (g1:TShare × TShare × Int) (a2:UInt8) (b1:Nat × UInt64 × UInt64 × UInt64 × UInt64 × UInt64 × UInt64 × UInt64 × UInt64 × UInt64 × UInt64 × UInt64 × UInt64 × UInt64 × UInt64 × UInt64 × UInt64 × UInt64 × UInt64 × UInt64 × UInt64 × UInt64 × UInt64 × UInt64 × UInt64 × UInt64 × UInt64 × UInt64 × UInt64 × UInt64 × UInt64 × UInt64 × UInt64 → Option (UInt64 × UInt64 × UInt64 × UInt64 × UInt64 × UInt64 × UInt64 × UInt64 × UInt64 × UInt64 × UInt64 × UInt64 × UInt64 × UInt64 × UInt64 × UInt64 × UInt64 × UInt64 × UInt64 × UInt64 × UInt64 × UInt64 × UInt64 × UInt64 × UInt64 × UInt64 × UInt64 × UInt64 × UInt64 × UInt64 × UInt64 × UInt64)):Nat × UInt64 × UInt64 × UInt64 × UInt64 × UInt64 × UInt64 × UInt64 × UInt64 × UInt64 × UInt64 × UInt64 × UInt64 × UInt64 × UInt64 × UInt64 × UInt64 × UInt64 × UInt64 × UInt64 × UInt64 × UInt64 × UInt64 × UInt64 × UInt64 × UInt64 × UInt64 × UInt64 × UInt64 × UInt64 × UInt64 × UInt64 × UInt64 → Option (UInt64 × UInt64 × UInt64 × UInt64 × UInt64 × UInt64 × UInt64 × UInt64 × UInt64 × UInt64 × UInt64 × UInt64 × UInt64 × UInt64 × UInt64 × UInt64 × UInt64 × UInt64 × UInt64 × UInt64 × UInt64 × UInt64 × UInt64 × UInt64 × UInt64 × UInt64 × UInt64 × UInt64 × UInt64 × UInt64 × UInt64 × UInt64)
  | (g0,j0,k0,p0,q0,s0,t0,u0,v0,x0,y0,z0,A0,B0,C0,D0,E0,F0,G0,H0,I0,J0,K0,M0,P0,Q0,R0,U0,V0,W0,X0,Y0,Z0)=>(if g0 < d1.ft.length then (d1.ft[g0]?).bind fun d0=>Option.bind (loopF (wardmotelaw29_MinorityNormal_l1 n d0) n (0,0)) (fun k1=>(if d0.fE = 0 then b1 (g0 + 1,j0,k0,p0,q0,s0,t0,u0,v0,x0,y0,z0,A0,B0,C0,D0,E0,F0,G0,H0,I0,J0,K0,M0,P0,Q0,R0,U0,V0,W0,X0,Y0,Z0) else (if k1 = 0 then b1 (g0 + 1,j0,k0,p0,q0,s0,t0,u0,v0,x0,y0,z0,A0,B0,C0,D0,E0,F0,G0,H0,I0,J0,K0,M0,P0,Q0,R0,U0,V0,W0,X0,Y0,Z0) else (d0.fL[(a3 % (3:UInt8)).toNat]?).bind fun p1=>(wardmotelaw29_of_p n p1 k1).bind fun q1=>(wardmotelaw29_calc_sub_p n (⟨false⟩:Tcalc) q1 g1.2.1).bind fun s1=>(d0.fj[(a2 % (2:UInt8)).toNat]?).bind fun c1=>(wardmotelaw29_of_p n c1 d0.fE).bind fun t1=>(wardmotelaw29_calc_mul_p n (⟨false⟩:Tcalc) g1.1 t1).bind fun u1=>(wardmotelaw29_calc_sub_p n (⟨false⟩:Tcalc) s1 u1).bind fun j1=>(wardmotelaw29_of_p n d0.fE (1:Int)).bind fun v1=>(wardmotelaw29_calc_mul_p n (⟨false⟩:Tcalc) v1 j1).bind fun x1=>(wardmotelaw29_calc_add_p n (⟨false⟩:Tcalc) (⟨(F0,G0,H0,I0,J0,K0,M0,P0),(Q0,R0,U0,V0,W0,X0,Y0,Z0)⟩:TShare) x1).bind fun b0=>(wardmotelaw29_of_p n c1 (1:Int)).bind fun y1=>(wardmotelaw29_calc_mul_p n (⟨false⟩:Tcalc) y1 j1).bind fun z1=>(wardmotelaw29_calc_add_p n (⟨false⟩:Tcalc) (⟨(j0,k0,p0,q0,s0,t0,u0,v0),(x0,y0,z0,A0,B0,C0,D0,E0)⟩:TShare) z1).bind fun c0=>b1 (g0 + 1,c0.fN.1,c0.fN.2.1,c0.fN.2.2.1,c0.fN.2.2.2.1,c0.fN.2.2.2.2.1,c0.fN.2.2.2.2.2.1,c0.fN.2.2.2.2.2.2.1,c0.fN.2.2.2.2.2.2.2,c0.fD.1,c0.fD.2.1,c0.fD.2.2.1,c0.fD.2.2.2.1,c0.fD.2.2.2.2.1,c0.fD.2.2.2.2.2.1,c0.fD.2.2.2.2.2.2.1,c0.fD.2.2.2.2.2.2.2,b0.fN.1,b0.fN.2.1,b0.fN.2.2.1,b0.fN.2.2.2.1,b0.fN.2.2.2.2.1,b0.fN.2.2.2.2.2.1,b0.fN.2.2.2.2.2.2.1,b0.fN.2.2.2.2.2.2.2,b0.fD.1,b0.fD.2.1,b0.fD.2.2.1,b0.fD.2.2.2.1,b0.fD.2.2.2.2.1,b0.fD.2.2.2.2.2.1,b0.fD.2.2.2.2.2.2.1,b0.fD.2.2.2.2.2.2.2)))) else some (F0,G0,H0,I0,J0,K0,M0,P0,Q0,R0,U0,V0,W0,X0,Y0,Z0,j0,k0,p0,q0,s0,t0,u0,v0,x0,y0,z0,A0,B0,C0,D0,E0))
def wardmotelaw29_MinorityNormal_p (n:Nat) (a0:UInt8) (a1:TDraft) (a2:UInt8) (a3:UInt8):Option Bool:=
  (wardmotelaw29_works_p n).bind fun b1=>(if b1 = true then (wardmoteref22_Draft_Full_p n a1 ((1 + ((a0 % (8:UInt8)).toNat):Nat):Int)).bind fun g0=>(minority_Line_p n g0 (((a2 % (2:UInt8)).toNat:Nat):Int) (((a3 % (3:UInt8)).toNat:Nat):Int)).bind fun d0=>(if d0.2.2 = 0 then (wardmotelaw29_of_p n (0:Int) (1:Int)).bind fun b0=>(wardmotelaw29_of_p n (0:Int) (1:Int)).bind fun c0=>Option.bind (loopF (wardmotelaw29_MinorityNormal_l2 n g0 a3 d0 a2) n (0,c0.fN.1,c0.fN.2.1,c0.fN.2.2.1,c0.fN.2.2.2.1,c0.fN.2.2.2.2.1,c0.fN.2.2.2.2.2.1,c0.fN.2.2.2.2.2.2.1,c0.fN.2.2.2.2.2.2.2,c0.fD.1,c0.fD.2.1,c0.fD.2.2.1,c0.fD.2.2.2.1,c0.fD.2.2.2.2.1,c0.fD.2.2.2.2.2.1,c0.fD.2.2.2.2.2.2.1,c0.fD.2.2.2.2.2.2.2,b0.fN.1,b0.fN.2.1,b0.fN.2.2.1,b0.fN.2.2.2.1,b0.fN.2.2.2.2.1,b0.fN.2.2.2.2.2.1,b0.fN.2.2.2.2.2.2.1,b0.fN.2.2.2.2.2.2.2,b0.fD.1,b0.fD.2.1,b0.fD.2.2.1,b0.fD.2.2.2.1,b0.fD.2.2.2.2.1,b0.fD.2.2.2.2.2.1,b0.fD.2.2.2.2.2.2.1,b0.fD.2.2.2.2.2.2.2)) (fun (F0,G0,H0,I0,J0,K0,M0,P0,Q0,R0,U0,V0,W0,X0,Y0,Z0,j0,k0,p0,q0,s0,t0,u0,v0,x0,y0,z0,A0,B0,C0,D0,E0)=>(wardmotelaw29_of_p n (0:Int) (1:Int)).bind fun c1=>(if (⟨(F0,G0,H0,I0,J0,K0,M0,P0),(Q0,R0,U0,V0,W0,X0,Y0,Z0)⟩:TShare) = c1 then (wardmotelaw29_of_p n (0:Int) (1:Int)).bind fun d1=>some (decide ((⟨(j0,k0,p0,q0,s0,t0,u0,v0),(x0,y0,z0,A0,B0,C0,D0,E0)⟩:TShare) = d1)) else some false)) else (if d0.2.2 = 7 then some true else some (decide (d0.2.2 = 6)))) else some false)
theorem wardmotelaw29_MinorityNormal_c (n:Nat) (L:List Nat) (w:World) (hL:∀ b ∈ L,b < w.heap.size) (a0:UInt8) (a1:TDraft) {v1_4:Value} (h1_4:Rep.R w L [v1_4] a1.fNums) (a2:UInt8) (a3:UInt8)  {r:Bool} (h:wardmotelaw29_MinorityNormal_p n a0 a1 a2 a3 = some r) :
    Calls Tryz.prog 3 #[.int .u8 (a0.toNat:Int),.agg #[.int .u8 (a1.fj.toNat:Int),.int .u8 (a1.fe.toNat:Int),.int .u8 (a1.fl.toNat:Int),.int .u8 (a1.fu.toNat:Int),v1_4],.int .u8 (a2.toNat:Int),.int .u8 (a3.toNat:Int)] w (Gives w fun _ u=>u = .bool r):=by
 unfold wardmotelaw29_MinorityNormal_p at h
 have hS0:=Ax w
 refine AE Tryz.func3 rfl rfl rfl (fun _ cs0 hb0=>?_)
 refine Ac<|Ai .plain rfl (Ap hS0 rfl rfl) (fun c7 A6 K1 M6=>?_)
 refine Ah rfl<|Aa<|Aj<|Ac ?_
 obtain ⟨q6,H5,h⟩:=bi h
 refine Bc (.bool q6) body6 rfl evs_nil (fun w9 hw9=>wardmotelaw29_works_c n _ w9 (K1.hL0 hL hw9)  H5) rfl<|Ab (FV.not rfl)<|Aa<|MX.ifnb rfl h (fun d3 h=>?_) (fun d3 h=>?_)
 refine Av<|Ac<|Ab (AB rfl (K1.memA .hd))<|Ae rfl<|Ab (FV.rem8 (a:=a0) (b:=(8:UInt8)) rfl rfl (by decide)) ?_
 have V6:=(a0 % (8:UInt8)).toNat_lt
 refine Ab (FV.convN (i:=(a0 % (8:UInt8)).toNat) Tryz.underlying5 Tryz.underlying3 rfl (by omega))<|Ab (Bm (i:=1) (j:=(a0 % (8:UInt8)).toNat) rfl rfl (by omega)) ?_
 obtain ⟨x0,I5,h⟩:=bi h
 refine Bu (fst:=[]) (cap:=[]) .plain body7 rfl (e2 rfl rfl) (fun w9 hw9=>own_gives (b0:=w.heap.size) (wardmoteref22_Draft_Full_c n _ w9 (K1.hL hL hw9) a1 (K1.km h1_4 hw9) ((1 + ((a0 % (8:UInt8)).toNat):Nat):Int) I5) hw9 (Nat.le_trans K1.ag.size hw9.size)) rfl (fun d7 b7 Q6 ⟨E1,Q1,D5,K2,t4⟩=>?_)
 subst D5
 have A2:=own_push K1 K2
 have P6:=own_tr K1 K2
 have F2:=AF (cs:=Q1) (xs:=(x0.ft:List TUnit)) A2 L (own_cells t4)
 refine Ai .plain rfl (Au [vI 0,vI 0,vI 0,vN] A2) (fun g7 B6 B2 D2=>?_)
 refine AM [vI x0.fj,vI x0.fe,vI x0.fl,E1] B2 .hd (o4 rfl rfl rfl (St.o1 (α:=TUnit) B2 (.tl .hd))) (fun j7 X1 E2=>?_)
 refine Aa<|Ac<|Ae rfl<|Ab (FV.rem8 (a:=a2) (b:=(2:UInt8)) rfl rfl (by decide)) ?_
 have W6:=(a2 % (2:UInt8)).toNat_lt
 refine Ab (FV.convN (i:=(a2 % (2:UInt8)).toNat) Tryz.underlying5 Tryz.underlying3 rfl (by omega))<|Ae rfl<|Ab (FV.rem8 (a:=a3) (b:=(3:UInt8)) rfl rfl (by decide)) ?_
 have X6:=(a3 % (3:UInt8)).toNat_lt
 refine Ab (FV.convN (i:=(a3 % (3:UInt8)).toNat) Tryz.underlying5 Tryz.underlying3 rfl (by omega))<|Ah rfl<|Ah rfl<|Aa<|Ac<|Ab (AB rfl (X1.memA .hd))<|Ae rfl<|Ae rfl ?_
 obtain ⟨g0,J5,h⟩:=bi h
 have M4:=AQ F2 (Tt D2 E2)
 refine Bc (.tuple #[.agg ((cs_TShare g0.1)).toArray,.agg ((cs_TShare g0.2.1)).toArray,vI g0.2.2]) body8 rfl (e3 rfl rfl rfl) (fun w9 hw9=>minority_Line_c n _ w9 (X1.hL0 hL hw9) x0 (Ar (St.lend (α:=TUnit) (L:=L) X1 (.tl .hd) M4 hL) hw9) (((a2 % (2:UInt8)).toNat:Nat):Int) (((a3 % (3:UInt8)).toNat:Nat):Int) J5) rfl<|Ae rfl<|Ab (Ag rfl rfl)<|Ab (Ag rfl rfl)<|Ab (Ag rfl rfl)<|Ai .plain rfl (Au zL X1) (fun k7 F1 B3 R3=>?_)
 refine Ai .plain rfl (Au zL B3) (fun p7 G1 C3 U3=>?_)
 refine AM (cs_TShare g0.1) C3 (.tl .hd) (onesB rfl) (fun s7 E3 V3=>?_)
 refine AM (cs_TShare g0.2.1) E3 .hd (onesB rfl) (fun t7 p2 W3=>?_)
 refine Ah rfl<|Aa<|Aj<|Ac<|Ae rfl<|Ab (FV.neq (i:=g0.2.2) (j:=0) rfl rfl)<|Aa<|MX.ifn rfl h (fun q3 h=>?_) (fun q3 h=>?_)
 refine Av<|Ac<|Ab (AK (vs:=[]) (u:=.agg #[.bool false]) evs_nil (fun w9=>by kernel_rfl))<|Ai .plain rfl (Ap p2 rfl rfl) (fun u7 H1 q2 d4=>?_)
 refine Ah rfl<|Aa<|Ac ?_
 obtain ⟨q0,b6,h⟩:=bi h
 refine Bc (.agg ((cs_TShare q0)).toArray) body9 rfl (e2 rfl rfl) (fun w9 hw9=>wardmotelaw29_of_c n _ w9 (q2.hL0 hL hw9) (0:Int) (1:Int) b6) rfl ?_
 obtain ⟨s0,g6,h⟩:=bi h
 refine Bc (.agg ((cs_TShare s0)).toArray) body9 rfl (e2 rfl rfl) (fun w9 hw9=>wardmotelaw29_of_c n _ w9 (q2.hL0 hL hw9) (0:Int) (1:Int) g6) rfl<|Ai .plain rfl (Au zL q2) (fun A7 I1 K3 k4=>?_)
 refine Ai .plain rfl (Au zL K3) (fun B7 J1 M3 p4=>?_)
 refine AM (cs_TShare q0) M3 (.tl .hd) (onesB rfl) (fun C7 P3 q4=>?_)
 refine AM (cs_TShare s0) P3 .hd (onesB rfl) (fun p6 Y1 s4=>?_)
 refine Aa<|Aj<|Ac<|AW 3 rfl<|Ab (AJ rfl ((Y1.memA (.tl (.tl (.tl (.tl (.tl .hd)))))) 3 _ rfl)) ?_
 have U6:x0.ft.length ≤ 4294967296:=St.rowLe (α:=TUnit) Y1 (.tl (.tl (.tl (.tl (.tl (.tl .hd))))))
 obtain ⟨x6,J6,E4⟩:=St.rowV (α:=TUnit) Y1 (.tl (.tl (.tl (.tl (.tl (.tl .hd))))))
 refine Ab (FV.lenV Tryz.underlying26 rfl E4)<|Ae rfl<|Aa<|AA ?_
 obtain ⟨A3,Q3⟩:=AL Y1 (.one .hd (.one .hd (.one .hd (.one .hd (.one .hd (.one (.tl .hd) .done))))))
 obtain ⟨Y6,j5,F4⟩:=bind_in2 h
 refine Bp (α:=Nat × UInt64 × UInt64 × UInt64 × UInt64 × UInt64 × UInt64 × UInt64 × UInt64 × UInt64 × UInt64 × UInt64 × UInt64 × UInt64 × UInt64 × UInt64 × UInt64 × UInt64 × UInt64 × UInt64 × UInt64 × UInt64 × UInt64 × UInt64 × UInt64 × UInt64 × UInt64 × UInt64 × UInt64 × UInt64 × UInt64 × UInt64 × UInt64) (fun ⟨y0,A0,B0,C0,D0,E0,F0,G0,H0,I0,J0,K0,M0,P0,Q0,R0,U0,V0,W0,X0,Y0,Z0,b1,c1,d1,g1,j1,k1,p1,q1,s1,u1,v1⟩=>[(10,vI (((a2 % (2:UInt8)).toNat:Nat):Int)),(11,vI (((a3 % (3:UInt8)).toNat:Nat):Int)),(12,vP F1),(13,vP G1),(15,vP H1),(16,vP I1),(17,vP J1),(59,E1),(60,vI ((x0.ft.length:Nat):Int)),(61,vI ((y0:Nat):Int))]) (fun ⟨y0,A0,B0,C0,D0,E0,F0,G0,H0,I0,J0,K0,M0,P0,Q0,R0,U0,V0,W0,X0,Y0,Z0,b1,c1,d1,g1,j1,k1,p1,q1,s1,u1,v1⟩ v2=>St w v2 [.cells J1 [vU A0,vU B0,vU C0,vU D0,vU E0,vU F0,vU G0,vU H0,vU I0,vU J0,vU K0,vU M0,vU P0,vU Q0,vU R0,vU U0] 34,.cells I1 [vU V0,vU W0,vU X0,vU Y0,vU Z0,vU b1,vU c1,vU d1,vU g1,vU j1,vU k1,vU p1,vU q1,vU s1,vU u1,vU v1] 34,.cells H1 [.bool false] 40,.cells G1 (cs_TShare g0.2.1) 34,.cells F1 (cs_TShare g0.1) 34,.row w.heap.size 44 (Rep.size TUnit) E1 x0.ft.length Q1]∧Tr p6 [.cells J1 (cs_TShare s0) 34,.cells I1 (cs_TShare q0) 34,.cells H1 [.bool false] 40,.cells G1 (cs_TShare g0.2.1) 34,.cells F1 (cs_TShare g0.1) 34,.row w.heap.size 44 (Rep.size TUnit) E1 x0.ft.length Q1] v2 [.cells J1 [vU A0,vU B0,vU C0,vU D0,vU E0,vU F0,vU G0,vU H0,vU I0,vU J0,vU K0,vU M0,vU P0,vU Q0,vU R0,vU U0] 34,.cells I1 [vU V0,vU W0,vU X0,vU Y0,vU Z0,vU b1,vU c1,vU d1,vU g1,vU j1,vU k1,vU p1,vU q1,vU s1,vU u1,vU v1] 34,.cells H1 [.bool false] 40,.cells G1 (cs_TShare g0.2.1) 34,.cells F1 (cs_TShare g0.1) 34,.row w.heap.size 44 (Rep.size TUnit) E1 x0.ft.length Q1]) (fun ⟨y0,A0,B0,C0,D0,E0,F0,G0,H0,I0,J0,K0,M0,P0,Q0,R0,U0,V0,W0,X0,Y0,Z0,b1,c1,d1,g1,j1,k1,p1,q1,s1,u1,v1⟩=>(y0,A0,B0,C0,D0,E0,F0,G0,H0,I0,J0,K0,M0,P0,Q0,R0,U0,V0,W0,X0,Y0,Z0,b1,c1,d1,g1,j1,k1,p1,q1,s1,u1,v1)) (0,s0.fN.1,s0.fN.2.1,s0.fN.2.2.1,s0.fN.2.2.2.1,s0.fN.2.2.2.2.1,s0.fN.2.2.2.2.2.1,s0.fN.2.2.2.2.2.2.1,s0.fN.2.2.2.2.2.2.2,s0.fD.1,s0.fD.2.1,s0.fD.2.2.1,s0.fD.2.2.2.1,s0.fD.2.2.2.2.1,s0.fD.2.2.2.2.2.1,s0.fD.2.2.2.2.2.2.1,s0.fD.2.2.2.2.2.2.2,q0.fN.1,q0.fN.2.1,q0.fN.2.2.1,q0.fN.2.2.2.1,q0.fN.2.2.2.2.1,q0.fN.2.2.2.2.2.1,q0.fN.2.2.2.2.2.2.1,q0.fN.2.2.2.2.2.2.2,q0.fD.1,q0.fD.2.1,q0.fD.2.2.1,q0.fD.2.2.2.1,q0.fD.2.2.2.2.1,q0.fD.2.2.2.2.2.1,q0.fD.2.2.2.2.2.2.1,q0.fD.2.2.2.2.2.2.2) j5 ⟨rfl,rfl,rfl,rfl,rfl,rfl,rfl,rfl,rfl,rfl,trivial⟩ ⟨A3,Ba _ _⟩ ?_
 rintro y6 ⟨y0,A0,B0,C0,D0,E0,F0,G0,H0,I0,J0,K0,M0,P0,Q0,R0,U0,V0,W0,X0,Y0,Z0,b1,c1,d1,g1,j1,k1,p1,q1,s1,u1,v1⟩ v2 k2 ⟨z1,Z1⟩ h
 unfold wardmotelaw29_MinorityNormal_l2 at h
 try dsimp only at h
 refine Ac<|Ab (Bn (i:=y0) (j:=x0.ft.length) rfl rfl)<|Aa<|Aj<|AV rfl h (fun g3 h=>?_) (fun g3 h=>?_)
 refine Av<|Aj<|AA<|Ac ?_
 obtain ⟨p0,E5,h⟩:=bi h
 have p5:=Tt D2 (Tt E2 (Tt R3 (Tt U3 (Tt V3 (Tt W3 (Tt d4 (Tt k4 (Tt p4 (Tt q4 (Tt s4 (Tt Q3 Z1)))))))))))
 have Q4:=AQ F2 p5
 obtain ⟨b3,D6,s2,G2,K6,v5,P4⟩:=St.nth (α:=TUnit) z1 (.tl (.tl (.tl (.tl (.tl .hd))))) Q4 E5
 obtain ⟨c3,E6,u4⟩:=St.nthOwn (α:=TUnit) z1 (.tl (.tl (.tl (.tl (.tl .hd))))) G2
 obtain rfl:b3 = ⟨c3,0,none⟩:=by rw [u4] at s2; cases s2; rfl
 obtain ⟨c2,V1,d2,rfl,u2,b2,x5⟩:=op_TUnit v5
 refine Ab (Bx 6 y0 rfl s2 rfl rfl G2)<|Ab (AB rfl P4)<|Ai .plain rfl (Au [.string ⟨#[]⟩,vI 0,vN,vN,vN,.bool false] z1) (fun q7 W1 D3 M1=>?_)
 have R4:=Ay u2 M1
 have U4:=Ay b2 M1
 have V4:=Ay x5 M1
 refine AM [.string p0.fG,vI p0.fE,c2,V1,d2,.bool p0.fu] D3 .hd (o6 rfl rfl (AS R4) (AS U4) (AS V4) rfl) (fun k6 C2 R1=>?_)
 refine Aa<|Ac<|Ah rfl<|Aa<|Aj<|Ac<|AW 3 rfl<|AY rfl ((C2.memA .hd) 3 _ rfl) ?_
 have H2:=Ay b2 (Tt M1 R1)
 have R6:p0.fL.length ≤ 281474976710656:=Bh H2
 refine Ab (Bk (xs:=p0.fL) Tryz.underlying42 rfl H2)<|Ae rfl<|Aa<|AA ?_
 obtain ⟨Z6,k5,G4⟩:=bind_in2 h
 refine Bp (α:=Int × Nat) (fun ⟨P1,C1⟩=>[(10,vI (((a2 % (2:UInt8)).toNat:Nat):Int)),(11,vI (((a3 % (3:UInt8)).toNat:Nat):Int)),(12,vP F1),(13,vP G1),(15,vP H1),(16,vP I1),(17,vP J1),(59,E1),(60,vI ((x0.ft.length:Nat):Int)),(61,vI ((y0:Nat):Int)),(19,vP W1),(20,vI P1),(66,V1),(67,vI ((p0.fL.length:Nat):Int)),(68,vI ((C1:Nat):Int))]) (fun ⟨P1,C1⟩ x2=>St w x2 [.cells W1 [.string p0.fG,vI p0.fE,c2,V1,d2,.bool p0.fu] 44,.cells J1 [vU A0,vU B0,vU C0,vU D0,vU E0,vU F0,vU G0,vU H0,vU I0,vU J0,vU K0,vU M0,vU P0,vU Q0,vU R0,vU U0] 34,.cells I1 [vU V0,vU W0,vU X0,vU Y0,vU Z0,vU b1,vU c1,vU d1,vU g1,vU j1,vU k1,vU p1,vU q1,vU s1,vU u1,vU v1] 34,.cells H1 [.bool false] 40,.cells G1 (cs_TShare g0.2.1) 34,.cells F1 (cs_TShare g0.1) 34,.row w.heap.size 44 (Rep.size TUnit) E1 x0.ft.length Q1]∧Tr k6 [.cells W1 [.string p0.fG,vI p0.fE,c2,V1,d2,.bool p0.fu] 44,.cells J1 [vU A0,vU B0,vU C0,vU D0,vU E0,vU F0,vU G0,vU H0,vU I0,vU J0,vU K0,vU M0,vU P0,vU Q0,vU R0,vU U0] 34,.cells I1 [vU V0,vU W0,vU X0,vU Y0,vU Z0,vU b1,vU c1,vU d1,vU g1,vU j1,vU k1,vU p1,vU q1,vU s1,vU u1,vU v1] 34,.cells H1 [.bool false] 40,.cells G1 (cs_TShare g0.2.1) 34,.cells F1 (cs_TShare g0.1) 34,.row w.heap.size 44 (Rep.size TUnit) E1 x0.ft.length Q1] x2 [.cells W1 [.string p0.fG,vI p0.fE,c2,V1,d2,.bool p0.fu] 44,.cells J1 [vU A0,vU B0,vU C0,vU D0,vU E0,vU F0,vU G0,vU H0,vU I0,vU J0,vU K0,vU M0,vU P0,vU Q0,vU R0,vU U0] 34,.cells I1 [vU V0,vU W0,vU X0,vU Y0,vU Z0,vU b1,vU c1,vU d1,vU g1,vU j1,vU k1,vU p1,vU q1,vU s1,vU u1,vU v1] 34,.cells H1 [.bool false] 40,.cells G1 (cs_TShare g0.2.1) 34,.cells F1 (cs_TShare g0.1) 34,.row w.heap.size 44 (Rep.size TUnit) E1 x0.ft.length Q1]) (fun ⟨P1,C1⟩=>(P1,C1)) (0,0) k5 ⟨rfl,rfl,rfl,rfl,rfl,rfl,rfl,rfl,rfl,rfl,rfl,rfl,rfl,rfl,rfl,trivial⟩ ⟨C2,Ba _ _⟩ ?_
 rintro z6 ⟨P1,C1⟩ x2 z3 ⟨t0,U1⟩ h
 unfold wardmotelaw29_MinorityNormal_l1 at h
 try dsimp only at h
 refine Ac<|Ab (Bn (i:=C1) (j:=p0.fL.length) rfl rfl)<|Aa<|Aj<|AV rfl h (fun j3 h=>?_) (fun j3 h=>?_)
 refine Av<|Aj<|AA<|Ac ?_
 obtain ⟨M2,F5,h⟩:=bi h
 have q5:=Tt M1 (Tt R1 U1)
 have X4:=Ay b2 q5
 obtain ⟨s6,F6,v4,H4,u3,y5,W4⟩:=Bq X4 F5
 have x4:u3 = [vI M2]:=y5; subst x4
 refine Ab (Bx 1 C1 rfl v4 rfl rfl H4)<|AY rfl (W4 0 _ rfl)<|Ah rfl<|Aa<|Al<|Ae rfl<|Ae rfl ?_
 obtain ⟨j6,C5,h⟩:=bi h
 refine Ab (FV.addc (i:=P1) (j:=M2) rfl rfl C5)<|Ah rfl<|Aa<|AC<|Al<|Ab (Bm (i:=C1) (j:=1) rfl rfl (by omega))<|Ae rfl<|Aa ?_
 exact z3 (j6,C1 + 1) _ _ ⟨rfl,rfl,rfl,rfl,rfl,rfl,rfl,rfl,rfl,rfl,rfl,rfl,rfl,rfl,rfl,trivial⟩ ⟨t0,U1⟩ h
 refine Bf rfl ?_
 have h:=G4 _ h
 try dsimp only at h
 refine Aj<|Ac<|AW 1 rfl<|AY rfl ((t0.memA .hd) 1 _ rfl)<|Ab (FV.eql (i:=p0.fE) (j:=0) rfl rfl)<|Ae rfl<|RG.ifd (s:=79) rfl h (fun k3 h=>?_) (fun k3 h=>?_)
 refine AO<|AO<|RG.pt rfl rfl<|Aa<|Bd rfl<|Bf rfl<|Al<|Ab (Bm (i:=y0) (j:=1) rfl rfl (by omega))<|Ae rfl<|Aa ?_
 obtain ⟨F3,X3⟩:=AL t0 (.one (.tl .hd) (.one (.tl .hd) (.one (.tl .hd) (.one (.tl .hd) (.one (.tl .hd) (.one (.tl .hd) .done))))))
 have s5:=Tt M1 (Tt R1 (Tt U1 X3))
 exact k2 (y0 + 1,A0,B0,C0,D0,E0,F0,G0,H0,I0,J0,K0,M0,P0,Q0,R0,U0,V0,W0,X0,Y0,Z0,b1,c1,d1,g1,j1,k1,p1,q1,s1,u1,v1) _ _ ⟨rfl,rfl,rfl,rfl,rfl,rfl,rfl,rfl,rfl,rfl,trivial⟩ ⟨F3,(Tt Z1 s5)⟩ h
 refine AX (Ak rfl)<|AX (FV.eql (i:=P1) (j:=0) rfl rfl)<|RG.pf rfl rfl<|Aa<|AV rfl h (fun p3 h=>?_) (fun p3 h=>?_)
 refine Bf rfl<|Al<|Ab (Bm (i:=y0) (j:=1) rfl rfl (by omega))<|Ae rfl<|Aa ?_
 obtain ⟨G3,Y3⟩:=AL t0 (.one (.tl .hd) (.one (.tl .hd) (.one (.tl .hd) (.one (.tl .hd) (.one (.tl .hd) (.one (.tl .hd) .done))))))
 have t5:=Tt M1 (Tt R1 (Tt U1 Y3))
 exact k2 (y0 + 1,A0,B0,C0,D0,E0,F0,G0,H0,I0,J0,K0,M0,P0,Q0,R0,U0,V0,W0,X0,Y0,Z0,b1,c1,d1,g1,j1,k1,p1,q1,s1,u1,v1) _ _ ⟨rfl,rfl,rfl,rfl,rfl,rfl,rfl,rfl,rfl,rfl,trivial⟩ ⟨G3,(Tt Z1 t5)⟩ h
 refine Av<|Aj<|dt 24 tb3_20 (fun c0 d0=>?_)
 refine Af 0 1 c0 rfl d0 (fun _=>Ak rfl) rfl<|Af 1 3 c0 rfl d0 (fun _=>Ak rfl) rfl<|Af 2 7 c0 rfl d0 (fun _=>AP 3 rfl) rfl<|Az 3 15 24118624 c0 rfl d0 (AJ rfl ((t0.memA .hd) 3 _ rfl)) rfl<|Af 4 31 c0 rfl d0 (fun _=>Ak rfl) rfl ?_
 obtain ⟨P2,G5,h⟩:=bi h
 have t2:=Tt M1 (Tt R1 U1)
 have Z4:=Ay b2 t2
 obtain ⟨t6,G6,y4,I4,v3,z5,Y4⟩:=Bq Z4 G5
 have z4:v3 = [vI P2]:=z5; subst z4
 refine Af 5 63 c0 rfl d0 (fun _=>Bx 1 ((a3 % (3:UInt8)).toNat) rfl y4 rfl rfl I4) rfl<|Az 6 127 24118528 c0 rfl d0 (AJ rfl (Y4 0 _ rfl)) rfl<|Af 7 255 c0 rfl d0 (fun _=>Ak rfl) rfl ?_
 obtain ⟨Q2,K5,h⟩:=bi h
 refine Bw 8 511 24118272 (.agg ((cs_TShare Q2)).toArray) c0 rfl d0 body9 rfl (e2 rfl rfl) (fun w9 hw9=>wardmotelaw29_of_c n _ w9 (t0.hL0 hL hw9) P2 P1 K5) rfl<|Az 9 1023 24118272 c0 rfl d0 (AB rfl (t0.memA (.tl (.tl (.tl (.tl .hd)))))) rfl ?_
 obtain ⟨R2,M5,h⟩:=bi h
 refine Bw 10 2047 24117248 (.agg ((cs_TShare R2)).toArray) c0 rfl d0 body10 rfl (e3 rfl rfl rfl) (fun w9 hw9=>wardmotelaw29_calc_sub_c n _ w9 (t0.hL0 hL hw9) (⟨false⟩:Tcalc) (fun j9 v9 h9=>hw9.cell0 ((t0.memA (.tl (.tl (.tl .hd)))) j9 v9 h9)) Q2 g0.2.1 M5) rfl<|Af 11 4095 c0 rfl d0 (fun _=>Ak rfl) rfl<|Az 12 8191 23068672 c0 rfl d0 (AB rfl (t0.memA (.tl (.tl (.tl (.tl (.tl .hd))))))) rfl<|Af 13 16383 c0 rfl d0 (fun _=>AP 2 rfl) rfl<|Az 14 32767 24313856 c0 rfl d0 (AJ rfl ((t0.memA .hd) 2 _ rfl)) rfl<|Af 15 65535 c0 rfl d0 (fun _=>Ak rfl) rfl ?_
 obtain ⟨g2,J2,h⟩:=bi h
 have c5:=Ay u2 t2
 obtain ⟨u6,H6,A4,J4,x3,A5,b5⟩:=Bq c5 J2
 have B4:x3 = [vI g2]:=A5; subst B4
 refine Af 16 131071 c0 rfl d0 (fun _=>Bx 1 ((a2 % (2:UInt8)).toNat) rfl A4 rfl rfl J4) rfl<|Az 17 262143 24117248 c0 rfl d0 (AJ rfl (b5 0 _ rfl)) rfl<|Af 18 524287 c0 rfl d0 (fun _=>AP 1 rfl) rfl<|Az 19 1048575 24117248 c0 rfl d0 (AJ rfl ((t0.memA .hd) 1 _ rfl)) rfl ?_
 obtain ⟨U2,P5,h⟩:=bi h
 refine Bw 20 2097151 23068672 (.agg ((cs_TShare U2)).toArray) c0 rfl d0 body9 rfl (e2 rfl rfl) (fun w9 hw9=>wardmotelaw29_of_c n _ w9 (t0.hL0 hL hw9) g2 p0.fE P5) rfl ?_
 obtain ⟨V2,Q5,h⟩:=bi h
 refine Bw 21 4194303 20971520 (.agg ((cs_TShare V2)).toArray) c0 rfl d0 body11 rfl (e3 rfl rfl rfl) (fun w9 hw9=>wardmotelaw29_calc_mul_c n _ w9 (t0.hL0 hL hw9) (⟨false⟩:Tcalc) (fun j9 v9 h9=>hw9.cell0 ((t0.memA (.tl (.tl (.tl .hd)))) j9 v9 h9)) g0.1 U2 Q5) rfl ?_
 obtain ⟨j2,R5,h⟩:=bi h
 refine Bw 22 8388607 16777216 (.agg ((cs_TShare j2)).toArray) c0 rfl d0 body10 rfl (e3 rfl rfl rfl) (fun w9 hw9=>wardmotelaw29_calc_sub_c n _ w9 (t0.hL0 hL hw9) (⟨false⟩:Tcalc) (fun j9 v9 h9=>hw9.cell0 ((t0.memA (.tl (.tl (.tl .hd)))) j9 v9 h9)) R2 V2 R5) rfl<|RD.nu 23 16777215 c0 rfl .plain rfl (Au zL t0) (fun v7 C6 H3 Z3=>?_)
 refine Br 24 33554431 c0 rfl rfl .plain (Aw (news:=(cs_TShare j2)) H3 .hd rfl rfl rfl rfl rfl rfl (onesB rfl)) (fun x7 A1 b4=>?_)
 refine AI (dk c0)<|Aj<|dt 9 tb3_21 (fun y1 D1=>?_)
 refine Af 0 1 y1 rfl D1 (fun _=>Ak rfl) rfl<|Az 1 3 768 y1 rfl D1 (AB rfl (A1.memA (.tl (.tl (.tl .hd))))) rfl<|Af 2 7 y1 rfl D1 (fun _=>Ak rfl) rfl<|Af 3 15 y1 rfl D1 (fun _=>AP 1 rfl) rfl<|Az 4 31 928 y1 rfl D1 (AJ rfl ((A1.memA (.tl .hd)) 1 _ rfl)) rfl ?_
 obtain ⟨W2,U5,h⟩:=bi h
 refine Bw 5 63 896 (.agg ((cs_TShare W2)).toArray) y1 rfl D1 body9 rfl (e2 rfl rfl) (fun w9 hw9=>wardmotelaw29_of_c n _ w9 (A1.hL0 hL hw9) p0.fE (1:Int) U5) rfl<|Az 6 127 896 y1 rfl D1 (AB rfl (A1.memA .hd)) rfl ?_
 obtain ⟨X2,V5,h⟩:=bi h
 refine Bw 7 255 768 (.agg ((cs_TShare X2)).toArray) y1 rfl D1 body11 rfl (e3 rfl rfl rfl) (fun w9 hw9=>wardmotelaw29_calc_mul_c n _ w9 (A1.hL0 hL hw9) (⟨false⟩:Tcalc) (fun j9 v9 h9=>hw9.cell0 ((A1.memA (.tl (.tl (.tl (.tl .hd))))) j9 v9 h9)) W2 j2 V5) rfl ?_
 obtain ⟨u0,W5,h⟩:=bi h
 refine Bw 8 511 512 (.agg ((cs_TShare u0)).toArray) y1 rfl D1 body12 rfl (e3 rfl rfl rfl) (fun w9 hw9=>wardmotelaw29_calc_add_c n _ w9 (A1.hL0 hL hw9) (⟨false⟩:Tcalc) (fun j9 v9 h9=>hw9.cell0 ((A1.memA (.tl (.tl (.tl (.tl .hd))))) j9 v9 h9)) (⟨(V0,W0,X0,Y0,Z0,b1,c1,d1),(g1,j1,k1,p1,q1,s1,u1,v1)⟩:TShare) X2 W5) rfl<|Br 9 1023 y1 rfl rfl .plain (Aw (news:=(cs_TShare u0)) A1 (.tl (.tl (.tl .hd))) rfl rfl rfl rfl rfl rfl (onesB rfl)) (fun y7 B1 c4=>?_)
 refine AI (dk y1)<|dt 12 tb3_22 (fun z0 x1=>?_)
 refine Af 0 1 z0 rfl x1 (fun _=>Ak rfl) rfl<|Az 1 3 6144 z0 rfl x1 (AB rfl (B1.memA (.tl (.tl .hd)))) rfl<|Af 2 7 z0 rfl x1 (fun _=>Ak rfl) rfl<|Af 3 15 z0 rfl x1 (fun _=>AP 2 rfl) rfl<|Az 4 31 7616 z0 rfl x1 (AJ rfl ((B1.memA (.tl .hd)) 2 _ rfl)) rfl<|Af 5 63 z0 rfl x1 (fun _=>Ak rfl) rfl ?_
 have I2:=Tt t2 (Tt Z3 (Tt b4 c4))
 have g5:=Ay u2 I2
 obtain ⟨v6,I6,C4,K4,y3,B5,d5⟩:=Bq g5 J2
 have D4:y3 = [vI g2]:=B5; subst D4
 refine Af 6 127 z0 rfl x1 (fun _=>Bx 1 ((a2 % (2:UInt8)).toNat) rfl C4 rfl rfl K4) rfl<|Az 7 255 7424 z0 rfl x1 (AJ rfl (d5 0 _ rfl)) rfl ?_
 obtain ⟨Y2,X5,h⟩:=bi h
 refine Bw 8 511 7168 (.agg ((cs_TShare Y2)).toArray) z0 rfl x1 body9 rfl (e2 rfl rfl) (fun w9 hw9=>wardmotelaw29_of_c n _ w9 (B1.hL0 hL hw9) g2 (1:Int) X5) rfl<|Az 9 1023 7168 z0 rfl x1 (AB rfl (B1.memA .hd)) rfl ?_
 obtain ⟨Z2,Y5,h⟩:=bi h
 refine Bw 10 2047 6144 (.agg ((cs_TShare Z2)).toArray) z0 rfl x1 body11 rfl (e3 rfl rfl rfl) (fun w9 hw9=>wardmotelaw29_calc_mul_c n _ w9 (B1.hL0 hL hw9) (⟨false⟩:Tcalc) (fun j9 v9 h9=>hw9.cell0 ((B1.memA (.tl (.tl (.tl (.tl .hd))))) j9 v9 h9)) Y2 j2 Y5) rfl ?_
 obtain ⟨v0,Z5,h⟩:=bi h
 refine Bw 11 4095 4096 (.agg ((cs_TShare v0)).toArray) z0 rfl x1 body12 rfl (e3 rfl rfl rfl) (fun w9 hw9=>wardmotelaw29_calc_add_c n _ w9 (B1.hL0 hL hw9) (⟨false⟩:Tcalc) (fun j9 v9 h9=>hw9.cell0 ((B1.memA (.tl (.tl (.tl (.tl .hd))))) j9 v9 h9)) (⟨(A0,B0,C0,D0,E0,F0,G0,H0),(I0,J0,K0,M0,P0,Q0,R0,U0)⟩:TShare) Z2 Z5) rfl<|Br 12 8191 z0 rfl rfl .plain (Aw (news:=(cs_TShare v0)) B1 (.tl (.tl .hd)) rfl rfl rfl rfl rfl rfl (onesB rfl)) (fun z7 I3 g4=>?_)
 refine AI (dk z0)<|AC<|Al<|Ab (Bm (i:=y0) (j:=1) rfl rfl (by omega))<|Ae rfl<|Aa ?_
 obtain ⟨J3,j4⟩:=AL I3 (.one (.tl (.tl .hd)) (.one (.tl (.tl .hd)) (.one (.tl (.tl .hd)) (.one (.tl (.tl .hd)) (.one (.tl (.tl .hd)) (.one (.tl (.tl .hd)) .done))))))
 have u5:=Tt I2 (Tt g4 j4)
 exact k2 (y0 + 1,v0.fN.1,v0.fN.2.1,v0.fN.2.2.1,v0.fN.2.2.2.1,v0.fN.2.2.2.2.1,v0.fN.2.2.2.2.2.1,v0.fN.2.2.2.2.2.2.1,v0.fN.2.2.2.2.2.2.2,v0.fD.1,v0.fD.2.1,v0.fD.2.2.1,v0.fD.2.2.2.1,v0.fD.2.2.2.2.1,v0.fD.2.2.2.2.2.1,v0.fD.2.2.2.2.2.2.1,v0.fD.2.2.2.2.2.2.2,u0.fN.1,u0.fN.2.1,u0.fN.2.2.1,u0.fN.2.2.2.1,u0.fN.2.2.2.2.1,u0.fN.2.2.2.2.2.1,u0.fN.2.2.2.2.2.2.1,u0.fN.2.2.2.2.2.2.2,u0.fD.1,u0.fD.2.1,u0.fD.2.2.1,u0.fD.2.2.2.1,u0.fD.2.2.2.2.1,u0.fD.2.2.2.2.2.1,u0.fD.2.2.2.2.2.2.1,u0.fD.2.2.2.2.2.2.2) _ _ ⟨rfl,rfl,rfl,rfl,rfl,rfl,rfl,rfl,rfl,rfl,trivial⟩ ⟨J3,(Tt Z1 u5)⟩ h
 refine Bf rfl ?_
 have h:=F4 _ h
 try dsimp only at h
 refine Aj<|dt 16 tb3_24 (fun j0 k0=>?_)
 refine Af 0 1 j0 rfl k0 (fun _=>Ak rfl) rfl<|Af 1 3 j0 rfl k0 (fun _=>FV.nilCheck rfl) rfl<|Af 2 7 j0 rfl k0 (fun _=>AP 0 rfl) rfl<|Az 3 15 65520 j0 rfl k0 (AJ rfl ((z1.memA (.tl (.tl .hd))) 0 _ rfl)) rfl<|Af 4 31 j0 rfl k0 (fun _=>FV.not rfl) rfl<|Af 5 63 j0 rfl k0 (fun _=>Ak rfl) rfl<|RD.val (i:=6) (m' :=127) (W:=65280) (tk j0) rfl k0 (.yes rfl rfl) (AB rfl (z1.memA (.tl .hd))) rfl ?_
 obtain ⟨y2,c6,h⟩:=bi h
 refine RD.callq (i:=7) (m' :=255) (W:=65280) (tk j0) rfl k0 (v:=.agg ((cs_TShare y2)).toArray) (fst:=[]) (cap:=[]) (.yes rfl rfl) body9 rfl (e2 rfl rfl) (fun w9 hw9=>wardmotelaw29_of_c n _ w9 (z1.hL0 hL hw9) (0:Int) (1:Int) c6) rfl<|RD.vP 8 511 j0 rfl k0 (.yes rfl rfl) (fun _=>FV.eqlV (v:=.agg #[vU V0,vU W0,vU X0,vU Y0,vU Z0,vU b1,vU c1,vU d1,vU g1,vU j1,vU k1,vU p1,vU q1,vU s1,vU u1,vU v1]) (u:=.agg ((cs_TShare y2)).toArray) rfl rfl (eqlD_34 (⟨(V0,W0,X0,Y0,Z0,b1,c1,d1),(g1,j1,k1,p1,q1,s1,u1,v1)⟩:TShare) y2)) rfl<|Af 9 1023 j0 rfl k0 (fun _=>FV.pick_t rfl rfl) rfl<|Af 10 2047 j0 rfl k0 (fun _=>Ak rfl) rfl<|RD.ifd (s:=138) rfl h (fun s3 h=>?_) (fun s3 h=>?_)
 refine RD.val (i:=11) (m' :=4095) (W:=57344) (tk j0) rfl k0 (.yes rfl rfl) (AB rfl (z1.memA .hd)) rfl ?_
 obtain ⟨z2,d6,h⟩:=bi h
 refine RD.callq (i:=12) (m' :=8191) (W:=57344) (tk j0) rfl k0 (v:=.agg ((cs_TShare z2)).toArray) (fst:=[]) (cap:=[]) (.yes rfl rfl) body9 rfl (e2 rfl rfl) (fun w9 hw9=>wardmotelaw29_of_c n _ w9 (z1.hL0 hL hw9) (0:Int) (1:Int) d6) rfl<|RD.vP 13 16383 j0 rfl k0 (.yes rfl rfl) (fun _=>FV.eqlV (v:=.agg #[vU A0,vU B0,vU C0,vU D0,vU E0,vU F0,vU G0,vU H0,vU I0,vU J0,vU K0,vU M0,vU P0,vU Q0,vU R0,vU U0]) (u:=.agg ((cs_TShare z2)).toArray) rfl rfl (eqlD_34 (⟨(A0,B0,C0,D0,E0,F0,G0,H0),(I0,J0,K0,M0,P0,Q0,R0,U0)⟩:TShare) z2)) rfl<|Af 14 32767 j0 rfl k0 (fun _=>FV.pick_t rfl rfl) rfl<|Af 15 65535 j0 rfl k0 (fun _=>Bb rfl) rfl<|AI (dk j0)<|Ao rfl<|Bg hb0 Tryz.func3 rfl rfl ?_
 cases h
 exact z1.gv
 refine BB 16383 2 [(11,139),(12,140),(13,141)] (F:=[(138,false)]) (U:=[]) j0 k0 (.cons rfl .nil) .nil ?_
 dsimp only [offS,List.map]
 refine Af 14 32767 j0 rfl k0 (fun _=>Bj rfl rfl) rfl<|Af 15 65535 j0 rfl k0 (fun _=>Bb rfl) rfl<|AI (dk j0)<|Ao rfl<|Bg hb0 Tryz.func3 rfl rfl ?_
 cases h
 exact z1.gv
 refine Ac<|Ae rfl<|Ab (FV.eql (i:=g0.2.2) (j:=7) rfl rfl)<|Ae rfl<|RG.ifd (s:=50) rfl h (fun t3 h=>?_) (fun t3 h=>?_)
 refine AO<|AO<|RG.pt rfl rfl<|Ah rfl<|Aa<|Ao rfl<|Bg hb0 Tryz.func3 rfl rfl ?_
 cases h
 exact p2.gv
 refine AX (Ak rfl)<|AX (FV.eql (i:=g0.2.2) (j:=6) rfl rfl)<|RG.pf rfl rfl<|Ah rfl<|Aa<|Ao rfl<|Bg hb0 Tryz.func3 rfl rfl ?_
 cases h
 exact p2.gv
 refine Ac<|Ah rfl<|Aa<|Ao rfl<|Bg hb0 Tryz.func3 rfl rfl ?_
 cases h
 exact K1.gv
end Go.Proofs.YtbgcdbblaadokaaGreatDoor
