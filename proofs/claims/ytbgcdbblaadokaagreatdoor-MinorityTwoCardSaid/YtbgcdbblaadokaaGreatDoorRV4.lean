/- Functions of the program, and what they give: part 4. -/
import Derived.Test.YtbgcdbblaadokaaGreatDoorRV3
namespace Go.Proofs.YtbgcdbblaadokaaGreatDoor
open Go Go.RowKit
set_option maxRecDepth 4000
set_option maxHeartbeats 4000000

structure Tsums where
  fw:Int
  fx:Int
  fy:TShare
  fa:TShare
  fb:TShare
  fc:TShare
  deriving DecidableEq
instance:Rep Tsums:=Rep.via (β:=Int × Int × TShare × TShare × TShare × TShare) fun x=>(x.fw,x.fx,x.fy,x.fa,x.fb,x.fc)
structure Tline where
  fK:Tsums
  fd:TShare
  fn:TShare
  deriving DecidableEq
instance:Rep Tline:=Rep.via (β:=Tsums × TShare × TShare) fun x=>(x.fK,x.fd,x.fn)
structure b0 where
  fw:Int
  fg:Int
  fy:TShare
  deriving DecidableEq
instance:Rep b0:=Rep.via (β:=Int × Int × TShare) fun x=>(x.fw,x.fg,x.fy)
def tb92_10:List (Nat × Nat × Nat):=[(0,274877906944,1),(0,549755813888,16),(2,1099511627776,549755813888),(0,2199023255552,16),(8,4398046511104,2199023255552),(0,8796093022208,2),(32,17592186044416,8796093022208),(80,35184372088832,21990232555520),(128,70368744177664,35184372088832),(0,140737488355328,16),(512,281474976710656,140737488355328),(0,562949953421312,2),(2048,1125899906842624,562949953421312),(5120,2251799813685248,1407374883553280),(8192,4503599627370496,2251799813685248),(0,9007199254740992,32),(49152,18014398509481984,13510798882111488),(65796,36028797018963968,18085866765287424),(196609,72057594037927936,36029071896870912),(262144,144115188075855872,72057594037927936)]
def tb27_9:List (Nat × Nat × Nat):=[(0,2305843009213693952,512),(1,4611686018427387904,2305843009213693952),(2,9223372036854775808,4611686018427387904),(0,18446744073709551616,512),(8,36893488147419103232,18446744073709551616),(20,73786976294838206464,46116860184273879040),(0,1024,0),(127,0,73786976294838207488)]
def tb27_11:List (Nat × Nat × Nat):=[(0,4722366482869645213696,256),(1,9444732965739290427392,4722366482869645213696),(0,18889465931478580854784,512),(4,37778931862957161709568,18889465931478580854784),(8,75557863725914323419136,37778931862957161709568),(0,151115727451828646838272,512),(32,302231454903657293676544,151115727451828646838272),(0,604462909807314587353088,512),(128,1208925819614629174706176,604462909807314587353088),(336,2417851639229258349412352,1511157274518286468382720),(528,4835703278458516698824704,2493409502955172672831488),(1026,9671406556917033397649408,4845148011424255989252096),(4095,19342813113834066795298816,256),(8191,0,29014219670751100192948224)]
def tb27_12:List (Nat × Nat × Nat):=[(0,38685626227668133590597632,256),(1,77371252455336267181195264,38685626227668133590597632),(0,154742504910672534362390528,512),(4,309485009821345068724781056,154742504910672534362390528),(8,618970019642690137449562112,309485009821345068724781056),(0,1237940039285380274899124224,512),(32,2475880078570760549798248448,1237940039285380274899124224),(80,4951760157141521099596496896,3094850098213450687247810560),(130,9903520314283042199192993792,5029131409596857366777692160),(511,19807040628566084398385987584,256),(1023,0,29710560942849126597578981376)]
def tb27_13:List (Nat × Nat × Nat):=[(0,39614081257132168796771975168,256),(1,79228162514264337593543950336,39614081257132168796771975168),(0,158456325028528675187087900672,1024),(0,316912650057057350374175801344,512),(8,633825300114114700748351602688,316912650057057350374175801344),(20,1267650600228229401496703205376,792281625142643375935439503360),(34,2535301200456458802993406410752,1346878762742493739090247155712),(127,5070602400912917605986812821504,256),(255,0,7605903601369376408980219232256)]
def tb27_15:List (Nat × Nat × Nat):=[(0,10141204801825835211973625643008,256),(1,20282409603651670423947251286016,10141204801825835211973625643008),(2,40564819207303340847894502572032,20282409603651670423947251286016),(0,81129638414606681695789005144064,256),(8,162259276829213363391578010288128,81129638414606681695789005144064),(20,324518553658426726783156020576256,162259276829213363391578010288128),(0,4096,0),(0,8192,0),(231,0,40564819207303340847894502576128),(511,0,324518553658426726783156020584448)]
def tb27_18:List (Nat × Nat × Nat):=[(0,1329227995784915872903807060280344576,256),(0,2658455991569831745807614120560689152,16384),(0,5316911983139663491615228241121378304,2048),(0,10633823966279326983230456482242756608,4096),(0,21267647932558653966460912964485513216,256),(16,42535295865117307932921825928971026432,21267647932558653966460912964485513216),(0,85070591730234615865843651857942052864,8192),(0,170141183460469231731687303715884105728,256),(128,340282366920938463463374607431768211456,170141183460469231731687303715884105728),(364,680564733841876926926749214863536422912,483838990465709377736985769942045425664),(515,1361129467683753853853498429727072845824,684552417829231674545460636044377456640),(2047,0,1361129467683753853853498429727072845888)]
theorem body31:bodyB Tryz.prog 31 = true:=by kernel_rfl
theorem body39:bodyB Tryz.prog 39 = true:=by kernel_rfl
theorem body50:bodyB Tryz.prog 50 = true:=by kernel_rfl
theorem body63:bodyB Tryz.prog 63 = true:=by kernel_rfl
theorem body64:bodyB Tryz.prog 64 = true:=by kernel_rfl
theorem body65:bodyB Tryz.prog 65 = true:=by kernel_rfl
theorem body66:bodyB Tryz.prog 66 = true:=by kernel_rfl
theorem body92:bodyB Tryz.prog 92 = true:=by kernel_rfl
theorem ex_TShare {a b:TShare} (h0:a.fN.1 = b.fN.1) (h1:a.fN.2.1 = b.fN.2.1) (h2:a.fN.2.2.1 = b.fN.2.2.1) (h3:a.fN.2.2.2.1 = b.fN.2.2.2.1) (h4:a.fN.2.2.2.2.1 = b.fN.2.2.2.2.1) (h5:a.fN.2.2.2.2.2.1 = b.fN.2.2.2.2.2.1) (h6:a.fN.2.2.2.2.2.2.1 = b.fN.2.2.2.2.2.2.1) (h7:a.fN.2.2.2.2.2.2.2 = b.fN.2.2.2.2.2.2.2) (h8:a.fD.1 = b.fD.1) (h9:a.fD.2.1 = b.fD.2.1) (b0:a.fD.2.2.1 = b.fD.2.2.1) (c0:a.fD.2.2.2.1 = b.fD.2.2.2.1) (d0:a.fD.2.2.2.2.1 = b.fD.2.2.2.2.1) (g0:a.fD.2.2.2.2.2.1 = b.fD.2.2.2.2.2.1) (j0:a.fD.2.2.2.2.2.2.1 = b.fD.2.2.2.2.2.2.1) (k0:a.fD.2.2.2.2.2.2.2 = b.fD.2.2.2.2.2.2.2):a = b:=congr (congrArg TShare.mk (ex_A31 (a:=a.fN) (b:=b.fN) h0 h1 h2 h3 h4 h5 h6 h7)) (ex_A31 (a:=a.fD) (b:=b.fD) h8 h9 b0 c0 d0 g0 j0 k0)
theorem eqlD_34 (a b:TShare) (w9:World):(do eqGuard .eql 34 (.tmp 0) (.tmp 0) (.agg #[vU a.fN.1,vU a.fN.2.1,vU a.fN.2.2.1,vU a.fN.2.2.2.1,vU a.fN.2.2.2.2.1,vU a.fN.2.2.2.2.2.1,vU a.fN.2.2.2.2.2.2.1,vU a.fN.2.2.2.2.2.2.2,vU a.fD.1,vU a.fD.2.1,vU a.fD.2.2.1,vU a.fD.2.2.2.1,vU a.fD.2.2.2.2.1,vU a.fD.2.2.2.2.2.1,vU a.fD.2.2.2.2.2.2.1,vU a.fD.2.2.2.2.2.2.2]) (.agg #[vU b.fN.1,vU b.fN.2.1,vU b.fN.2.2.1,vU b.fN.2.2.2.1,vU b.fN.2.2.2.2.1,vU b.fN.2.2.2.2.2.1,vU b.fN.2.2.2.2.2.2.1,vU b.fN.2.2.2.2.2.2.2,vU b.fD.1,vU b.fD.2.1,vU b.fD.2.2.1,vU b.fD.2.2.2.1,vU b.fD.2.2.2.2.1,vU b.fD.2.2.2.2.2.1,vU b.fD.2.2.2.2.2.2.1,vU b.fD.2.2.2.2.2.2.2]); binOp .eql 34 (.agg #[vU a.fN.1,vU a.fN.2.1,vU a.fN.2.2.1,vU a.fN.2.2.2.1,vU a.fN.2.2.2.2.1,vU a.fN.2.2.2.2.2.1,vU a.fN.2.2.2.2.2.2.1,vU a.fN.2.2.2.2.2.2.2,vU a.fD.1,vU a.fD.2.1,vU a.fD.2.2.1,vU a.fD.2.2.2.1,vU a.fD.2.2.2.2.1,vU a.fD.2.2.2.2.2.1,vU a.fD.2.2.2.2.2.2.1,vU a.fD.2.2.2.2.2.2.2]) (.agg #[vU b.fN.1,vU b.fN.2.1,vU b.fN.2.2.1,vU b.fN.2.2.2.1,vU b.fN.2.2.2.2.1,vU b.fN.2.2.2.2.2.1,vU b.fN.2.2.2.2.2.2.1,vU b.fN.2.2.2.2.2.2.2,vU b.fD.1,vU b.fD.2.1,vU b.fD.2.2.1,vU b.fD.2.2.2.1,vU b.fD.2.2.2.2.1,vU b.fD.2.2.2.2.2.1,vU b.fD.2.2.2.2.2.2.1,vU b.fD.2.2.2.2.2.2.2]):Sem Value).run Tryz.prog w9 = .ok (.bool (decide (a = b))) w9:=
  eqAgg (ks:=[.int .u64,.int .u64,.int .u64,.int .u64,.int .u64,.int .u64,.int .u64,.int .u64,.int .u64,.int .u64,.int .u64,.int .u64,.int .u64,.int .u64,.int .u64,.int .u64]) (xs:=[vU a.fN.1,vU a.fN.2.1,vU a.fN.2.2.1,vU a.fN.2.2.2.1,vU a.fN.2.2.2.2.1,vU a.fN.2.2.2.2.2.1,vU a.fN.2.2.2.2.2.2.1,vU a.fN.2.2.2.2.2.2.2,vU a.fD.1,vU a.fD.2.1,vU a.fD.2.2.1,vU a.fD.2.2.2.1,vU a.fD.2.2.2.2.1,vU a.fD.2.2.2.2.2.1,vU a.fD.2.2.2.2.2.2.1,vU a.fD.2.2.2.2.2.2.2]) (ys:=[vU b.fN.1,vU b.fN.2.1,vU b.fN.2.2.1,vU b.fN.2.2.2.1,vU b.fN.2.2.2.2.1,vU b.fN.2.2.2.2.2.1,vU b.fN.2.2.2.2.2.2.1,vU b.fN.2.2.2.2.2.2.2,vU b.fD.1,vU b.fD.2.1,vU b.fD.2.2.1,vU b.fD.2.2.2.1,vU b.fD.2.2.2.2.1,vU b.fD.2.2.2.2.2.1,vU b.fD.2.2.2.2.2.2.1,vU b.fD.2.2.2.2.2.2.2]) (by kernel_rfl) (by kernel_rfl) (by kernel_rfl) rfl rfl ⟨fun h=>by
    simp only [allEq,veq,Bool.and_eq_true,beq_iff_eq,and_true] at h
    obtain ⟨h0,h1,h2,h3,h4,h5,h6,h7,h8,h9,b0,c0,d0,g0,j0,k0⟩:=h
    exact ex_TShare (UInt_inj64 h0) (UInt_inj64 h1) (UInt_inj64 h2) (UInt_inj64 h3) (UInt_inj64 h4) (UInt_inj64 h5) (UInt_inj64 h6) (UInt_inj64 h7) (UInt_inj64 h8) (UInt_inj64 h9) (UInt_inj64 b0) (UInt_inj64 c0) (UInt_inj64 d0) (UInt_inj64 g0) (UInt_inj64 j0) (UInt_inj64 k0),fun h=>by subst h; simp [allEq,veq]⟩ _ _ w9
def minority_fitted_l1 (_n:Nat) (c0:TUnit) (g0:Int × Nat → Option Int):Int × Nat → Option Int
  | (d0,b0)=>(if b0 < c0.fP.length then (c0.fP[b0]?).bind fun k0=>(chk (d0 + k0)).bind fun j0=>g0 (j0,b0 + 1) else some d0)
def minority_fitted_l2 (n:Nat) (a0:TRoll) (a1:Int) (a2:Int) (b2:Nat × Int × Int × UInt64 × UInt64 × UInt64 × UInt64 × UInt64 × UInt64 × UInt64 × UInt64 × UInt64 × UInt64 × UInt64 × UInt64 × UInt64 × UInt64 × UInt64 × UInt64 × UInt64 × UInt64 × UInt64 × UInt64 × UInt64 × UInt64 × UInt64 × UInt64 × UInt64 × UInt64 × UInt64 × UInt64 × UInt64 × UInt64 × UInt64 × UInt64 × UInt64 × UInt64 × UInt64 × UInt64 × UInt64 × UInt64 × UInt64 × UInt64 × UInt64 × UInt64 × UInt64 × UInt64 × UInt64 × UInt64 × UInt64 × UInt64 × UInt64 × UInt64 × UInt64 × UInt64 × UInt64 × UInt64 × UInt64 × UInt64 × UInt64 × UInt64 × UInt64 × UInt64 × UInt64 × UInt64 × UInt64 × UInt64 → Option ((Except Tbroken Tline) ⊕ (Int × Int × UInt64 × UInt64 × UInt64 × UInt64 × UInt64 × UInt64 × UInt64 × UInt64 × UInt64 × UInt64 × UInt64 × UInt64 × UInt64 × UInt64 × UInt64 × UInt64 × UInt64 × UInt64 × UInt64 × UInt64 × UInt64 × UInt64 × UInt64 × UInt64 × UInt64 × UInt64 × UInt64 × UInt64 × UInt64 × UInt64 × UInt64 × UInt64 × UInt64 × UInt64 × UInt64 × UInt64 × UInt64 × UInt64 × UInt64 × UInt64 × UInt64 × UInt64 × UInt64 × UInt64 × UInt64 × UInt64 × UInt64 × UInt64 × UInt64 × UInt64 × UInt64 × UInt64 × UInt64 × UInt64 × UInt64 × UInt64 × UInt64 × UInt64 × UInt64 × UInt64 × UInt64 × UInt64 × UInt64 × UInt64))):Nat × Int × Int × UInt64 × UInt64 × UInt64 × UInt64 × UInt64 × UInt64 × UInt64 × UInt64 × UInt64 × UInt64 × UInt64 × UInt64 × UInt64 × UInt64 × UInt64 × UInt64 × UInt64 × UInt64 × UInt64 × UInt64 × UInt64 × UInt64 × UInt64 × UInt64 × UInt64 × UInt64 × UInt64 × UInt64 × UInt64 × UInt64 × UInt64 × UInt64 × UInt64 × UInt64 × UInt64 × UInt64 × UInt64 × UInt64 × UInt64 × UInt64 × UInt64 × UInt64 × UInt64 × UInt64 × UInt64 × UInt64 × UInt64 × UInt64 × UInt64 × UInt64 × UInt64 × UInt64 × UInt64 × UInt64 × UInt64 × UInt64 × UInt64 × UInt64 × UInt64 × UInt64 × UInt64 × UInt64 × UInt64 × UInt64 → Option ((Except Tbroken Tline) ⊕ (Int × Int × UInt64 × UInt64 × UInt64 × UInt64 × UInt64 × UInt64 × UInt64 × UInt64 × UInt64 × UInt64 × UInt64 × UInt64 × UInt64 × UInt64 × UInt64 × UInt64 × UInt64 × UInt64 × UInt64 × UInt64 × UInt64 × UInt64 × UInt64 × UInt64 × UInt64 × UInt64 × UInt64 × UInt64 × UInt64 × UInt64 × UInt64 × UInt64 × UInt64 × UInt64 × UInt64 × UInt64 × UInt64 × UInt64 × UInt64 × UInt64 × UInt64 × UInt64 × UInt64 × UInt64 × UInt64 × UInt64 × UInt64 × UInt64 × UInt64 × UInt64 × UInt64 × UInt64 × UInt64 × UInt64 × UInt64 × UInt64 × UInt64 × UInt64 × UInt64 × UInt64 × UInt64 × UInt64 × UInt64 × UInt64))
  | (k0,Y1,Z1,p0,q0,s0,t0,u0,v0,x0,y0,z0,A0,B0,C0,D0,E0,F0,G0,H0,I0,J0,K0,M0,P0,Q0,R0,U0,V0,W0,X0,Y0,Z0,b1,c1,d1,g1,j1,k1,p1,q1,s1,t1,u1,v1,x1,y1,z1,A1,B1,C1,D1,E1,F1,G1,H1,I1,J1,K1,M1,P1,Q1,R1,U1,V1,W1,X1)=>(if k0 < a0.fE.length then (a0.fE[k0]?).bind fun j0=>Option.bind (loopF (minority_fitted_l1 n j0) n (0,0)) (fun j2=>(if j0.fJ = true then b2 (k0 + 1,Y1,Z1,p0,q0,s0,t0,u0,v0,x0,y0,z0,A0,B0,C0,D0,E0,F0,G0,H0,I0,J0,K0,M0,P0,Q0,R0,U0,V0,W0,X0,Y0,Z0,b1,c1,d1,g1,j1,k1,p1,q1,s1,t1,u1,v1,x1,y1,z1,A1,B1,C1,D1,E1,F1,G1,H1,I1,J1,K1,M1,P1,Q1,R1,U1,V1,W1,X1) else (if j0.fG = 0 then b2 (k0 + 1,Y1,Z1,p0,q0,s0,t0,u0,v0,x0,y0,z0,A0,B0,C0,D0,E0,F0,G0,H0,I0,J0,K0,M0,P0,Q0,R0,U0,V0,W0,X0,Y0,Z0,b1,c1,d1,g1,j1,k1,p1,q1,s1,t1,u1,v1,x1,y1,z1,A1,B1,C1,D1,E1,F1,G1,H1,I1,J1,K1,M1,P1,Q1,R1,U1,V1,W1,X1) else (if j2 = 0 then b2 (k0 + 1,Y1,Z1,p0,q0,s0,t0,u0,v0,x0,y0,z0,A0,B0,C0,D0,E0,F0,G0,H0,I0,J0,K0,M0,P0,Q0,R0,U0,V0,W0,X0,Y0,Z0,b1,c1,d1,g1,j1,k1,p1,q1,s1,t1,u1,v1,x1,y1,z1,A1,B1,C1,D1,E1,F1,G1,H1,I1,J1,K1,M1,P1,Q1,R1,U1,V1,W1,X1) else (idx j0.fj a1).bind fun c2=>(idx j0.fP a2).bind fun s2=>(minority_of_p n s2 j2).bind fun t2=>exc t2 (fun d2=>(chk (Y1 + j0.fG)).bind fun p2=>(chk (Z1 + c2)).bind fun q2=>(minority_of_p n j0.fG (1:Int)).bind fun u2=>exc u2 (fun v2=>(minority_mul_p n v2 d2).bind fun x2=>exc x2 (fun g2=>(minority_add_p n (⟨(p0,q0,s0,t0,u0,v0,x0,y0),(z0,A0,B0,C0,D0,E0,F0,G0)⟩:TShare) g2).bind fun y2=>exc y2 (fun b0=>(minority_of_p n c2 (1:Int)).bind fun z2=>exc z2 (fun A2=>(minority_of_p n c2 j0.fG).bind fun B2=>exc B2 (fun C2=>(minority_mul_p n A2 C2).bind fun D2=>exc D2 (fun E2=>(minority_add_p n (⟨(H0,I0,J0,K0,M0,P0,Q0,R0),(U0,V0,W0,X0,Y0,Z0,b1,c1)⟩:TShare) E2).bind fun F2=>exc F2 (fun c0=>(minority_of_p n c2 (1:Int)).bind fun G2=>exc G2 (fun H2=>(minority_mul_p n H2 d2).bind fun I2=>exc I2 (fun J2=>(minority_add_p n (⟨(d1,g1,j1,k1,p1,q1,s1,t1),(u1,v1,x1,y1,z1,A1,B1,C1)⟩:TShare) J2).bind fun K2=>exc K2 (fun d0=>(minority_mul_p n g2 d2).bind fun M2=>exc M2 (fun P2=>(minority_add_p n (⟨(D1,E1,F1,G1,H1,I1,J1,K1),(M1,P1,Q1,R1,U1,V1,W1,X1)⟩:TShare) P2).bind fun Q2=>exc Q2 (fun g0=>b2 (k0 + 1,p2,q2,b0.fN.1,b0.fN.2.1,b0.fN.2.2.1,b0.fN.2.2.2.1,b0.fN.2.2.2.2.1,b0.fN.2.2.2.2.2.1,b0.fN.2.2.2.2.2.2.1,b0.fN.2.2.2.2.2.2.2,b0.fD.1,b0.fD.2.1,b0.fD.2.2.1,b0.fD.2.2.2.1,b0.fD.2.2.2.2.1,b0.fD.2.2.2.2.2.1,b0.fD.2.2.2.2.2.2.1,b0.fD.2.2.2.2.2.2.2,c0.fN.1,c0.fN.2.1,c0.fN.2.2.1,c0.fN.2.2.2.1,c0.fN.2.2.2.2.1,c0.fN.2.2.2.2.2.1,c0.fN.2.2.2.2.2.2.1,c0.fN.2.2.2.2.2.2.2,c0.fD.1,c0.fD.2.1,c0.fD.2.2.1,c0.fD.2.2.2.1,c0.fD.2.2.2.2.1,c0.fD.2.2.2.2.2.1,c0.fD.2.2.2.2.2.2.1,c0.fD.2.2.2.2.2.2.2,d0.fN.1,d0.fN.2.1,d0.fN.2.2.1,d0.fN.2.2.2.1,d0.fN.2.2.2.2.1,d0.fN.2.2.2.2.2.1,d0.fN.2.2.2.2.2.2.1,d0.fN.2.2.2.2.2.2.2,d0.fD.1,d0.fD.2.1,d0.fD.2.2.1,d0.fD.2.2.2.1,d0.fD.2.2.2.2.1,d0.fD.2.2.2.2.2.1,d0.fD.2.2.2.2.2.2.1,d0.fD.2.2.2.2.2.2.2,g0.fN.1,g0.fN.2.1,g0.fN.2.2.1,g0.fN.2.2.2.1,g0.fN.2.2.2.2.1,g0.fN.2.2.2.2.2.1,g0.fN.2.2.2.2.2.2.1,g0.fN.2.2.2.2.2.2.2,g0.fD.1,g0.fD.2.1,g0.fD.2.2.1,g0.fD.2.2.2.1,g0.fD.2.2.2.2.1,g0.fD.2.2.2.2.2.1,g0.fD.2.2.2.2.2.2.1,g0.fD.2.2.2.2.2.2.2)) (fun j3=>none)) (fun g3=>none)) (fun d3=>none)) (fun c3=>none)) (fun b3=>none)) (fun Z2=>none)) (fun Y2=>none)) (fun X2=>none)) (fun W2=>none)) (fun k2=>some (.inl (.error k2)))) (fun V2=>none)) (fun U2=>none)) (fun R2=>none))))) else some (.inr (Y1,Z1,H0,I0,J0,K0,M0,P0,Q0,R0,U0,V0,W0,X0,Y0,Z0,b1,c1,d1,g1,j1,k1,p1,q1,s1,t1,u1,v1,x1,y1,z1,A1,B1,C1,p0,q0,s0,t0,u0,v0,x0,y0,z0,A0,B0,C0,D0,E0,F0,G0,D1,E1,F1,G1,H1,I1,J1,K1,M1,P1,Q1,R1,U1,V1,W1,X1)))
def minority_fitted_p (n:Nat) (a0:TRoll) (a1:Int) (a2:Int):Option (Except Tbroken Tline):=
  (units_CheckRoll_p n a0).bind fun z1=>(if z1 = 0 then (if a1 < 0 then some (.error (⟨(2:Int)⟩:Tbroken)) else (if a0.fj ≤ a1 then some (.error (⟨(2:Int)⟩:Tbroken)) else (if a2 < 0 then some (.error (⟨(2:Int)⟩:Tbroken)) else (if a0.fh ≤ a2 then some (.error (⟨(2:Int)⟩:Tbroken)) else (minority_of_p n (0:Int) (1:Int)).bind fun j2=>exc j2 (fun b0=>thn (loopF (minority_fitted_l2 n a0 a1 a2) n (0,0,0,b0.fN.1,b0.fN.2.1,b0.fN.2.2.1,b0.fN.2.2.2.1,b0.fN.2.2.2.2.1,b0.fN.2.2.2.2.2.1,b0.fN.2.2.2.2.2.2.1,b0.fN.2.2.2.2.2.2.2,b0.fD.1,b0.fD.2.1,b0.fD.2.2.1,b0.fD.2.2.2.1,b0.fD.2.2.2.2.1,b0.fD.2.2.2.2.2.1,b0.fD.2.2.2.2.2.2.1,b0.fD.2.2.2.2.2.2.2,b0.fN.1,b0.fN.2.1,b0.fN.2.2.1,b0.fN.2.2.2.1,b0.fN.2.2.2.2.1,b0.fN.2.2.2.2.2.1,b0.fN.2.2.2.2.2.2.1,b0.fN.2.2.2.2.2.2.2,b0.fD.1,b0.fD.2.1,b0.fD.2.2.1,b0.fD.2.2.2.1,b0.fD.2.2.2.2.1,b0.fD.2.2.2.2.2.1,b0.fD.2.2.2.2.2.2.1,b0.fD.2.2.2.2.2.2.2,b0.fN.1,b0.fN.2.1,b0.fN.2.2.1,b0.fN.2.2.2.1,b0.fN.2.2.2.2.1,b0.fN.2.2.2.2.2.1,b0.fN.2.2.2.2.2.2.1,b0.fN.2.2.2.2.2.2.2,b0.fD.1,b0.fD.2.1,b0.fD.2.2.1,b0.fD.2.2.2.1,b0.fD.2.2.2.2.1,b0.fD.2.2.2.2.2.1,b0.fD.2.2.2.2.2.2.1,b0.fD.2.2.2.2.2.2.2,b0.fN.1,b0.fN.2.1,b0.fN.2.2.1,b0.fN.2.2.2.1,b0.fN.2.2.2.2.1,b0.fN.2.2.2.2.2.1,b0.fN.2.2.2.2.2.2.1,b0.fN.2.2.2.2.2.2.2,b0.fD.1,b0.fD.2.1,b0.fD.2.2.1,b0.fD.2.2.2.1,b0.fD.2.2.2.2.1,b0.fD.2.2.2.2.2.1,b0.fD.2.2.2.2.2.2.1,b0.fD.2.2.2.2.2.2.2)) (fun (C1,D1,D0,E0,F0,G0,H0,I0,J0,K0,M0,P0,Q0,R0,U0,V0,W0,X0,Y0,Z0,b1,c1,d1,g1,j1,k1,p1,q1,s1,t1,u1,v1,x1,y1,d0,g0,j0,k0,p0,q0,s0,t0,u0,v0,x0,y0,z0,A0,B0,C0,G1,H1,I1,J1,K1,M1,P1,Q1,R1,U1,V1,W1,X1,Y1,Z1,b2)=>(minority_of_p n C1 (1:Int)).bind fun k2=>exc k2 (fun B1=>(minority_of_p n D1 (1:Int)).bind fun p2=>exc p2 (fun c0=>(minority_fitted_1_p n B1 (⟨(D0,E0,F0,G0,H0,I0,J0,K0),(M0,P0,Q0,R0,U0,V0,W0,X0)⟩:TShare) c0 c0).bind fun c2=>exc c2 (fun A1=>(if A1 = b0 then some (.error (⟨(7:Int)⟩:Tbroken)) else (minority_fitted_1_p n B1 (⟨(Y0,Z0,b1,c1,d1,g1,j1,k1),(p1,q1,s1,t1,u1,v1,x1,y1)⟩:TShare) c0 (⟨(d0,g0,j0,k0,p0,q0,s0,t0),(u0,v0,x0,y0,z0,A0,B0,C0)⟩:TShare)).bind fun d2=>exc d2 (fun g2=>some (.ok (⟨(⟨C1,D1,(⟨(d0,g0,j0,k0,p0,q0,s0,t0),(u0,v0,x0,y0,z0,A0,B0,C0)⟩:TShare),(⟨(D0,E0,F0,G0,H0,I0,J0,K0),(M0,P0,Q0,R0,U0,V0,W0,X0)⟩:TShare),(⟨(Y0,Z0,b1,c1,d1,g1,j1,k1),(p1,q1,s1,t1,u1,v1,x1,y1)⟩:TShare),(⟨(G1,H1,I1,J1,K1,M1,P1,Q1),(R1,U1,V1,W1,X1,Y1,Z1,b2)⟩:TShare)⟩:Tsums),A1,g2⟩:Tline))) (fun q2=>none))) (fun E1=>some (.error E1))) (fun t2=>none)) (fun s2=>none))) (fun F1=>some (.error F1)))))) else some (.error (⟨z1⟩:Tbroken)))
theorem minority_fitted_c (n:Nat) (L:List Nat) (w:World) (hL:∀ b ∈ L,b < w.heap.size) (a0:TRoll) {v0_3:Value} (h0_3:Rep.R w L [v0_3] a0.fE) (a1:Int) (a2:Int)  {r:Except Tbroken Tline} (h:minority_fitted_p n a0 a1 a2 = some r) :
    Calls Tryz.prog 27 #[.agg #[vI a0.fj,vI a0.fh,vI a0.fl,v0_3],vI a1,vI a2] w (PGives w (fun (y:Tline) _ u=>u = .agg ((([vI y.fK.fw,vI y.fK.fx]:List Value) ++ cs_TShare y.fK.fy ++ cs_TShare y.fK.fa ++ cs_TShare y.fK.fb ++ cs_TShare y.fK.fc ++ cs_TShare y.fd ++ cs_TShare y.fn)).toArray) (fun e=>.iface 110 (.agg #[vI e.fH])) r):=by
 unfold minority_fitted_p at h
 have hS0:=Ax w
 refine Bz Tryz.func27 rfl rfl rfl (fun _ cs0 hb0 hp0=>?_)
 refine Ac<|Ai .plain rfl (Ar hS0 rfl rfl) (fun w11 Y2 c5 W00=>?_)
 refine Ai .plain rfl (Au [vI 0,vI 0,vW 0,vW 0,vW 0,vW 0,vW 0,vW 0,vW 0,vW 0,vW 0,vW 0,vW 0,vW 0,vW 0,vW 0,vW 0,vW 0,vW 0,vW 0,vW 0,vW 0,vW 0,vW 0,vW 0,vW 0,vW 0,vW 0,vW 0,vW 0,vW 0,vW 0,vW 0,vW 0,vW 0,vW 0,vW 0,vW 0,vW 0,vW 0,vW 0,vW 0,vW 0,vW 0,vW 0,vW 0,vW 0,vW 0,vW 0,vW 0,vW 0,vW 0,vW 0,vW 0,vW 0,vW 0,vW 0,vW 0,vW 0,vW 0,vW 0,vW 0,vW 0,vW 0,vW 0,vW 0,vW 0,vW 0,vW 0,vW 0,vW 0,vW 0,vW 0,vW 0,vW 0,vW 0,vW 0,vW 0,vW 0,vW 0,vW 0,vW 0,vW 0,vW 0,vW 0,vW 0,vW 0,vW 0,vW 0,vW 0,vW 0,vW 0,vW 0,vW 0,vW 0,vW 0,vW 0,vW 0] c5) (fun w16 C2 k2 X00=>?_)
 refine Aa<|Ac<|Ab (Az rfl (k2.memA (.tl .hd))) ?_
 obtain ⟨A3,A8,h⟩:=bi h
 refine Ba (vI A3) body63 rfl (e1 rfl) (fun w9 hw9=>units_CheckRoll_c n _ w9 (k2.hL0 hL hw9) a0 (k2.k0 h0_3 hw9) A8) rfl<|Bc (fst:=[]) (cap:=[]) (vs:=[vI A3]) .plain body50 Tryz.func50 rfl rfl rfl rfl (e1 rfl) rfl (fun b00 C6 B7=>?_)
 refine Ac<|Ae rfl<|Ab (FV.neq (i:=A3) (j:=0) rfl rfl)<|Aa<|MX.ifn rfl h (fun I4 h=>?_) (fun I4 h=>?_)
 refine Av<|MX.fin rfl<|Al (u:=.tuple #[]) C6 Tryz.func50 rfl .nil rfl<|Aa<|Ac<|Ae rfl<|Ab (FV.lss (i:=a1) (j:=0) rfl rfl)<|Ae rfl<|RG.ifd (s:=20) rfl h (fun J4 h=>?_) (fun J4 h=>?_)
 refine AO<|AO<|AO<|AO<|RG.pt rfl rfl<|Ae rfl<|AO<|AO<|RG.pt rfl rfl<|Ae rfl<|AO<|AO<|AO<|AO<|RG.pt rfl rfl<|Bc (fst:=[]) (cap:=[]) (vs:=[.bool true,vI 2]) .plain body39 Tryz.func39 rfl rfl rfl rfl (e2 rfl rfl) rfl (fun g00 K01 C7=>?_)
 refine Ac<|Ae rfl<|Aa<|AV rfl<|Ao<|Ae rfl<|Bc (fst:=[]) (cap:=[]) (vs:=[vI 2]) .plain body50 Tryz.func50 rfl rfl rfl rfl (e1 rfl) rfl (fun j00 M01 D7=>?_)
 refine Ac<|Ae rfl<|Ab (FV.neqN (i:=2) (j:=0) rfl rfl)<|Aa<|AV rfl<|Ao<|Ae rfl<|Ab (AK (vs:=[vI 2]) (u:=.agg #[vI 2]) (e1 rfl) (fun w9=>by kernel_rfl))<|Ab (Bn (by kernel_rfl) rfl)<|RG.panic .plain rfl<|AG D7 Tryz.func50<|AG C7 Tryz.func39 ?_
 cases h
 exact AG hp0 Tryz.func27 ⟨k2.ag,rfl⟩
 refine AW (Aj rfl)<|RG.fg 0 rfl<|AW (AJ rfl ((k2.memA (.tl .hd)) 0 _ rfl))<|AW (FV.geq (i:=a1) (j:=a0.fj) rfl rfl)<|RG.pf rfl rfl<|Ae rfl<|RG.ifd (s:=26) rfl h (fun K4 h=>?_) (fun K4 h=>?_)
 refine AO<|AO<|RG.pt rfl rfl<|Ae rfl<|AO<|AO<|AO<|AO<|RG.pt rfl rfl<|Bc (fst:=[]) (cap:=[]) (vs:=[.bool true,vI 2]) .plain body39 Tryz.func39 rfl rfl rfl rfl (e2 rfl rfl) rfl (fun k00 P01 E7=>?_)
 refine Ac<|Ae rfl<|Aa<|AV rfl<|Ao<|Ae rfl<|Bc (fst:=[]) (cap:=[]) (vs:=[vI 2]) .plain body50 Tryz.func50 rfl rfl rfl rfl (e1 rfl) rfl (fun p00 Q01 F7=>?_)
 refine Ac<|Ae rfl<|Ab (FV.neqN (i:=2) (j:=0) rfl rfl)<|Aa<|AV rfl<|Ao<|Ae rfl<|Ab (AK (vs:=[vI 2]) (u:=.agg #[vI 2]) (e1 rfl) (fun w9=>by kernel_rfl))<|Ab (Bn (by kernel_rfl) rfl)<|RG.panic .plain rfl<|AG F7 Tryz.func50<|AG E7 Tryz.func39 ?_
 cases h
 exact AG hp0 Tryz.func27 ⟨k2.ag,rfl⟩
 refine AW (Aj rfl)<|AW (FV.lss (i:=a2) (j:=0) rfl rfl)<|RG.pf rfl rfl<|Ae rfl<|RG.ifd (s:=30) rfl h (fun M4 h=>?_) (fun M4 h=>?_)
 refine AO<|AO<|AO<|AO<|RG.pt rfl rfl<|Bc (fst:=[]) (cap:=[]) (vs:=[.bool true,vI 2]) .plain body39 Tryz.func39 rfl rfl rfl rfl (e2 rfl rfl) rfl (fun q00 R01 G7=>?_)
 refine Ac<|Ae rfl<|Aa<|AV rfl<|Ao<|Ae rfl<|Bc (fst:=[]) (cap:=[]) (vs:=[vI 2]) .plain body50 Tryz.func50 rfl rfl rfl rfl (e1 rfl) rfl (fun s00 U01 H7=>?_)
 refine Ac<|Ae rfl<|Ab (FV.neqN (i:=2) (j:=0) rfl rfl)<|Aa<|AV rfl<|Ao<|Ae rfl<|Ab (AK (vs:=[vI 2]) (u:=.agg #[vI 2]) (e1 rfl) (fun w9=>by kernel_rfl))<|Ab (Bn (by kernel_rfl) rfl)<|RG.panic .plain rfl<|AG H7 Tryz.func50<|AG G7 Tryz.func39 ?_
 cases h
 exact AG hp0 Tryz.func27 ⟨k2.ag,rfl⟩
 refine AW (Aj rfl)<|RG.fg 1 rfl<|AW (AJ rfl ((k2.memA (.tl .hd)) 1 _ rfl))<|AW (FV.geq (i:=a2) (j:=a0.fh) rfl rfl)<|RG.pf rfl rfl<|Bc (fst:=[]) (cap:=[]) (vs:=[.bool (decide (a0.fh ≤ a2)),vI 2]) .plain body39 Tryz.func39 rfl rfl rfl rfl (e2 rfl rfl) rfl (fun t00 E6 I7=>?_)
 refine Ac<|Ae rfl<|Aa<|AX rfl h (fun P4 h=>?_) (fun P4 h=>?_)
 refine Ao<|Ae rfl<|Bc (fst:=[]) (cap:=[]) (vs:=[vI 2]) .plain body50 Tryz.func50 rfl rfl rfl rfl (e1 rfl) rfl (fun u00 V01 J7=>?_)
 refine Ac<|Ae rfl<|Ab (FV.neqN (i:=2) (j:=0) rfl rfl)<|Aa<|AV rfl<|Ao<|Ae rfl<|Ab (AK (vs:=[vI 2]) (u:=.agg #[vI 2]) (e1 rfl) (fun w9=>by kernel_rfl))<|Ab (Bn (by kernel_rfl) rfl)<|RG.panic .plain rfl<|AG J7 Tryz.func50<|AG I7 Tryz.func39 ?_
 cases h
 exact AG hp0 Tryz.func27 ⟨k2.ag,rfl⟩
 refine Av<|MX.fin rfl<|Al (u:=.tuple #[]) E6 Tryz.func39 rfl .nil rfl<|Aa<|Ac ?_
 obtain ⟨k9,u4,h⟩:=bi h
 rcases k9 with e54 | b0
 have h:=exc_e h
 try dsimp only at h
 refine Bg (fst:=[]) (cap:=[]) .plain body31 rfl (e2 rfl rfl) (fun w9 hw9=>minority_of_c n _ w9 (k2.hL0 hL hw9) (0:Int) (1:Int) u4) (fun w56 A6=>?_)
 obtain ⟨z5,v01⟩:=k2.agr A6
 cases h
 exact AG hp0 Tryz.func27 ⟨z5.ag,rfl⟩
 have h:=exc_o h
 try dsimp only at h
 refine Ba (.agg ((cs_TShare b0)).toArray) body31 rfl (e2 rfl rfl) (fun w9 hw9=>AD (minority_of_c n _ w9 (k2.hL0 hL hw9) (0:Int) (1:Int) u4)) rfl<|Ai .plain rfl (Au zL k2) (fun w62 D2 A5 x01=>?_)
 refine AL (cs_TShare b0) A5 .hd (onesB rfl) (fun w66 x3 y01=>?_)
 refine Aa<|Ac<|Ab (Az rfl (x3.memA .hd))<|Ab (Az rfl (x3.memA .hd))<|Ab (Az rfl (x3.memA .hd))<|Ab (Az rfl (x3.memA .hd))<|Ab (AK (vs:=[.agg ((cs_TShare b0)).toArray,.agg ((cs_TShare b0)).toArray,.agg ((cs_TShare b0)).toArray,.agg ((cs_TShare b0)).toArray]) (u:=.agg ((([vI 0,vI 0]:List Value) ++ cs_TShare b0 ++ cs_TShare b0 ++ cs_TShare b0 ++ cs_TShare b0)).toArray) (e4 rfl rfl rfl rfl) (fun w9=>by kernel_rfl))<|Ai .plain rfl (Au [vI 0,vI 0,vW 0,vW 0,vW 0,vW 0,vW 0,vW 0,vW 0,vW 0,vW 0,vW 0,vW 0,vW 0,vW 0,vW 0,vW 0,vW 0,vW 0,vW 0,vW 0,vW 0,vW 0,vW 0,vW 0,vW 0,vW 0,vW 0,vW 0,vW 0,vW 0,vW 0,vW 0,vW 0,vW 0,vW 0,vW 0,vW 0,vW 0,vW 0,vW 0,vW 0,vW 0,vW 0,vW 0,vW 0,vW 0,vW 0,vW 0,vW 0,vW 0,vW 0,vW 0,vW 0,vW 0,vW 0,vW 0,vW 0,vW 0,vW 0,vW 0,vW 0,vW 0,vW 0,vW 0,vW 0] x3) (fun w70 E2 B5 z01=>?_)
 refine AL (([vI 0,vI 0]:List Value) ++ cs_TShare b0 ++ cs_TShare b0 ++ cs_TShare b0 ++ cs_TShare b0) B5 .hd (onesB rfl) (fun b9 b3 A01=>?_)
 refine Aa<|Ak<|Ac<|Ab (Az rfl (b3.memA (.tl (.tl (.tl .hd)))))<|Ae rfl<|Ae rfl ?_
 have q7:=AP h0_3 b3
 obtain ⟨H9,W9,q8,_⟩:=Rep.sl q7
 refine Ab (AK (vs:=[.agg #[vI a0.fj,vI a0.fh,vI a0.fl,v0_3],vI a1,vI a2]) (u:=.agg #[vI a0.fj,vI a0.fh,vI a0.fl,v0_3,vI a1,vI a2]) (e3 rfl rfl rfl) (fun w9=>by rw [q8]; try kernel_rfl))<|By (fst:=[]) (cap:=[]) .plain body64 rfl (e1 rfl) (fun w9 hw9=>Calls.gives (minority_poll_points_c n _ w9 (b3.hL hL hw9) (⟨a0,a1,a2⟩:Tpoll) (b3.km h0_3 hw9)) fun (w8:World) (u8:Value) ⟨b0_,hu_,s_⟩=>(⟨b0_,hu_,s_.from hw9⟩:∃ s2:Nat,u8 = Value.func (.func 92) #[] #[vP s2]∧St b9 w8 [.cells s2 [vI a0.fj,vI a0.fh,vI a0.fl,v0_3,vI a1,vI a2] 115])) rfl (fun w83 b02 I01 ⟨s2,p8,x4⟩=>?_)
 subst p8
 have K5:=mk_push1 b3 x4
 have E01:=mk_tr1 b3 x4
 refine Aa<|AB<|MX.rangeP (lb:=[vP s2]) rfl K5 rfl body92 Tryz.func92 rfl rfl rfl (fun c9 V2 H2 s3 y00 V3 F01 V8 G6 M7=>?_)
 refine Ac<|Bf 0 rfl<|Bf 3 rfl<|Ab (AJ rfl ((mem_from (V3.memA (.tl (.tl .hd))) 0) 3 _ rfl)) ?_
 have p4:=AP h0_3 V3
 have W01:a0.fE.length ≤ 281474976710656:=Bi p4
 refine Ab (Bk (xs:=a0.fE) Tryz.underlying26 rfl p4)<|Ae rfl<|Aa<|AB ?_
 obtain ⟨Y01,x7,k4⟩:=thn_in h
 refine Bw (α:=Nat × Int × Int × UInt64 × UInt64 × UInt64 × UInt64 × UInt64 × UInt64 × UInt64 × UInt64 × UInt64 × UInt64 × UInt64 × UInt64 × UInt64 × UInt64 × UInt64 × UInt64 × UInt64 × UInt64 × UInt64 × UInt64 × UInt64 × UInt64 × UInt64 × UInt64 × UInt64 × UInt64 × UInt64 × UInt64 × UInt64 × UInt64 × UInt64 × UInt64 × UInt64 × UInt64 × UInt64 × UInt64 × UInt64 × UInt64 × UInt64 × UInt64 × UInt64 × UInt64 × UInt64 × UInt64 × UInt64 × UInt64 × UInt64 × UInt64 × UInt64 × UInt64 × UInt64 × UInt64 × UInt64 × UInt64 × UInt64 × UInt64 × UInt64 × UInt64 × UInt64 × UInt64 × UInt64 × UInt64 × UInt64 × UInt64) (fun ⟨g2,Z1,W1,z1,A1,B1,C1,D1,E1,F1,G1,H1,I1,J1,K1,M1,P1,Q1,R1,Y0,Z0,b1,c1,d1,g1,j1,k1,p1,q1,s1,t1,u1,v1,x1,y1,c0,d0,g0,j0,p0,q0,s0,t0,u0,v0,x0,y0,z0,A0,B0,C0,D0,E0,F0,G0,H0,I0,J0,K0,M0,P0,Q0,R0,U0,V0,W0,X0⟩=>[(0,.func (.yield V2) #[] #[]),(1,vP s2),(10,v0_3),(11,vI ((a0.fE.length:Nat):Int)),(12,vI ((g2:Nat):Int))]) (fun ⟨g2,Z1,W1,z1,A1,B1,C1,D1,E1,F1,G1,H1,I1,J1,K1,M1,P1,Q1,R1,Y0,Z0,b1,c1,d1,g1,j1,k1,p1,q1,s1,t1,u1,v1,x1,y1,c0,d0,g0,j0,p0,q0,s0,t0,u0,v0,x0,y0,z0,A0,B0,C0,D0,E0,F0,G0,H0,I0,J0,K0,M0,P0,Q0,R0,U0,V0,W0,X0⟩ b4=>St w b4 [.obj V2 (lpO s3 .ready none),.obj H2 (.deferred (some [])),.cells s2 [vI a0.fj,vI a0.fh,vI a0.fl,v0_3,vI a1,vI a2] 115,.cells E2 [vI Z1,vI W1,vU z1,vU A1,vU B1,vU C1,vU D1,vU E1,vU F1,vU G1,vU H1,vU I1,vU J1,vU K1,vU M1,vU P1,vU Q1,vU R1,vU Y0,vU Z0,vU b1,vU c1,vU d1,vU g1,vU j1,vU k1,vU p1,vU q1,vU s1,vU t1,vU u1,vU v1,vU x1,vU y1,vU c0,vU d0,vU g0,vU j0,vU p0,vU q0,vU s0,vU t0,vU u0,vU v0,vU x0,vU y0,vU z0,vU A0,vU B0,vU C0,vU D0,vU E0,vU F0,vU G0,vU H0,vU I0,vU J0,vU K0,vU M0,vU P0,vU Q0,vU R0,vU U0,vU V0,vU W0,vU X0] 76,.cells D2 (cs_TShare b0) 34,.cells C2 [vI 0,vI 0,vW 0,vW 0,vW 0,vW 0,vW 0,vW 0,vW 0,vW 0,vW 0,vW 0,vW 0,vW 0,vW 0,vW 0,vW 0,vW 0,vW 0,vW 0,vW 0,vW 0,vW 0,vW 0,vW 0,vW 0,vW 0,vW 0,vW 0,vW 0,vW 0,vW 0,vW 0,vW 0,vW 0,vW 0,vW 0,vW 0,vW 0,vW 0,vW 0,vW 0,vW 0,vW 0,vW 0,vW 0,vW 0,vW 0,vW 0,vW 0,vW 0,vW 0,vW 0,vW 0,vW 0,vW 0,vW 0,vW 0,vW 0,vW 0,vW 0,vW 0,vW 0,vW 0,vW 0,vW 0,vW 0,vW 0,vW 0,vW 0,vW 0,vW 0,vW 0,vW 0,vW 0,vW 0,vW 0,vW 0,vW 0,vW 0,vW 0,vW 0,vW 0,vW 0,vW 0,vW 0,vW 0,vW 0,vW 0,vW 0,vW 0,vW 0,vW 0,vW 0,vW 0,vW 0,vW 0,vW 0] 78,.cells Y2 [vI a0.fj,vI a0.fh,vI a0.fl,v0_3] 28]∧Tr c9 [.obj V2 (lpO s3 .ready none),.obj H2 (.deferred (some [])),.cells s2 [vI a0.fj,vI a0.fh,vI a0.fl,v0_3,vI a1,vI a2] 115,.cells E2 (([vI 0,vI 0]:List Value) ++ cs_TShare b0 ++ cs_TShare b0 ++ cs_TShare b0 ++ cs_TShare b0) 76,.cells D2 (cs_TShare b0) 34,.cells C2 [vI 0,vI 0,vW 0,vW 0,vW 0,vW 0,vW 0,vW 0,vW 0,vW 0,vW 0,vW 0,vW 0,vW 0,vW 0,vW 0,vW 0,vW 0,vW 0,vW 0,vW 0,vW 0,vW 0,vW 0,vW 0,vW 0,vW 0,vW 0,vW 0,vW 0,vW 0,vW 0,vW 0,vW 0,vW 0,vW 0,vW 0,vW 0,vW 0,vW 0,vW 0,vW 0,vW 0,vW 0,vW 0,vW 0,vW 0,vW 0,vW 0,vW 0,vW 0,vW 0,vW 0,vW 0,vW 0,vW 0,vW 0,vW 0,vW 0,vW 0,vW 0,vW 0,vW 0,vW 0,vW 0,vW 0,vW 0,vW 0,vW 0,vW 0,vW 0,vW 0,vW 0,vW 0,vW 0,vW 0,vW 0,vW 0,vW 0,vW 0,vW 0,vW 0,vW 0,vW 0,vW 0,vW 0,vW 0,vW 0,vW 0,vW 0,vW 0,vW 0,vW 0,vW 0,vW 0,vW 0,vW 0,vW 0] 78,.cells Y2 [vI a0.fj,vI a0.fh,vI a0.fl,v0_3] 28] b4 [.obj V2 (lpO s3 .ready none),.obj H2 (.deferred (some [])),.cells s2 [vI a0.fj,vI a0.fh,vI a0.fl,v0_3,vI a1,vI a2] 115,.cells E2 [vI Z1,vI W1,vU z1,vU A1,vU B1,vU C1,vU D1,vU E1,vU F1,vU G1,vU H1,vU I1,vU J1,vU K1,vU M1,vU P1,vU Q1,vU R1,vU Y0,vU Z0,vU b1,vU c1,vU d1,vU g1,vU j1,vU k1,vU p1,vU q1,vU s1,vU t1,vU u1,vU v1,vU x1,vU y1,vU c0,vU d0,vU g0,vU j0,vU p0,vU q0,vU s0,vU t0,vU u0,vU v0,vU x0,vU y0,vU z0,vU A0,vU B0,vU C0,vU D0,vU E0,vU F0,vU G0,vU H0,vU I0,vU J0,vU K0,vU M0,vU P0,vU Q0,vU R0,vU U0,vU V0,vU W0,vU X0] 76,.cells D2 (cs_TShare b0) 34,.cells C2 [vI 0,vI 0,vW 0,vW 0,vW 0,vW 0,vW 0,vW 0,vW 0,vW 0,vW 0,vW 0,vW 0,vW 0,vW 0,vW 0,vW 0,vW 0,vW 0,vW 0,vW 0,vW 0,vW 0,vW 0,vW 0,vW 0,vW 0,vW 0,vW 0,vW 0,vW 0,vW 0,vW 0,vW 0,vW 0,vW 0,vW 0,vW 0,vW 0,vW 0,vW 0,vW 0,vW 0,vW 0,vW 0,vW 0,vW 0,vW 0,vW 0,vW 0,vW 0,vW 0,vW 0,vW 0,vW 0,vW 0,vW 0,vW 0,vW 0,vW 0,vW 0,vW 0,vW 0,vW 0,vW 0,vW 0,vW 0,vW 0,vW 0,vW 0,vW 0,vW 0,vW 0,vW 0,vW 0,vW 0,vW 0,vW 0,vW 0,vW 0,vW 0,vW 0,vW 0,vW 0,vW 0,vW 0,vW 0,vW 0,vW 0,vW 0,vW 0,vW 0,vW 0,vW 0,vW 0,vW 0,vW 0,vW 0] 78,.cells Y2 [vI a0.fj,vI a0.fh,vI a0.fl,v0_3] 28]) (fun ⟨g2,Z1,W1,z1,A1,B1,C1,D1,E1,F1,G1,H1,I1,J1,K1,M1,P1,Q1,R1,Y0,Z0,b1,c1,d1,g1,j1,k1,p1,q1,s1,t1,u1,v1,x1,y1,c0,d0,g0,j0,p0,q0,s0,t0,u0,v0,x0,y0,z0,A0,B0,C0,D0,E0,F0,G0,H0,I0,J0,K0,M0,P0,Q0,R0,U0,V0,W0,X0⟩=>(g2,Z1,W1,z1,A1,B1,C1,D1,E1,F1,G1,H1,I1,J1,K1,M1,P1,Q1,R1,Y0,Z0,b1,c1,d1,g1,j1,k1,p1,q1,s1,t1,u1,v1,x1,y1,c0,d0,g0,j0,p0,q0,s0,t0,u0,v0,x0,y0,z0,A0,B0,C0,D0,E0,F0,G0,H0,I0,J0,K0,M0,P0,Q0,R0,U0,V0,W0,X0)) (0,0,0,b0.fN.1,b0.fN.2.1,b0.fN.2.2.1,b0.fN.2.2.2.1,b0.fN.2.2.2.2.1,b0.fN.2.2.2.2.2.1,b0.fN.2.2.2.2.2.2.1,b0.fN.2.2.2.2.2.2.2,b0.fD.1,b0.fD.2.1,b0.fD.2.2.1,b0.fD.2.2.2.1,b0.fD.2.2.2.2.1,b0.fD.2.2.2.2.2.1,b0.fD.2.2.2.2.2.2.1,b0.fD.2.2.2.2.2.2.2,b0.fN.1,b0.fN.2.1,b0.fN.2.2.1,b0.fN.2.2.2.1,b0.fN.2.2.2.2.1,b0.fN.2.2.2.2.2.1,b0.fN.2.2.2.2.2.2.1,b0.fN.2.2.2.2.2.2.2,b0.fD.1,b0.fD.2.1,b0.fD.2.2.1,b0.fD.2.2.2.1,b0.fD.2.2.2.2.1,b0.fD.2.2.2.2.2.1,b0.fD.2.2.2.2.2.2.1,b0.fD.2.2.2.2.2.2.2,b0.fN.1,b0.fN.2.1,b0.fN.2.2.1,b0.fN.2.2.2.1,b0.fN.2.2.2.2.1,b0.fN.2.2.2.2.2.1,b0.fN.2.2.2.2.2.2.1,b0.fN.2.2.2.2.2.2.2,b0.fD.1,b0.fD.2.1,b0.fD.2.2.1,b0.fD.2.2.2.1,b0.fD.2.2.2.2.1,b0.fD.2.2.2.2.2.1,b0.fD.2.2.2.2.2.2.1,b0.fD.2.2.2.2.2.2.2,b0.fN.1,b0.fN.2.1,b0.fN.2.2.1,b0.fN.2.2.2.1,b0.fN.2.2.2.2.1,b0.fN.2.2.2.2.2.1,b0.fN.2.2.2.2.2.2.1,b0.fN.2.2.2.2.2.2.2,b0.fD.1,b0.fD.2.1,b0.fD.2.2.1,b0.fD.2.2.2.1,b0.fD.2.2.2.2.1,b0.fD.2.2.2.2.2.1,b0.fD.2.2.2.2.2.2.1,b0.fD.2.2.2.2.2.2.2) x7 ⟨rfl,rfl,rfl,rfl,rfl,trivial⟩ ⟨V3,Bd _ _⟩ ?_
 rintro M9 ⟨g2,Z1,W1,z1,A1,B1,C1,D1,E1,F1,G1,H1,I1,J1,K1,M1,P1,Q1,R1,Y0,Z0,b1,c1,d1,g1,j1,k1,p1,q1,s1,t1,u1,v1,x1,y1,c0,d0,g0,j0,p0,q0,s0,t0,u0,v0,x0,y0,z0,A0,B0,C0,D0,E0,F0,G0,H0,I0,J0,K0,M0,P0,Q0,R0,U0,V0,W0,X0⟩ b4 E3 ⟨Q3,F3⟩ h
 unfold minority_fitted_l2 at h
 try dsimp only at h
 refine Ac<|Ab (Bm (i:=g2) (j:=a0.fE.length) rfl rfl)<|Aa<|Ak<|AX rfl h (fun Q4 h=>?_) (fun Q4 h=>?_)
 refine Av<|Ak<|AB<|Ac ?_
 obtain ⟨V1,s8,h⟩:=bi h
 have c7:=AP h0_3 Q3
 obtain ⟨G9,V9,H6,W6,v00,Y7,b7⟩:=Bo c7 s8
 obtain ⟨H3,z3,I3,rfl,s4,G3,Z7⟩:=op_TUnit Y7
 refine Ab (Bx 6 g2 rfl H6 rfl rfl W6)<|Ab (Az rfl b7)<|Ai .plain rfl (Au [.string ⟨#[]⟩,vI 0,vN,vN,vN,.bool false] Q3) (fun B02 D3 C5 J2=>?_)
 have d7:=Ay s4 J2
 have g7:=Ay G3 J2
 have j7:=Ay Z7 J2
 refine AL [.string V1.fI,vI V1.fG,H3,z3,I3,.bool V1.fJ] C5 .hd (o6 rfl rfl (AU d7) (AU g7) (AU j7) rfl) (fun Z8 j4 j3=>?_)
 refine Aa<|Ac<|Ah rfl<|Aa<|Ak<|Ac<|Bf 3 rfl<|AZ rfl ((j4.memA .hd) 3 _ rfl) ?_
 have q4:=Ay G3 (Tt J2 j3)
 have X01:V1.fP.length ≤ 281474976710656:=Bi q4
 refine Ab (Bk (xs:=V1.fP) Tryz.underlying42 rfl q4)<|Ae rfl<|Aa<|AB ?_
 obtain ⟨Z01,y7,R6⟩:=bind_in2 h
 refine Bw (α:=Int × Nat) (fun ⟨X2,K2⟩=>[(0,.func (.yield V2) #[] #[]),(1,vP s2),(10,v0_3),(11,vI ((a0.fE.length:Nat):Int)),(12,vI ((g2:Nat):Int)),(4,vP D3),(5,vI X2),(17,z3),(18,vI ((V1.fP.length:Nat):Int)),(19,vI ((K2:Nat):Int))]) (fun ⟨X2,K2⟩ c4=>St w c4 [.cells D3 [.string V1.fI,vI V1.fG,H3,z3,I3,.bool V1.fJ] 44,.obj V2 (lpO s3 .ready none),.obj H2 (.deferred (some [])),.cells s2 [vI a0.fj,vI a0.fh,vI a0.fl,v0_3,vI a1,vI a2] 115,.cells E2 [vI Z1,vI W1,vU z1,vU A1,vU B1,vU C1,vU D1,vU E1,vU F1,vU G1,vU H1,vU I1,vU J1,vU K1,vU M1,vU P1,vU Q1,vU R1,vU Y0,vU Z0,vU b1,vU c1,vU d1,vU g1,vU j1,vU k1,vU p1,vU q1,vU s1,vU t1,vU u1,vU v1,vU x1,vU y1,vU c0,vU d0,vU g0,vU j0,vU p0,vU q0,vU s0,vU t0,vU u0,vU v0,vU x0,vU y0,vU z0,vU A0,vU B0,vU C0,vU D0,vU E0,vU F0,vU G0,vU H0,vU I0,vU J0,vU K0,vU M0,vU P0,vU Q0,vU R0,vU U0,vU V0,vU W0,vU X0] 76,.cells D2 (cs_TShare b0) 34,.cells C2 [vI 0,vI 0,vW 0,vW 0,vW 0,vW 0,vW 0,vW 0,vW 0,vW 0,vW 0,vW 0,vW 0,vW 0,vW 0,vW 0,vW 0,vW 0,vW 0,vW 0,vW 0,vW 0,vW 0,vW 0,vW 0,vW 0,vW 0,vW 0,vW 0,vW 0,vW 0,vW 0,vW 0,vW 0,vW 0,vW 0,vW 0,vW 0,vW 0,vW 0,vW 0,vW 0,vW 0,vW 0,vW 0,vW 0,vW 0,vW 0,vW 0,vW 0,vW 0,vW 0,vW 0,vW 0,vW 0,vW 0,vW 0,vW 0,vW 0,vW 0,vW 0,vW 0,vW 0,vW 0,vW 0,vW 0,vW 0,vW 0,vW 0,vW 0,vW 0,vW 0,vW 0,vW 0,vW 0,vW 0,vW 0,vW 0,vW 0,vW 0,vW 0,vW 0,vW 0,vW 0,vW 0,vW 0,vW 0,vW 0,vW 0,vW 0,vW 0,vW 0,vW 0,vW 0,vW 0,vW 0,vW 0,vW 0] 78,.cells Y2 [vI a0.fj,vI a0.fh,vI a0.fl,v0_3] 28]∧Tr Z8 [.cells D3 [.string V1.fI,vI V1.fG,H3,z3,I3,.bool V1.fJ] 44,.obj V2 (lpO s3 .ready none),.obj H2 (.deferred (some [])),.cells s2 [vI a0.fj,vI a0.fh,vI a0.fl,v0_3,vI a1,vI a2] 115,.cells E2 [vI Z1,vI W1,vU z1,vU A1,vU B1,vU C1,vU D1,vU E1,vU F1,vU G1,vU H1,vU I1,vU J1,vU K1,vU M1,vU P1,vU Q1,vU R1,vU Y0,vU Z0,vU b1,vU c1,vU d1,vU g1,vU j1,vU k1,vU p1,vU q1,vU s1,vU t1,vU u1,vU v1,vU x1,vU y1,vU c0,vU d0,vU g0,vU j0,vU p0,vU q0,vU s0,vU t0,vU u0,vU v0,vU x0,vU y0,vU z0,vU A0,vU B0,vU C0,vU D0,vU E0,vU F0,vU G0,vU H0,vU I0,vU J0,vU K0,vU M0,vU P0,vU Q0,vU R0,vU U0,vU V0,vU W0,vU X0] 76,.cells D2 (cs_TShare b0) 34,.cells C2 [vI 0,vI 0,vW 0,vW 0,vW 0,vW 0,vW 0,vW 0,vW 0,vW 0,vW 0,vW 0,vW 0,vW 0,vW 0,vW 0,vW 0,vW 0,vW 0,vW 0,vW 0,vW 0,vW 0,vW 0,vW 0,vW 0,vW 0,vW 0,vW 0,vW 0,vW 0,vW 0,vW 0,vW 0,vW 0,vW 0,vW 0,vW 0,vW 0,vW 0,vW 0,vW 0,vW 0,vW 0,vW 0,vW 0,vW 0,vW 0,vW 0,vW 0,vW 0,vW 0,vW 0,vW 0,vW 0,vW 0,vW 0,vW 0,vW 0,vW 0,vW 0,vW 0,vW 0,vW 0,vW 0,vW 0,vW 0,vW 0,vW 0,vW 0,vW 0,vW 0,vW 0,vW 0,vW 0,vW 0,vW 0,vW 0,vW 0,vW 0,vW 0,vW 0,vW 0,vW 0,vW 0,vW 0,vW 0,vW 0,vW 0,vW 0,vW 0,vW 0,vW 0,vW 0,vW 0,vW 0,vW 0,vW 0] 78,.cells Y2 [vI a0.fj,vI a0.fh,vI a0.fl,v0_3] 28] c4 [.cells D3 [.string V1.fI,vI V1.fG,H3,z3,I3,.bool V1.fJ] 44,.obj V2 (lpO s3 .ready none),.obj H2 (.deferred (some [])),.cells s2 [vI a0.fj,vI a0.fh,vI a0.fl,v0_3,vI a1,vI a2] 115,.cells E2 [vI Z1,vI W1,vU z1,vU A1,vU B1,vU C1,vU D1,vU E1,vU F1,vU G1,vU H1,vU I1,vU J1,vU K1,vU M1,vU P1,vU Q1,vU R1,vU Y0,vU Z0,vU b1,vU c1,vU d1,vU g1,vU j1,vU k1,vU p1,vU q1,vU s1,vU t1,vU u1,vU v1,vU x1,vU y1,vU c0,vU d0,vU g0,vU j0,vU p0,vU q0,vU s0,vU t0,vU u0,vU v0,vU x0,vU y0,vU z0,vU A0,vU B0,vU C0,vU D0,vU E0,vU F0,vU G0,vU H0,vU I0,vU J0,vU K0,vU M0,vU P0,vU Q0,vU R0,vU U0,vU V0,vU W0,vU X0] 76,.cells D2 (cs_TShare b0) 34,.cells C2 [vI 0,vI 0,vW 0,vW 0,vW 0,vW 0,vW 0,vW 0,vW 0,vW 0,vW 0,vW 0,vW 0,vW 0,vW 0,vW 0,vW 0,vW 0,vW 0,vW 0,vW 0,vW 0,vW 0,vW 0,vW 0,vW 0,vW 0,vW 0,vW 0,vW 0,vW 0,vW 0,vW 0,vW 0,vW 0,vW 0,vW 0,vW 0,vW 0,vW 0,vW 0,vW 0,vW 0,vW 0,vW 0,vW 0,vW 0,vW 0,vW 0,vW 0,vW 0,vW 0,vW 0,vW 0,vW 0,vW 0,vW 0,vW 0,vW 0,vW 0,vW 0,vW 0,vW 0,vW 0,vW 0,vW 0,vW 0,vW 0,vW 0,vW 0,vW 0,vW 0,vW 0,vW 0,vW 0,vW 0,vW 0,vW 0,vW 0,vW 0,vW 0,vW 0,vW 0,vW 0,vW 0,vW 0,vW 0,vW 0,vW 0,vW 0,vW 0,vW 0,vW 0,vW 0,vW 0,vW 0,vW 0,vW 0] 78,.cells Y2 [vI a0.fj,vI a0.fh,vI a0.fl,v0_3] 28]) (fun ⟨X2,K2⟩=>(X2,K2)) (0,0) y7 ⟨rfl,rfl,rfl,rfl,rfl,rfl,rfl,rfl,rfl,rfl,trivial⟩ ⟨j4,Bd _ _⟩ ?_
 rintro P9 ⟨X2,K2⟩ c4 b5 ⟨p2,k3⟩ h
 unfold minority_fitted_l1 at h
 try dsimp only at h
 refine Ac<|Ab (Bm (i:=K2) (j:=V1.fP.length) rfl rfl)<|Aa<|Ak<|AX rfl h (fun R4 h=>?_) (fun R4 h=>?_)
 refine Av<|Ak<|AB<|Ac ?_
 obtain ⟨y4,t8,h⟩:=bi h
 have R7:=Tt J2 (Tt j3 k3)
 have p7:=Ay G3 R7
 obtain ⟨I9,X9,I6,X6,X4,b8,k7⟩:=Bo p7 t8
 have J6:X4 = [vI y4]:=b8; subst J6
 refine Ab (Bx 1 K2 rfl I6 rfl rfl X6)<|AZ rfl (k7 0 _ rfl)<|Ah rfl<|Aa<|Ao<|Ae rfl<|Ae rfl ?_
 obtain ⟨W8,g8,h⟩:=bi h
 refine Ab (FV.addc (i:=X2) (j:=y4) rfl rfl g8)<|Ah rfl<|Aa<|AC<|Ao<|Ab (Bl (i:=K2) (j:=1) rfl rfl (by omega))<|Ae rfl<|Aa ?_
 exact b5 (W8,K2 + 1) _ _ ⟨rfl,rfl,rfl,rfl,rfl,rfl,rfl,rfl,rfl,rfl,trivial⟩ ⟨p2,k3⟩ h
 refine Bj rfl ?_
 have h:=R6 _ h
 try dsimp only at h
 refine Ak<|Ac<|Bf 5 rfl<|AZ rfl ((p2.memA .hd) 5 _ rfl)<|Ae rfl<|RG.ifb (s:=29) rfl h (fun U4 h=>?_) (fun U4 h=>?_)
 refine AO<|AO<|AO<|RG.pt rfl rfl<|Ae rfl<|AO<|AO<|RG.pt rfl rfl<|Aa<|AV rfl<|Bj rfl<|Ao<|Ab (Bl (i:=g2) (j:=1) rfl rfl (by omega))<|Ae rfl<|Aa ?_
 obtain ⟨D5,Y5⟩:=AN p2 (.one (.tl .hd) (.one (.tl .hd) (.one (.tl .hd) (.one (.tl .hd) (.one (.tl .hd) (.one (.tl .hd) (.one (.tl .hd) .done)))))))
 have U7:=Tt J2 (Tt j3 (Tt k3 Y5))
 exact E3 (g2 + 1,Z1,W1,z1,A1,B1,C1,D1,E1,F1,G1,H1,I1,J1,K1,M1,P1,Q1,R1,Y0,Z0,b1,c1,d1,g1,j1,k1,p1,q1,s1,t1,u1,v1,x1,y1,c0,d0,g0,j0,p0,q0,s0,t0,u0,v0,x0,y0,z0,A0,B0,C0,D0,E0,F0,G0,H0,I0,J0,K0,M0,P0,Q0,R0,U0,V0,W0,X0) _ _ ⟨rfl,rfl,rfl,rfl,rfl,trivial⟩ ⟨D5,(Tt F3 U7)⟩ h
 refine RG.fg 1 rfl<|AW (AJ rfl ((p2.memA .hd) 1 _ rfl))<|AW (FV.eql (i:=V1.fG) (j:=0) rfl rfl)<|RG.pf rfl rfl<|Ae rfl<|RG.ifd (s:=34) rfl h (fun V4 h=>?_) (fun V4 h=>?_)
 refine AO<|AO<|RG.pt rfl rfl<|Aa<|AV rfl<|Bj rfl<|Ao<|Ab (Bl (i:=g2) (j:=1) rfl rfl (by omega))<|Ae rfl<|Aa ?_
 obtain ⟨E5,Z5⟩:=AN p2 (.one (.tl .hd) (.one (.tl .hd) (.one (.tl .hd) (.one (.tl .hd) (.one (.tl .hd) (.one (.tl .hd) (.one (.tl .hd) .done)))))))
 have V7:=Tt J2 (Tt j3 (Tt k3 Z5))
 exact E3 (g2 + 1,Z1,W1,z1,A1,B1,C1,D1,E1,F1,G1,H1,I1,J1,K1,M1,P1,Q1,R1,Y0,Z0,b1,c1,d1,g1,j1,k1,p1,q1,s1,t1,u1,v1,x1,y1,c0,d0,g0,j0,p0,q0,s0,t0,u0,v0,x0,y0,z0,A0,B0,C0,D0,E0,F0,G0,H0,I0,J0,K0,M0,P0,Q0,R0,U0,V0,W0,X0) _ _ ⟨rfl,rfl,rfl,rfl,rfl,trivial⟩ ⟨E5,(Tt F3 V7)⟩ h
 refine AW (Aj rfl)<|AW (FV.eql (i:=X2) (j:=0) rfl rfl)<|RG.pf rfl rfl<|Aa<|AX rfl h (fun W4 h=>?_) (fun W4 h=>?_)
 refine Bj rfl<|Ao<|Ab (Bl (i:=g2) (j:=1) rfl rfl (by omega))<|Ae rfl<|Aa ?_
 obtain ⟨F5,b6⟩:=AN p2 (.one (.tl .hd) (.one (.tl .hd) (.one (.tl .hd) (.one (.tl .hd) (.one (.tl .hd) (.one (.tl .hd) (.one (.tl .hd) .done)))))))
 have W7:=Tt J2 (Tt j3 (Tt k3 b6))
 exact E3 (g2 + 1,Z1,W1,z1,A1,B1,C1,D1,E1,F1,G1,H1,I1,J1,K1,M1,P1,Q1,R1,Y0,Z0,b1,c1,d1,g1,j1,k1,p1,q1,s1,t1,u1,v1,x1,y1,c0,d0,g0,j0,p0,q0,s0,t0,u0,v0,x0,y0,z0,A0,B0,C0,D0,E0,F0,G0,H0,I0,J0,K0,M0,P0,Q0,R0,U0,V0,W0,X0) _ _ ⟨rfl,rfl,rfl,rfl,rfl,trivial⟩ ⟨F5,(Tt F3 W7)⟩ h
 refine Av<|Ak<|dt 18 tb92_10 (fun X1 d2=>?_)
 refine Af 0 1 X1 rfl d2 (fun _=>Aj rfl) rfl<|Af 1 3 X1 rfl d2 (fun _=>AQ 1 rfl) rfl<|AA 2 7 917504 X1 rfl d2 (AJ rfl ((p2.memA .hd) 1 _ rfl)) rfl<|Af 3 15 X1 rfl d2 (fun _=>AQ 2 rfl) rfl<|AA 4 31 917888 X1 rfl d2 (AJ rfl ((p2.memA .hd) 2 _ rfl)) rfl<|Af 5 63 X1 rfl d2 (fun _=>AQ 4 rfl) rfl<|AA 6 127 917888 X1 rfl d2 (AJ rfl ((p2.memA (.tl (.tl (.tl .hd)))) 4 _ rfl)) rfl ?_
 obtain ⟨P2,v8,h⟩:=bi h
 obtain ⟨U6,x8⟩:=idx_in v8
 have Y3:=Tt J2 (Tt j3 k3)
 have t7:=Ay s4 Y3
 obtain ⟨J9,Y9,K6,Y6,Y4,c8,s7⟩:=Bo t7 x8
 have M6:Y4 = [vI P2]:=c8; subst M6
 refine Af 7 255 X1 rfl d2 (fun _=>Bx 1 (a1.toNat) rfl K6 rfl U6 Y6) rfl<|AA 8 511 917504 X1 rfl d2 (AJ rfl (s7 0 _ rfl)) rfl<|Af 9 1023 X1 rfl d2 (fun _=>AQ 3 rfl) rfl<|AA 10 2047 1007616 X1 rfl d2 (AJ rfl ((p2.memA .hd) 3 _ rfl)) rfl<|Af 11 4095 X1 rfl d2 (fun _=>AQ 5 rfl) rfl<|AA 12 8191 1007616 X1 rfl d2 (AJ rfl ((p2.memA (.tl (.tl (.tl .hd)))) 5 _ rfl)) rfl ?_
 obtain ⟨z4,y8,h⟩:=bi h
 obtain ⟨V6,z8⟩:=idx_in y8
 have v7:=Ay G3 Y3
 obtain ⟨K9,Z9,P6,Z6,Z4,d8,u7⟩:=Bo v7 z8
 have Q6:Z4 = [vI z4]:=d8; subst Q6
 refine Af 13 16383 X1 rfl d2 (fun _=>Bx 1 (a2.toNat) rfl P6 rfl V6 Z6) rfl<|AA 14 32767 983040 X1 rfl d2 (AJ rfl (u7 0 _ rfl)) rfl<|Af 15 65535 X1 rfl d2 (fun _=>Aj rfl) rfl ?_
 obtain ⟨p9,C8,h⟩:=bi h
 rcases p9 with C00 | B2
 have h:=exc_e h
 try dsimp only at h
 cases h
 have h:=exc_o h
 try dsimp only at h
 refine BA 16 131071 917504 (.agg ((cs_TShare B2)).toArray) X1 rfl d2 body31 rfl (e2 rfl rfl) (fun w9 hw9=>AD (minority_of_c n _ w9 (p2.hL0 hL hw9) z4 X2 C8)) rfl<|Af 17 262143 X1 rfl d2 (fun _=>AK (vs:=[vI V1.fG,vI P2,.agg ((cs_TShare B2)).toArray]) (u:=.agg ((([vI V1.fG,vI P2]:List Value) ++ cs_TShare B2)).toArray) (e3 rfl rfl rfl) (fun w9=>by kernel_rfl)) rfl<|BC (i:=18) (rk X1) (RO.yieldPT (fd:=27) (m' :=524287) (vs:=[.agg ((([vI V1.fG,vI P2]:List Value) ++ cs_TShare B2)).toArray]) (sk X1) rfl rfl .plain rfl (e1 rfl) p2 (.tl .hd) V8 rfl rfl rfl (fun _ x00 F6 K7=>?_))
 refine Ao<|Ai .plain rfl (Au [vI 0,vI 0,vW 0,vW 0,vW 0,vW 0,vW 0,vW 0,vW 0,vW 0,vW 0,vW 0,vW 0,vW 0,vW 0,vW 0,vW 0,vW 0] p2) (fun D02 R9 G5 c6=>?_)
 refine AL (([vI V1.fG,vI P2]:List Value) ++ cs_TShare B2) G5 .hd (onesB rfl) (fun E02 H5 d6=>?_)
 refine Aa<|MX.begin H5 (.tl (.tl .hd)) (fun F02 R3 g6=>?_)
 refine AB<|Ac<|Bf 0 rfl<|Ab (AJ rfl ((R3.memA (.tl (.tl (.tl (.tl (.tl .hd)))))) 0 _ rfl))<|Bf 0 rfl<|AZ rfl ((R3.memA .hd) 0 _ rfl) ?_
 obtain ⟨v2,j8,h⟩:=bi h
 refine Ab (FV.addc (i:=Z1) (j:=V1.fG) rfl rfl j8)<|Bf 0 rfl<|RG.now .plain (Bv (j:=0) (old:=[vI Z1,vI W1,vU z1,vU A1,vU B1,vU C1,vU D1,vU E1,vU F1,vU G1,vU H1,vU I1,vU J1,vU K1,vU M1,vU P1,vU Q1,vU R1,vU Y0,vU Z0,vU b1,vU c1,vU d1,vU g1,vU j1,vU k1,vU p1,vU q1,vU s1,vU t1,vU u1,vU v1,vU x1,vU y1,vU c0,vU d0,vU g0,vU j0,vU p0,vU q0,vU s0,vU t0,vU u0,vU v0,vU x0,vU y0,vU z0,vU A0,vU B0,vU C0,vU D0,vU E0,vU F0,vU G0,vU H0,vU I0,vU J0,vU K0,vU M0,vU P0,vU Q0,vU R0,vU U0,vU V0,vU W0,vU X0]) (news:=[vI v2]) (new' :=[vI v2,vI W1,vU z1,vU A1,vU B1,vU C1,vU D1,vU E1,vU F1,vU G1,vU H1,vU I1,vU J1,vU K1,vU M1,vU P1,vU Q1,vU R1,vU Y0,vU Z0,vU b1,vU c1,vU d1,vU g1,vU j1,vU k1,vU p1,vU q1,vU s1,vU t1,vU u1,vU v1,vU x1,vU y1,vU c0,vU d0,vU g0,vU j0,vU p0,vU q0,vU s0,vU t0,vU u0,vU v0,vU x0,vU y0,vU z0,vU A0,vU B0,vU C0,vU D0,vU E0,vU F0,vU G0,vU H0,vU I0,vU J0,vU K0,vU M0,vU P0,vU Q0,vU R0,vU U0,vU V0,vU W0,vU X0]) R3 (.tl (.tl (.tl (.tl (.tl .hd))))) rfl rfl rfl rfl rfl rfl (o1 rfl) rfl) (fun G02 U3 j6=>?_)
 refine Aa<|Ac<|Bf 1 rfl<|Ab (AJ rfl ((U3.memA (.tl (.tl (.tl (.tl (.tl .hd)))))) 1 _ rfl))<|Bf 1 rfl<|AZ rfl ((U3.memA .hd) 1 _ rfl) ?_
 obtain ⟨A2,k8,h⟩:=bi h
 refine Ab (FV.addc (i:=W1) (j:=P2) rfl rfl k8)<|Bf 1 rfl<|RG.now .plain (Bv (j:=1) (old:=[vI v2,vI W1,vU z1,vU A1,vU B1,vU C1,vU D1,vU E1,vU F1,vU G1,vU H1,vU I1,vU J1,vU K1,vU M1,vU P1,vU Q1,vU R1,vU Y0,vU Z0,vU b1,vU c1,vU d1,vU g1,vU j1,vU k1,vU p1,vU q1,vU s1,vU t1,vU u1,vU v1,vU x1,vU y1,vU c0,vU d0,vU g0,vU j0,vU p0,vU q0,vU s0,vU t0,vU u0,vU v0,vU x0,vU y0,vU z0,vU A0,vU B0,vU C0,vU D0,vU E0,vU F0,vU G0,vU H0,vU I0,vU J0,vU K0,vU M0,vU P0,vU Q0,vU R0,vU U0,vU V0,vU W0,vU X0]) (news:=[vI A2]) (new' :=[vI v2,vI A2,vU z1,vU A1,vU B1,vU C1,vU D1,vU E1,vU F1,vU G1,vU H1,vU I1,vU J1,vU K1,vU M1,vU P1,vU Q1,vU R1,vU Y0,vU Z0,vU b1,vU c1,vU d1,vU g1,vU j1,vU k1,vU p1,vU q1,vU s1,vU t1,vU u1,vU v1,vU x1,vU y1,vU c0,vU d0,vU g0,vU j0,vU p0,vU q0,vU s0,vU t0,vU u0,vU v0,vU x0,vU y0,vU z0,vU A0,vU B0,vU C0,vU D0,vU E0,vU F0,vU G0,vU H0,vU I0,vU J0,vU K0,vU M0,vU P0,vU Q0,vU R0,vU U0,vU V0,vU W0,vU X0]) U3 (.tl (.tl (.tl (.tl (.tl .hd))))) rfl rfl rfl rfl rfl rfl (o1 rfl) rfl) (fun H02 y3 k6=>?_)
 refine Aa<|Ak<|dt 7 tb27_9 (fun M2 p3=>?_)
 refine Af 0 1 M2 rfl p3 (fun _=>AQ 0 rfl) rfl<|AA 1 3 164 M2 rfl p3 (AJ rfl ((y3.memA .hd) 0 _ rfl)) rfl ?_
 obtain ⟨q9,D8,h⟩:=bi h
 rcases q9 with D00 | A4
 have h:=exc_e h
 try dsimp only at h
 cases h
 have h:=exc_o h
 try dsimp only at h
 refine BA 2 7 160 (.agg ((cs_TShare A4)).toArray) M2 rfl p3 body31 rfl (e2 rfl rfl) (fun w9 hw9=>AD (minority_of_c n _ w9 (y3.hL0 hL hw9) V1.fG (1:Int) D8)) rfl<|Af 3 15 M2 rfl p3 (fun _=>AQ 2 rfl) rfl<|AA 4 31 160 M2 rfl p3 (AR (cs:=(cs_TShare B2)) (by kernel_rfl) rfl (mem_part (y3.memA .hd) 2 16)) rfl ?_
 obtain ⟨s9,E8,h⟩:=bi h
 rcases s9 with E00 | C3
 have h:=exc_e h
 try dsimp only at h
 cases h
 have h:=exc_o h
 try dsimp only at h
 refine BA 5 63 128 (.agg ((cs_TShare C3)).toArray) M2 rfl p3 body30 rfl (e2 rfl rfl) (fun w9 hw9=>AD (minority_mul_c n _ w9 (y3.hL0 hL hw9) A4 B2 E8)) rfl<|RD.nu 6 127 M2 rfl .plain rfl (Au zL y3) (fun I02 U9 I5 p6=>?_)
 refine Bq 7 255 M2 rfl rfl .plain (Aw (news:=(cs_TShare C3)) I5 .hd rfl rfl rfl rfl rfl rfl (onesB rfl)) (fun J02 c3 q6=>?_)
 refine AH (dk M2)<|Ac<|Bf 2 rfl<|Ab (AR (cs:=[vU z1,vU A1,vU B1,vU C1,vU D1,vU E1,vU F1,vU G1,vU H1,vU I1,vU J1,vU K1,vU M1,vU P1,vU Q1,vU R1]) (by kernel_rfl) rfl (mem_part (c3.memA (.tl (.tl (.tl (.tl (.tl (.tl .hd))))))) 2 16))<|Ab (Az rfl (c3.memA .hd)) ?_
 obtain ⟨t9,v4,h⟩:=bi h
 rcases t9 with F00 | U1
 have h:=exc_e h
 try dsimp only at h
 have h:=thn_inl h k4
 refine Bg (fst:=[]) (cap:=[]) .plain body65 rfl (e2 rfl rfl) (fun w9 hw9=>minority_add_c n _ w9 (c3.hL0 hL hw9) (⟨(z1,A1,B1,C1,D1,E1,F1,G1),(H1,I1,J1,K1,M1,P1,Q1,R1)⟩:TShare) C3 v4) (fun K02 B6=>?_)
 obtain ⟨J5,B01⟩:=c3.agr B6
 refine AG K7 Tryz.func27<|AG M7 Tryz.func92<|PN.take J5 (.tl (.tl (.tl (.tl .hd)))) (fun M02 M5 C01=>?_)
 obtain ⟨P5,D01⟩:=AN M5 (.one .hd (.one .hd (.one .hd (.one .hd (.one (.tl .hd) (.one (.tl .hd) (.one (.tl .hd) (.one (.tl .hd) (.one (.tl .hd) .done)))))))))
 cases h
 exact AG hp0 Tryz.func27 ⟨P5.ag,rfl⟩
 have h:=exc_o h
 try dsimp only at h
 refine Ba (.agg ((cs_TShare U1)).toArray) body65 rfl (e2 rfl rfl) (fun w9 hw9=>AD (minority_add_c n _ w9 (c3.hL0 hL hw9) (⟨(z1,A1,B1,C1,D1,E1,F1,G1),(H1,I1,J1,K1,M1,P1,Q1,R1)⟩:TShare) C3 v4)) rfl<|Bf 2 rfl<|RG.now .plain (Bv (j:=2) (old:=[vI v2,vI A2,vU z1,vU A1,vU B1,vU C1,vU D1,vU E1,vU F1,vU G1,vU H1,vU I1,vU J1,vU K1,vU M1,vU P1,vU Q1,vU R1,vU Y0,vU Z0,vU b1,vU c1,vU d1,vU g1,vU j1,vU k1,vU p1,vU q1,vU s1,vU t1,vU u1,vU v1,vU x1,vU y1,vU c0,vU d0,vU g0,vU j0,vU p0,vU q0,vU s0,vU t0,vU u0,vU v0,vU x0,vU y0,vU z0,vU A0,vU B0,vU C0,vU D0,vU E0,vU F0,vU G0,vU H0,vU I0,vU J0,vU K0,vU M0,vU P0,vU Q0,vU R0,vU U0,vU V0,vU W0,vU X0]) (news:=(cs_TShare U1)) (new' :=(([vI v2,vI A2]:List Value) ++ cs_TShare U1 ++ ([vU Y0,vU Z0,vU b1,vU c1,vU d1,vU g1,vU j1,vU k1,vU p1,vU q1,vU s1,vU t1,vU u1,vU v1,vU x1,vU y1,vU c0,vU d0,vU g0,vU j0,vU p0,vU q0,vU s0,vU t0,vU u0,vU v0,vU x0,vU y0,vU z0,vU A0,vU B0,vU C0,vU D0,vU E0,vU F0,vU G0,vU H0,vU I0,vU J0,vU K0,vU M0,vU P0,vU Q0,vU R0,vU U0,vU V0,vU W0,vU X0]:List Value))) c3 (.tl (.tl (.tl (.tl (.tl (.tl .hd)))))) rfl rfl rfl rfl rfl rfl (onesB rfl) rfl) (fun P02 I2 s6=>?_)
 refine Aa<|Ak<|dt 13 tb27_11 (fun j2 t2=>?_)
 refine Af 0 1 j2 rfl t2 (fun _=>AQ 18 rfl) rfl<|AA 1 3 14336 j2 rfl t2 (AR (cs:=[vU Y0,vU Z0,vU b1,vU c1,vU d1,vU g1,vU j1,vU k1,vU p1,vU q1,vU s1,vU t1,vU u1,vU v1,vU x1,vU y1]) (by kernel_rfl) rfl (mem_part (I2.memA (.tl (.tl (.tl (.tl (.tl (.tl .hd))))))) 18 16)) rfl<|Af 2 7 j2 rfl t2 (fun _=>AQ 1 rfl) rfl<|AA 3 15 15888 j2 rfl t2 (AJ rfl ((I2.memA (.tl .hd)) 1 _ rfl)) rfl ?_
 obtain ⟨u9,F8,h⟩:=bi h
 rcases u9 with G00 | B4
 have h:=exc_e h
 try dsimp only at h
 cases h
 have h:=exc_o h
 try dsimp only at h
 refine BA 4 31 15872 (.agg ((cs_TShare B4)).toArray) j2 rfl t2 body31 rfl (e2 rfl rfl) (fun w9 hw9=>AD (minority_of_c n _ w9 (I2.hL0 hL hw9) P2 (1:Int) F8)) rfl<|Af 5 63 j2 rfl t2 (fun _=>AQ 1 rfl) rfl<|AA 6 127 15872 j2 rfl t2 (AJ rfl ((I2.memA (.tl .hd)) 1 _ rfl)) rfl<|Af 7 255 j2 rfl t2 (fun _=>AQ 0 rfl) rfl<|AA 8 511 15872 j2 rfl t2 (AJ rfl ((I2.memA (.tl .hd)) 0 _ rfl)) rfl ?_
 obtain ⟨v9,G8,h⟩:=bi h
 rcases v9 with H00 | C4
 have h:=exc_e h
 try dsimp only at h
 cases h
 have h:=exc_o h
 try dsimp only at h
 refine BA 9 1023 15360 (.agg ((cs_TShare C4)).toArray) j2 rfl t2 body31 rfl (e2 rfl rfl) (fun w9 hw9=>AD (minority_of_c n _ w9 (I2.hL0 hL hw9) P2 V1.fG G8)) rfl ?_
 obtain ⟨x9,H8,h⟩:=bi h
 rcases x9 with I00 | D4
 have h:=exc_e h
 try dsimp only at h
 cases h
 have h:=exc_o h
 try dsimp only at h
 refine BA 10 2047 14336 (.agg ((cs_TShare D4)).toArray) j2 rfl t2 body30 rfl (e2 rfl rfl) (fun w9 hw9=>AD (minority_mul_c n _ w9 (I2.hL0 hL hw9) B4 C4 H8)) rfl ?_
 obtain ⟨y9,I8,h⟩:=bi h
 rcases y9 with J00 | Y1
 have h:=exc_e h
 try dsimp only at h
 cases h
 have h:=exc_o h
 try dsimp only at h
 refine BA 11 4095 12288 (.agg ((cs_TShare Y1)).toArray) j2 rfl t2 body65 rfl (e2 rfl rfl) (fun w9 hw9=>AD (minority_add_c n _ w9 (I2.hL0 hL hw9) (⟨(Y0,Z0,b1,c1,d1,g1,j1,k1),(p1,q1,s1,t1,u1,v1,x1,y1)⟩:TShare) D4 I8)) rfl<|Af 12 8191 j2 rfl t2 (fun _=>AQ 18 rfl) rfl<|Bq 13 16383 j2 rfl rfl .plain (Bv (j:=18) (old:=(([vI v2,vI A2]:List Value) ++ cs_TShare U1 ++ ([vU Y0,vU Z0,vU b1,vU c1,vU d1,vU g1,vU j1,vU k1,vU p1,vU q1,vU s1,vU t1,vU u1,vU v1,vU x1,vU y1,vU c0,vU d0,vU g0,vU j0,vU p0,vU q0,vU s0,vU t0,vU u0,vU v0,vU x0,vU y0,vU z0,vU A0,vU B0,vU C0,vU D0,vU E0,vU F0,vU G0,vU H0,vU I0,vU J0,vU K0,vU M0,vU P0,vU Q0,vU R0,vU U0,vU V0,vU W0,vU X0]:List Value))) (news:=(cs_TShare Y1)) (new' :=(([vI v2,vI A2]:List Value) ++ cs_TShare U1 ++ cs_TShare Y1 ++ ([vU c0,vU d0,vU g0,vU j0,vU p0,vU q0,vU s0,vU t0,vU u0,vU v0,vU x0,vU y0,vU z0,vU A0,vU B0,vU C0,vU D0,vU E0,vU F0,vU G0,vU H0,vU I0,vU J0,vU K0,vU M0,vU P0,vU Q0,vU R0,vU U0,vU V0,vU W0,vU X0]:List Value))) I2 (.tl (.tl (.tl (.tl (.tl (.tl .hd)))))) rfl rfl rfl rfl rfl rfl (onesB rfl) rfl) (fun Q02 Z2 t6=>?_)
 refine AH (dk j2)<|Ak<|dt 10 tb27_12 (fun x2 F2=>?_)
 refine Af 0 1 x2 rfl F2 (fun _=>AQ 34 rfl) rfl<|AA 1 3 1792 x2 rfl F2 (AR (cs:=[vU c0,vU d0,vU g0,vU j0,vU p0,vU q0,vU s0,vU t0,vU u0,vU v0,vU x0,vU y0,vU z0,vU A0,vU B0,vU C0]) (by kernel_rfl) rfl (mem_part (Z2.memA (.tl (.tl (.tl (.tl (.tl (.tl .hd))))))) 34 16)) rfl<|Af 2 7 x2 rfl F2 (fun _=>AQ 1 rfl) rfl<|AA 3 15 1936 x2 rfl F2 (AJ rfl ((Z2.memA (.tl .hd)) 1 _ rfl)) rfl ?_
 obtain ⟨z9,J8,h⟩:=bi h
 rcases z9 with K00 | E4
 have h:=exc_e h
 try dsimp only at h
 cases h
 have h:=exc_o h
 try dsimp only at h
 refine BA 4 31 1920 (.agg ((cs_TShare E4)).toArray) x2 rfl F2 body31 rfl (e2 rfl rfl) (fun w9 hw9=>AD (minority_of_c n _ w9 (Z2.hL0 hL hw9) P2 (1:Int) J8)) rfl<|Af 5 63 x2 rfl F2 (fun _=>AQ 2 rfl) rfl<|AA 6 127 1920 x2 rfl F2 (AR (cs:=(cs_TShare B2)) (by kernel_rfl) rfl (mem_part (Z2.memA (.tl .hd)) 2 16)) rfl ?_
 obtain ⟨A9,K8,h⟩:=bi h
 rcases A9 with M00 | F4
 have h:=exc_e h
 try dsimp only at h
 cases h
 have h:=exc_o h
 try dsimp only at h
 refine BA 7 255 1792 (.agg ((cs_TShare F4)).toArray) x2 rfl F2 body30 rfl (e2 rfl rfl) (fun w9 hw9=>AD (minority_mul_c n _ w9 (Z2.hL0 hL hw9) E4 B2 K8)) rfl ?_
 obtain ⟨B9,M8,h⟩:=bi h
 rcases B9 with P00 | b2
 have h:=exc_e h
 try dsimp only at h
 cases h
 have h:=exc_o h
 try dsimp only at h
 refine BA 8 511 1536 (.agg ((cs_TShare b2)).toArray) x2 rfl F2 body65 rfl (e2 rfl rfl) (fun w9 hw9=>AD (minority_add_c n _ w9 (Z2.hL0 hL hw9) (⟨(c0,d0,g0,j0,p0,q0,s0,t0),(u0,v0,x0,y0,z0,A0,B0,C0)⟩:TShare) F4 M8)) rfl<|Af 9 1023 x2 rfl F2 (fun _=>AQ 34 rfl) rfl<|Bq 10 2047 x2 rfl rfl .plain (Bv (j:=34) (old:=(([vI v2,vI A2]:List Value) ++ cs_TShare U1 ++ cs_TShare Y1 ++ ([vU c0,vU d0,vU g0,vU j0,vU p0,vU q0,vU s0,vU t0,vU u0,vU v0,vU x0,vU y0,vU z0,vU A0,vU B0,vU C0,vU D0,vU E0,vU F0,vU G0,vU H0,vU I0,vU J0,vU K0,vU M0,vU P0,vU Q0,vU R0,vU U0,vU V0,vU W0,vU X0]:List Value))) (news:=(cs_TShare b2)) (new' :=(([vI v2,vI A2]:List Value) ++ cs_TShare U1 ++ cs_TShare Y1 ++ cs_TShare b2 ++ ([vU D0,vU E0,vU F0,vU G0,vU H0,vU I0,vU J0,vU K0,vU M0,vU P0,vU Q0,vU R0,vU U0,vU V0,vU W0,vU X0]:List Value))) Z2 (.tl (.tl (.tl (.tl (.tl (.tl .hd)))))) rfl rfl rfl rfl rfl rfl (onesB rfl) rfl) (fun R02 d3 u6=>?_)
 refine AH (dk x2)<|dt 8 tb27_13 (fun G2 U2=>?_)
 refine Af 0 1 G2 rfl U2 (fun _=>AQ 50 rfl) rfl<|AA 1 3 448 G2 rfl U2 (AR (cs:=[vU D0,vU E0,vU F0,vU G0,vU H0,vU I0,vU J0,vU K0,vU M0,vU P0,vU Q0,vU R0,vU U0,vU V0,vU W0,vU X0]) (by kernel_rfl) rfl (mem_part (d3.memA (.tl (.tl (.tl (.tl (.tl (.tl .hd))))))) 50 16)) rfl<|AA 2 7 480 G2 rfl U2 (Az rfl (d3.memA .hd)) rfl<|Af 3 15 G2 rfl U2 (fun _=>AQ 2 rfl) rfl<|AA 4 31 480 G2 rfl U2 (AR (cs:=(cs_TShare B2)) (by kernel_rfl) rfl (mem_part (d3.memA (.tl .hd)) 2 16)) rfl ?_
 obtain ⟨C9,P8,h⟩:=bi h
 rcases C9 with Q00 | G4
 have h:=exc_e h
 try dsimp only at h
 cases h
 have h:=exc_o h
 try dsimp only at h
 refine BA 5 63 448 (.agg ((cs_TShare G4)).toArray) G2 rfl U2 body30 rfl (e2 rfl rfl) (fun w9 hw9=>AD (minority_mul_c n _ w9 (d3.hL0 hL hw9) C3 B2 P8)) rfl ?_
 obtain ⟨D9,Q8,h⟩:=bi h
 rcases D9 with R00 | c2
 have h:=exc_e h
 try dsimp only at h
 cases h
 have h:=exc_o h
 try dsimp only at h
 refine BA 6 127 384 (.agg ((cs_TShare c2)).toArray) G2 rfl U2 body65 rfl (e2 rfl rfl) (fun w9 hw9=>AD (minority_add_c n _ w9 (d3.hL0 hL hw9) (⟨(D0,E0,F0,G0,H0,I0,J0,K0),(M0,P0,Q0,R0,U0,V0,W0,X0)⟩:TShare) G4 Q8)) rfl<|Af 7 255 G2 rfl U2 (fun _=>AQ 50 rfl) rfl<|Bq 8 511 G2 rfl rfl .plain (Bv (j:=50) (old:=(([vI v2,vI A2]:List Value) ++ cs_TShare U1 ++ cs_TShare Y1 ++ cs_TShare b2 ++ ([vU D0,vU E0,vU F0,vU G0,vU H0,vU I0,vU J0,vU K0,vU M0,vU P0,vU Q0,vU R0,vU U0,vU V0,vU W0,vU X0]:List Value))) (news:=(cs_TShare c2)) (new' :=(([vI v2,vI A2]:List Value) ++ cs_TShare U1 ++ cs_TShare Y1 ++ cs_TShare b2 ++ cs_TShare c2)) d3 (.tl (.tl (.tl (.tl (.tl (.tl .hd)))))) rfl rfl rfl rfl rfl rfl (onesB rfl) rfl) (fun U02 Q5 v6=>?_)
 refine AH (dk G2)<|AC<|MX.roundEnd F6 Q5 (.tl (.tl (.tl .hd))) (fun V02 R5 x6=>?_)
 refine BC (i:=19) (rk X1) (RO.val (m' :=1048575) (sk X1) rfl .plain rfl (FV.not rfl) ?_)
 refine AH (dk X1)<|Bu rfl<|Av<|AC<|Ao<|Ab (Bl (i:=g2) (j:=1) rfl rfl (by omega))<|Ae rfl<|Aa ?_
 obtain ⟨U5,y6⟩:=AN R5 (.one (.tl (.tl (.tl .hd))) (.one (.tl (.tl (.tl .hd))) (.one (.tl (.tl (.tl .hd))) (.one (.tl (.tl (.tl .hd))) (.one (.tl (.tl (.tl .hd))) (.one (.tl (.tl (.tl .hd))) (.one (.tl (.tl (.tl .hd))) .done)))))))
 have X7:=Tt Y3 (Tt c6 (Tt d6 (Tt g6 (Tt j6 (Tt k6 (Tt p6 (Tt q6 (Tt s6 (Tt t6 (Tt u6 (Tt v6 (Tt x6 y6))))))))))))
 exact E3 (g2 + 1,v2,A2,U1.fN.1,U1.fN.2.1,U1.fN.2.2.1,U1.fN.2.2.2.1,U1.fN.2.2.2.2.1,U1.fN.2.2.2.2.2.1,U1.fN.2.2.2.2.2.2.1,U1.fN.2.2.2.2.2.2.2,U1.fD.1,U1.fD.2.1,U1.fD.2.2.1,U1.fD.2.2.2.1,U1.fD.2.2.2.2.1,U1.fD.2.2.2.2.2.1,U1.fD.2.2.2.2.2.2.1,U1.fD.2.2.2.2.2.2.2,Y1.fN.1,Y1.fN.2.1,Y1.fN.2.2.1,Y1.fN.2.2.2.1,Y1.fN.2.2.2.2.1,Y1.fN.2.2.2.2.2.1,Y1.fN.2.2.2.2.2.2.1,Y1.fN.2.2.2.2.2.2.2,Y1.fD.1,Y1.fD.2.1,Y1.fD.2.2.1,Y1.fD.2.2.2.1,Y1.fD.2.2.2.2.1,Y1.fD.2.2.2.2.2.1,Y1.fD.2.2.2.2.2.2.1,Y1.fD.2.2.2.2.2.2.2,b2.fN.1,b2.fN.2.1,b2.fN.2.2.1,b2.fN.2.2.2.1,b2.fN.2.2.2.2.1,b2.fN.2.2.2.2.2.1,b2.fN.2.2.2.2.2.2.1,b2.fN.2.2.2.2.2.2.2,b2.fD.1,b2.fD.2.1,b2.fD.2.2.1,b2.fD.2.2.2.1,b2.fD.2.2.2.2.1,b2.fD.2.2.2.2.2.1,b2.fD.2.2.2.2.2.2.1,b2.fD.2.2.2.2.2.2.2,c2.fN.1,c2.fN.2.1,c2.fN.2.2.1,c2.fN.2.2.2.1,c2.fN.2.2.2.2.1,c2.fN.2.2.2.2.2.1,c2.fN.2.2.2.2.2.2.1,c2.fN.2.2.2.2.2.2.2,c2.fD.1,c2.fD.2.1,c2.fD.2.2.1,c2.fD.2.2.2.1,c2.fD.2.2.2.2.1,c2.fD.2.2.2.2.2.1,c2.fD.2.2.2.2.2.2.1,c2.fD.2.2.2.2.2.2.2) _ _ ⟨rfl,rfl,rfl,rfl,rfl,trivial⟩ ⟨U5,(Tt F3 X7)⟩ h
 refine Bj rfl ?_
 have h:=thn_inr h k4
 try dsimp only at h
 refine MX.fin rfl<|Al (u:=.tuple #[]) G6 Tryz.func92 rfl .nil rfl<|MX.endRange0 Q3 .hd (by intro h9; cases h9) (fun d9 V5 G01=>?_)
 obtain ⟨g3,H01⟩:=AN V5 (.one (.tl .hd) (.one (.tl .hd) (.one (.tl .hd) (.one (.tl .hd) (.one (.tl .hd) (.one (.tl .hd) .done))))))
 refine AC<|Ac<|Ah rfl<|Aa<|Ak<|dt 8 tb27_15 (fun q2 q3=>?_)
 refine Af 0 1 q2 rfl q3 (fun _=>AQ 0 rfl) rfl<|AA 1 3 804 q2 rfl q3 (AJ rfl ((g3.memA (.tl (.tl .hd))) 0 _ rfl)) rfl ?_
 obtain ⟨E9,R8,h⟩:=bi h
 rcases E9 with U00 | t3
 have h:=exc_e h
 try dsimp only at h
 cases h
 have h:=exc_o h
 try dsimp only at h
 refine BA 2 7 800 (.agg ((cs_TShare t3)).toArray) q2 rfl q3 body31 rfl (e2 rfl rfl) (fun w9 hw9=>AD (minority_of_c n _ w9 (g3.hL0 hL hw9) Z1 (1:Int) R8)) rfl<|Af 3 15 q2 rfl q3 (fun _=>AQ 1 rfl) rfl<|AA 4 31 800 q2 rfl q3 (AJ rfl ((g3.memA (.tl (.tl .hd))) 1 _ rfl)) rfl ?_
 obtain ⟨F9,U8,h⟩:=bi h
 rcases F9 with V00 | W2
 have h:=exc_e h
 try dsimp only at h
 cases h
 have h:=exc_o h
 try dsimp only at h
 refine BA 5 63 768 (.agg ((cs_TShare W2)).toArray) q2 rfl q3 body31 rfl (e2 rfl rfl) (fun w9 hw9=>AD (minority_of_c n _ w9 (g3.hL0 hL hw9) W1 (1:Int) U8)) rfl<|RD.meet (α:=Nat × Nat) (fun ⟨u3,v3⟩=>[(6,vP C2),(7,vP D2),(8,vP E2),(11,.func (.func 66) #[] #[]),(105,.agg ((cs_TShare t3)).toArray),(108,.agg ((cs_TShare W2)).toArray),(12,vP v3),(13,vP u3)]) (fun ⟨u3,v3⟩ Z3=>St w Z3 [.cells u3 zL 34,.cells v3 zL 34,.obj H2 (.deferred (some [])),.cells E2 [vI Z1,vI W1,vU z1,vU A1,vU B1,vU C1,vU D1,vU E1,vU F1,vU G1,vU H1,vU I1,vU J1,vU K1,vU M1,vU P1,vU Q1,vU R1,vU Y0,vU Z0,vU b1,vU c1,vU d1,vU g1,vU j1,vU k1,vU p1,vU q1,vU s1,vU t1,vU u1,vU v1,vU x1,vU y1,vU c0,vU d0,vU g0,vU j0,vU p0,vU q0,vU s0,vU t0,vU u0,vU v0,vU x0,vU y0,vU z0,vU A0,vU B0,vU C0,vU D0,vU E0,vU F0,vU G0,vU H0,vU I0,vU J0,vU K0,vU M0,vU P0,vU Q0,vU R0,vU U0,vU V0,vU W0,vU X0] 76,.cells D2 (cs_TShare b0) 34,.cells C2 [vI 0,vI 0,vW 0,vW 0,vW 0,vW 0,vW 0,vW 0,vW 0,vW 0,vW 0,vW 0,vW 0,vW 0,vW 0,vW 0,vW 0,vW 0,vW 0,vW 0,vW 0,vW 0,vW 0,vW 0,vW 0,vW 0,vW 0,vW 0,vW 0,vW 0,vW 0,vW 0,vW 0,vW 0,vW 0,vW 0,vW 0,vW 0,vW 0,vW 0,vW 0,vW 0,vW 0,vW 0,vW 0,vW 0,vW 0,vW 0,vW 0,vW 0,vW 0,vW 0,vW 0,vW 0,vW 0,vW 0,vW 0,vW 0,vW 0,vW 0,vW 0,vW 0,vW 0,vW 0,vW 0,vW 0,vW 0,vW 0,vW 0,vW 0,vW 0,vW 0,vW 0,vW 0,vW 0,vW 0,vW 0,vW 0,vW 0,vW 0,vW 0,vW 0,vW 0,vW 0,vW 0,vW 0,vW 0,vW 0,vW 0,vW 0,vW 0,vW 0,vW 0,vW 0,vW 0,vW 0,vW 0,vW 0] 78]∧Tr d9 [.obj H2 (.deferred (some [])),.cells s2 [vI a0.fj,vI a0.fh,vI a0.fl,v0_3,vI a1,vI a2] 115,.cells E2 [vI Z1,vI W1,vU z1,vU A1,vU B1,vU C1,vU D1,vU E1,vU F1,vU G1,vU H1,vU I1,vU J1,vU K1,vU M1,vU P1,vU Q1,vU R1,vU Y0,vU Z0,vU b1,vU c1,vU d1,vU g1,vU j1,vU k1,vU p1,vU q1,vU s1,vU t1,vU u1,vU v1,vU x1,vU y1,vU c0,vU d0,vU g0,vU j0,vU p0,vU q0,vU s0,vU t0,vU u0,vU v0,vU x0,vU y0,vU z0,vU A0,vU B0,vU C0,vU D0,vU E0,vU F0,vU G0,vU H0,vU I0,vU J0,vU K0,vU M0,vU P0,vU Q0,vU R0,vU U0,vU V0,vU W0,vU X0] 76,.cells D2 (cs_TShare b0) 34,.cells C2 [vI 0,vI 0,vW 0,vW 0,vW 0,vW 0,vW 0,vW 0,vW 0,vW 0,vW 0,vW 0,vW 0,vW 0,vW 0,vW 0,vW 0,vW 0,vW 0,vW 0,vW 0,vW 0,vW 0,vW 0,vW 0,vW 0,vW 0,vW 0,vW 0,vW 0,vW 0,vW 0,vW 0,vW 0,vW 0,vW 0,vW 0,vW 0,vW 0,vW 0,vW 0,vW 0,vW 0,vW 0,vW 0,vW 0,vW 0,vW 0,vW 0,vW 0,vW 0,vW 0,vW 0,vW 0,vW 0,vW 0,vW 0,vW 0,vW 0,vW 0,vW 0,vW 0,vW 0,vW 0,vW 0,vW 0,vW 0,vW 0,vW 0,vW 0,vW 0,vW 0,vW 0,vW 0,vW 0,vW 0,vW 0,vW 0,vW 0,vW 0,vW 0,vW 0,vW 0,vW 0,vW 0,vW 0,vW 0,vW 0,vW 0,vW 0,vW 0,vW 0,vW 0,vW 0,vW 0,vW 0,vW 0,vW 0] 78,.cells Y2 [vI a0.fj,vI a0.fh,vI a0.fl,v0_3] 28] Z3 [.cells u3 zL 34,.cells v3 zL 34,.obj H2 (.deferred (some [])),.cells E2 [vI Z1,vI W1,vU z1,vU A1,vU B1,vU C1,vU D1,vU E1,vU F1,vU G1,vU H1,vU I1,vU J1,vU K1,vU M1,vU P1,vU Q1,vU R1,vU Y0,vU Z0,vU b1,vU c1,vU d1,vU g1,vU j1,vU k1,vU p1,vU q1,vU s1,vU t1,vU u1,vU v1,vU x1,vU y1,vU c0,vU d0,vU g0,vU j0,vU p0,vU q0,vU s0,vU t0,vU u0,vU v0,vU x0,vU y0,vU z0,vU A0,vU B0,vU C0,vU D0,vU E0,vU F0,vU G0,vU H0,vU I0,vU J0,vU K0,vU M0,vU P0,vU Q0,vU R0,vU U0,vU V0,vU W0,vU X0] 76,.cells D2 (cs_TShare b0) 34,.cells C2 [vI 0,vI 0,vW 0,vW 0,vW 0,vW 0,vW 0,vW 0,vW 0,vW 0,vW 0,vW 0,vW 0,vW 0,vW 0,vW 0,vW 0,vW 0,vW 0,vW 0,vW 0,vW 0,vW 0,vW 0,vW 0,vW 0,vW 0,vW 0,vW 0,vW 0,vW 0,vW 0,vW 0,vW 0,vW 0,vW 0,vW 0,vW 0,vW 0,vW 0,vW 0,vW 0,vW 0,vW 0,vW 0,vW 0,vW 0,vW 0,vW 0,vW 0,vW 0,vW 0,vW 0,vW 0,vW 0,vW 0,vW 0,vW 0,vW 0,vW 0,vW 0,vW 0,vW 0,vW 0,vW 0,vW 0,vW 0,vW 0,vW 0,vW 0,vW 0,vW 0,vW 0,vW 0,vW 0,vW 0,vW 0,vW 0,vW 0,vW 0,vW 0,vW 0,vW 0,vW 0,vW 0,vW 0,vW 0,vW 0,vW 0,vW 0,vW 0,vW 0,vW 0,vW 0,vW 0,vW 0,vW 0,vW 0] 78]) 2 255 ?_ ?_
 rintro ⟨u3,v3⟩ Z3 ⟨d5,Y00⟩
 try dsimp only
 refine Bq 8 511 q2 rfl rfl .plain (Aw (news:=(cs_TShare t3)) d5 (.tl .hd) rfl rfl rfl rfl rfl rfl (onesB rfl)) (fun g02 g5 Z00=>?_)
 refine Bq 9 1023 q2 rfl rfl .plain (Aw (news:=(cs_TShare W2)) g5 .hd rfl rfl rfl rfl rfl rfl (onesB rfl)) (fun j02 R2 b01=>?_)
 refine AH (dk q2)<|Ac<|Ae rfl<|Ab (Az rfl (R2.memA (.tl .hd)))<|Bf 18 rfl<|Ab (AR (cs:=[vU Y0,vU Z0,vU b1,vU c1,vU d1,vU g1,vU j1,vU k1,vU p1,vU q1,vU s1,vU t1,vU u1,vU v1,vU x1,vU y1]) (by kernel_rfl) rfl (mem_part (R2.memA (.tl (.tl (.tl .hd)))) 18 16))<|Ab (Az rfl (R2.memA .hd))<|Ab (Az rfl (R2.memA .hd)) ?_
 obtain ⟨g9,t4,h⟩:=bi h
 rcases g9 with z00 | Q2
 have h:=exc_e h
 try dsimp only at h
 refine Bg (fst:=[]) (cap:=[]) .plain body66 rfl (e4 rfl rfl rfl rfl) (fun w9 hw9=>minority_fitted_1_c n _ w9 (R2.hL0 hL hw9) t3 (⟨(Y0,Z0,b1,c1,d1,g1,j1,k1),(p1,q1,s1,t1,u1,v1,x1,y1)⟩:TShare) W2 W2 t4) (fun k02 z6=>?_)
 obtain ⟨j5,c01⟩:=R2.agr z6
 refine PN.take j5 (.tl (.tl .hd)) (fun p02 k5 d01=>?_)
 obtain ⟨p5,g01⟩:=AN k5 (.one .hd (.one .hd (.one (.tl .hd) (.one (.tl .hd) (.one (.tl .hd) .done)))))
 cases h
 exact AG hp0 Tryz.func27 ⟨p5.ag,rfl⟩
 have h:=exc_o h
 try dsimp only at h
 refine Ba (.agg ((cs_TShare Q2)).toArray) body66 rfl (e4 rfl rfl rfl rfl) (fun w9 hw9=>AD (minority_fitted_1_c n _ w9 (R2.hL0 hL hw9) t3 (⟨(Y0,Z0,b1,c1,d1,g1,j1,k1),(p1,q1,s1,t1,u1,v1,x1,y1)⟩:TShare) W2 W2 t4)) rfl<|Ai .plain rfl (Au zL R2) (fun q02 Q9 q5 j01=>?_)
 refine AL (cs_TShare Q2) q5 .hd (onesB rfl) (fun s02 y2 k01=>?_)
 refine Aa<|Ac<|Ab (Az rfl (y2.memA .hd))<|Ab (Az rfl (y2.memA (.tl (.tl (.tl (.tl (.tl .hd)))))))<|Ab (FV.eqlV (v:=.agg ((cs_TShare Q2)).toArray) (u:=.agg ((cs_TShare b0)).toArray) rfl rfl (eqlD_34 Q2 b0))<|Bc (fst:=[]) (cap:=[]) (vs:=[.bool (decide (Q2 = b0)),vI 7]) .plain body39 Tryz.func39 rfl rfl rfl rfl (e2 rfl rfl) rfl (fun c00 D6 z7=>?_)
 refine Ac<|Ae rfl<|Aa<|AX rfl h (fun H4 h=>?_) (fun H4 h=>?_)
 refine Ao<|Ae rfl<|Bc (fst:=[]) (cap:=[]) (vs:=[vI 7]) .plain body50 Tryz.func50 rfl rfl rfl rfl (e1 rfl) rfl (fun d00 J01 A7=>?_)
 refine Ac<|Ae rfl<|Ab (FV.neqN (i:=7) (j:=0) rfl rfl)<|Aa<|AV rfl<|Ao<|Ae rfl<|Ab (AK (vs:=[vI 7]) (u:=.agg #[vI 7]) (e1 rfl) (fun w9=>by kernel_rfl))<|Ab (Bn (by kernel_rfl) rfl)<|RG.panic .plain rfl<|AG A7 Tryz.func50<|AG z7 Tryz.func39<|PN.take y2 (.tl (.tl (.tl .hd))) (fun t02 s5 p01=>?_)
 obtain ⟨t5,q01⟩:=AN s5 (.one .hd (.one .hd (.one .hd (.one (.tl .hd) (.one (.tl .hd) (.one (.tl .hd) .done))))))
 cases h
 exact AG hp0 Tryz.func27 ⟨t5.ag,rfl⟩
 refine Av<|MX.fin rfl<|Al (u:=.tuple #[]) D6 Tryz.func39 rfl .nil rfl<|Aa<|Ak<|dt 11 tb27_18 (fun u2 z2=>?_)
 refine AA 0 1 3072 u2 rfl z2 (Az rfl (y2.memA (.tl (.tl (.tl (.tl .hd)))))) rfl<|AA 1 3 3072 u2 rfl z2 (Az rfl (y2.memA .hd)) rfl<|Af 2 7 u2 rfl z2 (fun _=>Aj rfl) rfl<|AA 3 15 3584 u2 rfl z2 (Az rfl (y2.memA (.tl (.tl .hd)))) rfl<|Af 4 31 u2 rfl z2 (fun _=>AQ 34 rfl) rfl<|AA 5 63 3584 u2 rfl z2 (AR (cs:=[vU c0,vU d0,vU g0,vU j0,vU p0,vU q0,vU s0,vU t0,vU u0,vU v0,vU x0,vU y0,vU z0,vU A0,vU B0,vU C0]) (by kernel_rfl) rfl (mem_part (y2.memA (.tl (.tl (.tl (.tl .hd))))) 34 16)) rfl<|AA 6 127 3584 u2 rfl z2 (Az rfl (y2.memA (.tl .hd))) rfl<|Af 7 255 u2 rfl z2 (fun _=>AQ 2 rfl) rfl<|AA 8 511 3584 u2 rfl z2 (AR (cs:=[vU z1,vU A1,vU B1,vU C1,vU D1,vU E1,vU F1,vU G1,vU H1,vU I1,vU J1,vU K1,vU M1,vU P1,vU Q1,vU R1]) (by kernel_rfl) rfl (mem_part (y2.memA (.tl (.tl (.tl (.tl .hd))))) 2 16)) rfl ?_
 obtain ⟨j9,B8,h⟩:=bi h
 rcases j9 with A00 | B3
 have h:=exc_e h
 try dsimp only at h
 cases h
 have h:=exc_o h
 try dsimp only at h
 refine BA 9 1023 3072 (.agg ((cs_TShare B3)).toArray) u2 rfl z2 body66 rfl (e4 rfl rfl rfl rfl) (fun w9 hw9=>AD (minority_fitted_1_c n _ w9 (y2.hL0 hL hw9) t3 (⟨(c0,d0,g0,j0,p0,q0,s0,t0),(u0,v0,x0,y0,z0,A0,B0,C0)⟩:TShare) W2 (⟨(z1,A1,B1,C1,D1,E1,F1,G1),(H1,I1,J1,K1,M1,P1,Q1,R1)⟩:TShare) B8)) rfl<|Af 10 2047 u2 rfl z2 (fun _=>AK (vs:=[.agg #[vI Z1,vI W1,vU z1,vU A1,vU B1,vU C1,vU D1,vU E1,vU F1,vU G1,vU H1,vU I1,vU J1,vU K1,vU M1,vU P1,vU Q1,vU R1,vU Y0,vU Z0,vU b1,vU c1,vU d1,vU g1,vU j1,vU k1,vU p1,vU q1,vU s1,vU t1,vU u1,vU v1,vU x1,vU y1,vU c0,vU d0,vU g0,vU j0,vU p0,vU q0,vU s0,vU t0,vU u0,vU v0,vU x0,vU y0,vU z0,vU A0,vU B0,vU C0,vU D0,vU E0,vU F0,vU G0,vU H0,vU I0,vU J0,vU K0,vU M0,vU P0,vU Q0,vU R0,vU U0,vU V0,vU W0,vU X0],.agg ((cs_TShare Q2)).toArray,.agg ((cs_TShare B3)).toArray]) (u:=.agg ((([vI Z1,vI W1,vU z1,vU A1,vU B1,vU C1,vU D1,vU E1,vU F1,vU G1,vU H1,vU I1,vU J1,vU K1,vU M1,vU P1,vU Q1,vU R1,vU Y0,vU Z0,vU b1,vU c1,vU d1,vU g1,vU j1,vU k1,vU p1,vU q1,vU s1,vU t1,vU u1,vU v1,vU x1,vU y1,vU c0,vU d0,vU g0,vU j0,vU p0,vU q0,vU s0,vU t0,vU u0,vU v0,vU x0,vU y0,vU z0,vU A0,vU B0,vU C0,vU D0,vU E0,vU F0,vU G0,vU H0,vU I0,vU J0,vU K0,vU M0,vU P0,vU Q0,vU R0,vU U0,vU V0,vU W0,vU X0]:List Value) ++ cs_TShare Q2 ++ cs_TShare B3)).toArray) (e3 rfl rfl rfl) (fun w9=>by kernel_rfl)) rfl<|Bq 11 4095 u2 rfl rfl .plain (Aw (news:=(([vI Z1,vI W1,vU z1,vU A1,vU B1,vU C1,vU D1,vU E1,vU F1,vU G1,vU H1,vU I1,vU J1,vU K1,vU M1,vU P1,vU Q1,vU R1,vU Y0,vU Z0,vU b1,vU c1,vU d1,vU g1,vU j1,vU k1,vU p1,vU q1,vU s1,vU t1,vU u1,vU v1,vU x1,vU y1,vU c0,vU d0,vU g0,vU j0,vU p0,vU q0,vU s0,vU t0,vU u0,vU v0,vU x0,vU y0,vU z0,vU A0,vU B0,vU C0,vU D0,vU E0,vU F0,vU G0,vU H0,vU I0,vU J0,vU K0,vU M0,vU P0,vU Q0,vU R0,vU U0,vU V0,vU W0,vU X0]:List Value) ++ cs_TShare Q2 ++ cs_TShare B3)) y2 (.tl (.tl (.tl (.tl (.tl (.tl .hd)))))) rfl rfl rfl rfl rfl rfl (onesB rfl)) (fun u02 u5 s01=>?_)
 refine AH (dk u2)<|Am rfl<|RT.take u5 (.tl (.tl (.tl .hd))) (fun v02 v5 t01=>?_)
 obtain ⟨g4,u01⟩:=AN v5 (.one .hd (.one .hd (.one .hd (.one (.tl .hd) (.one (.tl .hd) (.one (.tl .hd) .done))))))
 refine Al hb0 Tryz.func27 rfl (.cons (.many (cs:=(([vI Z1,vI W1,vU z1,vU A1,vU B1,vU C1,vU D1,vU E1,vU F1,vU G1,vU H1,vU I1,vU J1,vU K1,vU M1,vU P1,vU Q1,vU R1,vU Y0,vU Z0,vU b1,vU c1,vU d1,vU g1,vU j1,vU k1,vU p1,vU q1,vU s1,vU t1,vU u1,vU v1,vU x1,vU y1,vU c0,vU d0,vU g0,vU j0,vU p0,vU q0,vU s0,vU t0,vU u0,vU v0,vU x0,vU y0,vU z0,vU A0,vU B0,vU C0,vU D0,vU E0,vU F0,vU G0,vU H0,vU I0,vU J0,vU K0,vU M0,vU P0,vU Q0,vU R0,vU U0,vU V0,vU W0,vU X0]:List Value) ++ cs_TShare Q2 ++ cs_TShare B3)) (by kernel_rfl) rfl (g4.memA (.tl (.tl (.tl (.tl (.tl .hd))))))) .nil) rfl ?_
 cases h
 exact ⟨g4.ag,fun w9 hw9=>okOf_in rfl⟩
 intro d4
 refine RD.each [6,7] (rk q2) ⟨?_,?_,trivial⟩
 refine RO.new (m' :=127) (sk q2) rfl .plain rfl (Au zL g3) (fun X8 J3 M3 W3=>?_)
 refine RD.nu 7 255 q2 rfl .plain rfl (Au zL M3) (fun Y8 K3 P3 X3=>?_)
 obtain ⟨x5,W5⟩:=AN P3 (.one .hd (.one .hd (.one .hd (.one (.tl .hd) (.one (.tl .hd) (.one (.tl .hd) .done))))))
 have P7:=Tt W3 (Tt X3 W5)
 exact d4 (K3,J3) _ _ ⟨rfl,rfl,rfl,rfl,rfl,rfl,rfl,rfl,trivial⟩ ⟨x5,P7⟩
 refine RO.new (m' :=191) (sk q2) rfl .plain rfl (Au zL g3) (fun Y8 K3 P3 X3=>?_)
 refine RD.nu 6 255 q2 rfl .plain rfl (Au zL P3) (fun X8 J3 M3 W3=>?_)
 obtain ⟨y5,X5⟩:=AN M3 (.one (.tl .hd) (.one .hd (.one .hd (.one (.tl .hd) (.one (.tl .hd) (.one (.tl .hd) .done))))))
 have Q7:=Tt X3 (Tt W3 X5)
 exact d4 (K3,J3) _ _ ⟨rfl,rfl,rfl,rfl,rfl,rfl,rfl,rfl,trivial⟩ ⟨y5,Q7⟩
 refine Ao<|Ae rfl<|Ab (AK (vs:=[vI A3]) (u:=.agg #[vI A3]) (e1 rfl) (fun w9=>by kernel_rfl))<|Ab (Bn (by kernel_rfl) rfl)<|RG.panic .plain rfl<|AG B7 Tryz.func50 ?_
 cases h
 exact AG hp0 Tryz.func27 ⟨k2.ag,rfl⟩
def tb94_1:List (Nat × Nat × Nat):=[(0,32,4),(1,64,32),(0,128,8),(4,256,128),(10,512,320),(0,1024,4),(32,2048,1024),(0,4096,8),(128,8192,4096),(336,16384,10240),(528,32768,16896),(2047,0,32784)]
def share_Ratio_Over_p (n:Nat) (a0:TRatio) (a1:TRatio):Option TRatio:=
  (wide_Long_Times_p n a0.ft a1.fp).bind fun b0=>(wide_Long_Times_p n a0.fp a1.ft).bind fun c0=>(share_Lowest_p n b0 c0).bind fun d0=>some d0
theorem share_Ratio_Over_c (n:Nat) (L:List Nat) (w:World) (hL:∀ b ∈ L,b < w.heap.size) (a0:TRatio) {v0_1:Value} (h0_1:Rep.R w L [v0_1] a0.ft.fo) {v0_3:Value} (h0_3:Rep.R w L [v0_3] a0.fp.fo) (a1:TRatio) {v1_1:Value} (h1_1:Rep.R w L [v1_1] a1.ft.fo) {v1_3:Value} (h1_3:Rep.R w L [v1_3] a1.fp.fo)  {r:TRatio} (h:share_Ratio_Over_p n a0 a1 = some r) :
    Calls Tryz.prog 94 #[.agg #[.bool a0.ft.fe,v0_1,.bool a0.fp.fe,v0_3],.agg #[.bool a1.ft.fe,v1_1,.bool a1.fp.fe,v1_3]] w (Gives w fun w' u=>∃ v0_1 v0_3:Value,u = .agg #[.bool r.ft.fe,v0_1,.bool r.fp.fe,v0_3]∧Rep.R w' L [v0_1] r.ft.fo∧Rep.R w' L [v0_3] r.fp.fo):=by
 unfold share_Ratio_Over_p at h
 have hS0:=Ax w
 refine AE Tryz.func94 rfl rfl rfl (fun _ cs0 hb0=>?_)
 refine Ac<|Ai .plain rfl (Ar hS0 rfl rfl) (fun p1 R0 x0 W0=>?_)
 refine Ai .plain rfl (Ar x0 rfl rfl) (fun q1 U0 y0 X0=>?_)
 refine Ai .plain rfl (Au [.bool false,vN,.bool false,vN] y0) (fun s1 V0 c0 Y0=>?_)
 refine Aa<|Ak<|dt 11 tb94_1 (fun b0 d0=>?_)
 refine Af 0 1 b0 rfl d0 (fun _=>AQ 0 rfl) rfl<|AA 1 3 3600 b0 rfl d0 (AR (cs:=[.bool a0.ft.fe,v0_1]) (by kernel_rfl) rfl (mem_part (c0.memA (.tl (.tl .hd))) 0 2)) rfl<|Af 2 7 b0 rfl d0 (fun _=>AQ 2 rfl) rfl<|AA 3 15 3600 b0 rfl d0 (AR (cs:=[.bool a1.fp.fe,v1_3]) (by kernel_rfl) rfl (mem_part (c0.memA (.tl .hd)) 2 2)) rfl<|Af 5 47 b0 rfl d0 (fun _=>AQ 2 rfl) rfl<|AA 6 111 3584 b0 rfl d0 (AR (cs:=[.bool a0.fp.fe,v0_3]) (by kernel_rfl) rfl (mem_part (c0.memA (.tl (.tl .hd))) 2 2)) rfl<|Af 7 239 b0 rfl d0 (fun _=>AQ 0 rfl) rfl<|AA 8 495 3584 b0 rfl d0 (AR (cs:=[.bool a1.ft.fe,v1_1]) (by kernel_rfl) rfl (mem_part (c0.memA (.tl .hd)) 0 2)) rfl ?_
 obtain ⟨P0,J0,h⟩:=bi h
 refine Bp 4 511 b0 rfl .plain body98 rfl (e2 rfl rfl) (fun w9 hw9=>wide_Long_Times_c n _ w9 (c0.hL hL hw9) a0.ft (c0.km h0_1 hw9) a1.fp (c0.km h1_3 hw9) J0) rfl (fun t1 g1 B0 ⟨c1,hu_,H0⟩=>?_)
 subst hu_
 obtain ⟨g0,Z0⟩:=c0.agr B0
 obtain ⟨Q0,K0,h⟩:=bi h
 refine Bp 9 1023 b0 rfl .plain body98 rfl (e2 rfl rfl) (fun w9 hw9=>wide_Long_Times_c n _ w9 (g0.hL hL hw9) a0.fp (g0.km h0_3 hw9) a1.ft (g0.km h1_1 hw9) K0) rfl (fun u1 j1 C0 ⟨d1,hu_,I0⟩=>?_)
 subst hu_
 obtain ⟨s0,A0⟩:=g0.agr C0
 obtain ⟨k0,M0,h⟩:=bi h
 have E0:=Ay H0 A0
 refine Bp 10 2047 b0 rfl .plain body95 rfl (e2 rfl rfl) (fun w9 hw9=>share_Lowest_c n _ w9 (s0.hL hL hw9) P0 (Aq E0 hw9) Q0 (Aq I0 hw9) M0) rfl (fun v1 k1 D0 ⟨p0,q0,hu_,u0,v0⟩=>?_)
 subst hu_
 obtain ⟨z0,b1⟩:=s0.agr D0
 refine Bq 11 4095 b0 rfl rfl .plain (Aw (news:=[.bool k0.ft.fe,p0,.bool k0.fp.fe,q0]) z0 .hd rfl rfl rfl rfl rfl rfl (o4 rfl (AU u0) rfl (AU v0))) (fun x1 j0 t0=>?_)
 refine AH (dk b0)<|Am rfl<|Al hb0 Tryz.func94 rfl (.cons (.many (cs:=[.bool k0.ft.fe,p0,.bool k0.fp.fe,q0]) (by kernel_rfl) rfl (j0.memA .hd)) .nil) rfl ?_
 cases h
 have F0:=Ay u0 t0
 have G0:=Ay v0 t0
 exact ⟨j0.ag,fun w9 hw9=>⟨p0,q0,rfl,j0.kd F0 hw9,j0.kd G0 hw9⟩⟩
theorem body94:bodyB Tryz.prog 94 = true:=by kernel_rfl
def share_Div_p (n:Nat) (a0:TShare) (a1:TShare):Option (TShare × Int):=
  (share_valid_p n ([a0,a1]:List TShare)).bind fun s0=>(if s0 = true then (if a1.fN = ((0:UInt64),(0:UInt64),(0:UInt64),(0:UInt64),(0:UInt64),(0:UInt64),(0:UInt64),(0:UInt64)) then some ((⟨((0:UInt64),(0:UInt64),(0:UInt64),(0:UInt64),(0:UInt64),(0:UInt64),(0:UInt64),(0:UInt64)),((0:UInt64),(0:UInt64),(0:UInt64),(0:UInt64),(0:UInt64),(0:UInt64),(0:UInt64),(0:UInt64))⟩:TShare),(7:Int)) else (share_valid_p n ([a0,a1]:List TShare)).bind fun t0=>(if t0 = true then (share_Read_p n a0).bind fun u0=>(share_Read_p n a1).bind fun v0=>(share_Ratio_Over_p n u0 v0).bind fun x0=>(share_told_p n x0 (0:Int)).bind fun b0=>some (b0.1,b0.2) else (share_told_p n (⟨(⟨false,([]:List UInt64)⟩:TLong),(⟨false,([]:List UInt64)⟩:TLong)⟩:TRatio) (20:Int)).bind fun c0=>some (c0.1,c0.2))) else (share_valid_p n ([a0,a1]:List TShare)).bind fun j0=>(if j0 = true then (share_Read_p n a0).bind fun k0=>(share_Read_p n a1).bind fun p0=>(share_Ratio_Over_p n k0 p0).bind fun q0=>(share_told_p n q0 (0:Int)).bind fun d0=>some (d0.1,d0.2) else (share_told_p n (⟨(⟨false,([]:List UInt64)⟩:TLong),(⟨false,([]:List UInt64)⟩:TLong)⟩:TRatio) (20:Int)).bind fun g0=>some (g0.1,g0.2)))
theorem share_Div_c (n:Nat) (L:List Nat) (w:World) (hL:∀ b ∈ L,b < w.heap.size) (a0:TShare) (a1:TShare)  {r:TShare × Int} (h:share_Div_p n a0 a1 = some r) :
    Calls Tryz.prog 67 #[.agg ((cs_TShare a0)).toArray,.agg ((cs_TShare a1)).toArray] w (Gives w fun _ u=>u = .tuple #[.agg ((cs_TShare r.1)).toArray,vI r.2]):=by
 unfold share_Div_p at h
 have hS0:=Ax w
 refine AE Tryz.func67 rfl rfl rfl (fun _ cs0 hb0=>?_)
 refine Ac<|Ai .plain rfl (Ar hS0 rfl rfl) (fun C4 Y2 y1 B3=>?_)
 refine Ai .plain rfl (Ar y1 rfl rfl) (fun M4 b3 B1 G3=>?_)
 refine Ai .plain rfl (Au zL B1) (fun X4 d3 B0 M3=>?_)
 refine Ah rfl<|Aa<|Ak<|Ac<|Ab (Az rfl (B0.memA (.tl (.tl .hd))))<|Ab (Az rfl (B0.memA (.tl .hd)))<|Ai .plain rfl (AT (α:=TShare) (xs:=([a0,a1]:List TShare)) (vs:=[.agg ((cs_TShare a0)).toArray,.agg ((cs_TShare a1)).toArray]) (ds' :=(cs_TShare a0 ++ cs_TShare a1)) rfl B0 el60 rfl (e2 rfl rfl) (by kernel_rfl) rfl) (fun Y4 g3 b0 P3=>?_)
 have Q1:=AM (cs:=(cs_TShare a0 ++ cs_TShare a1)) (xs:=(([a0,a1]:List TShare):List TShare)) b0 L (Ap (cs:=(cs_TShare a0)) (ds:=(cs_TShare a1)) (mk_TShare a0.fN a0.fD) (Ap (cs:=(cs_TShare a1)) (ds:=[]) (mk_TShare a1.fN a1.fD) (AS _ _)))
 obtain ⟨M2,D2,h⟩:=bi h
 refine Ba (.bool M2) body93 rfl (e1 rfl) (fun w9 hw9=>share_valid_c n _ w9 (b0.hL0 hL hw9) ([a0,a1]:List TShare) (Aq (St.lend (α:=TShare) (L:=L) b0 .hd Q1 hL) hw9) D2) rfl<|Ae rfl<|RG.ifb (s:=10) rfl h (fun u1 h=>?_) (fun u1 h=>?_)
 refine RG.fg 0 rfl<|AW (AR (cs:=(cs_A31 a1.fN)) (by kernel_rfl) rfl (mem_part (b0.memA (.tl (.tl .hd))) 0 8))<|AW (AK (vs:=[]) (u:=.agg zQ) evs_nil (fun w9=>by kernel_rfl))<|AW (FV.eqlV (v:=.agg ((cs_A31 a1.fN)).toArray) (u:=.agg zQ) rfl rfl (eqlD_32 a1.fN ((0:UInt64),(0:UInt64),(0:UInt64),(0:UInt64),(0:UInt64),(0:UInt64),(0:UInt64),(0:UInt64))))<|RG.pt rfl rfl<|Aa<|AX rfl h (fun v1 h=>?_) (fun v1 h=>?_)
 refine Ac<|Ab (AK (vs:=[]) (u:=.agg zM) evs_nil (fun w9=>by kernel_rfl))<|AL zL b0 (.tl .hd) (onesB rfl) (fun Z4 W0 Q3=>?_)
 refine Ah rfl<|Aa<|Am rfl<|Al hb0 Tryz.func67 rfl (.cons (.many (cs:=zL) (by kernel_rfl) rfl (W0.memA (.tl .hd))) (.cons (.tmp rfl) .nil)) rfl ?_
 cases h
 exact W0.gv
 refine Av<|Ac<|Ab (Az rfl (b0.memA (.tl (.tl (.tl .hd)))))<|Ab (Az rfl (b0.memA (.tl (.tl .hd))))<|Bc (fst:=[]) (cap:=[]) (vs:=[.agg ((cs_TShare a0)).toArray,.agg ((cs_TShare a1)).toArray,.func (.func 94) #[] #[]]) .plain body71 Tryz.func71 rfl rfl rfl rfl (e3 rfl rfl rfl) rfl (fun t3 j1 b4=>?_)
 refine Ac<|Ai .plain rfl (Ar b0 rfl rfl) (fun b5 j3 D1 R3=>?_)
 refine Ai .plain rfl (Ar D1 rfl rfl) (fun c5 k3 E1 U3=>?_)
 refine Ai .plain rfl (Au [.bool false,vN,.bool false,vN] E1) (fun d5 p3 C0 V3=>?_)
 refine Ah rfl<|Aa<|Ak<|Ac<|Ab (Az rfl (C0.memA (.tl (.tl .hd))))<|Ab (Az rfl (C0.memA (.tl .hd)))<|Ai .plain rfl (AT (α:=TShare) (xs:=([a0,a1]:List TShare)) (vs:=[.agg ((cs_TShare a0)).toArray,.agg ((cs_TShare a1)).toArray]) (ds' :=(cs_TShare a0 ++ cs_TShare a1)) rfl C0 el60 rfl (e2 rfl rfl) (by kernel_rfl) rfl) (fun g5 q3 j0 W3=>?_)
 have R1:=AM (cs:=(cs_TShare a0 ++ cs_TShare a1)) (xs:=(([a0,a1]:List TShare):List TShare)) j0 L (Ap (cs:=(cs_TShare a0)) (ds:=(cs_TShare a1)) (mk_TShare a0.fN a0.fD) (Ap (cs:=(cs_TShare a1)) (ds:=[]) (mk_TShare a1.fN a1.fD) (AS _ _)))
 obtain ⟨P2,E2,h⟩:=bi h
 refine Ba (.bool P2) body93 rfl (e1 rfl) (fun w9 hw9=>share_valid_c n _ w9 (j0.hL0 hL hw9) ([a0,a1]:List TShare) (Aq (St.lend (α:=TShare) (L:=L) j0 .hd R1 hL) hw9) E2) rfl<|Ab (FV.not rfl)<|Aa<|MX.ifnb rfl h (fun x1 h=>?_) (fun x1 h=>?_)
 refine Av<|Ak<|dt 6 tb71_4 (fun d0 E0=>?_)
 refine Af 0 1 d0 rfl E0 (fun _=>Aj rfl) rfl<|AA 1 3 244 d0 rfl E0 (Az rfl (j0.memA (.tl (.tl (.tl .hd))))) rfl<|AA 3 11 240 d0 rfl E0 (Az rfl (j0.memA (.tl (.tl .hd)))) rfl ?_
 obtain ⟨Q2,F2,h⟩:=bi h
 refine Bp 2 15 d0 rfl .plain body83 rfl (e1 rfl) (fun w9 hw9=>share_Read_c n _ w9 (j0.hL hL hw9) a0 F2) rfl (fun j5 x4 J1 ⟨k4,p4,hu_,p2,q2⟩=>?_)
 subst hu_
 obtain ⟨X0,X3⟩:=j0.agr J1
 obtain ⟨R2,G2,h⟩:=bi h
 refine Bp 4 31 d0 rfl .plain body83 rfl (e1 rfl) (fun w9 hw9=>share_Read_c n _ w9 (X0.hL hL hw9) a1 G2) rfl (fun k5 y4 K1 ⟨q4,s4,hu_,s2,t2⟩=>?_)
 subst hu_
 obtain ⟨Y0,c1⟩:=X0.agr K1
 obtain ⟨p0,H2,h⟩:=bi h
 have b2:=Ay p2 c1
 have c2:=Ay q2 c1
 refine Bp 5 63 d0 rfl .plain body94 rfl (e2 rfl rfl) (fun w9 hw9=>share_Ratio_Over_c n _ w9 (Y0.hL hL hw9) Q2 (Aq b2 hw9) (Aq c2 hw9) R2 (Aq s2 hw9) (Aq t2 hw9) H2) rfl (fun p5 z4 M1 ⟨H0,I0,hu_,q1,s1⟩=>?_)
 subst hu_
 obtain ⟨F1,Y3⟩:=Y0.agr M1
 refine Bq 6 127 d0 rfl rfl .plain (Aw (news:=[.bool p0.ft.fe,H0,.bool p0.fp.fe,I0]) F1 (.tl .hd) rfl rfl rfl rfl rfl rfl (o4 rfl (AU q1) rfl (AU s1))) (fun q5 s0 d1=>?_)
 refine BC (i:=7) (rk d0) (RO.val (m' :=255) (sk d0) rfl .plain rfl (AY rfl) ?_)
 refine AH (dk d0)<|Am rfl<|Al (u:=.tuple #[.agg #[.bool p0.ft.fe,H0,.bool p0.fp.fe,I0],vI 0]) j1 Tryz.func71 rfl (.cons (.many (cs:=[.bool p0.ft.fe,H0,.bool p0.fp.fe,I0]) (by kernel_rfl) rfl (s0.memA (.tl .hd))) (.cons (.tmp rfl) .nil)) rfl<|Ab (Ag rfl rfl)<|Ab (Ag rfl rfl) ?_
 obtain ⟨t0,u2,h⟩:=bi h
 have U1:=Ay q1 d1
 have V1:=Ay s1 d1
 refine Ba (.tuple #[.agg ((cs_TShare t0.1)).toArray,vI t0.2]) body70 rfl (e2 rfl rfl) (fun w9 hw9=>share_told_c n _ w9 (s0.hL0 hL hw9) p0 (s0.kd U1 hw9) (s0.kd V1 hw9) (0:Int) u2) rfl<|Ab (Ag rfl rfl)<|Ab (Ag rfl rfl)<|AL (cs_TShare t0.1) s0 (.tl (.tl (.tl (.tl (.tl .hd))))) (onesB rfl) (fun A4 J0 u3=>?_)
 refine Ah rfl<|Aa<|Am rfl<|Al hb0 Tryz.func67 rfl (.cons (.many (cs:=(cs_TShare t0.1)) (by kernel_rfl) rfl (J0.memA (.tl (.tl (.tl (.tl (.tl .hd))))))) (.cons (.tmp rfl) .nil)) rfl ?_
 cases h
 exact J0.gv
 refine Ac<|Ai .plain rfl (Au [.bool false,vN,.bool false,vN] j0) (fun B4 U2 K0 v3=>?_)
 refine Aa<|Ac<|Ab (Az rfl (K0.memA .hd))<|AL [.bool false,vN,.bool false,vN] K0 (.tl (.tl .hd)) (onesB rfl) (fun D4 y0 x3=>?_)
 refine Ah rfl<|Aa<|Am rfl<|Al (u:=.tuple #[.agg #[.bool false,vN,.bool false,vN],vI 20]) j1 Tryz.func71 rfl (.cons (.many (cs:=[.bool false,vN,.bool false,vN]) (by kernel_rfl) rfl (y0.memA (.tl (.tl .hd)))) (.cons (.tmp rfl) .nil)) rfl<|Ab (Ag rfl rfl)<|Ab (Ag rfl rfl) ?_
 obtain ⟨u0,v2,h⟩:=bi h
 refine Ba (.tuple #[.agg ((cs_TShare u0.1)).toArray,vI u0.2]) body70 rfl (e2 rfl rfl) (fun w9 hw9=>share_told_c n _ w9 (y0.hL0 hL hw9) (⟨(⟨false,([]:List UInt64)⟩:TLong),(⟨false,([]:List UInt64)⟩:TLong)⟩:TRatio) (Aq (Rep.nilSlice _ _) hw9) (Aq (Rep.nilSlice _ _) hw9) (20:Int) v2) rfl<|Ab (Ag rfl rfl)<|Ab (Ag rfl rfl)<|AL (cs_TShare u0.1) y0 (.tl (.tl (.tl (.tl (.tl (.tl .hd)))))) (onesB rfl) (fun E4 M0 y3=>?_)
 refine Ah rfl<|Aa<|Am rfl<|Al hb0 Tryz.func67 rfl (.cons (.many (cs:=(cs_TShare u0.1)) (by kernel_rfl) rfl (M0.memA (.tl (.tl (.tl (.tl (.tl (.tl .hd)))))))) (.cons (.tmp rfl) .nil)) rfl ?_
 cases h
 exact M0.gv
 refine AO<|AO<|AO<|AO<|RG.pf rfl rfl<|Aa<|Bu rfl<|Av<|Ac<|Ab (Az rfl (b0.memA (.tl (.tl (.tl .hd)))))<|Ab (Az rfl (b0.memA (.tl (.tl .hd))))<|Bc (fst:=[]) (cap:=[]) (vs:=[.agg ((cs_TShare a0)).toArray,.agg ((cs_TShare a1)).toArray,.func (.func 94) #[] #[]]) .plain body71 Tryz.func71 rfl rfl rfl rfl (e3 rfl rfl rfl) rfl (fun s3 g1 Z3=>?_)
 refine Ac<|Ai .plain rfl (Ar b0 rfl rfl) (fun F4 V2 z1 z3=>?_)
 refine Ai .plain rfl (Ar z1 rfl rfl) (fun G4 W2 A1 A3=>?_)
 refine Ai .plain rfl (Au [.bool false,vN,.bool false,vN] A1) (fun H4 X2 z0 C3=>?_)
 refine Ah rfl<|Aa<|Ak<|Ac<|Ab (Az rfl (z0.memA (.tl (.tl .hd))))<|Ab (Az rfl (z0.memA (.tl .hd)))<|Ai .plain rfl (AT (α:=TShare) (xs:=([a0,a1]:List TShare)) (vs:=[.agg ((cs_TShare a0)).toArray,.agg ((cs_TShare a1)).toArray]) (ds' :=(cs_TShare a0 ++ cs_TShare a1)) rfl z0 el60 rfl (e2 rfl rfl) (by kernel_rfl) rfl) (fun I4 Z2 g0 D3=>?_)
 have P1:=AM (cs:=(cs_TShare a0 ++ cs_TShare a1)) (xs:=(([a0,a1]:List TShare):List TShare)) g0 L (Ap (cs:=(cs_TShare a0)) (ds:=(cs_TShare a1)) (mk_TShare a0.fN a0.fD) (Ap (cs:=(cs_TShare a1)) (ds:=[]) (mk_TShare a1.fN a1.fD) (AS _ _)))
 obtain ⟨I2,x2,h⟩:=bi h
 refine Ba (.bool I2) body93 rfl (e1 rfl) (fun w9 hw9=>share_valid_c n _ w9 (g0.hL0 hL hw9) ([a0,a1]:List TShare) (Aq (St.lend (α:=TShare) (L:=L) g0 .hd P1 hL) hw9) x2) rfl<|Ab (FV.not rfl)<|Aa<|MX.ifnb rfl h (fun t1 h=>?_) (fun t1 h=>?_)
 refine Av<|Ak<|dt 6 tb71_4 (fun c0 D0=>?_)
 refine Af 0 1 c0 rfl D0 (fun _=>Aj rfl) rfl<|AA 1 3 244 c0 rfl D0 (Az rfl (g0.memA (.tl (.tl (.tl .hd))))) rfl<|AA 3 11 240 c0 rfl D0 (Az rfl (g0.memA (.tl (.tl .hd)))) rfl ?_
 obtain ⟨J2,y2,h⟩:=bi h
 refine Bp 2 15 c0 rfl .plain body83 rfl (e1 rfl) (fun w9 hw9=>share_Read_c n _ w9 (g0.hL hL hw9) a0 y2) rfl (fun J4 t4 G1 ⟨c4,d4,hu_,d2,g2⟩=>?_)
 subst hu_
 obtain ⟨P0,E3⟩:=g0.agr G1
 obtain ⟨K2,z2,h⟩:=bi h
 refine Bp 4 31 c0 rfl .plain body83 rfl (e1 rfl) (fun w9 hw9=>share_Read_c n _ w9 (P0.hL hL hw9) a1 z2) rfl (fun K4 u4 H1 ⟨g4,j4,hu_,j2,k2⟩=>?_)
 subst hu_
 obtain ⟨Q0,Z0⟩:=P0.agr H1
 obtain ⟨k0,A2,h⟩:=bi h
 have W1:=Ay d2 Z0
 have X1:=Ay g2 Z0
 refine Bp 5 63 c0 rfl .plain body94 rfl (e2 rfl rfl) (fun w9 hw9=>share_Ratio_Over_c n _ w9 (Q0.hL hL hw9) J2 (Aq W1 hw9) (Aq X1 hw9) K2 (Aq j2 hw9) (Aq k2 hw9) A2) rfl (fun P4 v4 I1 ⟨F0,G0,hu_,k1,p1⟩=>?_)
 subst hu_
 obtain ⟨C1,F3⟩:=Q0.agr I1
 refine Bq 6 127 c0 rfl rfl .plain (Aw (news:=[.bool k0.ft.fe,F0,.bool k0.fp.fe,G0]) C1 (.tl .hd) rfl rfl rfl rfl rfl rfl (o4 rfl (AU k1) rfl (AU p1))) (fun Q4 q0 b1=>?_)
 refine BC (i:=7) (rk c0) (RO.val (m' :=255) (sk c0) rfl .plain rfl (AY rfl) ?_)
 refine AH (dk c0)<|Am rfl<|Al (u:=.tuple #[.agg #[.bool k0.ft.fe,F0,.bool k0.fp.fe,G0],vI 0]) g1 Tryz.func71 rfl (.cons (.many (cs:=[.bool k0.ft.fe,F0,.bool k0.fp.fe,G0]) (by kernel_rfl) rfl (q0.memA (.tl .hd))) (.cons (.tmp rfl) .nil)) rfl<|Ab (Ag rfl rfl)<|Ab (Ag rfl rfl) ?_
 obtain ⟨v0,B2,h⟩:=bi h
 have Y1:=Ay k1 b1
 have Z1:=Ay p1 b1
 refine Ba (.tuple #[.agg ((cs_TShare v0.1)).toArray,vI v0.2]) body70 rfl (e2 rfl rfl) (fun w9 hw9=>share_told_c n _ w9 (q0.hL0 hL hw9) k0 (q0.kd Y1 hw9) (q0.kd Z1 hw9) (0:Int) B2) rfl<|Ab (Ag rfl rfl)<|Ab (Ag rfl rfl)<|AL (cs_TShare v0.1) q0 (.tl (.tl (.tl (.tl (.tl .hd))))) (onesB rfl) (fun R4 R0 H3=>?_)
 refine Ah rfl<|Aa<|Am rfl<|Al hb0 Tryz.func67 rfl (.cons (.many (cs:=(cs_TShare v0.1)) (by kernel_rfl) rfl (R0.memA (.tl (.tl (.tl (.tl (.tl .hd))))))) (.cons (.tmp rfl) .nil)) rfl ?_
 cases h
 exact R0.gv
 refine Ac<|Ai .plain rfl (Au [.bool false,vN,.bool false,vN] g0) (fun U4 c3 U0 I3=>?_)
 refine Aa<|Ac<|Ab (Az rfl (U0.memA .hd))<|AL [.bool false,vN,.bool false,vN] U0 (.tl (.tl .hd)) (onesB rfl) (fun V4 A0 J3=>?_)
 refine Ah rfl<|Aa<|Am rfl<|Al (u:=.tuple #[.agg #[.bool false,vN,.bool false,vN],vI 20]) g1 Tryz.func71 rfl (.cons (.many (cs:=[.bool false,vN,.bool false,vN]) (by kernel_rfl) rfl (A0.memA (.tl (.tl .hd)))) (.cons (.tmp rfl) .nil)) rfl<|Ab (Ag rfl rfl)<|Ab (Ag rfl rfl) ?_
 obtain ⟨x0,C2,h⟩:=bi h
 refine Ba (.tuple #[.agg ((cs_TShare x0.1)).toArray,vI x0.2]) body70 rfl (e2 rfl rfl) (fun w9 hw9=>share_told_c n _ w9 (A0.hL0 hL hw9) (⟨(⟨false,([]:List UInt64)⟩:TLong),(⟨false,([]:List UInt64)⟩:TLong)⟩:TRatio) (Aq (Rep.nilSlice _ _) hw9) (Aq (Rep.nilSlice _ _) hw9) (20:Int) C2) rfl<|Ab (Ag rfl rfl)<|Ab (Ag rfl rfl)<|AL (cs_TShare x0.1) A0 (.tl (.tl (.tl (.tl (.tl (.tl .hd)))))) (onesB rfl) (fun W4 V0 K3=>?_)
 refine Ah rfl<|Aa<|Am rfl<|Al hb0 Tryz.func67 rfl (.cons (.many (cs:=(cs_TShare x0.1)) (by kernel_rfl) rfl (V0.memA (.tl (.tl (.tl (.tl (.tl (.tl .hd)))))))) (.cons (.tmp rfl) .nil)) rfl ?_
 cases h
 exact V0.gv
end Go.Proofs.YtbgcdbblaadokaaGreatDoor
