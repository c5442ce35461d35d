/- Functions of the program, and what they give: part 6. -/
import Derived.Test.YtfccehcnajelgaaGreatDoorPO5
namespace Go.Proofs.YtfccehcnajelgaaGreatDoor
open Go Go.RowKit
set_option maxRecDepth 4000
set_option maxHeartbeats 4000000

def tb10_3:List (Nat × Nat × Nat):=[(0,65536,4),(1,131072,65536),(0,262144,2),(0,524288,8),(14,1048576,917504),(16,32768,1048576),(32,2097152,32768),(32,4194304,32768),(127,16,2097152),(511,32,4194304)]
def tb10_6:List (Nat × Nat × Nat):=[(0,17179869184,0),(1,34359738368,17179869184),(0,68719476736,4),(0,137438953472,2),(0,274877906944,8),(30,549755813888,481036337152),(32,1099511627776,549755813888),(32,2199023255552,549755813888),(226,4398046511104,3332894621696),(256,8796093022208,4398046511104),(512,17592186044416,8796093022240),(1536,35184372088832,26388279066624),(2560,70368744177664,43980465111040),(4608,140737488355328,70368744177664),(8192,281474976710656,140737488355344),(24576,562949953421312,422212465065984),(40960,1125899906842624,703687441776640),(73728,2251799813685248,1266637395197952),(139264,4503599627370496,2251799813685248),(262144,9007199254740992,4503599627370512),(786432,18014398509481984,13510798882111488),(1310720,36028797018963968,22517998136852480),(262144,72057594037927936,4503599627370496),(6553600,144115188075855872,112589990684262400),(8650752,288230376151711744,148618787703226368),(25165824,576460752303423488,288230376151711744),(33554432,1152921504606846976,576460752303423616),(100663296,2305843009213693952,1729382256910270464),(167772160,4611686018427387904,2882303761517117440),(301989888,9223372036854775808,4611686018427387904),(536870912,18446744073709551616,9223372036854775872),(536870912,36893488147419103232,9223372036854775808),(2684354560,73786976294838206464,9223372036854775808),(6979321856,147573952589676412928,119903836479112085504),(14495514624,295147905179352825856,175244068700240740352),(17716740096,590295810358705651712,304371277216207601664),(51539607552,1180591620717411303424,590295810358705651712),(68719476736,2361183241434822606848,1180591620717411303424),(68719476736,4722366482869645213696,1180591620717411303428),(68719476736,9444732965739290427392,1180591620717411303426),(68719476736,18889465931478580854784,1180591620717411303432),(2130303778816,37778931862957161709568,34237157000804927799296),(2267742732288,75557863725914323419136,38959523483674573012992),(2267742732288,151115727451828646838272,38959523483674573012992),(15599321219072,302231454903657293676544,230215366039895204167680),(17660905521152,604462909807314587353088,303412046524374704979968),(52776558133248,1208925819614629174706176,604462909807314587353088),(70368744177664,2417851639229258349412352,1208925819614629174706176),(211106232532992,4835703278458516698824704,1208925819614629174706176),(351843720888320,9671406556917033397649408,6044629098073145873530880),(351843720888320,19342813113834066795298816,6044629098073145873530880),(2181431069507584,38685626227668133590597632,32640997129594987717066752),(2322168557862912,77371252455336267181195264,39894552047282762765303808),(6755399441055744,154742504910672534362390528,77371252455336267181195264),(9007199254740992,309485009821345068724781056,154742504910672534362391040),(27021597764222976,618970019642690137449562112,464227514732017603087171584),(45035996273704960,1237940039285380274899124224,773712524553362671811952640),(81064793292668928,2475880078570760549798248448,1237940039285380274899124224),(144115188075855872,4951760157141521099596496896,2475880078570760549798248452),(432345564227567616,9903520314283042199192993792,7427640235712281649394745344),(720575940379279360,19807040628566084398385987584,12379400392853802748991242240),(1297036692682702848,39614081257132168796771975168,22282920707136844948184236032),(2449958197289549824,79228162514264337593543950336,42089961335702929346570223616),(9223372036854775807,1,79228162514264337593543950336)]
theorem el53:ElT Tryz.prog 53 3 (Rep.size Int) 8 (vI 0) [vI 0]:=⟨Tryz.underlying53,by kernel_rfl,rfl,rfl,rfl,rfl⟩
theorem body15:bodyB Tryz.prog 15 = true:=by kernel_rfl
theorem body23:bodyB Tryz.prog 23 = true:=by kernel_rfl
theorem body24:bodyB Tryz.prog 24 = true:=by kernel_rfl
theorem body25:bodyB Tryz.prog 25 = true:=by kernel_rfl
theorem body28:bodyB Tryz.prog 28 = true:=by kernel_rfl
theorem body35:bodyB Tryz.prog 35 = true:=by kernel_rfl
theorem body38:bodyB Tryz.prog 38 = true:=by kernel_rfl
theorem body40:bodyB Tryz.prog 40 = true:=by kernel_rfl
theorem body41:bodyB Tryz.prog 41 = true:=by kernel_rfl
theorem body84:bodyB Tryz.prog 84 = true:=by kernel_rfl
theorem body85:bodyB Tryz.prog 85 = true:=by kernel_rfl
def wardmotelaw27_works_p (n:Nat):Option Bool:=
  (wardmotelaw27_example_p n).bind fun y1=>(cut y1.2 0 1).bind fun q0=>(interest_Parts_p n q0 y1.1 ([(0:Int),(0:Int),(1:Int),(1:Int)]:List Int) (2:Int)).bind fun b0=>(interest_Largest_p n y1.2 y1.1 ([(0:Int),(0:Int),(1:Int),(1:Int)]:List Int) (2:Int)).bind fun j0=>(interest_Overlap_p n (0:UInt64) (0:UInt64)).bind fun B0=>(interest_Kept_p n y1.2 y1.1 ([(0:Int),(0:Int),(1:Int),(1:Int)]:List Int) (2:Int)).bind fun c0=>(wardmotelaw27_truths_1_p n c0.1 c0.2 ([false,true]:List Bool)).bind fun s0=>(if s0 = true then (if b0.2 = 0 then (if b0.1.length = 1 then (b0.1[0]?).bind fun k0=>(slices_Equal_uint64_uint64_p n k0 ([(3:UInt64),(4:UInt64)]:List UInt64)).bind fun t0=>(if t0 = true then (if j0.2 = 0 then (wardmotelaw27_of_p n (1:Int) (2:Int)).bind fun u0=>(wardmotelaw27_of_p n (1:Int) (1:Int)).bind fun v0=>(slices_Equal_api_Share_api_Share_p n j0.1 ([u0,v0]:List TShare)).bind fun x0=>(if x0 = true then (interest_Score_p n y1.2 y1.1 ([(0:Int),(0:Int),(1:Int),(1:Int)]:List Int) (2:Int)).bind fun d0=>(wardmotelaw27_is_1_p n d0.1 d0.2 (5:Int) (8:Int)).bind fun y0=>(if y0 = true then (interest_Overlap_p n (7:UInt64) (12:UInt64)).bind fun g0=>(wardmotelaw27_is_1_p n g0.1 g0.2 (1:Int) (4:Int)).bind fun z0=>(if z0 = true then (if B0.2 = 7 then (cut y1.2 1 (y1.2.length:Int)).bind fun p0=>(interest_Check_p n (3:Int) p0).bind fun A0=>some (decide (A0 = 270)) else some false) else some false) else some false) else some false) else some false) else some false) else some false) else some false) else some false)
theorem wardmotelaw27_works_c (n:Nat) (L:List Nat) (w:World) (hL:∀ b ∈ L,b < w.heap.size) (hG0:Glob 0 tab0 w)  {r:Bool} (h:wardmotelaw27_works_p n = some r) :
    Calls Tryz.prog 10 #[] w (Gives w fun _ u=>u = .bool r):=by
 unfold wardmotelaw27_works_p at h
 have hS0:=Az w
 refine AB Tryz.func10 rfl rfl rfl (fun _ cs0 hb0=>?_)
 refine Ac<|Ag rfl<|Aa<|Ac ?_
 obtain ⟨y1,hy1,h⟩:=bi h
 refine Bu (fst:=[]) (cap:=[]) .plain body38 rfl evs_nil (fun w9 hw9=>own_gives2 (b0:=w.heap.size) (wardmotelaw27_example_c n _ w9 (hS0.hL hL hw9)  hy1) hw9 (Nat.le_trans hS0.ag.size hw9.size)) rfl (fun w2 vu3 hag4 ⟨v9,q4,j2,k2,hu6,s5,A2,B2⟩=>?_)
 subst hu6
 have hS7:=own_push2 hS0 s5
 have hT8:=own_tr2 hS0 s5
 have E2:=AS (cs:=j2) (xs:=(y1.1.fo:List TUnit)) hS7 L (own_cells A2)
 have F2:=AS (cs:=k2) (xs:=(y1.2:List TInterest)) hS7 L (own_cells B2)
 refine Ae rfl<|Ab (Ah rfl rfl)<|Ab (Ah rfl rfl)<|Al .plain rfl (AA [vI 0,vI 0,vI 0,vN] hS7) (fun u5 H4 x1 t2=>?_)
 refine AQ [vI y1.1.fj,vI y1.1.fe,vI y1.1.fh,v9] x1 .hd (o4 rfl rfl rfl (St.o1 (α:=TUnit) x1 (.tl .hd))) (fun v5 p2 u2=>?_)
 refine Ag rfl<|Aa<|Ac<|Al .plain rfl (Bd (α:=Int) (xs:=([(0:Int),(0:Int),(1:Int),(1:Int)]:List Int)) (vs:=[vI 0,vI 0,vI 1,vI 1]) (ds' :=[vI 0,vI 0,vI 1,vI 1]) rfl p2 el53 rfl (e4 rfl rfl rfl rfl) (by kernel_rfl) rfl) (fun x5 U1 Q0 v2=>?_)
 have G2:=AS (cs:=[vI 0,vI 0,vI 1,vI 1]) (xs:=(([(0:Int),(0:Int),(1:Int),(1:Int)]:List Int):List Int)) Q0 L (Aq (cs:=[vI 0]) (ds:=[vI 0,vI 1,vI 1]) rfl (Aq (cs:=[vI 0]) (ds:=[vI 1,vI 1]) rfl (Aq (cs:=[vI 1]) (ds:=[vI 1]) rfl (Aq (cs:=[vI 1]) (ds:=[]) rfl (AX _ _)))))
 refine Ag rfl<|Aa<|Aj<|dt 10 tb10_3 (fun j0 u0=>?_)
 refine Af 0 1 j0 rfl u0 (fun _=>Ai rfl) rfl ?_
 have G1:=Tt t2 (Tt u2 v2)
 have b3:=Bf F2 G1
 have B3:=St.freeze (α:=TInterest) Q0 (.tl (.tl (.tl .hd))) b3 hL
 have z0:=St.delS Q0 (.tl (.tl (.tl .hd)))
 have B1:=St.delT Q0 (.tl (.tl (.tl .hd)))
 have H0:=Rep.at_ (α:=TInterest) (v:=q4) (xs:=y1.2) z0 L B3
 obtain ⟨y4,Q3,h⟩:=bi h
 refine RD.valE (i:=1) (m' :=3) (W:=1008) (tk j0) rfl u0 .plain rfl (FV.cutL (α:=TInterest) Q3 (by kernel_rfl) rfl H0 rfl ⟨_,rfl⟩) (fun X4 C3=>?_)
 refine AI 2 7 1008 j0 rfl u0 (AG rfl (z0.memA (.tl .hd))) rfl<|Af 3 15 j0 rfl u0 (fun _=>Ai rfl) rfl ?_
 have c3:=Bf E2 (Tt G1 B1)
 have D3:=St.freeze (α:=TUnit) z0 (.tl (.tl .hd)) c3 hL
 have R0:=St.delS z0 (.tl (.tl .hd))
 have s1:=St.delT z0 (.tl (.tl .hd))
 have b1:=Rep.at_ (α:=TUnit) (v:=v9) (xs:=y1.1.fo) R0 L D3
 have d3:=Bf G2 (Tt B1 s1)
 have E3:=St.freeze (α:=Int) R0 .hd d3 hL
 have U0:=St.delS R0 .hd
 have B0:=St.delT R0 .hd
 have c1:=Rep.at_ (α:=Int) (v:=(vS U1 4)) (xs:=([(0:Int),(0:Int),(1:Int),(1:Int)]:List Int)) U0 L E3
 obtain ⟨j1,j4,h⟩:=bi h
 have g3:=AC C3 (Tt s1 B0)
 have j3:=AC b1 B0
 refine By 4 31 j0 rfl .plain body24 rfl (e4 rfl rfl rfl rfl) (fun w9 hw9=>interest_Parts_c n _ w9 (U0.hL hL hw9) y4 (Ay g3 hw9) y1.1 (Ay j3 hw9) ([(0:Int),(0:Int),(1:Int),(1:Int)]:List Int) (Ay c1 hw9) (2:Int) (hG0.keep (U0.ag.trans hw9)) j4) rfl (fun y5 j5 y2 ⟨Y4,hu_,F3⟩=>?_)
 subst hu_
 obtain ⟨V0,C0⟩:=U0.agr y2
 refine Af 5 63 j0 rfl u0 (fun _=>Ai rfl) rfl<|Af 6 127 j0 rfl u0 (fun _=>Ah rfl rfl) rfl<|Af 7 255 j0 rfl u0 (fun _=>Ah rfl rfl) rfl<|Af 8 511 j0 rfl u0 (fun _=>AM rfl) rfl<|Af 9 1023 j0 rfl u0 (fun _=>AM rfl) rfl<|AF (dk j0)<|Ac<|Ae rfl<|Ab (AG rfl (V0.memA .hd))<|Ae rfl ?_
 obtain ⟨R1,k4,h⟩:=bi h
 have H1:=Tt s1 (Tt B0 C0)
 have k3:=AC H0 H1
 have p3:=AC b1 (Tt B0 C0)
 have q3:=AC c1 C0
 refine Bu (fst:=[]) (cap:=[]) .plain body19 rfl (e4 rfl rfl rfl rfl) (fun w9 hw9=>interest_Largest_c n _ w9 (V0.hL hL hw9) y1.2 (Ay k3 hw9) y1.1 (Ay p3 hw9) ([(0:Int),(0:Int),(1:Int),(1:Int)]:List Int) (Ay q3 hw9) (2:Int) (hG0.keep (V0.ag.trans hw9)) k4) rfl (fun z5 k5 z2 ⟨Z4,hu_,G3⟩=>?_)
 subst hu_
 obtain ⟨z1,Z0⟩:=V0.agr z2
 refine Ae rfl<|Ab (Ah rfl rfl)<|Ab (Ah rfl rfl)<|Ag rfl<|Ag rfl<|Aa<|Ac ?_
 obtain ⟨k1,p4,h⟩:=bi h
 refine AZ (.tuple #[.agg ((cs_TShare k1.1)).toArray,vI k1.2]) body15 rfl (e2 rfl rfl) (fun w9 hw9=>interest_Overlap_c n _ w9 (z1.hL0 hL hw9) (0:UInt64) (0:UInt64) p4) rfl<|Ae rfl<|Ab (Ah rfl rfl)<|Ab (Ah rfl rfl)<|Al .plain rfl (AA zL z1) (fun A5 I4 q2 D0=>?_)
 refine AQ (cs_TShare k1.1) q2 .hd (onesB rfl) (fun B5 A1 E0=>?_)
 refine Ag rfl<|Aa<|Aj<|dt 64 tb10_6 (fun c0 d0=>?_)
 refine Af 2 4 c0 rfl d0 (fun _=>Ai rfl) rfl<|AI 3 12 18446744073709551584 c0 rfl d0 (AG rfl (A1.memA (.tl .hd))) rfl<|Af 4 28 c0 rfl d0 (fun _=>Ai rfl) rfl<|RD.nu 0 29 c0 rfl .plain rfl (Bd (α:=Bool) (xs:=([false,true]:List Bool)) (vs:=[.bool false,.bool true]) (ds' :=[.bool false,.bool true]) rfl A1 el72 rfl (e2 rfl rfl) (by kernel_rfl) rfl) (fun u4 v1 W0 F0=>?_)
 have H2:=AS (cs:=[.bool false,.bool true]) (xs:=(([false,true]:List Bool):List Bool)) W0 L (Aq (cs:=[.bool false]) (ds:=[.bool true]) rfl (Aq (cs:=[.bool true]) (ds:=[]) rfl (AX _ _)))
 have H3:=St.freeze (α:=Bool) W0 .hd H2 hL
 have X0:=St.delS W0 .hd
 have G0:=St.delT W0 .hd
 have I1:=Rep.at_ (α:=Bool) (v:=(vS v1 2)) (xs:=([false,true]:List Bool)) X0 L H3
 refine By 1 31 c0 rfl .plain body40 rfl (e1 rfl) (fun w9 hw9=>Calls.gives (wardmotelaw27_truths_c n _ w9 (X0.hL hL hw9) ([false,true]:List Bool) (Ay I1 hw9)) fun (w8:World) (u8:Value) ⟨b0_,hu_,s_⟩=>(⟨b0_,hu_,s_.from hw9⟩:∃ P0:Nat,u8 = Value.func (.func 84) #[] #[vP P0]∧St u4 w8 [.cells P0 [(vS v1 2)] 72])) rfl (fun C5 b5 M4 ⟨P0,I3,J1⟩=>?_)
 subst I3
 have p1:=mk_push1 X0 J1
 have x0:=mk_tr1 X0 J1
 obtain ⟨P1,R3,h⟩:=bi h
 have C1:=Tt H1 (Tt Z0 (Tt D0 (Tt E0 (Tt F0 (Tt G0 x0)))))
 have K2:=AC H0 C1
 have D1:=Tt B0 (Tt C0 (Tt Z0 (Tt D0 (Tt E0 (Tt F0 (Tt G0 x0))))))
 have M2:=AC b1 D1
 have E1:=Tt C0 (Tt Z0 (Tt D0 (Tt E0 (Tt F0 (Tt G0 x0)))))
 have P2:=AC c1 E1
 refine By 5 63 c0 rfl .plain body25 rfl (e4 rfl rfl rfl rfl) (fun w9 hw9=>interest_Kept_c n _ w9 (p1.hL hL hw9) y1.2 (Ay K2 hw9) y1.1 (Ay M2 hw9) ([(0:Int),(0:Int),(1:Int),(1:Int)]:List Int) (Ay P2 hw9) (2:Int) (hG0.keep (p1.ag.trans hw9)) R3) rfl (fun p5 c5 x2 ⟨U4,hu_,x3⟩=>?_)
 subst hu_
 obtain ⟨v0,y0⟩:=p1.agr x2
 refine Af 6 127 c0 rfl d0 (fun _=>Ah rfl rfl) rfl<|Af 7 255 c0 rfl d0 (fun _=>Ah rfl rfl) rfl ?_
 obtain ⟨z4,U3,h⟩:=bi h
 have Q2:=AC I1 (Tt x0 y0)
 refine RD.callq (i:=8) (m' :=511) (W:=18446744073709551104) (tk c0) rfl d0 (v:=.bool z4) (fst:=[]) (cap:=[vP P0]) .plain body84 rfl (e2 rfl rfl) (fun w9 hw9=>wardmotelaw27_truths_1_c n _ w9 (v0.hL0 hL hw9) P1.1 (v0.kd x3 hw9) P1.2 ([false,true]:List Bool) (v0.kd Q2 hw9) (fun j9 v9 h9=>hw9.cell0 ((v0.memA .hd) j9 v9 h9)) U3) rfl<|Af 9 1023 c0 rfl d0 (fun _=>Ai rfl) rfl<|RD.ifb (s:=43) rfl h (fun V1 h=>?_) (fun V1 h=>?_)
 refine Bs 10 2047 c0 rfl d0 (.yes rfl rfl) (fun _=>Ai rfl) rfl<|Bs 11 4095 c0 rfl d0 (.yes rfl rfl) (fun _=>FV.eql (i:=j1.2) (j:=0) rfl rfl) rfl<|Af 12 8191 c0 rfl d0 (fun _=>Br rfl rfl) rfl<|Af 13 16383 c0 rfl d0 (fun _=>Ai rfl) rfl<|RD.ifd (s:=47) rfl h (fun W1 h=>?_) (fun W1 h=>?_)
 refine Bs 14 32767 c0 rfl d0 (.yes rfl rfl) (fun _=>Ai rfl) rfl ?_
 have s3:=Tt Z0 (Tt D0 (Tt E0 (Tt F0 (Tt G0 (Tt x0 y0)))))
 have u1:=AC F3 s3
 have R4:j1.1.length ≤ 281474976710656:=AT u1
 refine RD.val (i:=15) (m' :=65535) (W:=18446744073709486080) (tk c0) rfl d0 (.yes rfl rfl) (Ba (xs:=j1.1) Tryz.underlying69 rfl u1) rfl<|Bs 16 131071 c0 rfl d0 (.yes rfl rfl) (fun _=>FV.eqlN (i:=j1.1.length) (j:=1) rfl rfl) rfl<|Af 17 262143 c0 rfl d0 (fun _=>Br rfl rfl) rfl<|Af 18 524287 c0 rfl d0 (fun _=>Ai rfl) rfl<|RD.ifd (s:=52) rfl h (fun X1 h=>?_) (fun X1 h=>?_)
 refine Bs 19 1048575 c0 rfl d0 (.yes rfl rfl) (fun _=>Ai rfl) rfl ?_
 obtain ⟨v4,M3,h⟩:=bi h
 obtain ⟨E4,J4,I2,J2,K4,y3,R2⟩:=Bp u1 M3
 obtain ⟨V4,rfl,z3⟩:=lst_one y3
 refine Bs 20 2097151 c0 rfl d0 (.yes rfl rfl) (fun _=>Bw 1 0 rfl I2 rfl rfl J2) rfl<|RD.val (i:=21) (m' :=4194303) (W:=18446744073701163008) (tk c0) rfl d0 (.yes rfl rfl) (AJ rfl (R2 0 _ rfl)) rfl<|RD.nu 22 8388607 c0 rfl (.yes rfl rfl) rfl (Bd (α:=UInt64) (xs:=([(3:UInt64),(4:UInt64)]:List UInt64)) (vs:=[vW 3,vW 4]) (ds' :=[vW 3,vW 4]) rfl v0 el75 rfl (e2 rfl rfl) (by kernel_rfl) rfl) (fun q5 F4 q0 A0=>?_)
 have C2:=AS (cs:=[vW 3,vW 4]) (xs:=(([(3:UInt64),(4:UInt64)]:List UInt64):List UInt64)) q0 L (Aq (cs:=[vW 3]) (ds:=[vW 4]) rfl (Aq (cs:=[vW 4]) (ds:=[]) rfl (AX _ _)))
 obtain ⟨A4,V3,h⟩:=bi h
 have U2:=AC z3 A0
 refine RD.callq (i:=23) (m' :=16777215) (W:=18446744073692774400) (tk c0) rfl d0 (v:=.bool A4) (fst:=[]) (cap:=[]) (.yes rfl rfl) body35 rfl (e2 rfl rfl) (fun w9 hw9=>slices_Equal_uint64_uint64_c n _ w9 (q0.hL0 hL hw9) v4 (q0.kd U2 hw9) ([(3:UInt64),(4:UInt64)]:List UInt64) (Ay (St.lend (α:=UInt64) (L:=L) q0 .hd C2 hL) hw9) V3) rfl<|Af 24 33554431 c0 rfl d0 (fun _=>Br rfl rfl) rfl<|Af 25 67108863 c0 rfl d0 (fun _=>Ai rfl) rfl<|RD.ifb (s:=59) rfl h (fun Y1 h=>?_) (fun Y1 h=>?_)
 refine Bs 26 134217727 c0 rfl d0 (.yes rfl rfl) (fun _=>Ai rfl) rfl<|Bs 27 268435455 c0 rfl d0 (.yes rfl rfl) (fun _=>FV.eql (i:=R1.2) (j:=0) rfl rfl) rfl<|Af 28 536870911 c0 rfl d0 (fun _=>Br rfl rfl) rfl<|Af 29 1073741823 c0 rfl d0 (fun _=>Ai rfl) rfl<|RD.ifd (s:=63) rfl h (fun Z1 h=>?_) (fun Z1 h=>?_)
 refine Bs 30 2147483647 c0 rfl d0 (.yes rfl rfl) (fun _=>Ai rfl) rfl ?_
 obtain ⟨p0,W3,h⟩:=bi h
 refine RD.callq (i:=31) (m' :=4294967295) (W:=18446744069414584320) (tk c0) rfl d0 (v:=.agg ((cs_TShare p0)).toArray) (fst:=[]) (cap:=[]) (.yes rfl rfl) body20 rfl (e2 rfl rfl) (fun w9 hw9=>wardmotelaw27_of_c n _ w9 (q0.hL0 hL hw9) (1:Int) (2:Int) W3) rfl ?_
 obtain ⟨k0,X3,h⟩:=bi h
 refine RD.callq (i:=32) (m' :=8589934591) (W:=18446744065119617024) (tk c0) rfl d0 (v:=.agg ((cs_TShare k0)).toArray) (fst:=[]) (cap:=[]) (.yes rfl rfl) body20 rfl (e2 rfl rfl) (fun w9 hw9=>wardmotelaw27_of_c n _ w9 (q0.hL0 hL hw9) (1:Int) (1:Int) X3) rfl<|RD.nu 33 17179869183 c0 rfl (.yes rfl rfl) rfl (Bd (α:=TShare) (xs:=([p0,k0]:List TShare)) (vs:=[.agg ((cs_TShare p0)).toArray,.agg ((cs_TShare k0)).toArray]) (ds' :=(cs_TShare p0 ++ cs_TShare k0)) rfl q0 el60 rfl (e2 rfl rfl) (by kernel_rfl) rfl) (fun s4 G4 s0 Y0=>?_)
 have D2:=AS (cs:=(cs_TShare p0 ++ cs_TShare k0)) (xs:=(([p0,k0]:List TShare):List TShare)) s0 L (Aq (cs:=(cs_TShare p0)) (ds:=(cs_TShare k0)) (mk_TShare p0.fN p0.fD) (Aq (cs:=(cs_TShare k0)) (ds:=[]) (mk_TShare k0.fN k0.fD) (AX _ _)))
 obtain ⟨B4,Y3,h⟩:=bi h
 have t3:=Tt D0 (Tt E0 (Tt F0 (Tt G0 (Tt x0 (Tt y0 (Tt A0 Y0))))))
 have V2:=AC G3 t3
 refine RD.callq (i:=34) (m' :=34359738367) (W:=18446744039349813248) (tk c0) rfl d0 (v:=.bool B4) (fst:=[]) (cap:=[]) (.yes rfl rfl) body28 rfl (e2 rfl rfl) (fun w9 hw9=>slices_Equal_api_Share_api_Share_c n _ w9 (s0.hL0 hL hw9) R1.1 (s0.kd V2 hw9) ([p0,k0]:List TShare) (Ay (St.lend (α:=TShare) (L:=L) s0 .hd D2 hL) hw9) Y3) rfl<|Af 35 68719476735 c0 rfl d0 (fun _=>Br rfl rfl) rfl<|Af 36 137438953471 c0 rfl d0 (fun _=>Ai rfl) rfl<|RD.ifb (s:=70) rfl h (fun b2 h=>?_) (fun b2 h=>?_)
 refine Bs 38 412316860415 c0 rfl d0 (.yes rfl rfl) (fun _=>Ai rfl) rfl<|RD.val (i:=39) (m' :=962072674303) (W:=18446741874686296064) (tk c0) rfl d0 (.yes rfl rfl) (AG rfl (s0.memA (.tl (.tl (.tl (.tl .hd)))))) rfl<|Bs 40 2061584302079 c0 rfl d0 (.yes rfl rfl) (fun _=>Ai rfl) rfl<|By 37 2199023255551 c0 rfl (.yes rfl rfl) body41 rfl (e2 rfl rfl) (fun w9 hw9=>Calls.gives (wardmotelaw27_is_c n _ w9 (s0.hL hL hw9) (5:Int) (8:Int)) fun (w8:World) (u8:Value) ⟨b0_,b1_,hu_,s_⟩=>(⟨b0_,b1_,hu_,s_.from hw9⟩:∃ I0 J0:Nat,u8 = Value.func (.func 85) #[] #[vP I0,vP J0]∧St s4 w8 [.cells I0 [vI 5] 3,.cells J0 [vI 8] 3])) rfl (fun t4 d5 P4 ⟨I0,J0,J3,K1⟩=>?_)
 subst J3
 have g0:=mk_push2 s0 K1
 have q1:=mk_tr2 s0 K1
 obtain ⟨d1,Z3,h⟩:=bi h
 have F1:=Tt C1 (Tt y0 (Tt A0 (Tt Y0 q1)))
 have W2:=AC H0 F1
 have u3:=Tt D1 (Tt y0 (Tt A0 (Tt Y0 q1)))
 have X2:=AC b1 u3
 have v3:=Tt E1 (Tt y0 (Tt A0 (Tt Y0 q1)))
 have Y2:=AC c1 v3
 refine RD.callq (i:=41) (m' :=4398046511103) (W:=18446739675663040512) (tk c0) rfl d0 (v:=.tuple #[.agg ((cs_TShare d1.1)).toArray,vI d1.2]) (fst:=[]) (cap:=[]) (.yes rfl rfl) body23 rfl (e4 rfl rfl rfl rfl) (fun w9 hw9=>interest_Score_c n _ w9 (g0.hL0 hL hw9) y1.2 (g0.kd W2 hw9) y1.1 (g0.kd X2 hw9) ([(0:Int),(0:Int),(1:Int),(1:Int)]:List Int) (g0.kd Y2 hw9) (2:Int) (hG0.keep (g0.ag.trans hw9)) Z3) rfl<|Bs 42 8796093022207 c0 rfl d0 (.yes rfl rfl) (fun _=>Ah rfl rfl) rfl<|Bs 43 17592186044415 c0 rfl d0 (.yes rfl rfl) (fun _=>Ah rfl rfl) rfl ?_
 obtain ⟨C4,b4,h⟩:=bi h
 refine RD.callq (i:=44) (m' :=35184372088831) (W:=18446708889337462784) (tk c0) rfl d0 (v:=.bool C4) (fst:=[]) (cap:=[vP I0,vP J0]) (.yes rfl rfl) body85 rfl (e2 rfl rfl) (fun w9 hw9=>wardmotelaw27_is_1_c n _ w9 (g0.hL0 hL hw9) d1.1 d1.2 (5:Int) (fun j9 v9 h9=>hw9.cell0 ((g0.memA .hd) j9 v9 h9)) (8:Int) (fun j9 v9 h9=>hw9.cell0 ((g0.memA (.tl .hd)) j9 v9 h9)) b4) rfl<|Af 45 70368744177663 c0 rfl d0 (fun _=>Br rfl rfl) rfl<|Af 46 140737488355327 c0 rfl d0 (fun _=>Ai rfl) rfl<|RD.ifb (s:=80) rfl h (fun c2 h=>?_) (fun c2 h=>?_)
 refine By 47 281474976710655 c0 rfl (.yes rfl rfl) body41 rfl (e2 rfl rfl) (fun w9 hw9=>Calls.gives (wardmotelaw27_is_c n _ w9 (g0.hL hL hw9) (1:Int) (4:Int)) fun (w8:World) (u8:Value) ⟨b0_,b1_,hu_,s_⟩=>(⟨b0_,b1_,hu_,s_.from hw9⟩:∃ K0 M0:Nat,u8 = Value.func (.func 85) #[] #[vP K0,vP M0]∧St t4 w8 [.cells K0 [vI 1] 3,.cells M0 [vI 4] 3])) rfl (fun t5 g5 Q4 ⟨K0,M0,K3,M1⟩=>?_)
 subst K3
 have t0:=mk_push2 g0 M1
 have s2:=mk_tr2 g0 M1
 obtain ⟨g1,c4,h⟩:=bi h
 refine RD.callq (i:=48) (m' :=562949953421311) (W:=18446181123756130304) (tk c0) rfl d0 (v:=.tuple #[.agg ((cs_TShare g1.1)).toArray,vI g1.2]) (fst:=[]) (cap:=[]) (.yes rfl rfl) body15 rfl (e2 rfl rfl) (fun w9 hw9=>interest_Overlap_c n _ w9 (t0.hL0 hL hw9) (7:UInt64) (12:UInt64) c4) rfl<|Bs 49 1125899906842623 c0 rfl d0 (.yes rfl rfl) (fun _=>Ah rfl rfl) rfl<|Bs 50 2251799813685247 c0 rfl d0 (.yes rfl rfl) (fun _=>Ah rfl rfl) rfl ?_
 obtain ⟨D4,d4,h⟩:=bi h
 refine RD.callq (i:=51) (m' :=4503599627370495) (W:=18442240474082181120) (tk c0) rfl d0 (v:=.bool D4) (fst:=[]) (cap:=[vP K0,vP M0]) (.yes rfl rfl) body85 rfl (e2 rfl rfl) (fun w9 hw9=>wardmotelaw27_is_1_c n _ w9 (t0.hL0 hL hw9) g1.1 g1.2 (1:Int) (fun j9 v9 h9=>hw9.cell0 ((t0.memA .hd) j9 v9 h9)) (4:Int) (fun j9 v9 h9=>hw9.cell0 ((t0.memA (.tl .hd)) j9 v9 h9)) d4) rfl<|Af 52 9007199254740991 c0 rfl d0 (fun _=>Br rfl rfl) rfl<|Af 53 18014398509481983 c0 rfl d0 (fun _=>Ai rfl) rfl<|RD.ifb (s:=87) rfl h (fun d2 h=>?_) (fun d2 h=>?_)
 refine Bs 54 36028797018963967 c0 rfl d0 (.yes rfl rfl) (fun _=>Ai rfl) rfl<|Bs 55 72057594037927935 c0 rfl d0 (.yes rfl rfl) (fun _=>FV.eql (i:=k1.2) (j:=7) rfl rfl) rfl<|Af 56 144115188075855871 c0 rfl d0 (fun _=>Br rfl rfl) rfl<|Af 57 288230376151711743 c0 rfl d0 (fun _=>Ai rfl) rfl<|RD.ifd (s:=91) rfl h (fun g2 h=>?_) (fun g2 h=>?_)
 refine Bs 58 576460752303423487 c0 rfl d0 (.yes rfl rfl) (fun _=>Ai rfl) rfl ?_
 obtain ⟨x4,P3,h⟩:=bi h
 have Z2:=AC H0 (Tt F1 s2)
 refine RD.valE (i:=59) (m' :=1152921504606846975) (W:=17293822569102704640) (tk c0) rfl d0 (.yes rfl rfl) rfl (FV.cutL (α:=TInterest) P3 (by kernel_rfl) rfl Z2 ⟨_,rfl⟩ rfl) (fun W4 A3=>?_)
 obtain ⟨Q1,g4,h⟩:=bi h
 refine RD.callq (i:=60) (m' :=2305843009213693951) (W:=16140901064495857664) (tk c0) rfl d0 (v:=vI Q1) (fst:=[]) (cap:=[]) (.yes rfl rfl) body13 rfl (e2 rfl rfl) (fun w9 hw9=>interest_Check_c n _ w9 (t0.hL0 hL hw9) (3:Int) x4 (t0.kd A3 hw9) g4) rfl<|Bs 61 4611686018427387903 c0 rfl d0 (.yes rfl rfl) (fun _=>FV.eql (i:=Q1) (j:=270) rfl rfl) rfl<|Af 62 9223372036854775807 c0 rfl d0 (fun _=>Br rfl rfl) rfl<|Af 63 18446744073709551615 c0 rfl d0 (fun _=>AM rfl) rfl<|AF (dk c0)<|Ak rfl<|AL hb0 Tryz.func10 rfl rfl ?_
 cases h
 exact t0.gv
 refine AE 4611686018427387903 2 [(58,92),(59,93),(60,94),(61,95)] (F:=[(91,false)]) (U:=[]) c0 d0 (.cons rfl .nil) .nil ?_
 dsimp only [offS,List.map]
 refine Af 62 9223372036854775807 c0 rfl d0 (fun _=>Au rfl rfl) rfl<|Af 63 18446744073709551615 c0 rfl d0 (fun _=>AM rfl) rfl<|AF (dk c0)<|Ak rfl<|AL hb0 Tryz.func10 rfl rfl ?_
 cases h
 exact t0.gv
 refine AE 72057594037927935 8 [(54,88),(55,89)] (F:=[(87,false)]) (U:=[]) c0 d0 (.cons rfl .nil) .nil ?_
 dsimp only [offS,List.map]
 refine Af 56 144115188075855871 c0 rfl d0 (fun _=>Au rfl rfl) rfl<|Af 57 288230376151711743 c0 rfl d0 (fun _=>Ai rfl) rfl<|AE 4611686018427387903 2 [(58,92),(59,93),(60,94),(61,95)] (F:=[(91,false)]) (U:=[]) c0 d0 (.cons rfl .nil) .nil ?_
 dsimp only [offS,List.map]
 refine Af 62 9223372036854775807 c0 rfl d0 (fun _=>Au rfl rfl) rfl<|Af 63 18446744073709551615 c0 rfl d0 (fun _=>AM rfl) rfl<|AF (dk c0)<|Ak rfl<|AL hb0 Tryz.func10 rfl rfl ?_
 cases h
 exact t0.gv
 refine AE 4503599627370495 12 [(47,81),(48,82),(49,83),(50,84),(51,85)] (F:=[(80,false)]) (U:=[]) c0 d0 (.cons rfl .nil) .nil ?_
 dsimp only [offS,List.map]
 refine Af 52 9007199254740991 c0 rfl d0 (fun _=>Au rfl rfl) rfl<|Af 53 18014398509481983 c0 rfl d0 (fun _=>Ai rfl) rfl<|AE 72057594037927935 8 [(54,88),(55,89)] (F:=[(87,false)]) (U:=[]) c0 d0 (.cons rfl .nil) .nil ?_
 dsimp only [offS,List.map]
 refine Af 56 144115188075855871 c0 rfl d0 (fun _=>Au rfl rfl) rfl<|Af 57 288230376151711743 c0 rfl d0 (fun _=>Ai rfl) rfl<|AE 4611686018427387903 2 [(58,92),(59,93),(60,94),(61,95)] (F:=[(91,false)]) (U:=[]) c0 d0 (.cons rfl .nil) .nil ?_
 dsimp only [offS,List.map]
 refine Af 62 9223372036854775807 c0 rfl d0 (fun _=>Au rfl rfl) rfl<|Af 63 18446744073709551615 c0 rfl d0 (fun _=>AM rfl) rfl<|AF (dk c0)<|Ak rfl<|AL hb0 Tryz.func10 rfl rfl ?_
 cases h
 exact g0.gv
 refine AE 35184372088831 19 [(37,71),(38,72),(39,73),(40,74),(41,75),(42,76),(43,77),(44,78)] (F:=[(70,false)]) (U:=[]) c0 d0 (.cons rfl .nil) .nil ?_
 dsimp only [offS,List.map]
 refine Af 45 70368744177663 c0 rfl d0 (fun _=>Au rfl rfl) rfl<|Af 46 140737488355327 c0 rfl d0 (fun _=>Ai rfl) rfl<|AE 4503599627370495 12 [(47,81),(48,82),(49,83),(50,84),(51,85)] (F:=[(80,false)]) (U:=[]) c0 d0 (.cons rfl .nil) .nil ?_
 dsimp only [offS,List.map]
 refine Af 52 9007199254740991 c0 rfl d0 (fun _=>Au rfl rfl) rfl<|Af 53 18014398509481983 c0 rfl d0 (fun _=>Ai rfl) rfl<|AE 72057594037927935 8 [(54,88),(55,89)] (F:=[(87,false)]) (U:=[]) c0 d0 (.cons rfl .nil) .nil ?_
 dsimp only [offS,List.map]
 refine Af 56 144115188075855871 c0 rfl d0 (fun _=>Au rfl rfl) rfl<|Af 57 288230376151711743 c0 rfl d0 (fun _=>Ai rfl) rfl<|AE 4611686018427387903 2 [(58,92),(59,93),(60,94),(61,95)] (F:=[(91,false)]) (U:=[]) c0 d0 (.cons rfl .nil) .nil ?_
 dsimp only [offS,List.map]
 refine Af 62 9223372036854775807 c0 rfl d0 (fun _=>Au rfl rfl) rfl<|Af 63 18446744073709551615 c0 rfl d0 (fun _=>AM rfl) rfl<|AF (dk c0)<|Ak rfl<|AL hb0 Tryz.func10 rfl rfl ?_
 cases h
 exact s0.gv
 refine AE 34359738367 29 [(30,64),(31,65),(32,66),(33,67),(34,68)] (F:=[(63,false)]) (U:=[]) c0 d0 (.cons rfl .nil) .nil ?_
 dsimp only [offS,List.map]
 refine Af 35 68719476735 c0 rfl d0 (fun _=>Au rfl rfl) rfl<|Af 36 137438953471 c0 rfl d0 (fun _=>Ai rfl) rfl<|AE 35184372088831 19 [(37,71),(38,72),(39,73),(40,74),(41,75),(42,76),(43,77),(44,78)] (F:=[(70,false)]) (U:=[]) c0 d0 (.cons rfl .nil) .nil ?_
 dsimp only [offS,List.map]
 refine Af 45 70368744177663 c0 rfl d0 (fun _=>Au rfl rfl) rfl<|Af 46 140737488355327 c0 rfl d0 (fun _=>Ai rfl) rfl<|AE 4503599627370495 12 [(47,81),(48,82),(49,83),(50,84),(51,85)] (F:=[(80,false)]) (U:=[]) c0 d0 (.cons rfl .nil) .nil ?_
 dsimp only [offS,List.map]
 refine Af 52 9007199254740991 c0 rfl d0 (fun _=>Au rfl rfl) rfl<|Af 53 18014398509481983 c0 rfl d0 (fun _=>Ai rfl) rfl<|AE 72057594037927935 8 [(54,88),(55,89)] (F:=[(87,false)]) (U:=[]) c0 d0 (.cons rfl .nil) .nil ?_
 dsimp only [offS,List.map]
 refine Af 56 144115188075855871 c0 rfl d0 (fun _=>Au rfl rfl) rfl<|Af 57 288230376151711743 c0 rfl d0 (fun _=>Ai rfl) rfl<|AE 4611686018427387903 2 [(58,92),(59,93),(60,94),(61,95)] (F:=[(91,false)]) (U:=[]) c0 d0 (.cons rfl .nil) .nil ?_
 dsimp only [offS,List.map]
 refine Af 62 9223372036854775807 c0 rfl d0 (fun _=>Au rfl rfl) rfl<|Af 63 18446744073709551615 c0 rfl d0 (fun _=>AM rfl) rfl<|AF (dk c0)<|Ak rfl<|AL hb0 Tryz.func10 rfl rfl ?_
 cases h
 exact q0.gv
 refine AE 268435455 36 [(26,60),(27,61)] (F:=[(59,false)]) (U:=[]) c0 d0 (.cons rfl .nil) .nil ?_
 dsimp only [offS,List.map]
 refine Af 28 536870911 c0 rfl d0 (fun _=>Au rfl rfl) rfl<|Af 29 1073741823 c0 rfl d0 (fun _=>Ai rfl) rfl<|AE 34359738367 29 [(30,64),(31,65),(32,66),(33,67),(34,68)] (F:=[(63,false)]) (U:=[]) c0 d0 (.cons rfl .nil) .nil ?_
 dsimp only [offS,List.map]
 refine Af 35 68719476735 c0 rfl d0 (fun _=>Au rfl rfl) rfl<|Af 36 137438953471 c0 rfl d0 (fun _=>Ai rfl) rfl<|AE 35184372088831 19 [(37,71),(38,72),(39,73),(40,74),(41,75),(42,76),(43,77),(44,78)] (F:=[(70,false)]) (U:=[]) c0 d0 (.cons rfl .nil) .nil ?_
 dsimp only [offS,List.map]
 refine Af 45 70368744177663 c0 rfl d0 (fun _=>Au rfl rfl) rfl<|Af 46 140737488355327 c0 rfl d0 (fun _=>Ai rfl) rfl<|AE 4503599627370495 12 [(47,81),(48,82),(49,83),(50,84),(51,85)] (F:=[(80,false)]) (U:=[]) c0 d0 (.cons rfl .nil) .nil ?_
 dsimp only [offS,List.map]
 refine Af 52 9007199254740991 c0 rfl d0 (fun _=>Au rfl rfl) rfl<|Af 53 18014398509481983 c0 rfl d0 (fun _=>Ai rfl) rfl<|AE 72057594037927935 8 [(54,88),(55,89)] (F:=[(87,false)]) (U:=[]) c0 d0 (.cons rfl .nil) .nil ?_
 dsimp only [offS,List.map]
 refine Af 56 144115188075855871 c0 rfl d0 (fun _=>Au rfl rfl) rfl<|Af 57 288230376151711743 c0 rfl d0 (fun _=>Ai rfl) rfl<|AE 4611686018427387903 2 [(58,92),(59,93),(60,94),(61,95)] (F:=[(91,false)]) (U:=[]) c0 d0 (.cons rfl .nil) .nil ?_
 dsimp only [offS,List.map]
 refine Af 62 9223372036854775807 c0 rfl d0 (fun _=>Au rfl rfl) rfl<|Af 63 18446744073709551615 c0 rfl d0 (fun _=>AM rfl) rfl<|AF (dk c0)<|Ak rfl<|AL hb0 Tryz.func10 rfl rfl ?_
 cases h
 exact q0.gv
 refine AE 16777215 40 [(19,53),(20,54),(21,55),(22,56),(23,57)] (F:=[(52,false)]) (U:=[]) c0 d0 (.cons rfl .nil) .nil ?_
 dsimp only [offS,List.map]
 refine Af 24 33554431 c0 rfl d0 (fun _=>Au rfl rfl) rfl<|Af 25 67108863 c0 rfl d0 (fun _=>Ai rfl) rfl<|AE 268435455 36 [(26,60),(27,61)] (F:=[(59,false)]) (U:=[]) c0 d0 (.cons rfl .nil) .nil ?_
 dsimp only [offS,List.map]
 refine Af 28 536870911 c0 rfl d0 (fun _=>Au rfl rfl) rfl<|Af 29 1073741823 c0 rfl d0 (fun _=>Ai rfl) rfl<|AE 34359738367 29 [(30,64),(31,65),(32,66),(33,67),(34,68)] (F:=[(63,false)]) (U:=[]) c0 d0 (.cons rfl .nil) .nil ?_
 dsimp only [offS,List.map]
 refine Af 35 68719476735 c0 rfl d0 (fun _=>Au rfl rfl) rfl<|Af 36 137438953471 c0 rfl d0 (fun _=>Ai rfl) rfl<|AE 35184372088831 19 [(37,71),(38,72),(39,73),(40,74),(41,75),(42,76),(43,77),(44,78)] (F:=[(70,false)]) (U:=[]) c0 d0 (.cons rfl .nil) .nil ?_
 dsimp only [offS,List.map]
 refine Af 45 70368744177663 c0 rfl d0 (fun _=>Au rfl rfl) rfl<|Af 46 140737488355327 c0 rfl d0 (fun _=>Ai rfl) rfl<|AE 4503599627370495 12 [(47,81),(48,82),(49,83),(50,84),(51,85)] (F:=[(80,false)]) (U:=[]) c0 d0 (.cons rfl .nil) .nil ?_
 dsimp only [offS,List.map]
 refine Af 52 9007199254740991 c0 rfl d0 (fun _=>Au rfl rfl) rfl<|Af 53 18014398509481983 c0 rfl d0 (fun _=>Ai rfl) rfl<|AE 72057594037927935 8 [(54,88),(55,89)] (F:=[(87,false)]) (U:=[]) c0 d0 (.cons rfl .nil) .nil ?_
 dsimp only [offS,List.map]
 refine Af 56 144115188075855871 c0 rfl d0 (fun _=>Au rfl rfl) rfl<|Af 57 288230376151711743 c0 rfl d0 (fun _=>Ai rfl) rfl<|AE 4611686018427387903 2 [(58,92),(59,93),(60,94),(61,95)] (F:=[(91,false)]) (U:=[]) c0 d0 (.cons rfl .nil) .nil ?_
 dsimp only [offS,List.map]
 refine Af 62 9223372036854775807 c0 rfl d0 (fun _=>Au rfl rfl) rfl<|Af 63 18446744073709551615 c0 rfl d0 (fun _=>AM rfl) rfl<|AF (dk c0)<|Ak rfl<|AL hb0 Tryz.func10 rfl rfl ?_
 cases h
 exact v0.gv
 refine AE 131071 47 [(14,48),(15,49),(16,50)] (F:=[(47,false)]) (U:=[]) c0 d0 (.cons rfl .nil) .nil ?_
 dsimp only [offS,List.map]
 refine Af 17 262143 c0 rfl d0 (fun _=>Au rfl rfl) rfl<|Af 18 524287 c0 rfl d0 (fun _=>Ai rfl) rfl<|AE 16777215 40 [(19,53),(20,54),(21,55),(22,56),(23,57)] (F:=[(52,false)]) (U:=[]) c0 d0 (.cons rfl .nil) .nil ?_
 dsimp only [offS,List.map]
 refine Af 24 33554431 c0 rfl d0 (fun _=>Au rfl rfl) rfl<|Af 25 67108863 c0 rfl d0 (fun _=>Ai rfl) rfl<|AE 268435455 36 [(26,60),(27,61)] (F:=[(59,false)]) (U:=[]) c0 d0 (.cons rfl .nil) .nil ?_
 dsimp only [offS,List.map]
 refine Af 28 536870911 c0 rfl d0 (fun _=>Au rfl rfl) rfl<|Af 29 1073741823 c0 rfl d0 (fun _=>Ai rfl) rfl<|AE 34359738367 29 [(30,64),(31,65),(32,66),(33,67),(34,68)] (F:=[(63,false)]) (U:=[]) c0 d0 (.cons rfl .nil) .nil ?_
 dsimp only [offS,List.map]
 refine Af 35 68719476735 c0 rfl d0 (fun _=>Au rfl rfl) rfl<|Af 36 137438953471 c0 rfl d0 (fun _=>Ai rfl) rfl<|AE 35184372088831 19 [(37,71),(38,72),(39,73),(40,74),(41,75),(42,76),(43,77),(44,78)] (F:=[(70,false)]) (U:=[]) c0 d0 (.cons rfl .nil) .nil ?_
 dsimp only [offS,List.map]
 refine Af 45 70368744177663 c0 rfl d0 (fun _=>Au rfl rfl) rfl<|Af 46 140737488355327 c0 rfl d0 (fun _=>Ai rfl) rfl<|AE 4503599627370495 12 [(47,81),(48,82),(49,83),(50,84),(51,85)] (F:=[(80,false)]) (U:=[]) c0 d0 (.cons rfl .nil) .nil ?_
 dsimp only [offS,List.map]
 refine Af 52 9007199254740991 c0 rfl d0 (fun _=>Au rfl rfl) rfl<|Af 53 18014398509481983 c0 rfl d0 (fun _=>Ai rfl) rfl<|AE 72057594037927935 8 [(54,88),(55,89)] (F:=[(87,false)]) (U:=[]) c0 d0 (.cons rfl .nil) .nil ?_
 dsimp only [offS,List.map]
 refine Af 56 144115188075855871 c0 rfl d0 (fun _=>Au rfl rfl) rfl<|Af 57 288230376151711743 c0 rfl d0 (fun _=>Ai rfl) rfl<|AE 4611686018427387903 2 [(58,92),(59,93),(60,94),(61,95)] (F:=[(91,false)]) (U:=[]) c0 d0 (.cons rfl .nil) .nil ?_
 dsimp only [offS,List.map]
 refine Af 62 9223372036854775807 c0 rfl d0 (fun _=>Au rfl rfl) rfl<|Af 63 18446744073709551615 c0 rfl d0 (fun _=>AM rfl) rfl<|AF (dk c0)<|Ak rfl<|AL hb0 Tryz.func10 rfl rfl ?_
 cases h
 exact v0.gv
 refine AE 4095 52 [(10,44),(11,45)] (F:=[(43,false)]) (U:=[]) c0 d0 (.cons rfl .nil) .nil ?_
 dsimp only [offS,List.map]
 refine Af 12 8191 c0 rfl d0 (fun _=>Au rfl rfl) rfl<|Af 13 16383 c0 rfl d0 (fun _=>Ai rfl) rfl<|AE 131071 47 [(14,48),(15,49),(16,50)] (F:=[(47,false)]) (U:=[]) c0 d0 (.cons rfl .nil) .nil ?_
 dsimp only [offS,List.map]
 refine Af 17 262143 c0 rfl d0 (fun _=>Au rfl rfl) rfl<|Af 18 524287 c0 rfl d0 (fun _=>Ai rfl) rfl<|AE 16777215 40 [(19,53),(20,54),(21,55),(22,56),(23,57)] (F:=[(52,false)]) (U:=[]) c0 d0 (.cons rfl .nil) .nil ?_
 dsimp only [offS,List.map]
 refine Af 24 33554431 c0 rfl d0 (fun _=>Au rfl rfl) rfl<|Af 25 67108863 c0 rfl d0 (fun _=>Ai rfl) rfl<|AE 268435455 36 [(26,60),(27,61)] (F:=[(59,false)]) (U:=[]) c0 d0 (.cons rfl .nil) .nil ?_
 dsimp only [offS,List.map]
 refine Af 28 536870911 c0 rfl d0 (fun _=>Au rfl rfl) rfl<|Af 29 1073741823 c0 rfl d0 (fun _=>Ai rfl) rfl<|AE 34359738367 29 [(30,64),(31,65),(32,66),(33,67),(34,68)] (F:=[(63,false)]) (U:=[]) c0 d0 (.cons rfl .nil) .nil ?_
 dsimp only [offS,List.map]
 refine Af 35 68719476735 c0 rfl d0 (fun _=>Au rfl rfl) rfl<|Af 36 137438953471 c0 rfl d0 (fun _=>Ai rfl) rfl<|AE 35184372088831 19 [(37,71),(38,72),(39,73),(40,74),(41,75),(42,76),(43,77),(44,78)] (F:=[(70,false)]) (U:=[]) c0 d0 (.cons rfl .nil) .nil ?_
 dsimp only [offS,List.map]
 refine Af 45 70368744177663 c0 rfl d0 (fun _=>Au rfl rfl) rfl<|Af 46 140737488355327 c0 rfl d0 (fun _=>Ai rfl) rfl<|AE 4503599627370495 12 [(47,81),(48,82),(49,83),(50,84),(51,85)] (F:=[(80,false)]) (U:=[]) c0 d0 (.cons rfl .nil) .nil ?_
 dsimp only [offS,List.map]
 refine Af 52 9007199254740991 c0 rfl d0 (fun _=>Au rfl rfl) rfl<|Af 53 18014398509481983 c0 rfl d0 (fun _=>Ai rfl) rfl<|AE 72057594037927935 8 [(54,88),(55,89)] (F:=[(87,false)]) (U:=[]) c0 d0 (.cons rfl .nil) .nil ?_
 dsimp only [offS,List.map]
 refine Af 56 144115188075855871 c0 rfl d0 (fun _=>Au rfl rfl) rfl<|Af 57 288230376151711743 c0 rfl d0 (fun _=>Ai rfl) rfl<|AE 4611686018427387903 2 [(58,92),(59,93),(60,94),(61,95)] (F:=[(91,false)]) (U:=[]) c0 d0 (.cons rfl .nil) .nil ?_
 dsimp only [offS,List.map]
 refine Af 62 9223372036854775807 c0 rfl d0 (fun _=>Au rfl rfl) rfl<|Af 63 18446744073709551615 c0 rfl d0 (fun _=>AM rfl) rfl<|AF (dk c0)<|Ak rfl<|AL hb0 Tryz.func10 rfl rfl ?_
 cases h
 exact v0.gv
def tb111_1:List (Nat × Nat × Nat):=[(0,32,4),(1,64,32),(0,128,8),(4,256,128),(10,512,320),(0,1024,8),(32,2048,1024),(0,4096,4),(128,8192,4096),(336,16384,10240),(528,32768,16896),(2047,16,32768)]
def share_Ratio_Cmp_p (n:Nat) (a0:TRatio) (a1:TRatio):Option Int:=
  (wide_Long_Times_p n a0.fw a1.ft).bind fun b0=>(wide_Long_Times_p n a1.fw a0.ft).bind fun c0=>(wide_Long_Cmp_p n b0 c0).bind fun d0=>some d0
theorem share_Ratio_Cmp_c (n:Nat) (L:List Nat) (w:World) (hL:∀ b ∈ L,b < w.heap.size) (a0:TRatio) {v0_1:Value} (h0_1:Rep.R w L [v0_1] a0.fw.fm) {v0_3:Value} (h0_3:Rep.R w L [v0_3] a0.ft.fm) (a1:TRatio) {v1_1:Value} (h1_1:Rep.R w L [v1_1] a1.fw.fm) {v1_3:Value} (h1_3:Rep.R w L [v1_3] a1.ft.fm)  {r:Int} (h:share_Ratio_Cmp_p n a0 a1 = some r) :
    Calls Tryz.prog 111 #[.agg #[.bool a0.fw.fc,v0_1,.bool a0.ft.fc,v0_3],.agg #[.bool a1.fw.fc,v1_1,.bool a1.ft.fc,v1_3]] w (Gives w fun _ u=>u = vI r):=by
 unfold share_Ratio_Cmp_p at h
 have hS0:=Az w
 refine AB Tryz.func111 rfl rfl rfl (fun _ cs0 hb0=>?_)
 refine Ac<|Al .plain rfl (Ax hS0 rfl rfl) (fun P0 D0 k0 F0=>?_)
 refine Al .plain rfl (Ax k0 rfl rfl) (fun Q0 E0 d0 G0=>?_)
 refine Ag rfl<|Aa<|Aj<|dt 12 tb111_1 (fun b0 c0=>?_)
 refine Af 0 1 b0 rfl c0 (fun _=>Bm 0 rfl) rfl<|AI 1 3 3600 b0 rfl c0 (Bh (cs:=[.bool a0.fw.fc,v0_1]) (by kernel_rfl) rfl (mem_part (d0.memA (.tl .hd)) 0 2)) rfl<|Af 2 7 b0 rfl c0 (fun _=>Bm 2 rfl) rfl<|AI 3 15 3600 b0 rfl c0 (Bh (cs:=[.bool a1.ft.fc,v1_3]) (by kernel_rfl) rfl (mem_part (d0.memA .hd) 2 2)) rfl<|Af 5 47 b0 rfl c0 (fun _=>Bm 0 rfl) rfl<|AI 6 111 3584 b0 rfl c0 (Bh (cs:=[.bool a1.fw.fc,v1_1]) (by kernel_rfl) rfl (mem_part (d0.memA .hd) 0 2)) rfl<|Af 7 239 b0 rfl c0 (fun _=>Bm 2 rfl) rfl<|AI 8 495 3584 b0 rfl c0 (Bh (cs:=[.bool a0.ft.fc,v0_3]) (by kernel_rfl) rfl (mem_part (d0.memA (.tl .hd)) 2 2)) rfl ?_
 obtain ⟨A0,x0,h⟩:=bi h
 refine By 4 511 b0 rfl .plain body102 rfl (e2 rfl rfl) (fun w9 hw9=>wide_Long_Times_c n _ w9 (d0.hL hL hw9) a0.fw (d0.km h0_1 hw9) a1.ft (d0.km h1_3 hw9) x0) rfl (fun R0 K0 q0 ⟨I0,hu_,u0⟩=>?_)
 subst hu_
 obtain ⟨g0,H0⟩:=d0.agr q0
 obtain ⟨B0,y0,h⟩:=bi h
 refine By 9 1023 b0 rfl .plain body102 rfl (e2 rfl rfl) (fun w9 hw9=>wide_Long_Times_c n _ w9 (g0.hL hL hw9) a1.fw (g0.km h1_1 hw9) a0.ft (g0.km h0_3 hw9) y0) rfl (fun U0 M0 s0 ⟨J0,hu_,v0⟩=>?_)
 subst hu_
 obtain ⟨j0,p0⟩:=g0.agr s0
 obtain ⟨C0,z0,h⟩:=bi h
 have t0:=AC u0 p0
 refine RD.cq 10 2047 2048 (vI C0) b0 rfl c0 body149 rfl (e2 rfl rfl) (fun w9 hw9=>wide_Long_Cmp_c n _ w9 (j0.hL0 hL hw9) A0 (j0.kd t0 hw9) B0 (j0.kd v0 hw9) z0) rfl<|Af 11 4095 b0 rfl c0 (fun _=>AM rfl) rfl<|AF (dk b0)<|Ak rfl<|AL hb0 Tryz.func111 rfl rfl ?_
 cases h
 exact j0.gv
def tb110_4:List (Nat × Nat × Nat):=[(0,32768,4),(0,65536,8),(2,131072,65536),(0,262144,16),(12,524288,262144),(21,1048576,688128),(63,64,1048576),(127,128,0)]
theorem body110:bodyB Tryz.prog 110 = true:=by kernel_rfl
theorem body111:bodyB Tryz.prog 111 = true:=by kernel_rfl
def share_Cmp_p (n:Nat) (a0:TShare) (a1:TShare):Option (Int × Int):=
  (share_valid_p n ([a0,a1]:List TShare)).bind fun b0=>(if b0 = true then (share_Read_p n a0).bind fun c0=>(share_Read_p n a1).bind fun d0=>(share_Ratio_Cmp_p n c0 d0).bind fun g0=>some (g0,(0:Int)) else some ((0:Int),(20:Int)))
theorem share_Cmp_c (n:Nat) (L:List Nat) (w:World) (hL:∀ b ∈ L,b < w.heap.size) (a0:TShare) (a1:TShare)  {r:Int × Int} (h:share_Cmp_p n a0 a1 = some r) :
    Calls Tryz.prog 71 #[.agg ((cs_TShare a0)).toArray,.agg ((cs_TShare a1)).toArray] w (Gives w fun _ u=>u = .tuple #[vI r.1,vI r.2]):=by
 unfold share_Cmp_p at h
 have hS0:=Az w
 refine AB Tryz.func71 rfl rfl rfl (fun _ cs0 hb0=>?_)
 refine Ac<|Al .plain rfl (Ax hS0 rfl rfl) (fun x1 R0 v0 Z0=>?_)
 refine Al .plain rfl (Ax v0 rfl rfl) (fun y1 U0 j0 b1=>?_)
 refine Ag rfl<|Ag rfl<|Aa<|Ac<|Ab (AG rfl (j0.memA (.tl .hd)))<|Ab (AG rfl (j0.memA .hd))<|Bn (fst:=[]) (cap:=[]) (vs:=[.agg ((cs_TShare a0)).toArray,.agg ((cs_TShare a1)).toArray,.func (.func 111) #[] #[]]) .plain body110 Tryz.func110 rfl rfl rfl rfl (e3 rfl rfl rfl) rfl (fun Y0 s0 k1=>?_)
 refine Ac<|Al .plain rfl (Ax j0 rfl rfl) (fun z1 V0 x0 c1=>?_)
 refine Al .plain rfl (Ax x0 rfl rfl) (fun A1 W0 k0 d1=>?_)
 refine Ag rfl<|Ag rfl<|Aa<|Aj<|Ac<|Ab (AG rfl (k0.memA (.tl .hd)))<|Ab (AG rfl (k0.memA .hd))<|Al .plain rfl (Bd (α:=TShare) (xs:=([a0,a1]:List TShare)) (vs:=[.agg ((cs_TShare a0)).toArray,.agg ((cs_TShare a1)).toArray]) (ds' :=(cs_TShare a0 ++ cs_TShare a1)) rfl k0 el60 rfl (e2 rfl rfl) (by kernel_rfl) rfl) (fun B1 X0 c0 g1=>?_)
 have A0:=AS (cs:=(cs_TShare a0 ++ cs_TShare a1)) (xs:=(([a0,a1]:List TShare):List TShare)) c0 L (Aq (cs:=(cs_TShare a0)) (ds:=(cs_TShare a1)) (mk_TShare a0.fN a0.fD) (Aq (cs:=(cs_TShare a1)) (ds:=[]) (mk_TShare a1.fN a1.fD) (AX _ _)))
 obtain ⟨M0,H0,h⟩:=bi h
 refine AZ (.bool M0) body99 rfl (e1 rfl) (fun w9 hw9=>share_valid_c n _ w9 (c0.hL0 hL hw9) ([a0,a1]:List TShare) (Ay (St.lend (α:=TShare) (L:=L) c0 .hd A0 hL) hw9) H0) rfl<|Ab (Bx rfl)<|Aa<|MX.ifnb rfl h (fun u0 h=>?_) (fun u0 h=>?_)
 refine Ao<|Aj<|dt 8 tb110_4 (fun b0 g0=>?_)
 refine Af 0 1 b0 rfl g0 (fun _=>Ai rfl) rfl<|AI 1 3 244 b0 rfl g0 (AG rfl (c0.memA (.tl (.tl .hd)))) rfl<|AI 3 11 240 b0 rfl g0 (AG rfl (c0.memA (.tl .hd))) rfl ?_
 obtain ⟨P0,I0,h⟩:=bi h
 refine By 2 15 b0 rfl .plain body100 rfl (e1 rfl) (fun w9 hw9=>share_Read_c n _ w9 (c0.hL hL hw9) a0 I0) rfl (fun C1 u1 y0 ⟨p1,q1,hu_,D0,E0⟩=>?_)
 subst hu_
 obtain ⟨p0,j1⟩:=c0.agr y0
 obtain ⟨Q0,J0,h⟩:=bi h
 refine By 4 31 b0 rfl .plain body100 rfl (e1 rfl) (fun w9 hw9=>share_Read_c n _ w9 (p0.hL hL hw9) a1 J0) rfl (fun D1 v1 z0 ⟨s1,t1,hu_,F0,G0⟩=>?_)
 subst hu_
 obtain ⟨d0,q0⟩:=p0.agr z0
 obtain ⟨t0,K0,h⟩:=bi h
 have B0:=AC D0 q0
 have C0:=AC E0 q0
 refine RD.cq 5 63 192 (vI t0) b0 rfl g0 body111 rfl (e2 rfl rfl) (fun w9 hw9=>share_Ratio_Cmp_c n _ w9 (d0.hL0 hL hw9) P0 (d0.kd B0 hw9) (d0.kd C0 hw9) Q0 (d0.kd F0 hw9) (d0.kd G0 hw9) K0) rfl<|Af 6 127 b0 rfl g0 (fun _=>AM rfl) rfl<|Af 7 255 b0 rfl g0 (fun _=>AM rfl) rfl<|AF (dk b0)<|Ak rfl<|Am (u:=.tuple #[vI t0,vI 0]) s0 Tryz.func110 rfl (.cons (.tmp rfl) (.cons (.tmp rfl) .nil)) rfl<|Ab (Ah rfl rfl)<|Ab (Ah rfl rfl)<|Ag rfl<|Ag rfl<|Aa<|Ak rfl<|Am hb0 Tryz.func71 rfl (.cons (.tmp rfl) (.cons (.tmp rfl) .nil)) rfl ?_
 cases h
 exact d0.gv
 refine Ac<|Ag rfl<|Aa<|Ac<|Ae rfl<|Ag rfl<|Ag rfl<|Aa<|Ak rfl<|Am (u:=.tuple #[vI 0,vI 20]) s0 Tryz.func110 rfl (.cons (.tmp rfl) (.cons (.tmp rfl) .nil)) rfl<|Ab (Ah rfl rfl)<|Ab (Ah rfl rfl)<|Ag rfl<|Ag rfl<|Aa<|Ak rfl<|Am hb0 Tryz.func71 rfl (.cons (.tmp rfl) (.cons (.tmp rfl) .nil)) rfl ?_
 cases h
 exact c0.gv
theorem body71:bodyB Tryz.prog 71 = true:=by kernel_rfl
def wardmotelaw27_atMost_p (n:Nat) (a0:TShare) (a1:TShare):Option Bool:=
  (share_Cmp_p n a0 a1).bind fun b0=>(if b0.2 = 0 then some (decide (b0.1 ≤ 0)) else some false)
theorem wardmotelaw27_atMost_c (n:Nat) (L:List Nat) (w:World) (hL:∀ b ∈ L,b < w.heap.size) (a0:TShare) (a1:TShare)  {r:Bool} (h:wardmotelaw27_atMost_p n a0 a1 = some r) :
    Calls Tryz.prog 26 #[.agg ((cs_TShare a0)).toArray,.agg ((cs_TShare a1)).toArray] w (Gives w fun _ u=>u = .bool r):=by
 unfold wardmotelaw27_atMost_p at h
 have hS0:=Az w
 refine AB Tryz.func26 rfl rfl rfl (fun _ cs0 hb0=>?_)
 refine Ac<|Al .plain rfl (Ax hS0 rfl rfl) (fun t0 k0 g0 q0=>?_)
 refine Al .plain rfl (Ax g0 rfl rfl) (fun u0 p0 b0 s0=>?_)
 refine Ag rfl<|Aa<|Ac<|Ab (AG rfl (b0.memA (.tl .hd)))<|Ab (AG rfl (b0.memA .hd)) ?_
 obtain ⟨c0,j0,h⟩:=bi h
 refine AZ (.tuple #[vI c0.1,vI c0.2]) body71 rfl (e2 rfl rfl) (fun w9 hw9=>share_Cmp_c n _ w9 (b0.hL0 hL hw9) a0 a1 j0) rfl<|Ae rfl<|Ab (Ah rfl rfl)<|Ab (Ah rfl rfl)<|Ag rfl<|Ag rfl<|Aa<|Ac<|Ae rfl<|Ab (FV.eql (i:=c0.2) (j:=0) rfl rfl)<|Ae rfl<|RG.ifd (s:=15) rfl h (fun d0 h=>?_) (fun d0 h=>?_)
 refine AR (Ai rfl)<|AR (FV.leq (i:=c0.1) (j:=0) rfl rfl)<|RG.pt rfl rfl<|Ag rfl<|Aa<|Ak rfl<|AL hb0 Tryz.func26 rfl rfl ?_
 cases h
 exact b0.gv
 refine AD<|AD<|RG.pf rfl rfl<|Ag rfl<|Aa<|Ak rfl<|AL hb0 Tryz.func26 rfl rfl ?_
 cases h
 exact b0.gv
def tb6_7:List (Nat × Nat × Nat):=[(0,34359738368,64),(1,68719476736,34359738368),(2,137438953472,68719476736),(4,274877906944,137438953728),(12,549755813888,412316860416),(20,1099511627776,687194767360),(36,2199023255552,1099511627776),(64,4398046511104,2199023255584),(64,8796093022208,2199023255680),(448,17592186044416,15393162788864),(576,35184372088832,19791209299968),(1088,70368744177664,35184372088832),(2048,140737488355328,70368744177664),(2048,281474976710656,70368744177696),(14336,562949953421312,492581209243648),(18432,1125899906842624,633318697598976),(49152,2251799813685248,1125899906842624),(65536,4503599627370496,2251799813685280),(65536,9007199254740992,2251799813685248),(458752,18014398509481984,15762598695796736),(589824,36028797018963968,20266198323167232),(1572864,72057594037927936,36028797018963968),(2097152,144115188075855872,72057594037927968),(2097152,288230376151711744,72057594037927936),(14680064,576460752303423488,504403158265495552),(2097152,1152921504606846976,72057594037927937),(2097152,2305843009213693952,72057594037927938),(102760448,4611686018427387904,3530822107858468864),(153092096,9223372036854775808,5260204364768739328),(270532608,18446744073709551616,9295429630892703744),(545259520,36893488147419103232,18446744073709551616),(1073741824,73786976294838206464,36893488147419103264),(1073741824,147573952589676412928,36893488147419103232),(7516192768,295147905179352825856,258254417031933722624),(1073741824,590295810358705651712,36893488147419103233),(1073741824,1180591620717411303424,36893488147419103234),(52613349376,2361183241434822606848,1807780919223536058368),(69793218560,4722366482869645213696,2398076729582241710080),(147102629888,9444732965739290427392,5054407876196417142784),(275951648768,18889465931478580854784,9481626453886709530624),(1099511627775,16,18889465931478580854784)]
theorem body10:bodyB Tryz.prog 10 = true:=by kernel_rfl
theorem body26:bodyB Tryz.prog 26 = true:=by kernel_rfl
def wardmotelaw27_InterestOverlaps_p (n:Nat) (a0:UInt64) (a1:UInt64):Option Bool:=
  (wardmotelaw27_works_p n).bind fun y1=>(if y1 = true then (interest_Overlap_p n a0 a1).bind fun y3=>(interest_Overlap_p n a1 a0).bind fun b0=>(if a0 = (0:UInt64) then (if a1 = (0:UInt64) then (if y3.2 = 7 then some (decide (b0.2 = 7)) else some false) else (if y3.2 = 0 then (if b0.2 = 0 then (if y3.1 = b0.1 then (wardmotelaw27_of_p n (0:Int) (1:Int)).bind fun c0=>(wardmotelaw27_atMost_p n c0 y3.1).bind fun d0=>(if d0 = true then (wardmotelaw27_of_p n (1:Int) (1:Int)).bind fun g0=>(wardmotelaw27_atMost_p n y3.1 g0).bind fun j0=>(if j0 = true then (wardmotelaw27_of_p n (1:Int) (1:Int)).bind fun k0=>(if ((decide (y3.1 = k0)) == (decide (a0 = a1))) = true then (wardmotelaw27_of_p n (0:Int) (1:Int)).bind fun p0=>some ((decide (y3.1 = p0)) == (decide ((a0 &&& a1) = (0:UInt64)))) else some false) else some false) else some false) else some false) else some false) else some false)) else (if y3.2 = 0 then (if b0.2 = 0 then (if y3.1 = b0.1 then (wardmotelaw27_of_p n (0:Int) (1:Int)).bind fun q0=>(wardmotelaw27_atMost_p n q0 y3.1).bind fun s0=>(if s0 = true then (wardmotelaw27_of_p n (1:Int) (1:Int)).bind fun t0=>(wardmotelaw27_atMost_p n y3.1 t0).bind fun u0=>(if u0 = true then (wardmotelaw27_of_p n (1:Int) (1:Int)).bind fun v0=>(if ((decide (y3.1 = v0)) == (decide (a0 = a1))) = true then (wardmotelaw27_of_p n (0:Int) (1:Int)).bind fun x0=>some ((decide (y3.1 = x0)) == (decide ((a0 &&& a1) = (0:UInt64)))) else some false) else some false) else some false) else some false) else some false) else some false)) else some false)
theorem wardmotelaw27_InterestOverlaps_c (n:Nat) (L:List Nat) (w:World) (hL:∀ b ∈ L,b < w.heap.size) (a0:UInt64) (a1:UInt64) (hG0:Glob 0 tab0 w)  {r:Bool} (h:wardmotelaw27_InterestOverlaps_p n a0 a1 = some r) :
    Calls Tryz.prog 6 #[vU a0,vU a1] w (Gives w fun _ u=>u = .bool r):=by
 unfold wardmotelaw27_InterestOverlaps_p at h
 have hS0:=Az w
 refine AB Tryz.func6 rfl rfl rfl (fun _ cs0 hb0=>?_)
 refine Ac<|Ag rfl<|Aa<|Aj<|Ac ?_
 obtain ⟨y1,hy1,h⟩:=bi h
 refine AZ (.bool y1) body10 rfl evs_nil (fun w9 hw9=>wardmotelaw27_works_c n _ w9 (hS0.hL0 hL hw9) (hG0.keep (hS0.ag.trans hw9)) hy1) rfl<|Ab (Bx rfl)<|Aa<|MX.ifnb rfl h (fun c2 h=>?_) (fun c2 h=>?_)
 refine Ao<|Ac<|Ae rfl<|Ae rfl ?_
 obtain ⟨y3,hy3,h⟩:=bi h
 refine AZ (.tuple #[.agg ((cs_TShare y3.1)).toArray,vI y3.2]) body15 rfl (e2 rfl rfl) (fun w9 hw9=>interest_Overlap_c n _ w9 (hS0.hL0 hL hw9) a0 a1 hy3) rfl<|Ae rfl<|Ab (Ah rfl rfl)<|Ab (Ah rfl rfl)<|Al .plain rfl (AA zL hS0) (fun G1 A1 U0 C1=>?_)
 refine AQ (cs_TShare y3.1) U0 .hd (onesB rfl) (fun H1 u0 D1=>?_)
 refine Ag rfl<|Aa<|Ac<|Ae rfl<|Ae rfl ?_
 obtain ⟨k0,W0,h⟩:=bi h
 refine AZ (.tuple #[.agg ((cs_TShare k0.1)).toArray,vI k0.2]) body15 rfl (e2 rfl rfl) (fun w9 hw9=>interest_Overlap_c n _ w9 (u0.hL0 hL hw9) a1 a0 W0) rfl<|Ae rfl<|Ab (Ah rfl rfl)<|Ab (Ah rfl rfl)<|Al .plain rfl (AA zL u0) (fun I1 B1 V0 E1=>?_)
 refine AQ (cs_TShare k0.1) V0 .hd (onesB rfl) (fun J1 j0 F1=>?_)
 refine Ag rfl<|Aa<|Aj<|Ac<|Ae rfl<|Ab (FV.eqlU (a:=a0) (b:=(0:UInt64)) rfl rfl)<|Ae rfl<|RG.ifd (s:=25) rfl h (fun A0 h=>?_) (fun A0 h=>?_)
 refine AR (Ai rfl)<|AR (FV.eqlU (a:=a1) (b:=(0:UInt64)) rfl rfl)<|RG.pt rfl rfl<|Aa<|AP rfl h (fun B0 h=>?_) (fun B0 h=>?_)
 refine Ac<|Ae rfl<|Ab (FV.eql (i:=y3.2) (j:=7) rfl rfl)<|Ae rfl<|RG.ifd (s:=31) rfl h (fun C0 h=>?_) (fun C0 h=>?_)
 refine AR (Ai rfl)<|AR (FV.eql (i:=k0.2) (j:=7) rfl rfl)<|RG.pt rfl rfl<|Ag rfl<|Aa<|Ak rfl<|AL hb0 Tryz.func6 rfl rfl ?_
 cases h
 exact j0.gv
 refine AD<|AD<|RG.pf rfl rfl<|Ag rfl<|Aa<|Ak rfl<|AL hb0 Tryz.func6 rfl rfl ?_
 cases h
 exact j0.gv
 refine Ao<|Aj<|dt 41 tb6_7 (fun b0 d0=>?_)
 refine Af 0 1 b0 rfl d0 (fun _=>Ai rfl) rfl<|Af 1 3 b0 rfl d0 (fun _=>FV.eql (i:=y3.2) (j:=0) rfl rfl) rfl<|Af 2 7 b0 rfl d0 (fun _=>Ai rfl) rfl<|RD.ifd (s:=37) rfl h (fun D0 h=>?_) (fun D0 h=>?_)
 refine Bs 3 15 b0 rfl d0 (.yes rfl rfl) (fun _=>Ai rfl) rfl<|Bs 4 31 b0 rfl d0 (.yes rfl rfl) (fun _=>FV.eql (i:=k0.2) (j:=0) rfl rfl) rfl<|Af 5 63 b0 rfl d0 (fun _=>Br rfl rfl) rfl<|Af 6 127 b0 rfl d0 (fun _=>Ai rfl) rfl<|RD.ifd (s:=41) rfl h (fun E0 h=>?_) (fun E0 h=>?_)
 refine RD.val (i:=7) (m' :=255) (W:=2199023255040) (tk b0) rfl d0 (.yes rfl rfl) (AG rfl (j0.memA (.tl .hd))) rfl<|RD.val (i:=8) (m' :=511) (W:=2199023255040) (tk b0) rfl d0 (.yes rfl rfl) (AG rfl (j0.memA .hd)) rfl<|Bs 9 1023 b0 rfl d0 (.yes rfl rfl) (fun _=>FV.eqlV (v:=.agg ((cs_TShare y3.1)).toArray) (u:=.agg ((cs_TShare k0.1)).toArray) rfl rfl (eqlD_42 y3.1 k0.1)) rfl<|Af 10 2047 b0 rfl d0 (fun _=>Br rfl rfl) rfl<|Af 11 4095 b0 rfl d0 (fun _=>Ai rfl) rfl<|RD.ifd (s:=46) rfl h (fun F0 h=>?_) (fun F0 h=>?_)
 obtain ⟨v0,X0,h⟩:=bi h
 refine RD.callq (i:=12) (m' :=8191) (W:=2199023239168) (tk b0) rfl d0 (v:=.agg ((cs_TShare v0)).toArray) (fst:=[]) (cap:=[]) (.yes rfl rfl) body20 rfl (e2 rfl rfl) (fun w9 hw9=>wardmotelaw27_of_c n _ w9 (j0.hL0 hL hw9) (0:Int) (1:Int) X0) rfl<|RD.val (i:=13) (m' :=16383) (W:=2199023239168) (tk b0) rfl d0 (.yes rfl rfl) (AG rfl (j0.memA (.tl .hd))) rfl ?_
 obtain ⟨u1,Y0,h⟩:=bi h
 refine RD.callq (i:=14) (m' :=32767) (W:=2199023222784) (tk b0) rfl d0 (v:=.bool u1) (fst:=[]) (cap:=[]) (.yes rfl rfl) body26 rfl (e2 rfl rfl) (fun w9 hw9=>wardmotelaw27_atMost_c n _ w9 (j0.hL0 hL hw9) v0 y3.1 Y0) rfl<|Af 15 65535 b0 rfl d0 (fun _=>Br rfl rfl) rfl<|Af 16 131071 b0 rfl d0 (fun _=>Ai rfl) rfl<|RD.ifb (s:=51) rfl h (fun G0 h=>?_) (fun G0 h=>?_)
 refine RD.val (i:=17) (m' :=262143) (W:=2199022731264) (tk b0) rfl d0 (.yes rfl rfl) (AG rfl (j0.memA (.tl .hd))) rfl ?_
 obtain ⟨x0,Z0,h⟩:=bi h
 refine RD.callq (i:=18) (m' :=524287) (W:=2199022731264) (tk b0) rfl d0 (v:=.agg ((cs_TShare x0)).toArray) (fst:=[]) (cap:=[]) (.yes rfl rfl) body20 rfl (e2 rfl rfl) (fun w9 hw9=>wardmotelaw27_of_c n _ w9 (j0.hL0 hL hw9) (1:Int) (1:Int) Z0) rfl ?_
 obtain ⟨v1,b1,h⟩:=bi h
 refine RD.callq (i:=19) (m' :=1048575) (W:=2199022206976) (tk b0) rfl d0 (v:=.bool v1) (fst:=[]) (cap:=[]) (.yes rfl rfl) body26 rfl (e2 rfl rfl) (fun w9 hw9=>wardmotelaw27_atMost_c n _ w9 (j0.hL0 hL hw9) y3.1 x0 b1) rfl<|Af 20 2097151 b0 rfl d0 (fun _=>Br rfl rfl) rfl<|Af 21 4194303 b0 rfl d0 (fun _=>Ai rfl) rfl<|RD.ifb (s:=56) rfl h (fun H0 h=>?_) (fun H0 h=>?_)
 refine RD.val (i:=22) (m' :=8388607) (W:=2198771597312) (tk b0) rfl d0 (.yes rfl rfl) (AG rfl (j0.memA (.tl .hd))) rfl ?_
 obtain ⟨p0,c1,h⟩:=bi h
 refine RD.callq (i:=23) (m' :=16777215) (W:=2198771597312) (tk b0) rfl d0 (v:=.agg ((cs_TShare p0)).toArray) (fst:=[]) (cap:=[]) (.yes rfl rfl) body20 rfl (e2 rfl rfl) (fun w9 hw9=>wardmotelaw27_of_c n _ w9 (j0.hL0 hL hw9) (1:Int) (1:Int) c1) rfl<|Bs 24 33554431 b0 rfl d0 (.yes rfl rfl) (fun _=>FV.eqlV (v:=.agg ((cs_TShare y3.1)).toArray) (u:=.agg ((cs_TShare p0)).toArray) rfl rfl (eqlD_42 y3.1 p0)) rfl<|Bs 25 67108863 b0 rfl d0 (.yes rfl rfl) (fun _=>Ai rfl) rfl<|Bs 26 134217727 b0 rfl d0 (.yes rfl rfl) (fun _=>Ai rfl) rfl<|Bs 27 268435455 b0 rfl d0 (.yes rfl rfl) (fun _=>FV.eqlU (a:=a0) (b:=a1) rfl rfl) rfl<|Bs 28 536870911 b0 rfl d0 (.yes rfl rfl) (fun _=>FV.eqlB (a:=(decide (y3.1 = p0))) (b:=(decide (a0 = a1))) Tryz.underlying4 rfl rfl) rfl<|Af 29 1073741823 b0 rfl d0 (fun _=>Br rfl rfl) rfl<|Af 30 2147483647 b0 rfl d0 (fun _=>Ai rfl) rfl<|RD.ifb (s:=65) rfl h (fun I0 h=>?_) (fun I0 h=>?_)
 refine RD.val (i:=31) (m' :=4294967295) (W:=1932735283200) (tk b0) rfl d0 (.yes rfl rfl) (AG rfl (j0.memA (.tl .hd))) rfl ?_
 obtain ⟨q0,d1,h⟩:=bi h
 refine RD.callq (i:=32) (m' :=8589934591) (W:=1932735283200) (tk b0) rfl d0 (v:=.agg ((cs_TShare q0)).toArray) (fst:=[]) (cap:=[]) (.yes rfl rfl) body20 rfl (e2 rfl rfl) (fun w9 hw9=>wardmotelaw27_of_c n _ w9 (j0.hL0 hL hw9) (0:Int) (1:Int) d1) rfl<|Bs 33 17179869183 b0 rfl d0 (.yes rfl rfl) (fun _=>FV.eqlV (v:=.agg ((cs_TShare y3.1)).toArray) (u:=.agg ((cs_TShare q0)).toArray) rfl rfl (eqlD_42 y3.1 q0)) rfl<|Bs 34 34359738367 b0 rfl d0 (.yes rfl rfl) (fun _=>Ai rfl) rfl<|Bs 35 68719476735 b0 rfl d0 (.yes rfl rfl) (fun _=>Ai rfl) rfl<|Bs 36 137438953471 b0 rfl d0 (.yes rfl rfl) (fun _=>FV.andU (a:=a0) (b:=a1) rfl rfl) rfl<|Bs 37 274877906943 b0 rfl d0 (.yes rfl rfl) (fun _=>FV.eqlU (a:=a0 &&& a1) (b:=(0:UInt64)) rfl rfl) rfl<|Bs 38 549755813887 b0 rfl d0 (.yes rfl rfl) (fun _=>FV.eqlB (a:=(decide (y3.1 = q0))) (b:=(decide ((a0 &&& a1) = (0:UInt64)))) Tryz.underlying4 rfl rfl) rfl<|Af 39 1099511627775 b0 rfl d0 (fun _=>Br rfl rfl) rfl<|Af 40 2199023255551 b0 rfl d0 (fun _=>AM rfl) rfl<|AF (dk b0)<|Ak rfl<|AL hb0 Tryz.func6 rfl rfl ?_
 cases h
 exact j0.gv
 refine AE 549755813887 2 [(31,66),(32,67),(33,68),(34,69),(35,70),(36,71),(37,72),(38,73)] (F:=[(65,false)]) (U:=[]) b0 d0 (.cons rfl .nil) .nil ?_
 dsimp only [offS,List.map]
 refine Af 39 1099511627775 b0 rfl d0 (fun _=>Au rfl rfl) rfl<|Af 40 2199023255551 b0 rfl d0 (fun _=>AM rfl) rfl<|AF (dk b0)<|Ak rfl<|AL hb0 Tryz.func6 rfl rfl ?_
 cases h
 exact j0.gv
 refine AE 536870911 12 [(22,57),(23,58),(24,59),(25,60),(26,61),(27,62),(28,63)] (F:=[(56,false)]) (U:=[]) b0 d0 (.cons rfl .nil) .nil ?_
 dsimp only [offS,List.map]
 refine Af 29 1073741823 b0 rfl d0 (fun _=>Au rfl rfl) rfl<|Af 30 2147483647 b0 rfl d0 (fun _=>Ai rfl) rfl<|AE 549755813887 2 [(31,66),(32,67),(33,68),(34,69),(35,70),(36,71),(37,72),(38,73)] (F:=[(65,false)]) (U:=[]) b0 d0 (.cons rfl .nil) .nil ?_
 dsimp only [offS,List.map]
 refine Af 39 1099511627775 b0 rfl d0 (fun _=>Au rfl rfl) rfl<|Af 40 2199023255551 b0 rfl d0 (fun _=>AM rfl) rfl<|AF (dk b0)<|Ak rfl<|AL hb0 Tryz.func6 rfl rfl ?_
 cases h
 exact j0.gv
 refine AE 1048575 21 [(17,52),(18,53),(19,54)] (F:=[(51,false)]) (U:=[]) b0 d0 (.cons rfl .nil) .nil ?_
 dsimp only [offS,List.map]
 refine Af 20 2097151 b0 rfl d0 (fun _=>Au rfl rfl) rfl<|Af 21 4194303 b0 rfl d0 (fun _=>Ai rfl) rfl<|AE 536870911 12 [(22,57),(23,58),(24,59),(25,60),(26,61),(27,62),(28,63)] (F:=[(56,false)]) (U:=[]) b0 d0 (.cons rfl .nil) .nil ?_
 dsimp only [offS,List.map]
 refine Af 29 1073741823 b0 rfl d0 (fun _=>Au rfl rfl) rfl<|Af 30 2147483647 b0 rfl d0 (fun _=>Ai rfl) rfl<|AE 549755813887 2 [(31,66),(32,67),(33,68),(34,69),(35,70),(36,71),(37,72),(38,73)] (F:=[(65,false)]) (U:=[]) b0 d0 (.cons rfl .nil) .nil ?_
 dsimp only [offS,List.map]
 refine Af 39 1099511627775 b0 rfl d0 (fun _=>Au rfl rfl) rfl<|Af 40 2199023255551 b0 rfl d0 (fun _=>AM rfl) rfl<|AF (dk b0)<|Ak rfl<|AL hb0 Tryz.func6 rfl rfl ?_
 cases h
 exact j0.gv
 refine AE 32767 26 [(12,47),(13,48),(14,49)] (F:=[(46,false)]) (U:=[]) b0 d0 (.cons rfl .nil) .nil ?_
 dsimp only [offS,List.map]
 refine Af 15 65535 b0 rfl d0 (fun _=>Au rfl rfl) rfl<|Af 16 131071 b0 rfl d0 (fun _=>Ai rfl) rfl<|AE 1048575 21 [(17,52),(18,53),(19,54)] (F:=[(51,false)]) (U:=[]) b0 d0 (.cons rfl .nil) .nil ?_
 dsimp only [offS,List.map]
 refine Af 20 2097151 b0 rfl d0 (fun _=>Au rfl rfl) rfl<|Af 21 4194303 b0 rfl d0 (fun _=>Ai rfl) rfl<|AE 536870911 12 [(22,57),(23,58),(24,59),(25,60),(26,61),(27,62),(28,63)] (F:=[(56,false)]) (U:=[]) b0 d0 (.cons rfl .nil) .nil ?_
 dsimp only [offS,List.map]
 refine Af 29 1073741823 b0 rfl d0 (fun _=>Au rfl rfl) rfl<|Af 30 2147483647 b0 rfl d0 (fun _=>Ai rfl) rfl<|AE 549755813887 2 [(31,66),(32,67),(33,68),(34,69),(35,70),(36,71),(37,72),(38,73)] (F:=[(65,false)]) (U:=[]) b0 d0 (.cons rfl .nil) .nil ?_
 dsimp only [offS,List.map]
 refine Af 39 1099511627775 b0 rfl d0 (fun _=>Au rfl rfl) rfl<|Af 40 2199023255551 b0 rfl d0 (fun _=>AM rfl) rfl<|AF (dk b0)<|Ak rfl<|AL hb0 Tryz.func6 rfl rfl ?_
 cases h
 exact j0.gv
 refine AE 1023 31 [(7,42),(8,43),(9,44)] (F:=[(41,false)]) (U:=[]) b0 d0 (.cons rfl .nil) .nil ?_
 dsimp only [offS,List.map]
 refine Af 10 2047 b0 rfl d0 (fun _=>Au rfl rfl) rfl<|Af 11 4095 b0 rfl d0 (fun _=>Ai rfl) rfl<|AE 32767 26 [(12,47),(13,48),(14,49)] (F:=[(46,false)]) (U:=[]) b0 d0 (.cons rfl .nil) .nil ?_
 dsimp only [offS,List.map]
 refine Af 15 65535 b0 rfl d0 (fun _=>Au rfl rfl) rfl<|Af 16 131071 b0 rfl d0 (fun _=>Ai rfl) rfl<|AE 1048575 21 [(17,52),(18,53),(19,54)] (F:=[(51,false)]) (U:=[]) b0 d0 (.cons rfl .nil) .nil ?_
 dsimp only [offS,List.map]
 refine Af 20 2097151 b0 rfl d0 (fun _=>Au rfl rfl) rfl<|Af 21 4194303 b0 rfl d0 (fun _=>Ai rfl) rfl<|AE 536870911 12 [(22,57),(23,58),(24,59),(25,60),(26,61),(27,62),(28,63)] (F:=[(56,false)]) (U:=[]) b0 d0 (.cons rfl .nil) .nil ?_
 dsimp only [offS,List.map]
 refine Af 29 1073741823 b0 rfl d0 (fun _=>Au rfl rfl) rfl<|Af 30 2147483647 b0 rfl d0 (fun _=>Ai rfl) rfl<|AE 549755813887 2 [(31,66),(32,67),(33,68),(34,69),(35,70),(36,71),(37,72),(38,73)] (F:=[(65,false)]) (U:=[]) b0 d0 (.cons rfl .nil) .nil ?_
 dsimp only [offS,List.map]
 refine Af 39 1099511627775 b0 rfl d0 (fun _=>Au rfl rfl) rfl<|Af 40 2199023255551 b0 rfl d0 (fun _=>AM rfl) rfl<|AF (dk b0)<|Ak rfl<|AL hb0 Tryz.func6 rfl rfl ?_
 cases h
 exact j0.gv
 refine AE 31 36 [(3,38),(4,39)] (F:=[(37,false)]) (U:=[]) b0 d0 (.cons rfl .nil) .nil ?_
 dsimp only [offS,List.map]
 refine Af 5 63 b0 rfl d0 (fun _=>Au rfl rfl) rfl<|Af 6 127 b0 rfl d0 (fun _=>Ai rfl) rfl<|AE 1023 31 [(7,42),(8,43),(9,44)] (F:=[(41,false)]) (U:=[]) b0 d0 (.cons rfl .nil) .nil ?_
 dsimp only [offS,List.map]
 refine Af 10 2047 b0 rfl d0 (fun _=>Au rfl rfl) rfl<|Af 11 4095 b0 rfl d0 (fun _=>Ai rfl) rfl<|AE 32767 26 [(12,47),(13,48),(14,49)] (F:=[(46,false)]) (U:=[]) b0 d0 (.cons rfl .nil) .nil ?_
 dsimp only [offS,List.map]
 refine Af 15 65535 b0 rfl d0 (fun _=>Au rfl rfl) rfl<|Af 16 131071 b0 rfl d0 (fun _=>Ai rfl) rfl<|AE 1048575 21 [(17,52),(18,53),(19,54)] (F:=[(51,false)]) (U:=[]) b0 d0 (.cons rfl .nil) .nil ?_
 dsimp only [offS,List.map]
 refine Af 20 2097151 b0 rfl d0 (fun _=>Au rfl rfl) rfl<|Af 21 4194303 b0 rfl d0 (fun _=>Ai rfl) rfl<|AE 536870911 12 [(22,57),(23,58),(24,59),(25,60),(26,61),(27,62),(28,63)] (F:=[(56,false)]) (U:=[]) b0 d0 (.cons rfl .nil) .nil ?_
 dsimp only [offS,List.map]
 refine Af 29 1073741823 b0 rfl d0 (fun _=>Au rfl rfl) rfl<|Af 30 2147483647 b0 rfl d0 (fun _=>Ai rfl) rfl<|AE 549755813887 2 [(31,66),(32,67),(33,68),(34,69),(35,70),(36,71),(37,72),(38,73)] (F:=[(65,false)]) (U:=[]) b0 d0 (.cons rfl .nil) .nil ?_
 dsimp only [offS,List.map]
 refine Af 39 1099511627775 b0 rfl d0 (fun _=>Au rfl rfl) rfl<|Af 40 2199023255551 b0 rfl d0 (fun _=>AM rfl) rfl<|AF (dk b0)<|Ak rfl<|AL hb0 Tryz.func6 rfl rfl ?_
 cases h
 exact j0.gv
 refine AD<|AD<|RG.pf rfl rfl<|Aa<|Bk rfl<|Ao<|Aj<|dt 41 tb6_7 (fun c0 g0=>?_)
 refine Af 0 1 c0 rfl g0 (fun _=>Ai rfl) rfl<|Af 1 3 c0 rfl g0 (fun _=>FV.eql (i:=y3.2) (j:=0) rfl rfl) rfl<|Af 2 7 c0 rfl g0 (fun _=>Ai rfl) rfl<|RD.ifd (s:=37) rfl h (fun J0 h=>?_) (fun J0 h=>?_)
 refine Bs 3 15 c0 rfl g0 (.yes rfl rfl) (fun _=>Ai rfl) rfl<|Bs 4 31 c0 rfl g0 (.yes rfl rfl) (fun _=>FV.eql (i:=k0.2) (j:=0) rfl rfl) rfl<|Af 5 63 c0 rfl g0 (fun _=>Br rfl rfl) rfl<|Af 6 127 c0 rfl g0 (fun _=>Ai rfl) rfl<|RD.ifd (s:=41) rfl h (fun K0 h=>?_) (fun K0 h=>?_)
 refine RD.val (i:=7) (m' :=255) (W:=2199023255040) (tk c0) rfl g0 (.yes rfl rfl) (AG rfl (j0.memA (.tl .hd))) rfl<|RD.val (i:=8) (m' :=511) (W:=2199023255040) (tk c0) rfl g0 (.yes rfl rfl) (AG rfl (j0.memA .hd)) rfl<|Bs 9 1023 c0 rfl g0 (.yes rfl rfl) (fun _=>FV.eqlV (v:=.agg ((cs_TShare y3.1)).toArray) (u:=.agg ((cs_TShare k0.1)).toArray) rfl rfl (eqlD_42 y3.1 k0.1)) rfl<|Af 10 2047 c0 rfl g0 (fun _=>Br rfl rfl) rfl<|Af 11 4095 c0 rfl g0 (fun _=>Ai rfl) rfl<|RD.ifd (s:=46) rfl h (fun M0 h=>?_) (fun M0 h=>?_)
 obtain ⟨y0,g1,h⟩:=bi h
 refine RD.callq (i:=12) (m' :=8191) (W:=2199023239168) (tk c0) rfl g0 (v:=.agg ((cs_TShare y0)).toArray) (fst:=[]) (cap:=[]) (.yes rfl rfl) body20 rfl (e2 rfl rfl) (fun w9 hw9=>wardmotelaw27_of_c n _ w9 (j0.hL0 hL hw9) (0:Int) (1:Int) g1) rfl<|RD.val (i:=13) (m' :=16383) (W:=2199023239168) (tk c0) rfl g0 (.yes rfl rfl) (AG rfl (j0.memA (.tl .hd))) rfl ?_
 obtain ⟨x1,j1,h⟩:=bi h
 refine RD.callq (i:=14) (m' :=32767) (W:=2199023222784) (tk c0) rfl g0 (v:=.bool x1) (fst:=[]) (cap:=[]) (.yes rfl rfl) body26 rfl (e2 rfl rfl) (fun w9 hw9=>wardmotelaw27_atMost_c n _ w9 (j0.hL0 hL hw9) y0 y3.1 j1) rfl<|Af 15 65535 c0 rfl g0 (fun _=>Br rfl rfl) rfl<|Af 16 131071 c0 rfl g0 (fun _=>Ai rfl) rfl<|RD.ifb (s:=51) rfl h (fun P0 h=>?_) (fun P0 h=>?_)
 refine RD.val (i:=17) (m' :=262143) (W:=2199022731264) (tk c0) rfl g0 (.yes rfl rfl) (AG rfl (j0.memA (.tl .hd))) rfl ?_
 obtain ⟨z0,k1,h⟩:=bi h
 refine RD.callq (i:=18) (m' :=524287) (W:=2199022731264) (tk c0) rfl g0 (v:=.agg ((cs_TShare z0)).toArray) (fst:=[]) (cap:=[]) (.yes rfl rfl) body20 rfl (e2 rfl rfl) (fun w9 hw9=>wardmotelaw27_of_c n _ w9 (j0.hL0 hL hw9) (1:Int) (1:Int) k1) rfl ?_
 obtain ⟨z1,p1,h⟩:=bi h
 refine RD.callq (i:=19) (m' :=1048575) (W:=2199022206976) (tk c0) rfl g0 (v:=.bool z1) (fst:=[]) (cap:=[]) (.yes rfl rfl) body26 rfl (e2 rfl rfl) (fun w9 hw9=>wardmotelaw27_atMost_c n _ w9 (j0.hL0 hL hw9) y3.1 z0 p1) rfl<|Af 20 2097151 c0 rfl g0 (fun _=>Br rfl rfl) rfl<|Af 21 4194303 c0 rfl g0 (fun _=>Ai rfl) rfl<|RD.ifb (s:=56) rfl h (fun Q0 h=>?_) (fun Q0 h=>?_)
 refine RD.val (i:=22) (m' :=8388607) (W:=2198771597312) (tk c0) rfl g0 (.yes rfl rfl) (AG rfl (j0.memA (.tl .hd))) rfl ?_
 obtain ⟨s0,q1,h⟩:=bi h
 refine RD.callq (i:=23) (m' :=16777215) (W:=2198771597312) (tk c0) rfl g0 (v:=.agg ((cs_TShare s0)).toArray) (fst:=[]) (cap:=[]) (.yes rfl rfl) body20 rfl (e2 rfl rfl) (fun w9 hw9=>wardmotelaw27_of_c n _ w9 (j0.hL0 hL hw9) (1:Int) (1:Int) q1) rfl<|Bs 24 33554431 c0 rfl g0 (.yes rfl rfl) (fun _=>FV.eqlV (v:=.agg ((cs_TShare y3.1)).toArray) (u:=.agg ((cs_TShare s0)).toArray) rfl rfl (eqlD_42 y3.1 s0)) rfl<|Bs 25 67108863 c0 rfl g0 (.yes rfl rfl) (fun _=>Ai rfl) rfl<|Bs 26 134217727 c0 rfl g0 (.yes rfl rfl) (fun _=>Ai rfl) rfl<|Bs 27 268435455 c0 rfl g0 (.yes rfl rfl) (fun _=>FV.eqlU (a:=a0) (b:=a1) rfl rfl) rfl<|Bs 28 536870911 c0 rfl g0 (.yes rfl rfl) (fun _=>FV.eqlB (a:=(decide (y3.1 = s0))) (b:=(decide (a0 = a1))) Tryz.underlying4 rfl rfl) rfl<|Af 29 1073741823 c0 rfl g0 (fun _=>Br rfl rfl) rfl<|Af 30 2147483647 c0 rfl g0 (fun _=>Ai rfl) rfl<|RD.ifb (s:=65) rfl h (fun R0 h=>?_) (fun R0 h=>?_)
 refine RD.val (i:=31) (m' :=4294967295) (W:=1932735283200) (tk c0) rfl g0 (.yes rfl rfl) (AG rfl (j0.memA (.tl .hd))) rfl ?_
 obtain ⟨t0,s1,h⟩:=bi h
 refine RD.callq (i:=32) (m' :=8589934591) (W:=1932735283200) (tk c0) rfl g0 (v:=.agg ((cs_TShare t0)).toArray) (fst:=[]) (cap:=[]) (.yes rfl rfl) body20 rfl (e2 rfl rfl) (fun w9 hw9=>wardmotelaw27_of_c n _ w9 (j0.hL0 hL hw9) (0:Int) (1:Int) s1) rfl<|Bs 33 17179869183 c0 rfl g0 (.yes rfl rfl) (fun _=>FV.eqlV (v:=.agg ((cs_TShare y3.1)).toArray) (u:=.agg ((cs_TShare t0)).toArray) rfl rfl (eqlD_42 y3.1 t0)) rfl<|Bs 34 34359738367 c0 rfl g0 (.yes rfl rfl) (fun _=>Ai rfl) rfl<|Bs 35 68719476735 c0 rfl g0 (.yes rfl rfl) (fun _=>Ai rfl) rfl<|Bs 36 137438953471 c0 rfl g0 (.yes rfl rfl) (fun _=>FV.andU (a:=a0) (b:=a1) rfl rfl) rfl<|Bs 37 274877906943 c0 rfl g0 (.yes rfl rfl) (fun _=>FV.eqlU (a:=a0 &&& a1) (b:=(0:UInt64)) rfl rfl) rfl<|Bs 38 549755813887 c0 rfl g0 (.yes rfl rfl) (fun _=>FV.eqlB (a:=(decide (y3.1 = t0))) (b:=(decide ((a0 &&& a1) = (0:UInt64)))) Tryz.underlying4 rfl rfl) rfl<|Af 39 1099511627775 c0 rfl g0 (fun _=>Br rfl rfl) rfl<|Af 40 2199023255551 c0 rfl g0 (fun _=>AM rfl) rfl<|AF (dk c0)<|Ak rfl<|AL hb0 Tryz.func6 rfl rfl ?_
 cases h
 exact j0.gv
 refine AE 549755813887 2 [(31,66),(32,67),(33,68),(34,69),(35,70),(36,71),(37,72),(38,73)] (F:=[(65,false)]) (U:=[]) c0 g0 (.cons rfl .nil) .nil ?_
 dsimp only [offS,List.map]
 refine Af 39 1099511627775 c0 rfl g0 (fun _=>Au rfl rfl) rfl<|Af 40 2199023255551 c0 rfl g0 (fun _=>AM rfl) rfl<|AF (dk c0)<|Ak rfl<|AL hb0 Tryz.func6 rfl rfl ?_
 cases h
 exact j0.gv
 refine AE 536870911 12 [(22,57),(23,58),(24,59),(25,60),(26,61),(27,62),(28,63)] (F:=[(56,false)]) (U:=[]) c0 g0 (.cons rfl .nil) .nil ?_
 dsimp only [offS,List.map]
 refine Af 29 1073741823 c0 rfl g0 (fun _=>Au rfl rfl) rfl<|Af 30 2147483647 c0 rfl g0 (fun _=>Ai rfl) rfl<|AE 549755813887 2 [(31,66),(32,67),(33,68),(34,69),(35,70),(36,71),(37,72),(38,73)] (F:=[(65,false)]) (U:=[]) c0 g0 (.cons rfl .nil) .nil ?_
 dsimp only [offS,List.map]
 refine Af 39 1099511627775 c0 rfl g0 (fun _=>Au rfl rfl) rfl<|Af 40 2199023255551 c0 rfl g0 (fun _=>AM rfl) rfl<|AF (dk c0)<|Ak rfl<|AL hb0 Tryz.func6 rfl rfl ?_
 cases h
 exact j0.gv
 refine AE 1048575 21 [(17,52),(18,53),(19,54)] (F:=[(51,false)]) (U:=[]) c0 g0 (.cons rfl .nil) .nil ?_
 dsimp only [offS,List.map]
 refine Af 20 2097151 c0 rfl g0 (fun _=>Au rfl rfl) rfl<|Af 21 4194303 c0 rfl g0 (fun _=>Ai rfl) rfl<|AE 536870911 12 [(22,57),(23,58),(24,59),(25,60),(26,61),(27,62),(28,63)] (F:=[(56,false)]) (U:=[]) c0 g0 (.cons rfl .nil) .nil ?_
 dsimp only [offS,List.map]
 refine Af 29 1073741823 c0 rfl g0 (fun _=>Au rfl rfl) rfl<|Af 30 2147483647 c0 rfl g0 (fun _=>Ai rfl) rfl<|AE 549755813887 2 [(31,66),(32,67),(33,68),(34,69),(35,70),(36,71),(37,72),(38,73)] (F:=[(65,false)]) (U:=[]) c0 g0 (.cons rfl .nil) .nil ?_
 dsimp only [offS,List.map]
 refine Af 39 1099511627775 c0 rfl g0 (fun _=>Au rfl rfl) rfl<|Af 40 2199023255551 c0 rfl g0 (fun _=>AM rfl) rfl<|AF (dk c0)<|Ak rfl<|AL hb0 Tryz.func6 rfl rfl ?_
 cases h
 exact j0.gv
 refine AE 32767 26 [(12,47),(13,48),(14,49)] (F:=[(46,false)]) (U:=[]) c0 g0 (.cons rfl .nil) .nil ?_
 dsimp only [offS,List.map]
 refine Af 15 65535 c0 rfl g0 (fun _=>Au rfl rfl) rfl<|Af 16 131071 c0 rfl g0 (fun _=>Ai rfl) rfl<|AE 1048575 21 [(17,52),(18,53),(19,54)] (F:=[(51,false)]) (U:=[]) c0 g0 (.cons rfl .nil) .nil ?_
 dsimp only [offS,List.map]
 refine Af 20 2097151 c0 rfl g0 (fun _=>Au rfl rfl) rfl<|Af 21 4194303 c0 rfl g0 (fun _=>Ai rfl) rfl<|AE 536870911 12 [(22,57),(23,58),(24,59),(25,60),(26,61),(27,62),(28,63)] (F:=[(56,false)]) (U:=[]) c0 g0 (.cons rfl .nil) .nil ?_
 dsimp only [offS,List.map]
 refine Af 29 1073741823 c0 rfl g0 (fun _=>Au rfl rfl) rfl<|Af 30 2147483647 c0 rfl g0 (fun _=>Ai rfl) rfl<|AE 549755813887 2 [(31,66),(32,67),(33,68),(34,69),(35,70),(36,71),(37,72),(38,73)] (F:=[(65,false)]) (U:=[]) c0 g0 (.cons rfl .nil) .nil ?_
 dsimp only [offS,List.map]
 refine Af 39 1099511627775 c0 rfl g0 (fun _=>Au rfl rfl) rfl<|Af 40 2199023255551 c0 rfl g0 (fun _=>AM rfl) rfl<|AF (dk c0)<|Ak rfl<|AL hb0 Tryz.func6 rfl rfl ?_
 cases h
 exact j0.gv
 refine AE 1023 31 [(7,42),(8,43),(9,44)] (F:=[(41,false)]) (U:=[]) c0 g0 (.cons rfl .nil) .nil ?_
 dsimp only [offS,List.map]
 refine Af 10 2047 c0 rfl g0 (fun _=>Au rfl rfl) rfl<|Af 11 4095 c0 rfl g0 (fun _=>Ai rfl) rfl<|AE 32767 26 [(12,47),(13,48),(14,49)] (F:=[(46,false)]) (U:=[]) c0 g0 (.cons rfl .nil) .nil ?_
 dsimp only [offS,List.map]
 refine Af 15 65535 c0 rfl g0 (fun _=>Au rfl rfl) rfl<|Af 16 131071 c0 rfl g0 (fun _=>Ai rfl) rfl<|AE 1048575 21 [(17,52),(18,53),(19,54)] (F:=[(51,false)]) (U:=[]) c0 g0 (.cons rfl .nil) .nil ?_
 dsimp only [offS,List.map]
 refine Af 20 2097151 c0 rfl g0 (fun _=>Au rfl rfl) rfl<|Af 21 4194303 c0 rfl g0 (fun _=>Ai rfl) rfl<|AE 536870911 12 [(22,57),(23,58),(24,59),(25,60),(26,61),(27,62),(28,63)] (F:=[(56,false)]) (U:=[]) c0 g0 (.cons rfl .nil) .nil ?_
 dsimp only [offS,List.map]
 refine Af 29 1073741823 c0 rfl g0 (fun _=>Au rfl rfl) rfl<|Af 30 2147483647 c0 rfl g0 (fun _=>Ai rfl) rfl<|AE 549755813887 2 [(31,66),(32,67),(33,68),(34,69),(35,70),(36,71),(37,72),(38,73)] (F:=[(65,false)]) (U:=[]) c0 g0 (.cons rfl .nil) .nil ?_
 dsimp only [offS,List.map]
 refine Af 39 1099511627775 c0 rfl g0 (fun _=>Au rfl rfl) rfl<|Af 40 2199023255551 c0 rfl g0 (fun _=>AM rfl) rfl<|AF (dk c0)<|Ak rfl<|AL hb0 Tryz.func6 rfl rfl ?_
 cases h
 exact j0.gv
 refine AE 31 36 [(3,38),(4,39)] (F:=[(37,false)]) (U:=[]) c0 g0 (.cons rfl .nil) .nil ?_
 dsimp only [offS,List.map]
 refine Af 5 63 c0 rfl g0 (fun _=>Au rfl rfl) rfl<|Af 6 127 c0 rfl g0 (fun _=>Ai rfl) rfl<|AE 1023 31 [(7,42),(8,43),(9,44)] (F:=[(41,false)]) (U:=[]) c0 g0 (.cons rfl .nil) .nil ?_
 dsimp only [offS,List.map]
 refine Af 10 2047 c0 rfl g0 (fun _=>Au rfl rfl) rfl<|Af 11 4095 c0 rfl g0 (fun _=>Ai rfl) rfl<|AE 32767 26 [(12,47),(13,48),(14,49)] (F:=[(46,false)]) (U:=[]) c0 g0 (.cons rfl .nil) .nil ?_
 dsimp only [offS,List.map]
 refine Af 15 65535 c0 rfl g0 (fun _=>Au rfl rfl) rfl<|Af 16 131071 c0 rfl g0 (fun _=>Ai rfl) rfl<|AE 1048575 21 [(17,52),(18,53),(19,54)] (F:=[(51,false)]) (U:=[]) c0 g0 (.cons rfl .nil) .nil ?_
 dsimp only [offS,List.map]
 refine Af 20 2097151 c0 rfl g0 (fun _=>Au rfl rfl) rfl<|Af 21 4194303 c0 rfl g0 (fun _=>Ai rfl) rfl<|AE 536870911 12 [(22,57),(23,58),(24,59),(25,60),(26,61),(27,62),(28,63)] (F:=[(56,false)]) (U:=[]) c0 g0 (.cons rfl .nil) .nil ?_
 dsimp only [offS,List.map]
 refine Af 29 1073741823 c0 rfl g0 (fun _=>Au rfl rfl) rfl<|Af 30 2147483647 c0 rfl g0 (fun _=>Ai rfl) rfl<|AE 549755813887 2 [(31,66),(32,67),(33,68),(34,69),(35,70),(36,71),(37,72),(38,73)] (F:=[(65,false)]) (U:=[]) c0 g0 (.cons rfl .nil) .nil ?_
 dsimp only [offS,List.map]
 refine Af 39 1099511627775 c0 rfl g0 (fun _=>Au rfl rfl) rfl<|Af 40 2199023255551 c0 rfl g0 (fun _=>AM rfl) rfl<|AF (dk c0)<|Ak rfl<|AL hb0 Tryz.func6 rfl rfl ?_
 cases h
 exact j0.gv
 refine Ac<|Ag rfl<|Aa<|Ak rfl<|AL hb0 Tryz.func6 rfl rfl ?_
 cases h
 exact hS0.gv
end Go.Proofs.YtfccehcnajelgaaGreatDoor
