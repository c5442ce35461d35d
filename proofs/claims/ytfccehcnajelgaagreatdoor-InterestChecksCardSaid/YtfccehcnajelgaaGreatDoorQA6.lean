/- Functions of the program, and what they give: part 6. -/
import Derived.Test.YtfccehcnajelgaaGreatDoorQA5
namespace Go.Proofs.YtfccehcnajelgaaGreatDoor
open Go Go.RowKit
set_option maxRecDepth 4000
set_option maxHeartbeats 4000000

def tb10_3:List (Nat × Nat × Nat):=[(0,65536,4),(1,131072,65536),(0,262144,2),(0,524288,8),(14,1048576,917504),(16,32768,1048576),(32,2097152,32768),(32,4194304,32768),(127,16,2097152),(511,32,4194304)]
def tb10_6:List (Nat × Nat × Nat):=[(0,17179869184,0),(1,34359738368,17179869184),(0,68719476736,4),(0,137438953472,2),(0,274877906944,8),(30,549755813888,481036337152),(32,1099511627776,549755813888),(32,2199023255552,549755813888),(226,4398046511104,3332894621696),(256,8796093022208,4398046511104),(512,17592186044416,8796093022240),(1536,35184372088832,26388279066624),(2560,70368744177664,43980465111040),(4608,140737488355328,70368744177664),(8192,281474976710656,140737488355344),(24576,562949953421312,422212465065984),(40960,1125899906842624,703687441776640),(73728,2251799813685248,1266637395197952),(139264,4503599627370496,2251799813685248),(262144,9007199254740992,4503599627370512),(786432,18014398509481984,13510798882111488),(1310720,36028797018963968,22517998136852480),(262144,72057594037927936,4503599627370496),(6553600,144115188075855872,112589990684262400),(8650752,288230376151711744,148618787703226368),(25165824,576460752303423488,288230376151711744),(33554432,1152921504606846976,576460752303423616),(100663296,2305843009213693952,1729382256910270464),(167772160,4611686018427387904,2882303761517117440),(301989888,9223372036854775808,4611686018427387904),(536870912,18446744073709551616,9223372036854775872),(536870912,36893488147419103232,9223372036854775808),(2684354560,73786976294838206464,9223372036854775808),(6979321856,147573952589676412928,119903836479112085504),(14495514624,295147905179352825856,175244068700240740352),(17716740096,590295810358705651712,304371277216207601664),(51539607552,1180591620717411303424,590295810358705651712),(68719476736,2361183241434822606848,1180591620717411303424),(68719476736,4722366482869645213696,1180591620717411303428),(68719476736,9444732965739290427392,1180591620717411303426),(68719476736,18889465931478580854784,1180591620717411303432),(2130303778816,37778931862957161709568,34237157000804927799296),(2267742732288,75557863725914323419136,38959523483674573012992),(2267742732288,151115727451828646838272,38959523483674573012992),(15599321219072,302231454903657293676544,230215366039895204167680),(17660905521152,604462909807314587353088,303412046524374704979968),(52776558133248,1208925819614629174706176,604462909807314587353088),(70368744177664,2417851639229258349412352,1208925819614629174706176),(211106232532992,4835703278458516698824704,1208925819614629174706176),(351843720888320,9671406556917033397649408,6044629098073145873530880),(351843720888320,19342813113834066795298816,6044629098073145873530880),(2181431069507584,38685626227668133590597632,32640997129594987717066752),(2322168557862912,77371252455336267181195264,39894552047282762765303808),(6755399441055744,154742504910672534362390528,77371252455336267181195264),(9007199254740992,309485009821345068724781056,154742504910672534362391040),(27021597764222976,618970019642690137449562112,464227514732017603087171584),(45035996273704960,1237940039285380274899124224,773712524553362671811952640),(81064793292668928,2475880078570760549798248448,1237940039285380274899124224),(144115188075855872,4951760157141521099596496896,2475880078570760549798248452),(432345564227567616,9903520314283042199192993792,7427640235712281649394745344),(720575940379279360,19807040628566084398385987584,12379400392853802748991242240),(1297036692682702848,39614081257132168796771975168,22282920707136844948184236032),(2449958197289549824,79228162514264337593543950336,42089961335702929346570223616),(9223372036854775807,1,79228162514264337593543950336)]
theorem el53:ElT Tryz.prog 53 3 (Rep.size Int) 8 (vI 0) [vI 0]:=⟨Tryz.underlying53,by kernel_rfl,rfl,rfl,rfl,rfl⟩
theorem body15:bodyB Tryz.prog 15 = true:=by kernel_rfl
theorem body23:bodyB Tryz.prog 23 = true:=by kernel_rfl
theorem body24:bodyB Tryz.prog 24 = true:=by kernel_rfl
theorem body25:bodyB Tryz.prog 25 = true:=by kernel_rfl
theorem body28:bodyB Tryz.prog 28 = true:=by kernel_rfl
theorem body35:bodyB Tryz.prog 35 = true:=by kernel_rfl
theorem body38:bodyB Tryz.prog 38 = true:=by kernel_rfl
theorem body40:bodyB Tryz.prog 40 = true:=by kernel_rfl
theorem body41:bodyB Tryz.prog 41 = true:=by kernel_rfl
theorem body84:bodyB Tryz.prog 84 = true:=by kernel_rfl
theorem body85:bodyB Tryz.prog 85 = true:=by kernel_rfl
def wardmotelaw27_works_p (n:Nat):Option Bool:=
  (wardmotelaw27_example_p n).bind fun y1=>(cut y1.2 0 1).bind fun q0=>(interest_Parts_p n q0 y1.1 ([(0:Int),(0:Int),(1:Int),(1:Int)]:List Int) (2:Int)).bind fun b0=>(interest_Largest_p n y1.2 y1.1 ([(0:Int),(0:Int),(1:Int),(1:Int)]:List Int) (2:Int)).bind fun j0=>(interest_Overlap_p n (0:UInt64) (0:UInt64)).bind fun B0=>(interest_Kept_p n y1.2 y1.1 ([(0:Int),(0:Int),(1:Int),(1:Int)]:List Int) (2:Int)).bind fun c0=>(wardmotelaw27_truths_1_p n c0.1 c0.2 ([false,true]:List Bool)).bind fun s0=>(if s0 = true then (if b0.2 = 0 then (if b0.1.length = 1 then (b0.1[0]?).bind fun k0=>(slices_Equal_uint64_uint64_p n k0 ([(3:UInt64),(4:UInt64)]:List UInt64)).bind fun t0=>(if t0 = true then (if j0.2 = 0 then (wardmotelaw27_of_p n (1:Int) (2:Int)).bind fun u0=>(wardmotelaw27_of_p n (1:Int) (1:Int)).bind fun v0=>(slices_Equal_api_Share_api_Share_p n j0.1 ([u0,v0]:List TShare)).bind fun x0=>(if x0 = true then (interest_Score_p n y1.2 y1.1 ([(0:Int),(0:Int),(1:Int),(1:Int)]:List Int) (2:Int)).bind fun d0=>(wardmotelaw27_is_1_p n d0.1 d0.2 (5:Int) (8:Int)).bind fun y0=>(if y0 = true then (interest_Overlap_p n (7:UInt64) (12:UInt64)).bind fun g0=>(wardmotelaw27_is_1_p n g0.1 g0.2 (1:Int) (4:Int)).bind fun z0=>(if z0 = true then (if B0.2 = 7 then (cut y1.2 1 (y1.2.length:Int)).bind fun p0=>(interest_Check_p n (3:Int) p0).bind fun A0=>some (decide (A0 = 270)) else some false) else some false) else some false) else some false) else some false) else some false) else some false) else some false) else some false)
theorem wardmotelaw27_works_c (n:Nat) (L:List Nat) (w:World) (hL:∀ b ∈ L,b < w.heap.size) (hG0:Glob 0 tab0 w)  {r:Bool} (h:wardmotelaw27_works_p n = some r) :
    Calls Tryz.prog 10 #[] w (Gives w fun _ u=>u = .bool r):=by
 unfold wardmotelaw27_works_p at h
 have hS0:=Az w
 refine AC Tryz.func10 rfl rfl rfl (fun _ cs0 hb0=>?_)
 refine Ac<|Af rfl<|Aa<|Ac ?_
 obtain ⟨y1,hy1,h⟩:=bi h
 refine Bf (fst:=[]) (cap:=[]) .plain body38 rfl evs_nil (fun w9 hw9=>own_gives2 (b0:=w.heap.size) (wardmotelaw27_example_c n _ w9 (hS0.hL hL hw9)  hy1) hw9 (Nat.le_trans hS0.ag.size hw9.size)) rfl (fun w2 vu3 hag4 ⟨v9,q4,j2,k2,hu6,s5,A2,B2⟩=>?_)
 subst hu6
 have hS7:=own_push2 hS0 s5
 have hT8:=own_tr2 hS0 s5
 have E2:=AO (cs:=j2) (xs:=(y1.1.fm:List TUnit)) hS7 L (own_cells A2)
 have F2:=AO (cs:=k2) (xs:=(y1.2:List TInterest)) hS7 L (own_cells B2)
 refine Ae rfl<|Ab (Ag rfl rfl)<|Ab (Ag rfl rfl)<|Am .plain rfl (Ay [vI 0,vI 0,vI 0,vN] hS7) (fun u5 H4 x1 t2=>?_)
 refine AR [vI y1.1.fj,vI y1.1.fe,vI y1.1.fh,v9] x1 .hd (o4 rfl rfl rfl (St.o1 (α:=TUnit) x1 (.tl .hd))) (fun v5 p2 u2=>?_)
 refine Af rfl<|Aa<|Ac<|Am .plain rfl (Bd (α:=Int) (xs:=([(0:Int),(0:Int),(1:Int),(1:Int)]:List Int)) (vs:=[vI 0,vI 0,vI 1,vI 1]) (ds' :=[vI 0,vI 0,vI 1,vI 1]) rfl p2 el53 rfl (e4 rfl rfl rfl rfl) (by kernel_rfl) rfl) (fun x5 U1 Q0 v2=>?_)
 have G2:=AO (cs:=[vI 0,vI 0,vI 1,vI 1]) (xs:=(([(0:Int),(0:Int),(1:Int),(1:Int)]:List Int):List Int)) Q0 L (Ax (cs:=[vI 0]) (ds:=[vI 0,vI 1,vI 1]) rfl (Ax (cs:=[vI 0]) (ds:=[vI 1,vI 1]) rfl (Ax (cs:=[vI 1]) (ds:=[vI 1]) rfl (Ax (cs:=[vI 1]) (ds:=[]) rfl (AU _ _)))))
 refine Af rfl<|Aa<|Ai<|dt 10 tb10_3 (fun j0 u0=>?_)
 refine Ah 0 1 j0 rfl u0 (fun _=>Aj rfl) rfl ?_
 have G1:=Tt t2 (Tt u2 v2)
 have b3:=Bc F2 G1
 have B3:=Bq (α:=TInterest) Q0 (.tl (.tl (.tl .hd))) b3 hL
 have z0:=BB Q0 (.tl (.tl (.tl .hd)))
 have B1:=BC Q0 (.tl (.tl (.tl .hd)))
 have H0:=BD (α:=TInterest) (v:=q4) (xs:=y1.2) z0 L B3
 obtain ⟨y4,Q3,h⟩:=bi h
 refine RD.valE (i:=1) (m' :=3) (W:=1008) (tk j0) rfl u0 .plain rfl (FV.cutL (α:=TInterest) Q3 (by kernel_rfl) rfl H0 rfl ⟨_,rfl⟩) (fun X4 C3=>?_)
 refine AF 2 7 1008 j0 rfl u0 (AI rfl (z0.memA (.tl .hd))) rfl<|Ah 3 15 j0 rfl u0 (fun _=>Aj rfl) rfl ?_
 have c3:=Bc E2 (Tt G1 B1)
 have D3:=Bq (α:=TUnit) z0 (.tl (.tl .hd)) c3 hL
 have R0:=BB z0 (.tl (.tl .hd))
 have s1:=BC z0 (.tl (.tl .hd))
 have b1:=BD (α:=TUnit) (v:=v9) (xs:=y1.1.fm) R0 L D3
 have d3:=Bc G2 (Tt B1 s1)
 have E3:=Bq (α:=Int) R0 .hd d3 hL
 have U0:=BB R0 .hd
 have B0:=BC R0 .hd
 have c1:=BD (α:=Int) (v:=(vS U1 4)) (xs:=([(0:Int),(0:Int),(1:Int),(1:Int)]:List Int)) U0 L E3
 obtain ⟨j1,j4,h⟩:=bi h
 have g3:=Av C3 (Tt s1 B0)
 have j3:=Av b1 B0
 refine Bu 4 31 j0 rfl .plain body24 rfl (e4 rfl rfl rfl rfl) (fun w9 hw9=>interest_Parts_c n _ w9 (U0.hL hL hw9) y4 (Au g3 hw9) y1.1 (Au j3 hw9) ([(0:Int),(0:Int),(1:Int),(1:Int)]:List Int) (Au c1 hw9) (2:Int) (hG0.keep (U0.ag.trans hw9)) j4) rfl (fun y5 j5 y2 ⟨Y4,hu_,F3⟩=>?_)
 subst hu_
 obtain ⟨V0,C0⟩:=U0.agr y2
 refine Ah 5 63 j0 rfl u0 (fun _=>Aj rfl) rfl<|Ah 6 127 j0 rfl u0 (fun _=>Ag rfl rfl) rfl<|Ah 7 255 j0 rfl u0 (fun _=>Ag rfl rfl) rfl<|Ah 8 511 j0 rfl u0 (fun _=>Bh rfl) rfl<|Ah 9 1023 j0 rfl u0 (fun _=>Bh rfl) rfl<|AM (dk j0)<|Ac<|Ae rfl<|Ab (AI rfl (V0.memA .hd))<|Ae rfl ?_
 obtain ⟨R1,k4,h⟩:=bi h
 have H1:=Tt s1 (Tt B0 C0)
 have k3:=Av H0 H1
 have p3:=Av b1 (Tt B0 C0)
 have q3:=Av c1 C0
 refine Bf (fst:=[]) (cap:=[]) .plain body19 rfl (e4 rfl rfl rfl rfl) (fun w9 hw9=>interest_Largest_c n _ w9 (V0.hL hL hw9) y1.2 (Au k3 hw9) y1.1 (Au p3 hw9) ([(0:Int),(0:Int),(1:Int),(1:Int)]:List Int) (Au q3 hw9) (2:Int) (hG0.keep (V0.ag.trans hw9)) k4) rfl (fun z5 k5 z2 ⟨Z4,hu_,G3⟩=>?_)
 subst hu_
 obtain ⟨z1,Z0⟩:=V0.agr z2
 refine Ae rfl<|Ab (Ag rfl rfl)<|Ab (Ag rfl rfl)<|Af rfl<|Af rfl<|Aa<|Ac ?_
 obtain ⟨k1,p4,h⟩:=bi h
 refine Bb (.tuple #[.agg ((cs_TShare k1.1)).toArray,vI k1.2]) body15 rfl (e2 rfl rfl) (fun w9 hw9=>interest_Overlap_c n _ w9 (z1.hL0 hL hw9) (0:UInt64) (0:UInt64) p4) rfl<|Ae rfl<|Ab (Ag rfl rfl)<|Ab (Ag rfl rfl)<|Am .plain rfl (Ay zL z1) (fun A5 I4 q2 D0=>?_)
 refine AR (cs_TShare k1.1) q2 .hd (onesB rfl) (fun B5 A1 E0=>?_)
 refine Af rfl<|Aa<|Ai<|dt 64 tb10_6 (fun c0 d0=>?_)
 refine Ah 2 4 c0 rfl d0 (fun _=>Aj rfl) rfl<|AF 3 12 18446744073709551584 c0 rfl d0 (AI rfl (A1.memA (.tl .hd))) rfl<|Ah 4 28 c0 rfl d0 (fun _=>Aj rfl) rfl<|RD.nu 0 29 c0 rfl .plain rfl (Bd (α:=Bool) (xs:=([false,true]:List Bool)) (vs:=[.bool false,.bool true]) (ds' :=[.bool false,.bool true]) rfl A1 el72 rfl (e2 rfl rfl) (by kernel_rfl) rfl) (fun u4 v1 W0 F0=>?_)
 have H2:=AO (cs:=[.bool false,.bool true]) (xs:=(([false,true]:List Bool):List Bool)) W0 L (Ax (cs:=[.bool false]) (ds:=[.bool true]) rfl (Ax (cs:=[.bool true]) (ds:=[]) rfl (AU _ _)))
 have H3:=Bq (α:=Bool) W0 .hd H2 hL
 have X0:=BB W0 .hd
 have G0:=BC W0 .hd
 have I1:=BD (α:=Bool) (v:=(vS v1 2)) (xs:=([false,true]:List Bool)) X0 L H3
 refine Bu 1 31 c0 rfl .plain body40 rfl (e1 rfl) (fun w9 hw9=>Calls.gives (wardmotelaw27_truths_c n _ w9 (X0.hL hL hw9) ([false,true]:List Bool) (Au I1 hw9)) fun (w8:World) (u8:Value) ⟨b0_,hu_,s_⟩=>(⟨b0_,hu_,s_.from hw9⟩:∃ P0:Nat,u8 = Value.func (.func 84) #[] #[vP P0]∧St u4 w8 [.cells P0 [(vS v1 2)] 72])) rfl (fun C5 b5 M4 ⟨P0,I3,J1⟩=>?_)
 subst I3
 have p1:=mk_push1 X0 J1
 have x0:=mk_tr1 X0 J1
 obtain ⟨P1,R3,h⟩:=bi h
 have C1:=Tt H1 (Tt Z0 (Tt D0 (Tt E0 (Tt F0 (Tt G0 x0)))))
 have K2:=Av H0 C1
 have D1:=Tt B0 (Tt C0 (Tt Z0 (Tt D0 (Tt E0 (Tt F0 (Tt G0 x0))))))
 have M2:=Av b1 D1
 have E1:=Tt C0 (Tt Z0 (Tt D0 (Tt E0 (Tt F0 (Tt G0 x0)))))
 have P2:=Av c1 E1
 refine Bu 5 63 c0 rfl .plain body25 rfl (e4 rfl rfl rfl rfl) (fun w9 hw9=>interest_Kept_c n _ w9 (p1.hL hL hw9) y1.2 (Au K2 hw9) y1.1 (Au M2 hw9) ([(0:Int),(0:Int),(1:Int),(1:Int)]:List Int) (Au P2 hw9) (2:Int) (hG0.keep (p1.ag.trans hw9)) R3) rfl (fun p5 c5 x2 ⟨U4,hu_,x3⟩=>?_)
 subst hu_
 obtain ⟨v0,y0⟩:=p1.agr x2
 refine Ah 6 127 c0 rfl d0 (fun _=>Ag rfl rfl) rfl<|Ah 7 255 c0 rfl d0 (fun _=>Ag rfl rfl) rfl ?_
 obtain ⟨z4,U3,h⟩:=bi h
 have Q2:=Av I1 (Tt x0 y0)
 refine RD.callq (i:=8) (m' :=511) (W:=18446744073709551104) (tk c0) rfl d0 (v:=.bool z4) (fst:=[]) (cap:=[vP P0]) .plain body84 rfl (e2 rfl rfl) (fun w9 hw9=>wardmotelaw27_truths_1_c n _ w9 (v0.hL0 hL hw9) P1.1 (v0.kd x3 hw9) P1.2 ([false,true]:List Bool) (v0.kd Q2 hw9) (fun j9 v9 h9=>hw9.cell0 ((v0.memA .hd) j9 v9 h9)) U3) rfl<|Ah 9 1023 c0 rfl d0 (fun _=>Aj rfl) rfl<|RD.ifb (s:=43) rfl h (fun V1 h=>?_) (fun V1 h=>?_)
 refine RD.vP 10 2047 c0 rfl d0 (.yes rfl rfl) (fun _=>Aj rfl) rfl<|RD.vP 11 4095 c0 rfl d0 (.yes rfl rfl) (fun _=>FV.eql (i:=j1.2) (j:=0) rfl rfl) rfl<|Ah 12 8191 c0 rfl d0 (fun _=>FV.pick_t rfl rfl) rfl<|Ah 13 16383 c0 rfl d0 (fun _=>Aj rfl) rfl<|RD.ifd (s:=47) rfl h (fun W1 h=>?_) (fun W1 h=>?_)
 refine RD.vP 14 32767 c0 rfl d0 (.yes rfl rfl) (fun _=>Aj rfl) rfl ?_
 have s3:=Tt Z0 (Tt D0 (Tt E0 (Tt F0 (Tt G0 (Tt x0 y0)))))
 have u1:=Av F3 s3
 have R4:j1.1.length ≤ 281474976710656:=AT u1
 refine RD.val (i:=15) (m' :=65535) (W:=18446744073709486080) (tk c0) rfl d0 (.yes rfl rfl) (AY (xs:=j1.1) Tryz.underlying69 rfl u1) rfl<|RD.vP 16 131071 c0 rfl d0 (.yes rfl rfl) (fun _=>FV.eqlN (i:=j1.1.length) (j:=1) rfl rfl) rfl<|Ah 17 262143 c0 rfl d0 (fun _=>FV.pick_t rfl rfl) rfl<|Ah 18 524287 c0 rfl d0 (fun _=>Aj rfl) rfl<|RD.ifd (s:=52) rfl h (fun X1 h=>?_) (fun X1 h=>?_)
 refine RD.vP 19 1048575 c0 rfl d0 (.yes rfl rfl) (fun _=>Aj rfl) rfl ?_
 obtain ⟨v4,M3,h⟩:=bi h
 obtain ⟨E4,J4,I2,J2,K4,y3,R2⟩:=Bi u1 M3
 obtain ⟨V4,rfl,z3⟩:=lst_one y3
 refine RD.vP 20 2097151 c0 rfl d0 (.yes rfl rfl) (fun _=>Bk 1 0 rfl I2 rfl rfl J2) rfl<|RD.val (i:=21) (m' :=4194303) (W:=18446744073701163008) (tk c0) rfl d0 (.yes rfl rfl) (AG rfl (R2 0 _ rfl)) rfl<|RD.nu 22 8388607 c0 rfl (.yes rfl rfl) rfl (Bd (α:=UInt64) (xs:=([(3:UInt64),(4:UInt64)]:List UInt64)) (vs:=[vW 3,vW 4]) (ds' :=[vW 3,vW 4]) rfl v0 el75 rfl (e2 rfl rfl) (by kernel_rfl) rfl) (fun q5 F4 q0 A0=>?_)
 have C2:=AO (cs:=[vW 3,vW 4]) (xs:=(([(3:UInt64),(4:UInt64)]:List UInt64):List UInt64)) q0 L (Ax (cs:=[vW 3]) (ds:=[vW 4]) rfl (Ax (cs:=[vW 4]) (ds:=[]) rfl (AU _ _)))
 obtain ⟨A4,V3,h⟩:=bi h
 have U2:=Av z3 A0
 refine RD.callq (i:=23) (m' :=16777215) (W:=18446744073692774400) (tk c0) rfl d0 (v:=.bool A4) (fst:=[]) (cap:=[]) (.yes rfl rfl) body35 rfl (e2 rfl rfl) (fun w9 hw9=>slices_Equal_uint64_uint64_c n _ w9 (q0.hL0 hL hw9) v4 (q0.kd U2 hw9) ([(3:UInt64),(4:UInt64)]:List UInt64) (Au (St.lend (α:=UInt64) (L:=L) q0 .hd C2 hL) hw9) V3) rfl<|Ah 24 33554431 c0 rfl d0 (fun _=>FV.pick_t rfl rfl) rfl<|Ah 25 67108863 c0 rfl d0 (fun _=>Aj rfl) rfl<|RD.ifb (s:=59) rfl h (fun Y1 h=>?_) (fun Y1 h=>?_)
 refine RD.vP 26 134217727 c0 rfl d0 (.yes rfl rfl) (fun _=>Aj rfl) rfl<|RD.vP 27 268435455 c0 rfl d0 (.yes rfl rfl) (fun _=>FV.eql (i:=R1.2) (j:=0) rfl rfl) rfl<|Ah 28 536870911 c0 rfl d0 (fun _=>FV.pick_t rfl rfl) rfl<|Ah 29 1073741823 c0 rfl d0 (fun _=>Aj rfl) rfl<|RD.ifd (s:=63) rfl h (fun Z1 h=>?_) (fun Z1 h=>?_)
 refine RD.vP 30 2147483647 c0 rfl d0 (.yes rfl rfl) (fun _=>Aj rfl) rfl ?_
 obtain ⟨p0,W3,h⟩:=bi h
 refine RD.callq (i:=31) (m' :=4294967295) (W:=18446744069414584320) (tk c0) rfl d0 (v:=.agg ((cs_TShare p0)).toArray) (fst:=[]) (cap:=[]) (.yes rfl rfl) body20 rfl (e2 rfl rfl) (fun w9 hw9=>wardmotelaw27_of_c n _ w9 (q0.hL0 hL hw9) (1:Int) (2:Int) W3) rfl ?_
 obtain ⟨k0,X3,h⟩:=bi h
 refine RD.callq (i:=32) (m' :=8589934591) (W:=18446744065119617024) (tk c0) rfl d0 (v:=.agg ((cs_TShare k0)).toArray) (fst:=[]) (cap:=[]) (.yes rfl rfl) body20 rfl (e2 rfl rfl) (fun w9 hw9=>wardmotelaw27_of_c n _ w9 (q0.hL0 hL hw9) (1:Int) (1:Int) X3) rfl<|RD.nu 33 17179869183 c0 rfl (.yes rfl rfl) rfl (Bd (α:=TShare) (xs:=([p0,k0]:List TShare)) (vs:=[.agg ((cs_TShare p0)).toArray,.agg ((cs_TShare k0)).toArray]) (ds' :=(cs_TShare p0 ++ cs_TShare k0)) rfl q0 el60 rfl (e2 rfl rfl) (by kernel_rfl) rfl) (fun s4 G4 s0 Y0=>?_)
 have D2:=AO (cs:=(cs_TShare p0 ++ cs_TShare k0)) (xs:=(([p0,k0]:List TShare):List TShare)) s0 L (Ax (cs:=(cs_TShare p0)) (ds:=(cs_TShare k0)) (mk_TShare p0.fN p0.fD) (Ax (cs:=(cs_TShare k0)) (ds:=[]) (mk_TShare k0.fN k0.fD) (AU _ _)))
 obtain ⟨B4,Y3,h⟩:=bi h
 have t3:=Tt D0 (Tt E0 (Tt F0 (Tt G0 (Tt x0 (Tt y0 (Tt A0 Y0))))))
 have V2:=Av G3 t3
 refine RD.callq (i:=34) (m' :=34359738367) (W:=18446744039349813248) (tk c0) rfl d0 (v:=.bool B4) (fst:=[]) (cap:=[]) (.yes rfl rfl) body28 rfl (e2 rfl rfl) (fun w9 hw9=>slices_Equal_api_Share_api_Share_c n _ w9 (s0.hL0 hL hw9) R1.1 (s0.kd V2 hw9) ([p0,k0]:List TShare) (Au (St.lend (α:=TShare) (L:=L) s0 .hd D2 hL) hw9) Y3) rfl<|Ah 35 68719476735 c0 rfl d0 (fun _=>FV.pick_t rfl rfl) rfl<|Ah 36 137438953471 c0 rfl d0 (fun _=>Aj rfl) rfl<|RD.ifb (s:=70) rfl h (fun b2 h=>?_) (fun b2 h=>?_)
 refine RD.vP 38 412316860415 c0 rfl d0 (.yes rfl rfl) (fun _=>Aj rfl) rfl<|RD.val (i:=39) (m' :=962072674303) (W:=18446741874686296064) (tk c0) rfl d0 (.yes rfl rfl) (AI rfl (s0.memA (.tl (.tl (.tl (.tl .hd)))))) rfl<|RD.vP 40 2061584302079 c0 rfl d0 (.yes rfl rfl) (fun _=>Aj rfl) rfl<|Bu 37 2199023255551 c0 rfl (.yes rfl rfl) body41 rfl (e2 rfl rfl) (fun w9 hw9=>Calls.gives (wardmotelaw27_is_c n _ w9 (s0.hL hL hw9) (5:Int) (8:Int)) fun (w8:World) (u8:Value) ⟨b0_,b1_,hu_,s_⟩=>(⟨b0_,b1_,hu_,s_.from hw9⟩:∃ I0 J0:Nat,u8 = Value.func (.func 85) #[] #[vP I0,vP J0]∧St s4 w8 [.cells I0 [vI 5] 3,.cells J0 [vI 8] 3])) rfl (fun t4 d5 P4 ⟨I0,J0,J3,K1⟩=>?_)
 subst J3
 have g0:=mk_push2 s0 K1
 have q1:=mk_tr2 s0 K1
 obtain ⟨d1,Z3,h⟩:=bi h
 have F1:=Tt C1 (Tt y0 (Tt A0 (Tt Y0 q1)))
 have W2:=Av H0 F1
 have u3:=Tt D1 (Tt y0 (Tt A0 (Tt Y0 q1)))
 have X2:=Av b1 u3
 have v3:=Tt E1 (Tt y0 (Tt A0 (Tt Y0 q1)))
 have Y2:=Av c1 v3
 refine RD.callq (i:=41) (m' :=4398046511103) (W:=18446739675663040512) (tk c0) rfl d0 (v:=.tuple #[.agg ((cs_TShare d1.1)).toArray,vI d1.2]) (fst:=[]) (cap:=[]) (.yes rfl rfl) body23 rfl (e4 rfl rfl rfl rfl) (fun w9 hw9=>interest_Score_c n _ w9 (g0.hL0 hL hw9) y1.2 (g0.kd W2 hw9) y1.1 (g0.kd X2 hw9) ([(0:Int),(0:Int),(1:Int),(1:Int)]:List Int) (g0.kd Y2 hw9) (2:Int) (hG0.keep (g0.ag.trans hw9)) Z3) rfl<|RD.vP 42 8796093022207 c0 rfl d0 (.yes rfl rfl) (fun _=>Ag rfl rfl) rfl<|RD.vP 43 17592186044415 c0 rfl d0 (.yes rfl rfl) (fun _=>Ag rfl rfl) rfl ?_
 obtain ⟨C4,b4,h⟩:=bi h
 refine RD.callq (i:=44) (m' :=35184372088831) (W:=18446708889337462784) (tk c0) rfl d0 (v:=.bool C4) (fst:=[]) (cap:=[vP I0,vP J0]) (.yes rfl rfl) body85 rfl (e2 rfl rfl) (fun w9 hw9=>wardmotelaw27_is_1_c n _ w9 (g0.hL0 hL hw9) d1.1 d1.2 (5:Int) (fun j9 v9 h9=>hw9.cell0 ((g0.memA .hd) j9 v9 h9)) (8:Int) (fun j9 v9 h9=>hw9.cell0 ((g0.memA (.tl .hd)) j9 v9 h9)) b4) rfl<|Ah 45 70368744177663 c0 rfl d0 (fun _=>FV.pick_t rfl rfl) rfl<|Ah 46 140737488355327 c0 rfl d0 (fun _=>Aj rfl) rfl<|RD.ifb (s:=80) rfl h (fun c2 h=>?_) (fun c2 h=>?_)
 refine Bu 47 281474976710655 c0 rfl (.yes rfl rfl) body41 rfl (e2 rfl rfl) (fun w9 hw9=>Calls.gives (wardmotelaw27_is_c n _ w9 (g0.hL hL hw9) (1:Int) (4:Int)) fun (w8:World) (u8:Value) ⟨b0_,b1_,hu_,s_⟩=>(⟨b0_,b1_,hu_,s_.from hw9⟩:∃ K0 M0:Nat,u8 = Value.func (.func 85) #[] #[vP K0,vP M0]∧St t4 w8 [.cells K0 [vI 1] 3,.cells M0 [vI 4] 3])) rfl (fun t5 g5 Q4 ⟨K0,M0,K3,M1⟩=>?_)
 subst K3
 have t0:=mk_push2 g0 M1
 have s2:=mk_tr2 g0 M1
 obtain ⟨g1,c4,h⟩:=bi h
 refine RD.callq (i:=48) (m' :=562949953421311) (W:=18446181123756130304) (tk c0) rfl d0 (v:=.tuple #[.agg ((cs_TShare g1.1)).toArray,vI g1.2]) (fst:=[]) (cap:=[]) (.yes rfl rfl) body15 rfl (e2 rfl rfl) (fun w9 hw9=>interest_Overlap_c n _ w9 (t0.hL0 hL hw9) (7:UInt64) (12:UInt64) c4) rfl<|RD.vP 49 1125899906842623 c0 rfl d0 (.yes rfl rfl) (fun _=>Ag rfl rfl) rfl<|RD.vP 50 2251799813685247 c0 rfl d0 (.yes rfl rfl) (fun _=>Ag rfl rfl) rfl ?_
 obtain ⟨D4,d4,h⟩:=bi h
 refine RD.callq (i:=51) (m' :=4503599627370495) (W:=18442240474082181120) (tk c0) rfl d0 (v:=.bool D4) (fst:=[]) (cap:=[vP K0,vP M0]) (.yes rfl rfl) body85 rfl (e2 rfl rfl) (fun w9 hw9=>wardmotelaw27_is_1_c n _ w9 (t0.hL0 hL hw9) g1.1 g1.2 (1:Int) (fun j9 v9 h9=>hw9.cell0 ((t0.memA .hd) j9 v9 h9)) (4:Int) (fun j9 v9 h9=>hw9.cell0 ((t0.memA (.tl .hd)) j9 v9 h9)) d4) rfl<|Ah 52 9007199254740991 c0 rfl d0 (fun _=>FV.pick_t rfl rfl) rfl<|Ah 53 18014398509481983 c0 rfl d0 (fun _=>Aj rfl) rfl<|RD.ifb (s:=87) rfl h (fun d2 h=>?_) (fun d2 h=>?_)
 refine RD.vP 54 36028797018963967 c0 rfl d0 (.yes rfl rfl) (fun _=>Aj rfl) rfl<|RD.vP 55 72057594037927935 c0 rfl d0 (.yes rfl rfl) (fun _=>FV.eql (i:=k1.2) (j:=7) rfl rfl) rfl<|Ah 56 144115188075855871 c0 rfl d0 (fun _=>FV.pick_t rfl rfl) rfl<|Ah 57 288230376151711743 c0 rfl d0 (fun _=>Aj rfl) rfl<|RD.ifd (s:=91) rfl h (fun g2 h=>?_) (fun g2 h=>?_)
 refine RD.vP 58 576460752303423487 c0 rfl d0 (.yes rfl rfl) (fun _=>Aj rfl) rfl ?_
 obtain ⟨x4,P3,h⟩:=bi h
 have Z2:=Av H0 (Tt F1 s2)
 refine RD.valE (i:=59) (m' :=1152921504606846975) (W:=17293822569102704640) (tk c0) rfl d0 (.yes rfl rfl) rfl (FV.cutL (α:=TInterest) P3 (by kernel_rfl) rfl Z2 ⟨_,rfl⟩ rfl) (fun W4 A3=>?_)
 obtain ⟨Q1,g4,h⟩:=bi h
 refine RD.callq (i:=60) (m' :=2305843009213693951) (W:=16140901064495857664) (tk c0) rfl d0 (v:=vI Q1) (fst:=[]) (cap:=[]) (.yes rfl rfl) body13 rfl (e2 rfl rfl) (fun w9 hw9=>interest_Check_c n _ w9 (t0.hL0 hL hw9) (3:Int) x4 (t0.kd A3 hw9) g4) rfl<|RD.vP 61 4611686018427387903 c0 rfl d0 (.yes rfl rfl) (fun _=>FV.eql (i:=Q1) (j:=270) rfl rfl) rfl<|Ah 62 9223372036854775807 c0 rfl d0 (fun _=>FV.pick_t rfl rfl) rfl<|Ah 63 18446744073709551615 c0 rfl d0 (fun _=>Bh rfl) rfl<|AM (dk c0)<|Ak rfl<|AP hb0 Tryz.func10 rfl rfl ?_
 cases h
 exact t0.gv
 refine Bn 4611686018427387903 2 [(58,92),(59,93),(60,94),(61,95)] (F:=[(91,false)]) (U:=[]) c0 d0 (.cons rfl .nil) .nil ?_
 dsimp only [offS,List.map]
 refine Ah 62 9223372036854775807 c0 rfl d0 (fun _=>Ba rfl rfl) rfl<|Ah 63 18446744073709551615 c0 rfl d0 (fun _=>Bh rfl) rfl<|AM (dk c0)<|Ak rfl<|AP hb0 Tryz.func10 rfl rfl ?_
 cases h
 exact t0.gv
 refine Bn 72057594037927935 8 [(54,88),(55,89)] (F:=[(87,false)]) (U:=[]) c0 d0 (.cons rfl .nil) .nil ?_
 dsimp only [offS,List.map]
 refine Ah 56 144115188075855871 c0 rfl d0 (fun _=>Ba rfl rfl) rfl<|Ah 57 288230376151711743 c0 rfl d0 (fun _=>Aj rfl) rfl<|Bn 4611686018427387903 2 [(58,92),(59,93),(60,94),(61,95)] (F:=[(91,false)]) (U:=[]) c0 d0 (.cons rfl .nil) .nil ?_
 dsimp only [offS,List.map]
 refine Ah 62 9223372036854775807 c0 rfl d0 (fun _=>Ba rfl rfl) rfl<|Ah 63 18446744073709551615 c0 rfl d0 (fun _=>Bh rfl) rfl<|AM (dk c0)<|Ak rfl<|AP hb0 Tryz.func10 rfl rfl ?_
 cases h
 exact t0.gv
 refine Bn 4503599627370495 12 [(47,81),(48,82),(49,83),(50,84),(51,85)] (F:=[(80,false)]) (U:=[]) c0 d0 (.cons rfl .nil) .nil ?_
 dsimp only [offS,List.map]
 refine Ah 52 9007199254740991 c0 rfl d0 (fun _=>Ba rfl rfl) rfl<|Ah 53 18014398509481983 c0 rfl d0 (fun _=>Aj rfl) rfl<|Bn 72057594037927935 8 [(54,88),(55,89)] (F:=[(87,false)]) (U:=[]) c0 d0 (.cons rfl .nil) .nil ?_
 dsimp only [offS,List.map]
 refine Ah 56 144115188075855871 c0 rfl d0 (fun _=>Ba rfl rfl) rfl<|Ah 57 288230376151711743 c0 rfl d0 (fun _=>Aj rfl) rfl<|Bn 4611686018427387903 2 [(58,92),(59,93),(60,94),(61,95)] (F:=[(91,false)]) (U:=[]) c0 d0 (.cons rfl .nil) .nil ?_
 dsimp only [offS,List.map]
 refine Ah 62 9223372036854775807 c0 rfl d0 (fun _=>Ba rfl rfl) rfl<|Ah 63 18446744073709551615 c0 rfl d0 (fun _=>Bh rfl) rfl<|AM (dk c0)<|Ak rfl<|AP hb0 Tryz.func10 rfl rfl ?_
 cases h
 exact g0.gv
 refine Bn 35184372088831 19 [(37,71),(38,72),(39,73),(40,74),(41,75),(42,76),(43,77),(44,78)] (F:=[(70,false)]) (U:=[]) c0 d0 (.cons rfl .nil) .nil ?_
 dsimp only [offS,List.map]
 refine Ah 45 70368744177663 c0 rfl d0 (fun _=>Ba rfl rfl) rfl<|Ah 46 140737488355327 c0 rfl d0 (fun _=>Aj rfl) rfl<|Bn 4503599627370495 12 [(47,81),(48,82),(49,83),(50,84),(51,85)] (F:=[(80,false)]) (U:=[]) c0 d0 (.cons rfl .nil) .nil ?_
 dsimp only [offS,List.map]
 refine Ah 52 9007199254740991 c0 rfl d0 (fun _=>Ba rfl rfl) rfl<|Ah 53 18014398509481983 c0 rfl d0 (fun _=>Aj rfl) rfl<|Bn 72057594037927935 8 [(54,88),(55,89)] (F:=[(87,false)]) (U:=[]) c0 d0 (.cons rfl .nil) .nil ?_
 dsimp only [offS,List.map]
 refine Ah 56 144115188075855871 c0 rfl d0 (fun _=>Ba rfl rfl) rfl<|Ah 57 288230376151711743 c0 rfl d0 (fun _=>Aj rfl) rfl<|Bn 4611686018427387903 2 [(58,92),(59,93),(60,94),(61,95)] (F:=[(91,false)]) (U:=[]) c0 d0 (.cons rfl .nil) .nil ?_
 dsimp only [offS,List.map]
 refine Ah 62 9223372036854775807 c0 rfl d0 (fun _=>Ba rfl rfl) rfl<|Ah 63 18446744073709551615 c0 rfl d0 (fun _=>Bh rfl) rfl<|AM (dk c0)<|Ak rfl<|AP hb0 Tryz.func10 rfl rfl ?_
 cases h
 exact s0.gv
 refine Bn 34359738367 29 [(30,64),(31,65),(32,66),(33,67),(34,68)] (F:=[(63,false)]) (U:=[]) c0 d0 (.cons rfl .nil) .nil ?_
 dsimp only [offS,List.map]
 refine Ah 35 68719476735 c0 rfl d0 (fun _=>Ba rfl rfl) rfl<|Ah 36 137438953471 c0 rfl d0 (fun _=>Aj rfl) rfl<|Bn 35184372088831 19 [(37,71),(38,72),(39,73),(40,74),(41,75),(42,76),(43,77),(44,78)] (F:=[(70,false)]) (U:=[]) c0 d0 (.cons rfl .nil) .nil ?_
 dsimp only [offS,List.map]
 refine Ah 45 70368744177663 c0 rfl d0 (fun _=>Ba rfl rfl) rfl<|Ah 46 140737488355327 c0 rfl d0 (fun _=>Aj rfl) rfl<|Bn 4503599627370495 12 [(47,81),(48,82),(49,83),(50,84),(51,85)] (F:=[(80,false)]) (U:=[]) c0 d0 (.cons rfl .nil) .nil ?_
 dsimp only [offS,List.map]
 refine Ah 52 9007199254740991 c0 rfl d0 (fun _=>Ba rfl rfl) rfl<|Ah 53 18014398509481983 c0 rfl d0 (fun _=>Aj rfl) rfl<|Bn 72057594037927935 8 [(54,88),(55,89)] (F:=[(87,false)]) (U:=[]) c0 d0 (.cons rfl .nil) .nil ?_
 dsimp only [offS,List.map]
 refine Ah 56 144115188075855871 c0 rfl d0 (fun _=>Ba rfl rfl) rfl<|Ah 57 288230376151711743 c0 rfl d0 (fun _=>Aj rfl) rfl<|Bn 4611686018427387903 2 [(58,92),(59,93),(60,94),(61,95)] (F:=[(91,false)]) (U:=[]) c0 d0 (.cons rfl .nil) .nil ?_
 dsimp only [offS,List.map]
 refine Ah 62 9223372036854775807 c0 rfl d0 (fun _=>Ba rfl rfl) rfl<|Ah 63 18446744073709551615 c0 rfl d0 (fun _=>Bh rfl) rfl<|AM (dk c0)<|Ak rfl<|AP hb0 Tryz.func10 rfl rfl ?_
 cases h
 exact q0.gv
 refine Bn 268435455 36 [(26,60),(27,61)] (F:=[(59,false)]) (U:=[]) c0 d0 (.cons rfl .nil) .nil ?_
 dsimp only [offS,List.map]
 refine Ah 28 536870911 c0 rfl d0 (fun _=>Ba rfl rfl) rfl<|Ah 29 1073741823 c0 rfl d0 (fun _=>Aj rfl) rfl<|Bn 34359738367 29 [(30,64),(31,65),(32,66),(33,67),(34,68)] (F:=[(63,false)]) (U:=[]) c0 d0 (.cons rfl .nil) .nil ?_
 dsimp only [offS,List.map]
 refine Ah 35 68719476735 c0 rfl d0 (fun _=>Ba rfl rfl) rfl<|Ah 36 137438953471 c0 rfl d0 (fun _=>Aj rfl) rfl<|Bn 35184372088831 19 [(37,71),(38,72),(39,73),(40,74),(41,75),(42,76),(43,77),(44,78)] (F:=[(70,false)]) (U:=[]) c0 d0 (.cons rfl .nil) .nil ?_
 dsimp only [offS,List.map]
 refine Ah 45 70368744177663 c0 rfl d0 (fun _=>Ba rfl rfl) rfl<|Ah 46 140737488355327 c0 rfl d0 (fun _=>Aj rfl) rfl<|Bn 4503599627370495 12 [(47,81),(48,82),(49,83),(50,84),(51,85)] (F:=[(80,false)]) (U:=[]) c0 d0 (.cons rfl .nil) .nil ?_
 dsimp only [offS,List.map]
 refine Ah 52 9007199254740991 c0 rfl d0 (fun _=>Ba rfl rfl) rfl<|Ah 53 18014398509481983 c0 rfl d0 (fun _=>Aj rfl) rfl<|Bn 72057594037927935 8 [(54,88),(55,89)] (F:=[(87,false)]) (U:=[]) c0 d0 (.cons rfl .nil) .nil ?_
 dsimp only [offS,List.map]
 refine Ah 56 144115188075855871 c0 rfl d0 (fun _=>Ba rfl rfl) rfl<|Ah 57 288230376151711743 c0 rfl d0 (fun _=>Aj rfl) rfl<|Bn 4611686018427387903 2 [(58,92),(59,93),(60,94),(61,95)] (F:=[(91,false)]) (U:=[]) c0 d0 (.cons rfl .nil) .nil ?_
 dsimp only [offS,List.map]
 refine Ah 62 9223372036854775807 c0 rfl d0 (fun _=>Ba rfl rfl) rfl<|Ah 63 18446744073709551615 c0 rfl d0 (fun _=>Bh rfl) rfl<|AM (dk c0)<|Ak rfl<|AP hb0 Tryz.func10 rfl rfl ?_
 cases h
 exact q0.gv
 refine Bn 16777215 40 [(19,53),(20,54),(21,55),(22,56),(23,57)] (F:=[(52,false)]) (U:=[]) c0 d0 (.cons rfl .nil) .nil ?_
 dsimp only [offS,List.map]
 refine Ah 24 33554431 c0 rfl d0 (fun _=>Ba rfl rfl) rfl<|Ah 25 67108863 c0 rfl d0 (fun _=>Aj rfl) rfl<|Bn 268435455 36 [(26,60),(27,61)] (F:=[(59,false)]) (U:=[]) c0 d0 (.cons rfl .nil) .nil ?_
 dsimp only [offS,List.map]
 refine Ah 28 536870911 c0 rfl d0 (fun _=>Ba rfl rfl) rfl<|Ah 29 1073741823 c0 rfl d0 (fun _=>Aj rfl) rfl<|Bn 34359738367 29 [(30,64),(31,65),(32,66),(33,67),(34,68)] (F:=[(63,false)]) (U:=[]) c0 d0 (.cons rfl .nil) .nil ?_
 dsimp only [offS,List.map]
 refine Ah 35 68719476735 c0 rfl d0 (fun _=>Ba rfl rfl) rfl<|Ah 36 137438953471 c0 rfl d0 (fun _=>Aj rfl) rfl<|Bn 35184372088831 19 [(37,71),(38,72),(39,73),(40,74),(41,75),(42,76),(43,77),(44,78)] (F:=[(70,false)]) (U:=[]) c0 d0 (.cons rfl .nil) .nil ?_
 dsimp only [offS,List.map]
 refine Ah 45 70368744177663 c0 rfl d0 (fun _=>Ba rfl rfl) rfl<|Ah 46 140737488355327 c0 rfl d0 (fun _=>Aj rfl) rfl<|Bn 4503599627370495 12 [(47,81),(48,82),(49,83),(50,84),(51,85)] (F:=[(80,false)]) (U:=[]) c0 d0 (.cons rfl .nil) .nil ?_
 dsimp only [offS,List.map]
 refine Ah 52 9007199254740991 c0 rfl d0 (fun _=>Ba rfl rfl) rfl<|Ah 53 18014398509481983 c0 rfl d0 (fun _=>Aj rfl) rfl<|Bn 72057594037927935 8 [(54,88),(55,89)] (F:=[(87,false)]) (U:=[]) c0 d0 (.cons rfl .nil) .nil ?_
 dsimp only [offS,List.map]
 refine Ah 56 144115188075855871 c0 rfl d0 (fun _=>Ba rfl rfl) rfl<|Ah 57 288230376151711743 c0 rfl d0 (fun _=>Aj rfl) rfl<|Bn 4611686018427387903 2 [(58,92),(59,93),(60,94),(61,95)] (F:=[(91,false)]) (U:=[]) c0 d0 (.cons rfl .nil) .nil ?_
 dsimp only [offS,List.map]
 refine Ah 62 9223372036854775807 c0 rfl d0 (fun _=>Ba rfl rfl) rfl<|Ah 63 18446744073709551615 c0 rfl d0 (fun _=>Bh rfl) rfl<|AM (dk c0)<|Ak rfl<|AP hb0 Tryz.func10 rfl rfl ?_
 cases h
 exact v0.gv
 refine Bn 131071 47 [(14,48),(15,49),(16,50)] (F:=[(47,false)]) (U:=[]) c0 d0 (.cons rfl .nil) .nil ?_
 dsimp only [offS,List.map]
 refine Ah 17 262143 c0 rfl d0 (fun _=>Ba rfl rfl) rfl<|Ah 18 524287 c0 rfl d0 (fun _=>Aj rfl) rfl<|Bn 16777215 40 [(19,53),(20,54),(21,55),(22,56),(23,57)] (F:=[(52,false)]) (U:=[]) c0 d0 (.cons rfl .nil) .nil ?_
 dsimp only [offS,List.map]
 refine Ah 24 33554431 c0 rfl d0 (fun _=>Ba rfl rfl) rfl<|Ah 25 67108863 c0 rfl d0 (fun _=>Aj rfl) rfl<|Bn 268435455 36 [(26,60),(27,61)] (F:=[(59,false)]) (U:=[]) c0 d0 (.cons rfl .nil) .nil ?_
 dsimp only [offS,List.map]
 refine Ah 28 536870911 c0 rfl d0 (fun _=>Ba rfl rfl) rfl<|Ah 29 1073741823 c0 rfl d0 (fun _=>Aj rfl) rfl<|Bn 34359738367 29 [(30,64),(31,65),(32,66),(33,67),(34,68)] (F:=[(63,false)]) (U:=[]) c0 d0 (.cons rfl .nil) .nil ?_
 dsimp only [offS,List.map]
 refine Ah 35 68719476735 c0 rfl d0 (fun _=>Ba rfl rfl) rfl<|Ah 36 137438953471 c0 rfl d0 (fun _=>Aj rfl) rfl<|Bn 35184372088831 19 [(37,71),(38,72),(39,73),(40,74),(41,75),(42,76),(43,77),(44,78)] (F:=[(70,false)]) (U:=[]) c0 d0 (.cons rfl .nil) .nil ?_
 dsimp only [offS,List.map]
 refine Ah 45 70368744177663 c0 rfl d0 (fun _=>Ba rfl rfl) rfl<|Ah 46 140737488355327 c0 rfl d0 (fun _=>Aj rfl) rfl<|Bn 4503599627370495 12 [(47,81),(48,82),(49,83),(50,84),(51,85)] (F:=[(80,false)]) (U:=[]) c0 d0 (.cons rfl .nil) .nil ?_
 dsimp only [offS,List.map]
 refine Ah 52 9007199254740991 c0 rfl d0 (fun _=>Ba rfl rfl) rfl<|Ah 53 18014398509481983 c0 rfl d0 (fun _=>Aj rfl) rfl<|Bn 72057594037927935 8 [(54,88),(55,89)] (F:=[(87,false)]) (U:=[]) c0 d0 (.cons rfl .nil) .nil ?_
 dsimp only [offS,List.map]
 refine Ah 56 144115188075855871 c0 rfl d0 (fun _=>Ba rfl rfl) rfl<|Ah 57 288230376151711743 c0 rfl d0 (fun _=>Aj rfl) rfl<|Bn 4611686018427387903 2 [(58,92),(59,93),(60,94),(61,95)] (F:=[(91,false)]) (U:=[]) c0 d0 (.cons rfl .nil) .nil ?_
 dsimp only [offS,List.map]
 refine Ah 62 9223372036854775807 c0 rfl d0 (fun _=>Ba rfl rfl) rfl<|Ah 63 18446744073709551615 c0 rfl d0 (fun _=>Bh rfl) rfl<|AM (dk c0)<|Ak rfl<|AP hb0 Tryz.func10 rfl rfl ?_
 cases h
 exact v0.gv
 refine Bn 4095 52 [(10,44),(11,45)] (F:=[(43,false)]) (U:=[]) c0 d0 (.cons rfl .nil) .nil ?_
 dsimp only [offS,List.map]
 refine Ah 12 8191 c0 rfl d0 (fun _=>Ba rfl rfl) rfl<|Ah 13 16383 c0 rfl d0 (fun _=>Aj rfl) rfl<|Bn 131071 47 [(14,48),(15,49),(16,50)] (F:=[(47,false)]) (U:=[]) c0 d0 (.cons rfl .nil) .nil ?_
 dsimp only [offS,List.map]
 refine Ah 17 262143 c0 rfl d0 (fun _=>Ba rfl rfl) rfl<|Ah 18 524287 c0 rfl d0 (fun _=>Aj rfl) rfl<|Bn 16777215 40 [(19,53),(20,54),(21,55),(22,56),(23,57)] (F:=[(52,false)]) (U:=[]) c0 d0 (.cons rfl .nil) .nil ?_
 dsimp only [offS,List.map]
 refine Ah 24 33554431 c0 rfl d0 (fun _=>Ba rfl rfl) rfl<|Ah 25 67108863 c0 rfl d0 (fun _=>Aj rfl) rfl<|Bn 268435455 36 [(26,60),(27,61)] (F:=[(59,false)]) (U:=[]) c0 d0 (.cons rfl .nil) .nil ?_
 dsimp only [offS,List.map]
 refine Ah 28 536870911 c0 rfl d0 (fun _=>Ba rfl rfl) rfl<|Ah 29 1073741823 c0 rfl d0 (fun _=>Aj rfl) rfl<|Bn 34359738367 29 [(30,64),(31,65),(32,66),(33,67),(34,68)] (F:=[(63,false)]) (U:=[]) c0 d0 (.cons rfl .nil) .nil ?_
 dsimp only [offS,List.map]
 refine Ah 35 68719476735 c0 rfl d0 (fun _=>Ba rfl rfl) rfl<|Ah 36 137438953471 c0 rfl d0 (fun _=>Aj rfl) rfl<|Bn 35184372088831 19 [(37,71),(38,72),(39,73),(40,74),(41,75),(42,76),(43,77),(44,78)] (F:=[(70,false)]) (U:=[]) c0 d0 (.cons rfl .nil) .nil ?_
 dsimp only [offS,List.map]
 refine Ah 45 70368744177663 c0 rfl d0 (fun _=>Ba rfl rfl) rfl<|Ah 46 140737488355327 c0 rfl d0 (fun _=>Aj rfl) rfl<|Bn 4503599627370495 12 [(47,81),(48,82),(49,83),(50,84),(51,85)] (F:=[(80,false)]) (U:=[]) c0 d0 (.cons rfl .nil) .nil ?_
 dsimp only [offS,List.map]
 refine Ah 52 9007199254740991 c0 rfl d0 (fun _=>Ba rfl rfl) rfl<|Ah 53 18014398509481983 c0 rfl d0 (fun _=>Aj rfl) rfl<|Bn 72057594037927935 8 [(54,88),(55,89)] (F:=[(87,false)]) (U:=[]) c0 d0 (.cons rfl .nil) .nil ?_
 dsimp only [offS,List.map]
 refine Ah 56 144115188075855871 c0 rfl d0 (fun _=>Ba rfl rfl) rfl<|Ah 57 288230376151711743 c0 rfl d0 (fun _=>Aj rfl) rfl<|Bn 4611686018427387903 2 [(58,92),(59,93),(60,94),(61,95)] (F:=[(91,false)]) (U:=[]) c0 d0 (.cons rfl .nil) .nil ?_
 dsimp only [offS,List.map]
 refine Ah 62 9223372036854775807 c0 rfl d0 (fun _=>Ba rfl rfl) rfl<|Ah 63 18446744073709551615 c0 rfl d0 (fun _=>Bh rfl) rfl<|AM (dk c0)<|Ak rfl<|AP hb0 Tryz.func10 rfl rfl ?_
 cases h
 exact v0.gv
structure TDraft where
  fL:List (UInt16 × UInt16)
  deriving DecidableEq
instance:Rep TDraft:=Rep.via (β:=(List (UInt16 × UInt16))) fun x=>x.fL
def tb11_5:List (Nat × Nat × Nat):=[(0,524288,4),(1,1048576,524288),(0,2097152,64),(6,4194304,3145728),(8,8388608,4194304),(16,16777216,8388608),(32,33554432,16777216),(0,67108864,2),(128,134217728,67108864),(320,268435456,167772160),(1023,128,268435456)]
def tb11_8:List (Nat × Nat × Nat):=[(0,2147483648,32),(0,4294967296,64),(2,8589934592,4294967296),(4,17179869184,8589934592),(8,34359738368,17179869184),(16,68719476736,34359738368),(32,137438953472,68719476736),(0,274877906944,4),(128,549755813888,274877906944),(0,1099511627776,64),(768,2199023255552,1649267441664),(1024,4398046511104,2199023255552),(2048,8796093022208,4398046511104),(4096,17592186044416,8796093022208),(8192,35184372088832,17592186044416),(0,70368744177664,128),(49216,140737488355328,105690555219968),(65536,281474976710656,140737488355328),(131073,562949953421312,281477124194304),(524287,32,562949953421312)]
theorem op_A102 {w:World} {L:List Nat} {cs:List Value} {x:UInt16 × UInt16} (h:Rep.R w L cs x):cs = [.int .u16 (x.1.toNat:Int),.int .u16 (x.2.toNat:Int)]:=by
  obtain ⟨c0,r0,rfl,h0,h⟩:=h
  have e0:c0 = [.int .u16 (x.1.toNat:Int)]:=h0; subst e0
  have e1:r0 = [.int .u16 (x.2.toNat:Int)]:=h; subst e1
  rfl
theorem mk_A102 {w:World} {L:List Nat} (a0:UInt16) (a1:UInt16):Rep.R w L [.int .u16 (a0.toNat:Int),.int .u16 (a1.toNat:Int)] ((a0,a1):UInt16 × UInt16):=⟨[.int .u16 (a0.toNat:Int)],[.int .u16 (a1.toNat:Int)],rfl,rfl,rfl⟩
theorem el46:ElT Tryz.prog 46 5 (Rep.size UInt8) 1 (.int .u8 0) [.int .u8 0]:=⟨Tryz.underlying46,by kernel_rfl,rfl,rfl,rfl,rfl⟩
def wardmoteref27_Draft_List_l1 (_n:Nat) (a0:TDraft) (a1:Int) (g0:Nat × (List TInterest) → Option (List TInterest)):Nat × (List TInterest) → Option (List TInterest)
  | (b0,c0)=>(if b0 < a0.fL.length then (if b0 < 6 then (a0.fL[b0]?).bind fun d0=>(natOf a1).bind fun k0=>(remW (u64of ((d0.2.toNat:Nat):Int)) (shlU (1:UInt64) k0)).bind fun j0=>(if j0 = (0:UInt64) then (sadd ⟨#[99]⟩ (bstr ([u8ofI ((97 + b0:Nat):Int)]:List UInt8))).bind fun p0=>(app c0 ([(⟨p0,((d0.1.toNat % 10:Nat):Int),(1:UInt64)⟩:TInterest)]:List TInterest)).bind fun s0=>g0 (b0 + 1,s0) else (sadd ⟨#[99]⟩ (bstr ([u8ofI ((97 + b0:Nat):Int)]:List UInt8))).bind fun q0=>(app c0 ([(⟨q0,((d0.1.toNat % 10:Nat):Int),j0⟩:TInterest)]:List TInterest)).bind fun t0=>g0 (b0 + 1,t0)) else some c0) else some c0)
def wardmoteref27_Draft_List_p (n:Nat) (a0:TDraft) (a1:Int):Option (List TInterest):=
  jn (fun c0=>some c0) (fun b0=>Option.bind (loopF (wardmoteref27_Draft_List_l1 n a0 a1) n (0,([]:List TInterest))) (b0))
theorem wardmoteref27_Draft_List_c (n:Nat) (L:List Nat) (w:World) (hL:∀ b ∈ L,b < w.heap.size) (a0:TDraft) {v0_0:Value} (h0_0:Rep.R w L [v0_0] a0.fL) (a1:Int)  {r:List TInterest} (h:wardmoteref27_Draft_List_p n a0 a1 = some r) :
    Calls Tryz.prog 11 #[.agg #[v0_0],vI a1] w (Gives w fun w' u=>∃ v0_0:Value,u = v0_0∧Rep.R w' L [v0_0] r):=by
 unfold wardmoteref27_Draft_List_p at h
 have hS0:=Az w
 refine AC Tryz.func11 rfl rfl rfl (fun _ cs0 hb0=>?_)
 refine Ac<|Am .plain rfl (AB hS0 rfl rfl) (fun v1 D0 Z0 U2=>?_)
 refine Af rfl<|Aa<|Ac<|Af rfl<|Aa<|Ai<|Ac<|Af rfl<|Aa<|Aq ?_
 have b1:=Z0.nilRow 65 (Rep.size TInterest)
 have V2:=St.nilRowT Z0 65 (Rep.size TInterest)
 have K1:=AO (cs:=[]) (xs:=([]:List TInterest)) b1 L (AU _ _)
 refine MX.joinx (α:=(List TInterest) × Value × (List Value)) (fun ⟨B0,z0,C0⟩=>[(5,z0)]) (fun ⟨B0,z0,C0⟩ G0=>St w G0 [.row w.heap.size 65 (Rep.size TInterest) z0 B0.length C0]∧Tr v1 [.row w.heap.size 65 (Rep.size TInterest) vN (([]:List TInterest).length) [],.cells D0 [v0_0] 24] G0 [.row w.heap.size 65 (Rep.size TInterest) z0 B0.length C0]∧Cells G0 (bl [.row w.heap.size 65 (Rep.size TInterest) z0 B0.length C0] ++ L) C0 B0) (fun ⟨B0,z0,C0⟩=>B0) (id:=0) rfl h ?_ ?_
 rintro ⟨B0,z0,C0⟩ G0 ⟨I0,W2,M1⟩ h
 try dsimp only at h
 refine Ac<|Ae rfl<|Af rfl<|Aa<|Ak rfl ?_
 have q2:=Bq (α:=TInterest) I0 .hd M1 hL
 have J0:=BB I0 .hd
 have X2:=BC I0 .hd
 have s2:=BD (α:=TInterest) (v:=z0) (xs:=B0) J0 L q2
 refine AP hb0 Tryz.func11 rfl rfl ?_
 cases h
 exact ⟨J0.ag,fun w9 hw9=>⟨z0,rfl,J0.kd s2 hw9⟩⟩
 intro H2 X0 h
 try dsimp only at h
 obtain ⟨c3,j2,u1⟩:=bind_in2 h
 refine Bg (α:=Nat × (List TInterest) × Value × (List Value)) (fun ⟨b0,v0,A0,x0⟩=>[(1,vI a1),(2,vP D0),(5,A0),(6,vI ((b0:Nat):Int))]) (fun ⟨b0,v0,A0,x0⟩ H0=>St w H0 [.row w.heap.size 65 (Rep.size TInterest) A0 v0.length x0,.cells D0 [v0_0] 24]∧Tr v1 [.row w.heap.size 65 (Rep.size TInterest) vN (([]:List TInterest).length) [],.cells D0 [v0_0] 24] H0 [.row w.heap.size 65 (Rep.size TInterest) A0 v0.length x0,.cells D0 [v0_0] 24]∧Cells H0 (bl [.row w.heap.size 65 (Rep.size TInterest) A0 v0.length x0,.cells D0 [v0_0] 24] ++ L) x0 v0) (fun ⟨b0,v0,A0,x0⟩=>(b0,v0)) (0,([]:List TInterest),vN,[]) j2 ⟨rfl,rfl,rfl,rfl,trivial⟩ ⟨b1,AQ _ _,K1⟩ ?_
 rintro I2 ⟨b0,v0,A0,x0⟩ H0 Y0 ⟨y0,E0,F0⟩ h
 unfold wardmoteref27_Draft_List_l1 at h
 try dsimp only at h
 refine Ai<|Ac<|Ae rfl<|Be 0 rfl<|AS rfl ((y0.memA (.tl .hd)) 0 _ rfl) ?_
 have V0:=AE h0_0 y0
 have Y2:a0.fL.length ≤ 281474976710656:=AT V0
 refine Ab (AY (xs:=a0.fL) Tryz.underlying22 rfl V0)<|Ab (AZ (i:=b0) (j:=a0.fL.length) rfl rfl)<|Ae rfl<|RG.ifd (s:=13) rfl h (fun x1 h=>?_) (fun x1 h=>?_)
 refine AJ (Aj rfl)<|AJ (AZ (i:=b0) (j:=6) rfl rfl)<|BF rfl rfl<|Aa<|AK rfl h (fun y1 h=>?_) (fun y1 h=>?_)
 refine Ao<|Ai<|Aq<|Ai<|dt 11 tb11_5 (fun p0 q0=>?_)
 refine Ah 0 1 p0 rfl q0 (fun _=>Bl 0 rfl) rfl<|AF 1 3 1656 p0 rfl q0 (AG rfl ((y0.memA (.tl .hd)) 0 _ rfl)) rfl<|Ah 2 7 p0 rfl q0 (fun _=>Aj rfl) rfl ?_
 obtain ⟨c0,y2,h⟩:=bi h
 obtain ⟨G2,Q2,R0,U0,R2,t2,W0⟩:=Bi V0 y2
 obtain rfl:=op_A102 t2
 refine Ah 3 15 p0 rfl q0 (fun _=>Bk 2 b0 rfl R0 rfl rfl U0) rfl<|Ah 4 31 p0 rfl q0 (fun _=>AD (m:=1) (k:=1) (len:=2) (by kernel_rfl) rfl rfl rfl (by omega)) rfl<|AF 5 63 1600 p0 rfl q0 (AG rfl (W0 1 _ rfl)) rfl<|Ah 6 127 p0 rfl q0 (fun _=>FV.convU (i:=((c0.2.toNat:Nat):Int)) Tryz.underlying101 Tryz.underlying28 rfl) rfl<|Ah 7 255 p0 rfl q0 (fun _=>Aj rfl) rfl ?_
 obtain ⟨B2,X1,h⟩:=bi h
 refine Ah 8 511 p0 rfl q0 (fun _=>FV.shlI (a:=(1:UInt64)) (i:=a1) rfl rfl X1) rfl ?_
 obtain ⟨s0,u2,h⟩:=bi h
 refine Ah 9 1023 p0 rfl q0 (fun _=>FV.remV (a:=u64of ((c0.2.toNat:Nat):Int)) (b:=shlU (1:UInt64) B2) rfl rfl u2) rfl<|Ah 10 2047 p0 rfl q0 (fun _=>Bh rfl) rfl<|AM (dk p0)<|Ai<|Ac<|Ae rfl<|Ab (FV.eqlU (a:=s0) (b:=(0:UInt64)) rfl rfl)<|Aa<|AK rfl h (fun z1 h=>?_) (fun z1 h=>?_)
 refine Al<|Af rfl<|Aa<|dt 18 tb11_8 (fun d0 j0=>?_)
 refine Ah 0 1 d0 rfl j0 (fun _=>Aj rfl) rfl<|Ah 1 3 d0 rfl j0 (fun _=>Aj rfl) rfl<|Ah 2 7 d0 rfl j0 (fun _=>Bj (i:=97) (j:=b0) rfl rfl (by omega)) rfl<|Ah 3 15 d0 rfl j0 (fun _=>FV.convU8 (i:=((97 + b0:Nat):Int)) Tryz.underlying3 Tryz.underlying5 rfl) rfl<|Ah 7 143 d0 rfl j0 (fun _=>Bl 0 rfl) rfl<|AF 8 399 1014784 d0 rfl j0 (AG rfl ((y0.memA (.tl .hd)) 0 _ rfl)) rfl<|Ah 9 911 d0 rfl j0 (fun _=>Aj rfl) rfl<|Ah 10 1935 d0 rfl j0 (fun _=>Bk 2 b0 rfl R0 rfl rfl U0) rfl<|Ah 11 3983 d0 rfl j0 (fun _=>AD (m:=1) (k:=0) (len:=2) (by kernel_rfl) rfl rfl rfl (by omega)) rfl<|AF 12 8079 1007616 d0 rfl j0 (AG rfl (W0 0 _ rfl)) rfl ?_
 have Z2:=c0.1.toNat_lt
 refine Ah 13 16271 d0 rfl j0 (fun _=>FV.convN (i:=c0.1.toNat) Tryz.underlying101 Tryz.underlying3 rfl (by omega)) rfl<|Ah 14 32655 d0 rfl j0 (fun _=>FV.remN (i:=c0.1.toNat) (j:=10) rfl rfl rfl) rfl<|Ah 15 65423 d0 rfl j0 (fun _=>Aj rfl) rfl<|RD.nu 4 65439 d0 rfl .plain rfl (Bd (α:=UInt8) (xs:=([u8ofI ((97 + b0:Nat):Int)]:List UInt8)) (vs:=[.int .u8 ((u8ofI ((97 + b0:Nat):Int)).toNat:Int)]) (ds' :=[.int .u8 ((u8ofI ((97 + b0:Nat):Int)).toNat:Int)]) rfl y0 el46 rfl (e1 rfl) (by kernel_rfl) rfl) (fun d3 J2 K0 c1=>?_)
 have P1:=AO (cs:=[.int .u8 ((u8ofI ((97 + b0:Nat):Int)).toNat:Int)]) (xs:=(([u8ofI ((97 + b0:Nat):Int)]:List UInt8):List UInt8)) K0 L (Ax (cs:=[.int .u8 ((u8ofI ((97 + b0:Nat):Int)).toNat:Int)]) (ds:=[]) rfl (AU _ _))
 refine AF 5 65471 983104 d0 rfl j0 (FV.bytesS (xs:=([u8ofI ((97 + b0:Nat):Int)]:List UInt8)) Tryz.underlying46 Tryz.underlying9 Tryz.underlying5 rfl (Src.row (α:=UInt8) K0 .hd P1)) rfl ?_
 obtain ⟨t0,v2,h⟩:=bi h
 refine Ah 6 65535 d0 rfl j0 (fun _=>FV.addS v2 rfl rfl) rfl<|Ah 16 131071 d0 rfl j0 (fun _=>AN (vs:=[.string t0,vI ((c0.1.toNat % 10:Nat):Int),vW 1]) (u:=.agg #[.string t0,vI ((c0.1.toNat % 10:Nat):Int),vW 1]) (e3 rfl rfl rfl) (fun w9=>by kernel_rfl)) rfl<|RD.nu 17 262143 d0 rfl .plain rfl (Bd (α:=TInterest) (xs:=([(⟨t0,((c0.1.toNat % 10:Nat):Int),(1:UInt64)⟩:TInterest)]:List TInterest)) (vs:=[.agg #[.string t0,vI ((c0.1.toNat % 10:Nat):Int),vW 1]]) (ds' :=[.string t0,vI ((c0.1.toNat % 10:Nat):Int),vW 1]) rfl K0 el30 rfl (e1 rfl) (by kernel_rfl) rfl) (fun g3 K2 M0 d1=>?_)
 have Q1:=AO (cs:=[.string t0,vI ((c0.1.toNat % 10:Nat):Int),vW 1]) (xs:=(([(⟨t0,((c0.1.toNat % 10:Nat):Int),(1:UInt64)⟩:TInterest)]:List TInterest):List TInterest)) M0 L (Ax (cs:=[.string t0,vI ((c0.1.toNat % 10:Nat):Int),vW 1]) (ds:=[]) (mk_TInterest t0 ((c0.1.toNat % 10:Nat):Int) (1:UInt64)) (AU _ _))
 obtain ⟨E2,z2,h⟩:=bi h
 have Y1:=Bc F0 (Tt c1 d1)
 refine RD.one (i:=18) (rk d0) (RO.doesL (m' :=524287) (sk d0) rfl rfl .plain rfl (BE (α:=TInterest) (ys:=([(⟨t0,((c0.1.toNat % 10:Nat):Int),(1:UInt64)⟩:TInterest)]:List TInterest)) z2 M0 (fun _ _=>(.tl (.tl .hd))) el30 rfl rfl Y1 (Src.row (α:=TInterest) M0 .hd Q1)) (fun C2 j3 ⟨A1,C1,I1,R1⟩=>?_))
 refine RD.one (i:=19) (rk d0) (RO.val (m' :=1048575) (sk d0) rfl .plain rfl (Bh rfl) ?_)
 refine AM (dk d0)<|Ar<|Al<|Ae rfl<|Ab (Bj (i:=b0) (j:=1) rfl rfl (by omega))<|Af rfl<|Aa ?_
 obtain ⟨D1,g1⟩:=AH C1 (.one (.tl (.tl .hd)) (.one (.tl (.tl .hd)) .done))
 have Z1:=Bc R1 g1
 have k2:=Tt c1 (Tt d1 (Tt I1 g1))
 exact Y0 (b0 + 1,E2,C2,A1) _ _ ⟨rfl,rfl,rfl,rfl,trivial⟩ ⟨D1,(Tt E0 k2),Z1⟩ h
 refine Ao<|dt 18 tb11_8 (fun g0 k0=>?_)
 refine Ah 0 1 g0 rfl k0 (fun _=>Aj rfl) rfl<|Ah 1 3 g0 rfl k0 (fun _=>Aj rfl) rfl<|Ah 2 7 g0 rfl k0 (fun _=>Bj (i:=97) (j:=b0) rfl rfl (by omega)) rfl<|Ah 3 15 g0 rfl k0 (fun _=>FV.convU8 (i:=((97 + b0:Nat):Int)) Tryz.underlying3 Tryz.underlying5 rfl) rfl<|Ah 7 143 g0 rfl k0 (fun _=>Bl 0 rfl) rfl<|AF 8 399 1014784 g0 rfl k0 (AG rfl ((y0.memA (.tl .hd)) 0 _ rfl)) rfl<|Ah 9 911 g0 rfl k0 (fun _=>Aj rfl) rfl<|Ah 10 1935 g0 rfl k0 (fun _=>Bk 2 b0 rfl R0 rfl rfl U0) rfl<|Ah 11 3983 g0 rfl k0 (fun _=>AD (m:=1) (k:=0) (len:=2) (by kernel_rfl) rfl rfl rfl (by omega)) rfl<|AF 12 8079 1007616 g0 rfl k0 (AG rfl (W0 0 _ rfl)) rfl ?_
 have b3:=c0.1.toNat_lt
 refine Ah 13 16271 g0 rfl k0 (fun _=>FV.convN (i:=c0.1.toNat) Tryz.underlying101 Tryz.underlying3 rfl (by omega)) rfl<|Ah 14 32655 g0 rfl k0 (fun _=>FV.remN (i:=c0.1.toNat) (j:=10) rfl rfl rfl) rfl<|Ah 15 65423 g0 rfl k0 (fun _=>Aj rfl) rfl<|RD.nu 4 65439 g0 rfl .plain rfl (Bd (α:=UInt8) (xs:=([u8ofI ((97 + b0:Nat):Int)]:List UInt8)) (vs:=[.int .u8 ((u8ofI ((97 + b0:Nat):Int)).toNat:Int)]) (ds' :=[.int .u8 ((u8ofI ((97 + b0:Nat):Int)).toNat:Int)]) rfl y0 el46 rfl (e1 rfl) (by kernel_rfl) rfl) (fun k3 M2 P0 j1=>?_)
 have U1:=AO (cs:=[.int .u8 ((u8ofI ((97 + b0:Nat):Int)).toNat:Int)]) (xs:=(([u8ofI ((97 + b0:Nat):Int)]:List UInt8):List UInt8)) P0 L (Ax (cs:=[.int .u8 ((u8ofI ((97 + b0:Nat):Int)).toNat:Int)]) (ds:=[]) rfl (AU _ _))
 refine AF 5 65471 983104 g0 rfl k0 (FV.bytesS (xs:=([u8ofI ((97 + b0:Nat):Int)]:List UInt8)) Tryz.underlying46 Tryz.underlying9 Tryz.underlying5 rfl (Src.row (α:=UInt8) P0 .hd U1)) rfl ?_
 obtain ⟨u0,x2,h⟩:=bi h
 refine Ah 6 65535 g0 rfl k0 (fun _=>FV.addS x2 rfl rfl) rfl<|Ah 16 131071 g0 rfl k0 (fun _=>AN (vs:=[.string u0,vI ((c0.1.toNat % 10:Nat):Int),vU s0]) (u:=.agg #[.string u0,vI ((c0.1.toNat % 10:Nat):Int),vU s0]) (e3 rfl rfl rfl) (fun w9=>by kernel_rfl)) rfl<|RD.nu 17 262143 g0 rfl .plain rfl (Bd (α:=TInterest) (xs:=([(⟨u0,((c0.1.toNat % 10:Nat):Int),s0⟩:TInterest)]:List TInterest)) (vs:=[.agg #[.string u0,vI ((c0.1.toNat % 10:Nat):Int),vU s0]]) (ds' :=[.string u0,vI ((c0.1.toNat % 10:Nat):Int),vU s0]) rfl P0 el30 rfl (e1 rfl) (by kernel_rfl) rfl) (fun p3 P2 Q0 k1=>?_)
 have V1:=AO (cs:=[.string u0,vI ((c0.1.toNat % 10:Nat):Int),vU s0]) (xs:=(([(⟨u0,((c0.1.toNat % 10:Nat):Int),s0⟩:TInterest)]:List TInterest):List TInterest)) Q0 L (Ax (cs:=[.string u0,vI ((c0.1.toNat % 10:Nat):Int),vU s0]) (ds:=[]) (mk_TInterest u0 ((c0.1.toNat % 10:Nat):Int) s0) (AU _ _))
 obtain ⟨F2,A2,h⟩:=bi h
 have b2:=Bc F0 (Tt j1 k1)
 refine RD.one (i:=18) (rk g0) (RO.doesL (m' :=524287) (sk g0) rfl rfl .plain rfl (BE (α:=TInterest) (ys:=([(⟨u0,((c0.1.toNat % 10:Nat):Int),s0⟩:TInterest)]:List TInterest)) A2 Q0 (fun _ _=>(.tl (.tl .hd))) el30 rfl rfl b2 (Src.row (α:=TInterest) Q0 .hd V1)) (fun D2 q3 ⟨B1,E1,J1,W1⟩=>?_))
 refine RD.one (i:=19) (rk g0) (RO.val (m' :=1048575) (sk g0) rfl .plain rfl (Bh rfl) ?_)
 refine AM (dk g0)<|Ar<|Al<|Ae rfl<|Ab (Bj (i:=b0) (j:=1) rfl rfl (by omega))<|Af rfl<|Aa ?_
 obtain ⟨F1,p1⟩:=AH E1 (.one (.tl (.tl .hd)) (.one (.tl (.tl .hd)) .done))
 have c2:=Bc W1 p1
 have p2:=Tt j1 (Tt k1 (Tt J1 p1))
 exact Y0 (b0 + 1,F2,D2,B1) _ _ ⟨rfl,rfl,rfl,rfl,trivial⟩ ⟨F1,(Tt E0 p2),c2⟩ h
 refine AW rfl ?_
 have h:=u1 _ h
 try dsimp only at h
 obtain ⟨G1,q1⟩:=AH y0 (.one .hd .done)
 have d2:=Bc F0 q1
 exact X0 (v0,A0,x0) _ _ ⟨rfl,trivial⟩ ⟨G1,(Tt E0 q1),d2⟩ h
 refine AA<|AA<|Bx rfl rfl<|Aa<|Bm rfl<|AW rfl ?_
 have h:=u1 _ h
 try dsimp only at h
 obtain ⟨H1,s1⟩:=AH y0 (.one .hd .done)
 have g2:=Bc F0 s1
 exact X0 (v0,A0,x0) _ _ ⟨rfl,trivial⟩ ⟨H1,(Tt E0 s1),g2⟩ h
structure TBend where
  fF:UInt8
  fAt:UInt8
  fN:Int
  fp:ByteArray
  deriving DecidableEq
instance:Rep TBend:=Rep.via (β:=UInt8 × UInt8 × Int × ByteArray) fun x=>(x.fF,x.fAt,x.fN,x.fp)
def wardmoteref27_Bend_Of_l1 (_n:Nat) (a0:TBend) (d0:Nat × (List TInterest) → Option (List TInterest)):Nat × (List TInterest) → Option (List TInterest)
  | (b0,c0)=>(if b0 < ((a0.fAt % (22:UInt8)).toNat) then (sadd ⟨#[109,111,114,101]⟩ (bstr ([u8ofI ((97 + b0:Nat):Int)]:List UInt8))).bind fun g0=>(app c0 ([(⟨g0,(0:Int),(1:UInt64)⟩:TInterest)]:List TInterest)).bind fun j0=>d0 (b0 + 1,j0) else some c0)
def wardmoteref27_Bend_Of_p (n:Nat) (a0:TBend) (a1:List TInterest):Option (List TInterest):=
  (app ([]:List TInterest) a1).bind fun j0=>jn (fun b0=>(if b0.length = 0 then some b0 else (remI ((a0.fAt.toNat:Nat):Int) ((b0.length:Nat):Int)).bind fun d0=>(idx b0 d0).bind fun c0=>(if ((a0.fF % (5:UInt8)).toNat) = 0 then (scut a0.fp 0 ((min a0.fp.size 30:Nat):Int)).bind fun k0=>(put b0 ((d0.toNat:Nat):Int) (⟨k0,c0.fw,c0.fm⟩:TInterest)).bind fun q0=>some q0 else (if ((a0.fF % (5:UInt8)).toNat) = 1 then (put b0 ((d0.toNat:Nat):Int) (⟨c0.fp,a0.fN,c0.fm⟩:TInterest)).bind fun s0=>some s0 else (if ((a0.fF % (5:UInt8)).toNat) = 2 then (put b0 ((d0.toNat:Nat):Int) (⟨c0.fp,c0.fw,u64of a0.fN⟩:TInterest)).bind fun t0=>some t0 else (if ((a0.fF % (5:UInt8)).toNat) = 3 then (b0[0]?).bind fun p0=>(put b0 ((d0.toNat:Nat):Int) (⟨p0.fp,c0.fw,c0.fm⟩:TInterest)).bind fun u0=>some u0 else some b0)))))) (fun g0=>(if ((a0.fF % (5:UInt8)).toNat) = 4 then Option.bind (loopF (wardmoteref27_Bend_Of_l1 n a0) n (0,j0)) (fun v0=>g0 v0) else g0 j0))
theorem wardmoteref27_Bend_Of_c (n:Nat) (L:List Nat) (w:World) (hL:∀ b ∈ L,b < w.heap.size) (a0:TBend) (a1:List TInterest) {v1_0:Value} (h1_0:Rep.R w L [v1_0] a1)  {r:List TInterest} (h:wardmoteref27_Bend_Of_p n a0 a1 = some r) :
    Calls Tryz.prog 12 #[.agg #[.int .u8 (a0.fF.toNat:Int),.int .u8 (a0.fAt.toNat:Int),vI a0.fN,.string a0.fp],v1_0] w (Gives w fun w' u=>∃ v0_0:Value,u = v0_0∧Rep.R w' L [v0_0] r):=by
 unfold wardmoteref27_Bend_Of_p at h
 have hS0:=Az w
 refine AC Tryz.func12 rfl rfl rfl (fun _ cs0 hb0=>?_)
 refine Ac<|Am .plain rfl (AB hS0 rfl rfl) (fun d5 p0 j1 v4=>?_)
 refine Af rfl<|Aa<|Ac<|Af rfl<|Aa<|Ac<|Ae rfl<|Ae rfl ?_
 have G0:=j1.nilRow 65 (Rep.size TInterest)
 have z4:=St.nilRowT j1 65 (Rep.size TInterest)
 have V1:=AO (cs:=[]) (xs:=([]:List TInterest)) G0 L (AU _ _)
 obtain ⟨E0,u3,h⟩:=bi h
 have B2:=AE h1_0 G0
 refine RG.doesL .plain rfl (BE (α:=TInterest) (ys:=a1) u3 G0 (fun _ _=>.hd) el30 rfl rfl V1 (Src.rep B2)) (fun B0 z1 ⟨A0,P0,G4,u1⟩=>?_)
 refine Af rfl<|Aa<|Ai<|Ac<|Be 0 rfl<|AS rfl ((P0.memA (.tl .hd)) 0 _ rfl)<|Ab (FV.rem8 (a:=a0.fF) (b:=(5:UInt8)) rfl rfl (by decide))<|Ab (FV.eqlN (i:=(a0.fF % (5:UInt8)).toNat) (j:=4) rfl rfl)<|Aa<|MX.join (α:=(List TInterest) × Value × (List Value)) (fun ⟨j0,d0,v0⟩=>[(2,vP p0),(5,d0)]) (fun ⟨j0,d0,v0⟩ C0=>St w C0 [.row w.heap.size 65 (Rep.size TInterest) d0 j0.length v0,.cells p0 [.int .u8 (a0.fF.toNat:Int),.int .u8 (a0.fAt.toNat:Int),vI a0.fN,.string a0.fp] 26]∧Tr z1 [.row w.heap.size 65 (Rep.size TInterest) B0 E0.length A0,.cells p0 [.int .u8 (a0.fF.toNat:Int),.int .u8 (a0.fAt.toNat:Int),vI a0.fN,.string a0.fp] 26] C0 [.row w.heap.size 65 (Rep.size TInterest) d0 j0.length v0,.cells p0 [.int .u8 (a0.fF.toNat:Int),.int .u8 (a0.fAt.toNat:Int),vI a0.fN,.string a0.fp] 26]∧Cells C0 (bl [.row w.heap.size 65 (Rep.size TInterest) d0 j0.length v0,.cells p0 [.int .u8 (a0.fF.toNat:Int),.int .u8 (a0.fAt.toNat:Int),vI a0.fN,.string a0.fp] 26] ++ L) v0 j0) (fun ⟨j0,d0,v0⟩=>j0) h ?_ ?_
 rintro ⟨j0,d0,v0⟩ C0 ⟨c0,x4,k0⟩ h
 try dsimp only at h
 refine Ai<|Ac<|Ae rfl ?_
 have R4:j0.length ≤ 4294967296:=St.rowLe (α:=TInterest) c0 .hd
 obtain ⟨G3,P3,q2⟩:=St.rowV (α:=TInterest) c0 .hd
 refine Ab (FV.lenV Tryz.underlying30 rfl q2)<|Ab (FV.eqlN (i:=j0.length) (j:=0) rfl rfl)<|Aa<|AK rfl h (fun E1 h=>?_) (fun E1 h=>?_)
 refine Ac<|Ae rfl<|Af rfl<|Aa<|Ak rfl ?_
 have H2:=Bq (α:=TInterest) c0 .hd k0 hL
 have F0:=BB c0 .hd
 have y4:=BC c0 .hd
 have I2:=BD (α:=TInterest) (v:=d0) (xs:=j0) F0 L H2
 refine AP hb0 Tryz.func12 rfl rfl ?_
 cases h
 exact ⟨F0.ag,fun w9 hw9=>⟨d0,rfl,F0.kd I2 hw9⟩⟩
 refine Ao<|Ac<|Ae rfl<|Be 1 rfl<|AS rfl ((c0.memA (.tl .hd)) 1 _ rfl) ?_
 have Z4:=a0.fAt.toNat_lt
 refine Ab (FV.convN (i:=a0.fAt.toNat) Tryz.underlying5 Tryz.underlying3 rfl (by omega))<|Ae rfl ?_
 obtain ⟨H3,Q3,s2⟩:=St.rowV (α:=TInterest) c0 .hd
 refine Ab (FV.lenV Tryz.underlying30 rfl s2) ?_
 obtain ⟨z0,j3,h⟩:=bi h
 refine Ab (FV.remc (i:=((a0.fAt.toNat:Nat):Int)) (j:=((j0.length:Nat):Int)) rfl rfl j3) ?_
 obtain ⟨b0,q3,h⟩:=bi h
 obtain ⟨A2,y0⟩:=idx_in q3
 obtain ⟨A1,R3,Z0,x1,c4,J2,U4⟩:=St.nth (α:=TInterest) c0 .hd k0 y0
 obtain ⟨C1,U3,x0⟩:=St.nthOwn (α:=TInterest) c0 .hd x1
 obtain rfl:A1 = ⟨C1,0,none⟩:=by rw [x0] at Z0; cases Z0; rfl
 obtain rfl:=op_TInterest J2
 refine Ab (Bk 3 (z0.toNat) rfl Z0 rfl A2 x1)<|Af rfl<|Aa<|Ai<|Ac<|Be 0 rfl<|AS rfl ((c0.memA (.tl .hd)) 0 _ rfl)<|Ab (FV.rem8 (a:=a0.fF) (b:=(5:UInt8)) rfl rfl (by decide))<|Aa<|Aq<|Ac<|Ab (FV.eqlN (i:=(a0.fF % (5:UInt8)).toNat) (j:=0) rfl rfl)<|Af rfl<|Aa<|AK rfl h (fun F1 h=>?_) (fun F1 h=>?_)
 refine Al<|Ae rfl<|Be 3 rfl<|AS rfl ((c0.memA (.tl .hd)) 3 _ rfl)<|Be 3 rfl<|AS rfl ((c0.memA (.tl .hd)) 3 _ rfl)<|Ab (Bp Tryz.underlying9 rfl)<|Ab (FV.min2N (i:=a0.fp.size) (j:=30) rfl rfl) ?_
 obtain ⟨c1,k3,h⟩:=bi h
 refine Ab (FV.strCut k3 Tryz.underlying9 rfl rfl ⟨_,rfl⟩)<|Ab (FV.nilCheck rfl)<|Be 0 rfl ?_
 obtain ⟨V3,t2,K4,d4,K2,V4,g2⟩:=St.nthAt (α:=TInterest) c0 .hd k0 y0 x0
 obtain rfl:=op_TInterest K2
 obtain ⟨B3,t3,h⟩:=bi h
 refine RG.acts' .plain (Acts.setPart (α:=TInterest) (i:=z0.toNat) (tot:=0) (ds:=[.string b0.fp,vI b0.fw,vU b0.fm]) (news:=[.string c1]) (full:=[.string c1,vI b0.fw,vU b0.fm]) t3 c0 t2 (fun _=>.hd) k0 g2 rfl (by kernel_rfl) rfl rfl rfl rfl (mk_TInterest c1 b0.fw b0.fm) (by kernel_rfl) (o1 rfl)) (fun g5 ⟨g4,H0,A4,W1⟩=>?_)
 refine Aa<|Ar<|Ac<|Ae rfl<|Af rfl<|Aa<|Ak rfl ?_
 have M2:=Bq (α:=TInterest) H0 .hd W1 hL
 have I0:=BB H0 .hd
 have B4:=BC H0 .hd
 have P2:=BD (α:=TInterest) (v:=d0) (xs:=B3) I0 L M2
 refine AP hb0 Tryz.func12 rfl rfl ?_
 cases h
 exact ⟨I0.ag,fun w9 hw9=>⟨d0,rfl,I0.kd P2 hw9⟩⟩
 refine Ac<|Ab (FV.eqlN (i:=(a0.fF % (5:UInt8)).toNat) (j:=1) rfl rfl)<|Af rfl<|Aa<|AK rfl h (fun G1 h=>?_) (fun G1 h=>?_)
 refine Al<|Ae rfl<|Be 2 rfl<|AS rfl ((c0.memA (.tl .hd)) 2 _ rfl)<|Ab (FV.nilCheck rfl)<|Be 1 rfl ?_
 obtain ⟨W3,u2,M4,j4,Q2,W4,j2⟩:=St.nthAt (α:=TInterest) c0 .hd k0 y0 x0
 obtain rfl:=op_TInterest Q2
 obtain ⟨C3,v3,h⟩:=bi h
 refine RG.acts' .plain (Acts.setPart (α:=TInterest) (i:=z0.toNat) (tot:=1) (ds:=[.string b0.fp,vI b0.fw,vU b0.fm]) (news:=[vI a0.fN]) (full:=[.string b0.fp,vI a0.fN,vU b0.fm]) v3 c0 u2 (fun _=>.hd) k0 j2 rfl (by kernel_rfl) rfl rfl rfl rfl (mk_TInterest b0.fp a0.fN b0.fm) (by kernel_rfl) (o1 rfl)) (fun j5 ⟨k4,J0,C4,X1⟩=>?_)
 refine Aa<|Ar<|Ac<|Ae rfl<|Af rfl<|Aa<|Ak rfl ?_
 have R2:=Bq (α:=TInterest) J0 .hd X1 hL
 have K0:=BB J0 .hd
 have D4:=BC J0 .hd
 have U2:=BD (α:=TInterest) (v:=d0) (xs:=C3) K0 L R2
 refine AP hb0 Tryz.func12 rfl rfl ?_
 cases h
 exact ⟨K0.ag,fun w9 hw9=>⟨d0,rfl,K0.kd U2 hw9⟩⟩
 refine Ac<|Ab (FV.eqlN (i:=(a0.fF % (5:UInt8)).toNat) (j:=2) rfl rfl)<|Af rfl<|Aa<|AK rfl h (fun H1 h=>?_) (fun H1 h=>?_)
 refine Al<|Ae rfl<|Be 2 rfl<|AS rfl ((c0.memA (.tl .hd)) 2 _ rfl)<|Ab (FV.convU (i:=a0.fN) Tryz.underlying3 Tryz.underlying28 rfl)<|Ab (FV.nilCheck rfl)<|Be 2 rfl ?_
 obtain ⟨X3,v2,P4,p4,V2,X4,k2⟩:=St.nthAt (α:=TInterest) c0 .hd k0 y0 x0
 obtain rfl:=op_TInterest V2
 obtain ⟨D3,x3,h⟩:=bi h
 refine RG.acts' .plain (Acts.setPart (α:=TInterest) (i:=z0.toNat) (tot:=2) (ds:=[.string b0.fp,vI b0.fw,vU b0.fm]) (news:=[vW ((u64of a0.fN).toNat:Int)]) (full:=[.string b0.fp,vI b0.fw,vW ((u64of a0.fN).toNat:Int)]) x3 c0 v2 (fun _=>.hd) k0 k2 rfl (by kernel_rfl) rfl rfl rfl rfl (mk_TInterest b0.fp b0.fw (u64of a0.fN)) (by kernel_rfl) (o1 rfl)) (fun k5 ⟨q4,M0,E4,Y1⟩=>?_)
 refine Aa<|Ar<|Ac<|Ae rfl<|Af rfl<|Aa<|Ak rfl ?_
 have W2:=Bq (α:=TInterest) M0 .hd Y1 hL
 have Q0:=BB M0 .hd
 have F4:=BC M0 .hd
 have X2:=BD (α:=TInterest) (v:=d0) (xs:=D3) Q0 L W2
 refine AP hb0 Tryz.func12 rfl rfl ?_
 cases h
 exact ⟨Q0.ag,fun w9 hw9=>⟨d0,rfl,Q0.kd X2 hw9⟩⟩
 refine Ac<|Ab (FV.eqlN (i:=(a0.fF % (5:UInt8)).toNat) (j:=3) rfl rfl)<|Af rfl<|Aa<|AK rfl h (fun I1 h=>?_) (fun I1 h=>?_)
 refine Al<|Ae rfl<|Ae rfl ?_
 obtain ⟨d1,s3,h⟩:=bi h
 obtain ⟨B1,Y3,b1,y1,s4,Y2,C2⟩:=St.nth (α:=TInterest) c0 .hd k0 s3
 obtain ⟨D1,Z3,x2⟩:=St.nthOwn (α:=TInterest) c0 .hd y1
 obtain rfl:B1 = ⟨D1,0,none⟩:=by rw [x2] at b1; cases b1; rfl
 obtain rfl:=op_TInterest Y2
 refine Ab (Bk 3 0 rfl b1 rfl rfl y1)<|Be 0 rfl<|AS rfl (C2 0 _ rfl)<|Ab (FV.nilCheck rfl)<|Be 0 rfl ?_
 obtain ⟨b4,y2,Q4,t4,Z2,Y4,p2⟩:=St.nthAt (α:=TInterest) c0 .hd k0 y0 x0
 obtain rfl:=op_TInterest Z2
 obtain ⟨E3,y3,h⟩:=bi h
 refine RG.acts' .plain (Acts.setPart (α:=TInterest) (i:=z0.toNat) (tot:=0) (ds:=[.string b0.fp,vI b0.fw,vU b0.fm]) (news:=[.string d1.fp]) (full:=[.string d1.fp,vI b0.fw,vU b0.fm]) y3 c0 y2 (fun _=>.hd) k0 p2 rfl (by kernel_rfl) rfl rfl rfl rfl (mk_TInterest d1.fp b0.fw b0.fm) (by kernel_rfl) (o1 rfl)) (fun p5 ⟨u4,R0,H4,Z1⟩=>?_)
 refine Aa<|Ar<|Ac<|Ae rfl<|Af rfl<|Aa<|Ak rfl ?_
 have b3:=Bq (α:=TInterest) R0 .hd Z1 hL
 have U0:=BB R0 .hd
 have I4:=BC R0 .hd
 have c3:=BD (α:=TInterest) (v:=d0) (xs:=E3) U0 L b3
 refine AP hb0 Tryz.func12 rfl rfl ?_
 cases h
 exact ⟨U0.ag,fun w9 hw9=>⟨d0,rfl,U0.kd c3 hw9⟩⟩
 refine Ao<|Ar<|Ac<|Ae rfl<|Af rfl<|Aa<|Ak rfl ?_
 have d3:=Bq (α:=TInterest) c0 .hd k0 hL
 have V0:=BB c0 .hd
 have J4:=BC c0 .hd
 have g3:=BD (α:=TInterest) (v:=d0) (xs:=j0) V0 L d3
 refine AP hb0 Tryz.func12 rfl rfl ?_
 cases h
 exact ⟨V0.ag,fun w9 hw9=>⟨d0,rfl,V0.kd g3 hw9⟩⟩
 intro I3 g1 h
 try dsimp only at h
 refine AK rfl h (fun J1 h=>?_) (fun J1 h=>?_)
 refine Ac<|Af rfl<|Aa<|Aq ?_
 obtain ⟨c5,F2,z2⟩:=bind_in2 h
 refine Bg (α:=Nat × (List TInterest) × Value × (List Value)) (fun ⟨g0,s0,u0,t0⟩=>[(2,vP p0),(5,u0),(6,vI ((g0:Nat):Int))]) (fun ⟨g0,s0,u0,t0⟩ D0=>St w D0 [.row w.heap.size 65 (Rep.size TInterest) u0 s0.length t0,.cells p0 [.int .u8 (a0.fF.toNat:Int),.int .u8 (a0.fAt.toNat:Int),vI a0.fN,.string a0.fp] 26]∧Tr z1 [.row w.heap.size 65 (Rep.size TInterest) B0 E0.length A0,.cells p0 [.int .u8 (a0.fF.toNat:Int),.int .u8 (a0.fAt.toNat:Int),vI a0.fN,.string a0.fp] 26] D0 [.row w.heap.size 65 (Rep.size TInterest) u0 s0.length t0,.cells p0 [.int .u8 (a0.fF.toNat:Int),.int .u8 (a0.fAt.toNat:Int),vI a0.fN,.string a0.fp] 26]∧Cells D0 (bl [.row w.heap.size 65 (Rep.size TInterest) u0 s0.length t0,.cells p0 [.int .u8 (a0.fF.toNat:Int),.int .u8 (a0.fAt.toNat:Int),vI a0.fN,.string a0.fp] 26] ++ L) t0 s0) (fun ⟨g0,s0,u0,t0⟩=>(g0,s0)) (0,E0,B0,A0) F2 ⟨rfl,rfl,rfl,trivial⟩ ⟨P0,AQ _ _,u1⟩ ?_
 rintro J3 ⟨g0,s0,u0,t0⟩ D0 P1 ⟨W0,k1,v1⟩ h
 unfold wardmoteref27_Bend_Of_l1 at h
 try dsimp only at h
 refine Ai<|Ac<|Ae rfl<|Be 1 rfl<|AS rfl ((W0.memA (.tl .hd)) 1 _ rfl)<|Ab (FV.rem8 (a:=a0.fAt) (b:=(22:UInt8)) rfl rfl (by decide)) ?_
 have b5:=(a0.fAt % (22:UInt8)).toNat_lt
 refine Ab (FV.convN (i:=(a0.fAt % (22:UInt8)).toNat) Tryz.underlying5 Tryz.underlying3 rfl (by omega))<|Ab (AZ (i:=g0) (j:=(a0.fAt % (22:UInt8)).toNat) rfl rfl)<|Aa<|AK rfl h (fun K1 h=>?_) (fun K1 h=>?_)
 refine Ao<|Ai<|Aq<|Al<|Ae rfl<|Ae rfl<|Ab (Bj (i:=97) (j:=g0) rfl rfl (by omega))<|Ab (FV.convU8 (i:=((97 + g0:Nat):Int)) Tryz.underlying3 Tryz.underlying5 rfl)<|Am .plain rfl (Bd (α:=UInt8) (xs:=([u8ofI ((97 + g0:Nat):Int)]:List UInt8)) (vs:=[.int .u8 ((u8ofI ((97 + g0:Nat):Int)).toNat:Int)]) (ds' :=[.int .u8 ((u8ofI ((97 + g0:Nat):Int)).toNat:Int)]) rfl W0 el46 rfl (e1 rfl) (by kernel_rfl) rfl) (fun q5 K3 X0 p1=>?_)
 have b2:=AO (cs:=[.int .u8 ((u8ofI ((97 + g0:Nat):Int)).toNat:Int)]) (xs:=(([u8ofI ((97 + g0:Nat):Int)]:List UInt8):List UInt8)) X0 L (Ax (cs:=[.int .u8 ((u8ofI ((97 + g0:Nat):Int)).toNat:Int)]) (ds:=[]) rfl (AU _ _))
 refine Ab (FV.bytesS (xs:=([u8ofI ((97 + g0:Nat):Int)]:List UInt8)) Tryz.underlying46 Tryz.underlying9 Tryz.underlying5 rfl (Src.row (α:=UInt8) X0 .hd b2)) ?_
 obtain ⟨q0,p3,h⟩:=bi h
 refine Ab (FV.addS p3 rfl rfl)<|Ab (AN (vs:=[.string q0,vW 1]) (u:=.agg #[.string q0,vI 0,vW 1]) (e2 rfl rfl) (fun w9=>by kernel_rfl))<|Am .plain rfl (Bd (α:=TInterest) (xs:=([(⟨q0,(0:Int),(1:UInt64)⟩:TInterest)]:List TInterest)) (vs:=[.agg #[.string q0,vI 0,vW 1]]) (ds' :=[.string q0,vI 0,vW 1]) rfl X0 el30 rfl (e1 rfl) (by kernel_rfl) rfl) (fun s5 M3 Y0 q1=>?_)
 have c2:=AO (cs:=[.string q0,vI 0,vW 1]) (xs:=(([(⟨q0,(0:Int),(1:UInt64)⟩:TInterest)]:List TInterest):List TInterest)) Y0 L (Ax (cs:=[.string q0,vI 0,vW 1]) (ds:=[]) (mk_TInterest q0 (0:Int) (1:UInt64)) (AU _ _))
 obtain ⟨F3,z3,h⟩:=bi h
 have D2:=Bc v1 (Tt p1 q1)
 refine RG.doesL .plain rfl (BE (α:=TInterest) (ys:=([(⟨q0,(0:Int),(1:UInt64)⟩:TInterest)]:List TInterest)) z3 Y0 (fun _ _=>(.tl (.tl .hd))) el30 rfl rfl D2 (Src.row (α:=TInterest) Y0 .hd c2)) (fun A3 t5 ⟨M1,Q1,U1,d2⟩=>?_)
 refine Af rfl<|Aa<|Ar<|Al<|Ae rfl<|Ab (Bj (i:=g0) (j:=1) rfl rfl (by omega))<|Af rfl<|Aa ?_
 obtain ⟨R1,s1⟩:=AH Q1 (.one (.tl (.tl .hd)) (.one (.tl (.tl .hd)) .done))
 have E2:=Bc d2 s1
 have G2:=Tt p1 (Tt q1 (Tt U1 s1))
 exact P1 (g0 + 1,F3,A3,M1) _ _ ⟨rfl,rfl,rfl,trivial⟩ ⟨R1,(Tt k1 G2),E2⟩ h
 refine AW rfl ?_
 have h:=z2 _ h
 try dsimp only at h
 exact g1 (s0,u0,t0) _ _ ⟨rfl,rfl,trivial⟩ ⟨W0,k1,v1⟩ h
 refine Ao ?_
 exact g1 (E0,B0,A0) _ _ ⟨rfl,rfl,trivial⟩ ⟨P0,AQ _ _,u1⟩ h
def wardmoteref27_named_l1 (_n:Nat) (a0:ByteArray) (c0:Int → Option (Bool ⊕ Unit)):Int → Option (Bool ⊕ Unit)
  | b0=>(if b0 < ((a0.size:Nat):Int) then (sidx a0 b0).bind fun g0=>(if g0.toNat < 32 then some (.inl false) else (sidx a0 b0).bind fun j0=>(if 126 < j0.toNat then some (.inl false) else (chk (b0 + 1)).bind fun d0=>c0 d0)) else some (.inr ()))
def wardmoteref27_named_p (n:Nat) (a0:ByteArray):Option Bool:=
  thn (loopF (wardmoteref27_named_l1 n a0) n 0) (fun _=>(if 1 ≤ a0.size then some (decide (a0.size ≤ 24)) else some false))
theorem wardmoteref27_named_c (n:Nat) (L:List Nat) (w:World) (_hL:∀ b ∈ L,b < w.heap.size) (a0:ByteArray)  {r:Bool} (h:wardmoteref27_named_p n a0 = some r) :
    Calls Tryz.prog 43 #[.string a0] w (Gives w fun _ u=>u = .bool r):=by
 unfold wardmoteref27_named_p at h
 have hS0:=Az w
 refine AC Tryz.func43 rfl rfl rfl (fun _ cs0 hb0=>?_)
 refine Ac<|Af rfl<|Aa<|Ai<|Ac<|Af rfl<|Aa<|Aq ?_
 obtain ⟨H0,x0,d0⟩:=thn_in h
 refine Bg (α:=Int) (fun b0=>[(0,.string a0),(3,vI b0)]) (fun b0 g0=>St w g0 []∧Tr w [] g0 []) (fun b0=>b0) 0 x0 ⟨rfl,rfl,trivial⟩ ⟨hS0,AQ _ _⟩ ?_
 rintro G0 b0 g0 s0 ⟨c0,t0⟩ h
 unfold wardmoteref27_named_l1 at h
 try dsimp only at h
 refine Ai<|Ac<|Ae rfl<|Ae rfl<|Ab (Bp Tryz.underlying9 rfl)<|Ab (FV.lss (i:=b0) (j:=((a0.size:Nat):Int)) rfl rfl)<|Aa<|AK rfl h (fun j0 h=>?_) (fun j0 h=>?_)
 refine Ao<|Ai<|Aq<|Ac<|Ae rfl<|Ae rfl ?_
 obtain ⟨E0,B0,h⟩:=bi h
 obtain ⟨u0,z0⟩:=sidx_in B0
 refine Ab (FV.strAt (k:=b0.toNat) Tryz.underlying9 rfl rfl u0 z0)<|Ab (AZ (i:=E0.toNat) (j:=32) rfl rfl)<|Ae rfl<|RG.ifd (s:=14) rfl h (fun k0 h=>?_) (fun k0 h=>?_)
 refine AA<|AA<|AA<|AA<|BF rfl rfl<|Aa<|AV rfl<|Ac<|Af rfl<|Aa ?_
 have h:=thn_inl h d0
 refine Ak rfl<|AP hb0 Tryz.func43 rfl rfl ?_
 cases h
 exact c0.gv
 refine AJ (Aj rfl)<|AJ (Aj rfl) ?_
 obtain ⟨F0,C0,h⟩:=bi h
 obtain ⟨v0,A0⟩:=sidx_in C0
 refine AJ (FV.strAt (k:=b0.toNat) Tryz.underlying9 rfl rfl v0 A0)<|AJ (FV.gtrN (i:=F0.toNat) (j:=126) rfl rfl)<|Bx rfl rfl<|Aa<|AK rfl h (fun p0 h=>?_) (fun p0 h=>?_)
 refine Ac<|Af rfl<|Aa ?_
 have h:=thn_inl h d0
 refine Ak rfl<|AP hb0 Tryz.func43 rfl rfl ?_
 cases h
 exact c0.gv
 refine Ao<|Ar<|Al<|Ae rfl ?_
 obtain ⟨D0,y0,h⟩:=bi h
 refine Ab (FV.addc (i:=b0) (j:=1) rfl rfl y0)<|Af rfl<|Aa ?_
 exact s0 D0 _ _ ⟨rfl,rfl,trivial⟩ ⟨c0,t0⟩ h
 refine AW rfl ?_
 have h:=thn_inr h d0
 try dsimp only at h
 refine Ac<|Ae rfl<|Ab (Bp Tryz.underlying9 rfl)<|Ab (FV.geqN (i:=a0.size) (j:=1) rfl rfl)<|Ae rfl<|RG.ifd (s:=23) rfl h (fun q0 h=>?_) (fun q0 h=>?_)
 refine AJ (Aj rfl)<|AJ (Bp Tryz.underlying9 rfl)<|AJ (FV.leqN (i:=a0.size) (j:=24) rfl rfl)<|BF rfl rfl<|Af rfl<|Aa<|Ak rfl<|AP hb0 Tryz.func43 rfl rfl ?_
 cases h
 exact c0.gv
 refine AA<|AA<|AA<|Bx rfl rfl<|Af rfl<|Aa<|Ak rfl<|AP hb0 Tryz.func43 rfl rfl ?_
 cases h
 exact c0.gv
def wardmoteref27_has_p (_n:Nat) (a0:UInt64) (a1:Int):Option Bool:=
  (natOf a1).bind fun k1=>some (decide (((shrU a0 k1) % (2:UInt64)) = (1:UInt64)))
theorem wardmoteref27_has_c (n:Nat) (L:List Nat) (w:World) (_hL:∀ b ∈ L,b < w.heap.size) (a0:UInt64) (a1:Int)  {r:Bool} (h:wardmoteref27_has_p n a0 a1 = some r) :
    Calls Tryz.prog 44 #[vU a0,vI a1] w (Gives w fun _ u=>u = .bool r):=by
 unfold wardmoteref27_has_p at h
 have hS0:=Az w
 refine AC Tryz.func44 rfl rfl rfl (fun _ cs0 hb0=>?_)
 refine Ac<|Af rfl<|Aa<|Ac<|Ae rfl<|Ae rfl ?_
 obtain ⟨k1,hk1,h⟩:=bi h
 refine Ab (FV.shrI (a:=a0) (i:=a1) rfl rfl hk1)<|Ab (FV.remU (a:=shrU a0 k1) (b:=(2:UInt64)) rfl rfl (by decide))<|Ab (FV.eqlU (a:=(shrU a0 k1) % (2:UInt64)) (b:=(1:UInt64)) rfl rfl)<|Af rfl<|Aa<|Ak rfl<|AP hb0 Tryz.func44 rfl rfl ?_
 cases h
 exact hS0.gv
def tb14_18:List (Nat × Nat × Nat):=[(0,2361183241434822606848,2),(0,4722366482869645213696,128),(3,9444732965739290427392,7083549724304467820544),(4,18889465931478580854784,9444732965739290427392),(8,37778931862957161709568,18889465931478580854784),(0,75557863725914323419136,2),(0,151115727451828646838272,32),(96,302231454903657293676544,226673591177742970257408),(128,604462909807314587353088,302231454903657293676544),(256,1208925819614629174706176,604462909807314587353088),(528,2417851639229258349412352,1246704751477586336415744)]
theorem body43:bodyB Tryz.prog 43 = true:=by kernel_rfl
theorem body44:bodyB Tryz.prog 44 = true:=by kernel_rfl
def wardmoteref27_Check_l1 (_n:Nat) (d0:Nat) (a1:List TInterest) (g0:TInterest) (c0:Nat → Option ((Int ⊕ Unit) ⊕ Unit)):Nat → Option ((Int ⊕ Unit) ⊕ Unit)
  | b0=>(if b0 < d0 then (a1[b0]?).bind fun j0=>(if j0.fp = g0.fp then some (.inl (.inl (270:Int))) else c0 (b0 + 1)) else some (.inr ()))
def wardmoteref27_Check_l2 (n:Nat) (g0:TInterest) (c0:Int → Option ((Int ⊕ Unit) ⊕ Unit)):Int → Option ((Int ⊕ Unit) ⊕ Unit)
  | b0=>(if b0 < 64 then (wardmoteref27_has_p n g0.fm b0).bind fun j0=>(if j0 = true then some (.inl (.inl (270:Int))) else (chk (b0 + 1)).bind fun d0=>c0 d0) else some (.inr ()))
def wardmoteref27_Check_l3 (n:Nat) (a1:List TInterest) (a0:Int) (d0:Nat → Option (Int ⊕ Unit)):Nat → Option (Int ⊕ Unit)
  | c0=>(if c0 < a1.length then (a1[c0]?).bind fun b0=>(wardmoteref27_named_p n b0.fp).bind fun g0=>(if g0 = true then (if b0.fw < 0 then some (.inl (270:Int)) else (if 1000 < b0.fw then some (.inl (270:Int)) else (if b0.fm = (0:UInt64) then some (.inl (270:Int)) else thn (loopF (wardmoteref27_Check_l2 n b0) n a0) (fun _=>thn (loopF (wardmoteref27_Check_l1 n c0 a1 b0) n 0) (fun _=>d0 (c0 + 1)))))) else some (.inl (270:Int))) else some (.inr ()))
def wardmoteref27_Check_p (n:Nat) (a0:Int) (a1:List TInterest):Option Int:=
  (if a0 < 1 then some (2:Int) else (if 64 < a0 then some (2:Int) else (if 20 < a1.length then some (3:Int) else thn (loopF (wardmoteref27_Check_l3 n a1 a0) n 0) (fun _=>some (0:Int)))))
theorem wardmoteref27_Check_c (n:Nat) (L:List Nat) (w:World) (hL:∀ b ∈ L,b < w.heap.size) (a0:Int) (a1:List TInterest) {v1_0:Value} (h1_0:Rep.R w L [v1_0] a1)  {r:Int} (h:wardmoteref27_Check_p n a0 a1 = some r) :
    Calls Tryz.prog 14 #[vI a0,v1_0] w (Gives w fun _ u=>u = vI r):=by
 unfold wardmoteref27_Check_p at h
 have hS0:=Az w
 refine AC Tryz.func14 rfl rfl rfl (fun _ cs0 hb0=>?_)
 refine Ac<|Af rfl<|Aa<|Ai<|Ac<|Ae rfl<|Ab (FV.lss (i:=a0) (j:=1) rfl rfl)<|Ae rfl<|RG.ifd (s:=10) rfl h (fun c1 h=>?_) (fun c1 h=>?_)
 refine AA<|AA<|BF rfl rfl<|Aa<|AV rfl<|Ac<|Af rfl<|Aa<|Ak rfl<|AP hb0 Tryz.func14 rfl rfl ?_
 cases h
 exact hS0.gv
 refine AJ (Aj rfl)<|AJ (FV.gtr (i:=a0) (j:=64) rfl rfl)<|Bx rfl rfl<|Aa<|AK rfl h (fun c2 h=>?_) (fun c2 h=>?_)
 refine Ac<|Af rfl<|Aa<|Ak rfl<|AP hb0 Tryz.func14 rfl rfl ?_
 cases h
 exact hS0.gv
 refine Ao<|Ai<|Ac<|Ae rfl ?_
 have hl3:a1.length ≤ 281474976710656:=AT h1_0
 refine Ab (AY (xs:=a1) Tryz.underlying30 rfl h1_0)<|Ab (FV.gtrN (i:=a1.length) (j:=20) rfl rfl)<|Aa<|AK rfl h (fun c4 h=>?_) (fun c4 h=>?_)
 refine Ac<|Af rfl<|Aa<|Ak rfl<|AP hb0 Tryz.func14 rfl rfl ?_
 cases h
 exact hS0.gv
 refine Ao<|Ai<|Ac<|Af rfl<|Aa<|Aq ?_
 obtain ⟨p2,x1,p0⟩:=thn_in h
 refine Bg (α:=Nat) (fun b0=>[(0,vI a0),(1,v1_0),(5,vI ((b0:Nat):Int))]) (fun b0 y0=>St w y0 []∧Tr w [] y0 []) (fun b0=>b0) 0 x1 ⟨rfl,rfl,rfl,trivial⟩ ⟨hS0,AQ _ _⟩ ?_
 rintro U1 b0 y0 W0 ⟨j0,Z0⟩ h
 unfold wardmoteref27_Check_l3 at h
 try dsimp only at h
 refine Ai<|Ac<|Ae rfl<|Ae rfl ?_
 have G0:=AE h1_0 j0
 refine Ab (AY (xs:=a1) Tryz.underlying30 rfl G0)<|Ab (AZ (i:=b0) (j:=a1.length) rfl rfl)<|Aa<|AK rfl h (fun I0 h=>?_) (fun I0 h=>?_)
 refine Ao<|Ai<|Aq<|Ai<|Ac<|Ae rfl<|Ae rfl ?_
 obtain ⟨s0,A0,h⟩:=bi h
 obtain ⟨M1,X1,u0,v0,d2,A1,x0⟩:=Bi G0 A0
 obtain rfl:=op_TInterest A1
 refine Ab (Bk 3 b0 rfl u0 rfl rfl v0)<|Be 0 rfl<|AS rfl (x0 0 _ rfl) ?_
 obtain ⟨J1,G1,h⟩:=bi h
 refine Bb (.bool J1) body43 rfl (e1 rfl) (fun w9 hw9=>wardmoteref27_named_c n _ w9 (j0.hL0 hL hw9) s0.fp G1) rfl<|Ab (By rfl)<|Ae rfl<|RG.ifnb (s:=30) rfl h (fun J0 h=>?_) (fun J0 h=>?_)
 refine AJ (Aj rfl)<|AJ (Aj rfl)<|AJ (Bk 3 b0 rfl u0 rfl rfl v0)<|RG.fg 1 rfl<|AJ (AG rfl (x0 1 _ rfl))<|AJ (FV.lss (i:=s0.fw) (j:=0) rfl rfl)<|Bx rfl rfl<|Ae rfl<|RG.ifd (s:=38) rfl h (fun K0 h=>?_) (fun K0 h=>?_)
 refine AA<|AA<|AA<|AA<|AA<|AA<|BF rfl rfl<|Ae rfl<|AA<|AA<|AA<|AA<|AA<|AA<|BF rfl rfl<|Aa<|AV rfl<|Ac<|Af rfl<|Aa ?_
 have h:=thn_inl h p0
 refine Ak rfl<|AP hb0 Tryz.func14 rfl rfl ?_
 cases h
 exact j0.gv
 refine AJ (Aj rfl)<|AJ (Aj rfl)<|AJ (Bk 3 b0 rfl u0 rfl rfl v0)<|RG.fg 1 rfl<|AJ (AG rfl (x0 1 _ rfl))<|AJ (FV.gtr (i:=s0.fw) (j:=1000) rfl rfl)<|Bx rfl rfl<|Ae rfl<|RG.ifd (s:=46) rfl h (fun M0 h=>?_) (fun M0 h=>?_)
 refine AA<|AA<|AA<|AA<|AA<|AA<|BF rfl rfl<|Aa<|AV rfl<|Ac<|Af rfl<|Aa ?_
 have h:=thn_inl h p0
 refine Ak rfl<|AP hb0 Tryz.func14 rfl rfl ?_
 cases h
 exact j0.gv
 refine AJ (Aj rfl)<|AJ (Aj rfl)<|AJ (Bk 3 b0 rfl u0 rfl rfl v0)<|RG.fg 2 rfl<|AJ (AG rfl (x0 2 _ rfl))<|AJ (FV.eqlU (a:=s0.fm) (b:=(0:UInt64)) rfl rfl)<|Bx rfl rfl<|Aa<|AK rfl h (fun P0 h=>?_) (fun P0 h=>?_)
 refine Ac<|Af rfl<|Aa ?_
 have h:=thn_inl h p0
 refine Ak rfl<|AP hb0 Tryz.func14 rfl rfl ?_
 cases h
 exact j0.gv
 refine Ao<|Ai<|Ac<|Ae rfl<|Af rfl<|Aa<|Aq ?_
 obtain ⟨q2,y1,E0⟩:=thn_in h
 refine Bg (α:=Int) (fun k0=>[(0,vI a0),(1,v1_0),(5,vI ((b0:Nat):Int)),(6,vI k0)]) (fun k0 z0=>St w z0 []∧Tr y0 [] z0 []) (fun k0=>k0) a0 y1 ⟨rfl,rfl,rfl,rfl,trivial⟩ ⟨j0,AQ _ _⟩ ?_
 rintro V1 k0 z0 X0 ⟨q0,C0⟩ h
 unfold wardmoteref27_Check_l2 at h
 try dsimp only at h
 refine Ai<|Ac<|Ae rfl<|Ab (FV.lss (i:=k0) (j:=64) rfl rfl)<|Aa<|AK rfl h (fun Q0 h=>?_) (fun Q0 h=>?_)
 refine Ao<|Ai<|Aq<|Ac<|Ae rfl<|Ae rfl ?_
 have s1:=AE h1_0 q0
 obtain ⟨P1,Y1,b1,j1,g2,B1,q1⟩:=Bi s1 A0
 obtain rfl:=op_TInterest B1
 refine Ab (Bk 3 b0 rfl b1 rfl rfl j1)<|Be 2 rfl<|AS rfl (q1 2 _ rfl)<|Ae rfl ?_
 obtain ⟨K1,H1,h⟩:=bi h
 refine Bb (.bool K1) body44 rfl (e2 rfl rfl) (fun w9 hw9=>wardmoteref27_has_c n _ w9 (q0.hL0 hL hw9) s0.fm k0 H1) rfl<|Aa<|MX.ifb rfl h (fun R0 h=>?_) (fun R0 h=>?_)
 refine Ac<|Af rfl<|Aa ?_
 have h:=thn_inl h E0
 have h:=thn_inl h p0
 refine Ak rfl<|AP hb0 Tryz.func14 rfl rfl ?_
 cases h
 exact q0.gv
 refine Ao<|Ar<|Al<|Ae rfl ?_
 obtain ⟨I1,E1,h⟩:=bi h
 refine Ab (FV.addc (i:=k0) (j:=1) rfl rfl E1)<|Af rfl<|Aa ?_
 exact X0 I1 _ _ ⟨rfl,rfl,rfl,rfl,trivial⟩ ⟨q0,C0⟩ h
 refine AW rfl ?_
 have h:=thn_inr h E0
 try dsimp only at h
 refine Ac<|Af rfl<|Aa<|Aq ?_
 obtain ⟨s2,z1,F0⟩:=thn_in h
 refine Bg (α:=Nat) (fun g0=>[(0,vI a0),(1,v1_0),(5,vI ((b0:Nat):Int)),(7,vI ((g0:Nat):Int))]) (fun g0 B0=>St w B0 []∧Tr z0 [] B0 []) (fun g0=>g0) 0 z1 ⟨rfl,rfl,rfl,rfl,trivial⟩ ⟨q0,AQ _ _⟩ ?_
 rintro W1 g0 B0 Y0 ⟨t0,D0⟩ h
 unfold wardmoteref27_Check_l1 at h
 try dsimp only at h
 refine Ai<|Ac<|Ae rfl<|Ae rfl<|Ab (AZ (i:=g0) (j:=b0) rfl rfl)<|Aa<|AK rfl h (fun U0 h=>?_) (fun U0 h=>?_)
 refine Ao<|Ai<|Aq<|Ai<|dt 11 tb14_18 (fun c0 d0=>?_)
 refine Ah 0 1 c0 rfl d0 (fun _=>Aj rfl) rfl<|Ah 1 3 c0 rfl d0 (fun _=>Aj rfl) rfl ?_
 obtain ⟨t2,F1,h⟩:=bi h
 have H0:=AE h1_0 t0
 obtain ⟨Q1,Z1,d1,k1,j2,C1,u1⟩:=Bi H0 F1
 obtain rfl:=op_TInterest C1
 refine Ah 2 7 c0 rfl d0 (fun _=>Bk 3 g0 rfl d1 rfl rfl k1) rfl<|Ah 3 15 c0 rfl d0 (fun _=>Bl 0 rfl) rfl<|AF 4 31 1024 c0 rfl d0 (AG rfl (u1 0 _ rfl)) rfl<|Ah 5 63 c0 rfl d0 (fun _=>Aj rfl) rfl<|Ah 6 127 c0 rfl d0 (fun _=>Aj rfl) rfl ?_
 obtain ⟨R1,b2,g1,p1,k2,D1,v1⟩:=Bi H0 A0
 obtain rfl:=op_TInterest D1
 refine Ah 7 255 c0 rfl d0 (fun _=>Bk 3 b0 rfl g1 rfl rfl p1) rfl<|Ah 8 511 c0 rfl d0 (fun _=>Bl 0 rfl) rfl<|AF 9 1023 1024 c0 rfl d0 (AG rfl (v1 0 _ rfl)) rfl<|Ah 10 2047 c0 rfl d0 (fun _=>FV.eqlS rfl rfl) rfl<|AM (dk c0)<|AK rfl h (fun V0 h=>?_) (fun V0 h=>?_)
 refine Ac<|Af rfl<|Aa ?_
 have h:=thn_inl h F0
 have h:=thn_inl h p0
 refine Ak rfl<|AP hb0 Tryz.func14 rfl rfl ?_
 cases h
 exact t0.gv
 refine Ao<|Ar<|Al<|Ae rfl<|Ab (Bj (i:=g0) (j:=1) rfl rfl (by omega))<|Af rfl<|Aa ?_
 exact Y0 (g0 + 1) _ _ ⟨rfl,rfl,rfl,rfl,trivial⟩ ⟨t0,D0⟩ h
 refine AW rfl ?_
 have h:=thn_inr h F0
 try dsimp only at h
 refine Ar<|Al<|Ae rfl<|Ab (Bj (i:=b0) (j:=1) rfl rfl (by omega))<|Af rfl<|Aa ?_
 exact W0 (b0 + 1) _ _ ⟨rfl,rfl,rfl,trivial⟩ ⟨t0,(Tt Z0 (Tt C0 D0))⟩ h
 refine AA<|AA<|AA<|AA<|AA<|AA<|BF rfl rfl<|Ae rfl<|AA<|AA<|AA<|AA<|AA<|AA<|BF rfl rfl<|Ae rfl<|AA<|AA<|AA<|AA<|AA<|AA<|BF rfl rfl<|Aa ?_
 refine AV rfl<|Ac<|Af rfl<|Aa ?_
 have h:=thn_inl h p0
 refine Ak rfl<|AP hb0 Tryz.func14 rfl rfl ?_
 cases h
 exact j0.gv
 refine AW rfl ?_
 have h:=thn_inr h p0
 try dsimp only at h
 refine Ac<|Af rfl<|Aa<|Ak rfl<|AP hb0 Tryz.func14 rfl rfl ?_
 cases h
 exact j0.gv
def wardmoteref01_cut_l1 (_n:Nat) (a0:List Int) (c0:Int → Option Int):Int → Option Int
  | b0=>(if 0 < b0 then (chk (b0 - 1)).bind fun d0=>(idx a0 d0).bind fun j0=>(if j0 = 0 then (chk (b0 - 1)).bind fun g0=>c0 g0 else some b0) else some b0)
def wardmoteref01_cut_p (n:Nat) (a0:List Int):Option (List Int):=
  jn (fun d0=>(cut a0 0 d0).bind fun c0=>some c0) (fun b0=>Option.bind (loopF (wardmoteref01_cut_l1 n a0) n ((a0.length:Nat):Int)) (b0))
theorem wardmoteref01_cut_c (n:Nat) (L:List Nat) (w:World) (_hL:∀ b ∈ L,b < w.heap.size) (a0:List Int) {v0_0:Value} (h0_0:Rep.R w L [v0_0] a0)  {r:List Int} (h:wardmoteref01_cut_p n a0 = some r) :
    Calls Tryz.prog 181 #[v0_0] w (Gives w fun w' u=>∃ v0_0:Value,u = v0_0∧Rep.R w' L [v0_0] r):=by
 unfold wardmoteref01_cut_p at h
 have hS0:=Az w
 refine AC Tryz.func181 rfl rfl rfl (fun _ cs0 hb0=>?_)
 refine Ac<|Af rfl<|Aa<|Ac<|Ae rfl ?_
 have hl1:a0.length ≤ 281474976710656:=AT h0_0
 refine Ab (AY (xs:=a0) Tryz.underlying52 rfl h0_0)<|Af rfl<|Aa<|Ai<|Aq<|MX.joinx (α:=Int) (fun c0=>[(0,v0_0),(3,vI c0)]) (fun c0 k0=>St w k0 []∧Tr w [] k0 []) (fun c0=>c0) (id:=0) rfl h ?_ ?_
 rintro c0 k0 ⟨g0,b1⟩ h
 try dsimp only at h
 refine Ac<|Ae rfl<|Ae rfl ?_
 obtain ⟨d1,Q0,h⟩:=bi h
 have D0:=AE h0_0 g0
 refine RG.valE .plain rfl (FV.cutL (α:=Int) Q0 (by kernel_rfl) rfl D0 rfl ⟨_,rfl⟩) (fun V0 H0=>?_)
 refine Af rfl<|Aa<|Ak rfl<|AP hb0 Tryz.func181 rfl rfl ?_
 cases h
 exact ⟨g0.ag,fun w9 hw9=>⟨V0,rfl,g0.kd H0 hw9⟩⟩
 intro X0 q0 h
 try dsimp only at h
 obtain ⟨c1,G0,s0⟩:=bind_in2 h
 refine Bg (α:=Int) (fun b0=>[(0,v0_0),(3,vI b0)]) (fun b0 p0=>St w p0 []∧Tr w [] p0 []) (fun b0=>b0) ((a0.length:Nat):Int) G0 ⟨rfl,rfl,trivial⟩ ⟨hS0,AQ _ _⟩ ?_
 rintro Y0 b0 p0 y0 ⟨d0,j0⟩ h
 unfold wardmoteref01_cut_l1 at h
 try dsimp only at h
 refine Ai<|Ac<|Ae rfl<|Ab (FV.gtr (i:=b0) (j:=0) rfl rfl)<|Ae rfl<|RG.ifd (s:=8) rfl h (fun u0 h=>?_) (fun u0 h=>?_)
 refine AJ (Aj rfl)<|AJ (Aj rfl) ?_
 obtain ⟨R0,J0,h⟩:=bi h
 refine AJ (FV.subc (i:=b0) (j:=1) rfl rfl J0) ?_
 obtain ⟨t0,M0,h⟩:=bi h
 obtain ⟨B0,P0⟩:=idx_in M0
 have F0:=AE h0_0 d0
 obtain ⟨W0,Z0,z0,C0,x0,I0,E0⟩:=Bi F0 P0
 have A0:x0 = [vI t0]:=I0; subst A0
 refine AJ (Bk 1 (R0.toNat) rfl z0 rfl B0 C0)<|AJ (AG rfl (E0 0 _ rfl))<|AJ (FV.eql (i:=t0) (j:=0) rfl rfl)<|BF rfl rfl<|Aa<|AK rfl h (fun v0 h=>?_) (fun v0 h=>?_)
 refine Ao<|Aq<|Al<|Ae rfl ?_
 obtain ⟨U0,K0,h⟩:=bi h
 refine Ab (FV.subc (i:=b0) (j:=1) rfl rfl K0)<|Af rfl<|Aa<|Ar ?_
 exact y0 U0 _ _ ⟨rfl,rfl,trivial⟩ ⟨d0,j0⟩ h
 refine AW rfl ?_
 have h:=s0 _ h
 try dsimp only at h
 exact q0 b0 _ _ ⟨rfl,rfl,trivial⟩ ⟨d0,j0⟩ h
 refine AA<|AA<|AA<|AA<|AA<|AA<|Bx rfl rfl<|Aa<|Bm rfl<|AW rfl ?_
 have h:=s0 _ h
 try dsimp only at h
 exact q0 b0 _ _ ⟨rfl,rfl,trivial⟩ ⟨d0,j0⟩ h
theorem el52:ElT Tryz.prog 52 3 (Rep.size Int) 8 (vI 0) [vI 0]:=⟨Tryz.underlying52,by kernel_rfl,rfl,rfl,rfl,rfl⟩
theorem body181:bodyB Tryz.prog 181 = true:=by kernel_rfl
def wardmoteref01_less_l1 (_n:Nat) (a0:List Int) (a1:List Int) (p0:Nat × Nat × (List Int) → Option (List Int)):Nat × Nat × (List Int) → Option (List Int)
  | (q0,b0,k0)=>(if b0 < a0.length then (a0[b0]?).bind fun v0=>(chk (v0 - ((q0:Nat):Int))).bind fun j0=>jn (fun c0=>jn (fun (s0,z0)=>(app k0 ([z0]:List Int)).bind fun y0=>p0 (s0,b0 + 1,y0)) (fun g0=>(if c0 < 0 then (chk (c0 + 4294967296)).bind fun t0=>g0 (1,t0) else g0 (0,c0)))) (fun d0=>(if b0 < a1.length then (a1[b0]?).bind fun x0=>(chk (j0 - x0)).bind fun u0=>d0 u0 else d0 j0)) else some k0)
def wardmoteref01_less_p (n:Nat) (a0:List Int) (a1:List Int):Option (List Int):=
  Option.bind (loopF (wardmoteref01_less_l1 n a0 a1) n (0,0,([]:List Int))) (fun b0=>(wardmoteref01_cut_p n b0).bind fun c0=>some c0)
theorem wardmoteref01_less_c (n:Nat) (L:List Nat) (w:World) (hL:∀ b ∈ L,b < w.heap.size) (a0:List Int) {v0_0:Value} (h0_0:Rep.R w L [v0_0] a0) (a1:List Int) {v1_0:Value} (h1_0:Rep.R w L [v1_0] a1)  {r:List Int} (h:wardmoteref01_less_p n a0 a1 = some r) :
    Calls Tryz.prog 180 #[v0_0,v1_0] w (Gives w fun w' u=>∃ v0_0:Value,u = v0_0∧Rep.R w' L [v0_0] r):=by
 unfold wardmoteref01_less_p at h
 have hS0:=Az w
 refine AC Tryz.func180 rfl rfl rfl (fun _ cs0 hb0=>?_)
 refine Ac<|Af rfl<|Aa<|Ac<|Af rfl<|Aa<|Ac<|Af rfl<|Aa<|Ai<|Ac<|Af rfl<|Aa<|Aq ?_
 have D0:=hS0.nilRow 3 (Rep.size Int)
 have y2:=St.nilRowT hS0 3 (Rep.size Int)
 have q1:=AO (cs:=[]) (xs:=([]:List Int)) D0 L (AU _ _)
 obtain ⟨D2,H1,A1⟩:=bind_in2 h
 refine Bg (α:=Nat × Nat × (List Int) × Value × (List Value)) (fun ⟨q0,g0,c0,b0,d0⟩=>[(0,v0_0),(1,v1_0),(5,b0),(6,vI ((q0:Nat):Int)),(7,vI ((g0:Nat):Int))]) (fun ⟨q0,g0,c0,b0,d0⟩ t0=>St w t0 [.row w.heap.size 3 (Rep.size Int) b0 c0.length d0]∧Tr w [.row w.heap.size 3 (Rep.size Int) vN (([]:List Int).length) []] t0 [.row w.heap.size 3 (Rep.size Int) b0 c0.length d0]∧Cells t0 (bl [.row w.heap.size 3 (Rep.size Int) b0 c0.length d0] ++ L) d0 c0) (fun ⟨q0,g0,c0,b0,d0⟩=>(q0,g0,c0)) (0,0,([]:List Int),vN,[]) H1 ⟨rfl,rfl,rfl,rfl,rfl,trivial⟩ ⟨D0,AQ _ _,q1⟩ ?_
 rintro q2 ⟨q0,g0,c0,b0,d0⟩ t0 X0 ⟨p0,c1,H0⟩ h
 unfold wardmoteref01_less_l1 at h
 try dsimp only at h
 refine Ai<|Ac<|Ae rfl<|Ae rfl ?_
 have y0:=AE h0_0 p0
 have B2:a0.length ≤ 281474976710656:=AT y0
 refine Ab (AY (xs:=a0) Tryz.underlying52 rfl y0)<|Ab (AZ (i:=g0) (j:=a0.length) rfl rfl)<|Aa<|AK rfl h (fun P0 h=>?_) (fun P0 h=>?_)
 refine Ao<|Ai<|Aq<|Ac<|Ae rfl<|Ae rfl ?_
 obtain ⟨K0,W1,h⟩:=bi h
 obtain ⟨k2,v2,v1,B1,U0,J1,D1⟩:=Bi y0 W1
 have x1:U0 = [vI K0]:=J1; subst x1
 refine Ab (Bk 1 g0 rfl v1 rfl rfl B1)<|AS rfl (D1 0 _ rfl)<|Ae rfl ?_
 obtain ⟨J0,R1,h⟩:=bi h
 refine Ab (FV.subc (i:=K0) (j:=((q0:Nat):Int)) rfl rfl R1)<|Af rfl<|Aa<|Ai<|Ac<|Ae rfl<|Ae rfl ?_
 have z0:=AE h1_0 p0
 have C2:a1.length ≤ 281474976710656:=AT z0
 refine Ab (AY (xs:=a1) Tryz.underlying52 rfl z0)<|Ab (AZ (i:=g0) (j:=a1.length) rfl rfl)<|Aa<|MX.join (α:=Int) (fun k0=>[(0,v0_0),(1,v1_0),(5,b0),(6,vI ((q0:Nat):Int)),(7,vI ((g0:Nat):Int)),(8,vI k0)]) (fun k0 u0=>St w u0 [.row w.heap.size 3 (Rep.size Int) b0 c0.length d0]∧Tr t0 [.row w.heap.size 3 (Rep.size Int) b0 c0.length d0] u0 [.row w.heap.size 3 (Rep.size Int) b0 c0.length d0]) (fun k0=>k0) h ?_ ?_
 rintro k0 u0 ⟨E0,d1⟩ h
 try dsimp only at h
 refine Ac<|Af rfl<|Aa<|Ai<|Ac<|Ae rfl<|Ab (FV.lss (i:=k0) (j:=0) rfl rfl)<|Aa<|MX.join (α:=Nat × Int) (fun ⟨s0,j0⟩=>[(0,v0_0),(1,v1_0),(5,b0),(6,vI ((s0:Nat):Int)),(7,vI ((g0:Nat):Int)),(8,vI j0)]) (fun ⟨s0,j0⟩ A0=>St w A0 [.row w.heap.size 3 (Rep.size Int) b0 c0.length d0]∧Tr u0 [.row w.heap.size 3 (Rep.size Int) b0 c0.length d0] A0 [.row w.heap.size 3 (Rep.size Int) b0 c0.length d0]) (fun ⟨s0,j0⟩=>(s0,j0)) h ?_ ?_
 rintro ⟨s0,j0⟩ A0 ⟨Y0,g1⟩ h
 try dsimp only at h
 refine Al<|Ae rfl<|Ae rfl<|Am .plain rfl (Bd (α:=Int) (xs:=([j0]:List Int)) (vs:=[vI j0]) (ds' :=[vI j0]) rfl Y0 el52 rfl (e1 rfl) (by kernel_rfl) rfl) (fun F2 u2 v0 j1=>?_)
 have s1:=AO (cs:=[vI j0]) (xs:=(([j0]:List Int):List Int)) v0 L (Ax (cs:=[vI j0]) (ds:=[]) rfl (AU _ _))
 obtain ⟨j2,Y1,h⟩:=bi h
 have I0:=Tt d1 (Tt g1 j1)
 have E1:=Bc H0 I0
 refine RG.doesL .plain rfl (BE (α:=Int) (ys:=([j0]:List Int)) Y1 v0 (fun _ _=>(.tl .hd)) el52 rfl rfl E1 (Src.row (α:=Int) v0 .hd s1)) (fun d2 G2 ⟨V0,Z0,k1,u1⟩=>?_)
 refine Af rfl<|Aa<|Ar<|Al<|Ae rfl<|Ab (Bj (i:=g0) (j:=1) rfl rfl (by omega))<|Af rfl<|Aa ?_
 obtain ⟨b1,G0⟩:=AH Z0 (.one (.tl .hd) .done)
 have F1:=Bc u1 G0
 have I1:=Tt I0 (Tt k1 G0)
 exact X0 (s0,g0 + 1,j2,d2,V0) _ _ ⟨rfl,rfl,rfl,rfl,rfl,trivial⟩ ⟨b1,(Tt c1 I1),F1⟩ h
 intro t2 C0 h
 try dsimp only at h
 refine AK rfl h (fun Q0 h=>?_) (fun Q0 h=>?_)
 refine Ac<|Ae rfl ?_
 obtain ⟨b2,U1,h⟩:=bi h
 refine Ab (FV.addc (i:=k0) (j:=4294967296) rfl rfl U1)<|Af rfl<|Aa<|Al<|Af rfl<|Aa ?_
 exact C0 (1,b2) _ _ ⟨rfl,rfl,rfl,rfl,rfl,rfl,trivial⟩ ⟨E0,AQ _ _⟩ h
 refine Ao ?_
 exact C0 (0,k0) _ _ ⟨rfl,rfl,rfl,rfl,rfl,rfl,trivial⟩ ⟨E0,AQ _ _⟩ h
 intro s2 B0 h
 try dsimp only at h
 refine AK rfl h (fun R0 h=>?_) (fun R0 h=>?_)
 refine Al<|Ae rfl<|Ae rfl<|Ae rfl ?_
 obtain ⟨M0,X1,h⟩:=bi h
 obtain ⟨p2,x2,y1,C1,W0,K1,G1⟩:=Bi z0 X1
 have z1:W0 = [vI M0]:=K1; subst z1
 refine Ab (Bk 1 g0 rfl y1 rfl rfl C1)<|AS rfl (G1 0 _ rfl) ?_
 obtain ⟨c2,V1,h⟩:=bi h
 refine Ab (FV.subc (i:=J0) (j:=M0) rfl rfl V1)<|Af rfl<|Aa ?_
 exact B0 c2 _ _ ⟨rfl,rfl,rfl,rfl,rfl,rfl,trivial⟩ ⟨p0,AQ _ _⟩ h
 refine Ao ?_
 exact B0 J0 _ _ ⟨rfl,rfl,rfl,rfl,rfl,rfl,trivial⟩ ⟨p0,AQ _ _⟩ h
 refine AW rfl ?_
 have h:=A1 _ h
 try dsimp only at h
 refine Ac<|Ae rfl ?_
 have M1:=Bq (α:=Int) p0 .hd H0 hL
 have x0:=BB p0 .hd
 have z2:=BC p0 .hd
 have P1:=BD (α:=Int) (v:=b0) (xs:=c0) x0 L M1
 obtain ⟨I2,Z1,h⟩:=bi h
 refine Bf (fst:=[]) (cap:=[]) .plain body181 rfl (e1 rfl) (fun w9 hw9=>wardmoteref01_cut_c n _ w9 (x0.hL hL hw9) c0 (Au P1 hw9) Z1) rfl (fun H2 g2 p1 ⟨E2,hu_,Q1⟩=>?_)
 subst hu_
 obtain ⟨F0,A2⟩:=x0.agr p1
 refine Af rfl<|Aa<|Ak rfl<|AP hb0 Tryz.func180 rfl rfl ?_
 cases h
 exact ⟨F0.ag,fun w9 hw9=>⟨g2,rfl,F0.kd Q1 hw9⟩⟩
def tb183_6:List (Nat × Nat × Nat):=[(0,8388608,1),(0,16777216,32),(3,33554432,25165824),(4,67108864,33554432),(0,134217728,2),(0,268435456,32),(48,536870912,402653184),(64,1073741824,536870912),(136,2147483648,1140850688)]
def tb183_7:List (Nat × Nat × Nat):=[(0,4294967296,1),(0,8589934592,32),(3,17179869184,12884901888),(4,34359738368,17179869184),(0,68719476736,2),(0,137438953472,32),(48,274877906944,206158430208),(64,549755813888,274877906944),(136,1099511627776,584115552256),(511,16,1099511627776)]
def wardmoteref01_order_l1 (_n:Nat) (a0:List Int) (a1:List Int) (g0:Int → Option (Int ⊕ Unit)):Int → Option (Int ⊕ Unit)
  | b0=>(if 0 ≤ b0 then (idx a0 b0).bind fun c0=>(idx a1 b0).bind fun d0=>(if c0 = d0 then (chk (b0 - 1)).bind fun j0=>g0 j0 else (chk (c0 - d0)).bind fun k0=>some (.inl k0)) else some (.inr ()))
def wardmoteref01_order_p (n:Nat) (a0:List Int) (a1:List Int):Option Int:=
  (if a0.length = a1.length then thn (loopF (wardmoteref01_order_l1 n a0 a1) n (((a0.length:Nat):Int) - 1)) (fun _=>some (0:Int)) else some (((a0.length:Nat):Int) - ((a1.length:Nat):Int)))
theorem wardmoteref01_order_c (n:Nat) (L:List Nat) (w:World) (_hL:∀ b ∈ L,b < w.heap.size) (a0:List Int) {v0_0:Value} (h0_0:Rep.R w L [v0_0] a0) (a1:List Int) {v1_0:Value} (h1_0:Rep.R w L [v1_0] a1)  {r:Int} (h:wardmoteref01_order_p n a0 a1 = some r) :
    Calls Tryz.prog 183 #[v0_0,v1_0] w (Gives w fun _ u=>u = vI r):=by
 unfold wardmoteref01_order_p at h
 have hS0:=Az w
 refine AC Tryz.func183 rfl rfl rfl (fun _ cs0 hb0=>?_)
 refine Ac<|Af rfl<|Aa<|Ai<|Ac<|Ae rfl ?_
 have hl1:a0.length ≤ 281474976710656:=AT h0_0
 refine Ab (AY (xs:=a0) Tryz.underlying52 rfl h0_0)<|Ae rfl ?_
 have hl2:a1.length ≤ 281474976710656:=AT h1_0
 refine Ab (AY (xs:=a1) Tryz.underlying52 rfl h1_0)<|Ab (FV.neqN (i:=a0.length) (j:=a1.length) rfl rfl)<|Aa<|MX.ifn rfl h (fun c3 h=>?_) (fun c3 h=>?_)
 refine Ao<|Ai<|Ac<|Ae rfl<|Ab (AY (xs:=a0) Tryz.underlying52 rfl h0_0)<|Ab (FV.subI (i:=((a0.length:Nat):Int)) (j:=1) rfl rfl (by omega))<|Af rfl<|Aa<|Aq ?_
 obtain ⟨q1,Q0,v0⟩:=thn_in h
 refine Bg (α:=Int) (fun c0=>[(0,v0_0),(1,v1_0),(5,vI c0)]) (fun c0 p0=>St w p0 []∧Tr w [] p0 []) (fun c0=>c0) (((a0.length:Nat):Int) - 1) Q0 ⟨rfl,rfl,rfl,trivial⟩ ⟨hS0,AQ _ _⟩ ?_
 rintro j1 c0 p0 H0 ⟨k0,I0⟩ h
 unfold wardmoteref01_order_l1 at h
 try dsimp only at h
 refine Ai<|Ac<|Ae rfl<|Ab (FV.geq (i:=c0) (j:=0) rfl rfl)<|Aa<|AK rfl h (fun D0 h=>?_) (fun D0 h=>?_)
 refine Ao<|Ai<|Aq<|Ai<|dt 9 tb183_6 (fun g0 j0=>?_)
 refine Ah 0 1 g0 rfl j0 (fun _=>Aj rfl) rfl<|Ah 1 3 g0 rfl j0 (fun _=>Aj rfl) rfl ?_
 obtain ⟨q0,X0,h⟩:=bi h
 obtain ⟨x0,Y0⟩:=idx_in X0
 have M0:=AE h0_0 k0
 obtain ⟨d1,k1,t0,z0,F0,R0,B0⟩:=Bi M0 Y0
 have J0:F0 = [vI q0]:=R0; subst J0
 refine Ah 2 7 g0 rfl j0 (fun _=>Bk 1 (c0.toNat) rfl t0 rfl x0 z0) rfl<|AF 3 15 256 g0 rfl j0 (AG rfl (B0 0 _ rfl)) rfl<|Ah 4 31 g0 rfl j0 (fun _=>Aj rfl) rfl<|Ah 5 63 g0 rfl j0 (fun _=>Aj rfl) rfl ?_
 obtain ⟨s0,Z0,h⟩:=bi h
 obtain ⟨y0,b1⟩:=idx_in Z0
 have P0:=AE h1_0 k0
 obtain ⟨g1,p1,u0,A0,G0,U0,C0⟩:=Bi P0 b1
 have K0:G0 = [vI s0]:=U0; subst K0
 refine Ah 6 127 g0 rfl j0 (fun _=>Bk 1 (c0.toNat) rfl u0 rfl y0 A0) rfl<|AF 7 255 256 g0 rfl j0 (AG rfl (C0 0 _ rfl)) rfl<|Ah 8 511 g0 rfl j0 (fun _=>FV.neq (i:=q0) (j:=s0) rfl rfl) rfl<|AM (dk g0)<|MX.ifn rfl h (fun E0 h=>?_) (fun E0 h=>?_)
 refine Ao<|Ar<|Al<|Ae rfl ?_
 obtain ⟨c1,V0,h⟩:=bi h
 refine Ab (FV.subc (i:=c0) (j:=1) rfl rfl V0)<|Af rfl<|Aa ?_
 exact H0 c1 _ _ ⟨rfl,rfl,rfl,trivial⟩ ⟨k0,I0⟩ h
 refine Ai<|dt 10 tb183_7 (fun b0 d0=>?_)
 refine Ah 0 1 b0 rfl d0 (fun _=>Aj rfl) rfl<|Ah 1 3 b0 rfl d0 (fun _=>Aj rfl) rfl<|Ah 2 7 b0 rfl d0 (fun _=>Bk 1 (c0.toNat) rfl t0 rfl x0 z0) rfl<|AF 3 15 768 b0 rfl d0 (AG rfl (B0 0 _ rfl)) rfl<|Ah 4 31 b0 rfl d0 (fun _=>Aj rfl) rfl<|Ah 5 63 b0 rfl d0 (fun _=>Aj rfl) rfl<|Ah 6 127 b0 rfl d0 (fun _=>Bk 1 (c0.toNat) rfl u0 rfl y0 A0) rfl<|AF 7 255 768 b0 rfl d0 (AG rfl (C0 0 _ rfl)) rfl ?_
 obtain ⟨s1,W0,h⟩:=bi h
 refine Ah 8 511 b0 rfl d0 (fun _=>FV.subc (i:=q0) (j:=s0) rfl rfl W0) rfl<|Ah 9 1023 b0 rfl d0 (fun _=>Bh rfl) rfl<|AM (dk b0) ?_
 have h:=thn_inl h v0
 refine Ak rfl<|AP hb0 Tryz.func183 rfl rfl ?_
 cases h
 exact k0.gv
 refine AW rfl ?_
 have h:=thn_inr h v0
 try dsimp only at h
 refine Ac<|Af rfl<|Aa<|Ak rfl<|AP hb0 Tryz.func183 rfl rfl ?_
 cases h
 exact k0.gv
 refine Ac<|Ae rfl<|Ab (AY (xs:=a0) Tryz.underlying52 rfl h0_0)<|Ae rfl<|Ab (AY (xs:=a1) Tryz.underlying52 rfl h1_0)<|Ab (FV.subI (i:=((a0.length:Nat):Int)) (j:=((a1.length:Nat):Int)) rfl rfl (by omega))<|Af rfl<|Aa<|Ak rfl<|AP hb0 Tryz.func183 rfl rfl ?_
 cases h
 exact hS0.gv
structure TLong188 where
  fc:Bool
  fD:List Int
  deriving DecidableEq
instance:Rep TLong188:=Rep.via (β:=Bool × (List Int)) fun x=>(x.fc,x.fD)
def tb156_15:List (Nat × Nat × Nat):=[(0,35184372088832,512),(1,70368744177664,35184372088832),(0,140737488355328,512),(4,281474976710656,140737488355328),(8,562949953421312,281474976710912),(16,1125899906842624,562949953421312),(0,2251799813685248,64),(0,4503599627370496,512),(192,9007199254740992,6755399441055744),(256,18014398509481984,9007199254740992),(512,36028797018963968,18014398509481984),(0,72057594037927936,512),(2048,144115188075855872,72057594037927936),(4096,288230376151711744,144115188075855872),(9216,576460752303423488,324259173170675712),(16416,1152921504606846976,577586652210266112),(65535,2305843009213693952,70368744177920),(131071,0,3458764513820540928)]
theorem body180:bodyB Tryz.prog 180 = true:=by kernel_rfl
theorem body183:bodyB Tryz.prog 183 = true:=by kernel_rfl
def wardmoteref01_Out_l1 (_n:Nat) (x0:List Int) (y0:Nat × UInt64 × UInt64 × UInt64 × UInt64 × UInt64 × UInt64 × UInt64 × UInt64 → Option (UInt64 × UInt64 × UInt64 × UInt64 × UInt64 × UInt64 × UInt64 × UInt64)):Nat × UInt64 × UInt64 × UInt64 × UInt64 × UInt64 × UInt64 × UInt64 × UInt64 → Option (UInt64 × UInt64 × UInt64 × UInt64 × UInt64 × UInt64 × UInt64 × UInt64)
  | (b0,j0,k0,p0,q0,s0,t0,u0,v0)=>(if b0 < x0.length then (([j0,k0,p0,q0,s0,t0,u0,v0]:List UInt64)[b0 / 2]?).bind fun g0=>(x0[b0]?).bind fun d0=>(chk (32 * ((b0 % 2:Nat):Int))).bind fun z0=>(natOf z0).bind fun c0=>y0 (b0 + 1,setA (b0 / 2) 0 (g0 + (shlU (u64of d0) c0)) j0,setA (b0 / 2) 1 (g0 + (shlU (u64of d0) c0)) k0,setA (b0 / 2) 2 (g0 + (shlU (u64of d0) c0)) p0,setA (b0 / 2) 3 (g0 + (shlU (u64of d0) c0)) q0,setA (b0 / 2) 4 (g0 + (shlU (u64of d0) c0)) s0,setA (b0 / 2) 5 (g0 + (shlU (u64of d0) c0)) t0,setA (b0 / 2) 6 (g0 + (shlU (u64of d0) c0)) u0,setA (b0 / 2) 7 (g0 + (shlU (u64of d0) c0)) v0) else some (j0,k0,p0,q0,s0,t0,u0,v0))
def wardmoteref01_Out_l2 (_n:Nat) (x0:List Int) (y0:Nat × UInt64 × UInt64 × UInt64 × UInt64 × UInt64 × UInt64 × UInt64 × UInt64 → Option (UInt64 × UInt64 × UInt64 × UInt64 × UInt64 × UInt64 × UInt64 × UInt64)):Nat × UInt64 × UInt64 × UInt64 × UInt64 × UInt64 × UInt64 × UInt64 × UInt64 → Option (UInt64 × UInt64 × UInt64 × UInt64 × UInt64 × UInt64 × UInt64 × UInt64)
  | (b0,j0,k0,p0,q0,s0,t0,u0,v0)=>(if b0 < x0.length then (([j0,k0,p0,q0,s0,t0,u0,v0]:List UInt64)[b0 / 2]?).bind fun g0=>(x0[b0]?).bind fun d0=>(chk (32 * ((b0 % 2:Nat):Int))).bind fun z0=>(natOf z0).bind fun c0=>y0 (b0 + 1,setA (b0 / 2) 0 (g0 + (shlU (u64of d0) c0)) j0,setA (b0 / 2) 1 (g0 + (shlU (u64of d0) c0)) k0,setA (b0 / 2) 2 (g0 + (shlU (u64of d0) c0)) p0,setA (b0 / 2) 3 (g0 + (shlU (u64of d0) c0)) q0,setA (b0 / 2) 4 (g0 + (shlU (u64of d0) c0)) s0,setA (b0 / 2) 5 (g0 + (shlU (u64of d0) c0)) t0,setA (b0 / 2) 6 (g0 + (shlU (u64of d0) c0)) u0,setA (b0 / 2) 7 (g0 + (shlU (u64of d0) c0)) v0) else some (j0,k0,p0,q0,s0,t0,u0,v0))
def wardmoteref01_Out_p (n:Nat) (a0:TLong188):Option ((UInt64 × UInt64 × UInt64 × UInt64 × UInt64 × UInt64 × UInt64 × UInt64) × Int):=
  (mk 16 (0:Int)).bind fun c0=>(c0[15]?).bind fun _x28=>(put c0 ((15:Nat):Int) (2147483648:Int)).bind fun I0=>(wardmoteref01_order_p n a0.fD I0).bind fun j0=>(if 0 < j0 then some (((0:UInt64),(0:UInt64),(0:UInt64),(0:UInt64),(0:UInt64),(0:UInt64),(0:UInt64),(0:UInt64)),(6:Int)) else (if j0 = 0 then (if a0.fc = true then (mk 17 (0:Int)).bind fun g0=>(g0[16]?).bind fun _x61=>(put g0 ((16:Nat):Int) (1:Int)).bind fun J0=>(wardmoteref01_less_p n J0 a0.fD).bind fun M0=>Option.bind (loopF (wardmoteref01_Out_l1 n M0) n (0,(0:UInt64),(0:UInt64),(0:UInt64),(0:UInt64),(0:UInt64),(0:UInt64),(0:UInt64),(0:UInt64))) (fun (k0,p0,q0,s0,t0,u0,v0,x0)=>some ((k0,p0,q0,s0,t0,u0,v0,x0),(0:Int))) else some (((0:UInt64),(0:UInt64),(0:UInt64),(0:UInt64),(0:UInt64),(0:UInt64),(0:UInt64),(0:UInt64)),(6:Int))) else jn (fun G0=>Option.bind (loopF (wardmoteref01_Out_l2 n G0) n (0,(0:UInt64),(0:UInt64),(0:UInt64),(0:UInt64),(0:UInt64),(0:UInt64),(0:UInt64),(0:UInt64))) (fun (y0,z0,A0,B0,C0,D0,E0,F0)=>some ((y0,z0,A0,B0,C0,D0,E0,F0),(0:Int)))) (fun b0=>(if a0.fc = true then (mk 17 (0:Int)).bind fun d0=>(d0[16]?).bind fun _x369=>(put d0 ((16:Nat):Int) (1:Int)).bind fun H0=>(wardmoteref01_less_p n H0 a0.fD).bind fun K0=>b0 K0 else b0 a0.fD))))
theorem wardmoteref01_Out_c (n:Nat) (L:List Nat) (w:World) (hL:∀ b ∈ L,b < w.heap.size) (a0:TLong188) {v0_1:Value} (h0_1:Rep.R w L [v0_1] a0.fD)  {r:(UInt64 × UInt64 × UInt64 × UInt64 × UInt64 × UInt64 × UInt64 × UInt64) × Int} (h:wardmoteref01_Out_p n a0 = some r) :
    Calls Tryz.prog 156 #[.agg #[.bool a0.fc,v0_1]] w (Gives w fun _ u=>u = .tuple #[.agg ((cs_A39 r.1)).toArray,vI r.2]):=by
 unfold wardmoteref01_Out_p at h
 have hS0:=Az w
 refine AC Tryz.func156 rfl rfl rfl (fun _ cs0 hb0=>?_)
 refine Ac<|Am .plain rfl (AB hS0 rfl rfl) (fun A6 t2 M2 P5=>?_)
 refine Am .plain rfl (Ay zP M2) (fun B6 U0 Q2 Q5=>?_)
 refine Af rfl<|Aa<|Ac ?_
 obtain ⟨U6,H4,h⟩:=bi h
 refine RG.doesH .plain rfl (Does.mkH (α:=Int) (L:=L) H4 Q2 el52 rfl (fun _ _=>rfl)) (fun X4 F6 ⟨H5,p1,V5,U1⟩=>?_)
 refine Af rfl<|Aa<|Ac<|Ae rfl ?_
 obtain ⟨k5,D4,h⟩:=bi h
 obtain ⟨p2,A5,v1,b2,E2,k4,q6⟩:=St.nth (α:=Int) p1 .hd U1 D4
 obtain ⟨u2,C5,Y1⟩:=St.nthOwn (α:=Int) p1 .hd b2
 obtain rfl:p2 = ⟨u2,0,none⟩:=by rw [Y1] at v1; cases v1; rfl
 have G3:E2 = [vI k5]:=k4; subst G3
 refine Ab (Bk 1 15 rfl v1 rfl rfl b2) ?_
 obtain ⟨j2,K4,h⟩:=bi h
 refine RG.acts' .plain (Acts.set (α:=Int) (i:=15) K4 p1 Y1 (fun _=>.hd) U1 rfl rfl rfl rfl rfl (by kernel_rfl)) (fun g5 ⟨H2,y0,Y5,z3⟩=>?_)
 refine Aa<|Ac<|Be 1 rfl<|AS rfl ((y0.memA (.tl (.tl .hd))) 1 _ rfl)<|Ae rfl ?_
 obtain ⟨D1,R4,h⟩:=bi h
 refine Bb (vI D1) body183 rfl (e2 rfl rfl) (fun w9 hw9=>wardmoteref01_order_c n _ w9 (y0.hL0 hL hw9) a0.fD (y0.k0 h0_1 hw9) j2 (Au (St.lend (α:=Int) (L:=L) y0 .hd z3 hL) hw9) R4) rfl<|Af rfl<|Aa<|Ai<|Ac<|Ae rfl<|Ab (FV.gtr (i:=D1) (j:=0) rfl rfl)<|Ae rfl<|RG.ifd (s:=19) rfl h (fun B2 h=>?_) (fun B2 h=>?_)
 refine AA<|AA<|AA<|RG.un<|RG.un<|RG.un<|AA<|BF rfl rfl<|Aa<|AV rfl<|Ac<|Ab (AN (vs:=[]) (u:=.agg zQ) evs_nil (fun w9=>by kernel_rfl))<|AR zP y0 (.tl .hd) (onesB rfl) (fun M6 M1 Z5=>?_)
 refine Af rfl<|Aa<|Ak rfl<|Ap hb0 Tryz.func156 rfl (.cons (.many (cs:=zP) (by kernel_rfl) rfl (M1.memA (.tl .hd))) (.cons (.tmp rfl) .nil)) rfl ?_
 cases h
 exact M1.gv
 refine AJ (Aj rfl)<|AJ (FV.eql (i:=D1) (j:=0) rfl rfl)<|AJ (Aj rfl)<|RG.ifd (s:=22) rfl h (fun C2 h=>?_) (fun C2 h=>?_)
 refine RG.fg 0 rfl<|AJ (AG rfl ((y0.memA (.tl (.tl .hd))) 0 _ rfl))<|AJ (By rfl)<|AJ (FV.pick_t rfl rfl)<|Bx rfl rfl<|Aa<|MX.ifnb rfl h (fun F1 h=>?_) (fun F1 h=>?_)
 refine Ao<|Ac<|Be 1 rfl<|AS rfl ((y0.memA (.tl (.tl .hd))) 1 _ rfl)<|Af rfl<|Aa<|Ai<|Ac<|Be 0 rfl<|AS rfl ((y0.memA (.tl (.tl .hd))) 0 _ rfl)<|Aa<|MX.cond_kt rfl F1<|Ac ?_
 obtain ⟨W6,M4,h⟩:=bi h
 refine RG.doesH .plain rfl (Does.mkH (α:=Int) (L:=L) M4 y0 el52 rfl (fun _ _=>rfl)) (fun Z4 P6 ⟨K5,t1,b6,W1⟩=>?_)
 refine Af rfl<|Aa<|Ac<|Ae rfl ?_
 obtain ⟨q5,G4,h⟩:=bi h
 obtain ⟨s2,F5,y1,d2,I2,v4,u6⟩:=St.nth (α:=Int) t1 .hd W1 G4
 obtain ⟨x2,G5,Z1⟩:=St.nthOwn (α:=Int) t1 .hd d2
 obtain rfl:s2 = ⟨x2,0,none⟩:=by rw [Z1] at y1; cases y1; rfl
 have H3:I2 = [vI q5]:=v4; subst H3
 refine Ab (Bk 1 16 rfl y1 rfl rfl d2) ?_
 obtain ⟨k2,P4,h⟩:=bi h
 refine RG.acts' .plain (Acts.set (α:=Int) (i:=16) P4 t1 Z1 (fun _=>.hd) W1 rfl rfl rfl rfl rfl (by kernel_rfl)) (fun Q6 ⟨M5,u1,c6,A3⟩=>?_)
 refine Aa<|Al<|Ae rfl<|Ae rfl ?_
 have x4:=Bq (α:=Int) u1 .hd A3 hL
 have j1:=BB u1 .hd
 have d6:=BC u1 .hd
 have y4:=BD (α:=Int) (v:=Z4) (xs:=k2) j1 L x4
 obtain ⟨E1,U4,h⟩:=bi h
 refine Bf (fst:=[]) (cap:=[]) .plain body180 rfl (e2 rfl rfl) (fun w9 hw9=>wardmoteref01_less_c n _ w9 (j1.hL hL hw9) k2 (Au y4 hw9) a0.fD (j1.km h0_1 hw9) U4) rfl (fun R6 c5 x3 ⟨z6,hu_,z4⟩=>?_)
 subst hu_
 obtain ⟨Z2,g6⟩:=j1.agr x3
 refine Af rfl<|Aa<|Ac<|Am .plain rfl (Ay zP Z2) (fun j5 X0 b3 u3=>?_)
 refine Aa<|Ai<|Ac<|Af rfl<|Aa<|Aq ?_
 obtain ⟨P2,c3⟩:=AH b3 (.one .hd (.one (.tl .hd) .done))
 obtain ⟨v6,Z3,I3⟩:=bind_in2 h
 refine Bg (α:=Nat × UInt64 × UInt64 × UInt64 × UInt64 × UInt64 × UInt64 × UInt64 × UInt64) (fun ⟨b0,z0,A0,B0,C0,D0,E0,F0,G0⟩=>[(2,vP U0),(6,c5),(8,vP X0),(9,vI ((b0:Nat):Int))]) (fun ⟨b0,z0,A0,B0,C0,D0,E0,F0,G0⟩ B1=>St w B1 [.cells X0 [vU z0,vU A0,vU B0,vU C0,vU D0,vU E0,vU F0,vU G0] 40,.cells U0 zP 40]∧Tr j5 [.cells X0 zP 40,.cells U0 zP 40] B1 [.cells X0 [vU z0,vU A0,vU B0,vU C0,vU D0,vU E0,vU F0,vU G0] 40,.cells U0 zP 40]) (fun ⟨b0,z0,A0,B0,C0,D0,E0,F0,G0⟩=>(b0,z0,A0,B0,C0,D0,E0,F0,G0)) (0,(0:UInt64),(0:UInt64),(0:UInt64),(0:UInt64),(0:UInt64),(0:UInt64),(0:UInt64),(0:UInt64)) Z3 ⟨rfl,rfl,rfl,rfl,trivial⟩ ⟨P2,AQ _ _⟩ ?_
 rintro v5 ⟨b0,z0,A0,B0,C0,D0,E0,F0,G0⟩ B1 J2 ⟨Z0,P1⟩ h
 unfold wardmoteref01_Out_l1 at h
 try dsimp only at h
 refine Ai<|Ac<|Ae rfl<|Ae rfl ?_
 have c4:=Tt u3 (Tt c3 P1)
 have z1:=Av z4 c4
 have j6:E1.length ≤ 281474976710656:=AT z1
 refine Ab (AY (xs:=E1) Tryz.underlying52 rfl z1)<|Ab (AZ (i:=b0) (j:=E1.length) rfl rfl)<|Aa<|AK rfl h (fun y2 h=>?_) (fun y2 h=>?_)
 refine Ao<|Ai<|Aq<|dt 17 tb156_15 (fun j0 v0=>?_)
 refine Ah 0 1 j0 rfl v0 (fun _=>Aj rfl) rfl<|Ah 1 3 j0 rfl v0 (fun _=>FV.quoN (i:=b0) (j:=2) rfl rfl rfl (by omega)) rfl<|Ah 2 7 j0 rfl v0 (fun _=>Aj rfl) rfl<|Ah 3 15 j0 rfl v0 (fun _=>FV.quoN (i:=b0) (j:=2) rfl rfl rfl (by omega)) rfl ?_
 obtain ⟨t0,c1,h⟩:=bi h
 have R3:=mem_elem1 (p:=⟨X0,0,none⟩) (cs:=([z0,A0,B0,C0,D0,E0,F0,G0]:List UInt64).map (fun z9:UInt64=>(vU z9:Value)) ++ []) (i:=b0 / 2) (Z0.memA .hd) (arr_get (fun z9:UInt64=>(vU z9:Value)) c1)
 refine Ah 4 31 j0 rfl v0 (fun _=>AD (m:=1) (k:=b0 / 2) (len:=8) (by kernel_rfl) rfl rfl rfl (arr_lt c1 rfl)) rfl<|AF 5 63 229376 j0 rfl v0 (AG rfl (R3 0 _ rfl)) rfl<|Ah 6 127 j0 rfl v0 (fun _=>Aj rfl) rfl<|Ah 7 255 j0 rfl v0 (fun _=>Aj rfl) rfl ?_
 obtain ⟨d0,C4,h⟩:=bi h
 obtain ⟨t5,z5,B3,K3,D2,g4,U3⟩:=Bi z1 C4
 have C3:D2 = [vI d0]:=g4; subst C3
 refine Ah 8 511 j0 rfl v0 (fun _=>Bk 1 b0 rfl B3 rfl rfl K3) rfl<|AF 9 1023 246784 j0 rfl v0 (AG rfl (U3 0 _ rfl)) rfl<|Ah 10 2047 j0 rfl v0 (fun _=>FV.convU (i:=d0) Tryz.underlying3 Tryz.underlying28 rfl) rfl<|Ah 11 4095 j0 rfl v0 (fun _=>Aj rfl) rfl<|Ah 12 8191 j0 rfl v0 (fun _=>FV.remN (i:=b0) (j:=2) rfl rfl rfl) rfl ?_
 obtain ⟨V4,A4,h⟩:=bi h
 refine Ah 13 16383 j0 rfl v0 (fun _=>FV.mulc (i:=32) (j:=((b0 % 2:Nat):Int)) rfl rfl A4) rfl ?_
 obtain ⟨q0,M3,h⟩:=bi h
 refine Ah 14 32767 j0 rfl v0 (fun _=>FV.shlI (a:=u64of d0) (i:=V4) rfl rfl M3) rfl<|Ah 15 65535 j0 rfl v0 (fun _=>FV.addU (a:=t0) (b:=shlU (u64of d0) q0) rfl rfl) rfl ?_
 have p6:=mem_elem1 (p:=⟨X0,0,none⟩) (cs:=([z0,A0,B0,C0,D0,E0,F0,G0]:List UInt64).map (fun z9:UInt64=>(vU z9:Value)) ++ []) (i:=b0 / 2) (Z0.memA .hd) (arr_get (fun z9:UInt64=>(vU z9:Value)) c1)
 refine Ah 16 131071 j0 rfl v0 (fun _=>AD (m:=1) (k:=b0 / 2) (len:=8) (by kernel_rfl) rfl rfl rfl (arr_lt c1 rfl)) rfl<|Bv 17 262143 j0 rfl rfl .plain (Acts.storeArr (fun z9:UInt64=>(vU z9:Value)) (xs:=([z0,A0,B0,C0,D0,E0,F0,G0]:List UInt64)) (pre:=[]) (post:=[]) (i:=b0 / 2) (m:=8) (x:=t0 + (shlU (u64of d0) q0)) (old:=[vU z0,vU A0,vU B0,vU C0,vU D0,vU E0,vU F0,vU G0]) (new' :=[vW ((setA (b0 / 2) 0 (t0 + (shlU (u64of d0) q0)) z0).toNat:Int),vW ((setA (b0 / 2) 1 (t0 + (shlU (u64of d0) q0)) A0).toNat:Int),vW ((setA (b0 / 2) 2 (t0 + (shlU (u64of d0) q0)) B0).toNat:Int),vW ((setA (b0 / 2) 3 (t0 + (shlU (u64of d0) q0)) C0).toNat:Int),vW ((setA (b0 / 2) 4 (t0 + (shlU (u64of d0) q0)) D0).toNat:Int),vW ((setA (b0 / 2) 5 (t0 + (shlU (u64of d0) q0)) E0).toNat:Int),vW ((setA (b0 / 2) 6 (t0 + (shlU (u64of d0) q0)) F0).toNat:Int),vW ((setA (b0 / 2) 7 (t0 + (shlU (u64of d0) q0)) G0).toNat:Int)]) rfl rfl (arr_lt c1 rfl) Z0 .hd rfl (addr_at _ _ _) rfl (by kernel_rfl) (fun _=>⟨rfl,rfl⟩) rfl rfl) (fun C6 R2 d3=>?_)
 refine AM (dk j0)<|Ar<|Al<|Ae rfl<|Ab (Bj (i:=b0) (j:=1) rfl rfl (by omega))<|Af rfl<|Aa ?_
 exact J2 (b0 + 1,setA (b0 / 2) 0 (t0 + (shlU (u64of d0) q0)) z0,setA (b0 / 2) 1 (t0 + (shlU (u64of d0) q0)) A0,setA (b0 / 2) 2 (t0 + (shlU (u64of d0) q0)) B0,setA (b0 / 2) 3 (t0 + (shlU (u64of d0) q0)) C0,setA (b0 / 2) 4 (t0 + (shlU (u64of d0) q0)) D0,setA (b0 / 2) 5 (t0 + (shlU (u64of d0) q0)) E0,setA (b0 / 2) 6 (t0 + (shlU (u64of d0) q0)) F0,setA (b0 / 2) 7 (t0 + (shlU (u64of d0) q0)) G0) _ _ ⟨rfl,rfl,rfl,rfl,trivial⟩ ⟨R2,(Tt P1 d3)⟩ h
 refine AW rfl ?_
 have h:=I3 _ h
 try dsimp only at h
 refine Ac<|Ab (AI rfl (Z0.memA .hd))<|AR [vU z0,vU A0,vU B0,vU C0,vU D0,vU E0,vU F0,vU G0] Z0 (.tl .hd) (onesB rfl) (fun D6 H1 R5=>?_)
 refine Af rfl<|Aa<|Ak rfl<|Ap hb0 Tryz.func156 rfl (.cons (.many (cs:=[vU z0,vU A0,vU B0,vU C0,vU D0,vU E0,vU F0,vU G0]) (by kernel_rfl) rfl (H1.memA (.tl .hd))) (.cons (.tmp rfl) .nil)) rfl ?_
 cases h
 exact H1.gv
 refine Ac<|Ab (AN (vs:=[]) (u:=.agg zQ) evs_nil (fun w9=>by kernel_rfl))<|AR zP y0 (.tl .hd) (onesB rfl) (fun E6 I1 U5=>?_)
 refine Af rfl<|Aa<|Ak rfl<|Ap hb0 Tryz.func156 rfl (.cons (.many (cs:=zP) (by kernel_rfl) rfl (I1.memA (.tl .hd))) (.cons (.tmp rfl) .nil)) rfl ?_
 cases h
 exact I1.gv
 refine AA<|AA<|AA<|AJ (Ba rfl rfl)<|Bx rfl rfl<|Aa<|Bm rfl<|Ao<|Ac<|Be 1 rfl<|AS rfl ((y0.memA (.tl (.tl .hd))) 1 _ rfl)<|Af rfl<|Aa<|Ai<|Ac<|Be 0 rfl<|AS rfl ((y0.memA (.tl (.tl .hd))) 0 _ rfl)<|Aa<|MX.join (α:=(List Int) × Value) (fun ⟨V0,Y0⟩=>[(2,vP U0),(6,Y0)]) (fun ⟨V0,Y0⟩ k1=>St w k1 [.cells U0 zP 40]∧Tr g5 [.row w.heap.size 3 (Rep.size Int) X4 j2.length H2,.cells U0 zP 40,.cells t2 [.bool a0.fc,v0_1] 189] k1 [.cells U0 zP 40]∧Rep.R k1 (bl [.cells U0 zP 40] ++ L) [Y0] V0) (fun ⟨V0,Y0⟩=>V0) h ?_ ?_
 rintro ⟨V0,Y0⟩ k1 ⟨U2,W5,j4⟩ h
 try dsimp only at h
 refine Ac<|Am .plain rfl (Ay zP U2) (fun d5 W0 V2 g3=>?_)
 refine Aa<|Ai<|Ac<|Af rfl<|Aa<|Aq ?_
 obtain ⟨x6,b4,J3⟩:=bind_in2 h
 refine Bg (α:=Nat × UInt64 × UInt64 × UInt64 × UInt64 × UInt64 × UInt64 × UInt64 × UInt64) (fun ⟨c0,H0,I0,J0,K0,M0,P0,Q0,R0⟩=>[(2,vP U0),(6,Y0),(8,vP W0),(9,vI ((c0:Nat):Int))]) (fun ⟨c0,H0,I0,J0,K0,M0,P0,Q0,R0⟩ C1=>St w C1 [.cells W0 [vU H0,vU I0,vU J0,vU K0,vU M0,vU P0,vU Q0,vU R0] 40,.cells U0 zP 40]∧Tr d5 [.cells W0 zP 40,.cells U0 zP 40] C1 [.cells W0 [vU H0,vU I0,vU J0,vU K0,vU M0,vU P0,vU Q0,vU R0] 40,.cells U0 zP 40]) (fun ⟨c0,H0,I0,J0,K0,M0,P0,Q0,R0⟩=>(c0,H0,I0,J0,K0,M0,P0,Q0,R0)) (0,(0:UInt64),(0:UInt64),(0:UInt64),(0:UInt64),(0:UInt64),(0:UInt64),(0:UInt64),(0:UInt64)) b4 ⟨rfl,rfl,rfl,rfl,trivial⟩ ⟨V2,AQ _ _⟩ ?_
 rintro y5 ⟨c0,H0,I0,J0,K0,M0,P0,Q0,R0⟩ C1 K2 ⟨b1,Q1⟩ h
 unfold wardmoteref01_Out_l2 at h
 try dsimp only at h
 refine Ai<|Ac<|Ae rfl<|Ae rfl ?_
 have A1:=Av j4 (Tt g3 Q1)
 have k6:V0.length ≤ 281474976710656:=AT A1
 refine Ab (AY (xs:=V0) Tryz.underlying52 rfl A1)<|Ab (AZ (i:=c0) (j:=V0.length) rfl rfl)<|Aa<|AK rfl h (fun z2 h=>?_) (fun z2 h=>?_)
 refine Ao<|Ai<|Aq<|dt 17 tb156_15 (fun p0 x0=>?_)
 refine Ah 0 1 p0 rfl x0 (fun _=>Aj rfl) rfl<|Ah 1 3 p0 rfl x0 (fun _=>FV.quoN (i:=c0) (j:=2) rfl rfl rfl (by omega)) rfl<|Ah 2 7 p0 rfl x0 (fun _=>Aj rfl) rfl<|Ah 3 15 p0 rfl x0 (fun _=>FV.quoN (i:=c0) (j:=2) rfl rfl rfl (by omega)) rfl ?_
 obtain ⟨u0,d1,h⟩:=bi h
 have V3:=mem_elem1 (p:=⟨W0,0,none⟩) (cs:=([H0,I0,J0,K0,M0,P0,Q0,R0]:List UInt64).map (fun z9:UInt64=>(vU z9:Value)) ++ []) (i:=c0 / 2) (b1.memA .hd) (arr_get (fun z9:UInt64=>(vU z9:Value)) d1)
 refine Ah 4 31 p0 rfl x0 (fun _=>AD (m:=1) (k:=c0 / 2) (len:=8) (by kernel_rfl) rfl rfl rfl (arr_lt d1 rfl)) rfl<|AF 5 63 229376 p0 rfl x0 (AG rfl (V3 0 _ rfl)) rfl<|Ah 6 127 p0 rfl x0 (fun _=>Aj rfl) rfl<|Ah 7 255 p0 rfl x0 (fun _=>Aj rfl) rfl ?_
 obtain ⟨g0,E4,h⟩:=bi h
 obtain ⟨u5,B5,D3,P3,F2,p4,W3⟩:=Bi A1 E4
 have E3:F2 = [vI g0]:=p4; subst E3
 refine Ah 8 511 p0 rfl x0 (fun _=>Bk 1 c0 rfl D3 rfl rfl P3) rfl<|AF 9 1023 246784 p0 rfl x0 (AG rfl (W3 0 _ rfl)) rfl<|Ah 10 2047 p0 rfl x0 (fun _=>FV.convU (i:=g0) Tryz.underlying3 Tryz.underlying28 rfl) rfl<|Ah 11 4095 p0 rfl x0 (fun _=>Aj rfl) rfl<|Ah 12 8191 p0 rfl x0 (fun _=>FV.remN (i:=c0) (j:=2) rfl rfl rfl) rfl ?_
 obtain ⟨W4,B4,h⟩:=bi h
 refine Ah 13 16383 p0 rfl x0 (fun _=>FV.mulc (i:=32) (j:=((c0 % 2:Nat):Int)) rfl rfl B4) rfl ?_
 obtain ⟨s0,Q3,h⟩:=bi h
 refine Ah 14 32767 p0 rfl x0 (fun _=>FV.shlI (a:=u64of g0) (i:=W4) rfl rfl Q3) rfl<|Ah 15 65535 p0 rfl x0 (fun _=>FV.addU (a:=u0) (b:=shlU (u64of g0) s0) rfl rfl) rfl ?_
 have s6:=mem_elem1 (p:=⟨W0,0,none⟩) (cs:=([H0,I0,J0,K0,M0,P0,Q0,R0]:List UInt64).map (fun z9:UInt64=>(vU z9:Value)) ++ []) (i:=c0 / 2) (b1.memA .hd) (arr_get (fun z9:UInt64=>(vU z9:Value)) d1)
 refine Ah 16 131071 p0 rfl x0 (fun _=>AD (m:=1) (k:=c0 / 2) (len:=8) (by kernel_rfl) rfl rfl rfl (arr_lt d1 rfl)) rfl<|Bv 17 262143 p0 rfl rfl .plain (Acts.storeArr (fun z9:UInt64=>(vU z9:Value)) (xs:=([H0,I0,J0,K0,M0,P0,Q0,R0]:List UInt64)) (pre:=[]) (post:=[]) (i:=c0 / 2) (m:=8) (x:=u0 + (shlU (u64of g0) s0)) (old:=[vU H0,vU I0,vU J0,vU K0,vU M0,vU P0,vU Q0,vU R0]) (new' :=[vW ((setA (c0 / 2) 0 (u0 + (shlU (u64of g0) s0)) H0).toNat:Int),vW ((setA (c0 / 2) 1 (u0 + (shlU (u64of g0) s0)) I0).toNat:Int),vW ((setA (c0 / 2) 2 (u0 + (shlU (u64of g0) s0)) J0).toNat:Int),vW ((setA (c0 / 2) 3 (u0 + (shlU (u64of g0) s0)) K0).toNat:Int),vW ((setA (c0 / 2) 4 (u0 + (shlU (u64of g0) s0)) M0).toNat:Int),vW ((setA (c0 / 2) 5 (u0 + (shlU (u64of g0) s0)) P0).toNat:Int),vW ((setA (c0 / 2) 6 (u0 + (shlU (u64of g0) s0)) Q0).toNat:Int),vW ((setA (c0 / 2) 7 (u0 + (shlU (u64of g0) s0)) R0).toNat:Int)]) rfl rfl (arr_lt d1 rfl) b1 .hd rfl (addr_at _ _ _) rfl (by kernel_rfl) (fun _=>⟨rfl,rfl⟩) rfl rfl) (fun G6 W2 j3=>?_)
 refine AM (dk p0)<|Ar<|Al<|Ae rfl<|Ab (Bj (i:=c0) (j:=1) rfl rfl (by omega))<|Af rfl<|Aa ?_
 exact K2 (c0 + 1,setA (c0 / 2) 0 (u0 + (shlU (u64of g0) s0)) H0,setA (c0 / 2) 1 (u0 + (shlU (u64of g0) s0)) I0,setA (c0 / 2) 2 (u0 + (shlU (u64of g0) s0)) J0,setA (c0 / 2) 3 (u0 + (shlU (u64of g0) s0)) K0,setA (c0 / 2) 4 (u0 + (shlU (u64of g0) s0)) M0,setA (c0 / 2) 5 (u0 + (shlU (u64of g0) s0)) P0,setA (c0 / 2) 6 (u0 + (shlU (u64of g0) s0)) Q0,setA (c0 / 2) 7 (u0 + (shlU (u64of g0) s0)) R0) _ _ ⟨rfl,rfl,rfl,rfl,trivial⟩ ⟨W2,(Tt Q1 j3)⟩ h
 refine AW rfl ?_
 have h:=J3 _ h
 try dsimp only at h
 refine Ac<|Ab (AI rfl (b1.memA .hd))<|AR [vU H0,vU I0,vU J0,vU K0,vU M0,vU P0,vU Q0,vU R0] b1 (.tl .hd) (onesB rfl) (fun H6 J1 X5=>?_)
 refine Af rfl<|Aa<|Ak rfl<|Ap hb0 Tryz.func156 rfl (.cons (.many (cs:=[vU H0,vU I0,vU J0,vU K0,vU M0,vU P0,vU Q0,vU R0]) (by kernel_rfl) rfl (J1.memA (.tl .hd))) (.cons (.tmp rfl) .nil)) rfl ?_
 cases h
 exact J1.gv
 intro x5 G1 h
 try dsimp only at h
 refine MX.ifb rfl h (fun A2 h=>?_) (fun A2 h=>?_)
 refine Ac ?_
 obtain ⟨V6,I4,h⟩:=bi h
 refine RG.doesH .plain rfl (Does.mkH (α:=Int) (L:=L) I4 y0 el52 rfl (fun _ _=>rfl)) (fun Y4 I6 ⟨I5,q1,k3,V1⟩=>?_)
 refine Af rfl<|Aa<|Ac<|Ae rfl ?_
 obtain ⟨p5,F4,h⟩:=bi h
 obtain ⟨q2,D5,x1,c2,G2,q4,t6⟩:=St.nth (α:=Int) q1 .hd V1 F4
 obtain ⟨v2,E5,X1⟩:=St.nthOwn (α:=Int) q1 .hd c2
 obtain rfl:q2 = ⟨v2,0,none⟩:=by rw [X1] at x1; cases x1; rfl
 have F3:G2 = [vI p5]:=q4; subst F3
 refine Ab (Bk 1 16 rfl x1 rfl rfl c2) ?_
 obtain ⟨g2,J4,h⟩:=bi h
 refine RG.acts' .plain (Acts.set (α:=Int) (i:=16) J4 q1 X1 (fun _=>.hd) V1 rfl rfl rfl rfl rfl (by kernel_rfl)) (fun J6 ⟨J5,s1,p3,y3⟩=>?_)
 refine Aa<|Al<|Ae rfl<|Ae rfl ?_
 have s4:=Bq (α:=Int) s1 .hd y3 hL
 have g1:=BB s1 .hd
 have q3:=BC s1 .hd
 have t4:=BD (α:=Int) (v:=Y4) (xs:=g2) g1 L s4
 obtain ⟨s5,Q4,h⟩:=bi h
 refine Bf (fst:=[]) (cap:=[]) .plain body180 rfl (e2 rfl rfl) (fun w9 hw9=>wardmoteref01_less_c n _ w9 (g1.hL hL hw9) g2 (Au t4 hw9) a0.fD (g1.km h0_1 hw9) Q4) rfl (fun K6 b5 v3 ⟨y6,hu_,u4⟩=>?_)
 subst hu_
 obtain ⟨X2,s3⟩:=g1.agr v3
 refine Af rfl<|Aa ?_
 obtain ⟨Y2,R1⟩:=AH X2 (.one (.tl .hd) .done)
 have X3:=Av u4 R1
 have d4:=Tt k3 (Tt p3 (Tt q3 (Tt s3 R1)))
 exact G1 (s5,b5) _ _ ⟨rfl,rfl,trivial⟩ ⟨Y2,d4,X3⟩ h
 refine Ao ?_
 obtain ⟨K1,t3⟩:=AH y0 (.one (.tl .hd) .done)
 have Y3:=AE h0_1 K1
 exact G1 (a0.fD,v0_1) _ _ ⟨rfl,rfl,trivial⟩ ⟨K1,t3,Y3⟩ h
end Go.Proofs.YtfccehcnajelgaaGreatDoor
