/- Functions of the program, and what they give: part 6. -/
import Derived.Test.YtfccehcnajelgaaGreatDoorSL5
namespace Go.Proofs.YtfccehcnajelgaaGreatDoor
open Go Go.RowKit
set_option maxRecDepth 4000
set_option maxHeartbeats 4000000

def tb10_3:List (Nat × Nat × Nat):=[(0,65536,4),(1,131072,65536),(0,262144,2),(0,524288,8),(14,1048576,917504),(16,32768,1048576),(32,2097152,32768),(32,4194304,32768),(127,16,2097152),(511,32,4194304)]
def tb10_6:List (Nat × Nat × Nat):=[(0,17179869184,0),(1,34359738368,17179869184),(0,68719476736,4),(0,137438953472,2),(0,274877906944,8),(30,549755813888,481036337152),(32,1099511627776,549755813888),(32,2199023255552,549755813888),(226,4398046511104,3332894621696),(256,8796093022208,4398046511104),(512,17592186044416,8796093022240),(1536,35184372088832,26388279066624),(2560,70368744177664,43980465111040),(4608,140737488355328,70368744177664),(8192,281474976710656,140737488355344),(24576,562949953421312,422212465065984),(40960,1125899906842624,703687441776640),(73728,2251799813685248,1266637395197952),(139264,4503599627370496,2251799813685248),(262144,9007199254740992,4503599627370512),(786432,18014398509481984,13510798882111488),(1310720,36028797018963968,22517998136852480),(262144,72057594037927936,4503599627370496),(6553600,144115188075855872,112589990684262400),(8650752,288230376151711744,148618787703226368),(25165824,576460752303423488,288230376151711744),(33554432,1152921504606846976,576460752303423616),(100663296,2305843009213693952,1729382256910270464),(167772160,4611686018427387904,2882303761517117440),(301989888,9223372036854775808,4611686018427387904),(536870912,18446744073709551616,9223372036854775872),(536870912,36893488147419103232,9223372036854775808),(2684354560,73786976294838206464,9223372036854775808),(6979321856,147573952589676412928,119903836479112085504),(14495514624,295147905179352825856,175244068700240740352),(17716740096,590295810358705651712,304371277216207601664),(51539607552,1180591620717411303424,590295810358705651712),(68719476736,2361183241434822606848,1180591620717411303424),(68719476736,4722366482869645213696,1180591620717411303428),(68719476736,9444732965739290427392,1180591620717411303426),(68719476736,18889465931478580854784,1180591620717411303432),(2130303778816,37778931862957161709568,34237157000804927799296),(2267742732288,75557863725914323419136,38959523483674573012992),(2267742732288,151115727451828646838272,38959523483674573012992),(15599321219072,302231454903657293676544,230215366039895204167680),(17660905521152,604462909807314587353088,303412046524374704979968),(52776558133248,1208925819614629174706176,604462909807314587353088),(70368744177664,2417851639229258349412352,1208925819614629174706176),(211106232532992,4835703278458516698824704,1208925819614629174706176),(351843720888320,9671406556917033397649408,6044629098073145873530880),(351843720888320,19342813113834066795298816,6044629098073145873530880),(2181431069507584,38685626227668133590597632,32640997129594987717066752),(2322168557862912,77371252455336267181195264,39894552047282762765303808),(6755399441055744,154742504910672534362390528,77371252455336267181195264),(9007199254740992,309485009821345068724781056,154742504910672534362391040),(27021597764222976,618970019642690137449562112,464227514732017603087171584),(45035996273704960,1237940039285380274899124224,773712524553362671811952640),(81064793292668928,2475880078570760549798248448,1237940039285380274899124224),(144115188075855872,4951760157141521099596496896,2475880078570760549798248452),(432345564227567616,9903520314283042199192993792,7427640235712281649394745344),(720575940379279360,19807040628566084398385987584,12379400392853802748991242240),(1297036692682702848,39614081257132168796771975168,22282920707136844948184236032),(2449958197289549824,79228162514264337593543950336,42089961335702929346570223616),(9223372036854775807,1,79228162514264337593543950336)]
theorem el53:ElT Tryz.prog 53 3 (Rep.size Int) 8 (vI 0) [vI 0]:=⟨Tryz.underlying53,by kernel_rfl,rfl,rfl,rfl,rfl⟩
theorem body15:bodyB Tryz.prog 15 = true:=by kernel_rfl
theorem body23:bodyB Tryz.prog 23 = true:=by kernel_rfl
theorem body24:bodyB Tryz.prog 24 = true:=by kernel_rfl
theorem body25:bodyB Tryz.prog 25 = true:=by kernel_rfl
theorem body28:bodyB Tryz.prog 28 = true:=by kernel_rfl
theorem body35:bodyB Tryz.prog 35 = true:=by kernel_rfl
theorem body38:bodyB Tryz.prog 38 = true:=by kernel_rfl
theorem body40:bodyB Tryz.prog 40 = true:=by kernel_rfl
theorem body41:bodyB Tryz.prog 41 = true:=by kernel_rfl
theorem body84:bodyB Tryz.prog 84 = true:=by kernel_rfl
theorem body85:bodyB Tryz.prog 85 = true:=by kernel_rfl
def wardmotelaw27_works_p (n:Nat):Option Bool:=
  (wardmotelaw27_example_p n).bind fun y1=>(cut y1.2 0 1).bind fun q0=>(interest_Parts_p n q0 y1.1 ([(0:Int),(0:Int),(1:Int),(1:Int)]:List Int) (2:Int)).bind fun b0=>(interest_Largest_p n y1.2 y1.1 ([(0:Int),(0:Int),(1:Int),(1:Int)]:List Int) (2:Int)).bind fun j0=>(interest_Overlap_p n (0:UInt64) (0:UInt64)).bind fun B0=>(interest_Kept_p n y1.2 y1.1 ([(0:Int),(0:Int),(1:Int),(1:Int)]:List Int) (2:Int)).bind fun c0=>(wardmotelaw27_truths_1_p n c0.1 c0.2 ([false,true]:List Bool)).bind fun s0=>(if s0 = true then (if b0.2 = 0 then (if b0.1.length = 1 then (b0.1[0]?).bind fun k0=>(slices_Equal_uint64_uint64_p n k0 ([(3:UInt64),(4:UInt64)]:List UInt64)).bind fun t0=>(if t0 = true then (if j0.2 = 0 then (wardmotelaw27_of_p n (1:Int) (2:Int)).bind fun u0=>(wardmotelaw27_of_p n (1:Int) (1:Int)).bind fun v0=>(slices_Equal_api_Share_api_Share_p n j0.1 ([u0,v0]:List TShare)).bind fun x0=>(if x0 = true then (interest_Score_p n y1.2 y1.1 ([(0:Int),(0:Int),(1:Int),(1:Int)]:List Int) (2:Int)).bind fun d0=>(wardmotelaw27_is_1_p n d0.1 d0.2 (5:Int) (8:Int)).bind fun y0=>(if y0 = true then (interest_Overlap_p n (7:UInt64) (12:UInt64)).bind fun g0=>(wardmotelaw27_is_1_p n g0.1 g0.2 (1:Int) (4:Int)).bind fun z0=>(if z0 = true then (if B0.2 = 7 then (cut y1.2 1 (y1.2.length:Int)).bind fun p0=>(interest_Check_p n (3:Int) p0).bind fun A0=>some (decide (A0 = 270)) else some false) else some false) else some false) else some false) else some false) else some false) else some false) else some false) else some false)
theorem wardmotelaw27_works_c (n:Nat) (L:List Nat) (w:World) (hL:∀ b ∈ L,b < w.heap.size) (hG0:Glob 0 tab0 w)  {r:Bool} (h:wardmotelaw27_works_p n = some r) :
    Calls Tryz.prog 10 #[] w (Gives w fun _ u=>u = .bool r):=by
 unfold wardmotelaw27_works_p at h
 have hS0:=Ay w
 refine AC Tryz.func10 rfl rfl rfl (fun _ cs0 hb0=>?_)
 refine Ac<|Af rfl<|Aa<|Ac ?_
 obtain ⟨y1,hy1,h⟩:=bi h
 refine Bp (fst:=[]) (cap:=[]) .plain body38 rfl evs_nil (fun w9 hw9=>own_gives2 (b0:=w.heap.size) (wardmotelaw27_example_c n _ w9 (hS0.hL hL hw9)  hy1) hw9 (Nat.le_trans hS0.ag.size hw9.size)) rfl (fun w2 vu3 hag4 ⟨v9,q4,j2,k2,hu6,s5,A2,B2⟩=>?_)
 subst hu6
 have hS7:=own_push2 hS0 s5
 have hT8:=own_tr2 hS0 s5
 have E2:=AB (cs:=j2) (xs:=(y1.1.fo:List TUnit)) hS7 L (own_cells A2)
 have F2:=AB (cs:=k2) (xs:=(y1.2:List TInterest)) hS7 L (own_cells B2)
 refine Ae rfl<|Ab (Ah rfl rfl)<|Ab (Ah rfl rfl)<|Al .plain rfl (AA [vI 0,vI 0,vI 0,vN] hS7) (fun u5 H4 x1 t2=>?_)
 refine AX [vI y1.1.fh,vI y1.1.fc,vI y1.1.fe,v9] x1 .hd (o4 rfl rfl rfl (St.o1 (α:=TUnit) x1 (.tl .hd))) (fun v5 p2 u2=>?_)
 refine Af rfl<|Aa<|Ac<|Al .plain rfl (AY (α:=Int) (xs:=([(0:Int),(0:Int),(1:Int),(1:Int)]:List Int)) (vs:=[vI 0,vI 0,vI 1,vI 1]) (ds' :=[vI 0,vI 0,vI 1,vI 1]) rfl p2 el53 rfl (e4 rfl rfl rfl rfl) (by kernel_rfl) rfl) (fun x5 U1 Q0 v2=>?_)
 have G2:=AB (cs:=[vI 0,vI 0,vI 1,vI 1]) (xs:=(([(0:Int),(0:Int),(1:Int),(1:Int)]:List Int):List Int)) Q0 L (Aq (cs:=[vI 0]) (ds:=[vI 0,vI 1,vI 1]) rfl (Aq (cs:=[vI 0]) (ds:=[vI 1,vI 1]) rfl (Aq (cs:=[vI 1]) (ds:=[vI 1]) rfl (Aq (cs:=[vI 1]) (ds:=[]) rfl (AN _ _)))))
 refine Af rfl<|Aa<|Aj<|dt 10 tb10_3 (fun j0 u0=>?_)
 refine Ag 0 1 j0 rfl u0 (fun _=>Ai rfl) rfl ?_
 have G1:=Tt t2 (Tt u2 v2)
 have b3:=AD F2 G1
 have B3:=Bu (α:=TInterest) Q0 (.tl (.tl (.tl .hd))) b3 hL
 have z0:=St.delS Q0 (.tl (.tl (.tl .hd)))
 have B1:=St.delT Q0 (.tl (.tl (.tl .hd)))
 have H0:=Rep.at_ (α:=TInterest) (v:=q4) (xs:=y1.2) z0 L B3
 obtain ⟨y4,Q3,h⟩:=bi h
 refine RD.valE (i:=1) (m' :=3) (W:=1008) (tk j0) rfl u0 .plain rfl (FV.cutL (α:=TInterest) Q3 (by kernel_rfl) rfl H0 rfl ⟨_,rfl⟩) (fun X4 C3=>?_)
 refine AF 2 7 1008 j0 rfl u0 (AJ rfl (z0.memA (.tl .hd))) rfl<|Ag 3 15 j0 rfl u0 (fun _=>Ai rfl) rfl ?_
 have c3:=AD E2 (Tt G1 B1)
 have D3:=Bu (α:=TUnit) z0 (.tl (.tl .hd)) c3 hL
 have R0:=St.delS z0 (.tl (.tl .hd))
 have s1:=St.delT z0 (.tl (.tl .hd))
 have b1:=Rep.at_ (α:=TUnit) (v:=v9) (xs:=y1.1.fo) R0 L D3
 have d3:=AD G2 (Tt B1 s1)
 have E3:=Bu (α:=Int) R0 .hd d3 hL
 have U0:=St.delS R0 .hd
 have B0:=St.delT R0 .hd
 have c1:=Rep.at_ (α:=Int) (v:=(vS U1 4)) (xs:=([(0:Int),(0:Int),(1:Int),(1:Int)]:List Int)) U0 L E3
 obtain ⟨j1,j4,h⟩:=bi h
 have g3:=Az C3 (Tt s1 B0)
 have j3:=Az b1 B0
 refine RD.cl 4 31 j0 rfl .plain body24 rfl (e4 rfl rfl rfl rfl) (fun w9 hw9=>interest_Parts_c n _ w9 (U0.hL hL hw9) y4 (Aw g3 hw9) y1.1 (Aw j3 hw9) ([(0:Int),(0:Int),(1:Int),(1:Int)]:List Int) (Aw c1 hw9) (2:Int) (hG0.keep (U0.ag.trans hw9)) j4) rfl (fun y5 j5 y2 ⟨Y4,hu_,F3⟩=>?_)
 subst hu_
 obtain ⟨V0,C0⟩:=U0.agr y2
 refine Ag 5 63 j0 rfl u0 (fun _=>Ai rfl) rfl<|Ag 6 127 j0 rfl u0 (fun _=>Ah rfl rfl) rfl<|Ag 7 255 j0 rfl u0 (fun _=>Ah rfl rfl) rfl<|Ag 8 511 j0 rfl u0 (fun _=>AS rfl) rfl<|Ag 9 1023 j0 rfl u0 (fun _=>AS rfl) rfl<|AK (dk j0)<|Ac<|Ae rfl<|Ab (AJ rfl (V0.memA .hd))<|Ae rfl ?_
 obtain ⟨R1,k4,h⟩:=bi h
 have H1:=Tt s1 (Tt B0 C0)
 have k3:=Az H0 H1
 have p3:=Az b1 (Tt B0 C0)
 have q3:=Az c1 C0
 refine Bp (fst:=[]) (cap:=[]) .plain body19 rfl (e4 rfl rfl rfl rfl) (fun w9 hw9=>interest_Largest_c n _ w9 (V0.hL hL hw9) y1.2 (Aw k3 hw9) y1.1 (Aw p3 hw9) ([(0:Int),(0:Int),(1:Int),(1:Int)]:List Int) (Aw q3 hw9) (2:Int) (hG0.keep (V0.ag.trans hw9)) k4) rfl (fun z5 k5 z2 ⟨Z4,hu_,G3⟩=>?_)
 subst hu_
 obtain ⟨z1,Z0⟩:=V0.agr z2
 refine Ae rfl<|Ab (Ah rfl rfl)<|Ab (Ah rfl rfl)<|Af rfl<|Af rfl<|Aa<|Ac ?_
 obtain ⟨k1,p4,h⟩:=bi h
 refine Bc (.tuple #[.agg ((cs_TShare k1.1)).toArray,vI k1.2]) body15 rfl (e2 rfl rfl) (fun w9 hw9=>interest_Overlap_c n _ w9 (z1.hL0 hL hw9) (0:UInt64) (0:UInt64) p4) rfl<|Ae rfl<|Ab (Ah rfl rfl)<|Ab (Ah rfl rfl)<|Al .plain rfl (AA zL z1) (fun A5 I4 q2 D0=>?_)
 refine AX (cs_TShare k1.1) q2 .hd (onesB rfl) (fun B5 A1 E0=>?_)
 refine Af rfl<|Aa<|Aj<|dt 64 tb10_6 (fun c0 d0=>?_)
 refine Ag 2 4 c0 rfl d0 (fun _=>Ai rfl) rfl<|AF 3 12 18446744073709551584 c0 rfl d0 (AJ rfl (A1.memA (.tl .hd))) rfl<|Ag 4 28 c0 rfl d0 (fun _=>Ai rfl) rfl<|RD.nu 0 29 c0 rfl .plain rfl (AY (α:=Bool) (xs:=([false,true]:List Bool)) (vs:=[.bool false,.bool true]) (ds' :=[.bool false,.bool true]) rfl A1 el72 rfl (e2 rfl rfl) (by kernel_rfl) rfl) (fun u4 v1 W0 F0=>?_)
 have H2:=AB (cs:=[.bool false,.bool true]) (xs:=(([false,true]:List Bool):List Bool)) W0 L (Aq (cs:=[.bool false]) (ds:=[.bool true]) rfl (Aq (cs:=[.bool true]) (ds:=[]) rfl (AN _ _)))
 have H3:=Bu (α:=Bool) W0 .hd H2 hL
 have X0:=St.delS W0 .hd
 have G0:=St.delT W0 .hd
 have I1:=Rep.at_ (α:=Bool) (v:=(vS v1 2)) (xs:=([false,true]:List Bool)) X0 L H3
 refine RD.cl 1 31 c0 rfl .plain body40 rfl (e1 rfl) (fun w9 hw9=>Calls.gives (wardmotelaw27_truths_c n _ w9 (X0.hL hL hw9) ([false,true]:List Bool) (Aw I1 hw9)) fun (w8:World) (u8:Value) ⟨b0_,hu_,s_⟩=>(⟨b0_,hu_,s_.from hw9⟩:∃ P0:Nat,u8 = Value.func (.func 84) #[] #[vP P0]∧St u4 w8 [.cells P0 [(vS v1 2)] 72])) rfl (fun C5 b5 M4 ⟨P0,I3,J1⟩=>?_)
 subst I3
 have p1:=mk_push1 X0 J1
 have x0:=mk_tr1 X0 J1
 obtain ⟨P1,R3,h⟩:=bi h
 have C1:=Tt H1 (Tt Z0 (Tt D0 (Tt E0 (Tt F0 (Tt G0 x0)))))
 have K2:=Az H0 C1
 have D1:=Tt B0 (Tt C0 (Tt Z0 (Tt D0 (Tt E0 (Tt F0 (Tt G0 x0))))))
 have M2:=Az b1 D1
 have E1:=Tt C0 (Tt Z0 (Tt D0 (Tt E0 (Tt F0 (Tt G0 x0)))))
 have P2:=Az c1 E1
 refine RD.cl 5 63 c0 rfl .plain body25 rfl (e4 rfl rfl rfl rfl) (fun w9 hw9=>interest_Kept_c n _ w9 (p1.hL hL hw9) y1.2 (Aw K2 hw9) y1.1 (Aw M2 hw9) ([(0:Int),(0:Int),(1:Int),(1:Int)]:List Int) (Aw P2 hw9) (2:Int) (hG0.keep (p1.ag.trans hw9)) R3) rfl (fun p5 c5 x2 ⟨U4,hu_,x3⟩=>?_)
 subst hu_
 obtain ⟨v0,y0⟩:=p1.agr x2
 refine Ag 6 127 c0 rfl d0 (fun _=>Ah rfl rfl) rfl<|Ag 7 255 c0 rfl d0 (fun _=>Ah rfl rfl) rfl ?_
 obtain ⟨z4,U3,h⟩:=bi h
 have Q2:=Az I1 (Tt x0 y0)
 refine RD.callq (i:=8) (m' :=511) (W:=18446744073709551104) (tk c0) rfl d0 (v:=.bool z4) (fst:=[]) (cap:=[vP P0]) .plain body84 rfl (e2 rfl rfl) (fun w9 hw9=>wardmotelaw27_truths_1_c n _ w9 (v0.hL0 hL hw9) P1.1 (v0.kd x3 hw9) P1.2 ([false,true]:List Bool) (v0.kd Q2 hw9) (fun j9 v9 h9=>hw9.cell0 ((v0.memA .hd) j9 v9 h9)) U3) rfl<|Ag 9 1023 c0 rfl d0 (fun _=>Ai rfl) rfl<|RD.ifb (s:=43) rfl h (fun V1 h=>?_) (fun V1 h=>?_)
 refine RD.vP 10 2047 c0 rfl d0 (.yes rfl rfl) (fun _=>Ai rfl) rfl<|RD.vP 11 4095 c0 rfl d0 (.yes rfl rfl) (fun _=>FV.eql (i:=j1.2) (j:=0) rfl rfl) rfl<|Ag 12 8191 c0 rfl d0 (fun _=>FV.pick_t rfl rfl) rfl<|Ag 13 16383 c0 rfl d0 (fun _=>Ai rfl) rfl<|RD.ifd (s:=47) rfl h (fun W1 h=>?_) (fun W1 h=>?_)
 refine RD.vP 14 32767 c0 rfl d0 (.yes rfl rfl) (fun _=>Ai rfl) rfl ?_
 have s3:=Tt Z0 (Tt D0 (Tt E0 (Tt F0 (Tt G0 (Tt x0 y0)))))
 have u1:=Az F3 s3
 have R4:j1.1.length ≤ 281474976710656:=AQ u1
 refine RD.val (i:=15) (m' :=65535) (W:=18446744073709486080) (tk c0) rfl d0 (.yes rfl rfl) (Bb (xs:=j1.1) Tryz.underlying69 rfl u1) rfl<|RD.vP 16 131071 c0 rfl d0 (.yes rfl rfl) (fun _=>FV.eqlN (i:=j1.1.length) (j:=1) rfl rfl) rfl<|Ag 17 262143 c0 rfl d0 (fun _=>FV.pick_t rfl rfl) rfl<|Ag 18 524287 c0 rfl d0 (fun _=>Ai rfl) rfl<|RD.ifd (s:=52) rfl h (fun X1 h=>?_) (fun X1 h=>?_)
 refine RD.vP 19 1048575 c0 rfl d0 (.yes rfl rfl) (fun _=>Ai rfl) rfl ?_
 obtain ⟨v4,M3,h⟩:=bi h
 obtain ⟨E4,J4,I2,J2,K4,y3,R2⟩:=Bk u1 M3
 obtain ⟨V4,rfl,z3⟩:=lst_one y3
 refine RD.vP 20 2097151 c0 rfl d0 (.yes rfl rfl) (fun _=>Bo 1 0 rfl I2 rfl rfl J2) rfl<|RD.val (i:=21) (m' :=4194303) (W:=18446744073701163008) (tk c0) rfl d0 (.yes rfl rfl) (AG rfl (R2 0 _ rfl)) rfl<|RD.nu 22 8388607 c0 rfl (.yes rfl rfl) rfl (AY (α:=UInt64) (xs:=([(3:UInt64),(4:UInt64)]:List UInt64)) (vs:=[vW 3,vW 4]) (ds' :=[vW 3,vW 4]) rfl v0 el75 rfl (e2 rfl rfl) (by kernel_rfl) rfl) (fun q5 F4 q0 A0=>?_)
 have C2:=AB (cs:=[vW 3,vW 4]) (xs:=(([(3:UInt64),(4:UInt64)]:List UInt64):List UInt64)) q0 L (Aq (cs:=[vW 3]) (ds:=[vW 4]) rfl (Aq (cs:=[vW 4]) (ds:=[]) rfl (AN _ _)))
 obtain ⟨A4,V3,h⟩:=bi h
 have U2:=Az z3 A0
 refine RD.callq (i:=23) (m' :=16777215) (W:=18446744073692774400) (tk c0) rfl d0 (v:=.bool A4) (fst:=[]) (cap:=[]) (.yes rfl rfl) body35 rfl (e2 rfl rfl) (fun w9 hw9=>slices_Equal_uint64_uint64_c n _ w9 (q0.hL0 hL hw9) v4 (q0.kd U2 hw9) ([(3:UInt64),(4:UInt64)]:List UInt64) (Aw (St.lend (α:=UInt64) (L:=L) q0 .hd C2 hL) hw9) V3) rfl<|Ag 24 33554431 c0 rfl d0 (fun _=>FV.pick_t rfl rfl) rfl<|Ag 25 67108863 c0 rfl d0 (fun _=>Ai rfl) rfl<|RD.ifb (s:=59) rfl h (fun Y1 h=>?_) (fun Y1 h=>?_)
 refine RD.vP 26 134217727 c0 rfl d0 (.yes rfl rfl) (fun _=>Ai rfl) rfl<|RD.vP 27 268435455 c0 rfl d0 (.yes rfl rfl) (fun _=>FV.eql (i:=R1.2) (j:=0) rfl rfl) rfl<|Ag 28 536870911 c0 rfl d0 (fun _=>FV.pick_t rfl rfl) rfl<|Ag 29 1073741823 c0 rfl d0 (fun _=>Ai rfl) rfl<|RD.ifd (s:=63) rfl h (fun Z1 h=>?_) (fun Z1 h=>?_)
 refine RD.vP 30 2147483647 c0 rfl d0 (.yes rfl rfl) (fun _=>Ai rfl) rfl ?_
 obtain ⟨p0,W3,h⟩:=bi h
 refine RD.callq (i:=31) (m' :=4294967295) (W:=18446744069414584320) (tk c0) rfl d0 (v:=.agg ((cs_TShare p0)).toArray) (fst:=[]) (cap:=[]) (.yes rfl rfl) body20 rfl (e2 rfl rfl) (fun w9 hw9=>wardmotelaw27_of_c n _ w9 (q0.hL0 hL hw9) (1:Int) (2:Int) W3) rfl ?_
 obtain ⟨k0,X3,h⟩:=bi h
 refine RD.callq (i:=32) (m' :=8589934591) (W:=18446744065119617024) (tk c0) rfl d0 (v:=.agg ((cs_TShare k0)).toArray) (fst:=[]) (cap:=[]) (.yes rfl rfl) body20 rfl (e2 rfl rfl) (fun w9 hw9=>wardmotelaw27_of_c n _ w9 (q0.hL0 hL hw9) (1:Int) (1:Int) X3) rfl<|RD.nu 33 17179869183 c0 rfl (.yes rfl rfl) rfl (AY (α:=TShare) (xs:=([p0,k0]:List TShare)) (vs:=[.agg ((cs_TShare p0)).toArray,.agg ((cs_TShare k0)).toArray]) (ds' :=(cs_TShare p0 ++ cs_TShare k0)) rfl q0 el60 rfl (e2 rfl rfl) (by kernel_rfl) rfl) (fun s4 G4 s0 Y0=>?_)
 have D2:=AB (cs:=(cs_TShare p0 ++ cs_TShare k0)) (xs:=(([p0,k0]:List TShare):List TShare)) s0 L (Aq (cs:=(cs_TShare p0)) (ds:=(cs_TShare k0)) (mk_TShare p0.fN p0.fD) (Aq (cs:=(cs_TShare k0)) (ds:=[]) (mk_TShare k0.fN k0.fD) (AN _ _)))
 obtain ⟨B4,Y3,h⟩:=bi h
 have t3:=Tt D0 (Tt E0 (Tt F0 (Tt G0 (Tt x0 (Tt y0 (Tt A0 Y0))))))
 have V2:=Az G3 t3
 refine RD.callq (i:=34) (m' :=34359738367) (W:=18446744039349813248) (tk c0) rfl d0 (v:=.bool B4) (fst:=[]) (cap:=[]) (.yes rfl rfl) body28 rfl (e2 rfl rfl) (fun w9 hw9=>slices_Equal_api_Share_api_Share_c n _ w9 (s0.hL0 hL hw9) R1.1 (s0.kd V2 hw9) ([p0,k0]:List TShare) (Aw (St.lend (α:=TShare) (L:=L) s0 .hd D2 hL) hw9) Y3) rfl<|Ag 35 68719476735 c0 rfl d0 (fun _=>FV.pick_t rfl rfl) rfl<|Ag 36 137438953471 c0 rfl d0 (fun _=>Ai rfl) rfl<|RD.ifb (s:=70) rfl h (fun b2 h=>?_) (fun b2 h=>?_)
 refine RD.vP 38 412316860415 c0 rfl d0 (.yes rfl rfl) (fun _=>Ai rfl) rfl<|RD.val (i:=39) (m' :=962072674303) (W:=18446741874686296064) (tk c0) rfl d0 (.yes rfl rfl) (AJ rfl (s0.memA (.tl (.tl (.tl (.tl .hd)))))) rfl<|RD.vP 40 2061584302079 c0 rfl d0 (.yes rfl rfl) (fun _=>Ai rfl) rfl<|RD.cl 37 2199023255551 c0 rfl (.yes rfl rfl) body41 rfl (e2 rfl rfl) (fun w9 hw9=>Calls.gives (wardmotelaw27_is_c n _ w9 (s0.hL hL hw9) (5:Int) (8:Int)) fun (w8:World) (u8:Value) ⟨b0_,b1_,hu_,s_⟩=>(⟨b0_,b1_,hu_,s_.from hw9⟩:∃ I0 J0:Nat,u8 = Value.func (.func 85) #[] #[vP I0,vP J0]∧St s4 w8 [.cells I0 [vI 5] 3,.cells J0 [vI 8] 3])) rfl (fun t4 d5 P4 ⟨I0,J0,J3,K1⟩=>?_)
 subst J3
 have g0:=mk_push2 s0 K1
 have q1:=mk_tr2 s0 K1
 obtain ⟨d1,Z3,h⟩:=bi h
 have F1:=Tt C1 (Tt y0 (Tt A0 (Tt Y0 q1)))
 have W2:=Az H0 F1
 have u3:=Tt D1 (Tt y0 (Tt A0 (Tt Y0 q1)))
 have X2:=Az b1 u3
 have v3:=Tt E1 (Tt y0 (Tt A0 (Tt Y0 q1)))
 have Y2:=Az c1 v3
 refine RD.callq (i:=41) (m' :=4398046511103) (W:=18446739675663040512) (tk c0) rfl d0 (v:=.tuple #[.agg ((cs_TShare d1.1)).toArray,vI d1.2]) (fst:=[]) (cap:=[]) (.yes rfl rfl) body23 rfl (e4 rfl rfl rfl rfl) (fun w9 hw9=>interest_Score_c n _ w9 (g0.hL0 hL hw9) y1.2 (g0.kd W2 hw9) y1.1 (g0.kd X2 hw9) ([(0:Int),(0:Int),(1:Int),(1:Int)]:List Int) (g0.kd Y2 hw9) (2:Int) (hG0.keep (g0.ag.trans hw9)) Z3) rfl<|RD.vP 42 8796093022207 c0 rfl d0 (.yes rfl rfl) (fun _=>Ah rfl rfl) rfl<|RD.vP 43 17592186044415 c0 rfl d0 (.yes rfl rfl) (fun _=>Ah rfl rfl) rfl ?_
 obtain ⟨C4,b4,h⟩:=bi h
 refine RD.callq (i:=44) (m' :=35184372088831) (W:=18446708889337462784) (tk c0) rfl d0 (v:=.bool C4) (fst:=[]) (cap:=[vP I0,vP J0]) (.yes rfl rfl) body85 rfl (e2 rfl rfl) (fun w9 hw9=>wardmotelaw27_is_1_c n _ w9 (g0.hL0 hL hw9) d1.1 d1.2 (5:Int) (fun j9 v9 h9=>hw9.cell0 ((g0.memA .hd) j9 v9 h9)) (8:Int) (fun j9 v9 h9=>hw9.cell0 ((g0.memA (.tl .hd)) j9 v9 h9)) b4) rfl<|Ag 45 70368744177663 c0 rfl d0 (fun _=>FV.pick_t rfl rfl) rfl<|Ag 46 140737488355327 c0 rfl d0 (fun _=>Ai rfl) rfl<|RD.ifb (s:=80) rfl h (fun c2 h=>?_) (fun c2 h=>?_)
 refine RD.cl 47 281474976710655 c0 rfl (.yes rfl rfl) body41 rfl (e2 rfl rfl) (fun w9 hw9=>Calls.gives (wardmotelaw27_is_c n _ w9 (g0.hL hL hw9) (1:Int) (4:Int)) fun (w8:World) (u8:Value) ⟨b0_,b1_,hu_,s_⟩=>(⟨b0_,b1_,hu_,s_.from hw9⟩:∃ K0 M0:Nat,u8 = Value.func (.func 85) #[] #[vP K0,vP M0]∧St t4 w8 [.cells K0 [vI 1] 3,.cells M0 [vI 4] 3])) rfl (fun t5 g5 Q4 ⟨K0,M0,K3,M1⟩=>?_)
 subst K3
 have t0:=mk_push2 g0 M1
 have s2:=mk_tr2 g0 M1
 obtain ⟨g1,c4,h⟩:=bi h
 refine RD.callq (i:=48) (m' :=562949953421311) (W:=18446181123756130304) (tk c0) rfl d0 (v:=.tuple #[.agg ((cs_TShare g1.1)).toArray,vI g1.2]) (fst:=[]) (cap:=[]) (.yes rfl rfl) body15 rfl (e2 rfl rfl) (fun w9 hw9=>interest_Overlap_c n _ w9 (t0.hL0 hL hw9) (7:UInt64) (12:UInt64) c4) rfl<|RD.vP 49 1125899906842623 c0 rfl d0 (.yes rfl rfl) (fun _=>Ah rfl rfl) rfl<|RD.vP 50 2251799813685247 c0 rfl d0 (.yes rfl rfl) (fun _=>Ah rfl rfl) rfl ?_
 obtain ⟨D4,d4,h⟩:=bi h
 refine RD.callq (i:=51) (m' :=4503599627370495) (W:=18442240474082181120) (tk c0) rfl d0 (v:=.bool D4) (fst:=[]) (cap:=[vP K0,vP M0]) (.yes rfl rfl) body85 rfl (e2 rfl rfl) (fun w9 hw9=>wardmotelaw27_is_1_c n _ w9 (t0.hL0 hL hw9) g1.1 g1.2 (1:Int) (fun j9 v9 h9=>hw9.cell0 ((t0.memA .hd) j9 v9 h9)) (4:Int) (fun j9 v9 h9=>hw9.cell0 ((t0.memA (.tl .hd)) j9 v9 h9)) d4) rfl<|Ag 52 9007199254740991 c0 rfl d0 (fun _=>FV.pick_t rfl rfl) rfl<|Ag 53 18014398509481983 c0 rfl d0 (fun _=>Ai rfl) rfl<|RD.ifb (s:=87) rfl h (fun d2 h=>?_) (fun d2 h=>?_)
 refine RD.vP 54 36028797018963967 c0 rfl d0 (.yes rfl rfl) (fun _=>Ai rfl) rfl<|RD.vP 55 72057594037927935 c0 rfl d0 (.yes rfl rfl) (fun _=>FV.eql (i:=k1.2) (j:=7) rfl rfl) rfl<|Ag 56 144115188075855871 c0 rfl d0 (fun _=>FV.pick_t rfl rfl) rfl<|Ag 57 288230376151711743 c0 rfl d0 (fun _=>Ai rfl) rfl<|RD.ifd (s:=91) rfl h (fun g2 h=>?_) (fun g2 h=>?_)
 refine RD.vP 58 576460752303423487 c0 rfl d0 (.yes rfl rfl) (fun _=>Ai rfl) rfl ?_
 obtain ⟨x4,P3,h⟩:=bi h
 have Z2:=Az H0 (Tt F1 s2)
 refine RD.valE (i:=59) (m' :=1152921504606846975) (W:=17293822569102704640) (tk c0) rfl d0 (.yes rfl rfl) rfl (FV.cutL (α:=TInterest) P3 (by kernel_rfl) rfl Z2 ⟨_,rfl⟩ rfl) (fun W4 A3=>?_)
 obtain ⟨Q1,g4,h⟩:=bi h
 refine RD.callq (i:=60) (m' :=2305843009213693951) (W:=16140901064495857664) (tk c0) rfl d0 (v:=vI Q1) (fst:=[]) (cap:=[]) (.yes rfl rfl) body13 rfl (e2 rfl rfl) (fun w9 hw9=>interest_Check_c n _ w9 (t0.hL0 hL hw9) (3:Int) x4 (t0.kd A3 hw9) g4) rfl<|RD.vP 61 4611686018427387903 c0 rfl d0 (.yes rfl rfl) (fun _=>FV.eql (i:=Q1) (j:=270) rfl rfl) rfl<|Ag 62 9223372036854775807 c0 rfl d0 (fun _=>FV.pick_t rfl rfl) rfl<|Ag 63 18446744073709551615 c0 rfl d0 (fun _=>AS rfl) rfl<|AK (dk c0)<|Ak rfl<|AP hb0 Tryz.func10 rfl rfl ?_
 cases h
 exact t0.gv
 refine Ba 4611686018427387903 2 [(58,92),(59,93),(60,94),(61,95)] (F:=[(91,false)]) (U:=[]) c0 d0 (.cons rfl .nil) .nil ?_
 dsimp only [offS,List.map]
 refine Ag 62 9223372036854775807 c0 rfl d0 (fun _=>AI rfl rfl) rfl<|Ag 63 18446744073709551615 c0 rfl d0 (fun _=>AS rfl) rfl<|AK (dk c0)<|Ak rfl<|AP hb0 Tryz.func10 rfl rfl ?_
 cases h
 exact t0.gv
 refine Ba 72057594037927935 8 [(54,88),(55,89)] (F:=[(87,false)]) (U:=[]) c0 d0 (.cons rfl .nil) .nil ?_
 dsimp only [offS,List.map]
 refine Ag 56 144115188075855871 c0 rfl d0 (fun _=>AI rfl rfl) rfl<|Ag 57 288230376151711743 c0 rfl d0 (fun _=>Ai rfl) rfl<|Ba 4611686018427387903 2 [(58,92),(59,93),(60,94),(61,95)] (F:=[(91,false)]) (U:=[]) c0 d0 (.cons rfl .nil) .nil ?_
 dsimp only [offS,List.map]
 refine Ag 62 9223372036854775807 c0 rfl d0 (fun _=>AI rfl rfl) rfl<|Ag 63 18446744073709551615 c0 rfl d0 (fun _=>AS rfl) rfl<|AK (dk c0)<|Ak rfl<|AP hb0 Tryz.func10 rfl rfl ?_
 cases h
 exact t0.gv
 refine Ba 4503599627370495 12 [(47,81),(48,82),(49,83),(50,84),(51,85)] (F:=[(80,false)]) (U:=[]) c0 d0 (.cons rfl .nil) .nil ?_
 dsimp only [offS,List.map]
 refine Ag 52 9007199254740991 c0 rfl d0 (fun _=>AI rfl rfl) rfl<|Ag 53 18014398509481983 c0 rfl d0 (fun _=>Ai rfl) rfl<|Ba 72057594037927935 8 [(54,88),(55,89)] (F:=[(87,false)]) (U:=[]) c0 d0 (.cons rfl .nil) .nil ?_
 dsimp only [offS,List.map]
 refine Ag 56 144115188075855871 c0 rfl d0 (fun _=>AI rfl rfl) rfl<|Ag 57 288230376151711743 c0 rfl d0 (fun _=>Ai rfl) rfl<|Ba 4611686018427387903 2 [(58,92),(59,93),(60,94),(61,95)] (F:=[(91,false)]) (U:=[]) c0 d0 (.cons rfl .nil) .nil ?_
 dsimp only [offS,List.map]
 refine Ag 62 9223372036854775807 c0 rfl d0 (fun _=>AI rfl rfl) rfl<|Ag 63 18446744073709551615 c0 rfl d0 (fun _=>AS rfl) rfl<|AK (dk c0)<|Ak rfl<|AP hb0 Tryz.func10 rfl rfl ?_
 cases h
 exact g0.gv
 refine Ba 35184372088831 19 [(37,71),(38,72),(39,73),(40,74),(41,75),(42,76),(43,77),(44,78)] (F:=[(70,false)]) (U:=[]) c0 d0 (.cons rfl .nil) .nil ?_
 dsimp only [offS,List.map]
 refine Ag 45 70368744177663 c0 rfl d0 (fun _=>AI rfl rfl) rfl<|Ag 46 140737488355327 c0 rfl d0 (fun _=>Ai rfl) rfl<|Ba 4503599627370495 12 [(47,81),(48,82),(49,83),(50,84),(51,85)] (F:=[(80,false)]) (U:=[]) c0 d0 (.cons rfl .nil) .nil ?_
 dsimp only [offS,List.map]
 refine Ag 52 9007199254740991 c0 rfl d0 (fun _=>AI rfl rfl) rfl<|Ag 53 18014398509481983 c0 rfl d0 (fun _=>Ai rfl) rfl<|Ba 72057594037927935 8 [(54,88),(55,89)] (F:=[(87,false)]) (U:=[]) c0 d0 (.cons rfl .nil) .nil ?_
 dsimp only [offS,List.map]
 refine Ag 56 144115188075855871 c0 rfl d0 (fun _=>AI rfl rfl) rfl<|Ag 57 288230376151711743 c0 rfl d0 (fun _=>Ai rfl) rfl<|Ba 4611686018427387903 2 [(58,92),(59,93),(60,94),(61,95)] (F:=[(91,false)]) (U:=[]) c0 d0 (.cons rfl .nil) .nil ?_
 dsimp only [offS,List.map]
 refine Ag 62 9223372036854775807 c0 rfl d0 (fun _=>AI rfl rfl) rfl<|Ag 63 18446744073709551615 c0 rfl d0 (fun _=>AS rfl) rfl<|AK (dk c0)<|Ak rfl<|AP hb0 Tryz.func10 rfl rfl ?_
 cases h
 exact s0.gv
 refine Ba 34359738367 29 [(30,64),(31,65),(32,66),(33,67),(34,68)] (F:=[(63,false)]) (U:=[]) c0 d0 (.cons rfl .nil) .nil ?_
 dsimp only [offS,List.map]
 refine Ag 35 68719476735 c0 rfl d0 (fun _=>AI rfl rfl) rfl<|Ag 36 137438953471 c0 rfl d0 (fun _=>Ai rfl) rfl<|Ba 35184372088831 19 [(37,71),(38,72),(39,73),(40,74),(41,75),(42,76),(43,77),(44,78)] (F:=[(70,false)]) (U:=[]) c0 d0 (.cons rfl .nil) .nil ?_
 dsimp only [offS,List.map]
 refine Ag 45 70368744177663 c0 rfl d0 (fun _=>AI rfl rfl) rfl<|Ag 46 140737488355327 c0 rfl d0 (fun _=>Ai rfl) rfl<|Ba 4503599627370495 12 [(47,81),(48,82),(49,83),(50,84),(51,85)] (F:=[(80,false)]) (U:=[]) c0 d0 (.cons rfl .nil) .nil ?_
 dsimp only [offS,List.map]
 refine Ag 52 9007199254740991 c0 rfl d0 (fun _=>AI rfl rfl) rfl<|Ag 53 18014398509481983 c0 rfl d0 (fun _=>Ai rfl) rfl<|Ba 72057594037927935 8 [(54,88),(55,89)] (F:=[(87,false)]) (U:=[]) c0 d0 (.cons rfl .nil) .nil ?_
 dsimp only [offS,List.map]
 refine Ag 56 144115188075855871 c0 rfl d0 (fun _=>AI rfl rfl) rfl<|Ag 57 288230376151711743 c0 rfl d0 (fun _=>Ai rfl) rfl<|Ba 4611686018427387903 2 [(58,92),(59,93),(60,94),(61,95)] (F:=[(91,false)]) (U:=[]) c0 d0 (.cons rfl .nil) .nil ?_
 dsimp only [offS,List.map]
 refine Ag 62 9223372036854775807 c0 rfl d0 (fun _=>AI rfl rfl) rfl<|Ag 63 18446744073709551615 c0 rfl d0 (fun _=>AS rfl) rfl<|AK (dk c0)<|Ak rfl<|AP hb0 Tryz.func10 rfl rfl ?_
 cases h
 exact q0.gv
 refine Ba 268435455 36 [(26,60),(27,61)] (F:=[(59,false)]) (U:=[]) c0 d0 (.cons rfl .nil) .nil ?_
 dsimp only [offS,List.map]
 refine Ag 28 536870911 c0 rfl d0 (fun _=>AI rfl rfl) rfl<|Ag 29 1073741823 c0 rfl d0 (fun _=>Ai rfl) rfl<|Ba 34359738367 29 [(30,64),(31,65),(32,66),(33,67),(34,68)] (F:=[(63,false)]) (U:=[]) c0 d0 (.cons rfl .nil) .nil ?_
 dsimp only [offS,List.map]
 refine Ag 35 68719476735 c0 rfl d0 (fun _=>AI rfl rfl) rfl<|Ag 36 137438953471 c0 rfl d0 (fun _=>Ai rfl) rfl<|Ba 35184372088831 19 [(37,71),(38,72),(39,73),(40,74),(41,75),(42,76),(43,77),(44,78)] (F:=[(70,false)]) (U:=[]) c0 d0 (.cons rfl .nil) .nil ?_
 dsimp only [offS,List.map]
 refine Ag 45 70368744177663 c0 rfl d0 (fun _=>AI rfl rfl) rfl<|Ag 46 140737488355327 c0 rfl d0 (fun _=>Ai rfl) rfl<|Ba 4503599627370495 12 [(47,81),(48,82),(49,83),(50,84),(51,85)] (F:=[(80,false)]) (U:=[]) c0 d0 (.cons rfl .nil) .nil ?_
 dsimp only [offS,List.map]
 refine Ag 52 9007199254740991 c0 rfl d0 (fun _=>AI rfl rfl) rfl<|Ag 53 18014398509481983 c0 rfl d0 (fun _=>Ai rfl) rfl<|Ba 72057594037927935 8 [(54,88),(55,89)] (F:=[(87,false)]) (U:=[]) c0 d0 (.cons rfl .nil) .nil ?_
 dsimp only [offS,List.map]
 refine Ag 56 144115188075855871 c0 rfl d0 (fun _=>AI rfl rfl) rfl<|Ag 57 288230376151711743 c0 rfl d0 (fun _=>Ai rfl) rfl<|Ba 4611686018427387903 2 [(58,92),(59,93),(60,94),(61,95)] (F:=[(91,false)]) (U:=[]) c0 d0 (.cons rfl .nil) .nil ?_
 dsimp only [offS,List.map]
 refine Ag 62 9223372036854775807 c0 rfl d0 (fun _=>AI rfl rfl) rfl<|Ag 63 18446744073709551615 c0 rfl d0 (fun _=>AS rfl) rfl<|AK (dk c0)<|Ak rfl<|AP hb0 Tryz.func10 rfl rfl ?_
 cases h
 exact q0.gv
 refine Ba 16777215 40 [(19,53),(20,54),(21,55),(22,56),(23,57)] (F:=[(52,false)]) (U:=[]) c0 d0 (.cons rfl .nil) .nil ?_
 dsimp only [offS,List.map]
 refine Ag 24 33554431 c0 rfl d0 (fun _=>AI rfl rfl) rfl<|Ag 25 67108863 c0 rfl d0 (fun _=>Ai rfl) rfl<|Ba 268435455 36 [(26,60),(27,61)] (F:=[(59,false)]) (U:=[]) c0 d0 (.cons rfl .nil) .nil ?_
 dsimp only [offS,List.map]
 refine Ag 28 536870911 c0 rfl d0 (fun _=>AI rfl rfl) rfl<|Ag 29 1073741823 c0 rfl d0 (fun _=>Ai rfl) rfl<|Ba 34359738367 29 [(30,64),(31,65),(32,66),(33,67),(34,68)] (F:=[(63,false)]) (U:=[]) c0 d0 (.cons rfl .nil) .nil ?_
 dsimp only [offS,List.map]
 refine Ag 35 68719476735 c0 rfl d0 (fun _=>AI rfl rfl) rfl<|Ag 36 137438953471 c0 rfl d0 (fun _=>Ai rfl) rfl<|Ba 35184372088831 19 [(37,71),(38,72),(39,73),(40,74),(41,75),(42,76),(43,77),(44,78)] (F:=[(70,false)]) (U:=[]) c0 d0 (.cons rfl .nil) .nil ?_
 dsimp only [offS,List.map]
 refine Ag 45 70368744177663 c0 rfl d0 (fun _=>AI rfl rfl) rfl<|Ag 46 140737488355327 c0 rfl d0 (fun _=>Ai rfl) rfl<|Ba 4503599627370495 12 [(47,81),(48,82),(49,83),(50,84),(51,85)] (F:=[(80,false)]) (U:=[]) c0 d0 (.cons rfl .nil) .nil ?_
 dsimp only [offS,List.map]
 refine Ag 52 9007199254740991 c0 rfl d0 (fun _=>AI rfl rfl) rfl<|Ag 53 18014398509481983 c0 rfl d0 (fun _=>Ai rfl) rfl<|Ba 72057594037927935 8 [(54,88),(55,89)] (F:=[(87,false)]) (U:=[]) c0 d0 (.cons rfl .nil) .nil ?_
 dsimp only [offS,List.map]
 refine Ag 56 144115188075855871 c0 rfl d0 (fun _=>AI rfl rfl) rfl<|Ag 57 288230376151711743 c0 rfl d0 (fun _=>Ai rfl) rfl<|Ba 4611686018427387903 2 [(58,92),(59,93),(60,94),(61,95)] (F:=[(91,false)]) (U:=[]) c0 d0 (.cons rfl .nil) .nil ?_
 dsimp only [offS,List.map]
 refine Ag 62 9223372036854775807 c0 rfl d0 (fun _=>AI rfl rfl) rfl<|Ag 63 18446744073709551615 c0 rfl d0 (fun _=>AS rfl) rfl<|AK (dk c0)<|Ak rfl<|AP hb0 Tryz.func10 rfl rfl ?_
 cases h
 exact v0.gv
 refine Ba 131071 47 [(14,48),(15,49),(16,50)] (F:=[(47,false)]) (U:=[]) c0 d0 (.cons rfl .nil) .nil ?_
 dsimp only [offS,List.map]
 refine Ag 17 262143 c0 rfl d0 (fun _=>AI rfl rfl) rfl<|Ag 18 524287 c0 rfl d0 (fun _=>Ai rfl) rfl<|Ba 16777215 40 [(19,53),(20,54),(21,55),(22,56),(23,57)] (F:=[(52,false)]) (U:=[]) c0 d0 (.cons rfl .nil) .nil ?_
 dsimp only [offS,List.map]
 refine Ag 24 33554431 c0 rfl d0 (fun _=>AI rfl rfl) rfl<|Ag 25 67108863 c0 rfl d0 (fun _=>Ai rfl) rfl<|Ba 268435455 36 [(26,60),(27,61)] (F:=[(59,false)]) (U:=[]) c0 d0 (.cons rfl .nil) .nil ?_
 dsimp only [offS,List.map]
 refine Ag 28 536870911 c0 rfl d0 (fun _=>AI rfl rfl) rfl<|Ag 29 1073741823 c0 rfl d0 (fun _=>Ai rfl) rfl<|Ba 34359738367 29 [(30,64),(31,65),(32,66),(33,67),(34,68)] (F:=[(63,false)]) (U:=[]) c0 d0 (.cons rfl .nil) .nil ?_
 dsimp only [offS,List.map]
 refine Ag 35 68719476735 c0 rfl d0 (fun _=>AI rfl rfl) rfl<|Ag 36 137438953471 c0 rfl d0 (fun _=>Ai rfl) rfl<|Ba 35184372088831 19 [(37,71),(38,72),(39,73),(40,74),(41,75),(42,76),(43,77),(44,78)] (F:=[(70,false)]) (U:=[]) c0 d0 (.cons rfl .nil) .nil ?_
 dsimp only [offS,List.map]
 refine Ag 45 70368744177663 c0 rfl d0 (fun _=>AI rfl rfl) rfl<|Ag 46 140737488355327 c0 rfl d0 (fun _=>Ai rfl) rfl<|Ba 4503599627370495 12 [(47,81),(48,82),(49,83),(50,84),(51,85)] (F:=[(80,false)]) (U:=[]) c0 d0 (.cons rfl .nil) .nil ?_
 dsimp only [offS,List.map]
 refine Ag 52 9007199254740991 c0 rfl d0 (fun _=>AI rfl rfl) rfl<|Ag 53 18014398509481983 c0 rfl d0 (fun _=>Ai rfl) rfl<|Ba 72057594037927935 8 [(54,88),(55,89)] (F:=[(87,false)]) (U:=[]) c0 d0 (.cons rfl .nil) .nil ?_
 dsimp only [offS,List.map]
 refine Ag 56 144115188075855871 c0 rfl d0 (fun _=>AI rfl rfl) rfl<|Ag 57 288230376151711743 c0 rfl d0 (fun _=>Ai rfl) rfl<|Ba 4611686018427387903 2 [(58,92),(59,93),(60,94),(61,95)] (F:=[(91,false)]) (U:=[]) c0 d0 (.cons rfl .nil) .nil ?_
 dsimp only [offS,List.map]
 refine Ag 62 9223372036854775807 c0 rfl d0 (fun _=>AI rfl rfl) rfl<|Ag 63 18446744073709551615 c0 rfl d0 (fun _=>AS rfl) rfl<|AK (dk c0)<|Ak rfl<|AP hb0 Tryz.func10 rfl rfl ?_
 cases h
 exact v0.gv
 refine Ba 4095 52 [(10,44),(11,45)] (F:=[(43,false)]) (U:=[]) c0 d0 (.cons rfl .nil) .nil ?_
 dsimp only [offS,List.map]
 refine Ag 12 8191 c0 rfl d0 (fun _=>AI rfl rfl) rfl<|Ag 13 16383 c0 rfl d0 (fun _=>Ai rfl) rfl<|Ba 131071 47 [(14,48),(15,49),(16,50)] (F:=[(47,false)]) (U:=[]) c0 d0 (.cons rfl .nil) .nil ?_
 dsimp only [offS,List.map]
 refine Ag 17 262143 c0 rfl d0 (fun _=>AI rfl rfl) rfl<|Ag 18 524287 c0 rfl d0 (fun _=>Ai rfl) rfl<|Ba 16777215 40 [(19,53),(20,54),(21,55),(22,56),(23,57)] (F:=[(52,false)]) (U:=[]) c0 d0 (.cons rfl .nil) .nil ?_
 dsimp only [offS,List.map]
 refine Ag 24 33554431 c0 rfl d0 (fun _=>AI rfl rfl) rfl<|Ag 25 67108863 c0 rfl d0 (fun _=>Ai rfl) rfl<|Ba 268435455 36 [(26,60),(27,61)] (F:=[(59,false)]) (U:=[]) c0 d0 (.cons rfl .nil) .nil ?_
 dsimp only [offS,List.map]
 refine Ag 28 536870911 c0 rfl d0 (fun _=>AI rfl rfl) rfl<|Ag 29 1073741823 c0 rfl d0 (fun _=>Ai rfl) rfl<|Ba 34359738367 29 [(30,64),(31,65),(32,66),(33,67),(34,68)] (F:=[(63,false)]) (U:=[]) c0 d0 (.cons rfl .nil) .nil ?_
 dsimp only [offS,List.map]
 refine Ag 35 68719476735 c0 rfl d0 (fun _=>AI rfl rfl) rfl<|Ag 36 137438953471 c0 rfl d0 (fun _=>Ai rfl) rfl<|Ba 35184372088831 19 [(37,71),(38,72),(39,73),(40,74),(41,75),(42,76),(43,77),(44,78)] (F:=[(70,false)]) (U:=[]) c0 d0 (.cons rfl .nil) .nil ?_
 dsimp only [offS,List.map]
 refine Ag 45 70368744177663 c0 rfl d0 (fun _=>AI rfl rfl) rfl<|Ag 46 140737488355327 c0 rfl d0 (fun _=>Ai rfl) rfl<|Ba 4503599627370495 12 [(47,81),(48,82),(49,83),(50,84),(51,85)] (F:=[(80,false)]) (U:=[]) c0 d0 (.cons rfl .nil) .nil ?_
 dsimp only [offS,List.map]
 refine Ag 52 9007199254740991 c0 rfl d0 (fun _=>AI rfl rfl) rfl<|Ag 53 18014398509481983 c0 rfl d0 (fun _=>Ai rfl) rfl<|Ba 72057594037927935 8 [(54,88),(55,89)] (F:=[(87,false)]) (U:=[]) c0 d0 (.cons rfl .nil) .nil ?_
 dsimp only [offS,List.map]
 refine Ag 56 144115188075855871 c0 rfl d0 (fun _=>AI rfl rfl) rfl<|Ag 57 288230376151711743 c0 rfl d0 (fun _=>Ai rfl) rfl<|Ba 4611686018427387903 2 [(58,92),(59,93),(60,94),(61,95)] (F:=[(91,false)]) (U:=[]) c0 d0 (.cons rfl .nil) .nil ?_
 dsimp only [offS,List.map]
 refine Ag 62 9223372036854775807 c0 rfl d0 (fun _=>AI rfl rfl) rfl<|Ag 63 18446744073709551615 c0 rfl d0 (fun _=>AS rfl) rfl<|AK (dk c0)<|Ak rfl<|AP hb0 Tryz.func10 rfl rfl ?_
 cases h
 exact v0.gv
structure TDraft where
  fL:List (UInt16 × UInt16)
  deriving DecidableEq
instance:Rep TDraft:=Rep.via (β:=(List (UInt16 × UInt16))) fun x=>x.fL
def tb11_5:List (Nat × Nat × Nat):=[(0,524288,4),(1,1048576,524288),(0,2097152,64),(6,4194304,3145728),(8,8388608,4194304),(16,16777216,8388608),(32,33554432,16777216),(0,67108864,2),(128,134217728,67108864),(320,268435456,167772160),(1023,128,268435456)]
def tb11_8:List (Nat × Nat × Nat):=[(0,2147483648,32),(0,4294967296,64),(2,8589934592,4294967296),(4,17179869184,8589934592),(8,34359738368,17179869184),(16,68719476736,34359738368),(32,137438953472,68719476736),(0,274877906944,4),(128,549755813888,274877906944),(0,1099511627776,64),(768,2199023255552,1649267441664),(1024,4398046511104,2199023255552),(2048,8796093022208,4398046511104),(4096,17592186044416,8796093022208),(8192,35184372088832,17592186044416),(0,70368744177664,128),(49216,140737488355328,105690555219968),(65536,281474976710656,140737488355328),(131073,562949953421312,281477124194304),(524287,32,562949953421312)]
theorem op_A102 {w:World} {L:List Nat} {cs:List Value} {x:UInt16 × UInt16} (h:Rep.R w L cs x):cs = [.int .u16 (x.1.toNat:Int),.int .u16 (x.2.toNat:Int)]:=by
  obtain ⟨c0,r0,rfl,h0,h⟩:=h
  have e0:c0 = [.int .u16 (x.1.toNat:Int)]:=h0; subst e0
  have e1:r0 = [.int .u16 (x.2.toNat:Int)]:=h; subst e1
  rfl
theorem mk_A102 {w:World} {L:List Nat} (a0:UInt16) (a1:UInt16):Rep.R w L [.int .u16 (a0.toNat:Int),.int .u16 (a1.toNat:Int)] ((a0,a1):UInt16 × UInt16):=⟨[.int .u16 (a0.toNat:Int)],[.int .u16 (a1.toNat:Int)],rfl,rfl,rfl⟩
theorem el46:ElT Tryz.prog 46 5 (Rep.size UInt8) 1 (.int .u8 0) [.int .u8 0]:=⟨Tryz.underlying46,by kernel_rfl,rfl,rfl,rfl,rfl⟩
def wardmoteref27_Draft_List_l1 (_n:Nat) (a0:TDraft) (a1:Int) (g0:Nat × (List TInterest) → Option (List TInterest)):Nat × (List TInterest) → Option (List TInterest)
  | (b0,c0)=>(if b0 < a0.fL.length then (if b0 < 6 then (a0.fL[b0]?).bind fun d0=>(natOf a1).bind fun k0=>(remW (u64of ((d0.2.toNat:Nat):Int)) (shlU (1:UInt64) k0)).bind fun j0=>(if j0 = (0:UInt64) then (sadd ⟨#[99]⟩ (bstr ([u8ofI ((97 + b0:Nat):Int)]:List UInt8))).bind fun p0=>(app c0 ([(⟨p0,((d0.1.toNat % 10:Nat):Int),(1:UInt64)⟩:TInterest)]:List TInterest)).bind fun s0=>g0 (b0 + 1,s0) else (sadd ⟨#[99]⟩ (bstr ([u8ofI ((97 + b0:Nat):Int)]:List UInt8))).bind fun q0=>(app c0 ([(⟨q0,((d0.1.toNat % 10:Nat):Int),j0⟩:TInterest)]:List TInterest)).bind fun t0=>g0 (b0 + 1,t0)) else some c0) else some c0)
def wardmoteref27_Draft_List_p (n:Nat) (a0:TDraft) (a1:Int):Option (List TInterest):=
  jn (fun c0=>some c0) (fun b0=>Option.bind (loopF (wardmoteref27_Draft_List_l1 n a0 a1) n (0,([]:List TInterest))) (b0))
theorem wardmoteref27_Draft_List_c (n:Nat) (L:List Nat) (w:World) (hL:∀ b ∈ L,b < w.heap.size) (a0:TDraft) {v0_0:Value} (h0_0:Rep.R w L [v0_0] a0.fL) (a1:Int)  {r:List TInterest} (h:wardmoteref27_Draft_List_p n a0 a1 = some r) :
    Calls Tryz.prog 11 #[.agg #[v0_0],vI a1] w (Gives w fun w' u=>∃ v0_0:Value,u = v0_0∧Rep.R w' L [v0_0] r):=by
 unfold wardmoteref27_Draft_List_p at h
 have hS0:=Ay w
 refine AC Tryz.func11 rfl rfl rfl (fun _ cs0 hb0=>?_)
 refine Ac<|Al .plain rfl (Ax hS0 rfl rfl) (fun v1 D0 Z0 U2=>?_)
 refine Af rfl<|Aa<|Ac<|Af rfl<|Aa<|Aj<|Ac<|Af rfl<|Aa<|Ar ?_
 have b1:=Z0.nilRow 65 (Rep.size TInterest)
 have V2:=St.nilRowT Z0 65 (Rep.size TInterest)
 have K1:=AB (cs:=[]) (xs:=([]:List TInterest)) b1 L (AN _ _)
 refine MX.joinx (α:=(List TInterest) × Value × (List Value)) (fun ⟨B0,z0,C0⟩=>[(5,z0)]) (fun ⟨B0,z0,C0⟩ G0=>St w G0 [.row w.heap.size 65 (Rep.size TInterest) z0 B0.length C0]∧Tr v1 [.row w.heap.size 65 (Rep.size TInterest) vN (([]:List TInterest).length) [],.cells D0 [v0_0] 24] G0 [.row w.heap.size 65 (Rep.size TInterest) z0 B0.length C0]∧Cells G0 (bl [.row w.heap.size 65 (Rep.size TInterest) z0 B0.length C0] ++ L) C0 B0) (fun ⟨B0,z0,C0⟩=>B0) (id:=0) rfl h ?_ ?_
 rintro ⟨B0,z0,C0⟩ G0 ⟨I0,W2,M1⟩ h
 try dsimp only at h
 refine Ac<|Ae rfl<|Af rfl<|Aa<|Ak rfl ?_
 have q2:=Bu (α:=TInterest) I0 .hd M1 hL
 have J0:=St.delS I0 .hd
 have X2:=St.delT I0 .hd
 have s2:=Rep.at_ (α:=TInterest) (v:=z0) (xs:=B0) J0 L q2
 refine AP hb0 Tryz.func11 rfl rfl ?_
 cases h
 exact ⟨J0.ag,fun w9 hw9=>⟨z0,rfl,J0.kd s2 hw9⟩⟩
 intro H2 X0 h
 try dsimp only at h
 obtain ⟨c3,j2,u1⟩:=bind_in2 h
 refine Be (α:=Nat × (List TInterest) × Value × (List Value)) (fun ⟨b0,v0,A0,x0⟩=>[(1,vI a1),(2,vP D0),(5,A0),(6,vI ((b0:Nat):Int))]) (fun ⟨b0,v0,A0,x0⟩ H0=>St w H0 [.row w.heap.size 65 (Rep.size TInterest) A0 v0.length x0,.cells D0 [v0_0] 24]∧Tr v1 [.row w.heap.size 65 (Rep.size TInterest) vN (([]:List TInterest).length) [],.cells D0 [v0_0] 24] H0 [.row w.heap.size 65 (Rep.size TInterest) A0 v0.length x0,.cells D0 [v0_0] 24]∧Cells H0 (bl [.row w.heap.size 65 (Rep.size TInterest) A0 v0.length x0,.cells D0 [v0_0] 24] ++ L) x0 v0) (fun ⟨b0,v0,A0,x0⟩=>(b0,v0)) (0,([]:List TInterest),vN,[]) j2 ⟨rfl,rfl,rfl,rfl,trivial⟩ ⟨b1,AT _ _,K1⟩ ?_
 rintro I2 ⟨b0,v0,A0,x0⟩ H0 Y0 ⟨y0,E0,F0⟩ h
 unfold wardmoteref27_Draft_List_l1 at h
 try dsimp only at h
 refine Aj<|Ac<|Ae rfl<|Bd 0 rfl<|AZ rfl ((y0.memA (.tl .hd)) 0 _ rfl) ?_
 have V0:=AH h0_0 y0
 have Y2:a0.fL.length ≤ 281474976710656:=AQ V0
 refine Ab (Bb (xs:=a0.fL) Tryz.underlying22 rfl V0)<|Ab (Bf (i:=b0) (j:=a0.fL.length) rfl rfl)<|Ae rfl<|RG.ifd (s:=13) rfl h (fun x1 h=>?_) (fun x1 h=>?_)
 refine AU (Ai rfl)<|AU (Bf (i:=b0) (j:=6) rfl rfl)<|RG.pt rfl rfl<|Aa<|AO rfl h (fun y1 h=>?_) (fun y1 h=>?_)
 refine Ao<|Aj<|Ar<|Aj<|dt 11 tb11_5 (fun p0 q0=>?_)
 refine Ag 0 1 p0 rfl q0 (fun _=>Bi 0 rfl) rfl<|AF 1 3 1656 p0 rfl q0 (AG rfl ((y0.memA (.tl .hd)) 0 _ rfl)) rfl<|Ag 2 7 p0 rfl q0 (fun _=>Ai rfl) rfl ?_
 obtain ⟨c0,y2,h⟩:=bi h
 obtain ⟨G2,Q2,R0,U0,R2,t2,W0⟩:=Bk V0 y2
 obtain rfl:=op_A102 t2
 refine Ag 3 15 p0 rfl q0 (fun _=>Bo 2 b0 rfl R0 rfl rfl U0) rfl<|Ag 4 31 p0 rfl q0 (fun _=>AR (m:=1) (k:=1) (len:=2) (by kernel_rfl) rfl rfl rfl (by omega)) rfl<|AF 5 63 1600 p0 rfl q0 (AG rfl (W0 1 _ rfl)) rfl<|Ag 6 127 p0 rfl q0 (fun _=>FV.convU (i:=((c0.2.toNat:Nat):Int)) Tryz.underlying101 Tryz.underlying28 rfl) rfl<|Ag 7 255 p0 rfl q0 (fun _=>Ai rfl) rfl ?_
 obtain ⟨B2,X1,h⟩:=bi h
 refine Ag 8 511 p0 rfl q0 (fun _=>FV.shlI (a:=(1:UInt64)) (i:=a1) rfl rfl X1) rfl ?_
 obtain ⟨s0,u2,h⟩:=bi h
 refine Ag 9 1023 p0 rfl q0 (fun _=>FV.remV (a:=u64of ((c0.2.toNat:Nat):Int)) (b:=shlU (1:UInt64) B2) rfl rfl u2) rfl<|Ag 10 2047 p0 rfl q0 (fun _=>AS rfl) rfl<|AK (dk p0)<|Aj<|Ac<|Ae rfl<|Ab (FV.eqlU (a:=s0) (b:=(0:UInt64)) rfl rfl)<|Aa<|AO rfl h (fun z1 h=>?_) (fun z1 h=>?_)
 refine Am<|Af rfl<|Aa<|dt 18 tb11_8 (fun d0 j0=>?_)
 refine Ag 0 1 d0 rfl j0 (fun _=>Ai rfl) rfl<|Ag 1 3 d0 rfl j0 (fun _=>Ai rfl) rfl<|Ag 2 7 d0 rfl j0 (fun _=>Bh (i:=97) (j:=b0) rfl rfl (by omega)) rfl<|Ag 3 15 d0 rfl j0 (fun _=>FV.convU8 (i:=((97 + b0:Nat):Int)) Tryz.underlying3 Tryz.underlying5 rfl) rfl<|Ag 7 143 d0 rfl j0 (fun _=>Bi 0 rfl) rfl<|AF 8 399 1014784 d0 rfl j0 (AG rfl ((y0.memA (.tl .hd)) 0 _ rfl)) rfl<|Ag 9 911 d0 rfl j0 (fun _=>Ai rfl) rfl<|Ag 10 1935 d0 rfl j0 (fun _=>Bo 2 b0 rfl R0 rfl rfl U0) rfl<|Ag 11 3983 d0 rfl j0 (fun _=>AR (m:=1) (k:=0) (len:=2) (by kernel_rfl) rfl rfl rfl (by omega)) rfl<|AF 12 8079 1007616 d0 rfl j0 (AG rfl (W0 0 _ rfl)) rfl ?_
 have Z2:=c0.1.toNat_lt
 refine Ag 13 16271 d0 rfl j0 (fun _=>FV.convN (i:=c0.1.toNat) Tryz.underlying101 Tryz.underlying3 rfl (by omega)) rfl<|Ag 14 32655 d0 rfl j0 (fun _=>FV.remN (i:=c0.1.toNat) (j:=10) rfl rfl rfl) rfl<|Ag 15 65423 d0 rfl j0 (fun _=>Ai rfl) rfl<|RD.nu 4 65439 d0 rfl .plain rfl (AY (α:=UInt8) (xs:=([u8ofI ((97 + b0:Nat):Int)]:List UInt8)) (vs:=[.int .u8 ((u8ofI ((97 + b0:Nat):Int)).toNat:Int)]) (ds' :=[.int .u8 ((u8ofI ((97 + b0:Nat):Int)).toNat:Int)]) rfl y0 el46 rfl (e1 rfl) (by kernel_rfl) rfl) (fun d3 J2 K0 c1=>?_)
 have P1:=AB (cs:=[.int .u8 ((u8ofI ((97 + b0:Nat):Int)).toNat:Int)]) (xs:=(([u8ofI ((97 + b0:Nat):Int)]:List UInt8):List UInt8)) K0 L (Aq (cs:=[.int .u8 ((u8ofI ((97 + b0:Nat):Int)).toNat:Int)]) (ds:=[]) rfl (AN _ _))
 refine AF 5 65471 983104 d0 rfl j0 (FV.bytesS (xs:=([u8ofI ((97 + b0:Nat):Int)]:List UInt8)) Tryz.underlying46 Tryz.underlying9 Tryz.underlying5 rfl (Src.row (α:=UInt8) K0 .hd P1)) rfl ?_
 obtain ⟨t0,v2,h⟩:=bi h
 refine Ag 6 65535 d0 rfl j0 (fun _=>FV.addS v2 rfl rfl) rfl<|Ag 16 131071 d0 rfl j0 (fun _=>AV (vs:=[.string t0,vI ((c0.1.toNat % 10:Nat):Int),vW 1]) (u:=.agg #[.string t0,vI ((c0.1.toNat % 10:Nat):Int),vW 1]) (e3 rfl rfl rfl) (fun w9=>by kernel_rfl)) rfl<|RD.nu 17 262143 d0 rfl .plain rfl (AY (α:=TInterest) (xs:=([(⟨t0,((c0.1.toNat % 10:Nat):Int),(1:UInt64)⟩:TInterest)]:List TInterest)) (vs:=[.agg #[.string t0,vI ((c0.1.toNat % 10:Nat):Int),vW 1]]) (ds' :=[.string t0,vI ((c0.1.toNat % 10:Nat):Int),vW 1]) rfl K0 el30 rfl (e1 rfl) (by kernel_rfl) rfl) (fun g3 K2 M0 d1=>?_)
 have Q1:=AB (cs:=[.string t0,vI ((c0.1.toNat % 10:Nat):Int),vW 1]) (xs:=(([(⟨t0,((c0.1.toNat % 10:Nat):Int),(1:UInt64)⟩:TInterest)]:List TInterest):List TInterest)) M0 L (Aq (cs:=[.string t0,vI ((c0.1.toNat % 10:Nat):Int),vW 1]) (ds:=[]) (mk_TInterest t0 ((c0.1.toNat % 10:Nat):Int) (1:UInt64)) (AN _ _))
 obtain ⟨E2,z2,h⟩:=bi h
 have Y1:=AD F0 (Tt c1 d1)
 refine By (i:=18) (rk d0) (RO.doesL (m' :=524287) (sk d0) rfl rfl .plain rfl (DoesL.app (α:=TInterest) (ys:=([(⟨t0,((c0.1.toNat % 10:Nat):Int),(1:UInt64)⟩:TInterest)]:List TInterest)) z2 M0 (fun _ _=>(.tl (.tl .hd))) el30 rfl rfl Y1 (Src.row (α:=TInterest) M0 .hd Q1)) (fun C2 j3 ⟨A1,C1,I1,R1⟩=>?_))
 refine By (i:=19) (rk d0) (RO.val (m' :=1048575) (sk d0) rfl .plain rfl (AS rfl) ?_)
 refine AK (dk d0)<|Au<|Am<|Ae rfl<|Ab (Bh (i:=b0) (j:=1) rfl rfl (by omega))<|Af rfl<|Aa ?_
 obtain ⟨D1,g1⟩:=AL C1 (.one (.tl (.tl .hd)) (.one (.tl (.tl .hd)) .done))
 have Z1:=AD R1 g1
 have k2:=Tt c1 (Tt d1 (Tt I1 g1))
 exact Y0 (b0 + 1,E2,C2,A1) _ _ ⟨rfl,rfl,rfl,rfl,trivial⟩ ⟨D1,(Tt E0 k2),Z1⟩ h
 refine Ao<|dt 18 tb11_8 (fun g0 k0=>?_)
 refine Ag 0 1 g0 rfl k0 (fun _=>Ai rfl) rfl<|Ag 1 3 g0 rfl k0 (fun _=>Ai rfl) rfl<|Ag 2 7 g0 rfl k0 (fun _=>Bh (i:=97) (j:=b0) rfl rfl (by omega)) rfl<|Ag 3 15 g0 rfl k0 (fun _=>FV.convU8 (i:=((97 + b0:Nat):Int)) Tryz.underlying3 Tryz.underlying5 rfl) rfl<|Ag 7 143 g0 rfl k0 (fun _=>Bi 0 rfl) rfl<|AF 8 399 1014784 g0 rfl k0 (AG rfl ((y0.memA (.tl .hd)) 0 _ rfl)) rfl<|Ag 9 911 g0 rfl k0 (fun _=>Ai rfl) rfl<|Ag 10 1935 g0 rfl k0 (fun _=>Bo 2 b0 rfl R0 rfl rfl U0) rfl<|Ag 11 3983 g0 rfl k0 (fun _=>AR (m:=1) (k:=0) (len:=2) (by kernel_rfl) rfl rfl rfl (by omega)) rfl<|AF 12 8079 1007616 g0 rfl k0 (AG rfl (W0 0 _ rfl)) rfl ?_
 have b3:=c0.1.toNat_lt
 refine Ag 13 16271 g0 rfl k0 (fun _=>FV.convN (i:=c0.1.toNat) Tryz.underlying101 Tryz.underlying3 rfl (by omega)) rfl<|Ag 14 32655 g0 rfl k0 (fun _=>FV.remN (i:=c0.1.toNat) (j:=10) rfl rfl rfl) rfl<|Ag 15 65423 g0 rfl k0 (fun _=>Ai rfl) rfl<|RD.nu 4 65439 g0 rfl .plain rfl (AY (α:=UInt8) (xs:=([u8ofI ((97 + b0:Nat):Int)]:List UInt8)) (vs:=[.int .u8 ((u8ofI ((97 + b0:Nat):Int)).toNat:Int)]) (ds' :=[.int .u8 ((u8ofI ((97 + b0:Nat):Int)).toNat:Int)]) rfl y0 el46 rfl (e1 rfl) (by kernel_rfl) rfl) (fun k3 M2 P0 j1=>?_)
 have U1:=AB (cs:=[.int .u8 ((u8ofI ((97 + b0:Nat):Int)).toNat:Int)]) (xs:=(([u8ofI ((97 + b0:Nat):Int)]:List UInt8):List UInt8)) P0 L (Aq (cs:=[.int .u8 ((u8ofI ((97 + b0:Nat):Int)).toNat:Int)]) (ds:=[]) rfl (AN _ _))
 refine AF 5 65471 983104 g0 rfl k0 (FV.bytesS (xs:=([u8ofI ((97 + b0:Nat):Int)]:List UInt8)) Tryz.underlying46 Tryz.underlying9 Tryz.underlying5 rfl (Src.row (α:=UInt8) P0 .hd U1)) rfl ?_
 obtain ⟨u0,x2,h⟩:=bi h
 refine Ag 6 65535 g0 rfl k0 (fun _=>FV.addS x2 rfl rfl) rfl<|Ag 16 131071 g0 rfl k0 (fun _=>AV (vs:=[.string u0,vI ((c0.1.toNat % 10:Nat):Int),vU s0]) (u:=.agg #[.string u0,vI ((c0.1.toNat % 10:Nat):Int),vU s0]) (e3 rfl rfl rfl) (fun w9=>by kernel_rfl)) rfl<|RD.nu 17 262143 g0 rfl .plain rfl (AY (α:=TInterest) (xs:=([(⟨u0,((c0.1.toNat % 10:Nat):Int),s0⟩:TInterest)]:List TInterest)) (vs:=[.agg #[.string u0,vI ((c0.1.toNat % 10:Nat):Int),vU s0]]) (ds' :=[.string u0,vI ((c0.1.toNat % 10:Nat):Int),vU s0]) rfl P0 el30 rfl (e1 rfl) (by kernel_rfl) rfl) (fun p3 P2 Q0 k1=>?_)
 have V1:=AB (cs:=[.string u0,vI ((c0.1.toNat % 10:Nat):Int),vU s0]) (xs:=(([(⟨u0,((c0.1.toNat % 10:Nat):Int),s0⟩:TInterest)]:List TInterest):List TInterest)) Q0 L (Aq (cs:=[.string u0,vI ((c0.1.toNat % 10:Nat):Int),vU s0]) (ds:=[]) (mk_TInterest u0 ((c0.1.toNat % 10:Nat):Int) s0) (AN _ _))
 obtain ⟨F2,A2,h⟩:=bi h
 have b2:=AD F0 (Tt j1 k1)
 refine By (i:=18) (rk g0) (RO.doesL (m' :=524287) (sk g0) rfl rfl .plain rfl (DoesL.app (α:=TInterest) (ys:=([(⟨u0,((c0.1.toNat % 10:Nat):Int),s0⟩:TInterest)]:List TInterest)) A2 Q0 (fun _ _=>(.tl (.tl .hd))) el30 rfl rfl b2 (Src.row (α:=TInterest) Q0 .hd V1)) (fun D2 q3 ⟨B1,E1,J1,W1⟩=>?_))
 refine By (i:=19) (rk g0) (RO.val (m' :=1048575) (sk g0) rfl .plain rfl (AS rfl) ?_)
 refine AK (dk g0)<|Au<|Am<|Ae rfl<|Ab (Bh (i:=b0) (j:=1) rfl rfl (by omega))<|Af rfl<|Aa ?_
 obtain ⟨F1,p1⟩:=AL E1 (.one (.tl (.tl .hd)) (.one (.tl (.tl .hd)) .done))
 have c2:=AD W1 p1
 have p2:=Tt j1 (Tt k1 (Tt J1 p1))
 exact Y0 (b0 + 1,F2,D2,B1) _ _ ⟨rfl,rfl,rfl,rfl,trivial⟩ ⟨F1,(Tt E0 p2),c2⟩ h
 refine AW rfl ?_
 have h:=u1 _ h
 try dsimp only at h
 obtain ⟨G1,q1⟩:=AL y0 (.one .hd .done)
 have d2:=AD F0 q1
 exact X0 (v0,A0,x0) _ _ ⟨rfl,trivial⟩ ⟨G1,(Tt E0 q1),d2⟩ h
 refine AE<|AE<|RG.pf rfl rfl<|Aa<|Bn rfl<|AW rfl ?_
 have h:=u1 _ h
 try dsimp only at h
 obtain ⟨H1,s1⟩:=AL y0 (.one .hd .done)
 have g2:=AD F0 s1
 exact X0 (v0,A0,x0) _ _ ⟨rfl,trivial⟩ ⟨H1,(Tt E0 s1),g2⟩ h
structure TDraft48 where
  fN:UInt8
  fF:List UInt8
  fMore:List (UInt8 × UInt8)
  fLabels:List UInt8
  fK:UInt8
  deriving DecidableEq
instance:Rep TDraft48:=Rep.via (β:=UInt8 × (List UInt8) × (List (UInt8 × UInt8)) × (List UInt8) × UInt8) fun x=>(x.fN,x.fF,x.fMore,x.fLabels,x.fK)
def wardmoteref21_Draft_Units_p (_n:Nat) (a0:TDraft48):Option Int:=
  some ((1 + ((a0.fN % (9:UInt8)).toNat):Nat):Int)
theorem wardmoteref21_Draft_Units_c (n:Nat) (L:List Nat) (w:World) (_hL:∀ b ∈ L,b < w.heap.size) (a0:TDraft48) {v0_1:Value} (_h0_1:Rep.R w L [v0_1] a0.fF) {v0_2:Value} (_h0_2:Rep.R w L [v0_2] a0.fMore) {v0_3:Value} (_h0_3:Rep.R w L [v0_3] a0.fLabels)  {r:Int} (h:wardmoteref21_Draft_Units_p n a0 = some r) :
    Calls Tryz.prog 49 #[.agg #[.int .u8 (a0.fN.toNat:Int),v0_1,v0_2,v0_3,.int .u8 (a0.fK.toNat:Int)]] w (Gives w fun _ u=>u = vI r):=by
 unfold wardmoteref21_Draft_Units_p at h
 have hS0:=Ay w
 refine AC Tryz.func49 rfl rfl rfl (fun _ cs0 hb0=>?_)
 refine Ac<|Al .plain rfl (Ax hS0 rfl rfl) (fun j0 c0 b0 d0=>?_)
 refine Af rfl<|Aa<|Ac<|Bd 0 rfl<|AZ rfl ((b0.memA .hd) 0 _ rfl)<|Ab (FV.rem8 (a:=a0.fN) (b:=(9:UInt8)) rfl rfl (by decide)) ?_
 have g0:=(a0.fN % (9:UInt8)).toNat_lt
 refine Ab (FV.convN (i:=(a0.fN % (9:UInt8)).toNat) Tryz.underlying5 Tryz.underlying3 rfl (by omega))<|Ab (Bh (i:=1) (j:=(a0.fN % (9:UInt8)).toNat) rfl rfl (by omega))<|Af rfl<|Aa<|Ak rfl<|AP hb0 Tryz.func49 rfl rfl ?_
 cases h
 exact b0.gv
def wardmoteref21_Draft_label_p (_n:Nat) (a0:TDraft48) (a1:Int):Option Int:=
  (if a1 < ((a0.fLabels.length:Nat):Int) then (idx a0.fLabels a1).bind fun b0=>some ((b0.toNat:Nat):Int) else some (0:Int))
theorem wardmoteref21_Draft_label_c (n:Nat) (L:List Nat) (w:World) (_hL:∀ b ∈ L,b < w.heap.size) (a0:TDraft48) {v0_1:Value} (_h0_1:Rep.R w L [v0_1] a0.fF) {v0_2:Value} (_h0_2:Rep.R w L [v0_2] a0.fMore) {v0_3:Value} (h0_3:Rep.R w L [v0_3] a0.fLabels) (a1:Int)  {r:Int} (h:wardmoteref21_Draft_label_p n a0 a1 = some r) :
    Calls Tryz.prog 50 #[.agg #[.int .u8 (a0.fN.toNat:Int),v0_1,v0_2,v0_3,.int .u8 (a0.fK.toNat:Int)],vI a1] w (Gives w fun _ u=>u = vI r):=by
 unfold wardmoteref21_Draft_label_p at h
 have hS0:=Ay w
 refine AC Tryz.func50 rfl rfl rfl (fun _ cs0 hb0=>?_)
 refine Ac<|Al .plain rfl (Ax hS0 rfl rfl) (fun E0 z0 b0 B0=>?_)
 refine Af rfl<|Aa<|Aj<|Ac<|Ae rfl<|Bd 3 rfl<|AZ rfl ((b0.memA .hd) 3 _ rfl) ?_
 have c0:=AH h0_3 b0
 have C0:a0.fLabels.length ≤ 281474976710656:=AQ c0
 refine Ab (Bb (xs:=a0.fLabels) Tryz.underlying46 rfl c0)<|Ab (FV.lss (i:=a1) (j:=((a0.fLabels.length:Nat):Int)) rfl rfl)<|Aa<|AO rfl h (fun g0 h=>?_) (fun g0 h=>?_)
 refine Ac<|Bd 3 rfl<|AZ rfl ((b0.memA .hd) 3 _ rfl)<|Ae rfl ?_
 obtain ⟨d0,v0,h⟩:=bi h
 obtain ⟨q0,x0⟩:=idx_in v0
 obtain ⟨y0,A0,k0,s0,j0,u0,t0⟩:=Bk c0 x0
 have p0:j0 = [.int .u8 (d0.toNat:Int)]:=u0; subst p0
 refine Ab (Bo 1 (a1.toNat) rfl k0 rfl q0 s0)<|AZ rfl (t0 0 _ rfl) ?_
 have D0:=d0.toNat_lt
 refine Ab (FV.convN (i:=d0.toNat) Tryz.underlying5 Tryz.underlying3 rfl (by omega))<|Af rfl<|Aa<|Ak rfl<|AP hb0 Tryz.func50 rfl rfl ?_
 cases h
 exact b0.gv
 refine Ao<|Ac<|Af rfl<|Aa<|Ak rfl<|AP hb0 Tryz.func50 rfl rfl ?_
 cases h
 exact b0.gv
def wardmoteref21_Labels_l1 (_n:Nat) (a0:List Int) (a1:Int) (d0:Nat → Option (Bool ⊕ Unit)):Nat → Option (Bool ⊕ Unit)
  | b0=>(if b0 < a0.length then (a0[b0]?).bind fun c0=>(if c0 < 0 then some (.inl false) else (if a1 ≤ c0 then some (.inl false) else d0 (b0 + 1))) else some (.inr ()))
def wardmoteref21_Labels_p (n:Nat) (a0:List Int) (a1:Int):Option Bool:=
  thn (loopF (wardmoteref21_Labels_l1 n a0 a1) n 0) (fun _=>(if 1 ≤ a0.length then some (decide (a0.length ≤ 64)) else some false))
theorem wardmoteref21_Labels_c (n:Nat) (L:List Nat) (w:World) (_hL:∀ b ∈ L,b < w.heap.size) (a0:List Int) {v0_0:Value} (h0_0:Rep.R w L [v0_0] a0) (a1:Int)  {r:Bool} (h:wardmoteref21_Labels_p n a0 a1 = some r) :
    Calls Tryz.prog 91 #[v0_0,vI a1] w (Gives w fun _ u=>u = .bool r):=by
 unfold wardmoteref21_Labels_p at h
 have hS0:=Ay w
 refine AC Tryz.func91 rfl rfl rfl (fun _ cs0 hb0=>?_)
 refine Ac<|Af rfl<|Aa<|Aj<|Ac<|Af rfl<|Aa<|Ar ?_
 obtain ⟨J0,C0,g0⟩:=thn_in h
 refine Be (α:=Nat) (fun b0=>[(0,v0_0),(1,vI a1),(5,vI ((b0:Nat):Int))]) (fun b0 j0=>St w j0 []∧Tr w [] j0 []) (fun b0=>b0) 0 C0 ⟨rfl,rfl,rfl,trivial⟩ ⟨hS0,AT _ _⟩ ?_
 rintro G0 b0 j0 z0 ⟨c0,A0⟩ h
 unfold wardmoteref21_Labels_l1 at h
 try dsimp only at h
 refine Aj<|Ac<|Ae rfl<|Ae rfl ?_
 have d0:=AH h0_0 c0
 have I0:a0.length ≤ 281474976710656:=AQ d0
 refine Ab (Bb (xs:=a0) Tryz.underlying53 rfl d0)<|Ab (Bf (i:=b0) (j:=a0.length) rfl rfl)<|Aa<|AO rfl h (fun t0 h=>?_) (fun t0 h=>?_)
 refine Ao<|Aj<|Ar<|Ac<|Ae rfl<|Ae rfl ?_
 obtain ⟨k0,E0,h⟩:=bi h
 obtain ⟨F0,H0,p0,q0,y0,D0,s0⟩:=Bk d0 E0
 have B0:y0 = [vI k0]:=D0; subst B0
 refine Ab (Bo 1 b0 rfl p0 rfl rfl q0)<|AZ rfl (s0 0 _ rfl)<|Ab (FV.lss (i:=k0) (j:=0) rfl rfl)<|Ae rfl<|RG.ifd (s:=17) rfl h (fun u0 h=>?_) (fun u0 h=>?_)
 refine AE<|AE<|AE<|AE<|AE<|AE<|RG.pt rfl rfl<|Aa<|Bj rfl<|Ac<|Af rfl<|Aa ?_
 have h:=thn_inl h g0
 refine Ak rfl<|AP hb0 Tryz.func91 rfl rfl ?_
 cases h
 exact c0.gv
 refine AU (Ai rfl)<|AU (Ai rfl)<|AU (Bo 1 b0 rfl p0 rfl rfl q0)<|AU (AG rfl (s0 0 _ rfl))<|AU (Ai rfl)<|AU (FV.geq (i:=k0) (j:=a1) rfl rfl)<|RG.pf rfl rfl<|Aa<|AO rfl h (fun v0 h=>?_) (fun v0 h=>?_)
 refine Ac<|Af rfl<|Aa ?_
 have h:=thn_inl h g0
 refine Ak rfl<|AP hb0 Tryz.func91 rfl rfl ?_
 cases h
 exact c0.gv
 refine Ao<|Au<|Am<|Ae rfl<|Ab (Bh (i:=b0) (j:=1) rfl rfl (by omega))<|Af rfl<|Aa ?_
 exact z0 (b0 + 1) _ _ ⟨rfl,rfl,rfl,trivial⟩ ⟨c0,A0⟩ h
 refine AW rfl ?_
 have h:=thn_inr h g0
 try dsimp only at h
 refine Ac<|Ae rfl<|Ab (Bb (xs:=a0) Tryz.underlying53 rfl d0)<|Ab (FV.geqN (i:=a0.length) (j:=1) rfl rfl)<|Ae rfl<|RG.ifd (s:=28) rfl h (fun x0 h=>?_) (fun x0 h=>?_)
 refine AU (Ai rfl)<|AU (Bb (xs:=a0) Tryz.underlying53 rfl d0)<|AU (FV.leqN (i:=a0.length) (j:=64) rfl rfl)<|RG.pt rfl rfl<|Af rfl<|Aa<|Ak rfl<|AP hb0 Tryz.func91 rfl rfl ?_
 cases h
 exact c0.gv
 refine AE<|AE<|AE<|RG.pf rfl rfl<|Af rfl<|Aa<|Ak rfl<|AP hb0 Tryz.func91 rfl rfl ?_
 cases h
 exact c0.gv
theorem el52:ElT Tryz.prog 52 3 (Rep.size Int) 8 (vI 0) [vI 0]:=⟨Tryz.underlying52,by kernel_rfl,rfl,rfl,rfl,rfl⟩
theorem body91:bodyB Tryz.prog 91 = true:=by kernel_rfl
def wardmoteref21_Canon_l1 (_n:Nat) (a0:List Int) (q0:Int × Nat × (List Int) × (List Int) → Option (List Int)):Int × Nat × (List Int) × (List Int) → Option (List Int)
  | (g0,b0,k0,d0)=>(if b0 < a0.length then (a0[b0]?).bind fun c0=>(idx d0 c0).bind fun t0=>jn (fun (y0,p0)=>(idx p0 c0).bind fun u0=>(app k0 ([u0]:List Int)).bind fun v0=>q0 (y0,b0 + 1,v0,p0)) (fun j0=>(if t0 < 0 then (put d0 ((c0.toNat:Nat):Int) g0).bind fun x0=>(chk (g0 + 1)).bind fun s0=>j0 (s0,x0) else j0 (g0,d0))) else some k0)
def wardmoteref21_Canon_p (n:Nat) (a0:List Int):Option ((List Int) × Int):=
  (wardmoteref21_Labels_p n a0 (8:Int)).bind fun y1=>(if y1 = true then Option.bind (loopF (wardmoteref21_Canon_l1 n a0) n (0,0,([]:List Int),([(-1:Int),(-1:Int),(-1:Int),(-1:Int),(-1:Int),(-1:Int),(-1:Int),(-1:Int)]:List Int))) (fun b0=>some (b0,(0:Int))) else some (([]:List Int),(210:Int)))
theorem wardmoteref21_Canon_c (n:Nat) (L:List Nat) (w:World) (hL:∀ b ∈ L,b < w.heap.size) (a0:List Int) {v0_0:Value} (h0_0:Rep.R w L [v0_0] a0)  {r:(List Int) × Int} (h:wardmoteref21_Canon_p n a0 = some r) :
    Calls Tryz.prog 51 #[v0_0] w (Gives w fun w' u=>∃ v0_0:Value,u = .tuple #[v0_0,vI r.2]∧Rep.R w' L [v0_0] r.1):=by
 unfold wardmoteref21_Canon_p at h
 have hS0:=Ay w
 refine AC Tryz.func51 rfl rfl rfl (fun _ cs0 hb0=>?_)
 refine Ac<|Af rfl<|Af rfl<|Aa<|Aj<|Ac<|Ae rfl ?_
 obtain ⟨y1,hy1,h⟩:=bi h
 refine Bc (.bool y1) body91 rfl (e2 rfl rfl) (fun w9 hw9=>wardmoteref21_Labels_c n _ w9 (hS0.hL0 hL hw9) a0 (hS0.kd h0_0 hw9) (8:Int) hy1) rfl<|Ab (Bz rfl)<|Aa<|MX.ifnb rfl h (fun c2 h=>?_) (fun c2 h=>?_)
 refine Ao<|Ac<|Al .plain rfl (AY (α:=Int) (xs:=([(-1:Int),(-1:Int),(-1:Int),(-1:Int),(-1:Int),(-1:Int),(-1:Int),(-1:Int)]:List Int)) (vs:=[vI (-1),vI (-1),vI (-1),vI (-1),vI (-1),vI (-1),vI (-1),vI (-1)]) (ds' :=[vI (-1),vI (-1),vI (-1),vI (-1),vI (-1),vI (-1),vI (-1),vI (-1)]) rfl hS0 el52 rfl (e8 rfl rfl rfl rfl rfl rfl rfl rfl) (by kernel_rfl) rfl) (fun U2 j0 D0 s3=>?_)
 have M1:=AB (cs:=[vI (-1),vI (-1),vI (-1),vI (-1),vI (-1),vI (-1),vI (-1),vI (-1)]) (xs:=(([(-1:Int),(-1:Int),(-1:Int),(-1:Int),(-1:Int),(-1:Int),(-1:Int),(-1:Int)]:List Int):List Int)) D0 L (Aq (cs:=[vI (-1)]) (ds:=[vI (-1),vI (-1),vI (-1),vI (-1),vI (-1),vI (-1),vI (-1)]) rfl (Aq (cs:=[vI (-1)]) (ds:=[vI (-1),vI (-1),vI (-1),vI (-1),vI (-1),vI (-1)]) rfl (Aq (cs:=[vI (-1)]) (ds:=[vI (-1),vI (-1),vI (-1),vI (-1),vI (-1)]) rfl (Aq (cs:=[vI (-1)]) (ds:=[vI (-1),vI (-1),vI (-1),vI (-1)]) rfl (Aq (cs:=[vI (-1)]) (ds:=[vI (-1),vI (-1),vI (-1)]) rfl (Aq (cs:=[vI (-1)]) (ds:=[vI (-1),vI (-1)]) rfl (Aq (cs:=[vI (-1)]) (ds:=[vI (-1)]) rfl (Aq (cs:=[vI (-1)]) (ds:=[]) rfl (AN _ _)))))))))
 refine Af rfl<|Aa<|Ac<|Af rfl<|Aa<|Ac<|Af rfl<|Aa<|Aj<|Ac<|Af rfl<|Aa<|Ar ?_
 have M0:=D0.nilRow 3 (Rep.size Int)
 have H1:=St.nilRowT D0 3 (Rep.size Int)
 have P1:=AB (cs:=[]) (xs:=([]:List Int)) M0 L (AN _ _)
 have k2:=AD M1 H1
 obtain ⟨v3,y2,d2⟩:=bind_in2 h
 refine Be (α:=Int × Nat × (List Int) × (List Int) × Value × (List Value) × (List Value)) (fun ⟨v0,g0,c0,k0,b0,d0,p0⟩=>[(0,v0_0),(4,(vS j0 8)),(5,vI v0),(6,b0),(7,vI ((g0:Nat):Int))]) (fun ⟨v0,g0,c0,k0,b0,d0,p0⟩ x0=>St w x0 [.row w.heap.size 3 (Rep.size Int) b0 c0.length d0,.row w.heap.size 3 (Rep.size Int) (vS j0 8) k0.length p0]∧Tr U2 [.row w.heap.size 3 (Rep.size Int) vN (([]:List Int).length) [],.row w.heap.size 3 (Rep.size Int) (vS j0 8) (([(-1:Int),(-1:Int),(-1:Int),(-1:Int),(-1:Int),(-1:Int),(-1:Int),(-1:Int)]:List Int).length) [vI (-1),vI (-1),vI (-1),vI (-1),vI (-1),vI (-1),vI (-1),vI (-1)]] x0 [.row w.heap.size 3 (Rep.size Int) b0 c0.length d0,.row w.heap.size 3 (Rep.size Int) (vS j0 8) k0.length p0]∧Cells x0 (bl [.row w.heap.size 3 (Rep.size Int) b0 c0.length d0,.row w.heap.size 3 (Rep.size Int) (vS j0 8) k0.length p0] ++ L) d0 c0∧Cells x0 (bl [.row w.heap.size 3 (Rep.size Int) b0 c0.length d0,.row w.heap.size 3 (Rep.size Int) (vS j0 8) k0.length p0] ++ L) p0 k0) (fun ⟨v0,g0,c0,k0,b0,d0,p0⟩=>(v0,g0,c0,k0)) (0,0,([]:List Int),([(-1:Int),(-1:Int),(-1:Int),(-1:Int),(-1:Int),(-1:Int),(-1:Int),(-1:Int)]:List Int),vN,[],[vI (-1),vI (-1),vI (-1),vI (-1),vI (-1),vI (-1),vI (-1),vI (-1)]) y2 ⟨rfl,rfl,rfl,rfl,rfl,trivial⟩ ⟨M0,AT _ _,P1,k2⟩ ?_
 rintro Z2 ⟨v0,g0,c0,k0,b0,d0,p0⟩ x0 D1 ⟨t0,I1,U0,G0⟩ h
 unfold wardmoteref21_Canon_l1 at h
 try dsimp only at h
 refine Aj<|Ac<|Ae rfl<|Ae rfl ?_
 have J0:=AH h0_0 t0
 have u3:a0.length ≤ 281474976710656:=AQ J0
 refine Ab (Bb (xs:=a0) Tryz.underlying53 rfl J0)<|Ab (Bf (i:=g0) (j:=a0.length) rfl rfl)<|Aa<|AO rfl h (fun t1 h=>?_) (fun t1 h=>?_)
 refine Ao<|Aj<|Ar<|Aj<|Ac<|Ae rfl<|Ae rfl<|Ae rfl ?_
 obtain ⟨y0,g1,h⟩:=bi h
 obtain ⟨X2,d3,W0,Z0,v1,z2,c1⟩:=Bk J0 g1
 have V1:v1 = [vI y0]:=z2; subst V1
 refine Ab (Bo 1 g0 rfl W0 rfl rfl Z0)<|AZ rfl (c1 0 _ rfl) ?_
 obtain ⟨j1,H2,h⟩:=bi h
 obtain ⟨Y0,I2⟩:=idx_in H2
 obtain ⟨k1,g3,B0,I0,x1,A2,p2⟩:=St.nth (α:=Int) t0 (.tl .hd) G0 I2
 obtain ⟨q1,j3,X0⟩:=St.nthOwn (α:=Int) t0 (.tl .hd) I0
 obtain rfl:k1 = ⟨q1,0,none⟩:=by rw [X0] at B0; cases B0; rfl
 have W1:x1 = [vI j1]:=A2; subst W1
 refine Ab (Bo 1 (y0.toNat) rfl B0 rfl Y0 I0)<|AZ rfl (p2 0 _ rfl)<|Ab (FV.lss (i:=j1) (j:=0) rfl rfl)<|Aa<|MX.join (α:=Int × (List Int) × (List Value)) (fun ⟨z0,q0,s0⟩=>[(0,v0_0),(4,(vS j0 8)),(5,vI z0),(6,b0),(7,vI ((g0:Nat):Int))]) (fun ⟨z0,q0,s0⟩ C0=>St w C0 [.row w.heap.size 3 (Rep.size Int) b0 c0.length d0,.row w.heap.size 3 (Rep.size Int) (vS j0 8) q0.length s0]∧Tr x0 [.row w.heap.size 3 (Rep.size Int) b0 c0.length d0,.row w.heap.size 3 (Rep.size Int) (vS j0 8) k0.length p0] C0 [.row w.heap.size 3 (Rep.size Int) b0 c0.length d0,.row w.heap.size 3 (Rep.size Int) (vS j0 8) q0.length s0]∧Cells C0 (bl [.row w.heap.size 3 (Rep.size Int) b0 c0.length d0,.row w.heap.size 3 (Rep.size Int) (vS j0 8) q0.length s0] ++ L) s0 q0) (fun ⟨z0,q0,s0⟩=>(z0,q0)) h ?_ ?_
 rintro ⟨z0,q0,s0⟩ C0 ⟨A0,P0,V0⟩ h
 try dsimp only at h
 refine Am<|Ae rfl<|Ae rfl<|Ae rfl<|Ae rfl ?_
 have s2:=AH h0_0 A0
 obtain ⟨Y2,k3,X1,j2,z1,B2,q2⟩:=Bk s2 g1
 have Y1:z1 = [vI y0]:=B2; subst Y1
 refine Ab (Bo 1 g0 rfl X1 rfl rfl j2)<|AZ rfl (q2 0 _ rfl) ?_
 obtain ⟨u0,J2,h⟩:=bi h
 obtain ⟨g2,K2⟩:=idx_in J2
 obtain ⟨p1,p3,H0,b1,A1,C2,t2⟩:=St.nth (α:=Int) A0 (.tl .hd) V0 K2
 obtain ⟨s1,q3,Z1⟩:=St.nthOwn (α:=Int) A0 (.tl .hd) b1
 obtain rfl:p1 = ⟨s1,0,none⟩:=by rw [Z1] at H0; cases H0; rfl
 have b2:A1 = [vI u0]:=C2; subst b2
 refine Ab (Bo 1 (y0.toNat) rfl H0 rfl g2 b1)<|AZ rfl (t2 0 _ rfl)<|Al .plain rfl (AY (α:=Int) (xs:=([u0]:List Int)) (vs:=[vI u0]) (ds' :=[vI u0]) rfl A0 el53 rfl (e1 rfl) (by kernel_rfl) rfl) (fun x3 c3 E0 Q0=>?_)
 have Q1:=AB (cs:=[vI u0]) (xs:=(([u0]:List Int):List Int)) E0 L (Aq (cs:=[vI u0]) (ds:=[]) rfl (AN _ _))
 obtain ⟨V2,M2,h⟩:=bi h
 have u2:=AD U0 (Tt P0 Q0)
 refine RG.doesL .plain rfl (DoesL.app (α:=Int) (ys:=([u0]:List Int)) M2 E0 (fun _ _=>(.tl .hd)) el53 rfl rfl u2 (Src.row (α:=Int) E0 .hd Q1)) (fun R2 y3 ⟨B1,E1,J1,R1⟩=>?_)
 refine Af rfl<|Aa<|Au<|Am<|Ae rfl<|Ab (Bh (i:=g0) (j:=1) rfl rfl (by omega))<|Af rfl<|Aa ?_
 obtain ⟨F1,R0⟩:=AL E1 (.one (.tl .hd) (.one (.tl .hd) .done))
 have v2:=AD R1 R0
 have d1:=Tt Q0 (Tt J1 R0)
 have x2:=AD V0 d1
 exact D1 (z0,g0 + 1,V2,q0,R2,B1,s0) _ _ ⟨rfl,rfl,rfl,rfl,rfl,trivial⟩ ⟨F1,(Tt I1 (Tt P0 d1)),v2,x2⟩ h
 intro b3 K0 h
 try dsimp only at h
 refine AO rfl h (fun u1 h=>?_) (fun u1 h=>?_)
 refine Ac<|Ae rfl<|Ae rfl<|Ae rfl<|Ab (Bo 1 g0 rfl W0 rfl rfl Z0)<|AZ rfl (c1 0 _ rfl)<|Ae rfl<|Ab (Bo 1 (y0.toNat) rfl B0 rfl Y0 I0) ?_
 obtain ⟨W2,P2,h⟩:=bi h
 refine RG.acts' .plain (Acts.set (α:=Int) (i:=y0.toNat) P2 t0 X0 (fun _=>(.tl .hd)) G0 rfl rfl rfl rfl rfl (by kernel_rfl)) (fun z3 ⟨C1,G1,K1,U1⟩=>?_)
 refine Aa<|Am<|Ae rfl ?_
 obtain ⟨Q2,G2,h⟩:=bi h
 refine Ab (FV.addc (i:=v0) (j:=1) rfl rfl G2)<|Af rfl<|Aa ?_
 exact K0 (Q2,W2,C1) _ _ ⟨rfl,rfl,rfl,rfl,rfl,trivial⟩ ⟨G1,K1,U1⟩ h
 refine Ao ?_
 exact K0 (v0,k0,p0) _ _ ⟨rfl,rfl,rfl,rfl,rfl,trivial⟩ ⟨t0,AT _ _,G0⟩ h
 refine AW rfl ?_
 have h:=d2 _ h
 try dsimp only at h
 refine Ac<|Ae rfl<|Af rfl<|Af rfl<|Aa<|Ak rfl ?_
 have D2:=Bu (α:=Int) t0 .hd U0 hL
 have F0:=St.delS t0 .hd
 have t3:=St.delT t0 .hd
 have E2:=Rep.at_ (α:=Int) (v:=b0) (xs:=c0) F0 L D2
 refine Ap hb0 Tryz.func51 rfl (.cons (.tmp rfl) (.cons (.tmp rfl) .nil)) rfl ?_
 cases h
 exact ⟨F0.ag,fun w9 hw9=>⟨b0,rfl,F0.kd E2 hw9⟩⟩
 refine Ac<|Af rfl<|Af rfl<|Aa<|Ak rfl ?_
 have F2:=Rep.nilAt (α:=Int) hS0 L
 refine Ap hb0 Tryz.func51 rfl (.cons (.tmp rfl) (.cons (.tmp rfl) .nil)) rfl ?_
 cases h
 exact ⟨hS0.ag,fun w9 hw9=>⟨vN,rfl,hS0.kd F2 hw9⟩⟩
def tb17_5:List (Nat × Nat × Nat):=[(0,16384,16),(0,32768,2),(0,65536,32),(6,131072,98304),(0,262144,2),(16,524288,262144),(32,1048576,524288),(64,2097152,1048576),(128,4194304,2097152),(264,8388608,4325376),(512,16777216,8388608),(1033,33554432,16793600),(4095,16,33554432)]
theorem body49:bodyB Tryz.prog 49 = true:=by kernel_rfl
theorem body50:bodyB Tryz.prog 50 = true:=by kernel_rfl
theorem body51:bodyB Tryz.prog 51 = true:=by kernel_rfl
def wardmoteref21_Draft_Loose_l1 (_n:Nat) (c0:(List Int) × Int) (g0:Int × Nat → Option Int):Int × Nat → Option Int
  | (d0,b0)=>(if b0 < c0.1.length then (c0.1[b0]?).bind fun k0=>(chk (k0 + 1)).bind fun j0=>g0 (max d0 j0,b0 + 1) else some d0)
def wardmoteref21_Draft_Loose_l2 (n:Nat) (a0:TDraft48) (d0:Int × (List Int) → Option (List Int)):Int × (List Int) → Option (List Int)
  | (b0,c0)=>(wardmoteref21_Draft_Units_p n a0).bind fun p0=>(if b0 < p0 then (wardmoteref21_Draft_label_p n a0 b0).bind fun q0=>(remI q0 ((1 + ((a0.fK % (8:UInt8)).toNat):Nat):Int)).bind fun j0=>(app c0 ([j0]:List Int)).bind fun k0=>(chk (b0 + 1)).bind fun g0=>d0 (g0,k0) else some c0)
def wardmoteref21_Draft_Loose_p (n:Nat) (a0:TDraft48):Option ((List Int) × Int):=
  Option.bind (loopF (wardmoteref21_Draft_Loose_l2 n a0) n (0,([]:List Int))) (fun c0=>(wardmoteref21_Canon_p n c0).bind fun b0=>Option.bind (loopF (wardmoteref21_Draft_Loose_l1 n b0) n (0,0)) (fun d0=>some (b0.1,d0)))
theorem wardmoteref21_Draft_Loose_c (n:Nat) (L:List Nat) (w:World) (hL:∀ b ∈ L,b < w.heap.size) (a0:TDraft48) {v0_1:Value} (h0_1:Rep.R w L [v0_1] a0.fF) {v0_2:Value} (h0_2:Rep.R w L [v0_2] a0.fMore) {v0_3:Value} (h0_3:Rep.R w L [v0_3] a0.fLabels)  {r:(List Int) × Int} (h:wardmoteref21_Draft_Loose_p n a0 = some r) :
    Calls Tryz.prog 17 #[.agg #[.int .u8 (a0.fN.toNat:Int),v0_1,v0_2,v0_3,.int .u8 (a0.fK.toNat:Int)]] w (Gives w fun w' u=>∃ v0_0:Value,u = .tuple #[v0_0,vI r.2]∧Rep.R w' L [v0_0] r.1):=by
 unfold wardmoteref21_Draft_Loose_p at h
 have hS0:=Ay w
 refine AC Tryz.func17 rfl rfl rfl (fun _ cs0 hb0=>?_)
 refine Ac<|Al .plain rfl (Ax hS0 rfl rfl) (fun b2 v0 E0 u2=>?_)
 refine Af rfl<|Af rfl<|Aa<|Ac<|Af rfl<|Aa<|Aj<|Ac<|Af rfl<|Aa<|Ar ?_
 have F0:=E0.nilRow 3 (Rep.size Int)
 have v2:=St.nilRowT E0 3 (Rep.size Int)
 have u1:=AB (cs:=[]) (xs:=([]:List Int)) F0 L (AN _ _)
 obtain ⟨A2,F1,z1⟩:=bind_in2 h
 refine Be (α:=Int × (List Int) × Value × (List Value)) (fun ⟨q0,g0,p0,s0⟩=>[(1,vP v0),(4,p0),(5,vI q0)]) (fun ⟨q0,g0,p0,s0⟩ y0=>St w y0 [.row w.heap.size 3 (Rep.size Int) p0 g0.length s0,.cells v0 [.int .u8 (a0.fN.toNat:Int),v0_1,v0_2,v0_3,.int .u8 (a0.fK.toNat:Int)] 49]∧Tr b2 [.row w.heap.size 3 (Rep.size Int) vN (([]:List Int).length) [],.cells v0 [.int .u8 (a0.fN.toNat:Int),v0_1,v0_2,v0_3,.int .u8 (a0.fK.toNat:Int)] 49] y0 [.row w.heap.size 3 (Rep.size Int) p0 g0.length s0,.cells v0 [.int .u8 (a0.fN.toNat:Int),v0_1,v0_2,v0_3,.int .u8 (a0.fK.toNat:Int)] 49]∧Cells y0 (bl [.row w.heap.size 3 (Rep.size Int) p0 g0.length s0,.cells v0 [.int .u8 (a0.fN.toNat:Int),v0_1,v0_2,v0_3,.int .u8 (a0.fK.toNat:Int)] 49] ++ L) s0 g0) (fun ⟨q0,g0,p0,s0⟩=>(q0,g0)) (0,([]:List Int),vN,[]) F1 ⟨rfl,rfl,rfl,trivial⟩ ⟨F0,AT _ _,u1⟩ ?_
 rintro k2 ⟨q0,g0,p0,s0⟩ y0 Z0 ⟨c0,p1,J0⟩ h
 unfold wardmoteref21_Draft_Loose_l2 at h
 try dsimp only at h
 refine Aj<|Ac<|Ae rfl<|Ab (AJ rfl (c0.memA (.tl .hd))) ?_
 obtain ⟨Q0,W1,h⟩:=bi h
 refine Bc (vI Q0) body49 rfl (e1 rfl) (fun w9 hw9=>wardmoteref21_Draft_Units_c n _ w9 (c0.hL0 hL hw9) a0 (c0.k0 h0_1 hw9) (c0.k0 h0_2 hw9) (c0.k0 h0_3 hw9) W1) rfl<|Ab (FV.lss (i:=q0) (j:=Q0) rfl rfl)<|Aa<|AO rfl h (fun V0 h=>?_) (fun V0 h=>?_)
 refine Ao<|Aj<|Ar<|dt 11 tb17_5 (fun b0 d0=>?_)
 refine Ag 0 1 b0 rfl d0 (fun _=>Ai rfl) rfl<|AF 1 3 7688 b0 rfl d0 (AJ rfl (c0.memA (.tl .hd))) rfl<|Ag 2 7 b0 rfl d0 (fun _=>Ai rfl) rfl ?_
 obtain ⟨R0,X1,h⟩:=bi h
 refine RD.cq 3 15 7680 (vI R0) b0 rfl d0 body50 rfl (e2 rfl rfl) (fun w9 hw9=>wardmoteref21_Draft_label_c n _ w9 (c0.hL0 hL hw9) a0 (c0.k0 h0_1 hw9) (c0.k0 h0_2 hw9) (c0.k0 h0_3 hw9) q0 X1) rfl<|Ag 4 31 b0 rfl d0 (fun _=>Bi 4 rfl) rfl<|AF 5 63 8128 b0 rfl d0 (AG rfl ((c0.memA (.tl .hd)) 4 _ rfl)) rfl<|Ag 6 127 b0 rfl d0 (fun _=>FV.rem8 (a:=a0.fK) (b:=(8:UInt8)) rfl rfl (by decide)) rfl ?_
 have y2:=(a0.fK % (8:UInt8)).toNat_lt
 refine Ag 7 255 b0 rfl d0 (fun _=>FV.convN (i:=(a0.fK % (8:UInt8)).toNat) Tryz.underlying5 Tryz.underlying3 rfl (by omega)) rfl<|Ag 8 511 b0 rfl d0 (fun _=>Bh (i:=1) (j:=(a0.fK % (8:UInt8)).toNat) rfl rfl (by omega)) rfl ?_
 obtain ⟨t0,Q1,h⟩:=bi h
 refine Ag 9 1023 b0 rfl d0 (fun _=>FV.remc (i:=R0) (j:=((1 + ((a0.fK % (8:UInt8)).toNat):Nat):Int)) rfl rfl Q1) rfl<|RD.nu 10 2047 b0 rfl .plain rfl (AY (α:=Int) (xs:=([t0]:List Int)) (vs:=[vI t0]) (ds' :=[vI t0]) rfl c0 el53 rfl (e1 rfl) (by kernel_rfl) rfl) (fun D2 p2 z0 G0=>?_)
 have s1:=AB (cs:=[vI t0]) (xs:=(([t0]:List Int):List Int)) z0 L (Aq (cs:=[vI t0]) (ds:=[]) rfl (AN _ _))
 obtain ⟨d2,U1,h⟩:=bi h
 have B1:=AD J0 G0
 refine By (i:=11) (rk b0) (RO.doesL (m' :=4095) (sk b0) rfl rfl .plain rfl (DoesL.app (α:=Int) (ys:=([t0]:List Int)) U1 z0 (fun _ _=>(.tl .hd)) el53 rfl rfl B1 (Src.row (α:=Int) z0 .hd s1)) (fun Z1 C2 ⟨W0,b1,j1,t1⟩=>?_))
 refine By (i:=12) (rk b0) (RO.val (m' :=8191) (sk b0) rfl .plain rfl (AS rfl) ?_)
 refine AK (dk b0)<|Au<|Am<|Ae rfl ?_
 obtain ⟨Y1,M1,h⟩:=bi h
 refine Ab (FV.addc (i:=q0) (j:=1) rfl rfl M1)<|Af rfl<|Aa ?_
 obtain ⟨c1,H0⟩:=AL b1 (.one (.tl .hd) (.one (.tl .hd) .done))
 have C1:=AD t1 H0
 have G1:=Tt G0 (Tt j1 H0)
 exact Z0 (Y1,d2,Z1,W0) _ _ ⟨rfl,rfl,rfl,trivial⟩ ⟨c1,(Tt p1 G1),C1⟩ h
 refine AW rfl ?_
 have h:=z1 _ h
 try dsimp only at h
 refine Ac<|Ae rfl ?_
 have H1:=Bu (α:=Int) c0 .hd J0 hL
 have A0:=St.delS c0 .hd
 have s2:=St.delT c0 .hd
 have I1:=Rep.at_ (α:=Int) (v:=p0) (xs:=g0) A0 L H1
 obtain ⟨D0,V1,h⟩:=bi h
 refine Bp (fst:=[]) (cap:=[]) .plain body51 rfl (e1 rfl) (fun w9 hw9=>wardmoteref21_Canon_c n _ w9 (A0.hL hL hw9) g0 (Aw I1 hw9) V1) rfl (fun c2 B2 q1 ⟨M0,hu_,J1⟩=>?_)
 subst hu_
 obtain ⟨d1,t2⟩:=A0.agr q1
 refine Ae rfl<|Ab (Ah rfl rfl)<|Ab (Ah rfl rfl)<|Af rfl<|Aa<|Ac<|Af rfl<|Aa<|Aj<|Ac<|Af rfl<|Aa<|Ar ?_
 obtain ⟨g1,k1⟩:=AL d1 .done
 obtain ⟨z2,E1,y1⟩:=bind_in2 h
 refine Be (α:=Int × Nat) (fun ⟨u0,j0⟩=>[(4,M0),(6,vI u0),(7,vI ((j0:Nat):Int))]) (fun ⟨u0,j0⟩ C0=>St w C0 []∧Tr c2 [] C0 []) (fun ⟨u0,j0⟩=>(u0,j0)) (0,0) E1 ⟨rfl,rfl,rfl,trivial⟩ ⟨g1,AT _ _⟩ ?_
 rintro j2 ⟨u0,j0⟩ C0 Y0 ⟨B0,I0⟩ h
 unfold wardmoteref21_Draft_Loose_l1 at h
 try dsimp only at h
 refine Aj<|Ac<|Ae rfl<|Ae rfl ?_
 have x0:=Az J1 (Tt k1 I0)
 have x2:D0.1.length ≤ 281474976710656:=AQ x0
 refine Ab (Bb (xs:=D0.1) Tryz.underlying53 rfl x0)<|Ab (Bf (i:=j0) (j:=D0.1.length) rfl rfl)<|Aa<|AO rfl h (fun U0 h=>?_) (fun U0 h=>?_)
 refine Ao<|Aj<|Ar<|Am<|Ae rfl<|Ae rfl<|Ae rfl ?_
 obtain ⟨P0,R1,h⟩:=bi h
 obtain ⟨g2,q2,v1,A1,X0,K1,D1⟩:=Bk x0 R1
 have x1:X0 = [vI P0]:=K1; subst x1
 refine Ab (Bo 1 j0 rfl v1 rfl rfl A1)<|AZ rfl (D1 0 _ rfl) ?_
 obtain ⟨K0,P1,h⟩:=bi h
 refine Ab (FV.addc (i:=P0) (j:=1) rfl rfl P1)<|Ab (FV.max2 (i:=u0) (j:=K0) rfl rfl)<|Af rfl<|Aa<|Au<|Am<|Ae rfl<|Ab (Bh (i:=j0) (j:=1) rfl rfl (by omega))<|Af rfl<|Aa ?_
 exact Y0 (max u0 K0,j0 + 1) _ _ ⟨rfl,rfl,rfl,trivial⟩ ⟨B0,I0⟩ h
 refine AW rfl ?_
 have h:=y1 _ h
 try dsimp only at h
 refine Ac<|Ae rfl<|Ae rfl<|Af rfl<|Af rfl<|Aa<|Ak rfl<|Ap hb0 Tryz.func17 rfl (.cons (.tmp rfl) (.cons (.tmp rfl) .nil)) rfl ?_
 cases h
 exact ⟨B0.ag,fun w9 hw9=>⟨M0,rfl,B0.kd x0 hw9⟩⟩
structure TDraft50 where
  fh:UInt8
  fc:UInt8
  fe:UInt8
  fu:UInt8
  fNums:List UInt8
  deriving DecidableEq
instance:Rep TDraft50:=Rep.via (β:=UInt8 × UInt8 × UInt8 × UInt8 × (List UInt8)) fun x=>(x.fh,x.fc,x.fe,x.fu,x.fNums)
def tb52_3:List (Nat × Nat × Nat):=[(0,512,4),(1,1024,512),(0,2048,2),(0,4096,4),(8,8192,4096),(16,16384,8192),(36,32768,18432),(66,65536,33792),(128,131072,65536),(256,262144,131072),(1023,16,262144)]
def wardmoteref22_Draft_num_p (_n:Nat) (a0:TDraft50) (a1:Int):Option Int:=
  (if a0.fNums.length = 0 then some (1:Int) else (remI a1 ((a0.fNums.length:Nat):Int)).bind fun b0=>(idx a0.fNums b0).bind fun c0=>some ((c0.toNat:Nat):Int))
theorem wardmoteref22_Draft_num_c (n:Nat) (L:List Nat) (w:World) (_hL:∀ b ∈ L,b < w.heap.size) (a0:TDraft50) {v0_4:Value} (h0_4:Rep.R w L [v0_4] a0.fNums) (a1:Int)  {r:Int} (h:wardmoteref22_Draft_num_p n a0 a1 = some r) :
    Calls Tryz.prog 52 #[.agg #[.int .u8 (a0.fh.toNat:Int),.int .u8 (a0.fc.toNat:Int),.int .u8 (a0.fe.toNat:Int),.int .u8 (a0.fu.toNat:Int),v0_4],vI a1] w (Gives w fun _ u=>u = vI r):=by
 unfold wardmoteref22_Draft_num_p at h
 have hS0:=Ay w
 refine AC Tryz.func52 rfl rfl rfl (fun _ cs0 hb0=>?_)
 refine Ac<|Al .plain rfl (Ax hS0 rfl rfl) (fun I0 D0 d0 F0=>?_)
 refine Af rfl<|Aa<|Aj<|Ac<|Bd 4 rfl<|AZ rfl ((d0.memA .hd) 4 _ rfl) ?_
 have g0:=AH h0_4 d0
 have G0:a0.fNums.length ≤ 281474976710656:=AQ g0
 refine Ab (Bb (xs:=a0.fNums) Tryz.underlying46 rfl g0)<|Ab (FV.eqlN (i:=a0.fNums.length) (j:=0) rfl rfl)<|Aa<|AO rfl h (fun k0 h=>?_) (fun k0 h=>?_)
 refine Ac<|Af rfl<|Aa<|Ak rfl<|AP hb0 Tryz.func52 rfl rfl ?_
 cases h
 exact d0.gv
 refine Ao<|Aj<|dt 11 tb52_3 (fun b0 c0=>?_)
 refine Ag 0 1 b0 rfl c0 (fun _=>Bi 4 rfl) rfl<|AF 1 3 1920 b0 rfl c0 (AG rfl ((d0.memA .hd) 4 _ rfl)) rfl<|Ag 2 7 b0 rfl c0 (fun _=>Ai rfl) rfl<|Ag 3 15 b0 rfl c0 (fun _=>Bi 4 rfl) rfl<|AF 4 31 2016 b0 rfl c0 (AG rfl ((d0.memA .hd) 4 _ rfl)) rfl<|AF 5 63 1984 b0 rfl c0 (Bb (xs:=a0.fNums) Tryz.underlying46 rfl g0) rfl ?_
 obtain ⟨B0,y0,h⟩:=bi h
 refine Ag 6 127 b0 rfl c0 (fun _=>FV.remc (i:=a1) (j:=((a0.fNums.length:Nat):Int)) rfl rfl y0) rfl ?_
 obtain ⟨j0,z0,h⟩:=bi h
 obtain ⟨t0,A0⟩:=idx_in z0
 obtain ⟨C0,E0,q0,u0,p0,x0,v0⟩:=Bk g0 A0
 have s0:p0 = [.int .u8 (j0.toNat:Int)]:=x0; subst s0
 refine Ag 7 255 b0 rfl c0 (fun _=>Bo 1 (B0.toNat) rfl q0 rfl t0 u0) rfl<|AF 8 511 1536 b0 rfl c0 (AG rfl (v0 0 _ rfl)) rfl ?_
 have H0:=j0.toNat_lt
 refine Ag 9 1023 b0 rfl c0 (fun _=>FV.convN (i:=j0.toNat) Tryz.underlying5 Tryz.underlying3 rfl (by omega)) rfl<|Ag 10 2047 b0 rfl c0 (fun _=>AS rfl) rfl<|AK (dk b0)<|Ak rfl<|AP hb0 Tryz.func52 rfl rfl ?_
 cases h
 exact d0.gv
theorem body52:bodyB Tryz.prog 52 = true:=by kernel_rfl
def wardmoteref22_Draft_list_l1 (n:Nat) (a1:Int) (a2:Int) (a0:TDraft50) (a3:Int) (d0:Int × (List Int) → Option (List Int)):Int × (List Int) → Option (List Int)
  | (b0,c0)=>(if b0 < a1 then (chk (a2 + b0)).bind fun j0=>(wardmoteref22_Draft_num_p n a0 j0).bind fun p0=>(app c0 ([min p0 a3]:List Int)).bind fun k0=>(chk (b0 + 1)).bind fun g0=>d0 (g0,k0) else some c0)
def wardmoteref22_Draft_list_p (n:Nat) (a0:TDraft50) (a1:Int) (a2:Int) (a3:Int):Option (List Int):=
  Option.bind (loopF (wardmoteref22_Draft_list_l1 n a1 a2 a0 a3) n (0,([]:List Int))) (fun b0=>some b0)
theorem wardmoteref22_Draft_list_c (n:Nat) (L:List Nat) (w:World) (hL:∀ b ∈ L,b < w.heap.size) (a0:TDraft50) {v0_4:Value} (h0_4:Rep.R w L [v0_4] a0.fNums) (a1:Int) (a2:Int) (a3:Int)  {r:List Int} (h:wardmoteref22_Draft_list_p n a0 a1 a2 a3 = some r) :
    Calls Tryz.prog 53 #[.agg #[.int .u8 (a0.fh.toNat:Int),.int .u8 (a0.fc.toNat:Int),.int .u8 (a0.fe.toNat:Int),.int .u8 (a0.fu.toNat:Int),v0_4],vI a1,vI a2,vI a3] w (Gives w fun w' u=>∃ v0_0:Value,u = v0_0∧Rep.R w' L [v0_0] r):=by
 unfold wardmoteref22_Draft_list_p at h
 have hS0:=Ay w
 refine AC Tryz.func53 rfl rfl rfl (fun _ cs0 hb0=>?_)
 refine Ac<|Al .plain rfl (Ax hS0 rfl rfl) (fun j1 q0 v0 u1=>?_)
 refine Af rfl<|Aa<|Ac<|Af rfl<|Aa<|Aj<|Ac<|Af rfl<|Aa<|Ar ?_
 have x0:=v0.nilRow 3 (Rep.size Int)
 have v1:=St.nilRowT v0 3 (Rep.size Int)
 have I0:=AB (cs:=[]) (xs:=([]:List Int)) x0 L (AN _ _)
 obtain ⟨x1,R0,M0⟩:=bind_in2 h
 refine Be (α:=Int × (List Int) × Value × (List Value)) (fun ⟨g0,c0,b0,j0⟩=>[(1,vI a1),(2,vI a2),(3,vI a3),(4,vP q0),(9,b0),(10,vI g0)]) (fun ⟨g0,c0,b0,j0⟩ s0=>St w s0 [.row w.heap.size 3 (Rep.size Int) b0 c0.length j0,.cells q0 [.int .u8 (a0.fh.toNat:Int),.int .u8 (a0.fc.toNat:Int),.int .u8 (a0.fe.toNat:Int),.int .u8 (a0.fu.toNat:Int),v0_4] 51]∧Tr j1 [.row w.heap.size 3 (Rep.size Int) vN (([]:List Int).length) [],.cells q0 [.int .u8 (a0.fh.toNat:Int),.int .u8 (a0.fc.toNat:Int),.int .u8 (a0.fe.toNat:Int),.int .u8 (a0.fu.toNat:Int),v0_4] 51] s0 [.row w.heap.size 3 (Rep.size Int) b0 c0.length j0,.cells q0 [.int .u8 (a0.fh.toNat:Int),.int .u8 (a0.fc.toNat:Int),.int .u8 (a0.fe.toNat:Int),.int .u8 (a0.fu.toNat:Int),v0_4] 51]∧Cells s0 (bl [.row w.heap.size 3 (Rep.size Int) b0 c0.length j0,.cells q0 [.int .u8 (a0.fh.toNat:Int),.int .u8 (a0.fc.toNat:Int),.int .u8 (a0.fe.toNat:Int),.int .u8 (a0.fu.toNat:Int),v0_4] 51] ++ L) j0 c0) (fun ⟨g0,c0,b0,j0⟩=>(g0,c0)) (0,([]:List Int),vN,[]) R0 ⟨rfl,rfl,rfl,rfl,rfl,rfl,trivial⟩ ⟨x0,AT _ _,I0⟩ ?_
 rintro p1 ⟨g0,c0,b0,j0⟩ s0 D0 ⟨p0,G0,A0⟩ h
 unfold wardmoteref22_Draft_list_l1 at h
 try dsimp only at h
 refine Aj<|Ac<|Ae rfl<|Ae rfl<|Ab (FV.lss (i:=g0) (j:=a1) rfl rfl)<|Aa<|AO rfl h (fun B0 h=>?_) (fun B0 h=>?_)
 refine Ao<|Aj<|Ar<|Am<|Ae rfl<|Ab (AJ rfl (p0.memA (.tl .hd)))<|Ae rfl<|Ae rfl ?_
 obtain ⟨d1,Y0,h⟩:=bi h
 refine Ab (FV.addc (i:=a2) (j:=g0) rfl rfl Y0) ?_
 obtain ⟨d0,b1,h⟩:=bi h
 refine Bc (vI d0) body52 rfl (e2 rfl rfl) (fun w9 hw9=>wardmoteref22_Draft_num_c n _ w9 (p0.hL0 hL hw9) a0 (p0.k0 h0_4 hw9) d1 b1) rfl<|Ae rfl<|Ab (FV.min2 (i:=d0) (j:=a3) rfl rfl)<|Al .plain rfl (AY (α:=Int) (xs:=([min d0 a3]:List Int)) (vs:=[vI (min d0 a3)]) (ds' :=[vI (min d0 a3)]) rfl p0 el52 rfl (e1 rfl) (by kernel_rfl) rfl) (fun y1 q1 u0 z0=>?_)
 have J0:=AB (cs:=[vI (min d0 a3)]) (xs:=(([min d0 a3]:List Int):List Int)) u0 L (Aq (cs:=[vI (min d0 a3)]) (ds:=[]) rfl (AN _ _))
 obtain ⟨k1,Z0,h⟩:=bi h
 have Q0:=AD A0 z0
 refine RG.doesL .plain rfl (DoesL.app (α:=Int) (ys:=([min d0 a3]:List Int)) Z0 u0 (fun _ _=>(.tl .hd)) el52 rfl rfl Q0 (Src.row (α:=Int) u0 .hd J0)) (fun g1 z1 ⟨C0,F0,H0,K0⟩=>?_)
 refine Af rfl<|Aa<|Au<|Am<|Ae rfl ?_
 obtain ⟨c1,X0,h⟩:=bi h
 refine Ab (FV.addc (i:=g0) (j:=1) rfl rfl X0)<|Af rfl<|Aa ?_
 obtain ⟨E0,y0⟩:=AL F0 (.one (.tl .hd) (.one (.tl .hd) .done))
 have P0:=AD K0 y0
 have U0:=Tt z0 (Tt H0 y0)
 exact D0 (c1,k1,g1,C0) _ _ ⟨rfl,rfl,rfl,rfl,rfl,rfl,trivial⟩ ⟨E0,(Tt G0 U0),P0⟩ h
 refine AW rfl ?_
 have h:=M0 _ h
 try dsimp only at h
 refine Ac<|Ae rfl<|Af rfl<|Aa<|Ak rfl ?_
 have V0:=Bu (α:=Int) p0 .hd A0 hL
 have t0:=St.delS p0 .hd
 have s1:=St.delT p0 .hd
 have W0:=Rep.at_ (α:=Int) (v:=b0) (xs:=c0) t0 L V0
 refine AP hb0 Tryz.func53 rfl rfl ?_
 cases h
 exact ⟨t0.ag,fun w9 hw9=>⟨b0,rfl,t0.kd W0 hw9⟩⟩
end Go.Proofs.YtfccehcnajelgaaGreatDoor
