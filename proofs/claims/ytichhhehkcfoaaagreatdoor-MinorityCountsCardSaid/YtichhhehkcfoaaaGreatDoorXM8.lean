/- Functions of the program, and what they give: part 8. -/
import Derived.Test.YtichhhehkcfoaaaGreatDoorXM7
namespace Go.Proofs.YtichhhehkcfoaaaGreatDoor
open Go Go.RowKit
set_option maxRecDepth 4000
set_option maxHeartbeats 4000000

def tb31_5:List (Nat × Nat × Nat):=[(0,268435456,64),(1,536870912,268435456),(2,1073741824,536870912),(4,2147483648,1073741824),(0,4294967296,64),(16,8589934592,4294967296),(32,17179869184,8589934592),(64,34359738368,17179869184),(128,68719476736,34359738368),(264,137438953472,70866960384),(512,274877906944,137438953472),(1024,549755813888,274877906944),(0,1099511627776,4),(0,2199023255552,64),(8192,4398046511104,2199023255552),(20480,8796093022208,5497558138880),(34816,17592186044416,9345848836096),(0,128,0),(262143,0,17592186044544)]
def tb31_11:List (Nat × Nat × Nat):=[(0,590295810358705651712,128),(1,1180591620717411303424,590295810358705651712),(0,2361183241434822606848,4),(0,4722366482869645213696,64),(8,9444732965739290427392,4722366482869645213696),(16,18889465931478580854784,9444732965739290427392),(0,37778931862957161709568,256),(96,75557863725914323419136,56668397794435742564352),(132,151115727451828646838272,77919046967349146025984),(256,302231454903657293676544,151115727451828646838272),(512,604462909807314587353088,302231454903657293676544),(1282,1208925819614629174706176,605643501428031998656512),(4095,2417851639229258349412352,128),(8191,0,3626777458843887524118528)]
def tb31_16:List (Nat × Nat × Nat):=[(0,79228162514264337593543950336,32),(1,158456325028528675187087900672,79228162514264337593543950336),(0,316912650057057350374175801344,32),(4,633825300114114700748351602688,316912650057057350374175801344),(8,1267650600228229401496703205376,633825300114114700748351602688),(0,2535301200456458802993406410752,32),(32,5070602400912917605986812821504,2535301200456458802993406410752),(64,10141204801825835211973625643008,5070602400912917605986812821504),(0,20282409603651670423947251286016,32),(256,40564819207303340847894502572032,20282409603651670423947251286016),(512,81129638414606681695789005144064,40564819207303340847894502572032),(1168,162259276829213363391578010288128,92538493816660746309259333992448),(2048,324518553658426726783156020576256,162259276829213363391578010288128),(4098,649037107316853453566312041152512,324677009983455255458343108476928),(16383,1298074214633706907132624082305024,32),(32767,0,1947111321950560360698936123457536)]
theorem el22:ElT Tryz.prog 22 5 (Rep.size UInt8) 1 (.int .u8 0) [.int .u8 0]:=⟨Tryz.underlying22,by kernel_rfl,rfl,rfl,rfl,rfl⟩
theorem body75:bodyB Tryz.prog 75 = true:=by kernel_rfl
def wardmoteref22_Draft_Roll_l1 (n:Nat) (a0:TDraft26) (t0:Int) (d0:Nat × (List Int) → Option (List Int)):Nat × (List Int) → Option (List Int)
  | (b0,c0)=>(if b0 < ((a0.fl % (3:UInt8)).toNat) then (chk (9 * t0)).bind fun g0=>(chk (g0 + 7)).bind fun j0=>(chk (j0 + ((b0:Nat):Int))).bind fun k0=>(wardmoteref22_Draft_num_p n a0 k0).bind fun s0=>(remI s0 3).bind fun p0=>(app c0 ([p0]:List Int)).bind fun q0=>d0 (b0 + 1,q0) else some c0)
def wardmoteref22_Draft_Roll_l2 (_n:Nat) (a0:TDraft26) (d0:Nat × (List TUnit) → Option (List TUnit)):Nat × (List TUnit) → Option (List TUnit)
  | (b0,c0)=>(if b0 < ((a0.fq % (2:UInt8)).toNat) then (mk (((a0.fj % (3:UInt8)).toNat:Nat):Int) (0:Int)).bind fun g0=>(mk (((a0.fh % (4:UInt8)).toNat:Nat):Int) (0:Int)).bind fun j0=>(mk (((a0.fl % (3:UInt8)).toNat:Nat):Int) (0:Int)).bind fun k0=>(app c0 ([(⟨⟨#[115,101,97]⟩,(0:Int),g0,j0,k0,true⟩:TUnit)]:List TUnit)).bind fun p0=>d0 (b0 + 1,p0) else some c0)
def wardmoteref22_Draft_Roll_l3 (n:Nat) (a1:Int) (a0:TDraft26) (g0:Int × (List TUnit) → Option (List TUnit)):Int × (List TUnit) → Option (List TUnit)
  | (b0,c0)=>(if b0 < a1 then (remI b0 26).bind fun j0=>(chk (97 + j0)).bind fun k0=>(quoI b0 26).bind fun p0=>(remI p0 26).bind fun q0=>(chk (97 + q0)).bind fun s0=>(chk (9 * b0)).bind fun t0=>(wardmoteref22_Draft_num_p n a0 t0).bind fun d0=>(sadd ⟨#[117]⟩ (bstr ([u8ofI k0,u8ofI s0]:List UInt8))).bind fun u0=>(chk (9 * b0)).bind fun v0=>(chk (v0 + 1)).bind fun x0=>(wardmoteref22_Draft_list_p n a0 (((a0.fj % (3:UInt8)).toNat:Nat):Int) x0 d0).bind fun D0=>(chk (9 * b0)).bind fun y0=>(chk (y0 + 3)).bind fun z0=>(wardmoteref22_Draft_list_p n a0 (((a0.fh % (4:UInt8)).toNat:Nat):Int) z0 (255:Int)).bind fun E0=>Option.bind (loopF (wardmoteref22_Draft_Roll_l1 n a0 b0) n (0,([]:List Int))) (fun B0=>(app c0 ([(⟨u0,d0,D0,E0,B0,false⟩:TUnit)]:List TUnit)).bind fun C0=>(chk (b0 + 1)).bind fun A0=>g0 (A0,C0)) else some c0)
def wardmoteref22_Draft_Roll_p (n:Nat) (a0:TDraft26) (a1:Int):Option TRoll:=
  Option.bind (loopF (wardmoteref22_Draft_Roll_l3 n a1 a0) n (0,([]:List TUnit))) (fun c0=>Option.bind (loopF (wardmoteref22_Draft_Roll_l2 n a0) n (0,c0)) (fun b0=>some (⟨(((a0.fj % (3:UInt8)).toNat:Nat):Int),(((a0.fh % (4:UInt8)).toNat:Nat):Int),(((a0.fl % (3:UInt8)).toNat:Nat):Int),b0⟩:TRoll)))
theorem wardmoteref22_Draft_Roll_c (n:Nat) (L:List Nat) (w:World) (hL:∀ b ∈ L,b < w.heap.size) (a0:TDraft26) {v0_4:Value} (h0_4:Rep.R w L [v0_4] a0.fNums) (a1:Int)  {r:TRoll} (h:wardmoteref22_Draft_Roll_p n a0 a1 = some r) :
    Calls Tryz.prog 31 #[.agg #[.int .u8 (a0.fj.toNat:Int),.int .u8 (a0.fh.toNat:Int),.int .u8 (a0.fl.toNat:Int),.int .u8 (a0.fq.toNat:Int),v0_4],vI a1] w (Gives w fun w' u=>∃ v0_3:Value,u = .agg #[vI r.fj,vI r.fh,vI r.fl,v0_3]∧Rep.R w' L [v0_3] r.fu):=by
 unfold wardmoteref22_Draft_Roll_p at h
 have hS0:=Ay w
 refine AD Tryz.func31 rfl rfl rfl (fun _ cs0 hb0=>?_)
 refine Ac<|Ai .plain rfl (Av hS0 rfl rfl) (fun F9 g0 C4 k9=>?_)
 refine Ai .plain rfl (Ar [vI 0,vI 0,vI 0,vN] C4) (fun K9 j0 X1 p9=>?_)
 refine Aa<|Ac<|AZ 0 rfl<|AY rfl ((X1.memA (.tl .hd)) 0 _ rfl)<|Ab (FV.rem8 (a:=a0.fj) (b:=(3:UInt8)) rfl rfl (by decide)) ?_
 have x9:=(a0.fj % (3:UInt8)).toNat_lt
 refine Ab (FV.convN (i:=(a0.fj % (3:UInt8)).toNat) Tryz.underlying5 Tryz.underlying3 rfl (by omega))<|AZ 1 rfl<|AY rfl ((X1.memA (.tl .hd)) 1 _ rfl)<|Ab (FV.rem8 (a:=a0.fh) (b:=(4:UInt8)) rfl rfl (by decide)) ?_
 have y9:=(a0.fh % (4:UInt8)).toNat_lt
 refine Ab (FV.convN (i:=(a0.fh % (4:UInt8)).toNat) Tryz.underlying5 Tryz.underlying3 rfl (by omega))<|AZ 2 rfl<|AY rfl ((X1.memA (.tl .hd)) 2 _ rfl)<|Ab (FV.rem8 (a:=a0.fl) (b:=(3:UInt8)) rfl rfl (by decide)) ?_
 have z9:=(a0.fl % (3:UInt8)).toNat_lt
 refine Ab (FV.convN (i:=(a0.fl % (3:UInt8)).toNat) Tryz.underlying5 Tryz.underlying3 rfl (by omega))<|Ab (AM (vs:=[vI (((a0.fj % (3:UInt8)).toNat:Nat):Int),vI (((a0.fh % (4:UInt8)).toNat:Nat):Int),vI (((a0.fl % (3:UInt8)).toNat:Nat):Int)]) (u:=.agg #[vI (((a0.fj % (3:UInt8)).toNat:Nat):Int),vI (((a0.fh % (4:UInt8)).toNat:Nat):Int),vI (((a0.fl % (3:UInt8)).toNat:Nat):Int),vN]) (e3 rfl rfl rfl) (fun w9=>by kernel_rfl))<|Ai .plain rfl (Ar [vI 0,vI 0,vI 0,vN] X1) (fun M9 p0 D4 q9=>?_)
 refine AJ [vI (((a0.fj % (3:UInt8)).toNat:Nat):Int),vI (((a0.fh % (4:UInt8)).toNat:Nat):Int),vI (((a0.fl % (3:UInt8)).toNat:Nat):Int),vN] D4 .hd (onesB rfl) (fun s8 g3 s9=>?_)
 refine Aa<|Aj<|Ac<|Af rfl<|Aa<|Az ?_
 have y2:=g3.nilRow 58 (Rep.size TUnit)
 have t9:=St.nilRowT g3 58 (Rep.size TUnit)
 have x5:=AH (cs:=[]) (xs:=([]:List TUnit)) y2 L (AT _ _)
 have j3:=y2.nilRow 58 (Rep.size TUnit)
 have W4:=St.nilRowT y2 58 (Rep.size TUnit)
 have u9:=AH (cs:=[]) (xs:=([]:List TUnit)) j3 L (AT _ _)
 have A6:=AR x5 W4
 obtain ⟨B9,M6,H5⟩:=bind_in2 h
 refine Bm (α:=Int × (List TUnit) × Value × (List Value)) (fun ⟨P0,y0,d0,z0⟩=>[(1,vI a1),(2,vP g0),(4,vP j0),(5,vP p0),(6,vI P0)]) (fun ⟨P0,y0,d0,z0⟩ P1=>St w P1 [.row w.heap.size 58 (Rep.size TUnit) vN (([]:List TUnit).length) [],.row w.heap.size 58 (Rep.size TUnit) d0 y0.length z0,.cells p0 [vI (((a0.fj % (3:UInt8)).toNat:Nat):Int),vI (((a0.fh % (4:UInt8)).toNat:Nat):Int),vI (((a0.fl % (3:UInt8)).toNat:Nat):Int),d0] 38,.cells j0 [vI 0,vI 0,vI 0,vN] 38,.cells g0 [.int .u8 (a0.fj.toNat:Int),.int .u8 (a0.fh.toNat:Int),.int .u8 (a0.fl.toNat:Int),.int .u8 (a0.fq.toNat:Int),v0_4] 27]∧Tr s8 [.row w.heap.size 58 (Rep.size TUnit) vN (([]:List TUnit).length) [],.row w.heap.size 58 (Rep.size TUnit) vN (([]:List TUnit).length) [],.cells p0 [vI (((a0.fj % (3:UInt8)).toNat:Nat):Int),vI (((a0.fh % (4:UInt8)).toNat:Nat):Int),vI (((a0.fl % (3:UInt8)).toNat:Nat):Int),vN] 38,.cells j0 [vI 0,vI 0,vI 0,vN] 38,.cells g0 [.int .u8 (a0.fj.toNat:Int),.int .u8 (a0.fh.toNat:Int),.int .u8 (a0.fl.toNat:Int),.int .u8 (a0.fq.toNat:Int),v0_4] 27] P1 [.row w.heap.size 58 (Rep.size TUnit) vN (([]:List TUnit).length) [],.row w.heap.size 58 (Rep.size TUnit) d0 y0.length z0,.cells p0 [vI (((a0.fj % (3:UInt8)).toNat:Nat):Int),vI (((a0.fh % (4:UInt8)).toNat:Nat):Int),vI (((a0.fl % (3:UInt8)).toNat:Nat):Int),d0] 38,.cells j0 [vI 0,vI 0,vI 0,vN] 38,.cells g0 [.int .u8 (a0.fj.toNat:Int),.int .u8 (a0.fh.toNat:Int),.int .u8 (a0.fl.toNat:Int),.int .u8 (a0.fq.toNat:Int),v0_4] 27]∧Cells P1 (bl [.row w.heap.size 58 (Rep.size TUnit) vN (([]:List TUnit).length) [],.row w.heap.size 58 (Rep.size TUnit) d0 y0.length z0,.cells p0 [vI (((a0.fj % (3:UInt8)).toNat:Nat):Int),vI (((a0.fh % (4:UInt8)).toNat:Nat):Int),vI (((a0.fl % (3:UInt8)).toNat:Nat):Int),d0] 38,.cells j0 [vI 0,vI 0,vI 0,vN] 38,.cells g0 [.int .u8 (a0.fj.toNat:Int),.int .u8 (a0.fh.toNat:Int),.int .u8 (a0.fl.toNat:Int),.int .u8 (a0.fq.toNat:Int),v0_4] 27] ++ L) z0 y0) (fun ⟨P0,y0,d0,z0⟩=>(P0,y0)) (0,([]:List TUnit),vN,[]) M6 ⟨rfl,rfl,rfl,rfl,rfl,trivial⟩ ⟨j3,AQ _ _,A6⟩ ?_
 rintro M8 ⟨P0,y0,d0,z0⟩ P1 s4 ⟨J1,X4,D3⟩ h
 unfold wardmoteref22_Draft_Roll_l3 at h
 try dsimp only at h
 refine Aj<|Ac<|Ae rfl<|Ae rfl<|Ab (FV.lss (i:=P0) (j:=a1) rfl rfl)<|Aa<|AV rfl h (fun d4 h=>?_) (fun d4 h=>?_)
 refine Au<|Aj<|Az<|Aj<|dt 18 tb31_5 (fun q0 u0=>?_)
 refine Ag 0 1 q0 rfl u0 (fun _=>Ak rfl) rfl ?_
 obtain ⟨W7,j7,h⟩:=bi h
 refine Ag 1 3 q0 rfl u0 (fun _=>FV.remc (i:=P0) (j:=26) rfl rfl j7) rfl ?_
 obtain ⟨G0,k7,h⟩:=bi h
 refine Ag 2 7 q0 rfl u0 (fun _=>BD (i:=97) (j:=W7) rfl rfl k7) rfl<|Ag 3 15 q0 rfl u0 (fun _=>FV.convU8 (i:=G0) Tryz.underlying3 Tryz.underlying5 rfl) rfl<|Ag 4 31 q0 rfl u0 (fun _=>Ak rfl) rfl ?_
 obtain ⟨X7,p7,h⟩:=bi h
 refine Ag 5 63 q0 rfl u0 (fun _=>FV.quoc (i:=P0) (j:=26) rfl rfl p7) rfl ?_
 obtain ⟨Y7,q7,h⟩:=bi h
 refine Ag 6 127 q0 rfl u0 (fun _=>FV.remc (i:=X7) (j:=26) rfl rfl q7) rfl ?_
 obtain ⟨x0,s7,h⟩:=bi h
 refine Ag 7 255 q0 rfl u0 (fun _=>BD (i:=97) (j:=Y7) rfl rfl s7) rfl<|Ag 8 511 q0 rfl u0 (fun _=>FV.convU8 (i:=x0) Tryz.underlying3 Tryz.underlying5 rfl) rfl<|AC 12 4607 360448 q0 rfl u0 (AA rfl (J1.memA (.tl (.tl (.tl (.tl .hd)))))) rfl<|Ag 13 12799 q0 rfl u0 (fun _=>Ak rfl) rfl ?_
 obtain ⟨Z7,t7,h⟩:=bi h
 refine Ag 14 29183 q0 rfl u0 (fun _=>FV.mulc (i:=9) (j:=P0) rfl rfl t7) rfl ?_
 obtain ⟨s0,Q7,h⟩:=bi h
 refine BA 15 61951 327680 (vI s0) q0 rfl u0 body74 rfl (e2 rfl rfl) (fun w9 hw9=>wardmoteref22_Draft_num_c n _ w9 (J1.hL0 hL hw9) a0 (J1.k0 h0_4 hw9) Z7 Q7) rfl ?_
 obtain ⟨t0,Y3,h⟩:=bi h
 refine RD.meet (α:=Nat) (fun k1=>[(1,vI a1),(2,vP g0),(4,vP j0),(5,vP p0),(6,vI P0),(44,.agg #[.string t0,vI s0,vN,vN,vN,.bool false]),(7,vP k1)]) (fun k1 b3=>St w b3 [.cells k1 [.string ⟨#[]⟩,vI 0,vN,vN,vN,.bool false] 58,.row w.heap.size 58 (Rep.size TUnit) vN (([]:List TUnit).length) [],.row w.heap.size 58 (Rep.size TUnit) d0 y0.length z0,.cells p0 [vI (((a0.fj % (3:UInt8)).toNat:Nat):Int),vI (((a0.fh % (4:UInt8)).toNat:Nat):Int),vI (((a0.fl % (3:UInt8)).toNat:Nat):Int),d0] 38,.cells j0 [vI 0,vI 0,vI 0,vN] 38,.cells g0 [.int .u8 (a0.fj.toNat:Int),.int .u8 (a0.fh.toNat:Int),.int .u8 (a0.fl.toNat:Int),.int .u8 (a0.fq.toNat:Int),v0_4] 27]∧Tr P1 [.row w.heap.size 58 (Rep.size TUnit) vN (([]:List TUnit).length) [],.row w.heap.size 58 (Rep.size TUnit) d0 y0.length z0,.cells p0 [vI (((a0.fj % (3:UInt8)).toNat:Nat):Int),vI (((a0.fh % (4:UInt8)).toNat:Nat):Int),vI (((a0.fl % (3:UInt8)).toNat:Nat):Int),d0] 38,.cells j0 [vI 0,vI 0,vI 0,vN] 38,.cells g0 [.int .u8 (a0.fj.toNat:Int),.int .u8 (a0.fh.toNat:Int),.int .u8 (a0.fl.toNat:Int),.int .u8 (a0.fq.toNat:Int),v0_4] 27] b3 [.cells k1 [.string ⟨#[]⟩,vI 0,vN,vN,vN,.bool false] 58,.row w.heap.size 58 (Rep.size TUnit) vN (([]:List TUnit).length) [],.row w.heap.size 58 (Rep.size TUnit) d0 y0.length z0,.cells p0 [vI (((a0.fj % (3:UInt8)).toNat:Nat):Int),vI (((a0.fh % (4:UInt8)).toNat:Nat):Int),vI (((a0.fl % (3:UInt8)).toNat:Nat):Int),d0] 38,.cells j0 [vI 0,vI 0,vI 0,vN] 38,.cells g0 [.int .u8 (a0.fj.toNat:Int),.int .u8 (a0.fh.toNat:Int),.int .u8 (a0.fl.toNat:Int),.int .u8 (a0.fq.toNat:Int),v0_4] 27]) 1 262143 ?_ ?_
 rintro k1 b3 ⟨E4,Y4⟩
 try dsimp only
 refine Bq 18 524287 q0 rfl rfl .plain (Aw (news:=[.string t0,vI s0,vN,vN,vN,.bool false]) E4 .hd rfl rfl rfl rfl rfl rfl (onesB rfl)) (fun P9 K1 Z4=>?_)
 refine AE (dk q0)<|Ac<|Ab (AA rfl (K1.memA (.tl (.tl (.tl (.tl (.tl .hd)))))))<|AZ 0 rfl<|Ab (AL rfl ((K1.memA (.tl (.tl (.tl .hd)))) 0 _ rfl))<|Ae rfl ?_
 obtain ⟨b8,u7,h⟩:=bi h
 refine Ab (FV.mulc (i:=9) (j:=P0) rfl rfl u7) ?_
 obtain ⟨c8,v7,h⟩:=bi h
 refine Ab (BD (i:=b8) (j:=1) rfl rfl v7)<|AZ 1 rfl<|AY rfl ((K1.memA .hd) 1 _ rfl) ?_
 obtain ⟨q2,R7,h⟩:=bi h
 refine Bf (fst:=[]) (cap:=[]) .plain body75 rfl (e4 rfl rfl rfl rfl) (fun w9 hw9=>wardmoteref22_Draft_list_c n _ w9 (K1.hL hL hw9) a0 (K1.km h0_4 hw9) (((a0.fj % (3:UInt8)).toNat:Nat):Int) c8 s0 R7) rfl (fun Q9 Q0 k5 ⟨D9,hu_,c2⟩=>?_)
 subst hu_
 obtain ⟨F4,b5⟩:=K1.agr k5
 refine AZ 2 rfl<|BH .plain (Bo (j:=2) (old:=[.string t0,vI s0,vN,vN,vN,.bool false]) (news:=[Q0]) (new' :=[.string t0,vI s0,Q0,vN,vN,.bool false]) F4 .hd rfl rfl rfl (Rep.c1 c2) rfl rfl (o1 (AN c2)) rfl) (fun R9 Q1 u3=>?_)
 refine Aa<|Ac<|Ab (AA rfl (Q1.memA (.tl (.tl (.tl (.tl (.tl .hd)))))))<|AZ 1 rfl<|Ab (AL rfl ((Q1.memA (.tl (.tl (.tl .hd)))) 1 _ rfl))<|Ae rfl ?_
 obtain ⟨d8,x7,h⟩:=bi h
 refine Ab (FV.mulc (i:=9) (j:=P0) rfl rfl x7) ?_
 obtain ⟨g8,y7,h⟩:=bi h
 refine Ab (BD (i:=d8) (j:=3) rfl rfl y7) ?_
 obtain ⟨s2,U7,h⟩:=bi h
 refine Bf (fst:=[]) (cap:=[]) .plain body75 rfl (e4 rfl rfl rfl rfl) (fun w9 hw9=>wardmoteref22_Draft_list_c n _ w9 (Q1.hL hL hw9) a0 (Q1.km h0_4 hw9) (((a0.fh % (4:UInt8)).toNat:Nat):Int) g8 (255:Int) U7) rfl (fun U9 Y0 p5 ⟨E9,hu_,d2⟩=>?_)
 subst hu_
 obtain ⟨G4,v3⟩:=Q1.agr p5
 refine AZ 3 rfl<|BH .plain (Bo (j:=3) (old:=[.string t0,vI s0,Q0,vN,vN,.bool false]) (news:=[Y0]) (new' :=[.string t0,vI s0,Q0,Y0,vN,.bool false]) G4 .hd rfl rfl rfl (Rep.c1 d2) rfl rfl (o1 (AN d2)) rfl) (fun x8 k3 R2=>?_)
 refine Aa<|Aj<|Ac<|Af rfl<|Aa<|Az ?_
 have p3:=k3.nilRow 3 (Rep.size Int)
 have U2:=St.nilRowT k3 3 (Rep.size Int)
 have y5:=AH (cs:=[]) (xs:=([]:List Int)) p3 L (AT _ _)
 obtain ⟨C9,P6,I5⟩:=bind_in2 h
 refine Bm (α:=Nat × (List Int) × Value × (List Value)) (fun ⟨z1,W0,K0,E1⟩=>[(1,vI a1),(2,vP g0),(4,vP j0),(5,vP p0),(6,vI P0),(7,vP k1),(8,vI ((z1:Nat):Int))]) (fun ⟨z1,W0,K0,E1⟩ p2=>St w p2 [.row w.heap.size 3 (Rep.size Int) K0 W0.length E1,.cells k1 [.string t0,vI s0,Q0,Y0,K0,.bool false] 58,.row w.heap.size 58 (Rep.size TUnit) vN (([]:List TUnit).length) [],.row w.heap.size 58 (Rep.size TUnit) d0 y0.length z0,.cells p0 [vI (((a0.fj % (3:UInt8)).toNat:Nat):Int),vI (((a0.fh % (4:UInt8)).toNat:Nat):Int),vI (((a0.fl % (3:UInt8)).toNat:Nat):Int),d0] 38,.cells j0 [vI 0,vI 0,vI 0,vN] 38,.cells g0 [.int .u8 (a0.fj.toNat:Int),.int .u8 (a0.fh.toNat:Int),.int .u8 (a0.fl.toNat:Int),.int .u8 (a0.fq.toNat:Int),v0_4] 27]∧Tr x8 [.row w.heap.size 3 (Rep.size Int) vN (([]:List Int).length) [],.cells k1 [.string t0,vI s0,Q0,Y0,vN,.bool false] 58,.row w.heap.size 58 (Rep.size TUnit) vN (([]:List TUnit).length) [],.row w.heap.size 58 (Rep.size TUnit) d0 y0.length z0,.cells p0 [vI (((a0.fj % (3:UInt8)).toNat:Nat):Int),vI (((a0.fh % (4:UInt8)).toNat:Nat):Int),vI (((a0.fl % (3:UInt8)).toNat:Nat):Int),d0] 38,.cells j0 [vI 0,vI 0,vI 0,vN] 38,.cells g0 [.int .u8 (a0.fj.toNat:Int),.int .u8 (a0.fh.toNat:Int),.int .u8 (a0.fl.toNat:Int),.int .u8 (a0.fq.toNat:Int),v0_4] 27] p2 [.row w.heap.size 3 (Rep.size Int) K0 W0.length E1,.cells k1 [.string t0,vI s0,Q0,Y0,K0,.bool false] 58,.row w.heap.size 58 (Rep.size TUnit) vN (([]:List TUnit).length) [],.row w.heap.size 58 (Rep.size TUnit) d0 y0.length z0,.cells p0 [vI (((a0.fj % (3:UInt8)).toNat:Nat):Int),vI (((a0.fh % (4:UInt8)).toNat:Nat):Int),vI (((a0.fl % (3:UInt8)).toNat:Nat):Int),d0] 38,.cells j0 [vI 0,vI 0,vI 0,vN] 38,.cells g0 [.int .u8 (a0.fj.toNat:Int),.int .u8 (a0.fh.toNat:Int),.int .u8 (a0.fl.toNat:Int),.int .u8 (a0.fq.toNat:Int),v0_4] 27]∧Cells p2 (bl [.row w.heap.size 3 (Rep.size Int) K0 W0.length E1,.cells k1 [.string t0,vI s0,Q0,Y0,K0,.bool false] 58,.row w.heap.size 58 (Rep.size TUnit) vN (([]:List TUnit).length) [],.row w.heap.size 58 (Rep.size TUnit) d0 y0.length z0,.cells p0 [vI (((a0.fj % (3:UInt8)).toNat:Nat):Int),vI (((a0.fh % (4:UInt8)).toNat:Nat):Int),vI (((a0.fl % (3:UInt8)).toNat:Nat):Int),d0] 38,.cells j0 [vI 0,vI 0,vI 0,vN] 38,.cells g0 [.int .u8 (a0.fj.toNat:Int),.int .u8 (a0.fh.toNat:Int),.int .u8 (a0.fl.toNat:Int),.int .u8 (a0.fq.toNat:Int),v0_4] 27] ++ L) E1 W0) (fun ⟨z1,W0,K0,E1⟩=>(z1,W0)) (0,([]:List Int),vN,[]) P6 ⟨rfl,rfl,rfl,rfl,rfl,rfl,rfl,trivial⟩ ⟨p3,AQ _ _,y5⟩ ?_
 rintro P8 ⟨z1,W0,K0,E1⟩ p2 t4 ⟨b1,Z1,E3⟩ h
 unfold wardmoteref22_Draft_Roll_l1 at h
 try dsimp only at h
 refine Aj<|Ac<|Ae rfl<|AZ 2 rfl<|Ab (AL rfl ((b1.memA (.tl (.tl (.tl (.tl .hd))))) 2 _ rfl))<|Ab (Br (i:=z1) (j:=(a0.fl % (3:UInt8)).toNat) rfl rfl)<|Aa<|AV rfl h (fun g4 h=>?_) (fun g4 h=>?_)
 refine Au<|Aj<|Az<|dt 11 tb31_11 (fun v0 x1=>?_)
 refine Ag 0 1 v0 rfl x1 (fun _=>AX 4 rfl) rfl<|AC 1 3 14336 v0 rfl x1 (AL rfl ((b1.memA (.tl .hd)) 4 _ rfl)) rfl<|AC 2 7 16128 v0 rfl x1 (AA rfl (b1.memA (.tl (.tl (.tl (.tl (.tl (.tl .hd)))))))) rfl<|Ag 3 15 v0 rfl x1 (fun _=>Ak rfl) rfl ?_
 obtain ⟨j8,z7,h⟩:=bi h
 refine Ag 4 31 v0 rfl x1 (fun _=>FV.mulc (i:=9) (j:=P0) rfl rfl z7) rfl ?_
 obtain ⟨k8,A7,h⟩:=bi h
 refine Ag 5 63 v0 rfl x1 (fun _=>BD (i:=j8) (j:=7) rfl rfl A7) rfl<|Ag 6 127 v0 rfl x1 (fun _=>Ak rfl) rfl ?_
 obtain ⟨p8,B7,h⟩:=bi h
 refine Ag 7 255 v0 rfl x1 (fun _=>BD (i:=k8) (j:=((z1:Nat):Int)) rfl rfl B7) rfl ?_
 obtain ⟨Z3,V7,h⟩:=bi h
 refine BA 8 511 15872 (vI Z3) v0 rfl x1 body74 rfl (e2 rfl rfl) (fun w9 hw9=>wardmoteref22_Draft_num_c n _ w9 (b1.hL0 hL hw9) a0 (b1.k0 h0_4 hw9) p8 V7) rfl ?_
 obtain ⟨G1,C7,h⟩:=bi h
 refine Ag 9 1023 v0 rfl x1 (fun _=>FV.remc (i:=Z3) (j:=3) rfl rfl C7) rfl<|RD.nu 10 2047 v0 rfl .plain rfl (Ba (α:=Int) (xs:=([G1]:List Int)) (vs:=[vI G1]) (ds' :=[vI G1]) rfl b1 el32 rfl (e1 rfl) (by kernel_rfl) rfl) (fun V9 R8 A2 x3=>?_)
 have z5:=AH (cs:=[vI G1]) (xs:=(([G1]:List Int):List Int)) A2 L (Ax (cs:=[vI G1]) (ds:=[]) rfl (AT _ _))
 obtain ⟨z8,M7,h⟩:=bi h
 have B6:=AR E3 x3
 refine BC (i:=11) (rk v0) (RO.doesL (m' :=4095) (sk v0) rfl rfl .plain rfl (DoesL.app (α:=Int) (ys:=([G1]:List Int)) M7 A2 (fun _ _=>(.tl .hd)) el32 rfl rfl B6 (Src.row (α:=Int) A2 .hd z5)) (fun Y2 W9 ⟨k4,B2,c5,A5⟩=>?_))
 refine BC (i:=12) (rk v0) (BK (m' :=8191) (sk v0) rfl .plain rfl (AX 4 rfl) ?_)
 refine Bq 13 16383 v0 rfl rfl .plain (Bo (j:=4) (old:=[.string t0,vI s0,Q0,Y0,K0,.bool false]) (news:=[Y2]) (new' :=[.string t0,vI s0,Q0,Y0,Y2,.bool false]) B2 (.tl (.tl .hd)) rfl rfl rfl (St.c1 (α:=Int) B2 (.tl .hd)) rfl rfl (o1 (St.o1 (α:=Int) B2 (.tl .hd))) rfl) (fun X9 H4 y3=>?_)
 refine AE (dk v0)<|AB<|Ao<|Ae rfl<|Ab (Bl (i:=z1) (j:=1) rfl rfl (by omega))<|Af rfl<|Aa ?_
 obtain ⟨I4,z3⟩:=AG H4 (.one (.tl .hd) (.one (.tl .hd) (.one (.tl .hd) (.one (.tl .hd) (.one (.tl .hd) (.one (.tl .hd) (.one (.tl .hd) .done)))))))
 have C6:=AR A5 (Tt y3 z3)
 have U6:=Tt x3 (Tt c5 (Tt y3 z3))
 exact t4 (z1 + 1,z8,Y2,k4) _ _ ⟨rfl,rfl,rfl,rfl,rfl,rfl,rfl,trivial⟩ ⟨I4,(Tt Z1 U6),C6⟩ h
 refine Be rfl ?_
 have h:=I5 _ h
 try dsimp only at h
 refine Ao<|AZ 3 rfl<|Ab (AL rfl ((b1.memA (.tl (.tl (.tl (.tl .hd))))) 3 _ rfl))<|Ab (AA rfl (b1.memA (.tl .hd))) ?_
 have g7:=Bn (α:=Int) b1 .hd E3 hL
 have q3:=Bw b1 .hd
 have V2:=Bx b1 .hd
 have X3:=By (α:=Int) (v:=K0) (xs:=W0) q3 L g7
 have P3:=Tt u3 (Tt v3 (Tt R2 (Tt U2 (Tt Z1 V2))))
 have D6:=Aq c2 P3
 have Q3:=Tt R2 (Tt U2 (Tt Z1 V2))
 have E6:=Aq d2 Q3
 obtain ⟨H8,c9,H7,_⟩:=Rep.sl D6
 obtain ⟨I8,d9,I7,_⟩:=Rep.sl E6
 obtain ⟨J8,g9,J7,_⟩:=Rep.sl X3
 refine Ai .plain rfl (Ba (α:=TUnit) (xs:=([(⟨t0,s0,q2,s2,W0,false⟩:TUnit)]:List TUnit)) (vs:=[.agg #[.string t0,vI s0,Q0,Y0,K0,.bool false]]) (ds' :=[.string t0,vI s0,Q0,Y0,K0,.bool false]) rfl q3 el36 rfl (e1 rfl) (by rw [H7,I7,J7]; try kernel_rfl) rfl) (fun Y9 U8 C2 b2=>?_)
 have F6:=Aq c2 (Tt P3 b2)
 have G6:=Aq d2 (Tt Q3 b2)
 have H6:=Aq X3 b2
 have B5:=AH (cs:=[.string t0,vI s0,Q0,Y0,K0,.bool false]) (xs:=(([(⟨t0,s0,q2,s2,W0,false⟩:TUnit)]:List TUnit):List TUnit)) C2 L (Ax (cs:=[.string t0,vI s0,Q0,Y0,K0,.bool false]) (ds:=[]) (mk_TUnit t0 s0 q2 F6 s2 G6 W0 H6 false) (AT _ _))
 obtain ⟨A8,P7,h⟩:=bi h
 have R3:=Tt Y4 (Tt Z4 (Tt b5 (Tt u3 (Tt v3 (Tt R2 (Tt U2 (Tt Z1 (Tt V2 b2))))))))
 have I6:=AR D3 R3
 refine RG.doesL .plain rfl (DoesL.app (α:=TUnit) (ys:=([(⟨t0,s0,q2,s2,W0,false⟩:TUnit)]:List TUnit)) P7 C2 (fun _ _=>(.tl (.tl (.tl .hd)))) el36 rfl rfl I6 (Src.row (α:=TUnit) C2 .hd B5)) (fun Z2 Z9 ⟨p4,D2,d5,C5⟩=>?_)
 refine AZ 3 rfl<|BH .plain (Bo (j:=3) (old:=[vI (((a0.fj % (3:UInt8)).toNat:Nat):Int),vI (((a0.fh % (4:UInt8)).toNat:Nat):Int),vI (((a0.fl % (3:UInt8)).toNat:Nat):Int),d0]) (news:=[Z2]) (new' :=[vI (((a0.fj % (3:UInt8)).toNat:Nat):Int),vI (((a0.fh % (4:UInt8)).toNat:Nat):Int),vI (((a0.fl % (3:UInt8)).toNat:Nat):Int),Z2]) D2 (.tl (.tl (.tl (.tl .hd)))) rfl rfl rfl (St.c1 (α:=TUnit) D2 (.tl (.tl (.tl .hd)))) rfl rfl (o1 (St.o1 (α:=TUnit) D2 (.tl (.tl (.tl .hd))))) rfl) (fun b00 J4 A3=>?_)
 refine Aa<|AB<|Ao<|Ae rfl ?_
 obtain ⟨q8,D7,h⟩:=bi h
 refine Ab (BD (i:=P0) (j:=1) rfl rfl D7)<|Af rfl<|Aa ?_
 obtain ⟨K4,B3⟩:=AG J4 (.one (.tl (.tl .hd)) (.one (.tl (.tl .hd)) (.one (.tl (.tl .hd)) (.one (.tl (.tl .hd)) (.one (.tl (.tl .hd)) .done)))))
 have J6:=AR C5 (Tt A3 B3)
 have V6:=Tt R3 (Tt d5 (Tt A3 B3))
 exact s4 (q8,A8,Z2,p4) _ _ ⟨rfl,rfl,rfl,rfl,rfl,trivial⟩ ⟨K4,(Tt X4 V6),J6⟩ h
 intro c3
 refine BJ [9,17] (rk q0) ⟨?_,?_,trivial⟩
 refine RO.new (m' :=62463) (sk q0) rfl .plain rfl (Ba (α:=UInt8) (xs:=([u8ofI G0,u8ofI x0]:List UInt8)) (vs:=[.int .u8 ((u8ofI G0).toNat:Int),.int .u8 ((u8ofI x0).toNat:Int)]) (ds' :=[.int .u8 ((u8ofI G0).toNat:Int),.int .u8 ((u8ofI x0).toNat:Int)]) rfl J1 el22 rfl (e2 rfl rfl) (by kernel_rfl) rfl) (fun t8 b4 F1 P2=>?_)
 have W2:=AH (cs:=[.int .u8 ((u8ofI G0).toNat:Int),.int .u8 ((u8ofI x0).toNat:Int)]) (xs:=(([u8ofI G0,u8ofI x0]:List UInt8):List UInt8)) F1 L (Ax (cs:=[.int .u8 ((u8ofI G0).toNat:Int)]) (ds:=[.int .u8 ((u8ofI x0).toNat:Int)]) rfl (Ax (cs:=[.int .u8 ((u8ofI x0).toNat:Int)]) (ds:=[]) rfl (AT _ _)))
 refine AC 10 63487 329728 q0 rfl u0 (FV.bytesS (xs:=([u8ofI G0,u8ofI x0]:List UInt8)) Tryz.underlying22 Tryz.underlying9 Tryz.underlying5 rfl (Src.row (α:=UInt8) F1 .hd W2)) rfl<|Ag 11 65535 q0 rfl u0 (fun _=>FV.addS Y3 rfl rfl) rfl<|Ag 16 131071 q0 rfl u0 (fun _=>AM (vs:=[.string t0,vI s0]) (u:=.agg #[.string t0,vI s0,vN,vN,vN,.bool false]) (e2 rfl rfl) (fun w9=>by kernel_rfl)) rfl<|RD.nu 17 262143 q0 rfl .plain rfl (Ar [.string ⟨#[]⟩,vI 0,vN,vN,vN,.bool false] F1) (fun v8 t2 z2 Q2=>?_)
 obtain ⟨M4,g5⟩:=AG z2 (.one .hd (.one (.tl .hd) (.one (.tl .hd) (.one (.tl .hd) (.one (.tl .hd) (.one (.tl .hd) .done))))))
 have W6:=Tt P2 (Tt Q2 g5)
 exact c3 t2 _ _ ⟨rfl,rfl,rfl,rfl,rfl,rfl,rfl,trivial⟩ ⟨M4,W6⟩
 refine RO.new (m' :=193023) (sk q0) rfl .plain rfl (Ar [.string ⟨#[]⟩,vI 0,vN,vN,vN,.bool false] J1) (fun v8 t2 z2 Q2=>?_)
 refine RD.nu 9 193535 q0 rfl .plain rfl (Ba (α:=UInt8) (xs:=([u8ofI G0,u8ofI x0]:List UInt8)) (vs:=[.int .u8 ((u8ofI G0).toNat:Int),.int .u8 ((u8ofI x0).toNat:Int)]) (ds' :=[.int .u8 ((u8ofI G0).toNat:Int),.int .u8 ((u8ofI x0).toNat:Int)]) rfl z2 el22 rfl (e2 rfl rfl) (by kernel_rfl) rfl) (fun t8 b4 F1 P2=>?_)
 have W2:=AH (cs:=[.int .u8 ((u8ofI G0).toNat:Int),.int .u8 ((u8ofI x0).toNat:Int)]) (xs:=(([u8ofI G0,u8ofI x0]:List UInt8):List UInt8)) F1 L (Ax (cs:=[.int .u8 ((u8ofI G0).toNat:Int)]) (ds:=[.int .u8 ((u8ofI x0).toNat:Int)]) rfl (Ax (cs:=[.int .u8 ((u8ofI x0).toNat:Int)]) (ds:=[]) rfl (AT _ _)))
 refine AC 10 194559 329728 q0 rfl u0 (FV.bytesS (xs:=([u8ofI G0,u8ofI x0]:List UInt8)) Tryz.underlying22 Tryz.underlying9 Tryz.underlying5 rfl (Src.row (α:=UInt8) F1 .hd W2)) rfl<|Ag 11 196607 q0 rfl u0 (fun _=>FV.addS Y3 rfl rfl) rfl<|Ag 16 262143 q0 rfl u0 (fun _=>AM (vs:=[.string t0,vI s0]) (u:=.agg #[.string t0,vI s0,vN,vN,vN,.bool false]) (e2 rfl rfl) (fun w9=>by kernel_rfl)) rfl ?_
 obtain ⟨P4,j5⟩:=AG F1 (.one (.tl .hd) (.one (.tl .hd) (.one (.tl .hd) (.one (.tl .hd) (.one (.tl .hd) (.one (.tl .hd) .done))))))
 have X6:=Tt Q2 (Tt P2 j5)
 exact c3 t2 _ _ ⟨rfl,rfl,rfl,rfl,rfl,rfl,rfl,trivial⟩ ⟨P4,X6⟩
 refine Be rfl ?_
 have h:=H5 _ h
 try dsimp only at h
 refine Aj<|Ac<|Af rfl<|Aa<|Az ?_
 obtain ⟨A9,K6,G5⟩:=bind_in2 h
 refine Bm (α:=Nat × (List TUnit) × Value × (List Value)) (fun ⟨y1,M0,c0,R0⟩=>[(2,vP g0),(4,vP j0),(5,vP p0),(9,vI ((y1:Nat):Int))]) (fun ⟨y1,M0,c0,R0⟩ R1=>St w R1 [.row w.heap.size 58 (Rep.size TUnit) vN (([]:List TUnit).length) [],.row w.heap.size 58 (Rep.size TUnit) c0 M0.length R0,.cells p0 [vI (((a0.fj % (3:UInt8)).toNat:Nat):Int),vI (((a0.fh % (4:UInt8)).toNat:Nat):Int),vI (((a0.fl % (3:UInt8)).toNat:Nat):Int),c0] 38,.cells j0 [vI 0,vI 0,vI 0,vN] 38,.cells g0 [.int .u8 (a0.fj.toNat:Int),.int .u8 (a0.fh.toNat:Int),.int .u8 (a0.fl.toNat:Int),.int .u8 (a0.fq.toNat:Int),v0_4] 27]∧Tr P1 [.row w.heap.size 58 (Rep.size TUnit) vN (([]:List TUnit).length) [],.row w.heap.size 58 (Rep.size TUnit) d0 y0.length z0,.cells p0 [vI (((a0.fj % (3:UInt8)).toNat:Nat):Int),vI (((a0.fh % (4:UInt8)).toNat:Nat):Int),vI (((a0.fl % (3:UInt8)).toNat:Nat):Int),d0] 38,.cells j0 [vI 0,vI 0,vI 0,vN] 38,.cells g0 [.int .u8 (a0.fj.toNat:Int),.int .u8 (a0.fh.toNat:Int),.int .u8 (a0.fl.toNat:Int),.int .u8 (a0.fq.toNat:Int),v0_4] 27] R1 [.row w.heap.size 58 (Rep.size TUnit) vN (([]:List TUnit).length) [],.row w.heap.size 58 (Rep.size TUnit) c0 M0.length R0,.cells p0 [vI (((a0.fj % (3:UInt8)).toNat:Nat):Int),vI (((a0.fh % (4:UInt8)).toNat:Nat):Int),vI (((a0.fl % (3:UInt8)).toNat:Nat):Int),c0] 38,.cells j0 [vI 0,vI 0,vI 0,vN] 38,.cells g0 [.int .u8 (a0.fj.toNat:Int),.int .u8 (a0.fh.toNat:Int),.int .u8 (a0.fl.toNat:Int),.int .u8 (a0.fq.toNat:Int),v0_4] 27]∧Cells R1 (bl [.row w.heap.size 58 (Rep.size TUnit) vN (([]:List TUnit).length) [],.row w.heap.size 58 (Rep.size TUnit) c0 M0.length R0,.cells p0 [vI (((a0.fj % (3:UInt8)).toNat:Nat):Int),vI (((a0.fh % (4:UInt8)).toNat:Nat):Int),vI (((a0.fl % (3:UInt8)).toNat:Nat):Int),c0] 38,.cells j0 [vI 0,vI 0,vI 0,vN] 38,.cells g0 [.int .u8 (a0.fj.toNat:Int),.int .u8 (a0.fh.toNat:Int),.int .u8 (a0.fl.toNat:Int),.int .u8 (a0.fq.toNat:Int),v0_4] 27] ++ L) R0 M0) (fun ⟨y1,M0,c0,R0⟩=>(y1,M0)) (0,y0,d0,z0) K6 ⟨rfl,rfl,rfl,rfl,trivial⟩ ⟨J1,AQ _ _,D3⟩ ?_
 rintro K8 ⟨y1,M0,c0,R0⟩ R1 q4 ⟨Z0,Q4,C3⟩ h
 unfold wardmoteref22_Draft_Roll_l2 at h
 try dsimp only at h
 refine Aj<|Ac<|Ae rfl<|AZ 3 rfl<|Ab (AL rfl ((Z0.memA (.tl (.tl (.tl (.tl .hd))))) 3 _ rfl))<|Ab (FV.rem8 (a:=a0.fq) (b:=(2:UInt8)) rfl rfl (by decide)) ?_
 have v9:=(a0.fq % (2:UInt8)).toNat_lt
 refine Ab (FV.convN (i:=(a0.fq % (2:UInt8)).toNat) Tryz.underlying5 Tryz.underlying3 rfl (by omega))<|Ab (Br (i:=y1) (j:=(a0.fq % (2:UInt8)).toNat) rfl rfl)<|Aa<|AV rfl h (fun c4 h=>?_) (fun c4 h=>?_)
 refine Au<|Aj<|Az<|dt 13 tb31_16 (fun b0 A1=>?_)
 refine Ag 0 1 b0 rfl A1 (fun _=>AX 3 rfl) rfl<|AC 1 3 57344 b0 rfl A1 (AL rfl ((Z0.memA (.tl (.tl .hd))) 3 _ rfl)) rfl<|Ag 2 7 b0 rfl A1 (fun _=>AX 0 rfl) rfl<|AC 3 15 63504 b0 rfl A1 (AL rfl ((Z0.memA (.tl (.tl .hd))) 0 _ rfl)) rfl<|Ag 5 47 b0 rfl A1 (fun _=>AX 1 rfl) rfl<|AC 6 111 63616 b0 rfl A1 (AL rfl ((Z0.memA (.tl (.tl .hd))) 1 _ rfl)) rfl<|Ag 8 367 b0 rfl A1 (fun _=>AX 2 rfl) rfl<|AC 9 879 64512 b0 rfl A1 (AL rfl ((Z0.memA (.tl (.tl .hd))) 2 _ rfl)) rfl ?_
 obtain ⟨A0,t1,h⟩:=bi h
 obtain ⟨B0,u1,h⟩:=bi h
 obtain ⟨C0,v1,h⟩:=bi h
 refine RD.meet (α:=Value × (List Value) × Value × (List Value) × Value × (List Value)) (fun ⟨H0,B1,I0,C1,J0,D1⟩=>[(2,vP g0),(4,vP j0),(5,vP p0),(9,vI ((y1:Nat):Int)),(97,c0),(100,J0),(103,I0),(106,H0)]) (fun ⟨H0,B1,I0,C1,J0,D1⟩ M1=>St w M1 [.row w.heap.size 3 (Rep.size Int) H0 C0.length B1,.row w.heap.size 3 (Rep.size Int) I0 B0.length C1,.row w.heap.size 3 (Rep.size Int) J0 A0.length D1,.row w.heap.size 58 (Rep.size TUnit) vN (([]:List TUnit).length) [],.row w.heap.size 58 (Rep.size TUnit) c0 M0.length R0,.cells p0 [vI (((a0.fj % (3:UInt8)).toNat:Nat):Int),vI (((a0.fh % (4:UInt8)).toNat:Nat):Int),vI (((a0.fl % (3:UInt8)).toNat:Nat):Int),c0] 38,.cells j0 [vI 0,vI 0,vI 0,vN] 38,.cells g0 [.int .u8 (a0.fj.toNat:Int),.int .u8 (a0.fh.toNat:Int),.int .u8 (a0.fl.toNat:Int),.int .u8 (a0.fq.toNat:Int),v0_4] 27]∧Tr R1 [.row w.heap.size 58 (Rep.size TUnit) vN (([]:List TUnit).length) [],.row w.heap.size 58 (Rep.size TUnit) c0 M0.length R0,.cells p0 [vI (((a0.fj % (3:UInt8)).toNat:Nat):Int),vI (((a0.fh % (4:UInt8)).toNat:Nat):Int),vI (((a0.fl % (3:UInt8)).toNat:Nat):Int),c0] 38,.cells j0 [vI 0,vI 0,vI 0,vN] 38,.cells g0 [.int .u8 (a0.fj.toNat:Int),.int .u8 (a0.fh.toNat:Int),.int .u8 (a0.fl.toNat:Int),.int .u8 (a0.fq.toNat:Int),v0_4] 27] M1 [.row w.heap.size 3 (Rep.size Int) H0 C0.length B1,.row w.heap.size 3 (Rep.size Int) I0 B0.length C1,.row w.heap.size 3 (Rep.size Int) J0 A0.length D1,.row w.heap.size 58 (Rep.size TUnit) vN (([]:List TUnit).length) [],.row w.heap.size 58 (Rep.size TUnit) c0 M0.length R0,.cells p0 [vI (((a0.fj % (3:UInt8)).toNat:Nat):Int),vI (((a0.fh % (4:UInt8)).toNat:Nat):Int),vI (((a0.fl % (3:UInt8)).toNat:Nat):Int),c0] 38,.cells j0 [vI 0,vI 0,vI 0,vN] 38,.cells g0 [.int .u8 (a0.fj.toNat:Int),.int .u8 (a0.fh.toNat:Int),.int .u8 (a0.fl.toNat:Int),.int .u8 (a0.fq.toNat:Int),v0_4] 27]∧Cells M1 (bl [.row w.heap.size 3 (Rep.size Int) H0 C0.length B1,.row w.heap.size 3 (Rep.size Int) I0 B0.length C1,.row w.heap.size 3 (Rep.size Int) J0 A0.length D1,.row w.heap.size 58 (Rep.size TUnit) vN (([]:List TUnit).length) [],.row w.heap.size 58 (Rep.size TUnit) c0 M0.length R0,.cells p0 [vI (((a0.fj % (3:UInt8)).toNat:Nat):Int),vI (((a0.fh % (4:UInt8)).toNat:Nat):Int),vI (((a0.fl % (3:UInt8)).toNat:Nat):Int),c0] 38,.cells j0 [vI 0,vI 0,vI 0,vN] 38,.cells g0 [.int .u8 (a0.fj.toNat:Int),.int .u8 (a0.fh.toNat:Int),.int .u8 (a0.fl.toNat:Int),.int .u8 (a0.fq.toNat:Int),v0_4] 27] ++ L) B1 (C0:List Int)∧Cells M1 (bl [.row w.heap.size 3 (Rep.size Int) H0 C0.length B1,.row w.heap.size 3 (Rep.size Int) I0 B0.length C1,.row w.heap.size 3 (Rep.size Int) J0 A0.length D1,.row w.heap.size 58 (Rep.size TUnit) vN (([]:List TUnit).length) [],.row w.heap.size 58 (Rep.size TUnit) c0 M0.length R0,.cells p0 [vI (((a0.fj % (3:UInt8)).toNat:Nat):Int),vI (((a0.fh % (4:UInt8)).toNat:Nat):Int),vI (((a0.fl % (3:UInt8)).toNat:Nat):Int),c0] 38,.cells j0 [vI 0,vI 0,vI 0,vN] 38,.cells g0 [.int .u8 (a0.fj.toNat:Int),.int .u8 (a0.fh.toNat:Int),.int .u8 (a0.fl.toNat:Int),.int .u8 (a0.fq.toNat:Int),v0_4] 27] ++ L) C1 (B0:List Int)∧Cells M1 (bl [.row w.heap.size 3 (Rep.size Int) H0 C0.length B1,.row w.heap.size 3 (Rep.size Int) I0 B0.length C1,.row w.heap.size 3 (Rep.size Int) J0 A0.length D1,.row w.heap.size 58 (Rep.size TUnit) vN (([]:List TUnit).length) [],.row w.heap.size 58 (Rep.size TUnit) c0 M0.length R0,.cells p0 [vI (((a0.fj % (3:UInt8)).toNat:Nat):Int),vI (((a0.fh % (4:UInt8)).toNat:Nat):Int),vI (((a0.fl % (3:UInt8)).toNat:Nat):Int),c0] 38,.cells j0 [vI 0,vI 0,vI 0,vN] 38,.cells g0 [.int .u8 (a0.fj.toNat:Int),.int .u8 (a0.fh.toNat:Int),.int .u8 (a0.fl.toNat:Int),.int .u8 (a0.fq.toNat:Int),v0_4] 27] ++ L) D1 (A0:List Int)) 5 2047 ?_ ?_
 rintro ⟨H0,B1,I0,C1,J0,D1⟩ M1 ⟨I1,R4,q5,s5,t5⟩
 try dsimp only
 obtain ⟨B8,V8,D5⟩:=St.rowV (α:=Int) I1 (.tl (.tl .hd))
 obtain ⟨C8,W8,E5⟩:=St.rowV (α:=Int) I1 (.tl .hd)
 obtain ⟨D8,X8,F5⟩:=St.rowV (α:=Int) I1 .hd
 refine Ag 11 4095 b0 rfl A1 (fun _=>AM (vs:=[.string ⟨#[115,101,97]⟩,.bool true,J0,I0,H0]) (u:=.agg #[.string ⟨#[115,101,97]⟩,vI 0,J0,I0,H0,.bool true]) (e5 rfl rfl rfl rfl rfl) (fun w9=>by rw [D5,E5,F5]; try kernel_rfl)) rfl ?_
 have Y6:=Bn (α:=Int) I1 (.tl (.tl .hd)) t5 hL
 have U1:=Bw I1 (.tl (.tl .hd))
 have E2:=Bx I1 (.tl (.tl .hd))
 have U3:=By (α:=Int) (v:=J0) (xs:=A0) U1 L Y6
 have J5:=AR s5 E2
 have Z6:=Bn (α:=Int) U1 (.tl .hd) J5 hL
 have V1:=Bw U1 (.tl .hd)
 have F2:=Bx U1 (.tl .hd)
 have V3:=By (α:=Int) (v:=I0) (xs:=B0) V1 L Z6
 have K5:=AR q5 (Tt E2 F2)
 have b7:=Bn (α:=Int) V1 .hd K5 hL
 have d3:=Bw V1 .hd
 have Y1:=Bx V1 .hd
 have W3:=By (α:=Int) (v:=H0) (xs:=C0) d3 L b7
 have M5:=Aq U3 (Tt F2 Y1)
 have P5:=Aq V3 Y1
 obtain ⟨E8,Y8,E7,_⟩:=Rep.sl M5
 obtain ⟨F8,Z8,F7,_⟩:=Rep.sl P5
 obtain ⟨G8,b9,G7,_⟩:=Rep.sl W3
 refine RD.nu 12 8191 b0 rfl .plain rfl (Ba (α:=TUnit) (xs:=([(⟨⟨#[115,101,97]⟩,(0:Int),A0,B0,C0,true⟩:TUnit)]:List TUnit)) (vs:=[.agg #[.string ⟨#[115,101,97]⟩,vI 0,J0,I0,H0,.bool true]]) (ds' :=[.string ⟨#[115,101,97]⟩,vI 0,J0,I0,H0,.bool true]) rfl d3 el36 rfl (e1 rfl) (by rw [E7,F7,G7]; try kernel_rfl) rfl) (fun G9 Q8 u2 G2=>?_)
 have F3:=Tt F2 (Tt Y1 G2)
 have Q5:=Aq U3 F3
 have R5:=Aq V3 (Tt Y1 G2)
 have U5:=Aq W3 G2
 have u5:=AH (cs:=[.string ⟨#[115,101,97]⟩,vI 0,J0,I0,H0,.bool true]) (xs:=(([(⟨⟨#[115,101,97]⟩,(0:Int),A0,B0,C0,true⟩:TUnit)]:List TUnit):List TUnit)) u2 L (Ax (cs:=[.string ⟨#[115,101,97]⟩,vI 0,J0,I0,H0,.bool true]) (ds:=[]) (mk_TUnit ⟨#[115,101,97]⟩ (0:Int) A0 Q5 B0 R5 C0 U5 true) (AT _ _))
 obtain ⟨y8,K7,h⟩:=bi h
 have G3:=Tt R4 (Tt E2 F3)
 have V5:=AR C3 G3
 refine BC (i:=13) (rk b0) (RO.doesL (m' :=16383) (sk b0) rfl rfl .plain rfl (DoesL.app (α:=TUnit) (ys:=([(⟨⟨#[115,101,97]⟩,(0:Int),A0,B0,C0,true⟩:TUnit)]:List TUnit)) K7 u2 (fun _ _=>(.tl (.tl .hd))) el36 rfl rfl V5 (Src.row (α:=TUnit) u2 .hd u5)) (fun X2 H9 ⟨j4,v2,U4,v5⟩=>?_))
 refine BC (i:=14) (rk b0) (BK (m' :=32767) (sk b0) rfl .plain rfl (AX 3 rfl) ?_)
 refine Bq 15 65535 b0 rfl rfl .plain (Bo (j:=3) (old:=[vI (((a0.fj % (3:UInt8)).toNat:Nat):Int),vI (((a0.fh % (4:UInt8)).toNat:Nat):Int),vI (((a0.fl % (3:UInt8)).toNat:Nat):Int),c0]) (news:=[X2]) (new' :=[vI (((a0.fj % (3:UInt8)).toNat:Nat):Int),vI (((a0.fh % (4:UInt8)).toNat:Nat):Int),vI (((a0.fl % (3:UInt8)).toNat:Nat):Int),X2]) v2 (.tl (.tl (.tl .hd))) rfl rfl rfl (St.c1 (α:=TUnit) v2 (.tl (.tl .hd))) rfl rfl (o1 (St.o1 (α:=TUnit) v2 (.tl (.tl .hd)))) rfl) (fun I9 u4 s3=>?_)
 refine AE (dk b0)<|AB<|Ao<|Ae rfl<|Ab (Bl (i:=y1) (j:=1) rfl rfl (by omega))<|Af rfl<|Aa ?_
 obtain ⟨v4,t3⟩:=AG u4 (.one (.tl .hd) (.one (.tl .hd) (.one (.tl .hd) (.one (.tl .hd) (.one (.tl .hd) .done)))))
 have W5:=AR v5 (Tt s3 t3)
 have Q6:=Tt G3 (Tt U4 (Tt s3 t3))
 exact q4 (y1 + 1,y8,X2,j4) _ _ ⟨rfl,rfl,rfl,rfl,trivial⟩ ⟨v4,(Tt Q4 Q6),W5⟩ h
 intro H1
 refine BJ [4,7,10] (rk b0) ⟨?_,?_,?_,trivial⟩
 refine RO.new (m' :=895) (sk b0) rfl .plain rfl (Does.mk (α:=Int) t1 Z0 el32 rfl) (fun g2 d1 D0 X0=>?_)
 have p1:=AH (cs:=(List.replicate (((a0.fj % (3:UInt8)).toNat:Nat):Int).toNat [vI 0]).flatten) (xs:=A0) D0 L (Cells.mk t1 rfl)
 refine BJ [7,10] (rk b0) ⟨?_,?_,trivial⟩
 refine RO.new (m' :=1023) (sk b0) rfl .plain rfl (Does.mk (α:=Int) u1 D0 el32 rfl) (fun j2 g1 E0 U0=>?_)
 have q1:=AH (cs:=(List.replicate (((a0.fh % (4:UInt8)).toNat:Nat):Int).toNat [vI 0]).flatten) (xs:=B0) E0 L (Cells.mk u1 rfl)
 refine RD.nu 10 2047 b0 rfl .plain rfl (Does.mk (α:=Int) v1 E0 el32 rfl) (fun k2 j1 F0 V0=>?_)
 have s1:=AH (cs:=(List.replicate (((a0.fl % (3:UInt8)).toNat:Nat):Int).toNat [vI 0]).flatten) (xs:=C0) F0 L (Cells.mk v1 rfl)
 have X5:=AR q1 V0
 have Y5:=AR p1 (Tt U0 V0)
 have R6:=Tt X0 (Tt U0 V0)
 exact H1 ((.slice (some ⟨j1,0,none⟩) (((a0.fl % (3:UInt8)).toNat:Nat):Int).toNat (((a0.fl % (3:UInt8)).toNat:Nat):Int).toNat),(List.replicate (((a0.fl % (3:UInt8)).toNat:Nat):Int).toNat [vI 0]).flatten,(.slice (some ⟨g1,0,none⟩) (((a0.fh % (4:UInt8)).toNat:Nat):Int).toNat (((a0.fh % (4:UInt8)).toNat:Nat):Int).toNat),(List.replicate (((a0.fh % (4:UInt8)).toNat:Nat):Int).toNat [vI 0]).flatten,(.slice (some ⟨d1,0,none⟩) (((a0.fj % (3:UInt8)).toNat:Nat):Int).toNat (((a0.fj % (3:UInt8)).toNat:Nat):Int).toNat),(List.replicate (((a0.fj % (3:UInt8)).toNat:Nat):Int).toNat [vI 0]).flatten) _ _ ⟨rfl,rfl,rfl,rfl,rfl,rfl,rfl,rfl,trivial⟩ ⟨F0,R6,s1,X5,Y5⟩
 refine RO.new (m' :=1919) (sk b0) rfl .plain rfl (Does.mk (α:=Int) v1 D0 el32 rfl) (fun k2 j1 F0 V0=>?_)
 have s1:=AH (cs:=(List.replicate (((a0.fl % (3:UInt8)).toNat:Nat):Int).toNat [vI 0]).flatten) (xs:=C0) F0 L (Cells.mk v1 rfl)
 refine RD.nu 7 2047 b0 rfl .plain rfl (Does.mk (α:=Int) u1 F0 el32 rfl) (fun j2 g1 E0 U0=>?_)
 have q1:=AH (cs:=(List.replicate (((a0.fh % (4:UInt8)).toNat:Nat):Int).toNat [vI 0]).flatten) (xs:=B0) E0 L (Cells.mk u1 rfl)
 obtain ⟨x4,H2⟩:=AG E0 (.one (.tl .hd) (.one .hd (.one .hd (.one .hd (.one .hd (.one .hd (.one .hd (.one .hd .done))))))))
 have Z5:=AR s1 (Tt U0 H2)
 have b6:=AR q1 H2
 have H3:=Tt V0 (Tt U0 H2)
 have c6:=AR p1 H3
 exact H1 ((.slice (some ⟨j1,0,none⟩) (((a0.fl % (3:UInt8)).toNat:Nat):Int).toNat (((a0.fl % (3:UInt8)).toNat:Nat):Int).toNat),(List.replicate (((a0.fl % (3:UInt8)).toNat:Nat):Int).toNat [vI 0]).flatten,(.slice (some ⟨g1,0,none⟩) (((a0.fh % (4:UInt8)).toNat:Nat):Int).toNat (((a0.fh % (4:UInt8)).toNat:Nat):Int).toNat),(List.replicate (((a0.fh % (4:UInt8)).toNat:Nat):Int).toNat [vI 0]).flatten,(.slice (some ⟨d1,0,none⟩) (((a0.fj % (3:UInt8)).toNat:Nat):Int).toNat (((a0.fj % (3:UInt8)).toNat:Nat):Int).toNat),(List.replicate (((a0.fj % (3:UInt8)).toNat:Nat):Int).toNat [vI 0]).flatten) _ _ ⟨rfl,rfl,rfl,rfl,rfl,rfl,rfl,rfl,trivial⟩ ⟨x4,(Tt X0 H3),Z5,b6,c6⟩
 refine RO.new (m' :=1007) (sk b0) rfl .plain rfl (Does.mk (α:=Int) u1 Z0 el32 rfl) (fun j2 g1 E0 U0=>?_)
 have q1:=AH (cs:=(List.replicate (((a0.fh % (4:UInt8)).toNat:Nat):Int).toNat [vI 0]).flatten) (xs:=B0) E0 L (Cells.mk u1 rfl)
 refine BJ [4,10] (rk b0) ⟨?_,?_,trivial⟩
 refine RO.new (m' :=1023) (sk b0) rfl .plain rfl (Does.mk (α:=Int) t1 E0 el32 rfl) (fun g2 d1 D0 X0=>?_)
 have p1:=AH (cs:=(List.replicate (((a0.fj % (3:UInt8)).toNat:Nat):Int).toNat [vI 0]).flatten) (xs:=A0) D0 L (Cells.mk t1 rfl)
 refine RD.nu 10 2047 b0 rfl .plain rfl (Does.mk (α:=Int) v1 D0 el32 rfl) (fun k2 j1 F0 V0=>?_)
 have s1:=AH (cs:=(List.replicate (((a0.fl % (3:UInt8)).toNat:Nat):Int).toNat [vI 0]).flatten) (xs:=C0) F0 L (Cells.mk v1 rfl)
 obtain ⟨y4,I2⟩:=AG F0 (.one .hd (.one (.tl .hd) (.one .hd (.one .hd (.one .hd (.one .hd (.one .hd (.one .hd .done))))))))
 have d6:=AR s1 I2
 have I3:=Tt X0 (Tt V0 I2)
 have g6:=AR q1 I3
 have j6:=AR p1 (Tt V0 I2)
 exact H1 ((.slice (some ⟨j1,0,none⟩) (((a0.fl % (3:UInt8)).toNat:Nat):Int).toNat (((a0.fl % (3:UInt8)).toNat:Nat):Int).toNat),(List.replicate (((a0.fl % (3:UInt8)).toNat:Nat):Int).toNat [vI 0]).flatten,(.slice (some ⟨g1,0,none⟩) (((a0.fh % (4:UInt8)).toNat:Nat):Int).toNat (((a0.fh % (4:UInt8)).toNat:Nat):Int).toNat),(List.replicate (((a0.fh % (4:UInt8)).toNat:Nat):Int).toNat [vI 0]).flatten,(.slice (some ⟨d1,0,none⟩) (((a0.fj % (3:UInt8)).toNat:Nat):Int).toNat (((a0.fj % (3:UInt8)).toNat:Nat):Int).toNat),(List.replicate (((a0.fj % (3:UInt8)).toNat:Nat):Int).toNat [vI 0]).flatten) _ _ ⟨rfl,rfl,rfl,rfl,rfl,rfl,rfl,rfl,trivial⟩ ⟨y4,(Tt U0 I3),d6,g6,j6⟩
 refine RO.new (m' :=2031) (sk b0) rfl .plain rfl (Does.mk (α:=Int) v1 E0 el32 rfl) (fun k2 j1 F0 V0=>?_)
 have s1:=AH (cs:=(List.replicate (((a0.fl % (3:UInt8)).toNat:Nat):Int).toNat [vI 0]).flatten) (xs:=C0) F0 L (Cells.mk v1 rfl)
 refine RD.nu 4 2047 b0 rfl .plain rfl (Does.mk (α:=Int) t1 F0 el32 rfl) (fun g2 d1 D0 X0=>?_)
 have p1:=AH (cs:=(List.replicate (((a0.fj % (3:UInt8)).toNat:Nat):Int).toNat [vI 0]).flatten) (xs:=A0) D0 L (Cells.mk t1 rfl)
 obtain ⟨z4,J2⟩:=AG D0 (.one (.tl .hd) (.one (.tl .hd) (.one .hd (.one .hd (.one .hd (.one .hd (.one .hd (.one .hd .done))))))))
 have k6:=AR s1 (Tt X0 J2)
 have J3:=Tt V0 (Tt X0 J2)
 have p6:=AR q1 J3
 have q6:=AR p1 J2
 exact H1 ((.slice (some ⟨j1,0,none⟩) (((a0.fl % (3:UInt8)).toNat:Nat):Int).toNat (((a0.fl % (3:UInt8)).toNat:Nat):Int).toNat),(List.replicate (((a0.fl % (3:UInt8)).toNat:Nat):Int).toNat [vI 0]).flatten,(.slice (some ⟨g1,0,none⟩) (((a0.fh % (4:UInt8)).toNat:Nat):Int).toNat (((a0.fh % (4:UInt8)).toNat:Nat):Int).toNat),(List.replicate (((a0.fh % (4:UInt8)).toNat:Nat):Int).toNat [vI 0]).flatten,(.slice (some ⟨d1,0,none⟩) (((a0.fj % (3:UInt8)).toNat:Nat):Int).toNat (((a0.fj % (3:UInt8)).toNat:Nat):Int).toNat),(List.replicate (((a0.fj % (3:UInt8)).toNat:Nat):Int).toNat [vI 0]).flatten) _ _ ⟨rfl,rfl,rfl,rfl,rfl,rfl,rfl,rfl,trivial⟩ ⟨z4,(Tt U0 J3),k6,p6,q6⟩
 refine RO.new (m' :=1903) (sk b0) rfl .plain rfl (Does.mk (α:=Int) v1 Z0 el32 rfl) (fun k2 j1 F0 V0=>?_)
 have s1:=AH (cs:=(List.replicate (((a0.fl % (3:UInt8)).toNat:Nat):Int).toNat [vI 0]).flatten) (xs:=C0) F0 L (Cells.mk v1 rfl)
 refine BJ [4,7] (rk b0) ⟨?_,?_,trivial⟩
 refine RO.new (m' :=1919) (sk b0) rfl .plain rfl (Does.mk (α:=Int) t1 F0 el32 rfl) (fun g2 d1 D0 X0=>?_)
 have p1:=AH (cs:=(List.replicate (((a0.fj % (3:UInt8)).toNat:Nat):Int).toNat [vI 0]).flatten) (xs:=A0) D0 L (Cells.mk t1 rfl)
 refine RD.nu 7 2047 b0 rfl .plain rfl (Does.mk (α:=Int) u1 D0 el32 rfl) (fun j2 g1 E0 U0=>?_)
 have q1:=AH (cs:=(List.replicate (((a0.fh % (4:UInt8)).toNat:Nat):Int).toNat [vI 0]).flatten) (xs:=B0) E0 L (Cells.mk u1 rfl)
 obtain ⟨A4,K2⟩:=AG E0 (.one (.tl (.tl .hd)) (.one .hd (.one .hd (.one .hd (.one .hd (.one .hd (.one .hd (.one .hd .done))))))))
 have K3:=Tt X0 (Tt U0 K2)
 have s6:=AR s1 K3
 have t6:=AR q1 K2
 have u6:=AR p1 (Tt U0 K2)
 exact H1 ((.slice (some ⟨j1,0,none⟩) (((a0.fl % (3:UInt8)).toNat:Nat):Int).toNat (((a0.fl % (3:UInt8)).toNat:Nat):Int).toNat),(List.replicate (((a0.fl % (3:UInt8)).toNat:Nat):Int).toNat [vI 0]).flatten,(.slice (some ⟨g1,0,none⟩) (((a0.fh % (4:UInt8)).toNat:Nat):Int).toNat (((a0.fh % (4:UInt8)).toNat:Nat):Int).toNat),(List.replicate (((a0.fh % (4:UInt8)).toNat:Nat):Int).toNat [vI 0]).flatten,(.slice (some ⟨d1,0,none⟩) (((a0.fj % (3:UInt8)).toNat:Nat):Int).toNat (((a0.fj % (3:UInt8)).toNat:Nat):Int).toNat),(List.replicate (((a0.fj % (3:UInt8)).toNat:Nat):Int).toNat [vI 0]).flatten) _ _ ⟨rfl,rfl,rfl,rfl,rfl,rfl,rfl,rfl,trivial⟩ ⟨A4,(Tt V0 K3),s6,t6,u6⟩
 refine RO.new (m' :=2031) (sk b0) rfl .plain rfl (Does.mk (α:=Int) u1 F0 el32 rfl) (fun j2 g1 E0 U0=>?_)
 have q1:=AH (cs:=(List.replicate (((a0.fh % (4:UInt8)).toNat:Nat):Int).toNat [vI 0]).flatten) (xs:=B0) E0 L (Cells.mk u1 rfl)
 refine RD.nu 4 2047 b0 rfl .plain rfl (Does.mk (α:=Int) t1 E0 el32 rfl) (fun g2 d1 D0 X0=>?_)
 have p1:=AH (cs:=(List.replicate (((a0.fj % (3:UInt8)).toNat:Nat):Int).toNat [vI 0]).flatten) (xs:=A0) D0 L (Cells.mk t1 rfl)
 obtain ⟨B4,M2⟩:=AG D0 (.one (.tl (.tl .hd)) (.one (.tl .hd) (.one .hd (.one .hd (.one .hd (.one .hd (.one .hd (.one .hd .done))))))))
 have M3:=Tt U0 (Tt X0 M2)
 have v6:=AR s1 M3
 have x6:=AR q1 (Tt X0 M2)
 have y6:=AR p1 M2
 exact H1 ((.slice (some ⟨j1,0,none⟩) (((a0.fl % (3:UInt8)).toNat:Nat):Int).toNat (((a0.fl % (3:UInt8)).toNat:Nat):Int).toNat),(List.replicate (((a0.fl % (3:UInt8)).toNat:Nat):Int).toNat [vI 0]).flatten,(.slice (some ⟨g1,0,none⟩) (((a0.fh % (4:UInt8)).toNat:Nat):Int).toNat (((a0.fh % (4:UInt8)).toNat:Nat):Int).toNat),(List.replicate (((a0.fh % (4:UInt8)).toNat:Nat):Int).toNat [vI 0]).flatten,(.slice (some ⟨d1,0,none⟩) (((a0.fj % (3:UInt8)).toNat:Nat):Int).toNat (((a0.fj % (3:UInt8)).toNat:Nat):Int).toNat),(List.replicate (((a0.fj % (3:UInt8)).toNat:Nat):Int).toNat [vI 0]).flatten) _ _ ⟨rfl,rfl,rfl,rfl,rfl,rfl,rfl,rfl,trivial⟩ ⟨B4,(Tt V0 M3),v6,x6,y6⟩
 refine Be rfl ?_
 have h:=G5 _ h
 try dsimp only at h
 refine Ac<|Ab (AA rfl (Z0.memA (.tl (.tl .hd))))<|AJ [vI (((a0.fj % (3:UInt8)).toNat:Nat):Int),vI (((a0.fh % (4:UInt8)).toNat:Nat):Int),vI (((a0.fl % (3:UInt8)).toNat:Nat):Int),c0] Z0 (.tl (.tl (.tl .hd))) (o4 rfl rfl rfl (St.o1 (α:=TUnit) Z0 (.tl .hd))) (fun J9 x2 V4=>?_)
 refine Aa<|Al rfl ?_
 have z6:=AR C3 V4
 have c7:=Bn (α:=TUnit) x2 (.tl .hd) z6 hL
 have W1:=Bw x2 (.tl .hd)
 have j9:=Bx x2 (.tl .hd)
 have d7:=By (α:=TUnit) (v:=c0) (xs:=M0) W1 L c7
 refine Am hb0 Tryz.func31 rfl (.cons (.many (cs:=[vI (((a0.fj % (3:UInt8)).toNat:Nat):Int),vI (((a0.fh % (4:UInt8)).toNat:Nat):Int),vI (((a0.fl % (3:UInt8)).toNat:Nat):Int),c0]) (by kernel_rfl) rfl (W1.memA (.tl (.tl .hd)))) .nil) rfl ?_
 cases h
 exact ⟨W1.ag,fun w9 hw9=>⟨c0,rfl,W1.kd d7 hw9⟩⟩
theorem body31:bodyB Tryz.prog 31 = true:=by kernel_rfl
def wardmoteref22_Draft_Full_p (n:Nat) (a0:TDraft26) (a1:Int):Option TRoll:=
  (wardmoteref22_Draft_Roll_p n (⟨2,3,2,a0.fq,a0.fNums⟩:TDraft26) a1).bind fun b0=>some b0
theorem wardmoteref22_Draft_Full_c (n:Nat) (L:List Nat) (w:World) (hL:∀ b ∈ L,b < w.heap.size) (a0:TDraft26) {v0_4:Value} (h0_4:Rep.R w L [v0_4] a0.fNums) (a1:Int)  {r:TRoll} (h:wardmoteref22_Draft_Full_p n a0 a1 = some r) :
    Calls Tryz.prog 7 #[.agg #[.int .u8 (a0.fj.toNat:Int),.int .u8 (a0.fh.toNat:Int),.int .u8 (a0.fl.toNat:Int),.int .u8 (a0.fq.toNat:Int),v0_4],vI a1] w (Gives w fun w' u=>∃ v0_3:Value,u = .agg #[vI r.fj,vI r.fh,vI r.fl,v0_3]∧Rep.R w' L [v0_3] r.fu):=by
 unfold wardmoteref22_Draft_Full_p at h
 have hS0:=Ay w
 refine AD Tryz.func7 rfl rfl rfl (fun _ cs0 hb0=>?_)
 refine Ac<|Ai .plain rfl (Av hS0 rfl rfl) (fun I0 z0 k0 B0=>?_)
 refine Ai .plain rfl (Ar [vI 0,vI 0,vI 0,vN] k0) (fun J0 A0 p0 C0=>?_)
 refine Aa<|Ac<|AZ 0 rfl<|BH .plain (Bo (j:=0) (old:=[.int .u8 (a0.fj.toNat:Int),.int .u8 (a0.fh.toNat:Int),.int .u8 (a0.fl.toNat:Int),.int .u8 (a0.fq.toNat:Int),v0_4]) (news:=[.int .u8 2]) (new' :=[.int .u8 2,.int .u8 (a0.fh.toNat:Int),.int .u8 (a0.fl.toNat:Int),.int .u8 (a0.fq.toNat:Int),v0_4]) p0 (.tl .hd) rfl rfl rfl rfl rfl rfl (o1 rfl) rfl) (fun K0 q0 D0=>?_)
 refine AZ 1 rfl<|BH .plain (Bo (j:=1) (old:=[.int .u8 2,.int .u8 (a0.fh.toNat:Int),.int .u8 (a0.fl.toNat:Int),.int .u8 (a0.fq.toNat:Int),v0_4]) (news:=[.int .u8 3]) (new' :=[.int .u8 2,.int .u8 3,.int .u8 (a0.fl.toNat:Int),.int .u8 (a0.fq.toNat:Int),v0_4]) q0 (.tl .hd) rfl rfl rfl rfl rfl rfl (o1 rfl) rfl) (fun M0 s0 E0=>?_)
 refine AZ 2 rfl<|BH .plain (Bo (j:=2) (old:=[.int .u8 2,.int .u8 3,.int .u8 (a0.fl.toNat:Int),.int .u8 (a0.fq.toNat:Int),v0_4]) (news:=[.int .u8 2]) (new' :=[.int .u8 2,.int .u8 3,.int .u8 2,.int .u8 (a0.fq.toNat:Int),v0_4]) s0 (.tl .hd) rfl rfl rfl rfl rfl rfl (o1 rfl) rfl) (fun P0 c0 F0=>?_)
 refine Aa<|Ac<|Ab (AA rfl (c0.memA (.tl .hd)))<|Ae rfl ?_
 obtain ⟨b0,y0,h⟩:=bi h
 refine Bf (fst:=[]) (cap:=[]) .plain body31 rfl (e2 rfl rfl) (fun w9 hw9=>wardmoteref22_Draft_Roll_c n _ w9 (c0.hL hL hw9) (⟨2,3,2,a0.fq,a0.fNums⟩:TDraft26) (c0.km h0_4 hw9) a1 y0) rfl (fun Q0 H0 v0 ⟨g0,hu_,j0⟩=>?_)
 subst hu_
 obtain ⟨t0,G0⟩:=c0.agr v0
 refine AJ [vI b0.fj,vI b0.fh,vI b0.fl,g0] t0 .hd (o4 rfl rfl rfl (AN j0)) (fun R0 d0 u0=>?_)
 refine Aa<|Al rfl<|Am hb0 Tryz.func7 rfl (.cons (.many (cs:=[vI b0.fj,vI b0.fh,vI b0.fl,g0]) (by kernel_rfl) rfl (d0.memA .hd)) .nil) rfl ?_
 cases h
 have x0:=Aq j0 u0
 exact ⟨d0.ag,fun w9 hw9=>⟨g0,rfl,d0.kd x0 hw9⟩⟩
def wardmotelaw29_atMost_p (n:Nat) (a0:TShare) (a1:TShare):Option Bool:=
  (share_Cmp_p n a0 a1).bind fun b0=>(if b0.2 = 0 then some (decide (b0.1 ≤ 0)) else some false)
theorem wardmotelaw29_atMost_c (n:Nat) (L:List Nat) (w:World) (hL:∀ b ∈ L,b < w.heap.size) (a0:TShare) (a1:TShare)  {r:Bool} (h:wardmotelaw29_atMost_p n a0 a1 = some r) :
    Calls Tryz.prog 11 #[.agg ((cs_TShare a0)).toArray,.agg ((cs_TShare a1)).toArray] w (Gives w fun _ u=>u = .bool r):=by
 unfold wardmotelaw29_atMost_p at h
 have hS0:=Ay w
 refine AD Tryz.func11 rfl rfl rfl (fun _ cs0 hb0=>?_)
 refine Ac<|Ai .plain rfl (Av hS0 rfl rfl) (fun t0 k0 g0 q0=>?_)
 refine Ai .plain rfl (Av g0 rfl rfl) (fun u0 p0 b0 s0=>?_)
 refine Af rfl<|Aa<|Ac<|Ab (AA rfl (b0.memA (.tl .hd)))<|Ab (AA rfl (b0.memA .hd)) ?_
 obtain ⟨c0,j0,h⟩:=bi h
 refine Bg (.tuple #[vI c0.1,vI c0.2]) body41 rfl (e2 rfl rfl) (fun w9 hw9=>share_Cmp_c n _ w9 (b0.hL0 hL hw9) a0 a1 j0) rfl<|Ae rfl<|Ab (Ah rfl rfl)<|Ab (Ah rfl rfl)<|Af rfl<|Af rfl<|Aa<|Ac<|Ae rfl<|Ab (FV.eql (i:=c0.2) (j:=0) rfl rfl)<|Ae rfl<|RG.ifd (s:=15) rfl h (fun d0 h=>?_) (fun d0 h=>?_)
 refine AS (Ak rfl)<|AS (FV.leq (i:=c0.1) (j:=0) rfl rfl)<|BI rfl rfl<|Af rfl<|Aa<|Al rfl<|Bb hb0 Tryz.func11 rfl rfl ?_
 cases h
 exact b0.gv
 refine AI<|AI<|RG.pf rfl rfl<|Af rfl<|Aa<|Al rfl<|Bb hb0 Tryz.func11 rfl rfl ?_
 cases h
 exact b0.gv
structure Tcalc where
  fbad:Bool
  deriving DecidableEq
instance:Rep Tcalc:=Rep.via (β:=Bool) fun x=>x.fbad
def tb162_6:List (Nat × Nat × Nat):=[(0,8388608,1),(0,16777216,32),(3,33554432,25165824),(4,67108864,33554432),(0,134217728,2),(0,268435456,32),(48,536870912,402653184),(64,1073741824,536870912),(136,2147483648,1140850688)]
def tb162_7:List (Nat × Nat × Nat):=[(0,4294967296,1),(0,8589934592,32),(3,17179869184,12884901888),(4,34359738368,17179869184),(0,68719476736,2),(0,137438953472,32),(48,274877906944,206158430208),(64,549755813888,274877906944),(136,1099511627776,584115552256),(511,16,1099511627776)]
theorem body42:bodyB Tryz.prog 42 = true:=by kernel_rfl
def wardmoteref01_order_l1 (_n:Nat) (a0:List Int) (a1:List Int) (g0:Int → Option (Int ⊕ Unit)):Int → Option (Int ⊕ Unit)
  | b0=>(if 0 ≤ b0 then (idx a0 b0).bind fun c0=>(idx a1 b0).bind fun d0=>(if c0 = d0 then (chk (b0 - 1)).bind fun j0=>g0 j0 else (chk (c0 - d0)).bind fun k0=>some (.inl k0)) else some (.inr ()))
def wardmoteref01_order_p (n:Nat) (a0:List Int) (a1:List Int):Option Int:=
  (if a0.length = a1.length then thn (loopF (wardmoteref01_order_l1 n a0 a1) n (((a0.length:Nat):Int) - 1)) (fun _=>some (0:Int)) else some (((a0.length:Nat):Int) - ((a1.length:Nat):Int)))
theorem wardmoteref01_order_c (n:Nat) (L:List Nat) (w:World) (_hL:∀ b ∈ L,b < w.heap.size) (a0:List Int) {v0_0:Value} (h0_0:Rep.R w L [v0_0] a0) (a1:List Int) {v1_0:Value} (h1_0:Rep.R w L [v1_0] a1)  {r:Int} (h:wardmoteref01_order_p n a0 a1 = some r) :
    Calls Tryz.prog 162 #[v0_0,v1_0] w (Gives w fun _ u=>u = vI r):=by
 unfold wardmoteref01_order_p at h
 have hS0:=Ay w
 refine AD Tryz.func162 rfl rfl rfl (fun _ cs0 hb0=>?_)
 refine Ac<|Af rfl<|Aa<|Aj<|Ac<|Ae rfl ?_
 have hl1:a0.length ≤ 281474976710656:=AU h0_0
 refine Ab (Bd (xs:=a0) Tryz.underlying32 rfl h0_0)<|Ae rfl ?_
 have hl2:a1.length ≤ 281474976710656:=AU h1_0
 refine Ab (Bd (xs:=a1) Tryz.underlying32 rfl h1_0)<|Ab (FV.neqN (i:=a0.length) (j:=a1.length) rfl rfl)<|Aa<|MX.ifn rfl h (fun c3 h=>?_) (fun c3 h=>?_)
 refine Au<|Aj<|Ac<|Ae rfl<|Ab (Bd (xs:=a0) Tryz.underlying32 rfl h0_0)<|Ab (FV.subI (i:=((a0.length:Nat):Int)) (j:=1) rfl rfl (by omega))<|Af rfl<|Aa<|Az ?_
 obtain ⟨q1,Q0,v0⟩:=thn_in h
 refine Bm (α:=Int) (fun c0=>[(0,v0_0),(1,v1_0),(5,vI c0)]) (fun c0 p0=>St w p0 []∧Tr w [] p0 []) (fun c0=>c0) (((a0.length:Nat):Int) - 1) Q0 ⟨rfl,rfl,rfl,trivial⟩ ⟨hS0,AQ _ _⟩ ?_
 rintro j1 c0 p0 H0 ⟨k0,I0⟩ h
 unfold wardmoteref01_order_l1 at h
 try dsimp only at h
 refine Aj<|Ac<|Ae rfl<|Ab (FV.geq (i:=c0) (j:=0) rfl rfl)<|Aa<|AV rfl h (fun D0 h=>?_) (fun D0 h=>?_)
 refine Au<|Aj<|Az<|Aj<|dt 9 tb162_6 (fun g0 j0=>?_)
 refine Ag 0 1 g0 rfl j0 (fun _=>Ak rfl) rfl<|Ag 1 3 g0 rfl j0 (fun _=>Ak rfl) rfl ?_
 obtain ⟨q0,X0,h⟩:=bi h
 obtain ⟨x0,Y0⟩:=idx_in X0
 have M0:=AO h0_0 k0
 obtain ⟨d1,k1,t0,z0,F0,R0,B0⟩:=Bk M0 Y0
 have J0:F0 = [vI q0]:=R0; subst J0
 refine Ag 2 7 g0 rfl j0 (fun _=>Bp 1 (c0.toNat) rfl t0 rfl x0 z0) rfl<|AC 3 15 256 g0 rfl j0 (AL rfl (B0 0 _ rfl)) rfl<|Ag 4 31 g0 rfl j0 (fun _=>Ak rfl) rfl<|Ag 5 63 g0 rfl j0 (fun _=>Ak rfl) rfl ?_
 obtain ⟨s0,Z0,h⟩:=bi h
 obtain ⟨y0,b1⟩:=idx_in Z0
 have P0:=AO h1_0 k0
 obtain ⟨g1,p1,u0,A0,G0,U0,C0⟩:=Bk P0 b1
 have K0:G0 = [vI s0]:=U0; subst K0
 refine Ag 6 127 g0 rfl j0 (fun _=>Bp 1 (c0.toNat) rfl u0 rfl y0 A0) rfl<|AC 7 255 256 g0 rfl j0 (AL rfl (C0 0 _ rfl)) rfl<|Ag 8 511 g0 rfl j0 (fun _=>FV.neq (i:=q0) (j:=s0) rfl rfl) rfl<|AE (dk g0)<|MX.ifn rfl h (fun E0 h=>?_) (fun E0 h=>?_)
 refine Au<|AB<|Ao<|Ae rfl ?_
 obtain ⟨c1,V0,h⟩:=bi h
 refine Ab (FV.subc (i:=c0) (j:=1) rfl rfl V0)<|Af rfl<|Aa ?_
 exact H0 c1 _ _ ⟨rfl,rfl,rfl,trivial⟩ ⟨k0,I0⟩ h
 refine Aj<|dt 10 tb162_7 (fun b0 d0=>?_)
 refine Ag 0 1 b0 rfl d0 (fun _=>Ak rfl) rfl<|Ag 1 3 b0 rfl d0 (fun _=>Ak rfl) rfl<|Ag 2 7 b0 rfl d0 (fun _=>Bp 1 (c0.toNat) rfl t0 rfl x0 z0) rfl<|AC 3 15 768 b0 rfl d0 (AL rfl (B0 0 _ rfl)) rfl<|Ag 4 31 b0 rfl d0 (fun _=>Ak rfl) rfl<|Ag 5 63 b0 rfl d0 (fun _=>Ak rfl) rfl<|Ag 6 127 b0 rfl d0 (fun _=>Bp 1 (c0.toNat) rfl u0 rfl y0 A0) rfl<|AC 7 255 768 b0 rfl d0 (AL rfl (C0 0 _ rfl)) rfl ?_
 obtain ⟨s1,W0,h⟩:=bi h
 refine Ag 8 511 b0 rfl d0 (fun _=>FV.subc (i:=q0) (j:=s0) rfl rfl W0) rfl<|Ag 9 1023 b0 rfl d0 (fun _=>Bi rfl) rfl<|AE (dk b0) ?_
 have h:=thn_inl h v0
 refine Al rfl<|Bb hb0 Tryz.func162 rfl rfl ?_
 cases h
 exact k0.gv
 refine Be rfl ?_
 have h:=thn_inr h v0
 try dsimp only at h
 refine Ac<|Af rfl<|Aa<|Al rfl<|Bb hb0 Tryz.func162 rfl rfl ?_
 cases h
 exact k0.gv
 refine Ac<|Ae rfl<|Ab (Bd (xs:=a0) Tryz.underlying32 rfl h0_0)<|Ae rfl<|Ab (Bd (xs:=a1) Tryz.underlying32 rfl h1_0)<|Ab (FV.subI (i:=((a0.length:Nat):Int)) (j:=((a1.length:Nat):Int)) rfl rfl (by omega))<|Af rfl<|Aa<|Al rfl<|Bb hb0 Tryz.func162 rfl rfl ?_
 cases h
 exact hS0.gv
def wardmoteref01_cut_l1 (_n:Nat) (a0:List Int) (c0:Int → Option Int):Int → Option Int
  | b0=>(if 0 < b0 then (chk (b0 - 1)).bind fun d0=>(idx a0 d0).bind fun j0=>(if j0 = 0 then (chk (b0 - 1)).bind fun g0=>c0 g0 else some b0) else some b0)
def wardmoteref01_cut_p (n:Nat) (a0:List Int):Option (List Int):=
  jn (fun d0=>(cut a0 0 d0).bind fun c0=>some c0) (fun b0=>Option.bind (loopF (wardmoteref01_cut_l1 n a0) n ((a0.length:Nat):Int)) (b0))
theorem wardmoteref01_cut_c (n:Nat) (L:List Nat) (w:World) (_hL:∀ b ∈ L,b < w.heap.size) (a0:List Int) {v0_0:Value} (h0_0:Rep.R w L [v0_0] a0)  {r:List Int} (h:wardmoteref01_cut_p n a0 = some r) :
    Calls Tryz.prog 175 #[v0_0] w (Gives w fun w' u=>∃ v0_0:Value,u = v0_0∧Rep.R w' L [v0_0] r):=by
 unfold wardmoteref01_cut_p at h
 have hS0:=Ay w
 refine AD Tryz.func175 rfl rfl rfl (fun _ cs0 hb0=>?_)
 refine Ac<|Af rfl<|Aa<|Ac<|Ae rfl ?_
 have hl1:a0.length ≤ 281474976710656:=AU h0_0
 refine Ab (Bd (xs:=a0) Tryz.underlying32 rfl h0_0)<|Af rfl<|Aa<|Aj<|Az<|MX.joinx (α:=Int) (fun c0=>[(0,v0_0),(3,vI c0)]) (fun c0 k0=>St w k0 []∧Tr w [] k0 []) (fun c0=>c0) (id:=0) rfl h ?_ ?_
 rintro c0 k0 ⟨g0,b1⟩ h
 try dsimp only at h
 refine Ac<|Ae rfl<|Ae rfl ?_
 obtain ⟨d1,Q0,h⟩:=bi h
 have D0:=AO h0_0 g0
 refine RG.valE .plain rfl (FV.cutL (α:=Int) Q0 (by kernel_rfl) rfl D0 rfl ⟨_,rfl⟩) (fun V0 H0=>?_)
 refine Af rfl<|Aa<|Al rfl<|Bb hb0 Tryz.func175 rfl rfl ?_
 cases h
 exact ⟨g0.ag,fun w9 hw9=>⟨V0,rfl,g0.kd H0 hw9⟩⟩
 intro X0 q0 h
 try dsimp only at h
 obtain ⟨c1,G0,s0⟩:=bind_in2 h
 refine Bm (α:=Int) (fun b0=>[(0,v0_0),(3,vI b0)]) (fun b0 p0=>St w p0 []∧Tr w [] p0 []) (fun b0=>b0) ((a0.length:Nat):Int) G0 ⟨rfl,rfl,trivial⟩ ⟨hS0,AQ _ _⟩ ?_
 rintro Y0 b0 p0 y0 ⟨d0,j0⟩ h
 unfold wardmoteref01_cut_l1 at h
 try dsimp only at h
 refine Aj<|Ac<|Ae rfl<|Ab (FV.gtr (i:=b0) (j:=0) rfl rfl)<|Ae rfl<|RG.ifd (s:=8) rfl h (fun u0 h=>?_) (fun u0 h=>?_)
 refine AS (Ak rfl)<|AS (Ak rfl) ?_
 obtain ⟨R0,J0,h⟩:=bi h
 refine AS (FV.subc (i:=b0) (j:=1) rfl rfl J0) ?_
 obtain ⟨t0,M0,h⟩:=bi h
 obtain ⟨B0,P0⟩:=idx_in M0
 have F0:=AO h0_0 d0
 obtain ⟨W0,Z0,z0,C0,x0,I0,E0⟩:=Bk F0 P0
 have A0:x0 = [vI t0]:=I0; subst A0
 refine AS (Bp 1 (R0.toNat) rfl z0 rfl B0 C0)<|AS (AL rfl (E0 0 _ rfl))<|AS (FV.eql (i:=t0) (j:=0) rfl rfl)<|BI rfl rfl<|Aa<|AV rfl h (fun v0 h=>?_) (fun v0 h=>?_)
 refine Au<|Az<|Ao<|Ae rfl ?_
 obtain ⟨U0,K0,h⟩:=bi h
 refine Ab (FV.subc (i:=b0) (j:=1) rfl rfl K0)<|Af rfl<|Aa<|AB ?_
 exact y0 U0 _ _ ⟨rfl,rfl,trivial⟩ ⟨d0,j0⟩ h
 refine Be rfl ?_
 have h:=s0 _ h
 try dsimp only at h
 exact q0 b0 _ _ ⟨rfl,rfl,trivial⟩ ⟨d0,j0⟩ h
 refine AI<|AI<|AI<|AI<|AI<|AI<|RG.pf rfl rfl<|Aa<|BB rfl<|Be rfl ?_
 have h:=s0 _ h
 try dsimp only at h
 exact q0 b0 _ _ ⟨rfl,rfl,trivial⟩ ⟨d0,j0⟩ h
theorem body175:bodyB Tryz.prog 175 = true:=by kernel_rfl
def wardmoteref01_less_l1 (_n:Nat) (a0:List Int) (a1:List Int) (p0:Nat × Nat × (List Int) → Option (List Int)):Nat × Nat × (List Int) → Option (List Int)
  | (q0,b0,k0)=>(if b0 < a0.length then (a0[b0]?).bind fun v0=>(chk (v0 - ((q0:Nat):Int))).bind fun j0=>jn (fun c0=>jn (fun (s0,z0)=>(app k0 ([z0]:List Int)).bind fun y0=>p0 (s0,b0 + 1,y0)) (fun g0=>(if c0 < 0 then (chk (c0 + 4294967296)).bind fun t0=>g0 (1,t0) else g0 (0,c0)))) (fun d0=>(if b0 < a1.length then (a1[b0]?).bind fun x0=>(chk (j0 - x0)).bind fun u0=>d0 u0 else d0 j0)) else some k0)
def wardmoteref01_less_p (n:Nat) (a0:List Int) (a1:List Int):Option (List Int):=
  Option.bind (loopF (wardmoteref01_less_l1 n a0 a1) n (0,0,([]:List Int))) (fun b0=>(wardmoteref01_cut_p n b0).bind fun c0=>some c0)
theorem wardmoteref01_less_c (n:Nat) (L:List Nat) (w:World) (hL:∀ b ∈ L,b < w.heap.size) (a0:List Int) {v0_0:Value} (h0_0:Rep.R w L [v0_0] a0) (a1:List Int) {v1_0:Value} (h1_0:Rep.R w L [v1_0] a1)  {r:List Int} (h:wardmoteref01_less_p n a0 a1 = some r) :
    Calls Tryz.prog 163 #[v0_0,v1_0] w (Gives w fun w' u=>∃ v0_0:Value,u = v0_0∧Rep.R w' L [v0_0] r):=by
 unfold wardmoteref01_less_p at h
 have hS0:=Ay w
 refine AD Tryz.func163 rfl rfl rfl (fun _ cs0 hb0=>?_)
 refine Ac<|Af rfl<|Aa<|Ac<|Af rfl<|Aa<|Ac<|Af rfl<|Aa<|Aj<|Ac<|Af rfl<|Aa<|Az ?_
 have D0:=hS0.nilRow 3 (Rep.size Int)
 have y2:=St.nilRowT hS0 3 (Rep.size Int)
 have q1:=AH (cs:=[]) (xs:=([]:List Int)) D0 L (AT _ _)
 obtain ⟨D2,H1,A1⟩:=bind_in2 h
 refine Bm (α:=Nat × Nat × (List Int) × Value × (List Value)) (fun ⟨q0,g0,c0,b0,d0⟩=>[(0,v0_0),(1,v1_0),(5,b0),(6,vI ((q0:Nat):Int)),(7,vI ((g0:Nat):Int))]) (fun ⟨q0,g0,c0,b0,d0⟩ t0=>St w t0 [.row w.heap.size 3 (Rep.size Int) b0 c0.length d0]∧Tr w [.row w.heap.size 3 (Rep.size Int) vN (([]:List Int).length) []] t0 [.row w.heap.size 3 (Rep.size Int) b0 c0.length d0]∧Cells t0 (bl [.row w.heap.size 3 (Rep.size Int) b0 c0.length d0] ++ L) d0 c0) (fun ⟨q0,g0,c0,b0,d0⟩=>(q0,g0,c0)) (0,0,([]:List Int),vN,[]) H1 ⟨rfl,rfl,rfl,rfl,rfl,trivial⟩ ⟨D0,AQ _ _,q1⟩ ?_
 rintro q2 ⟨q0,g0,c0,b0,d0⟩ t0 X0 ⟨p0,c1,H0⟩ h
 unfold wardmoteref01_less_l1 at h
 try dsimp only at h
 refine Aj<|Ac<|Ae rfl<|Ae rfl ?_
 have y0:=AO h0_0 p0
 have B2:a0.length ≤ 281474976710656:=AU y0
 refine Ab (Bd (xs:=a0) Tryz.underlying32 rfl y0)<|Ab (Br (i:=g0) (j:=a0.length) rfl rfl)<|Aa<|AV rfl h (fun P0 h=>?_) (fun P0 h=>?_)
 refine Au<|Aj<|Az<|Ac<|Ae rfl<|Ae rfl ?_
 obtain ⟨K0,W1,h⟩:=bi h
 obtain ⟨k2,v2,v1,B1,U0,J1,D1⟩:=Bk y0 W1
 have x1:U0 = [vI K0]:=J1; subst x1
 refine Ab (Bp 1 g0 rfl v1 rfl rfl B1)<|AY rfl (D1 0 _ rfl)<|Ae rfl ?_
 obtain ⟨J0,R1,h⟩:=bi h
 refine Ab (FV.subc (i:=K0) (j:=((q0:Nat):Int)) rfl rfl R1)<|Af rfl<|Aa<|Aj<|Ac<|Ae rfl<|Ae rfl ?_
 have z0:=AO h1_0 p0
 have C2:a1.length ≤ 281474976710656:=AU z0
 refine Ab (Bd (xs:=a1) Tryz.underlying32 rfl z0)<|Ab (Br (i:=g0) (j:=a1.length) rfl rfl)<|Aa<|MX.join (α:=Int) (fun k0=>[(0,v0_0),(1,v1_0),(5,b0),(6,vI ((q0:Nat):Int)),(7,vI ((g0:Nat):Int)),(8,vI k0)]) (fun k0 u0=>St w u0 [.row w.heap.size 3 (Rep.size Int) b0 c0.length d0]∧Tr t0 [.row w.heap.size 3 (Rep.size Int) b0 c0.length d0] u0 [.row w.heap.size 3 (Rep.size Int) b0 c0.length d0]) (fun k0=>k0) h ?_ ?_
 rintro k0 u0 ⟨E0,d1⟩ h
 try dsimp only at h
 refine Ac<|Af rfl<|Aa<|Aj<|Ac<|Ae rfl<|Ab (FV.lss (i:=k0) (j:=0) rfl rfl)<|Aa<|MX.join (α:=Nat × Int) (fun ⟨s0,j0⟩=>[(0,v0_0),(1,v1_0),(5,b0),(6,vI ((s0:Nat):Int)),(7,vI ((g0:Nat):Int)),(8,vI j0)]) (fun ⟨s0,j0⟩ A0=>St w A0 [.row w.heap.size 3 (Rep.size Int) b0 c0.length d0]∧Tr u0 [.row w.heap.size 3 (Rep.size Int) b0 c0.length d0] A0 [.row w.heap.size 3 (Rep.size Int) b0 c0.length d0]) (fun ⟨s0,j0⟩=>(s0,j0)) h ?_ ?_
 rintro ⟨s0,j0⟩ A0 ⟨Y0,g1⟩ h
 try dsimp only at h
 refine Ao<|Ae rfl<|Ae rfl<|Ai .plain rfl (Ba (α:=Int) (xs:=([j0]:List Int)) (vs:=[vI j0]) (ds' :=[vI j0]) rfl Y0 el32 rfl (e1 rfl) (by kernel_rfl) rfl) (fun F2 u2 v0 j1=>?_)
 have s1:=AH (cs:=[vI j0]) (xs:=(([j0]:List Int):List Int)) v0 L (Ax (cs:=[vI j0]) (ds:=[]) rfl (AT _ _))
 obtain ⟨j2,Y1,h⟩:=bi h
 have I0:=Tt d1 (Tt g1 j1)
 have E1:=AR H0 I0
 refine RG.doesL .plain rfl (DoesL.app (α:=Int) (ys:=([j0]:List Int)) Y1 v0 (fun _ _=>(.tl .hd)) el32 rfl rfl E1 (Src.row (α:=Int) v0 .hd s1)) (fun d2 G2 ⟨V0,Z0,k1,u1⟩=>?_)
 refine Af rfl<|Aa<|AB<|Ao<|Ae rfl<|Ab (Bl (i:=g0) (j:=1) rfl rfl (by omega))<|Af rfl<|Aa ?_
 obtain ⟨b1,G0⟩:=AG Z0 (.one (.tl .hd) .done)
 have F1:=AR u1 G0
 have I1:=Tt I0 (Tt k1 G0)
 exact X0 (s0,g0 + 1,j2,d2,V0) _ _ ⟨rfl,rfl,rfl,rfl,rfl,trivial⟩ ⟨b1,(Tt c1 I1),F1⟩ h
 intro t2 C0 h
 try dsimp only at h
 refine AV rfl h (fun Q0 h=>?_) (fun Q0 h=>?_)
 refine Ac<|Ae rfl ?_
 obtain ⟨b2,U1,h⟩:=bi h
 refine Ab (BD (i:=k0) (j:=4294967296) rfl rfl U1)<|Af rfl<|Aa<|Ao<|Af rfl<|Aa ?_
 exact C0 (1,b2) _ _ ⟨rfl,rfl,rfl,rfl,rfl,rfl,trivial⟩ ⟨E0,AQ _ _⟩ h
 refine Au ?_
 exact C0 (0,k0) _ _ ⟨rfl,rfl,rfl,rfl,rfl,rfl,trivial⟩ ⟨E0,AQ _ _⟩ h
 intro s2 B0 h
 try dsimp only at h
 refine AV rfl h (fun R0 h=>?_) (fun R0 h=>?_)
 refine Ao<|Ae rfl<|Ae rfl<|Ae rfl ?_
 obtain ⟨M0,X1,h⟩:=bi h
 obtain ⟨p2,x2,y1,C1,W0,K1,G1⟩:=Bk z0 X1
 have z1:W0 = [vI M0]:=K1; subst z1
 refine Ab (Bp 1 g0 rfl y1 rfl rfl C1)<|AY rfl (G1 0 _ rfl) ?_
 obtain ⟨c2,V1,h⟩:=bi h
 refine Ab (FV.subc (i:=J0) (j:=M0) rfl rfl V1)<|Af rfl<|Aa ?_
 exact B0 c2 _ _ ⟨rfl,rfl,rfl,rfl,rfl,rfl,trivial⟩ ⟨p0,AQ _ _⟩ h
 refine Au ?_
 exact B0 J0 _ _ ⟨rfl,rfl,rfl,rfl,rfl,rfl,trivial⟩ ⟨p0,AQ _ _⟩ h
 refine Be rfl ?_
 have h:=A1 _ h
 try dsimp only at h
 refine Ac<|Ae rfl ?_
 have M1:=Bn (α:=Int) p0 .hd H0 hL
 have x0:=Bw p0 .hd
 have z2:=Bx p0 .hd
 have P1:=By (α:=Int) (v:=b0) (xs:=c0) x0 L M1
 obtain ⟨I2,Z1,h⟩:=bi h
 refine Bf (fst:=[]) (cap:=[]) .plain body175 rfl (e1 rfl) (fun w9 hw9=>wardmoteref01_cut_c n _ w9 (x0.hL hL hw9) c0 (Ap P1 hw9) Z1) rfl (fun H2 g2 p1 ⟨E2,hu_,Q1⟩=>?_)
 subst hu_
 obtain ⟨F0,A2⟩:=x0.agr p1
 refine Af rfl<|Aa<|Al rfl<|Bb hb0 Tryz.func163 rfl rfl ?_
 cases h
 exact ⟨F0.ag,fun w9 hw9=>⟨g2,rfl,F0.kd Q1 hw9⟩⟩
structure TLong175 where
  fe:Bool
  fD:List Int
  deriving DecidableEq
instance:Rep TLong175:=Rep.via (β:=Bool × (List Int)) fun x=>(x.fe,x.fD)
def tb141_15:List (Nat × Nat × Nat):=[(0,35184372088832,512),(1,70368744177664,35184372088832),(0,140737488355328,512),(4,281474976710656,140737488355328),(8,562949953421312,281474976710912),(16,1125899906842624,562949953421312),(0,2251799813685248,64),(0,4503599627370496,512),(192,9007199254740992,6755399441055744),(256,18014398509481984,9007199254740992),(512,36028797018963968,18014398509481984),(0,72057594037927936,512),(2048,144115188075855872,72057594037927936),(4096,288230376151711744,144115188075855872),(9216,576460752303423488,324259173170675712),(16416,1152921504606846976,577586652210266112),(65535,2305843009213693952,70368744177920),(131071,0,3458764513820540928)]
theorem body162:bodyB Tryz.prog 162 = true:=by kernel_rfl
theorem body163:bodyB Tryz.prog 163 = true:=by kernel_rfl
def wardmoteref01_Out_l1 (_n:Nat) (x0:List Int) (y0:Nat × UInt64 × UInt64 × UInt64 × UInt64 × UInt64 × UInt64 × UInt64 × UInt64 → Option (UInt64 × UInt64 × UInt64 × UInt64 × UInt64 × UInt64 × UInt64 × UInt64)):Nat × UInt64 × UInt64 × UInt64 × UInt64 × UInt64 × UInt64 × UInt64 × UInt64 → Option (UInt64 × UInt64 × UInt64 × UInt64 × UInt64 × UInt64 × UInt64 × UInt64)
  | (b0,j0,k0,p0,q0,s0,t0,u0,v0)=>(if b0 < x0.length then (([j0,k0,p0,q0,s0,t0,u0,v0]:List UInt64)[b0 / 2]?).bind fun g0=>(x0[b0]?).bind fun d0=>(chk (32 * ((b0 % 2:Nat):Int))).bind fun z0=>(natOf z0).bind fun c0=>y0 (b0 + 1,setA (b0 / 2) 0 (g0 + (shlU (u64of d0) c0)) j0,setA (b0 / 2) 1 (g0 + (shlU (u64of d0) c0)) k0,setA (b0 / 2) 2 (g0 + (shlU (u64of d0) c0)) p0,setA (b0 / 2) 3 (g0 + (shlU (u64of d0) c0)) q0,setA (b0 / 2) 4 (g0 + (shlU (u64of d0) c0)) s0,setA (b0 / 2) 5 (g0 + (shlU (u64of d0) c0)) t0,setA (b0 / 2) 6 (g0 + (shlU (u64of d0) c0)) u0,setA (b0 / 2) 7 (g0 + (shlU (u64of d0) c0)) v0) else some (j0,k0,p0,q0,s0,t0,u0,v0))
def wardmoteref01_Out_l2 (_n:Nat) (x0:List Int) (y0:Nat × UInt64 × UInt64 × UInt64 × UInt64 × UInt64 × UInt64 × UInt64 × UInt64 → Option (UInt64 × UInt64 × UInt64 × UInt64 × UInt64 × UInt64 × UInt64 × UInt64)):Nat × UInt64 × UInt64 × UInt64 × UInt64 × UInt64 × UInt64 × UInt64 × UInt64 → Option (UInt64 × UInt64 × UInt64 × UInt64 × UInt64 × UInt64 × UInt64 × UInt64)
  | (b0,j0,k0,p0,q0,s0,t0,u0,v0)=>(if b0 < x0.length then (([j0,k0,p0,q0,s0,t0,u0,v0]:List UInt64)[b0 / 2]?).bind fun g0=>(x0[b0]?).bind fun d0=>(chk (32 * ((b0 % 2:Nat):Int))).bind fun z0=>(natOf z0).bind fun c0=>y0 (b0 + 1,setA (b0 / 2) 0 (g0 + (shlU (u64of d0) c0)) j0,setA (b0 / 2) 1 (g0 + (shlU (u64of d0) c0)) k0,setA (b0 / 2) 2 (g0 + (shlU (u64of d0) c0)) p0,setA (b0 / 2) 3 (g0 + (shlU (u64of d0) c0)) q0,setA (b0 / 2) 4 (g0 + (shlU (u64of d0) c0)) s0,setA (b0 / 2) 5 (g0 + (shlU (u64of d0) c0)) t0,setA (b0 / 2) 6 (g0 + (shlU (u64of d0) c0)) u0,setA (b0 / 2) 7 (g0 + (shlU (u64of d0) c0)) v0) else some (j0,k0,p0,q0,s0,t0,u0,v0))
def wardmoteref01_Out_p (n:Nat) (a0:TLong175):Option ((UInt64 × UInt64 × UInt64 × UInt64 × UInt64 × UInt64 × UInt64 × UInt64) × Int):=
  (mk 16 (0:Int)).bind fun c0=>(c0[15]?).bind fun P0=>(put c0 ((15:Nat):Int) (2147483648:Int)).bind fun I0=>(wardmoteref01_order_p n a0.fD I0).bind fun j0=>(if 0 < j0 then some (((0:UInt64),(0:UInt64),(0:UInt64),(0:UInt64),(0:UInt64),(0:UInt64),(0:UInt64),(0:UInt64)),(6:Int)) else (if j0 = 0 then (if a0.fe = true then (mk 17 (0:Int)).bind fun g0=>(g0[16]?).bind fun R0=>(put g0 ((16:Nat):Int) (1:Int)).bind fun J0=>(wardmoteref01_less_p n J0 a0.fD).bind fun M0=>Option.bind (loopF (wardmoteref01_Out_l1 n M0) n (0,(0:UInt64),(0:UInt64),(0:UInt64),(0:UInt64),(0:UInt64),(0:UInt64),(0:UInt64),(0:UInt64))) (fun (k0,p0,q0,s0,t0,u0,v0,x0)=>some ((k0,p0,q0,s0,t0,u0,v0,x0),(0:Int))) else some (((0:UInt64),(0:UInt64),(0:UInt64),(0:UInt64),(0:UInt64),(0:UInt64),(0:UInt64),(0:UInt64)),(6:Int))) else jn (fun G0=>Option.bind (loopF (wardmoteref01_Out_l2 n G0) n (0,(0:UInt64),(0:UInt64),(0:UInt64),(0:UInt64),(0:UInt64),(0:UInt64),(0:UInt64),(0:UInt64))) (fun (y0,z0,A0,B0,C0,D0,E0,F0)=>some ((y0,z0,A0,B0,C0,D0,E0,F0),(0:Int)))) (fun b0=>(if a0.fe = true then (mk 17 (0:Int)).bind fun d0=>(d0[16]?).bind fun Q0=>(put d0 ((16:Nat):Int) (1:Int)).bind fun H0=>(wardmoteref01_less_p n H0 a0.fD).bind fun K0=>b0 K0 else b0 a0.fD))))
theorem wardmoteref01_Out_c (n:Nat) (L:List Nat) (w:World) (hL:∀ b ∈ L,b < w.heap.size) (a0:TLong175) {v0_1:Value} (h0_1:Rep.R w L [v0_1] a0.fD)  {r:(UInt64 × UInt64 × UInt64 × UInt64 × UInt64 × UInt64 × UInt64 × UInt64) × Int} (h:wardmoteref01_Out_p n a0 = some r) :
    Calls Tryz.prog 141 #[.agg #[.bool a0.fe,v0_1]] w (Gives w fun _ u=>u = .tuple #[.agg ((cs_A50 r.1)).toArray,vI r.2]):=by
 unfold wardmoteref01_Out_p at h
 have hS0:=Ay w
 refine AD Tryz.func141 rfl rfl rfl (fun _ cs0 hb0=>?_)
 refine Ac<|Ai .plain rfl (Av hS0 rfl rfl) (fun A6 t2 M2 P5=>?_)
 refine Ai .plain rfl (Ar zP M2) (fun B6 U0 Q2 Q5=>?_)
 refine Af rfl<|Aa<|Ac ?_
 obtain ⟨U6,H4,h⟩:=bi h
 refine RG.doesH .plain rfl (Does.mkH (α:=Int) (L:=L) H4 Q2 el32 rfl (fun _ _=>rfl)) (fun X4 F6 ⟨H5,p1,V5,U1⟩=>?_)
 refine Af rfl<|Aa<|Ac<|Ae rfl ?_
 obtain ⟨k5,D4,h⟩:=bi h
 obtain ⟨p2,A5,v1,b2,E2,k4,q6⟩:=St.nth (α:=Int) p1 .hd U1 D4
 obtain ⟨u2,C5,Y1⟩:=St.nthOwn (α:=Int) p1 .hd b2
 obtain rfl:p2 = ⟨u2,0,none⟩:=by rw [Y1] at v1; cases v1; rfl
 have G3:E2 = [vI k5]:=k4; subst G3
 refine Ab (Bp 1 15 rfl v1 rfl rfl b2) ?_
 obtain ⟨j2,K4,h⟩:=bi h
 refine RG.acts' .plain (Acts.set (α:=Int) (i:=15) K4 p1 Y1 (fun _=>.hd) U1 rfl rfl rfl rfl rfl (by kernel_rfl)) (fun g5 ⟨H2,y0,Y5,z3⟩=>?_)
 refine Aa<|Ac<|AZ 1 rfl<|AY rfl ((y0.memA (.tl (.tl .hd))) 1 _ rfl)<|Ae rfl ?_
 obtain ⟨D1,R4,h⟩:=bi h
 refine Bg (vI D1) body162 rfl (e2 rfl rfl) (fun w9 hw9=>wardmoteref01_order_c n _ w9 (y0.hL0 hL hw9) a0.fD (y0.k0 h0_1 hw9) j2 (Ap (St.lend (α:=Int) (L:=L) y0 .hd z3 hL) hw9) R4) rfl<|Af rfl<|Aa<|Aj<|Ac<|Ae rfl<|Ab (FV.gtr (i:=D1) (j:=0) rfl rfl)<|Ae rfl<|RG.ifd (s:=19) rfl h (fun B2 h=>?_) (fun B2 h=>?_)
 refine AI<|AI<|AI<|RG.un<|RG.un<|RG.un<|AI<|BI rfl rfl<|Aa<|Bh rfl<|Ac<|Ab (AM (vs:=[]) (u:=.agg zQ) evs_nil (fun w9=>by kernel_rfl))<|AJ zP y0 (.tl .hd) (onesB rfl) (fun M6 M1 Z5=>?_)
 refine Af rfl<|Aa<|Al rfl<|Am hb0 Tryz.func141 rfl (.cons (.many (cs:=zP) (by kernel_rfl) rfl (M1.memA (.tl .hd))) (.cons (.tmp rfl) .nil)) rfl ?_
 cases h
 exact M1.gv
 refine AS (Ak rfl)<|AS (FV.eql (i:=D1) (j:=0) rfl rfl)<|AS (Ak rfl)<|RG.ifd (s:=22) rfl h (fun C2 h=>?_) (fun C2 h=>?_)
 refine RG.fg 0 rfl<|AS (AL rfl ((y0.memA (.tl (.tl .hd))) 0 _ rfl))<|AS (BG rfl)<|AS (BL rfl rfl)<|RG.pf rfl rfl<|Aa<|MX.ifnb rfl h (fun F1 h=>?_) (fun F1 h=>?_)
 refine Au<|Ac<|AZ 1 rfl<|AY rfl ((y0.memA (.tl (.tl .hd))) 1 _ rfl)<|Af rfl<|Aa<|Aj<|Ac<|AZ 0 rfl<|AY rfl ((y0.memA (.tl (.tl .hd))) 0 _ rfl)<|Aa<|MX.cond_kt rfl F1<|Ac ?_
 obtain ⟨W6,M4,h⟩:=bi h
 refine RG.doesH .plain rfl (Does.mkH (α:=Int) (L:=L) M4 y0 el32 rfl (fun _ _=>rfl)) (fun Z4 P6 ⟨K5,t1,b6,W1⟩=>?_)
 refine Af rfl<|Aa<|Ac<|Ae rfl ?_
 obtain ⟨q5,G4,h⟩:=bi h
 obtain ⟨s2,F5,y1,d2,I2,v4,u6⟩:=St.nth (α:=Int) t1 .hd W1 G4
 obtain ⟨x2,G5,Z1⟩:=St.nthOwn (α:=Int) t1 .hd d2
 obtain rfl:s2 = ⟨x2,0,none⟩:=by rw [Z1] at y1; cases y1; rfl
 have H3:I2 = [vI q5]:=v4; subst H3
 refine Ab (Bp 1 16 rfl y1 rfl rfl d2) ?_
 obtain ⟨k2,P4,h⟩:=bi h
 refine RG.acts' .plain (Acts.set (α:=Int) (i:=16) P4 t1 Z1 (fun _=>.hd) W1 rfl rfl rfl rfl rfl (by kernel_rfl)) (fun Q6 ⟨M5,u1,c6,A3⟩=>?_)
 refine Aa<|Ao<|Ae rfl<|Ae rfl ?_
 have x4:=Bn (α:=Int) u1 .hd A3 hL
 have j1:=Bw u1 .hd
 have d6:=Bx u1 .hd
 have y4:=By (α:=Int) (v:=Z4) (xs:=k2) j1 L x4
 obtain ⟨E1,U4,h⟩:=bi h
 refine Bf (fst:=[]) (cap:=[]) .plain body163 rfl (e2 rfl rfl) (fun w9 hw9=>wardmoteref01_less_c n _ w9 (j1.hL hL hw9) k2 (Ap y4 hw9) a0.fD (j1.km h0_1 hw9) U4) rfl (fun R6 c5 x3 ⟨z6,hu_,z4⟩=>?_)
 subst hu_
 obtain ⟨Z2,g6⟩:=j1.agr x3
 refine Af rfl<|Aa<|Ac<|Ai .plain rfl (Ar zP Z2) (fun j5 X0 b3 u3=>?_)
 refine Aa<|Aj<|Ac<|Af rfl<|Aa<|Az ?_
 obtain ⟨P2,c3⟩:=AG b3 (.one .hd (.one (.tl .hd) .done))
 obtain ⟨v6,Z3,I3⟩:=bind_in2 h
 refine Bm (α:=Nat × UInt64 × UInt64 × UInt64 × UInt64 × UInt64 × UInt64 × UInt64 × UInt64) (fun ⟨b0,z0,A0,B0,C0,D0,E0,F0,G0⟩=>[(2,vP U0),(6,c5),(8,vP X0),(9,vI ((b0:Nat):Int))]) (fun ⟨b0,z0,A0,B0,C0,D0,E0,F0,G0⟩ B1=>St w B1 [.cells X0 [vU z0,vU A0,vU B0,vU C0,vU D0,vU E0,vU F0,vU G0] 51,.cells U0 zP 51]∧Tr j5 [.cells X0 zP 51,.cells U0 zP 51] B1 [.cells X0 [vU z0,vU A0,vU B0,vU C0,vU D0,vU E0,vU F0,vU G0] 51,.cells U0 zP 51]) (fun ⟨b0,z0,A0,B0,C0,D0,E0,F0,G0⟩=>(b0,z0,A0,B0,C0,D0,E0,F0,G0)) (0,(0:UInt64),(0:UInt64),(0:UInt64),(0:UInt64),(0:UInt64),(0:UInt64),(0:UInt64),(0:UInt64)) Z3 ⟨rfl,rfl,rfl,rfl,trivial⟩ ⟨P2,AQ _ _⟩ ?_
 rintro v5 ⟨b0,z0,A0,B0,C0,D0,E0,F0,G0⟩ B1 J2 ⟨Z0,P1⟩ h
 unfold wardmoteref01_Out_l1 at h
 try dsimp only at h
 refine Aj<|Ac<|Ae rfl<|Ae rfl ?_
 have c4:=Tt u3 (Tt c3 P1)
 have z1:=Aq z4 c4
 have j6:E1.length ≤ 281474976710656:=AU z1
 refine Ab (Bd (xs:=E1) Tryz.underlying32 rfl z1)<|Ab (Br (i:=b0) (j:=E1.length) rfl rfl)<|Aa<|AV rfl h (fun y2 h=>?_) (fun y2 h=>?_)
 refine Au<|Aj<|Az<|dt 17 tb141_15 (fun j0 v0=>?_)
 refine Ag 0 1 j0 rfl v0 (fun _=>Ak rfl) rfl<|Ag 1 3 j0 rfl v0 (fun _=>FV.quoN (i:=b0) (j:=2) rfl rfl rfl (by omega)) rfl<|Ag 2 7 j0 rfl v0 (fun _=>Ak rfl) rfl<|Ag 3 15 j0 rfl v0 (fun _=>FV.quoN (i:=b0) (j:=2) rfl rfl rfl (by omega)) rfl ?_
 obtain ⟨t0,c1,h⟩:=bi h
 have R3:=mem_elem1 (p:=⟨X0,0,none⟩) (cs:=([z0,A0,B0,C0,D0,E0,F0,G0]:List UInt64).map (fun z9:UInt64=>(vU z9:Value)) ++ []) (i:=b0 / 2) (Z0.memA .hd) (arr_get (fun z9:UInt64=>(vU z9:Value)) c1)
 refine Ag 4 31 j0 rfl v0 (fun _=>AW (m:=1) (k:=b0 / 2) (len:=8) (by kernel_rfl) rfl rfl rfl (arr_lt c1 rfl)) rfl<|AC 5 63 229376 j0 rfl v0 (AL rfl (R3 0 _ rfl)) rfl<|Ag 6 127 j0 rfl v0 (fun _=>Ak rfl) rfl<|Ag 7 255 j0 rfl v0 (fun _=>Ak rfl) rfl ?_
 obtain ⟨d0,C4,h⟩:=bi h
 obtain ⟨t5,z5,B3,K3,D2,g4,U3⟩:=Bk z1 C4
 have C3:D2 = [vI d0]:=g4; subst C3
 refine Ag 8 511 j0 rfl v0 (fun _=>Bp 1 b0 rfl B3 rfl rfl K3) rfl<|AC 9 1023 246784 j0 rfl v0 (AL rfl (U3 0 _ rfl)) rfl<|Ag 10 2047 j0 rfl v0 (fun _=>FV.convU (i:=d0) Tryz.underlying3 Tryz.underlying49 rfl) rfl<|Ag 11 4095 j0 rfl v0 (fun _=>Ak rfl) rfl<|Ag 12 8191 j0 rfl v0 (fun _=>FV.remN (i:=b0) (j:=2) rfl rfl rfl) rfl ?_
 obtain ⟨V4,A4,h⟩:=bi h
 refine Ag 13 16383 j0 rfl v0 (fun _=>FV.mulc (i:=32) (j:=((b0 % 2:Nat):Int)) rfl rfl A4) rfl ?_
 obtain ⟨q0,M3,h⟩:=bi h
 refine Ag 14 32767 j0 rfl v0 (fun _=>FV.shlI (a:=u64of d0) (i:=V4) rfl rfl M3) rfl<|Ag 15 65535 j0 rfl v0 (fun _=>FV.addU (a:=t0) (b:=shlU (u64of d0) q0) rfl rfl) rfl ?_
 have p6:=mem_elem1 (p:=⟨X0,0,none⟩) (cs:=([z0,A0,B0,C0,D0,E0,F0,G0]:List UInt64).map (fun z9:UInt64=>(vU z9:Value)) ++ []) (i:=b0 / 2) (Z0.memA .hd) (arr_get (fun z9:UInt64=>(vU z9:Value)) c1)
 refine Ag 16 131071 j0 rfl v0 (fun _=>AW (m:=1) (k:=b0 / 2) (len:=8) (by kernel_rfl) rfl rfl rfl (arr_lt c1 rfl)) rfl<|Bq 17 262143 j0 rfl rfl .plain (Acts.storeArr (fun z9:UInt64=>(vU z9:Value)) (xs:=([z0,A0,B0,C0,D0,E0,F0,G0]:List UInt64)) (pre:=[]) (post:=[]) (i:=b0 / 2) (m:=8) (x:=t0 + (shlU (u64of d0) q0)) (old:=[vU z0,vU A0,vU B0,vU C0,vU D0,vU E0,vU F0,vU G0]) (new' :=[vW ((setA (b0 / 2) 0 (t0 + (shlU (u64of d0) q0)) z0).toNat:Int),vW ((setA (b0 / 2) 1 (t0 + (shlU (u64of d0) q0)) A0).toNat:Int),vW ((setA (b0 / 2) 2 (t0 + (shlU (u64of d0) q0)) B0).toNat:Int),vW ((setA (b0 / 2) 3 (t0 + (shlU (u64of d0) q0)) C0).toNat:Int),vW ((setA (b0 / 2) 4 (t0 + (shlU (u64of d0) q0)) D0).toNat:Int),vW ((setA (b0 / 2) 5 (t0 + (shlU (u64of d0) q0)) E0).toNat:Int),vW ((setA (b0 / 2) 6 (t0 + (shlU (u64of d0) q0)) F0).toNat:Int),vW ((setA (b0 / 2) 7 (t0 + (shlU (u64of d0) q0)) G0).toNat:Int)]) rfl rfl (arr_lt c1 rfl) Z0 .hd rfl (addr_at _ _ _) rfl (by kernel_rfl) (fun _=>⟨rfl,rfl⟩) rfl rfl) (fun C6 R2 d3=>?_)
 refine AE (dk j0)<|AB<|Ao<|Ae rfl<|Ab (Bl (i:=b0) (j:=1) rfl rfl (by omega))<|Af rfl<|Aa ?_
 exact J2 (b0 + 1,setA (b0 / 2) 0 (t0 + (shlU (u64of d0) q0)) z0,setA (b0 / 2) 1 (t0 + (shlU (u64of d0) q0)) A0,setA (b0 / 2) 2 (t0 + (shlU (u64of d0) q0)) B0,setA (b0 / 2) 3 (t0 + (shlU (u64of d0) q0)) C0,setA (b0 / 2) 4 (t0 + (shlU (u64of d0) q0)) D0,setA (b0 / 2) 5 (t0 + (shlU (u64of d0) q0)) E0,setA (b0 / 2) 6 (t0 + (shlU (u64of d0) q0)) F0,setA (b0 / 2) 7 (t0 + (shlU (u64of d0) q0)) G0) _ _ ⟨rfl,rfl,rfl,rfl,trivial⟩ ⟨R2,(Tt P1 d3)⟩ h
 refine Be rfl ?_
 have h:=I3 _ h
 try dsimp only at h
 refine Ac<|Ab (AA rfl (Z0.memA .hd))<|AJ [vU z0,vU A0,vU B0,vU C0,vU D0,vU E0,vU F0,vU G0] Z0 (.tl .hd) (onesB rfl) (fun D6 H1 R5=>?_)
 refine Af rfl<|Aa<|Al rfl<|Am hb0 Tryz.func141 rfl (.cons (.many (cs:=[vU z0,vU A0,vU B0,vU C0,vU D0,vU E0,vU F0,vU G0]) (by kernel_rfl) rfl (H1.memA (.tl .hd))) (.cons (.tmp rfl) .nil)) rfl ?_
 cases h
 exact H1.gv
 refine Ac<|Ab (AM (vs:=[]) (u:=.agg zQ) evs_nil (fun w9=>by kernel_rfl))<|AJ zP y0 (.tl .hd) (onesB rfl) (fun E6 I1 U5=>?_)
 refine Af rfl<|Aa<|Al rfl<|Am hb0 Tryz.func141 rfl (.cons (.many (cs:=zP) (by kernel_rfl) rfl (I1.memA (.tl .hd))) (.cons (.tmp rfl) .nil)) rfl ?_
 cases h
 exact I1.gv
 refine AI<|AI<|AI<|AS (Bs rfl rfl)<|RG.pf rfl rfl<|Aa<|BB rfl<|Au<|Ac<|AZ 1 rfl<|AY rfl ((y0.memA (.tl (.tl .hd))) 1 _ rfl)<|Af rfl<|Aa<|Aj<|Ac<|AZ 0 rfl<|AY rfl ((y0.memA (.tl (.tl .hd))) 0 _ rfl)<|Aa<|MX.join (α:=(List Int) × Value) (fun ⟨V0,Y0⟩=>[(2,vP U0),(6,Y0)]) (fun ⟨V0,Y0⟩ k1=>St w k1 [.cells U0 zP 51]∧Tr g5 [.row w.heap.size 3 (Rep.size Int) X4 j2.length H2,.cells U0 zP 51,.cells t2 [.bool a0.fe,v0_1] 176] k1 [.cells U0 zP 51]∧Rep.R k1 (bl [.cells U0 zP 51] ++ L) [Y0] V0) (fun ⟨V0,Y0⟩=>V0) h ?_ ?_
 rintro ⟨V0,Y0⟩ k1 ⟨U2,W5,j4⟩ h
 try dsimp only at h
 refine Ac<|Ai .plain rfl (Ar zP U2) (fun d5 W0 V2 g3=>?_)
 refine Aa<|Aj<|Ac<|Af rfl<|Aa<|Az ?_
 obtain ⟨x6,b4,J3⟩:=bind_in2 h
 refine Bm (α:=Nat × UInt64 × UInt64 × UInt64 × UInt64 × UInt64 × UInt64 × UInt64 × UInt64) (fun ⟨c0,H0,I0,J0,K0,M0,P0,Q0,R0⟩=>[(2,vP U0),(6,Y0),(8,vP W0),(9,vI ((c0:Nat):Int))]) (fun ⟨c0,H0,I0,J0,K0,M0,P0,Q0,R0⟩ C1=>St w C1 [.cells W0 [vU H0,vU I0,vU J0,vU K0,vU M0,vU P0,vU Q0,vU R0] 51,.cells U0 zP 51]∧Tr d5 [.cells W0 zP 51,.cells U0 zP 51] C1 [.cells W0 [vU H0,vU I0,vU J0,vU K0,vU M0,vU P0,vU Q0,vU R0] 51,.cells U0 zP 51]) (fun ⟨c0,H0,I0,J0,K0,M0,P0,Q0,R0⟩=>(c0,H0,I0,J0,K0,M0,P0,Q0,R0)) (0,(0:UInt64),(0:UInt64),(0:UInt64),(0:UInt64),(0:UInt64),(0:UInt64),(0:UInt64),(0:UInt64)) b4 ⟨rfl,rfl,rfl,rfl,trivial⟩ ⟨V2,AQ _ _⟩ ?_
 rintro y5 ⟨c0,H0,I0,J0,K0,M0,P0,Q0,R0⟩ C1 K2 ⟨b1,Q1⟩ h
 unfold wardmoteref01_Out_l2 at h
 try dsimp only at h
 refine Aj<|Ac<|Ae rfl<|Ae rfl ?_
 have A1:=Aq j4 (Tt g3 Q1)
 have k6:V0.length ≤ 281474976710656:=AU A1
 refine Ab (Bd (xs:=V0) Tryz.underlying32 rfl A1)<|Ab (Br (i:=c0) (j:=V0.length) rfl rfl)<|Aa<|AV rfl h (fun z2 h=>?_) (fun z2 h=>?_)
 refine Au<|Aj<|Az<|dt 17 tb141_15 (fun p0 x0=>?_)
 refine Ag 0 1 p0 rfl x0 (fun _=>Ak rfl) rfl<|Ag 1 3 p0 rfl x0 (fun _=>FV.quoN (i:=c0) (j:=2) rfl rfl rfl (by omega)) rfl<|Ag 2 7 p0 rfl x0 (fun _=>Ak rfl) rfl<|Ag 3 15 p0 rfl x0 (fun _=>FV.quoN (i:=c0) (j:=2) rfl rfl rfl (by omega)) rfl ?_
 obtain ⟨u0,d1,h⟩:=bi h
 have V3:=mem_elem1 (p:=⟨W0,0,none⟩) (cs:=([H0,I0,J0,K0,M0,P0,Q0,R0]:List UInt64).map (fun z9:UInt64=>(vU z9:Value)) ++ []) (i:=c0 / 2) (b1.memA .hd) (arr_get (fun z9:UInt64=>(vU z9:Value)) d1)
 refine Ag 4 31 p0 rfl x0 (fun _=>AW (m:=1) (k:=c0 / 2) (len:=8) (by kernel_rfl) rfl rfl rfl (arr_lt d1 rfl)) rfl<|AC 5 63 229376 p0 rfl x0 (AL rfl (V3 0 _ rfl)) rfl<|Ag 6 127 p0 rfl x0 (fun _=>Ak rfl) rfl<|Ag 7 255 p0 rfl x0 (fun _=>Ak rfl) rfl ?_
 obtain ⟨g0,E4,h⟩:=bi h
 obtain ⟨u5,B5,D3,P3,F2,p4,W3⟩:=Bk A1 E4
 have E3:F2 = [vI g0]:=p4; subst E3
 refine Ag 8 511 p0 rfl x0 (fun _=>Bp 1 c0 rfl D3 rfl rfl P3) rfl<|AC 9 1023 246784 p0 rfl x0 (AL rfl (W3 0 _ rfl)) rfl<|Ag 10 2047 p0 rfl x0 (fun _=>FV.convU (i:=g0) Tryz.underlying3 Tryz.underlying49 rfl) rfl<|Ag 11 4095 p0 rfl x0 (fun _=>Ak rfl) rfl<|Ag 12 8191 p0 rfl x0 (fun _=>FV.remN (i:=c0) (j:=2) rfl rfl rfl) rfl ?_
 obtain ⟨W4,B4,h⟩:=bi h
 refine Ag 13 16383 p0 rfl x0 (fun _=>FV.mulc (i:=32) (j:=((c0 % 2:Nat):Int)) rfl rfl B4) rfl ?_
 obtain ⟨s0,Q3,h⟩:=bi h
 refine Ag 14 32767 p0 rfl x0 (fun _=>FV.shlI (a:=u64of g0) (i:=W4) rfl rfl Q3) rfl<|Ag 15 65535 p0 rfl x0 (fun _=>FV.addU (a:=u0) (b:=shlU (u64of g0) s0) rfl rfl) rfl ?_
 have s6:=mem_elem1 (p:=⟨W0,0,none⟩) (cs:=([H0,I0,J0,K0,M0,P0,Q0,R0]:List UInt64).map (fun z9:UInt64=>(vU z9:Value)) ++ []) (i:=c0 / 2) (b1.memA .hd) (arr_get (fun z9:UInt64=>(vU z9:Value)) d1)
 refine Ag 16 131071 p0 rfl x0 (fun _=>AW (m:=1) (k:=c0 / 2) (len:=8) (by kernel_rfl) rfl rfl rfl (arr_lt d1 rfl)) rfl<|Bq 17 262143 p0 rfl rfl .plain (Acts.storeArr (fun z9:UInt64=>(vU z9:Value)) (xs:=([H0,I0,J0,K0,M0,P0,Q0,R0]:List UInt64)) (pre:=[]) (post:=[]) (i:=c0 / 2) (m:=8) (x:=u0 + (shlU (u64of g0) s0)) (old:=[vU H0,vU I0,vU J0,vU K0,vU M0,vU P0,vU Q0,vU R0]) (new' :=[vW ((setA (c0 / 2) 0 (u0 + (shlU (u64of g0) s0)) H0).toNat:Int),vW ((setA (c0 / 2) 1 (u0 + (shlU (u64of g0) s0)) I0).toNat:Int),vW ((setA (c0 / 2) 2 (u0 + (shlU (u64of g0) s0)) J0).toNat:Int),vW ((setA (c0 / 2) 3 (u0 + (shlU (u64of g0) s0)) K0).toNat:Int),vW ((setA (c0 / 2) 4 (u0 + (shlU (u64of g0) s0)) M0).toNat:Int),vW ((setA (c0 / 2) 5 (u0 + (shlU (u64of g0) s0)) P0).toNat:Int),vW ((setA (c0 / 2) 6 (u0 + (shlU (u64of g0) s0)) Q0).toNat:Int),vW ((setA (c0 / 2) 7 (u0 + (shlU (u64of g0) s0)) R0).toNat:Int)]) rfl rfl (arr_lt d1 rfl) b1 .hd rfl (addr_at _ _ _) rfl (by kernel_rfl) (fun _=>⟨rfl,rfl⟩) rfl rfl) (fun G6 W2 j3=>?_)
 refine AE (dk p0)<|AB<|Ao<|Ae rfl<|Ab (Bl (i:=c0) (j:=1) rfl rfl (by omega))<|Af rfl<|Aa ?_
 exact K2 (c0 + 1,setA (c0 / 2) 0 (u0 + (shlU (u64of g0) s0)) H0,setA (c0 / 2) 1 (u0 + (shlU (u64of g0) s0)) I0,setA (c0 / 2) 2 (u0 + (shlU (u64of g0) s0)) J0,setA (c0 / 2) 3 (u0 + (shlU (u64of g0) s0)) K0,setA (c0 / 2) 4 (u0 + (shlU (u64of g0) s0)) M0,setA (c0 / 2) 5 (u0 + (shlU (u64of g0) s0)) P0,setA (c0 / 2) 6 (u0 + (shlU (u64of g0) s0)) Q0,setA (c0 / 2) 7 (u0 + (shlU (u64of g0) s0)) R0) _ _ ⟨rfl,rfl,rfl,rfl,trivial⟩ ⟨W2,(Tt Q1 j3)⟩ h
 refine Be rfl ?_
 have h:=J3 _ h
 try dsimp only at h
 refine Ac<|Ab (AA rfl (b1.memA .hd))<|AJ [vU H0,vU I0,vU J0,vU K0,vU M0,vU P0,vU Q0,vU R0] b1 (.tl .hd) (onesB rfl) (fun H6 J1 X5=>?_)
 refine Af rfl<|Aa<|Al rfl<|Am hb0 Tryz.func141 rfl (.cons (.many (cs:=[vU H0,vU I0,vU J0,vU K0,vU M0,vU P0,vU Q0,vU R0]) (by kernel_rfl) rfl (J1.memA (.tl .hd))) (.cons (.tmp rfl) .nil)) rfl ?_
 cases h
 exact J1.gv
 intro x5 G1 h
 try dsimp only at h
 refine MX.ifb rfl h (fun A2 h=>?_) (fun A2 h=>?_)
 refine Ac ?_
 obtain ⟨V6,I4,h⟩:=bi h
 refine RG.doesH .plain rfl (Does.mkH (α:=Int) (L:=L) I4 y0 el32 rfl (fun _ _=>rfl)) (fun Y4 I6 ⟨I5,q1,k3,V1⟩=>?_)
 refine Af rfl<|Aa<|Ac<|Ae rfl ?_
 obtain ⟨p5,F4,h⟩:=bi h
 obtain ⟨q2,D5,x1,c2,G2,q4,t6⟩:=St.nth (α:=Int) q1 .hd V1 F4
 obtain ⟨v2,E5,X1⟩:=St.nthOwn (α:=Int) q1 .hd c2
 obtain rfl:q2 = ⟨v2,0,none⟩:=by rw [X1] at x1; cases x1; rfl
 have F3:G2 = [vI p5]:=q4; subst F3
 refine Ab (Bp 1 16 rfl x1 rfl rfl c2) ?_
 obtain ⟨g2,J4,h⟩:=bi h
 refine RG.acts' .plain (Acts.set (α:=Int) (i:=16) J4 q1 X1 (fun _=>.hd) V1 rfl rfl rfl rfl rfl (by kernel_rfl)) (fun J6 ⟨J5,s1,p3,y3⟩=>?_)
 refine Aa<|Ao<|Ae rfl<|Ae rfl ?_
 have s4:=Bn (α:=Int) s1 .hd y3 hL
 have g1:=Bw s1 .hd
 have q3:=Bx s1 .hd
 have t4:=By (α:=Int) (v:=Y4) (xs:=g2) g1 L s4
 obtain ⟨s5,Q4,h⟩:=bi h
 refine Bf (fst:=[]) (cap:=[]) .plain body163 rfl (e2 rfl rfl) (fun w9 hw9=>wardmoteref01_less_c n _ w9 (g1.hL hL hw9) g2 (Ap t4 hw9) a0.fD (g1.km h0_1 hw9) Q4) rfl (fun K6 b5 v3 ⟨y6,hu_,u4⟩=>?_)
 subst hu_
 obtain ⟨X2,s3⟩:=g1.agr v3
 refine Af rfl<|Aa ?_
 obtain ⟨Y2,R1⟩:=AG X2 (.one (.tl .hd) .done)
 have X3:=Aq u4 R1
 have d4:=Tt k3 (Tt p3 (Tt q3 (Tt s3 R1)))
 exact G1 (s5,b5) _ _ ⟨rfl,rfl,trivial⟩ ⟨Y2,d4,X3⟩ h
 refine Au ?_
 obtain ⟨K1,t3⟩:=AG y0 (.one (.tl .hd) .done)
 have Y3:=AO h0_1 K1
 exact G1 (a0.fD,v0_1) _ _ ⟨rfl,rfl,trivial⟩ ⟨K1,t3,Y3⟩ h
structure TRatio177 where
  fN:TLong175
  fD:TLong175
  deriving DecidableEq
instance:Rep TRatio177:=Rep.via (β:=TLong175 × TLong175) fun x=>(x.fN,x.fD)
theorem body141:bodyB Tryz.prog 141 = true:=by kernel_rfl
def wardmoteref02_Out_p (n:Nat) (a0:TRatio177):Option (TShare × Int):=
  (wardmoteref01_Out_p n a0.fN).bind fun b0=>(wardmoteref01_Out_p n a0.fD).bind fun c0=>(if b0.2 = 0 then (if c0.2 = 0 then some ((⟨b0.1,c0.1⟩:TShare),(0:Int)) else some ((⟨((0:UInt64),(0:UInt64),(0:UInt64),(0:UInt64),(0:UInt64),(0:UInt64),(0:UInt64),(0:UInt64)),((0:UInt64),(0:UInt64),(0:UInt64),(0:UInt64),(0:UInt64),(0:UInt64),(0:UInt64),(0:UInt64))⟩:TShare),(6:Int))) else some ((⟨((0:UInt64),(0:UInt64),(0:UInt64),(0:UInt64),(0:UInt64),(0:UInt64),(0:UInt64),(0:UInt64)),((0:UInt64),(0:UInt64),(0:UInt64),(0:UInt64),(0:UInt64),(0:UInt64),(0:UInt64),(0:UInt64))⟩:TShare),(6:Int)))
theorem wardmoteref02_Out_c (n:Nat) (L:List Nat) (w:World) (hL:∀ b ∈ L,b < w.heap.size) (a0:TRatio177) {v0_1:Value} (h0_1:Rep.R w L [v0_1] a0.fN.fD) {v0_3:Value} (h0_3:Rep.R w L [v0_3] a0.fD.fD)  {r:TShare × Int} (h:wardmoteref02_Out_p n a0 = some r) :
    Calls Tryz.prog 119 #[.agg #[.bool a0.fN.fe,v0_1,.bool a0.fD.fe,v0_3]] w (Gives w fun _ u=>u = .tuple #[.agg ((cs_TShare r.1)).toArray,vI r.2]):=by
 unfold wardmoteref02_Out_p at h
 have hS0:=Ay w
 refine AD Tryz.func119 rfl rfl rfl (fun _ cs0 hb0=>?_)
 refine Ac<|Ai .plain rfl (Av hS0 rfl rfl) (fun R0 B0 v0 F0=>?_)
 refine Ai .plain rfl (Ar zL v0) (fun U0 C0 g0 G0=>?_)
 refine Af rfl<|Aa<|Ac<|AZ 0 rfl<|Ab (Bc (cs:=[.bool a0.fN.fe,v0_1]) (by kernel_rfl) rfl (mem_part (g0.memA (.tl .hd)) 0 2)) ?_
 obtain ⟨b0,z0,h⟩:=bi h
 refine Bg (.tuple #[.agg ((cs_A50 b0.1)).toArray,vI b0.2]) body141 rfl (e1 rfl) (fun w9 hw9=>wardmoteref01_Out_c n _ w9 (g0.hL0 hL hw9) a0.fN (g0.k0 h0_1 hw9) z0) rfl<|Ae rfl<|Ab (Ah rfl rfl)<|Ab (Ah rfl rfl)<|Ai .plain rfl (Ar zP g0) (fun V0 D0 x0 H0=>?_)
 refine AJ (cs_A50 b0.1) x0 .hd (onesB rfl) (fun W0 j0 I0=>?_)
 refine Af rfl<|Aa<|Ac<|AZ 2 rfl<|Ab (Bc (cs:=[.bool a0.fD.fe,v0_3]) (by kernel_rfl) rfl (mem_part (j0.memA (.tl (.tl .hd))) 2 2)) ?_
 obtain ⟨c0,A0,h⟩:=bi h
 refine Bg (.tuple #[.agg ((cs_A50 c0.1)).toArray,vI c0.2]) body141 rfl (e1 rfl) (fun w9 hw9=>wardmoteref01_Out_c n _ w9 (j0.hL0 hL hw9) a0.fD (j0.k0 h0_3 hw9) A0) rfl<|Ae rfl<|Ab (Ah rfl rfl)<|Ab (Ah rfl rfl)<|Ai .plain rfl (Ar zP j0) (fun X0 E0 y0 J0=>?_)
 refine AJ (cs_A50 c0.1) y0 .hd (onesB rfl) (fun Y0 d0 K0=>?_)
 refine Af rfl<|Aa<|Aj<|Ac<|Ae rfl<|Ab (FV.neq (i:=b0.2) (j:=0) rfl rfl)<|Ae rfl<|RG.ifn (s:=22) rfl h (fun t0 h=>?_) (fun t0 h=>?_)
 refine AS (Ak rfl)<|AS (FV.neq (i:=c0.2) (j:=0) rfl rfl)<|RG.pf rfl rfl<|Aa<|MX.ifn rfl h (fun u0 h=>?_) (fun u0 h=>?_)
 refine Au<|Ac<|Ab (AA rfl (d0.memA (.tl .hd)))<|Ab (AA rfl (d0.memA .hd))<|Ab (AM (vs:=[.agg ((cs_A50 b0.1)).toArray,.agg ((cs_A50 c0.1)).toArray]) (u:=.agg ((cs_A50 b0.1 ++ cs_A50 c0.1)).toArray) (e2 rfl rfl) (fun w9=>by kernel_rfl))<|AJ (cs_A50 b0.1 ++ cs_A50 c0.1) d0 (.tl (.tl .hd)) (onesB rfl) (fun Z0 p0 M0=>?_)
 refine Af rfl<|Aa<|Al rfl<|Am hb0 Tryz.func119 rfl (.cons (.many (cs:=(cs_A50 b0.1 ++ cs_A50 c0.1)) (by kernel_rfl) rfl (p0.memA (.tl (.tl .hd)))) (.cons (.tmp rfl) .nil)) rfl ?_
 cases h
 exact p0.gv
 refine Ac<|Ab (AM (vs:=[]) (u:=.agg zM) evs_nil (fun w9=>by kernel_rfl))<|AJ zL d0 (.tl (.tl .hd)) (onesB rfl) (fun b1 q0 P0=>?_)
 refine Af rfl<|Aa<|Al rfl<|Am hb0 Tryz.func119 rfl (.cons (.many (cs:=zL) (by kernel_rfl) rfl (q0.memA (.tl (.tl .hd)))) (.cons (.tmp rfl) .nil)) rfl ?_
 cases h
 exact q0.gv
 refine AI<|AI<|BI rfl rfl<|Aa<|Bh rfl<|Ac<|Ab (AM (vs:=[]) (u:=.agg zM) evs_nil (fun w9=>by kernel_rfl))<|AJ zL d0 (.tl (.tl .hd)) (onesB rfl) (fun c1 s0 Q0=>?_)
 refine Af rfl<|Aa<|Al rfl<|Am hb0 Tryz.func119 rfl (.cons (.many (cs:=zL) (by kernel_rfl) rfl (s0.memA (.tl (.tl .hd)))) (.cons (.tmp rfl) .nil)) rfl ?_
 cases h
 exact s0.gv
def wardmoteref01_twice_l1 (_n:Nat) (a0:List Int) (j0:Int × Nat × (List Int) → Option ((List Int) × Int)):Int × Nat × (List Int) → Option ((List Int) × Int)
  | (g0,b0,d0)=>(if b0 < a0.length then (a0[b0]?).bind fun s0=>(chk (2 * s0)).bind fun k0=>(chk (k0 + g0)).bind fun c0=>(remI c0 4294967296).bind fun p0=>(app d0 ([p0]:List Int)).bind fun t0=>(quoI c0 4294967296).bind fun q0=>j0 (q0,b0 + 1,t0) else some (d0,g0))
def wardmoteref01_twice_p (n:Nat) (a0:List Int) (a1:Int):Option (List Int):=
  Option.bind (loopF (wardmoteref01_twice_l1 n a0) n (a1,0,([]:List Int))) (fun (c0,g0)=>(app c0 ([g0]:List Int)).bind fun b0=>(wardmoteref01_cut_p n b0).bind fun d0=>some d0)
theorem wardmoteref01_twice_c (n:Nat) (L:List Nat) (w:World) (hL:∀ b ∈ L,b < w.heap.size) (a0:List Int) {v0_0:Value} (h0_0:Rep.R w L [v0_0] a0) (a1:Int)  {r:List Int} (h:wardmoteref01_twice_p n a0 a1 = some r) :
    Calls Tryz.prog 183 #[v0_0,vI a1] w (Gives w fun w' u=>∃ v0_0:Value,u = v0_0∧Rep.R w' L [v0_0] r):=by
 unfold wardmoteref01_twice_p at h
 have hS0:=Ay w
 refine AD Tryz.func183 rfl rfl rfl (fun _ cs0 hb0=>?_)
 refine Ac<|Af rfl<|Aa<|Ac<|Af rfl<|Aa<|Aj<|Ac<|Af rfl<|Aa<|Az ?_
 have y0:=hS0.nilRow 3 (Rep.size Int)
 have Z1:=St.nilRowT hS0 3 (Rep.size Int)
 have W0:=AH (cs:=[]) (xs:=([]:List Int)) y0 L (AT _ _)
 obtain ⟨j2,s1,d1⟩:=bind_in2 h
 refine Bm (α:=Int × Nat × (List Int) × Value × (List Value)) (fun ⟨b0,c0,d0,k0,g0⟩=>[(0,v0_0),(1,vI b0),(5,k0),(6,vI ((c0:Nat):Int))]) (fun ⟨b0,c0,d0,k0,g0⟩ p0=>St w p0 [.row w.heap.size 3 (Rep.size Int) k0 d0.length g0]∧Tr w [.row w.heap.size 3 (Rep.size Int) vN (([]:List Int).length) []] p0 [.row w.heap.size 3 (Rep.size Int) k0 d0.length g0]∧Cells p0 (bl [.row w.heap.size 3 (Rep.size Int) k0 d0.length g0] ++ L) g0 d0) (fun ⟨b0,c0,d0,k0,g0⟩=>(b0,c0,d0)) (a1,0,([]:List Int),vN,[]) s1 ⟨rfl,rfl,rfl,rfl,trivial⟩ ⟨y0,AQ _ _,W0⟩ ?_
 rintro U1 ⟨b0,c0,d0,k0,g0⟩ p0 J0 ⟨v0,R0,C0⟩ h
 unfold wardmoteref01_twice_l1 at h
 try dsimp only at h
 refine Aj<|Ac<|Ae rfl<|Ae rfl ?_
 have x0:=AO h0_0 v0
 have g2:a0.length ≤ 281474976710656:=AU x0
 refine Ab (Bd (xs:=a0) Tryz.underlying32 rfl x0)<|Ab (Br (i:=c0) (j:=a0.length) rfl rfl)<|Aa<|AV rfl h (fun G0 h=>?_) (fun G0 h=>?_)
 refine Au<|Aj<|Az<|Ac<|Ae rfl<|Ae rfl ?_
 obtain ⟨E0,E1,h⟩:=bi h
 obtain ⟨R1,X1,b1,g1,H0,v1,j1⟩:=Bk x0 E1
 have c1:H0 = [vI E0]:=v1; subst c1
 refine Ab (Bp 1 c0 rfl b1 rfl rfl g1)<|AY rfl (j1 0 _ rfl) ?_
 obtain ⟨I1,A1,h⟩:=bi h
 refine Ab (FV.mulc (i:=2) (j:=E0) rfl rfl A1)<|Ae rfl ?_
 obtain ⟨D0,B1,h⟩:=bi h
 refine Ab (BD (i:=I1) (j:=b0) rfl rfl B1)<|Af rfl<|Aa<|Ac<|Ae rfl<|Ae rfl ?_
 obtain ⟨j0,C1,h⟩:=bi h
 refine Ab (FV.remc (i:=D0) (j:=4294967296) rfl rfl C1)<|Ai .plain rfl (Ba (α:=Int) (xs:=([j0]:List Int)) (vs:=[vI j0]) (ds' :=[vI j0]) rfl v0 el32 rfl (e1 rfl) (by kernel_rfl) rfl) (fun p2 V1 q0 A0=>?_)
 have V0:=AH (cs:=[vI j0]) (xs:=(([j0]:List Int):List Int)) q0 L (Ax (cs:=[vI j0]) (ds:=[]) rfl (AT _ _))
 obtain ⟨Q1,F1,h⟩:=bi h
 have k1:=AR C0 A0
 refine RG.doesL .plain rfl (DoesL.app (α:=Int) (ys:=([j0]:List Int)) F1 q0 (fun _ _=>(.tl .hd)) el32 rfl rfl k1 (Src.row (α:=Int) q0 .hd V0)) (fun K1 q2 ⟨I0,K0,P0,X0⟩=>?_)
 refine Af rfl<|Aa<|Ao<|Ae rfl ?_
 obtain ⟨J1,D1,h⟩:=bi h
 refine Ab (FV.quoc (i:=D0) (j:=4294967296) rfl rfl D1)<|Af rfl<|Aa<|AB<|Ao<|Ae rfl<|Ab (Bl (i:=c0) (j:=1) rfl rfl (by omega))<|Af rfl<|Aa ?_
 obtain ⟨M0,B0⟩:=AG K0 (.one (.tl .hd) .done)
 have p1:=AR X0 B0
 have u1:=Tt A0 (Tt P0 B0)
 exact J0 (J1,c0 + 1,Q1,K1,I0) _ _ ⟨rfl,rfl,rfl,rfl,trivial⟩ ⟨M0,(Tt R0 u1),p1⟩ h
 refine Be rfl ?_
 have h:=d1 _ h
 try dsimp only at h
 refine Ac<|Ae rfl<|Ae rfl<|Ai .plain rfl (Ba (α:=Int) (xs:=([b0]:List Int)) (vs:=[vI b0]) (ds' :=[vI b0]) rfl v0 el32 rfl (e1 rfl) (by kernel_rfl) rfl) (fun s2 W1 s0 Q0=>?_)
 have Y0:=AH (cs:=[vI b0]) (xs:=(([b0]:List Int):List Int)) s0 L (Ax (cs:=[vI b0]) (ds:=[]) rfl (AT _ _))
 obtain ⟨F0,G1,h⟩:=bi h
 have q1:=AR C0 Q0
 refine RG.doesL .plain rfl (DoesL.app (α:=Int) (ys:=([b0]:List Int)) G1 s0 (fun _ _=>(.tl .hd)) el32 rfl rfl q1 (Src.row (α:=Int) s0 .hd Y0)) (fun M1 t2 ⟨Y1,t0,b2,Z0⟩=>?_)
 have x1:=Bn (α:=Int) t0 (.tl .hd) Z0 hL
 have u0:=Bw t0 (.tl .hd)
 have c2:=Bx t0 (.tl .hd)
 have y1:=By (α:=Int) (v:=M1) (xs:=F0) u0 L x1
 obtain ⟨v2,H1,h⟩:=bi h
 refine Bf (fst:=[]) (cap:=[]) .plain body175 rfl (e1 rfl) (fun w9 hw9=>wardmoteref01_cut_c n _ w9 (u0.hL hL hw9) F0 (Ap y1 hw9) H1) rfl (fun u2 P1 U0 ⟨k2,hu_,z1⟩=>?_)
 subst hu_
 obtain ⟨z0,d2⟩:=u0.agr U0
 refine Af rfl<|Aa<|Al rfl<|Bb hb0 Tryz.func183 rfl rfl ?_
 cases h
 exact ⟨z0.ag,fun w9 hw9=>⟨P1,rfl,z0.kd z1 hw9⟩⟩
def tb176_15:List (Nat × Nat × Nat):=[(0,2305843009213693952,128),(0,4611686018427387904,512),(0,9223372036854775808,128),(0,18446744073709551616,512),(12,36893488147419103232,27670116110564327424),(16,73786976294838206464,36893488147419103232),(0,147573952589676412928,1024),(64,295147905179352825856,147573952589676412928),(160,590295810358705651712,368934881474191032320),(511,1180591620717411303424,6917529027641081856),(1023,0,1770887431076116955136)]
theorem body183:bodyB Tryz.prog 183 = true:=by kernel_rfl
def wardmoteref01_parts_l1 (n:Nat) (a0:List Int) (g0:Int) (a1:List Int) (p0:(List Int) × Int × (List Int) → Option ((List Int) × (List Int))):(List Int) × Int × (List Int) → Option ((List Int) × (List Int))
  | (k0,c0,b0)=>(if 0 ≤ c0 then (idx a0 g0).bind fun x0=>(natOf c0).bind fun q0=>(remI (shrS x0 q0) 2).bind fun t0=>(wardmoteref01_twice_p n k0 t0).bind fun d0=>(wardmoteref01_order_p n d0 a1).bind fun C0=>jn (fun (z0,A0)=>(chk (c0 - 1)).bind fun u0=>p0 (z0,u0,A0)) (fun j0=>(if 0 ≤ C0 then (wardmoteref01_less_p n d0 a1).bind fun D0=>(idx b0 g0).bind fun y0=>(natOf c0).bind fun s0=>(chk (y0 + (shlS 1 s0))).bind fun v0=>(put b0 ((g0.toNat:Nat):Int) v0).bind fun B0=>j0 (D0,B0) else j0 (d0,b0))) else some (k0,b0))
def wardmoteref01_parts_l2 (n:Nat) (a0:List Int) (a1:List Int) (g0:(List Int) × Int × (List Int) → Option ((List Int) × (List Int))):(List Int) × Int × (List Int) → Option ((List Int) × (List Int))
  | (c0,b0,d0)=>(if 0 ≤ b0 then Option.bind (loopF (wardmoteref01_parts_l1 n a0 b0 a1) n (c0,31,d0)) (fun (k0,p0)=>(chk (b0 - 1)).bind fun j0=>g0 (k0,j0,p0)) else some (d0,c0))
def wardmoteref01_parts_p (n:Nat) (a0:List Int) (a1:List Int):Option ((List Int) × (List Int)):=
  (if ((a0.length:Nat):Int) ≤ (((a1.length:Nat):Int) - 1) then (app ([]:List Int) a0).bind fun g0=>some (([]:List Int),g0) else (mk (((a0.length:Nat):Int) - (((a1.length:Nat):Int) - 1)) (0:Int)).bind fun b0=>(cut a0 (((a0.length:Nat):Int) - (((a1.length:Nat):Int) - 1)) (a0.length:Int)).bind fun j0=>(app ([]:List Int) j0).bind fun k0=>Option.bind (loopF (wardmoteref01_parts_l2 n a0 a1) n (k0,((b0.length:Nat):Int) - 1,b0)) (fun (d0,c0)=>(wardmoteref01_cut_p n d0).bind fun p0=>some (p0,c0)))
theorem wardmoteref01_parts_c (n:Nat) (L:List Nat) (w:World) (hL:∀ b ∈ L,b < w.heap.size) (a0:List Int) {v0_0:Value} (h0_0:Rep.R w L [v0_0] a0) (a1:List Int) {v1_0:Value} (h1_0:Rep.R w L [v1_0] a1)  {r:(List Int) × (List Int)} (h:wardmoteref01_parts_p n a0 a1 = some r) :
    Calls Tryz.prog 176 #[v0_0,v1_0] w (Gives w fun w' u=>∃ v0_0 v1_0:Value,u = .tuple #[v0_0,v1_0]∧Rep.R w' L [v0_0] r.1∧Rep.R w' L [v1_0] r.2):=by
 unfold wardmoteref01_parts_p at h
 have hS0:=Ay w
 refine AD Tryz.func176 rfl rfl rfl (fun _ cs0 hb0=>?_)
 refine Ac<|Af rfl<|Af rfl<|Aa<|Ac<|Ae rfl ?_
 have hl1:a1.length ≤ 281474976710656:=AU h1_0
 refine Ab (Bd (xs:=a1) Tryz.underlying32 rfl h1_0)<|Ab (FV.subI (i:=((a1.length:Nat):Int)) (j:=1) rfl rfl (by omega))<|Af rfl<|Aa<|Aj<|Ac<|Ae rfl ?_
 have hl2:a0.length ≤ 281474976710656:=AU h0_0
 refine Ab (Bd (xs:=a0) Tryz.underlying32 rfl h0_0)<|Ae rfl<|Ab (FV.leq (i:=((a0.length:Nat):Int)) (j:=((a1.length:Nat):Int) - 1) rfl rfl)<|Aa<|AV rfl h (fun c3 h=>?_) (fun c3 h=>?_)
 refine Ac<|Ai .plain rfl (Ba (α:=Int) (xs:=([]:List Int)) (vs:=[]) (ds' :=[]) rfl hS0 el32 rfl evs_nil (by kernel_rfl) rfl) (fun Z4 z4 R0 H4=>?_)
 have t2:=AH (cs:=[]) (xs:=(([]:List Int):List Int)) R0 L (AT _ _)
 refine Ae rfl ?_
 obtain ⟨k4,I3,h⟩:=bi h
 have X2:=AO h0_0 R0
 refine RG.doesL .plain rfl (DoesL.app (α:=Int) (ys:=a0) I3 R0 (fun _ _=>.hd) el32 rfl rfl t2 (Src.rep X2)) (fun D1 g5 ⟨F4,P0,I4,x2⟩=>?_)
 refine Af rfl<|Af rfl<|Aa<|Al rfl ?_
 have P4:=Rep.nilAt (α:=Int) P0 L
 have t3:=Bn (α:=Int) P0 .hd x2 hL
 have G0:=Bw P0 .hd
 have J4:=Bx P0 .hd
 have u3:=By (α:=Int) (v:=D1) (xs:=k4) G0 L t3
 refine Am hb0 Tryz.func176 rfl (.cons (.tmp rfl) (.cons (.tmp rfl) .nil)) rfl ?_
 cases h
 have v3:=Rep.nilAt (α:=Int) G0 L
 exact ⟨G0.ag,fun w9 hw9=>⟨vN,D1,rfl,G0.kd v3 hw9,G0.kd u3 hw9⟩⟩
 refine Au<|Ac<|Ae rfl<|Ab (Bd (xs:=a0) Tryz.underlying32 rfl h0_0)<|Ae rfl<|Ab (FV.subI (i:=((a0.length:Nat):Int)) (j:=((a1.length:Nat):Int) - 1) rfl rfl (by omega)) ?_
 obtain ⟨F0,C1,h⟩:=bi h
 refine Ai .plain rfl (Does.mk (α:=Int) C1 hS0 el32 rfl) (fun j5 b0 k1 K4=>?_)
 have y2:=AH (cs:=(List.replicate (((a0.length:Nat):Int) - (((a1.length:Nat):Int) - 1)).toNat [vI 0]).flatten) (xs:=F0) k1 L (Cells.mk C1 rfl)
 refine Af rfl<|Aa<|Ac<|Ai .plain rfl (Ba (α:=Int) (xs:=([]:List Int)) (vs:=[]) (ds' :=[]) rfl k1 el32 rfl evs_nil (by kernel_rfl) rfl) (fun k5 A4 X0 g2=>?_)
 have z2:=AH (cs:=[]) (xs:=(([]:List Int):List Int)) X0 L (AT _ _)
 refine Ae rfl<|Ae rfl ?_
 have z1:=AO h0_0 X0
 refine Ab (Bd (xs:=a0) Tryz.underlying32 rfl z1)<|Ae rfl<|Ab (FV.subI (i:=((a0.length:Nat):Int)) (j:=((a1.length:Nat):Int) - 1) rfl rfl (by omega)) ?_
 obtain ⟨q4,K3,h⟩:=bi h
 refine RG.valE .plain rfl (FV.cutL (α:=Int) K3 (by kernel_rfl) rfl z1 ⟨_,rfl⟩ rfl) (fun Y4 x3=>?_)
 obtain ⟨G1,M3,h⟩:=bi h
 refine RG.doesL .plain rfl (DoesL.app (α:=Int) (ys:=q4) M3 X0 (fun _ _=>.hd) el32 rfl rfl z2 (Src.rep x3)) (fun E1 j4 ⟨G4,H0,j2,A2⟩=>?_)
 refine Af rfl<|Aa<|Aj<|Ac<|Ae rfl ?_
 have M4:F0.length ≤ 4294967296:=St.rowLe (α:=Int) H0 (.tl .hd)
 obtain ⟨u4,E4,E2⟩:=St.rowV (α:=Int) H0 (.tl .hd)
 refine Ab (FV.lenV Tryz.underlying32 rfl E2)<|Ab (FV.subI (i:=((F0.length:Nat):Int)) (j:=1) rfl rfl (by omega))<|Af rfl<|Aa<|Az ?_
 have y3:=Bn (α:=Int) H0 .hd A2 hL
 have p1:=Bw H0 .hd
 have k2:=Bx H0 .hd
 have z3:=By (α:=Int) (v:=E1) (xs:=G1) p1 L y3
 have b3:=Tt g2 (Tt j2 k2)
 have M2:=AR y2 b3
 obtain ⟨Q4,Y2,F2⟩:=bind_in2 h
 refine Bm (α:=(List Int) × Int × (List Int) × Value × (List Value)) (fun ⟨D0,g0,d0,y0,q0⟩=>[(0,v0_0),(1,v1_0),(7,(.slice (some ⟨b0,0,none⟩) (((a0.length:Nat):Int) - (((a1.length:Nat):Int) - 1)).toNat (((a0.length:Nat):Int) - (((a1.length:Nat):Int) - 1)).toNat)),(8,y0),(9,vI g0)]) (fun ⟨D0,g0,d0,y0,q0⟩ C0=>St w C0 [.row w.heap.size 3 (Rep.size Int) (.slice (some ⟨b0,0,none⟩) (((a0.length:Nat):Int) - (((a1.length:Nat):Int) - 1)).toNat (((a0.length:Nat):Int) - (((a1.length:Nat):Int) - 1)).toNat) d0.length q0]∧Tr j4 [.row w.heap.size 3 (Rep.size Int) (.slice (some ⟨b0,0,none⟩) (((a0.length:Nat):Int) - (((a1.length:Nat):Int) - 1)).toNat (((a0.length:Nat):Int) - (((a1.length:Nat):Int) - 1)).toNat) F0.length ((List.replicate (((a0.length:Nat):Int) - (((a1.length:Nat):Int) - 1)).toNat [vI 0]).flatten)] C0 [.row w.heap.size 3 (Rep.size Int) (.slice (some ⟨b0,0,none⟩) (((a0.length:Nat):Int) - (((a1.length:Nat):Int) - 1)).toNat (((a0.length:Nat):Int) - (((a1.length:Nat):Int) - 1)).toNat) d0.length q0]∧Rep.R C0 (bl [.row w.heap.size 3 (Rep.size Int) (.slice (some ⟨b0,0,none⟩) (((a0.length:Nat):Int) - (((a1.length:Nat):Int) - 1)).toNat (((a0.length:Nat):Int) - (((a1.length:Nat):Int) - 1)).toNat) d0.length q0] ++ L) [y0] D0∧Cells C0 (bl [.row w.heap.size 3 (Rep.size Int) (.slice (some ⟨b0,0,none⟩) (((a0.length:Nat):Int) - (((a1.length:Nat):Int) - 1)).toNat (((a0.length:Nat):Int) - (((a1.length:Nat):Int) - 1)).toNat) d0.length q0] ++ L) q0 d0) (fun ⟨D0,g0,d0,y0,q0⟩=>(D0,g0,d0)) (G1,((F0.length:Nat):Int) - 1,F0,E1,(List.replicate (((a0.length:Nat):Int) - (((a1.length:Nat):Int) - 1)).toNat [vI 0]).flatten) Y2 ⟨rfl,rfl,rfl,rfl,rfl,trivial⟩ ⟨p1,AQ _ _,z3,M2⟩ ?_
 rintro v4 ⟨D0,g0,d0,y0,q0⟩ C0 V1 ⟨K0,Z1,A1,u1⟩ h
 unfold wardmoteref01_parts_l2 at h
 try dsimp only at h
 refine Aj<|Ac<|Ae rfl<|Ab (FV.geq (i:=g0) (j:=0) rfl rfl)<|Aa<|AV rfl h (fun K1 h=>?_) (fun K1 h=>?_)
 refine Au<|Aj<|Az<|Ac<|Af rfl<|Aa<|Az ?_
 obtain ⟨R4,Z2,G2⟩:=bind_in2 h
 refine Bm (α:=(List Int) × Int × (List Int) × Value × (List Value)) (fun ⟨z0,u0,j0,A0,p0⟩=>[(0,v0_0),(1,v1_0),(7,(.slice (some ⟨b0,0,none⟩) (((a0.length:Nat):Int) - (((a1.length:Nat):Int) - 1)).toNat (((a0.length:Nat):Int) - (((a1.length:Nat):Int) - 1)).toNat)),(8,A0),(9,vI g0),(10,vI u0)]) (fun ⟨z0,u0,j0,A0,p0⟩ I0=>St w I0 [.row w.heap.size 3 (Rep.size Int) (.slice (some ⟨b0,0,none⟩) (((a0.length:Nat):Int) - (((a1.length:Nat):Int) - 1)).toNat (((a0.length:Nat):Int) - (((a1.length:Nat):Int) - 1)).toNat) j0.length p0]∧Tr C0 [.row w.heap.size 3 (Rep.size Int) (.slice (some ⟨b0,0,none⟩) (((a0.length:Nat):Int) - (((a1.length:Nat):Int) - 1)).toNat (((a0.length:Nat):Int) - (((a1.length:Nat):Int) - 1)).toNat) d0.length q0] I0 [.row w.heap.size 3 (Rep.size Int) (.slice (some ⟨b0,0,none⟩) (((a0.length:Nat):Int) - (((a1.length:Nat):Int) - 1)).toNat (((a0.length:Nat):Int) - (((a1.length:Nat):Int) - 1)).toNat) j0.length p0]∧Rep.R I0 (bl [.row w.heap.size 3 (Rep.size Int) (.slice (some ⟨b0,0,none⟩) (((a0.length:Nat):Int) - (((a1.length:Nat):Int) - 1)).toNat (((a0.length:Nat):Int) - (((a1.length:Nat):Int) - 1)).toNat) j0.length p0] ++ L) [A0] z0∧Cells I0 (bl [.row w.heap.size 3 (Rep.size Int) (.slice (some ⟨b0,0,none⟩) (((a0.length:Nat):Int) - (((a1.length:Nat):Int) - 1)).toNat (((a0.length:Nat):Int) - (((a1.length:Nat):Int) - 1)).toNat) j0.length p0] ++ L) p0 j0) (fun ⟨z0,u0,j0,A0,p0⟩=>(z0,u0,j0)) (D0,31,d0,y0,q0) Z2 ⟨rfl,rfl,rfl,rfl,rfl,rfl,trivial⟩ ⟨K0,AQ _ _,A1,u1⟩ ?_
 rintro x4 ⟨z0,u0,j0,A0,p0⟩ I0 W1 ⟨M0,q1,B1,Z0⟩ h
 unfold wardmoteref01_parts_l1 at h
 try dsimp only at h
 refine Aj<|Ac<|Ae rfl<|Ab (FV.geq (i:=u0) (j:=0) rfl rfl)<|Aa<|AV rfl h (fun M1 h=>?_) (fun M1 h=>?_)
 refine Au<|Aj<|Az<|Ac<|Ae rfl<|Ae rfl<|Ae rfl ?_
 obtain ⟨d1,E3,h⟩:=bi h
 obtain ⟨H2,F3⟩:=idx_in E3
 have Q2:=AO h0_0 M0
 obtain ⟨t4,B4,B2,I2,Q1,d3,P2⟩:=Bk Q2 F3
 have C2:Q1 = [vI d1]:=d3; subst C2
 refine Ab (Bp 1 (g0.toNat) rfl B2 rfl H2 I2)<|AY rfl (P2 0 _ rfl)<|Ae rfl ?_
 obtain ⟨V3,J2,h⟩:=bi h
 refine Ab (FV.shrSI (i:=d1) (q:=u0) rfl rfl J2) ?_
 obtain ⟨X3,A3,h⟩:=bi h
 refine Ab (FV.remc (i:=shrS d1 V3) (j:=2) rfl rfl A3) ?_
 obtain ⟨g1,P3,h⟩:=bi h
 refine Bf (fst:=[]) (cap:=[]) .plain body183 rfl (e2 rfl rfl) (fun w9 hw9=>wardmoteref01_twice_c n _ w9 (M0.hL hL hw9) z0 (Ap B1 hw9) X3 P3) rfl (fun g4 b4 p2 ⟨V4,hu_,c1⟩=>?_)
 subst hu_
 obtain ⟨x0,Y0⟩:=M0.agr p2
 refine Af rfl<|Aa<|Ac<|Ae rfl<|Ae rfl ?_
 obtain ⟨H1,Q3,h⟩:=bi h
 refine Bg (vI H1) body162 rfl (e2 rfl rfl) (fun w9 hw9=>wardmoteref01_order_c n _ w9 (x0.hL0 hL hw9) g1 (x0.kd c1 hw9) a1 (x0.k0 h1_0 hw9) Q3) rfl<|Ab (FV.geq (i:=H1) (j:=0) rfl rfl)<|Aa<|MX.join (α:=(List Int) × (List Int) × Value × (List Value)) (fun ⟨E0,t0,B0,v0⟩=>[(0,v0_0),(1,v1_0),(7,(.slice (some ⟨b0,0,none⟩) (((a0.length:Nat):Int) - (((a1.length:Nat):Int) - 1)).toNat (((a0.length:Nat):Int) - (((a1.length:Nat):Int) - 1)).toNat)),(8,B0),(9,vI g0),(10,vI u0)]) (fun ⟨E0,t0,B0,v0⟩ J0=>St w J0 [.row w.heap.size 3 (Rep.size Int) (.slice (some ⟨b0,0,none⟩) (((a0.length:Nat):Int) - (((a1.length:Nat):Int) - 1)).toNat (((a0.length:Nat):Int) - (((a1.length:Nat):Int) - 1)).toNat) t0.length v0]∧Tr g4 [.row w.heap.size 3 (Rep.size Int) (.slice (some ⟨b0,0,none⟩) (((a0.length:Nat):Int) - (((a1.length:Nat):Int) - 1)).toNat (((a0.length:Nat):Int) - (((a1.length:Nat):Int) - 1)).toNat) j0.length p0] J0 [.row w.heap.size 3 (Rep.size Int) (.slice (some ⟨b0,0,none⟩) (((a0.length:Nat):Int) - (((a1.length:Nat):Int) - 1)).toNat (((a0.length:Nat):Int) - (((a1.length:Nat):Int) - 1)).toNat) t0.length v0]∧Rep.R J0 (bl [.row w.heap.size 3 (Rep.size Int) (.slice (some ⟨b0,0,none⟩) (((a0.length:Nat):Int) - (((a1.length:Nat):Int) - 1)).toNat (((a0.length:Nat):Int) - (((a1.length:Nat):Int) - 1)).toNat) t0.length v0] ++ L) [B0] E0∧Cells J0 (bl [.row w.heap.size 3 (Rep.size Int) (.slice (some ⟨b0,0,none⟩) (((a0.length:Nat):Int) - (((a1.length:Nat):Int) - 1)).toNat (((a0.length:Nat):Int) - (((a1.length:Nat):Int) - 1)).toNat) t0.length v0] ++ L) v0 t0) (fun ⟨E0,t0,B0,v0⟩=>(E0,t0)) h ?_ ?_
 rintro ⟨E0,t0,B0,v0⟩ J0 ⟨X1,b2,g3,u2⟩ h
 try dsimp only at h
 refine AB<|Ao<|Ae rfl ?_
 obtain ⟨Y3,B3,h⟩:=bi h
 refine Ab (FV.subc (i:=u0) (j:=1) rfl rfl B3)<|Af rfl<|Aa ?_
 exact W1 (E0,Y3,t0,B0,v0) _ _ ⟨rfl,rfl,rfl,rfl,rfl,rfl,trivial⟩ ⟨X1,(Tt q1 (Tt Y0 b2)),g3,u2⟩ h
 intro y4 j1 h
 try dsimp only at h
 refine AV rfl h (fun P1 h=>?_) (fun P1 h=>?_)
 refine Ac<|Ae rfl<|Ae rfl ?_
 obtain ⟨s4,R3,h⟩:=bi h
 refine Bf (fst:=[]) (cap:=[]) .plain body163 rfl (e2 rfl rfl) (fun w9 hw9=>wardmoteref01_less_c n _ w9 (x0.hL hL hw9) g1 (Ap c1 hw9) a1 (x0.km h1_0 hw9) R3) rfl (fun b5 c4 q2 ⟨W4,hu_,j3⟩=>?_)
 subst hu_
 obtain ⟨U0,s1⟩:=x0.agr q2
 refine Af rfl<|Aa<|dt 10 tb176_15 (fun c0 s0=>?_)
 refine Ag 0 1 c0 rfl s0 (fun _=>Ak rfl) rfl<|Ag 1 3 c0 rfl s0 (fun _=>Ak rfl) rfl<|Ag 2 7 c0 rfl s0 (fun _=>Ak rfl) rfl<|Ag 3 15 c0 rfl s0 (fun _=>Ak rfl) rfl ?_
 obtain ⟨F1,G3,h⟩:=bi h
 obtain ⟨x1,H3⟩:=idx_in G3
 have y1:=AR Z0 (Tt Y0 s1)
 obtain ⟨I1,C4,Q0,b1,R1,k3,R2⟩:=St.nth (α:=Int) U0 .hd y1 H3
 obtain ⟨J1,D4,v1⟩:=St.nthOwn (α:=Int) U0 .hd b1
 obtain rfl:I1 = ⟨J1,0,none⟩:=by rw [v1] at Q0; cases Q0; rfl
 have D2:R1 = [vI F1]:=k3; subst D2
 refine Ag 4 31 c0 rfl s0 (fun _=>Bp 1 (g0.toNat) rfl Q0 rfl x1 b1) rfl<|AC 5 63 1792 c0 rfl s0 (AL rfl (R2 0 _ rfl)) rfl<|Ag 6 127 c0 rfl s0 (fun _=>Ak rfl) rfl ?_
 obtain ⟨W3,K2,h⟩:=bi h
 refine Ag 7 255 c0 rfl s0 (fun _=>FV.shlSI (i:=1) (q:=u0) rfl rfl K2) rfl ?_
 obtain ⟨U4,C3,h⟩:=bi h
 refine Ag 8 511 c0 rfl s0 (fun _=>BD (i:=F1) (j:=shlS 1 W3) rfl rfl C3) rfl<|Ag 9 1023 c0 rfl s0 (fun _=>Bp 1 (g0.toNat) rfl Q0 rfl x1 b1) rfl ?_
 obtain ⟨p4,J3,h⟩:=bi h
 refine BC (i:=10) (rk c0) (RO.acts (m' :=2047) (sk c0) rfl rfl .plain (Acts.set (α:=Int) (i:=g0.toNat) J3 U0 v1 (fun _=>.hd) y1 rfl rfl rfl rfl rfl (by kernel_rfl)) (fun c5 ⟨U1,Y1,t1,v2⟩=>?_))
 refine AE (dk c0) ?_
 have U2:=Aq j3 t1
 exact j1 (s4,p4,c4,U1) _ _ ⟨rfl,rfl,rfl,rfl,rfl,rfl,trivial⟩ ⟨Y1,(Tt s1 t1),U2,v2⟩ h
 refine Au ?_
 have V2:=AR Z0 Y0
 exact j1 (g1,j0,b4,p0) _ _ ⟨rfl,rfl,rfl,rfl,rfl,rfl,trivial⟩ ⟨x0,AQ _ _,c1,V2⟩ h
 refine Be rfl ?_
 have h:=G2 _ h
 try dsimp only at h
 refine AB<|Ao<|Ae rfl ?_
 obtain ⟨Z3,D3,h⟩:=bi h
 refine Ab (FV.subc (i:=g0) (j:=1) rfl rfl D3)<|Af rfl<|Aa ?_
 exact V1 (z0,Z3,j0,A0,p0) _ _ ⟨rfl,rfl,rfl,rfl,rfl,trivial⟩ ⟨M0,(Tt Z1 q1),B1,Z0⟩ h
 refine Be rfl ?_
 have h:=F2 _ h
 try dsimp only at h
 refine Ac<|Ae rfl ?_
 have p3:=Bn (α:=Int) K0 .hd u1 hL
 have V0:=Bw K0 .hd
 have c2:=Bx K0 .hd
 have q3:=By (α:=Int) (v:=(.slice (some ⟨b0,0,none⟩) (((a0.length:Nat):Int) - (((a1.length:Nat):Int) - 1)).toNat (((a0.length:Nat):Int) - (((a1.length:Nat):Int) - 1)).toNat)) (xs:=d0) V0 L p3
 obtain ⟨p5,U3,h⟩:=bi h
 refine Bf (fst:=[]) (cap:=[]) .plain body175 rfl (e1 rfl) (fun w9 hw9=>wardmoteref01_cut_c n _ w9 (V0.hL hL hw9) d0 (Ap q3 hw9) U3) rfl (fun d5 d4 s2 ⟨X4,hu_,s3⟩=>?_)
 subst hu_
 obtain ⟨W0,d2⟩:=V0.agr s2
 refine Ae rfl<|Af rfl<|Af rfl<|Aa<|Al rfl<|Am hb0 Tryz.func176 rfl (.cons (.tmp rfl) (.cons (.tmp rfl) .nil)) rfl ?_
 cases h
 have W2:=Aq A1 (Tt c2 d2)
 exact ⟨W0.ag,fun w9 hw9=>⟨d4,y0,rfl,W0.kd s3 hw9,W0.kd W2 hw9⟩⟩
end Go.Proofs.YtichhhehkcfoaaaGreatDoor
